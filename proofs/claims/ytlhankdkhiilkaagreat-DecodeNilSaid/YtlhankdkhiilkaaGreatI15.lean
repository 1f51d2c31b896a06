/- Lemmas on the way: Ref15. -/
import Derived.Test.YtlhankdkhiilkaaGreatI14
set_option linter.unusedSimpArgs false
set_option linter.unusedVariables false
set_option linter.unusedSectionVars false
set_option linter.unnecessarySimpa false
namespace Go.Proofs.YtlhankdkhiilkaaGreat
open Go.RowKit
set_option maxRecDepth 1000000 in
set_option maxHeartbeats 1000000 in
theorem ofR (w : World) (n : Nat) (hn : n < 9223372036854775808) :
  Calls Tryz.prog 53 #[.int .i64 (n : Int)] w fun e w' => ∃ u, e = .returned u ∧ CanNew w.heap.size w' u (n : Rat) ∧ Below w.heap.size w w' := by
 have HQ : Hid ((n : Rat) = mkRat (sgn false n) 1) := Lib.hid (by simp only [sgn, Bool.false_eq_true, if_false, Rat.mkRat_one]; exact (Rat.intCast_natCast n).symm)
 rw [HQ.out]
 have hlt : decide ((n : Int) < 0) = false := decide_eq_false (by omega)
 go_enter Tryz.func53, Tryz.ntmps53
 go_wp2_with fail
 obtain ⟨W, hW, P0, PB, Phs⟩ := box1 w 27 [.bool false, .slice none 0 0, .slice none 0 0]
 rw [← hW]
 clear hW
 refine (sizeR W n hn).mono ?_
 rintro e wz ⟨hwz, rfl⟩
 cases hwz
 go_wp2_with fail
 refine (naturalR W n (by omega)).mono ?_
 rintro e w1 ⟨v1, rfl, t1, hb1⟩
 have T1 := Lib.hid t1
 have S1 : Hid (Below W.heap.size W w1) := Lib.hid hb1
 have hs1 : W.heap.size ≤ w1.heap.size := hb1.size
 clear t1 hb1
 go_wp2_with fail
 have M1 : Hid (Calls Tryz.prog 61 #[.bool false, v1, .slice none 0 0] w1 fun e w' => ∃ v', e = .returned v' ∧ CanNew w1.heap.size w' v' (mkRat (sgn false n) 1) ∧ Below w1.heap.size w1 w') := Lib.hid (by
  obtain ⟨l, dl, rfl⟩ := T1.out.digs
  exact make1R w1 false v1 _ l [] 64 dl (DigAt.nil_ _) (by omega) (by simp [val]) (by omega) (by omega))
 refine (M1.out).mono ?_
 rintro e w2 ⟨v2, rfl, t2, hb2⟩
 have T2 := Lib.hid t2
 have S2 : Hid (Below w1.heap.size w1 w2) := Lib.hid hb2
 have hs2 : w1.heap.size ≤ w2.heap.size := hb2.size
 obtain ⟨A, m, c, A', m', c', rfl, ta, tb, tc, td⟩ := t2.open_
 obtain ⟨r0, r1, r2, z0, z1, z2⟩ := (P0.out.below' (bcomp S1.out S2.out)).three
 have TA := Lib.hid ta
 have TB := Lib.hid tb
 have TC := Lib.hid tc
 have TD := Lib.hid td
 clear ta tb tc td
 clear t2 hb2
 go_wp2_with fail
 refine bodyPost_ret (v := .agg #[.bool (isNeg (mkRat (sgn false n) 1)), .slice A m c, .slice A' m' c']) (by simp [results, Tryz.results53, go_sem, r0, r1, r2]) rfl ⟨_, rfl, ?_, below_box3 (PB.out.trans (((bcomp S1.out S2.out)).mono (by omega))) (by omega) _ _ _⟩
 exact (CanNew.box3 TA.out TB.out TC.out TD.out (by omega) _ _ _).mono (by omega)

set_option maxRecDepth 1000000 in
set_option maxHeartbeats 1000000 in
theorem makeR (w : World) (n d : Nat) (hn : n < 9223372036854775808) (hd : d < 9223372036854775808) (d0 : 0 < d) :
  Calls Tryz.prog 29 #[.int .i64 (n : Int), .int .i64 (d : Int)] w fun e w' => ∃ u, e = .returned u ∧ CanNew w.heap.size w' u ((n : Rat) / (d : Rat)) ∧ Below w.heap.size w w' := by
 have HQ : Hid ((n : Rat) / (d : Rat) = mkRat (sgn false n) d) := Lib.hid (by simp only [sgn, Bool.false_eq_true, if_false, Rat.mkRat_eq_div]; rw [Rat.intCast_natCast n])
 rw [HQ.out]
 have hlt : decide ((n : Int) < 0) = false := decide_eq_false (by omega)
 have hlt' : decide ((d : Int) < 0) = false := decide_eq_false (by omega)
 go_enter Tryz.func29, Tryz.ntmps29
 go_wp2_with fail
 obtain ⟨W, hW, P0, PB, Phs⟩ := box1 w 27 [.bool false, .slice none 0 0, .slice none 0 0]
 rw [← hW]
 clear hW
 refine (sizeR W n hn).mono ?_
 rintro e wz ⟨hwz, rfl⟩
 cases hwz
 go_wp2_with fail
 refine (naturalR W n (by omega)).mono ?_
 rintro e w1 ⟨v1, rfl, t1, hb1⟩
 have T1 := Lib.hid t1
 have S1 : Hid (Below W.heap.size W w1) := Lib.hid hb1
 have hs1 : W.heap.size ≤ w1.heap.size := hb1.size
 clear t1 hb1
 go_wp2_with fail
 refine (sizeR w1 d hd).mono ?_
 rintro e wz ⟨hwz, rfl⟩
 cases hwz
 go_wp2_with fail
 refine (naturalR w1 d (by omega)).mono ?_
 rintro e w2 ⟨v2, rfl, t2, hb2⟩
 have T2 := Lib.hid t2
 have S2 : Hid (Below w1.heap.size w1 w2) := Lib.hid hb2
 have hs2 : w1.heap.size ≤ w2.heap.size := hb2.size
 clear t2 hb2
 go_wp2_with fail
 refine (make1N w2 false v1 v2 n d 64 (T1.out.below S2.out) T2.out (by omega) (by omega) d0 (by omega) (by omega)).mono ?_
 rintro e w3 ⟨v3, rfl, t3, hb3⟩
 have T3 := Lib.hid t3
 have S3 : Hid (Below w2.heap.size w2 w3) := Lib.hid hb3
 have hs3 : w2.heap.size ≤ w3.heap.size := hb3.size
 obtain ⟨A, m, c, A', m', c', rfl, ta, tb, tc, td⟩ := t3.open_
 obtain ⟨r0, r1, r2, z0, z1, z2⟩ := (P0.out.below' (bcomp (bcomp S1.out S2.out) S3.out)).three
 have TA := Lib.hid ta
 have TB := Lib.hid tb
 have TC := Lib.hid tc
 have TD := Lib.hid td
 clear ta tb tc td
 clear t3 hb3
 go_wp2_with fail
 refine bodyPost_ret (v := .agg #[.bool (isNeg (mkRat (sgn false n) d)), .slice A m c, .slice A' m' c']) (by simp [results, Tryz.results29, go_sem, r0, r1, r2]) rfl ⟨_, rfl, ?_, below_box3 (PB.out.trans (((bcomp (bcomp S1.out S2.out) S3.out)).mono (by omega))) (by omega) _ _ _⟩
 exact (CanNew.box3 TA.out TB.out TC.out TD.out (by omega) _ _ _).mono (by omega)
end Go.Proofs.YtlhankdkhiilkaaGreat
