/- Lemmas on the way: Kn1. -/
import Derived.Test.YtjebfdfkjlkifaaGreatC37
set_option linter.unusedSimpArgs false
set_option linter.unusedVariables false
set_option linter.unusedSectionVars false
set_option linter.unnecessarySimpa false
namespace Go.Proofs.YtjebfdfkjlkifaaGreat
open Go.RowKit
section
attribute [local go_sem] Oper.semAt_some

theorem fracs_nil (k : Nat) (w : World) : FracsAt k w (.slice none 0 0) [] := ⟨[], Sl.nil_ _ _, fun i q h => by cases h⟩
theorem rules_two {w : World} {g : Nat} {e : TypeId} {s s' : Bool} {A B A' B' : Option Addr} {a b c d a' b' c' d' : Nat} {p q : Rat} (h : Blk w g e [.int .i64 0, .int .i64 1, .int .i64 0, .bool s, .slice A a b, .slice B c d, .int .i64 0, .int .i64 0, .int .i64 0, .bool s', .slice A' a' b', .slice B' c' d'])
  (hp : CanAt w (.agg #[.bool s, .slice A a b, .slice B c d]) p) (hq : CanAt w (.agg #[.bool s', .slice A' a' b', .slice B' c' d']) q) (bp : QB 64 p) (bq : QB 64 q) : RulesAt 64 w (.slice (some ⟨g, 0, none⟩) 2 2) [⟨0, 1, 0, p⟩, ⟨0, 0, 0, q⟩] := by
 have h1 := h.sl (sz := 6) (n := 2) (c := 2) (by simp) (Nat.le_refl _) (by unfold maxLen; omega)
 refine ⟨_, h1, fun i r hr => ?_⟩
 match i, hr with
 | 0, hr => cases hr; exact ⟨_, _, _, rfl, rfl, rfl, rfl, rfl, rfl, hp.frac bp (by omega)⟩
 | 1, hr => cases hr; exact ⟨_, _, _, rfl, rfl, rfl, rfl, rfl, rfl, hq.frac bq (by omega)⟩
theorem zero_can (w : World) : CanAt w (.agg #[.bool false, .slice none 0 0, .slice none 0 0]) 0 := (CanNew.zero_ 0 w).at_

theorem NatAt.offD {w : World} {v : Value} {n b : Nat} {e : TypeId} {xs : List Value} (h : NatAt w v n) (hb : Blk w b e xs) (hx : ∀ x ∈ xs, ∀ d, x ≠ dg d) : Off v b := by
 obtain ⟨l, ⟨⟨h0, A, c, rfl, _, _, h5⟩, _⟩, _⟩ := h
 intro ad n' c' e' hn
 cases e'
 obtain ⟨b', off, e', _, hc⟩ := h5 hn
 cases e'
 simp only
 intro hbb
 subst hbb
 cases l with
 | nil => simp at hn
 | cons d l =>
  have h1 := hc 0 (dg d) rfl
  rw [hb.cell] at h1
  exact hx _ (List.mem_of_getElem? h1) d rfl
theorem lang_nod {a b k : Int} {s : Bool} {X A A' Y : Option Addr} {n p m c m' c' y z : Nat} : ∀ x ∈ [Value.int .i64 a, .int .i64 b, .slice X n p, .int .i64 k, .bool s, .slice A m c, .slice A' m' c', .slice Y y z], ∀ d, x ≠ dg d := by
 intro x hx d e
 subst e
 simp [dg] at hx
def put4 (W : World) (g : Nat) (k : Int) (s : Bool) (A A' : Option Addr) (m c m' c' : Nat) : World :=
 (((W.setCell ⟨g, 3, none⟩ (.int .i64 k)).setCell ⟨g, 4, none⟩ (.bool s)).setCell ⟨g, 5, none⟩ (.slice A m c)).setCell ⟨g, 6, none⟩ (.slice A' m' c')
section
variable {W W0 : World} {g : Nat} {k : Int} {s : Bool} {A A' : Option Addr} {m c m' c' : Nat}
theorem put4_blk {a b d e f h i j : Value} (hb : Blk W g 43 [a, b, d, e, f, h, i, j]) : Blk (put4 W g k s A A' m c m' c') g 43 [a, b, d, .int .i64 k, .bool s, .slice A m c, .slice A' m' c', j] :=
 (((hb.set_ 3 _).set_ 4 _).set_ 5 _).set_ 6 _
theorem put4_below {B : Nat} (hb : Below B W0 W) (hg : B ≤ g) : Below B W0 (put4 W g k s A A' m c m' c') :=
 (((hb.setCell (p := ⟨g, 3, none⟩) hg _).setCell (p := ⟨g, 4, none⟩) hg _).setCell (p := ⟨g, 5, none⟩) hg _).setCell (p := ⟨g, 6, none⟩) hg _
theorem put4_can {e : TypeId} {xs : List Value} (hb : Blk W g e xs) (hx : ∀ x ∈ xs, ∀ d, x ≠ dg d) {v : Value} {q : Rat} (h : CanAt W v q) : CanAt (put4 W g k s A A' m c m' c') v q := by
 obtain ⟨vn, vd, e, h1, h2⟩ := h
 have o1 := NatAt.offD h1 hb hx
 have o2 := NatAt.offD h2 hb hx
 exact ⟨vn, vd, e, (((h1.setOff (p := ⟨g, 3, none⟩) o1 _).setOff (p := ⟨g, 4, none⟩) o1 _).setOff (p := ⟨g, 5, none⟩) o1 _).setOff (p := ⟨g, 6, none⟩) o1 _, (((h2.setOff (p := ⟨g, 3, none⟩) o2 _).setOff (p := ⟨g, 4, none⟩) o2 _).setOff (p := ⟨g, 5, none⟩) o2 _).setOff (p := ⟨g, 6, none⟩) o2 _⟩
theorem put4_arc {e : TypeId} {xs : List Value} (hb : Blk W g e xs) (hx : ∀ x ∈ xs, ∀ d, x ≠ dg d) {b : Nat} {qs : List Rat} (h : FArc W b qs) (hne : b ≠ g) : FArc (put4 W g k s A A' m c m' c') b qs := by
 obtain ⟨ys, g1, g2, gx, g3⟩ := h
 refine ⟨ys, (((g1.far (p := ⟨g, 3, none⟩) hne _).far (p := ⟨g, 4, none⟩) hne _).far (p := ⟨g, 5, none⟩) hne _).far (p := ⟨g, 6, none⟩) hne _, g2, gx, fun j r hr => ?_⟩
 obtain ⟨A1, m1, c1, A1', m1', c1', e0, e1, e2, e3⟩ := g3 j r hr
 exact ⟨A1, m1, c1, A1', m1', c1', e0, e1, e2, put4_can hb hx e3⟩
end

set_option maxRecDepth 1000000 in
set_option maxHeartbeats 16000000 in
theorem knownG (w : World)
  (hsort : ∀ W B A n c gs, GOwn B W (.slice A n c) gs → gs.length = n → n ≤ 20000 → B ≤ W.heap.size → Calls Tryz.prog 136 #[.slice A n c, .func (.func 137) #[] #[]] W fun e w' => e = .returned (.tuple #[]) ∧ ∃ gs' : List Gr, gs'.Perm gs ∧ SortedG gs' ∧ GOwn B w' (.slice A n c) gs' ∧ Below B W w') :
  Calls Tryz.prog 18 #[] w fun e w' => e = .returned (.bool true) ∧ Below w.heap.size w w' := by
 have HSO := Lib.hid hsort
 clear hsort
 go_enter Tryz.func18, Tryz.ntmps18
 go_wp2_with fail
 refine (twoR w).mono ?_
 rintro e w1 ⟨lv, rfl, hg, hb⟩
 obtain ⟨Al, cl, rfl, _⟩ := hg.open_
 have T1 := Lib.hid hg
 have B1 := Lib.hid hb
 clear hg hb
 go_wp2_with fail
 refine (makeR w1 1 2 (by omega) (by omega) (by omega)).mono ?_
 rintro e w2 ⟨u, rfl, t, hb⟩
 obtain ⟨q1, hq1⟩ : ∃ q : Rat, ((1 : Nat) : Rat) / ((2 : Nat) : Rat) = q := ⟨_, rfl⟩
 rw [hq1] at t
 have HQ1 : Hid (q1 = 1/2) := Lib.hid (by rw [← hq1]; decide +kernel)
 obtain ⟨A, m, c, A', m', c', rfl⟩ := t.at_.open_
 have C1 := Lib.hid t.at_
 have T2 := Lib.hid (T1.out.below hb)
 have B2 := Lib.hid (B1.out.trans (hb.mono B1.out.size))
 clear t hb hq1 T1 B1
 go_wp2_with fail
 obtain ⟨W3, hW3, L0, L1, LB, Lhs⟩ := box2 w2 43 [.int .i64 2, .int .i64 2, .slice Al gs0.length cl, .int .i64 3, .bool (isNeg q1), .slice A m c, .slice A' m' c', .slice none 0 0] 3 [.int .i64 0]
 rw [← hW3]
 clear hW3
 have F1 : Hid (FracAt 64 W3 (.agg #[.bool (isNeg q1), .slice A m c, .slice A' m' c']) q1) := Lib.hid ((C1.out.below LB.out).frac (by rw [HQ1.out]; exact ⟨by decide +kernel, by decide +kernel⟩) (by omega))
 refine (rowDisc W3 2 2 (.slice Al gs0.length cl) gs0 (isNeg q1) A A' m c m' c' (.slice none 0 0) q1 [] _ [0] ⟨T2.out.below LB.out, F1.out, fracs_nil _ _, by simp⟩ (ints_blk (l := [0]) L1.out (by simp)) (by rw [HQ1.out]; exact two_h3) (by omega)).mono ?_
 rintro e w3 ⟨b1, rfl, hs1, hf1, hb⟩
 rw [HQ1.out] at hf1
 have R1 := Lib.hid hf1
 have LQ := Lib.hid (L0.out.below' hb)
 have B3' := Lib.hid (LB.out.trans (hb.mono LB.out.size))
 have T3 := Lib.hid (T2.out.below B3'.out)
 have n1 : b1 ≠ w2.heap.size := by omega
 have q3 := LQ.out.cell 3
 have q4 := LQ.out.cell 4
 have q5 := LQ.out.cell 5
 have q6 := LQ.out.cell 6
 have f3 := LQ.out.frozen 3
 have f4 := LQ.out.frozen 4
 have f5 := LQ.out.frozen 5
 have f6 := LQ.out.frozen 6
 simp only [List.getElem?_cons_zero, List.getElem?_cons_succ] at q3 q4 q5 q6
 clear hf1 hb hs1 F1
 go_upto_region 4 with fail
 clear q3 q4 q5 q6 f3 f4 f5 f6
 obtain ⟨W4, hW4⟩ : ∃ W4, W4 = put4 w3 w2.heap.size 4 false none none 0 0 0 0 := ⟨_, rfl⟩
 have L4 := Lib.hid (show Blk W4 w2.heap.size 43 _ by rw [hW4]; exact put4_blk LQ.out)
 have R4 := Lib.hid (show FArc W4 b1 _ by rw [hW4]; exact put4_arc LQ.out lang_nod R1.out n1)
 have B4 := Lib.hid (show Below w2.heap.size w2 W4 by rw [hW4]; exact put4_below B3'.out (Nat.le_refl _))
 have T4 := Lib.hid (T2.out.below B4.out)
 rw [show (((w3.setCell ⟨w2.heap.size, 3, none⟩ (.int .i64 4)).setCell ⟨w2.heap.size, 4, none⟩ (.bool false)).setCell ⟨w2.heap.size, 5, none⟩ (.slice none 0 0)).setCell ⟨w2.heap.size, 6, none⟩ (.slice none 0 0) = W4 from hW4.symm]
 clear hW4 LQ R1 B3' T3
 obtain ⟨p0, p1, p2, p3, p4, p5, p6, p7⟩ := eight L4.out
 go_wp2_with fail
 obtain ⟨W5, hW5, M0, MB, Mhs⟩ := box1 W4 3 [.int .i64 2]
 rw [← hW5]
 clear hW5
 refine (rowTyped W5 2 2 (.slice Al gs0.length cl) gs0 false none none 0 0 0 0 (.slice none 0 0) 0 [] _ [2] ⟨T4.out.below MB.out, (zero_can _).frac ⟨by decide +kernel, by decide +kernel⟩ (by omega), fracs_nil _ _, by simp⟩ (ints_blk (l := [2]) M0.out (by simp)) two_h4 (by omega)).mono ?_
 rintro e w5 ⟨b2, rfl, hs2, hf2, hb⟩
 have R2 := Lib.hid hf2
 have B5' := Lib.hid (MB.out.trans (hb.mono MB.out.size))
 have L5 := Lib.hid (L4.out.below' B5'.out)
 have R5 := Lib.hid (R4.out.below B5'.out)
 have B5 := Lib.hid (B4.out.trans (B5'.out.mono B4.out.size))
 have z4 : w2.heap.size < W4.heap.size := L4.out.lt
 have n2 : b2 ≠ w2.heap.size := by omega
 clear p0 p1 p2 p3 p4 p5 p6 p7 hf2 hb hs2 L4 R4 B4 T4 B5'
 go_wp2_with fail
 refine (ofR w5 1 (by omega)).mono ?_
 rintro e w6 ⟨u, rfl, t, hb⟩
 obtain ⟨q2, hq2⟩ : ∃ q : Rat, ((1 : Nat) : Rat) = q := ⟨_, rfl⟩
 rw [hq2] at t
 have HQ2 : Hid (q2 = 1) := Lib.hid (by rw [← hq2]; decide +kernel)
 obtain ⟨Ao, mo, co, Ao', mo', co', rfl⟩ := t.at_.open_
 have C2 := Lib.hid t.at_
 have L6 := Lib.hid (L5.out.below' hb)
 have R16 := Lib.hid (R5.out.below hb)
 have R26 := Lib.hid (R2.out.below hb)
 have B6 := Lib.hid (B5.out.trans (hb.mono B5.out.size))
 have q3 := L6.out.cell 3
 have q4 := L6.out.cell 4
 have q5 := L6.out.cell 5
 have q6 := L6.out.cell 6
 have f3 := L6.out.frozen 3
 have f4 := L6.out.frozen 4
 have f5 := L6.out.frozen 5
 have f6 := L6.out.frozen 6
 simp only [List.getElem?_cons_zero, List.getElem?_cons_succ] at q3 q4 q5 q6
 clear t hb hq2 L5 R5 R2 B5
 go_upto_region 6 with fail
 clear q3 q4 q5 q6 f3 f4 f5 f6
 obtain ⟨W7, hW7⟩ : ∃ W7, W7 = put4 w6 w2.heap.size 1 (isNeg q2) Ao Ao' mo co mo' co' := ⟨_, rfl⟩
 have L7 := Lib.hid (show Blk W7 w2.heap.size 43 _ by rw [hW7]; exact put4_blk L6.out)
 have R17 := Lib.hid (show FArc W7 b1 _ by rw [hW7]; exact put4_arc L6.out lang_nod R16.out n1)
 have R27 := Lib.hid (show FArc W7 b2 _ by rw [hW7]; exact put4_arc L6.out lang_nod R26.out n2)
 have C7 := Lib.hid (show CanAt W7 _ q2 by rw [hW7]; exact put4_can L6.out lang_nod C2.out)
 have B7 := Lib.hid (show Below w2.heap.size w2 W7 by rw [hW7]; exact put4_below B6.out (Nat.le_refl _))
 have T7 := Lib.hid (T2.out.below B7.out)
 rw [show (((w6.setCell ⟨w2.heap.size, 3, none⟩ (.int .i64 1)).setCell ⟨w2.heap.size, 4, none⟩ (.bool (isNeg q2))).setCell ⟨w2.heap.size, 5, none⟩ (.slice Ao mo co)).setCell ⟨w2.heap.size, 6, none⟩ (.slice Ao' mo' co') = W7 from hW7.symm]
 clear hW7 L6 R16 R26 C2 B6 n1 n2
 obtain ⟨p0, p1, p2, p3, p4, p5, p6, p7⟩ := eight L7.out
 go_wp2_with fail
 obtain ⟨W8, hW8, S0, SB, Shs⟩ := box1 W7 3 [.int .i64 1, .int .i64 2]
 rw [← hW8]
 clear hW8
 refine (sentAdded W8 2 2 (.slice Al gs0.length cl) gs0 (isNeg q2) Ao Ao' mo co mo' co' (.slice none 0 0) q2 [] _ [1, 2] ⟨T7.out.below SB.out, (C7.out.below SB.out).frac (by rw [HQ2.out]; exact ⟨by decide +kernel, by decide +kernel⟩) (by omega), fracs_nil _ _, by simp⟩ (ints_blk (l := [1, 2]) S0.out (by simp)) (by rw [HQ2.out]; exact two_s) (by omega)).mono ?_
 rintro e w8 ⟨u, rfl, t, hb⟩
 rw [show sayQ (fun h => addedQ (totN 2 gs0 2 h) 2 q2) (2 - 1) [1, 2] = 1/10 by rw [HQ2.out]; exact two_said] at t
 obtain ⟨q3, hq3⟩ : ∃ q : Rat, (1/10 : Rat) = q := ⟨_, rfl⟩
 rw [hq3] at t
 have HQ3 : Hid (q3 = 1/10) := Lib.hid hq3.symm
 obtain ⟨As, ms, cs, As', ms', cs', rfl⟩ := t.open_
 have C3 := Lib.hid t
 have B8' := Lib.hid (SB.out.trans (hb.mono SB.out.size))
 have R18 := Lib.hid (R17.out.below B8'.out)
 have R28 := Lib.hid (R27.out.below B8'.out)
 have B8 := Lib.hid (B7.out.trans (B8'.out.mono B7.out.size))
 clear p0 p1 p2 p3 p4 p5 p6 p7 t hb hq3 R17 R27 B7 B8' L7
 go_wp2_with fail
 obtain ⟨W9, hW9, N0, N1, N2, N3, NB, Nhs⟩ := box4 w8 40 [.bool (isNeg q3), .slice As ms cs, .slice As' ms' cs'] 3 [.int .i64 1, .int .i64 2] 3 [.int .i64 1, .int .i64 1] 44 [.slice (some ⟨w8.heap.size + 1, 0, none⟩) 2 2, .slice (some ⟨w8.heap.size + 1 + 1, 0, none⟩) 2 2]
 rw [← hW9]
 clear hW9
 refine (countS W9 2 2 _ [[1, 2], [1, 1]] (lists_two (l := [1, 2]) (m := [1, 1]) N3.out N1.out N2.out (by simp) (by simp)) (by decide +kernel) (by decide +kernel) (by decide +kernel) (by simp) HSO.out).mono ?_
 rintro e w9 ⟨lv, gs, rfl, hp, hso, hg, hb⟩
 obtain rfl := two_sorted hp hso
 obtain ⟨Ac, cc, rfl, _⟩ := hg.open_
 have G9 := Lib.hid hg
 have B9' := Lib.hid (NB.out.trans (hb.mono NB.out.size))
 have R19 := Lib.hid (R18.out.below B9'.out)
 have R29 := Lib.hid (R28.out.below B9'.out)
 have X9 : Hid (BoxC w9 w8.heap.size q3) := Lib.hid ((BoxC.of N0.out (C3.out.below NB.out)).below hb)
 have B9 := Lib.hid (B8.out.trans (B9'.out.mono B8.out.size))
 clear hp hso hg hb B9' R18 R28 B8 N0 N1 N2 N3
 go_wp2_with fail
 obtain ⟨W10, hW10, K0, KB, Khs⟩ := box1 w9 27 [.int .i64 2, .int .i64 2, .slice Ac gs0.length cc]
 rw [← hW10]
 clear hW10
 refine (makeR W10 1 2 (by omega) (by omega) (by omega)).mono ?_
 rintro e w10 ⟨u, rfl, t, hb⟩
 obtain ⟨q4, hq4⟩ : ∃ q : Rat, ((1 : Nat) : Rat) / ((2 : Nat) : Rat) = q := ⟨_, rfl⟩
 rw [hq4] at t
 have HQ4 : Hid (q4 = 1/2) := Lib.hid (by rw [← hq4]; decide +kernel)
 obtain ⟨Ad, md, cd, Ad', md', cd', rfl⟩ := t.at_.open_
 have C4 := Lib.hid t.at_
 have B10 := Lib.hid (KB.out.trans (hb.mono KB.out.size))
 have K10 := Lib.hid (K0.out.below' hb)
 clear t hb hq4 K0 KB
 go_wp2_with fail
 refine (makeR w10 1 2 (by omega) (by omega) (by omega)).mono ?_
 rintro e w11 ⟨u, rfl, t, hb⟩
 obtain ⟨q5, hq5⟩ : ∃ q : Rat, ((1 : Nat) : Rat) / ((2 : Nat) : Rat) = q := ⟨_, rfl⟩
 rw [hq5] at t
 have HQ5 : Hid (q5 = 1/2) := Lib.hid (by rw [← hq5]; decide +kernel)
 obtain ⟨Ae, me, ce, Ae', me', ce', rfl⟩ := t.at_.open_
 have C5 := Lib.hid t.at_
 have C4' := Lib.hid (C4.out.below hb)
 have B11 := Lib.hid (B10.out.trans (hb.mono B10.out.size))
 have K11 := Lib.hid (K10.out.below' hb)
 clear t hb hq5 C4 B10 K10
 go_wp2_with fail
 obtain ⟨W12, hW12, J0, J1, JB, Jhs⟩ := box2 w11 111 [.int .i64 0, .int .i64 1, .int .i64 0, .bool (isNeg q4), .slice Ad md cd, .slice Ad' md' cd', .int .i64 0, .int .i64 0, .int .i64 0, .bool (isNeg q5), .slice Ae me ce, .slice Ae' me' ce'] 3 [.int .i64 1, .int .i64 1]
 rw [← hW12]
 clear hW12
 have HRU := Lib.hid (rules_two J0.out (C4'.out.below JB.out) (C5.out.below JB.out) (by rw [HQ4.out]; exact ⟨by decide +kernel, by decide +kernel⟩) (by rw [HQ5.out]; exact ⟨by decide +kernel, by decide +kernel⟩))
 have HRU0 : Hid ([⟨0, 1, 0, q4⟩, ⟨0, 0, 0, q5⟩] = rules0) := Lib.hid (by rw [HQ4.out, HQ5.out]; rfl)
 have hsay := saysG W12 1 1 _ _ rules0 [1, 1] (by rw [← HRU0.out]; exact HRU.out) (ints_blk (l := [1, 1]) J1.out (by simp)) (fun _ => ⟨by decide +kernel, by decide +kernel⟩)
 rw [rules_e, rules_q] at hsay
 refine hsay.mono ?_
 rintro e w12 ⟨u, rfl, t, hb⟩
 clear hsay
 obtain ⟨q6, hq6⟩ : ∃ q : Rat, (1/8 : Rat) = q := ⟨_, rfl⟩
 rw [hq6] at t
 have HQ6 : Hid (q6 = 1/8) := Lib.hid hq6.symm
 obtain ⟨Af, mf, cf, Af', mf', cf', rfl⟩ := t.open_
 have C6 := Lib.hid t
 have B12' := Lib.hid (B11.out.trans ((JB.out.trans (hb.mono JB.out.size)).mono B11.out.size))
 have K12 := Lib.hid ((K11.out.below' JB.out).below' hb)
 have R1c := Lib.hid (R19.out.below B12'.out)
 have R2c := Lib.hid (R29.out.below B12'.out)
 have Xc := Lib.hid (X9.out.below B12'.out)
 have Gc := Lib.hid (G9.out.below B12'.out)
 have Bc := Lib.hid (B2.out.trans ((B9.out.trans (B12'.out.mono B9.out.size)).mono B2.out.size))
 clear t hb hq6 HRU HRU0 J0 J1 JB C4' C5 B11 K11 R19 R29 X9 G9 B9 B12'
 go_upto_region 12 with fail
 obtain ⟨W13, hW13, Y0, YB, Yhs⟩ := box1 w12 40 [.bool (isNeg q6), .slice Af mf cf, .slice Af' mf' cf']
 rw [← hW13]
 clear hW13
 have R1d := Lib.hid (R1c.out.below YB.out)
 have R2d := Lib.hid (R2c.out.below YB.out)
 have Xd := Lib.hid (Xc.out.below YB.out)
 have Gd := Lib.hid (Gc.out.below YB.out)
 have Kd := Lib.hid (K12.out.below' YB.out)
 have Cd := Lib.hid (C6.out.below YB.out)
 have Bd := Lib.hid (Bc.out.trans (YB.out.mono Bc.out.size))
 clear R1c R2c Xc Gc K12 C6 Bc YB
 obtain ⟨x, hx⟩ : ∃ r : Rat, (3/4 : Rat) = r := ⟨_, rfl⟩
 have gx0 := two_disc1
 rw [hx] at gx0
 have gx := R1d.out.get gx0
 have Hx : Hid (x = (3/4 : Rat)) := Lib.hid hx.symm
 obtain ⟨xA, xm, xc, xB, xn, xd, x0, x1, x2, _, _, _, tx⟩ := gx
 have Ex := Lib.hid tx
 clear hx tx
 obtain ⟨y, hy⟩ : ∃ r : Rat, (1/12 : Rat) = r := ⟨_, rfl⟩
 have gy0 := two_disc2
 rw [hy] at gy0
 have gy := R1d.out.get gy0
 have Hy : Hid (y = (1/12 : Rat)) := Lib.hid hy.symm
 obtain ⟨yA, ym, yc, yB, yn, yd, y0, y1, y2, _, _, _, ty⟩ := gy
 have Ey := Lib.hid ty
 clear hy ty
 obtain ⟨z, hz⟩ : ∃ r : Rat, (2/3 : Rat) = r := ⟨_, rfl⟩
 have gz0 := two_typed
 rw [hz] at gz0
 have gz := R2d.out.get gz0
 have Hz : Hid (z = (2/3 : Rat)) := Lib.hid hz.symm
 obtain ⟨zA, zm, zc, zB, zn, zd, z0, z1, z2, _, _, _, tz⟩ := gz
 have Ez := Lib.hid tz
 clear hz tz
 obtain ⟨vA, vm, vc, vB, vn, vd, v0, v1, v2, _, _, _, tv⟩ := Xd.out.get
 have Ev := Lib.hid tv
 clear tv gx0 gy0 gz0
 have l1 : b1 < W13.heap.size := R1d.out.lt
 have l2 : b2 < W13.heap.size := R2d.out.lt
 have l3 : w8.heap.size < W13.heap.size := Xd.out.lt
 have l4 : w9.heap.size < W13.heap.size := Kd.out.lt
 have l5 : w12.heap.size < W13.heap.size := Y0.out.lt
 have HSET : Hid (∀ w', Below W13.heap.size W13 w' → Below W13.heap.size W13 w' ∧ w'.cell? ⟨b1, 3, none⟩ = some (.bool (isNeg x)) ∧ w'.cell? ⟨b1, 4, none⟩ = some (.slice xA xm xc) ∧ w'.cell? ⟨b1, 5, none⟩ = some (.slice xB xn xd) ∧ w'.cell? ⟨b1, 6, none⟩ = some (.bool (isNeg y)) ∧ w'.cell? ⟨b1, 7, none⟩ = some (.slice yA ym yc) ∧ w'.cell? ⟨b1, 8, none⟩ = some (.slice yB yn yd) ∧ w'.cell? ⟨b2, 0, none⟩ = some (.bool (isNeg z)) ∧ w'.cell? ⟨b2, 1, none⟩ = some (.slice zA zm zc) ∧ w'.cell? ⟨b2, 2, none⟩ = some (.slice zB zn zd) ∧ w'.cell? ⟨w8.heap.size, 0, none⟩ = some (.bool (isNeg q3)) ∧ w'.cell? ⟨w8.heap.size, 1, none⟩ = some (.slice vA vm vc) ∧ w'.cell? ⟨w8.heap.size, 2, none⟩ = some (.slice vB vn vd) ∧ w'.cell? ⟨w9.heap.size, 0, none⟩ = some (.int .i64 2) ∧ w'.cell? ⟨w9.heap.size, 1, none⟩ = some (.int .i64 2) ∧ w'.cell? ⟨w9.heap.size, 2, none⟩ = some (.slice Ac gs0.length cc) ∧ w'.cell? ⟨w12.heap.size, 0, none⟩ = some (.bool (isNeg q6)) ∧ w'.cell? ⟨w12.heap.size, 1, none⟩ = some (.slice Af mf cf) ∧ w'.cell? ⟨w12.heap.size, 2, none⟩ = some (.slice Af' mf' cf')) := Lib.hid (fun w' hw' => ⟨hw', (hw'.cell (p := ⟨b1, 3, none⟩) l1).trans (x0), (hw'.cell (p := ⟨b1, 4, none⟩) l1).trans (x1), (hw'.cell (p := ⟨b1, 5, none⟩) l1).trans (x2), (hw'.cell (p := ⟨b1, 6, none⟩) l1).trans (y0), (hw'.cell (p := ⟨b1, 7, none⟩) l1).trans (y1), (hw'.cell (p := ⟨b1, 8, none⟩) l1).trans (y2), (hw'.cell (p := ⟨b2, 0, none⟩) l2).trans (z0), (hw'.cell (p := ⟨b2, 1, none⟩) l2).trans (z1), (hw'.cell (p := ⟨b2, 2, none⟩) l2).trans (z2), (hw'.cell (p := ⟨w8.heap.size, 0, none⟩) l3).trans (v0), (hw'.cell (p := ⟨w8.heap.size, 1, none⟩) l3).trans (v1), (hw'.cell (p := ⟨w8.heap.size, 2, none⟩) l3).trans (v2), (hw'.cell (p := ⟨w9.heap.size, 0, none⟩) l4).trans (Kd.out.cell 0), (hw'.cell (p := ⟨w9.heap.size, 1, none⟩) l4).trans (Kd.out.cell 1), (hw'.cell (p := ⟨w9.heap.size, 2, none⟩) l4).trans (Kd.out.cell 2), (hw'.cell (p := ⟨w12.heap.size, 0, none⟩) l5).trans (Y0.out.cell 0), (hw'.cell (p := ⟨w12.heap.size, 1, none⟩) l5).trans (Y0.out.cell 1), (hw'.cell (p := ⟨w12.heap.size, 2, none⟩) l5).trans (Y0.out.cell 2)⟩)
 have hS := HSET.out W13.drew (below_drew_self W13)
 clear x0 x1 x2 y0 y1 y2 z0 z1 z2 v0 v1 v2
 refine wp_region_held_drew (S := fun w' => Below W13.heap.size W13 w' ∧ w'.cell? ⟨b1, 3, none⟩ = some (.bool (isNeg x)) ∧ w'.cell? ⟨b1, 4, none⟩ = some (.slice xA xm xc) ∧ w'.cell? ⟨b1, 5, none⟩ = some (.slice xB xn xd) ∧ w'.cell? ⟨b1, 6, none⟩ = some (.bool (isNeg y)) ∧ w'.cell? ⟨b1, 7, none⟩ = some (.slice yA ym yc) ∧ w'.cell? ⟨b1, 8, none⟩ = some (.slice yB yn yd) ∧ w'.cell? ⟨b2, 0, none⟩ = some (.bool (isNeg z)) ∧ w'.cell? ⟨b2, 1, none⟩ = some (.slice zA zm zc) ∧ w'.cell? ⟨b2, 2, none⟩ = some (.slice zB zn zd) ∧ w'.cell? ⟨w8.heap.size, 0, none⟩ = some (.bool (isNeg q3)) ∧ w'.cell? ⟨w8.heap.size, 1, none⟩ = some (.slice vA vm vc) ∧ w'.cell? ⟨w8.heap.size, 2, none⟩ = some (.slice vB vn vd) ∧ w'.cell? ⟨w9.heap.size, 0, none⟩ = some (.int .i64 2) ∧ w'.cell? ⟨w9.heap.size, 1, none⟩ = some (.int .i64 2) ∧ w'.cell? ⟨w9.heap.size, 2, none⟩ = some (.slice Ac gs0.length cc) ∧ w'.cell? ⟨w12.heap.size, 0, none⟩ = some (.bool (isNeg q6)) ∧ w'.cell? ⟨w12.heap.size, 1, none⟩ = some (.slice Af mf cf) ∧ w'.cell? ⟨w12.heap.size, 2, none⟩ = some (.slice Af' mf' cf')) (by kernel_rfl) hS (fun hHeld => ?_)
 clear hS
 refine wpAnyH_take (i := 0) (v := ?_) rfl (by kernel_rfl) (by kernel_rfl) (by kernel_rfl) (fun _ _ _ h => h) (Or.inl ⟨by rfl, ?_⟩) (by assumption) ?_
 rotate_left
 ·(intro w' hSw; (try dsimp only at hSw); go_simp <;> with_reducible rfl)
 simp only [List.getElem_toArray, List.getElem_cons_succ, List.getElem_cons_zero, Act.put, List.setIfInBounds_toArray, List.set_cons_zero, List.set_cons_succ]
 refine wpAnyH_take (i := 1) (v := ?_) rfl (by kernel_rfl) (by kernel_rfl) (by kernel_rfl) (fun _ _ _ h => h) (Or.inl ⟨by rfl, ?_⟩) (by assumption) ?_
 rotate_left
 ·(intro w' hSw; (try dsimp only at hSw); go_simp <;> with_reducible rfl)
 simp only [List.getElem_toArray, List.getElem_cons_succ, List.getElem_cons_zero, Act.put, List.setIfInBounds_toArray, List.set_cons_zero, List.set_cons_succ]
 refine wpAnyH_take (i := 2) (v := ?_) rfl (by kernel_rfl) (by kernel_rfl) (by kernel_rfl) (fun _ _ _ h => h) (Or.inl ⟨by rfl, ?_⟩) (by assumption) ?_
 rotate_left
 ·(intro w' hSw; (try dsimp only at hSw); go_simp <;> with_reducible rfl)
 simp only [List.getElem_toArray, List.getElem_cons_succ, List.getElem_cons_zero, Act.put, List.setIfInBounds_toArray, List.set_cons_zero, List.set_cons_succ]
 refine wpAnyH_ready (rs := [3]) (by kernel_rfl) (by simp) ?_
 refine AllReadyH.cons rfl (fun K hK => ?_) AllReadyH.nil
 go_simp
 refine (makeR _ 3 4 (by omega) (by omega) (by omega)).mono ?_
 rintro e wl ⟨u, rfl, t, hb⟩
 obtain ⟨qm, hqm⟩ : ∃ q : Rat, ((3 : Nat) : Rat) / ((4 : Nat) : Rat) = q := ⟨_, rfl⟩
 rw [hqm] at t
 have HQM : Hid (qm = 3/4) := Lib.hid (by rw [← hqm]; decide +kernel)
 obtain ⟨qA, qn, qc, qA', qn', qc', rfl⟩ := t.at_.open_
 have CM := Lib.hid t.at_
 have hS := HSET.out wl (hHeld.1.trans (hb.mono hHeld.1.size))
 clear t hb hqm hHeld
 try go_simp
 refine hK.out _ _ hS (fun hHeld => ?_)
 clear hK K hS
 try simp only [List.getElem_toArray, List.getElem_cons_succ, List.getElem_cons_zero, Act.put, List.setIfInBounds_toArray, List.set_cons_zero, List.set_cons_succ]
 refine wpAnyH_ready (rs := [4]) (by kernel_rfl) (by simp) ?_
 refine AllReadyH.cons rfl (fun K hK => ?_) AllReadyH.nil
 go_simp
 refine (sameR _ _ _ x qm (Ex.out.below hHeld.1) CM.out).mono ?_
 rintro e wl2 ⟨rfl, hb⟩
 rw [show decide (x = qm) = true from decide_eq_true (by rw [Hx.out, HQM.out])]
 have hS := HSET.out wl2 (hHeld.1.trans (hb.mono hHeld.1.size))
 clear hb hHeld CM HQM
 try go_simp
 refine hK.out _ _ hS (fun hHeld => ?_)
 clear hK K hS
 try simp only [List.getElem_toArray, List.getElem_cons_succ, List.getElem_cons_zero, Act.put, List.setIfInBounds_toArray, List.set_cons_zero, List.set_cons_succ]
 refine wpAnyH_take (i := 5) (v := ?_) rfl (by kernel_rfl) (by kernel_rfl) (by kernel_rfl) (fun _ _ _ h => h) (Or.inl ⟨by rfl, ?_⟩) (by assumption) ?_
 rotate_left
 ·(intro w' hSw; (try dsimp only at hSw); go_simp <;> with_reducible rfl)
 simp only [List.getElem_toArray, List.getElem_cons_succ, List.getElem_cons_zero, Act.put, List.setIfInBounds_toArray, List.set_cons_zero, List.set_cons_succ]
 refine wpAnyH_take (i := 6) (v := ?_) rfl (by kernel_rfl) (by kernel_rfl) (by kernel_rfl) (fun _ _ _ h => h) (Or.inl ⟨by rfl, ?_⟩) (by assumption) ?_
 rotate_left
 ·(intro w' hSw; (try dsimp only at hSw); go_simp <;> with_reducible rfl)
 simp only [List.getElem_toArray, List.getElem_cons_succ, List.getElem_cons_zero, Act.put, List.setIfInBounds_toArray, List.set_cons_zero, List.set_cons_succ]
 refine wpAnyH_take (i := 7) (v := ?_) rfl (by kernel_rfl) (by kernel_rfl) (by kernel_rfl) (fun _ _ _ h => h) (Or.inl ⟨by rfl, ?_⟩) (by assumption) ?_
 rotate_left
 ·(intro w' hSw; (try dsimp only at hSw); go_simp <;> with_reducible rfl)
 simp only [List.getElem_toArray, List.getElem_cons_succ, List.getElem_cons_zero, Act.put, List.setIfInBounds_toArray, List.set_cons_zero, List.set_cons_succ]
 refine wpAnyH_take (i := 8) (v := ?_) rfl (by kernel_rfl) (by kernel_rfl) (by kernel_rfl) (fun _ _ _ h => h) (Or.inl ⟨by rfl, ?_⟩) (by assumption) ?_
 rotate_left
 ·(intro w' hSw; (try dsimp only at hSw); go_simp <;> with_reducible rfl)
 simp only [List.getElem_toArray, List.getElem_cons_succ, List.getElem_cons_zero, Act.put, List.setIfInBounds_toArray, List.set_cons_zero, List.set_cons_succ]
 refine wpAnyH_ready (rs := [9]) (by kernel_rfl) (by simp) ?_
 refine AllReadyH.cons rfl (fun K hK => ?_) AllReadyH.nil
 go_simp
 refine (makeR _ 1 12 (by omega) (by omega) (by omega)).mono ?_
 rintro e wl ⟨u, rfl, t, hb⟩
 obtain ⟨qm, hqm⟩ : ∃ q : Rat, ((1 : Nat) : Rat) / ((12 : Nat) : Rat) = q := ⟨_, rfl⟩
 rw [hqm] at t
 have HQM : Hid (qm = 1/12) := Lib.hid (by rw [← hqm]; decide +kernel)
 obtain ⟨qA, qn, qc, qA', qn', qc', rfl⟩ := t.at_.open_
 have CM := Lib.hid t.at_
 have hS := HSET.out wl (hHeld.1.trans (hb.mono hHeld.1.size))
 clear t hb hqm hHeld
 try go_simp
 refine hK.out _ _ hS (fun hHeld => ?_)
 clear hK K hS
 try simp only [List.getElem_toArray, List.getElem_cons_succ, List.getElem_cons_zero, Act.put, List.setIfInBounds_toArray, List.set_cons_zero, List.set_cons_succ]
 refine wpAnyH_ready (rs := [10]) (by kernel_rfl) (by simp) ?_
 refine AllReadyH.cons rfl (fun K hK => ?_) AllReadyH.nil
 go_simp
 refine (sameR _ _ _ y qm (Ey.out.below hHeld.1) CM.out).mono ?_
 rintro e wl2 ⟨rfl, hb⟩
 rw [show decide (y = qm) = true from decide_eq_true (by rw [Hy.out, HQM.out])]
 have hS := HSET.out wl2 (hHeld.1.trans (hb.mono hHeld.1.size))
 clear hb hHeld CM HQM
 try go_simp
 refine hK.out _ _ hS (fun hHeld => ?_)
 clear hK K hS
 try simp only [List.getElem_toArray, List.getElem_cons_succ, List.getElem_cons_zero, Act.put, List.setIfInBounds_toArray, List.set_cons_zero, List.set_cons_succ]
 refine wpAnyH_take (i := 11) (v := ?_) rfl (by kernel_rfl) (by kernel_rfl) (by kernel_rfl) (fun _ _ _ h => h) (Or.inl ⟨by rfl, ?_⟩) (by assumption) ?_
 rotate_left
 ·(intro w' hSw; (try dsimp only at hSw); go_simp <;> with_reducible rfl)
 simp only [List.getElem_toArray, List.getElem_cons_succ, List.getElem_cons_zero, Act.put, List.setIfInBounds_toArray, List.set_cons_zero, List.set_cons_succ]
 refine wpAnyH_take (i := 12) (v := ?_) rfl (by kernel_rfl) (by kernel_rfl) (by kernel_rfl) (fun _ _ _ h => h) (Or.inl ⟨by rfl, ?_⟩) (by assumption) ?_
 rotate_left
 ·(intro w' hSw; (try dsimp only at hSw); go_simp <;> with_reducible rfl)
 simp only [List.getElem_toArray, List.getElem_cons_succ, List.getElem_cons_zero, Act.put, List.setIfInBounds_toArray, List.set_cons_zero, List.set_cons_succ]
 refine wpAnyH_take (i := 13) (v := ?_) rfl (by kernel_rfl) (by kernel_rfl) (by kernel_rfl) (fun _ _ _ h => h) (Or.inl ⟨by rfl, ?_⟩) (by assumption) ?_
 rotate_left
 ·(intro w' hSw; (try dsimp only at hSw); go_simp <;> with_reducible rfl)
 simp only [List.getElem_toArray, List.getElem_cons_succ, List.getElem_cons_zero, Act.put, List.setIfInBounds_toArray, List.set_cons_zero, List.set_cons_succ]
 refine wpAnyH_take (i := 14) (v := ?_) rfl (by kernel_rfl) (by kernel_rfl) (by kernel_rfl) (fun _ _ _ h => h) (Or.inl ⟨by rfl, ?_⟩) (by assumption) ?_
 rotate_left
 ·(intro w' hSw; (try dsimp only at hSw); go_simp <;> with_reducible rfl)
 simp only [List.getElem_toArray, List.getElem_cons_succ, List.getElem_cons_zero, Act.put, List.setIfInBounds_toArray, List.set_cons_zero, List.set_cons_succ]
 refine wpAnyH_take (i := 15) (v := ?_) rfl (by kernel_rfl) (by kernel_rfl) (by kernel_rfl) (fun _ _ _ h => h) (Or.inl ⟨by rfl, ?_⟩) (by assumption) ?_
 rotate_left
 ·(intro w' hSw; (try dsimp only at hSw); go_simp <;> with_reducible rfl)
 simp only [List.getElem_toArray, List.getElem_cons_succ, List.getElem_cons_zero, Act.put, List.setIfInBounds_toArray, List.set_cons_zero, List.set_cons_succ]
 refine wpAnyH_ready (rs := [16]) (by kernel_rfl) (by simp) ?_
 refine AllReadyH.cons rfl (fun K hK => ?_) AllReadyH.nil
 go_simp
 refine (makeR _ 2 3 (by omega) (by omega) (by omega)).mono ?_
 rintro e wl ⟨u, rfl, t, hb⟩
 obtain ⟨qm, hqm⟩ : ∃ q : Rat, ((2 : Nat) : Rat) / ((3 : Nat) : Rat) = q := ⟨_, rfl⟩
 rw [hqm] at t
 have HQM : Hid (qm = 2/3) := Lib.hid (by rw [← hqm]; decide +kernel)
 obtain ⟨qA, qn, qc, qA', qn', qc', rfl⟩ := t.at_.open_
 have CM := Lib.hid t.at_
 have hS := HSET.out wl (hHeld.1.trans (hb.mono hHeld.1.size))
 clear t hb hqm hHeld
 try go_simp
 refine hK.out _ _ hS (fun hHeld => ?_)
 clear hK K hS
 try simp only [List.getElem_toArray, List.getElem_cons_succ, List.getElem_cons_zero, Act.put, List.setIfInBounds_toArray, List.set_cons_zero, List.set_cons_succ]
 refine wpAnyH_ready (rs := [17]) (by kernel_rfl) (by simp) ?_
 refine AllReadyH.cons rfl (fun K hK => ?_) AllReadyH.nil
 go_simp
 refine (sameR _ _ _ z qm (Ez.out.below hHeld.1) CM.out).mono ?_
 rintro e wl2 ⟨rfl, hb⟩
 rw [show decide (z = qm) = true from decide_eq_true (by rw [Hz.out, HQM.out])]
 have hS := HSET.out wl2 (hHeld.1.trans (hb.mono hHeld.1.size))
 clear hb hHeld CM HQM
 try go_simp
 refine hK.out _ _ hS (fun hHeld => ?_)
 clear hK K hS
 try simp only [List.getElem_toArray, List.getElem_cons_succ, List.getElem_cons_zero, Act.put, List.setIfInBounds_toArray, List.set_cons_zero, List.set_cons_succ]
 refine wpAnyH_take (i := 18) (v := ?_) rfl (by kernel_rfl) (by kernel_rfl) (by kernel_rfl) (fun _ _ _ h => h) (Or.inl ⟨by rfl, ?_⟩) (by assumption) ?_
 rotate_left
 ·(intro w' hSw; (try dsimp only at hSw); go_simp <;> with_reducible rfl)
 simp only [List.getElem_toArray, List.getElem_cons_succ, List.getElem_cons_zero, Act.put, List.setIfInBounds_toArray, List.set_cons_zero, List.set_cons_succ]
 refine wpAnyH_take (i := 19) (v := ?_) rfl (by kernel_rfl) (by kernel_rfl) (by kernel_rfl) (fun _ _ _ h => h) (Or.inl ⟨by rfl, ?_⟩) (by assumption) ?_
 rotate_left
 ·(intro w' hSw; (try dsimp only at hSw); go_simp <;> with_reducible rfl)
 simp only [List.getElem_toArray, List.getElem_cons_succ, List.getElem_cons_zero, Act.put, List.setIfInBounds_toArray, List.set_cons_zero, List.set_cons_succ]
 refine wpAnyH_take (i := 20) (v := ?_) rfl (by kernel_rfl) (by kernel_rfl) (by kernel_rfl) (fun _ _ _ h => h) (Or.inl ⟨by rfl, ?_⟩) (by assumption) ?_
 rotate_left
 ·(intro w' hSw; (try dsimp only at hSw); go_simp <;> with_reducible rfl)
 simp only [List.getElem_toArray, List.getElem_cons_succ, List.getElem_cons_zero, Act.put, List.setIfInBounds_toArray, List.set_cons_zero, List.set_cons_succ]
 refine wpAnyH_ready (rs := [21]) (by kernel_rfl) (by simp) ?_
 refine AllReadyH.cons rfl (fun K hK => ?_) AllReadyH.nil
 go_simp
 refine (makeR _ 1 10 (by omega) (by omega) (by omega)).mono ?_
 rintro e wl ⟨u, rfl, t, hb⟩
 obtain ⟨qm, hqm⟩ : ∃ q : Rat, ((1 : Nat) : Rat) / ((10 : Nat) : Rat) = q := ⟨_, rfl⟩
 rw [hqm] at t
 have HQM : Hid (qm = 1/10) := Lib.hid (by rw [← hqm]; decide +kernel)
 obtain ⟨qA, qn, qc, qA', qn', qc', rfl⟩ := t.at_.open_
 have CM := Lib.hid t.at_
 have hS := HSET.out wl (hHeld.1.trans (hb.mono hHeld.1.size))
 clear t hb hqm hHeld
 try go_simp
 refine hK.out _ _ hS (fun hHeld => ?_)
 clear hK K hS
 try simp only [List.getElem_toArray, List.getElem_cons_succ, List.getElem_cons_zero, Act.put, List.setIfInBounds_toArray, List.set_cons_zero, List.set_cons_succ]
 refine wpAnyH_ready (rs := [22]) (by kernel_rfl) (by simp) ?_
 refine AllReadyH.cons rfl (fun K hK => ?_) AllReadyH.nil
 go_simp
 refine (sameR _ _ _ q3 qm (Ev.out.below hHeld.1) CM.out).mono ?_
 rintro e wl2 ⟨rfl, hb⟩
 rw [show decide (q3 = qm) = true from decide_eq_true (by rw [HQ3.out, HQM.out])]
 have hS := HSET.out wl2 (hHeld.1.trans (hb.mono hHeld.1.size))
 clear hb hHeld CM HQM
 try go_simp
 refine hK.out _ _ hS (fun hHeld => ?_)
 clear hK K hS
 try simp only [List.getElem_toArray, List.getElem_cons_succ, List.getElem_cons_zero, Act.put, List.setIfInBounds_toArray, List.set_cons_zero, List.set_cons_succ]
 refine wpAnyH_take (i := 23) (v := ?_) rfl (by kernel_rfl) (by kernel_rfl) (by kernel_rfl) (fun _ _ _ h => h) (Or.inl ⟨by rfl, ?_⟩) (by assumption) ?_
 rotate_left
 ·(intro w' hSw; (try dsimp only at hSw); go_simp <;> with_reducible rfl)
 simp only [List.getElem_toArray, List.getElem_cons_succ, List.getElem_cons_zero, Act.put, List.setIfInBounds_toArray, List.set_cons_zero, List.set_cons_succ]
 refine wpAnyH_take (i := 24) (v := ?_) rfl (by kernel_rfl) (by kernel_rfl) (by kernel_rfl) (fun _ _ _ h => h) (Or.inl ⟨by rfl, ?_⟩) (by assumption) ?_
 rotate_left
 ·(intro w' hSw; (try dsimp only at hSw); go_simp <;> with_reducible rfl)
 simp only [List.getElem_toArray, List.getElem_cons_succ, List.getElem_cons_zero, Act.put, List.setIfInBounds_toArray, List.set_cons_zero, List.set_cons_succ]
 refine wpAnyH_take (i := 25) (v := ?_) rfl (by kernel_rfl) (by kernel_rfl) (by kernel_rfl) (fun _ _ _ h => h) (Or.inl ⟨by rfl, ?_⟩) (by assumption) ?_
 rotate_left
 ·(intro w' hSw; (try dsimp only at hSw); go_simp <;> with_reducible rfl)
 simp only [List.getElem_toArray, List.getElem_cons_succ, List.getElem_cons_zero, Act.put, List.setIfInBounds_toArray, List.set_cons_zero, List.set_cons_succ]
 refine wpAnyH_ready (rs := [26]) (by kernel_rfl) (by simp) ?_
 refine AllReadyH.cons rfl (fun K hK => ?_) AllReadyH.nil
 go_simp
 refine (twoR _).mono ?_
 rintro e wl ⟨lw, rfl, hg, hb⟩
 obtain ⟨Aw, cw, rfl, _⟩ := hg.open_
 have GW := Lib.hid hg
 have hS := HSET.out wl (hHeld.1.trans (hb.mono hHeld.1.size))
 clear hg hb hHeld
 try go_simp
 refine hK.out _ _ hS (fun hHeld => ?_)
 clear hK K hS
 try simp only [List.getElem_toArray, List.getElem_cons_succ, List.getElem_cons_zero, Act.put, List.setIfInBounds_toArray, List.set_cons_zero, List.set_cons_succ]
 refine wpAnyH_ready (rs := [27]) (by kernel_rfl) (by simp) ?_
 refine AllReadyH.cons rfl (fun K hK => ?_) AllReadyH.nil
 go_simp
 refine (sameTableG _ 2 2 2 2 _ _ gs0 gs0 (Gd.out.below hHeld.1) GW.out).mono ?_
 rintro e wl2 ⟨rfl, hb⟩
 rw [show decide ((2 : Int) = 2 ∧ (2 : Int) = 2 ∧ gs0 = gs0) = true from decide_eq_true ⟨rfl, rfl, rfl⟩]
 have hS := HSET.out wl2 (hHeld.1.trans (hb.mono hHeld.1.size))
 clear hb hHeld GW
 try go_simp
 refine hK.out _ _ hS (fun hHeld => ?_)
 clear hK K hS
 try simp only [List.getElem_toArray, List.getElem_cons_succ, List.getElem_cons_zero, Act.put, List.setIfInBounds_toArray, List.set_cons_zero, List.set_cons_succ]
 refine wpAnyH_take (i := 28) (v := ?_) rfl (by kernel_rfl) (by kernel_rfl) (by kernel_rfl) (fun _ _ _ h => h) (Or.inl ⟨by rfl, ?_⟩) (by assumption) ?_
 rotate_left
 ·(intro w' hSw; (try dsimp only at hSw); go_simp <;> with_reducible rfl)
 simp only [List.getElem_toArray, List.getElem_cons_succ, List.getElem_cons_zero, Act.put, List.setIfInBounds_toArray, List.set_cons_zero, List.set_cons_succ]
 refine wpAnyH_take (i := 29) (v := ?_) rfl (by kernel_rfl) (by kernel_rfl) (by kernel_rfl) (fun _ _ _ h => h) (Or.inl ⟨by rfl, ?_⟩) (by assumption) ?_
 rotate_left
 ·(intro w' hSw; (try dsimp only at hSw); go_simp <;> with_reducible rfl)
 simp only [List.getElem_toArray, List.getElem_cons_succ, List.getElem_cons_zero, Act.put, List.setIfInBounds_toArray, List.set_cons_zero, List.set_cons_succ]
 refine wpAnyH_take (i := 30) (v := ?_) rfl (by kernel_rfl) (by kernel_rfl) (by kernel_rfl) (fun _ _ _ h => h) (Or.inl ⟨by rfl, ?_⟩) (by assumption) ?_
 rotate_left
 ·(intro w' hSw; (try dsimp only at hSw); go_simp <;> with_reducible rfl)
 simp only [List.getElem_toArray, List.getElem_cons_succ, List.getElem_cons_zero, Act.put, List.setIfInBounds_toArray, List.set_cons_zero, List.set_cons_succ]
 refine wpAnyH_ready (rs := [31]) (by kernel_rfl) (by simp) ?_
 refine AllReadyH.cons rfl (fun K hK => ?_) AllReadyH.nil
 go_simp
 refine (makeR _ 1 8 (by omega) (by omega) (by omega)).mono ?_
 rintro e wl ⟨u, rfl, t, hb⟩
 obtain ⟨qm, hqm⟩ : ∃ q : Rat, ((1 : Nat) : Rat) / ((8 : Nat) : Rat) = q := ⟨_, rfl⟩
 rw [hqm] at t
 have HQM : Hid (qm = 1/8) := Lib.hid (by rw [← hqm]; decide +kernel)
 obtain ⟨qA, qn, qc, qA', qn', qc', rfl⟩ := t.at_.open_
 have CM := Lib.hid t.at_
 have hS := HSET.out wl (hHeld.1.trans (hb.mono hHeld.1.size))
 clear t hb hqm hHeld
 try go_simp
 refine hK.out _ _ hS (fun hHeld => ?_)
 clear hK K hS
 try simp only [List.getElem_toArray, List.getElem_cons_succ, List.getElem_cons_zero, Act.put, List.setIfInBounds_toArray, List.set_cons_zero, List.set_cons_succ]
 refine wpAnyH_ready (rs := [32]) (by kernel_rfl) (by simp) ?_
 refine AllReadyH.cons rfl (fun K hK => ?_) AllReadyH.nil
 go_simp
 refine (sameR _ _ _ q6 qm (Cd.out.below hHeld.1) CM.out).mono ?_
 rintro e wl2 ⟨rfl, hb⟩
 rw [show decide (q6 = qm) = true from decide_eq_true (by rw [HQ6.out, HQM.out])]
 have hS := HSET.out wl2 (hHeld.1.trans (hb.mono hHeld.1.size))
 clear hb hHeld CM HQM
 try go_simp
 refine hK.out _ _ hS (fun hHeld => ?_)
 clear hK K hS
 try simp only [List.getElem_toArray, List.getElem_cons_succ, List.getElem_cons_zero, Act.put, List.setIfInBounds_toArray, List.set_cons_zero, List.set_cons_succ]
 refine wpAnyH_take (i := 33) (v := ?_) rfl (by kernel_rfl) (by kernel_rfl) (by kernel_rfl) (fun _ _ _ h => h) (Or.inl ⟨by rfl, ?_⟩) (by assumption) ?_
 rotate_left
 ·(intro w' hSw; (try dsimp only at hSw); go_simp <;> with_reducible rfl)
 simp only [List.getElem_toArray, List.getElem_cons_succ, List.getElem_cons_zero, Act.put, List.setIfInBounds_toArray, List.set_cons_zero, List.set_cons_succ]
 refine wpAnyH_take (i := 34) (v := ?_) rfl (by kernel_rfl) (by kernel_rfl) (by kernel_rfl) (fun _ _ _ h => h) (Or.inl ⟨by rfl, ?_⟩) (by assumption) ?_
 rotate_left
 ·(intro w' hSw; (try dsimp only at hSw); go_simp <;> with_reducible rfl)
 simp only [List.getElem_toArray, List.getElem_cons_succ, List.getElem_cons_zero, Act.put, List.setIfInBounds_toArray, List.set_cons_zero, List.set_cons_succ]
 refine wpAnyH_done (by kernel_rfl) ?_ _
 have hBB := hHeld.1
 have hEND := Bd.out.trans (hBB.mono Bd.out.size)
 clear hHeld hBB
 go_wp2_with fail
 first
  | (go_ret; exact ⟨rfl, hEND⟩)
  | (go_ret2; exact ⟨rfl, hEND⟩)
  | (go_end0; exact ⟨rfl, hEND⟩)
end
end Go.Proofs.YtjebfdfkjlkifaaGreat
