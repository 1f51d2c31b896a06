/- Lemmas on the way: Ref16, Ref17, Ref18, Ref19. -/
import Derived.Test.YtlhankdkhiilkaaGreatI15
set_option linter.unusedSimpArgs false
set_option linter.unusedVariables false
set_option linter.unusedSectionVars false
set_option linter.unnecessarySimpa false
namespace Go.Proofs.YtlhankdkhiilkaaGreat
open Go.RowKit
def dnQ (q : Rat) : Nat := if q.den = 1 then 0 else q.den
theorem can_eq (q r : Rat) : q = r ↔ isNeg q = isNeg r ∧ q.num.natAbs = r.num.natAbs ∧ dnQ q = dnQ r := by
 constructor
 ·intro h
  subst h
  exact ⟨rfl, rfl, rfl⟩
 ·rintro ⟨h1, h2, h3⟩
  apply Rat.ext
  ·rw [num_eq q, num_eq r, h1, h2]
  ·have a := q.den_pos
   have b := r.den_pos
   unfold dnQ at h3
   split at h3 <;> split at h3 <;> omega
theorem sameT {w : World} {va vb : Value} {a b : Nat} (ha : NatAt w va a) (hb : NatAt w vb b) (h : a = b) : Calls Tryz.prog 50 #[va, vb] w fun e w' => e = .returned (.bool true) ∧ Below w.heap.size w w' := by
 refine (sameDigitsR w va vb a b ha hb).mono ?_
 rw [decide_eq_true h]
 exact fun _ _ ⟨h1, h2⟩ => ⟨h2, h1⟩
theorem sameF {w : World} {va vb : Value} {a b : Nat} (ha : NatAt w va a) (hb : NatAt w vb b) (h : a ≠ b) : Calls Tryz.prog 50 #[va, vb] w fun e w' => e = .returned (.bool false) ∧ Below w.heap.size w w' := by
 refine (sameDigitsR w va vb a b ha hb).mono ?_
 rw [decide_eq_false h]
 exact fun _ _ ⟨h1, h2⟩ => ⟨h2, h1⟩

set_option maxRecDepth 1000000 in
set_option maxHeartbeats 1000000 in
theorem sameR (w : World) (v v' : Value) (q r : Rat) (h : CanAt w v q) (h' : CanAt w v' r) :
  Calls Tryz.prog 23 #[v, v'] w fun e w' => e = .returned (.bool (decide (q = r))) ∧ Below w.heap.size w w' := by
 have HX := Lib.hid (can_eq q r)
 obtain ⟨vn, vd, rfl, n1, n2⟩ := h
 obtain ⟨vn', vd', rfl, m1, m2⟩ := h'
 have N1 := Lib.hid n1
 have N2 := Lib.hid (show NatAt w vd (dnQ q) from n2)
 have M1 := Lib.hid m1
 have M2 := Lib.hid (show NatAt w vd' (dnQ r) from m2)
 clear n1 n2 m1 m2
 generalize isNeg q = s at *
 generalize isNeg r = t at *
 by_cases hst : s = t
 ·subst hst
  by_cases hn : q.num.natAbs = r.num.natAbs
  ·by_cases hd : dnQ q = dnQ r
   ·have HB : Hid (decide (q = r) = true) := Lib.hid (decide_eq_true (HX.out.2 ⟨rfl, hn, hd⟩))
    have HN := Lib.hid hn
    have HD := Lib.hid hd
    clear hn hd
    go_enter Tryz.func23, Tryz.ntmps23
    go_wp2_with fail
    obtain ⟨W, hW, P0, P1, PB, Phs⟩ := box2 w 27 [.bool s, vn, vd] 27 [.bool s, vn', vd']
    rw [← hW]
    clear hW
    obtain ⟨p0, p1, p2, _, _, _⟩ := P0.out.three
    obtain ⟨q0, q1, q2, _, _, _⟩ := P1.out.three
    go_wp2_with fail
    refine (sameT (N1.out.below PB.out) (M1.out.below PB.out) HN.out).mono ?_
    rintro e w1 ⟨rfl, hb1⟩
    have S1 : Hid (Below W.heap.size W w1) := Lib.hid hb1
    have hs1 : W.heap.size ≤ w1.heap.size := hb1.size
    obtain ⟨p0', p1', p2', _, _, _⟩ := (P0.out.below' S1.out).three
    obtain ⟨q0', q1', q2', _, _, _⟩ := (P1.out.below' S1.out).three
    clear hb1
    go_wp2_with fail
    refine (sameT ((N2.out.below PB.out).below S1.out) ((M2.out.below PB.out).below S1.out) HD.out).mono ?_
    rintro e w2 ⟨rfl, hb2⟩
    have S2 : Hid (Below w1.heap.size w1 w2) := Lib.hid hb2
    have hs2 : w1.heap.size ≤ w2.heap.size := hb2.size
    clear hb2
    go_wp2_with fail
    go_ret
    exact ⟨ret_bool HB.out.symm, PB.out.trans (((bcomp S1.out S2.out)).mono (by omega))⟩
   ·have HB : Hid (decide (q = r) = false) := Lib.hid (decide_eq_false (fun e => hd (HX.out.1 e).2.2))
    have HN := Lib.hid hn
    have HD := Lib.hid hd
    clear hn hd
    go_enter Tryz.func23, Tryz.ntmps23
    go_wp2_with fail
    obtain ⟨W, hW, P0, P1, PB, Phs⟩ := box2 w 27 [.bool s, vn, vd] 27 [.bool s, vn', vd']
    rw [← hW]
    clear hW
    obtain ⟨p0, p1, p2, _, _, _⟩ := P0.out.three
    obtain ⟨q0, q1, q2, _, _, _⟩ := P1.out.three
    go_wp2_with fail
    refine (sameT (N1.out.below PB.out) (M1.out.below PB.out) HN.out).mono ?_
    rintro e w1 ⟨rfl, hb1⟩
    have S1 : Hid (Below W.heap.size W w1) := Lib.hid hb1
    have hs1 : W.heap.size ≤ w1.heap.size := hb1.size
    obtain ⟨p0', p1', p2', _, _, _⟩ := (P0.out.below' S1.out).three
    obtain ⟨q0', q1', q2', _, _, _⟩ := (P1.out.below' S1.out).three
    clear hb1
    go_wp2_with fail
    refine (sameF ((N2.out.below PB.out).below S1.out) ((M2.out.below PB.out).below S1.out) HD.out).mono ?_
    rintro e w2 ⟨rfl, hb2⟩
    have S2 : Hid (Below w1.heap.size w1 w2) := Lib.hid hb2
    have hs2 : w1.heap.size ≤ w2.heap.size := hb2.size
    clear hb2
    go_wp2_with fail
    go_ret
    exact ⟨ret_bool HB.out.symm, PB.out.trans (((bcomp S1.out S2.out)).mono (by omega))⟩
  ·have HB : Hid (decide (q = r) = false) := Lib.hid (decide_eq_false (fun e => hn (HX.out.1 e).2.1))
   have HN := Lib.hid hn
   clear hn
   go_enter Tryz.func23, Tryz.ntmps23
   go_wp2_with fail
   obtain ⟨W, hW, P0, P1, PB, Phs⟩ := box2 w 27 [.bool s, vn, vd] 27 [.bool s, vn', vd']
   rw [← hW]
   clear hW
   obtain ⟨p0, p1, p2, _, _, _⟩ := P0.out.three
   obtain ⟨q0, q1, q2, _, _, _⟩ := P1.out.three
   go_wp2_with fail
   refine (sameF (N1.out.below PB.out) (M1.out.below PB.out) HN.out).mono ?_
   rintro e w1 ⟨rfl, hb1⟩
   have S1 : Hid (Below W.heap.size W w1) := Lib.hid hb1
   have hs1 : W.heap.size ≤ w1.heap.size := hb1.size
   obtain ⟨p0', p1', p2', _, _, _⟩ := (P0.out.below' S1.out).three
   obtain ⟨q0', q1', q2', _, _, _⟩ := (P1.out.below' S1.out).three
   clear hb1
   go_wp2_with fail
   go_ret
   exact ⟨ret_bool HB.out.symm, PB.out.trans ((S1.out).mono (by omega))⟩
 ·have HB : Hid (decide (q = r) = false) := Lib.hid (decide_eq_false (fun e => hst (HX.out.1 e).1))
  have hst' : (s == t) = false := by cases s <;> cases t <;> simp_all
  clear hst
  go_enter Tryz.func23, Tryz.ntmps23
  go_wp2_with fail
  obtain ⟨W, hW, P0, P1, PB, Phs⟩ := box2 w 27 [.bool s, vn, vd] 27 [.bool t, vn', vd']
  rw [← hW]
  clear hW
  obtain ⟨p0, p1, p2, _, _, _⟩ := P0.out.three
  obtain ⟨q0, q1, q2, _, _, _⟩ := P1.out.three
  go_wp2_with fail
  go_ret
  exact ⟨ret_bool HB.out.symm, PB.out⟩
theorem CanNew.zero_ (B : Nat) (w : World) : CanNew B w (.agg #[.bool false, .slice none 0 0, .slice none 0 0]) 0 :=
 ⟨_, _, by simp [isNeg], NatAt.nil_ _, by simpa using NatAt.nil_ _, From.nil_ _, From.nil_ _⟩
theorem CanNew.parts {B : Nat} {w : World} {q : Rat} {b : Bool} {A A' : Option Addr} {m c m' c' : Nat} (h : CanNew B w (.agg #[.bool b, .slice A m c, .slice A' m' c']) q) :
  b = isNeg q ∧ NatAt w (.slice A m c) q.num.natAbs ∧ NatAt w (.slice A' m' c') (if q.den = 1 then 0 else q.den) ∧ From (.slice A m c) B ∧ From (.slice A' m' c') B := by
 obtain ⟨vn, vd, e, h1, h2, h3, h4⟩ := h
 injection e with e
 have e' : [Value.bool b, .slice A m c, .slice A' m' c'] = [.bool (isNeg q), vn, vd] := congrArg Array.toList e
 simp only [List.cons.injEq, and_true, Value.bool.injEq] at e'
 obtain ⟨e0, rfl, rfl⟩ := e'
 exact ⟨e0, h1, h2, h3, h4⟩
theorem FracAt.mono {k k' : Nat} {w : World} {v : Value} {q : Rat} (h : FracAt k w v q) (hk : k ≤ k') : FracAt k' w v q := by
 obtain ⟨s, vn, vd, ln, ld, e, h1, h2, h3, h4, h5, h6, h7⟩ := h
 exact ⟨s, vn, vd, ln, ld, e, h1, h2, h3, Nat.lt_of_lt_of_le h4 (Nat.pow_le_pow_right (by omega) hk), Nat.lt_of_lt_of_le h5 (Nat.pow_le_pow_right (by omega) hk), h6, h7⟩
theorem CanNew.drew {B : Nat} {w : World} {v : Value} {q : Rat} (h : CanNew B w v q) : CanNew B w.drew v q := h
section
open Go.RowKit
end
def CansAt (w : World) (v : Value) (qs : List Rat) : Prop := ∃ cells, Sl w 3 v qs.length cells ∧
 ∀ i x, qs[i]? = some x → ∃ a b c, cells[i * 3]? = some a ∧ cells[i * 3 + 1]? = some b ∧ cells[i * 3 + 2]? = some c ∧ CanAt w (.agg #[a, b, c]) x
theorem CansAt.below {w w' : World} {v : Value} {qs : List Rat} (h : CansAt w v qs) (hb : Below w.heap.size w w') : CansAt w' v qs := by
 obtain ⟨cs, h1, h2⟩ := h
 refine ⟨cs, h1.below hb, fun i x hx => ?_⟩
 obtain ⟨a, b, c, ha, hb', hc, hf⟩ := h2 i x hx
 exact ⟨a, b, c, ha, hb', hc, hf.below hb⟩
theorem CansAt.at_ {w : World} {v : Value} {qs : List Rat} (h : CansAt w v qs) : ∃ A c, v = .slice A qs.length c ∧ qs.length ≤ c ∧ c ≤ 9223372036854775807 ∧
  ∀ j x, qs[j]? = some x → ∃ b off u0 u1 u2, A = some ⟨b, off, none⟩ ∧ b < w.heap.size ∧ w.cell? ⟨b, off + j * 3, none⟩ = some u0 ∧ w.cell? ⟨b, off + j * 3 + 1, none⟩ = some u1 ∧
   w.cell? ⟨b, off + j * 3 + 2, none⟩ = some u2 ∧ CanAt w (.agg #[u0, u1, u2]) x := by
 obtain ⟨cells, h1, h2⟩ := h
 obtain ⟨h0, A, c, rfl, hc, hm, h5⟩ := h1
 refine ⟨A, c, rfl, hc, by unfold maxLen at hm; omega, fun j x hx => ?_⟩
 have hj := (List.getElem?_eq_some_iff.1 hx).1
 obtain ⟨b, off, e, hlt, hcell⟩ := h5 (by omega)
 obtain ⟨u0, u1, u2, e0, e1, e2, hf⟩ := h2 j x hx
 exact ⟨b, off, u0, u1, u2, e, hlt, hcell _ _ e0, by have := hcell _ _ e1; rwa [← Nat.add_assoc] at this, by have := hcell _ _ e2; rwa [← Nat.add_assoc] at this, hf⟩
end Go.Proofs.YtlhankdkhiilkaaGreat
