/- Lemmas. -/
import Derived.Test.YtjebfdfkjlkifaaGreatN13
set_option linter.all false
set_option maxRecDepth 1000000
set_option maxHeartbeats 32000000
namespace Go.Proofs.YtjebfdfkjlkifaaGreat
open Go.RowKit
theorem aa {w w1 w2 : World} (h1 : Below w.heap.size w w1) (h2 : Below w1.heap.size w1 w2) : Below w.heap.size w w2 := h1.trans (h2.mono h1.size)

theorem mh (w : World) (v : Value) (l : List Nat) (hd : DigAt w v l) :
  Calls Tryz.prog 98 #[v] w fun e w' => ∃ v', e = .returned v' /\ NatAt w' v' (val l) /\ Below w.heap.size w w' := by
 refine (fk w v l hd).mono ?_
 rintro e w1 ⟨hw, v', rfl, h1, _⟩
 cases hw
 exact ⟨v', rfl, h1, Below.refl _ _⟩

theorem jh {w : World} {g B : Nat} {a b c : Value}
  (h : w.cell? ⟨g, 0, none⟩ = some a /\ w.cell? ⟨g, 1, none⟩ = some b /\ w.cell? ⟨g, 2, none⟩ = some c) (hg : g ≠ B) (u0 u1 u2 : Value) :
  (((w.setCell ⟨B, 0, none⟩ u0).setCell ⟨B, 1, none⟩ u1).setCell ⟨B, 2, none⟩ u2).cell? ⟨g, 0, none⟩ = some a /\ (((w.setCell ⟨B, 0, none⟩ u0).setCell ⟨B, 1, none⟩ u1).setCell ⟨B, 2, none⟩ u2).cell? ⟨g, 1, none⟩ = some b /\ (((w.setCell ⟨B, 0, none⟩ u0).setCell ⟨B, 1, none⟩ u1).setCell ⟨B, 2, none⟩ u2).cell? ⟨g, 2, none⟩ = some c :=
 ⟨aX h.1 hg _ _ _, aX h.2.1 hg _ _ _, aX h.2.2 hg _ _ _⟩

theorem NatAt.digs {w : World} {v : Value} {n : Nat} (h : NatAt w v n) : ∃ l, DigAt w v l /\ val l = n := by
 obtain ⟨l, d, _, e⟩ := h
 exact ⟨l, d, e⟩

theorem iL (w : World) (neg : Bool) (vn vd : Value) (n d k : Nat) (hn : NatAt w vn n) (hd : NatAt w vd d) (qn : n < 2 ^ k) (qd : d < 2 ^ k) (d0 : 0 < d) (h0 : 0 < k) (hk : k <= 17592186044416) :
  Calls Tryz.prog 94 #[.bool neg, vn, vd] w fun e w' => ∃ v', e = .returned v' /\ CanNew w.heap.size w' v' (mkRat (sgn neg n) d) /\ Below w.heap.size w w' := by
 obtain ⟨ln, dn, rfl⟩ := hn.digs
 obtain ⟨ld, dd, rfl⟩ := hd.digs
 refine (oE w neg vn vd ln ld k dn dd qn qd h0 hk).mono ?_
 unfold dM
 rw [if_neg (by omega)]
 exact fun _ _ h => h

theorem FracAt.parts {k : Nat} {w : World} {v : Value} {q : Rat} (h : FracAt k w v q) (h0 : 0 < k) : ∃ s vn vd ln ld n d, v = .agg #[.bool s, vn, vd] /\ DigAt w vn ln /\ DigAt w vd ld /\ val ln = n /\ (if val ld = 0 then 1 else val ld) = d /\ q = mkRat (sgn s n) d /\ n < 2 ^ k /\ d < 2 ^ k /\ 0 < d /\ val ld < 2 ^ k := by
 obtain ⟨s, vn, vd, ln, ld, rfl, h1, h2, h3, h4, h5, _, _⟩ := h
 have := Nat.one_lt_two_pow (n := k) (by omega)
 exact ⟨s, vn, vd, ln, ld, _, _, rfl, h1, h2, rfl, rfl, h3, h4, by split <;> omega, by split <;> omega, h5⟩

theorem uo (s : Bool) (n : Nat) : sgn (!s) n = - sgn s n := by cases s <;> simp [sgn]
theorem qh (s : Bool) (n d : Nat) : -(mkRat (sgn s n) d) = mkRat (sgn (!s) n) d := by rw [uo, Rat.neg_mkRat]
theorem eR (s : Bool) {a b : Nat} (hb : b ≠ 0) : mkRat (sgn s a) b = 0 ↔ a = 0 := by
 rw [Rat.mkRat_eq_zero hb]
 cases s <;> simp [sgn]

theorem oF (w : World) (s vn vd : Value) (ld : List Nat) (d : Nat) (hd : DigAt w vd ld) (e0 : (if val ld = 0 then 1 else val ld) = d) :
  Calls Tryz.prog 99 #[.agg #[s, vn, vd]] w fun e w' => ∃ v', e = .returned v' /\ NatAt w' v' d /\ Below w.heap.size w w' := by
 have HD := aH hd
 have HE := aH e0
 clear hd e0
 go_enter Tryz.func99, Tryz.ntmps99
 go_wp2_with fail
 obtain ⟨W, hW, P0, PB, Phs⟩ := aA w 40 [s, vn, vd]
 rw [<- hW]
 clear hW
 obtain ⟨p0, p1, p2, _, _, _⟩ := P0.o.three
 go_wp2_with fail
 refine (fk W vd ld (HD.o.below PB.o)).mono ?_
 rintro e w1 ⟨hw1, v1, rfl, t1, _, _⟩
 cases hw1
 have T1 := aH t1
 obtain ⟨A, m, c, rfl, hm, hm0⟩ := t1.len
 clear t1
 by_cases h0 : m = 0
 ·have hd0 : val ld = 0 := by omega
  subst h0
  have HX : Hd (d = 1) := aH (by rw [<- HE.o, if_pos hd0])
  clear hm0 hd0
  go_wp2_with fail
  go_ret
  refine ⟨_, rfl, ⟨[1], ⟨?_, Ok.cons.2 ⟨by omega, Ok.nil⟩⟩, by simp [Trim], by rw [HX.o]; rfl⟩, PB.o.alloc (by omega) _⟩
  exact Sl.one _ _ _
 have hz : ((m : Int) == 0) = false := by simp; omega
 have HX : Hd (val ld = d) := aH (by rw [<- HE.o, if_neg (by omega)])
 clear hm0
 go_wp2_with fail
 go_ret
 exact ⟨_, rfl, by rw [<- HX.o]; exact T1.o, PB.o⟩

theorem xu (w : World) (v : Value) (q : Rat) (k : Nat) (h : FracAt k w v q) (h0 : 0 < k) (hk : k <= 17592186044416) :
  Calls Tryz.prog 93 #[v] w fun e w' => ∃ v', e = .returned v' /\ CanNew w.heap.size w' v' (-q) /\ Below w.heap.size w w' := by
 obtain ⟨s, vn, vd, ln, ld, n, d, rfl, h1, h2, h3, h4, h5, h6, h7, h8, h9⟩ := h.parts h0
 have H1 := aH h1
 have H2 := aH h2
 have H3 := aH h3
 have H4 := aH h4
 have H5 := aH h5
 have H6 := aH h6
 have H7 := aH h7
 have H8 := aH h8
 have H9 := aH h9
 clear h h1 h2 h3 h4 h5 h6 h7 h8 h9
 have HQ : Hd (-q = dM (!s) (val ln) (val ld)) := aH (by rw [H5.o, qh, <- H4.o, <- H3.o]; rfl)
 rw [HQ.o]
 go_enter Tryz.func93, Tryz.ntmps93
 go_wp2_with fail
 obtain ⟨W, hW, P0, P1, PB, Phs⟩ := cP w 40 [.bool s, vn, vd] 40 [.bool false, .slice none 0 0, .slice none 0 0]
 rw [<- hW]
 clear hW
 obtain ⟨p0, p1, p2, _, _, _⟩ := P0.o.three
 go_wp2_with fail
 refine (oE W (!s) _ _ ln ld k (H1.o.below PB.o) (H2.o.below PB.o) (by rw [H3.o]; exact H6.o) H9.o h0 hk).mono ?_
 rintro e w1 ⟨v1, rfl, t1, hb1⟩
 have T1 := aH t1
 have S1 : Hd (Below W.heap.size W w1) := aH hb1
 have hs1 : W.heap.size <= w1.heap.size := hb1.size
 obtain ⟨A, m, c, A', m', c', rfl, ta, tb, tc, td⟩ := t1.open_
 obtain ⟨r0, r1, r2, z0, z1, z2⟩ := (P1.o.below' S1.o).three
 have TA := aH ta
 have TB := aH tb
 have TC := aH tc
 have TD := aH td
 clear ta tb tc td
 clear t1 hb1
 go_wp2_with fail
 refine bodyPost_ret (v := .agg #[.bool (ae (dM (!s) (val ln) (val ld))), .slice A m c, .slice A' m' c']) (by simp [results, Tryz.results93, go_sem, r0, r1, r2]) rfl ⟨_, rfl, ?_, af (PB.o.trans ((S1.o).mono (by omega))) (by omega) _ _ _⟩
 exact (CanNew.box3 TA.o TB.o TC.o TD.o (by omega) _ _ _).mono (by omega)
end Go.Proofs.YtjebfdfkjlkifaaGreat
