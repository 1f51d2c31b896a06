/- Lemmas on the way: Ref14. -/
import Derived.Test.YtlhankdkhiilkaaGreatI13
set_option linter.unusedSimpArgs false
set_option linter.unusedVariables false
set_option linter.unusedSectionVars false
set_option linter.unnecessarySimpa false
namespace Go.Proofs.YtlhankdkhiilkaaGreat
open Go.RowKit
theorem bcomp {w w1 w2 : World} (h1 : Below w.heap.size w w1) (h2 : Below w1.heap.size w1 w2) : Below w.heap.size w w2 := h1.trans (h2.mono h1.size)

theorem NatAt.digs {w : World} {v : Value} {n : Nat} (h : NatAt w v n) : ∃ l, DigAt w v l ∧ val l = n := by
 obtain ⟨l, d, _, e⟩ := h
 exact ⟨l, d, e⟩

theorem make1N (w : World) (neg : Bool) (vn vd : Value) (n d k : Nat) (hn : NatAt w vn n) (hd : NatAt w vd d) (qn : n < 2 ^ k) (qd : d < 2 ^ k) (d0 : 0 < d) (h0 : 0 < k) (hk : k ≤ 17592186044416) :
  Calls Tryz.prog 61 #[.bool neg, vn, vd] w fun e w' => ∃ v', e = .returned v' ∧ CanNew w.heap.size w' v' (mkRat (sgn neg n) d) ∧ Below w.heap.size w w' := by
 obtain ⟨ln, dn, rfl⟩ := hn.digs
 obtain ⟨ld, dd, rfl⟩ := hd.digs
 refine (make1R w neg vn vd ln ld k dn dd qn qd h0 hk).mono ?_
 unfold fracVal
 rw [if_neg (by omega)]
 exact fun _ _ h => h

theorem FracAt.parts {k : Nat} {w : World} {v : Value} {q : Rat} (h : FracAt k w v q) (h0 : 0 < k) : ∃ s vn vd ln ld n d, v = .agg #[.bool s, vn, vd] ∧ DigAt w vn ln ∧ DigAt w vd ld ∧ val ln = n ∧ (if val ld = 0 then 1 else val ld) = d ∧ q = mkRat (sgn s n) d ∧ n < 2 ^ k ∧ d < 2 ^ k ∧ 0 < d ∧ val ld < 2 ^ k := by
 obtain ⟨s, vn, vd, ln, ld, rfl, h1, h2, h3, h4, h5, _, _⟩ := h
 have := Nat.one_lt_two_pow (n := k) (by omega)
 exact ⟨s, vn, vd, ln, ld, _, _, rfl, h1, h2, rfl, rfl, h3, h4, by split <;> omega, by split <;> omega, h5⟩
end Go.Proofs.YtlhankdkhiilkaaGreat
