/- Lemmas on the way: Fol, FRow. -/
import Derived.Test.YtlhankdkhiilkaaGreatI23
set_option linter.unusedSimpArgs false
set_option linter.unusedVariables false
set_option linter.unusedSectionVars false
set_option linter.unnecessarySimpa false
namespace Go.Proofs.YtlhankdkhiilkaaGreat
open Go.RowKit

theorem FracAt.putBlk {k : Nat} {w : World} {a b c : Value} {q : Rat} {g : Nat} {e : TypeId} {xs : List Value} (h : FracAt k w (.agg #[a, b, c]) q) (hb : Blk w g e xs) (hx : ∀ x ∈ xs, NoDig x) (i : Nat) (u : Value) : FracAt k (w.setCell ⟨g, i, none⟩ u) (.agg #[a, b, c]) q := by
 obtain ⟨ln, ld, hd1, hd2⟩ := h.digs
 exact h.setOff (p := ⟨g, i, none⟩) (hd1.offBlk hb hx) (hd2.offBlk hb hx) u
theorem FArk.far {k : Nat} {w : World} {b g : Nat} {qs : List Rat} {e : TypeId} {xs : List Value} (h : FArk k w b qs) (hb : Blk w g e xs) (hx : ∀ x ∈ xs, NoDig x) (hne : b ≠ g) (i : Nat) (u : Value) : FArk k (w.setCell ⟨g, i, none⟩ u) b qs := by
 obtain ⟨ys, g1, g2, gx, g3⟩ := h
 refine ⟨ys, g1.far (p := ⟨g, i, none⟩) hne u, g2, gx, fun j r hr => ?_⟩
 obtain ⟨s1, A1, m1, c1, A1', m1', c1', e0, e1, e2, e3⟩ := g3 j r hr
 exact ⟨s1, A1, m1, c1, A1', m1', c1', e0, e1, e2, e3.putBlk hb hx _ _⟩

def RowsAt (K : Nat) (w : World) (b Ln p g : Nat) (R : Nat → List Rat) : Prop := ∃ xs, Blk w b 67 xs ∧ xs.length = p + 1 ∧ (∀ x ∈ xs, NoDig x) ∧ ∀ j, g ≤ j → j ≤ p → ∃ rb, xs[j]? = some (.slice (some ⟨rb, 0, none⟩) Ln Ln) ∧ b < rb ∧ FArk K w rb (R j)
def InAt (K : Nat) (w : World) (b cur Ln p t : Nat) (R : Nat → List Rat) (part : List Rat) : Prop := ∃ xs, Blk w b 67 xs ∧ xs.length = p + 1 ∧ (∀ x ∈ xs, NoDig x) ∧ xs[t]? = some (.slice (some ⟨cur, 0, none⟩) Ln Ln) ∧ b < cur ∧ FArk K w cur part ∧
 ∀ j, t + 1 ≤ j → j ≤ p → ∃ rb, xs[j]? = some (.slice (some ⟨rb, 0, none⟩) Ln Ln) ∧ b < rb ∧ rb < cur ∧ FArk K w rb (R j)
theorem RowsAt.below {K : Nat} {w w' : World} {b Ln p g : Nat} {R : Nat → List Rat} (h : RowsAt K w b Ln p g R) (hb : Below w.heap.size w w') : RowsAt K w' b Ln p g R := by
 obtain ⟨xs, h1, h2, h3, h4⟩ := h
 refine ⟨xs, h1.below' hb, h2, h3, fun j hg hp => ?_⟩
 obtain ⟨rb, e, hl, hf⟩ := h4 j hg hp
 exact ⟨rb, e, hl, hf.below hb⟩
theorem RowsAt.row {K : Nat} {w : World} {b Ln p g : Nat} {R : Nat → List Rat} (h : RowsAt K w b Ln p g R) {j : Nat} (hg : g ≤ j) (hp : j ≤ p) : ∃ rb, w.cell? ⟨b, j, none⟩ = some (.slice (some ⟨rb, 0, none⟩) Ln Ln) ∧ FArk K w rb (R j) ∧ b < w.heap.size := by
 obtain ⟨xs, h1, h2, h3, h4⟩ := h
 obtain ⟨rb, e, hl, hf⟩ := h4 j hg hp
 exact ⟨rb, (h1.cell j).trans e, hf, h1.lt⟩
theorem InAt.below {K : Nat} {w w' : World} {b cur Ln p t : Nat} {R : Nat → List Rat} {part : List Rat} (h : InAt K w b cur Ln p t R part) (hb : Below w.heap.size w w') : InAt K w' b cur Ln p t R part := by
 obtain ⟨xs, h1, h2, h3, h4, h5, h6, h7⟩ := h
 refine ⟨xs, h1.below' hb, h2, h3, h4, h5, h6.below hb, fun j hg hp => ?_⟩
 obtain ⟨rb, e, hl, hlt, hf⟩ := h7 j hg hp
 exact ⟨rb, e, hl, hlt, hf.below hb⟩
theorem InAt.start {K : Nat} {w w2 : World} {b Ln p t : Nat} {R : Nat → List Rat} (h : RowsAt K w b Ln p (t + 1) R) (hf : FArr (w.heap.size + 1) w2 w.heap.size (List.replicate Ln 0)) (hb : Below w.heap.size w w2) (ht : t ≤ p) (h0 : 0 < K) (hK : K ≤ 17592186044416) :
  InAt K (w2.setCell ⟨b, t, none⟩ (.slice (some ⟨w.heap.size, 0, none⟩) Ln Ln)) b w.heap.size Ln p t R (List.replicate Ln 0) := by
 obtain ⟨xs, h1, h2, h3, h4⟩ := h
 have hlt := h1.lt
 have h1' := h1.below' hb
 refine ⟨_, h1'.set_ t _, by simpa using h2, noDig_set h3 _ (show NoDig (.slice _ _ _) from trivial), List.getElem?_set_self (by omega), hlt, (hf.zeros h0 hK).far h1' h3 (by omega) _ _, fun j hg hp => ?_⟩
 obtain ⟨rb, e, hl, hfr⟩ := h4 j hg hp
 exact ⟨rb, by rw [List.getElem?_set_ne (by omega)]; exact e, hl, hfr.lt, (hfr.below hb).far h1' h3 (by omega) _ _⟩
theorem InAt.done {K : Nat} {w : World} {b cur Ln p t : Nat} {R : Nat → List Rat} {part : List Rat} (h : InAt K w b cur Ln p t R part) (he : part = R t) : RowsAt K w b Ln p t R := by
 obtain ⟨xs, h1, h2, h3, h4, h5, h6, h7⟩ := h
 refine ⟨xs, h1, h2, h3, fun j hg hp => ?_⟩
 rcases Nat.eq_or_lt_of_le hg with e | e
 ·subst e
  exact ⟨cur, h4, h5, he ▸ h6⟩
 ·obtain ⟨rb, e, hl, hlt, hf⟩ := h7 j e hp
  exact ⟨rb, e, hl, hf⟩
theorem InAt.cell {K : Nat} {w : World} {b cur Ln p t : Nat} {R : Nat → List Rat} {part : List Rat} (h : InAt K w b cur Ln p t R part) : w.cell? ⟨b, t, none⟩ = some (.slice (some ⟨cur, 0, none⟩) Ln Ln) ∧ cur < w.heap.size ∧ b < w.heap.size := by
 obtain ⟨xs, h1, h2, h3, h4, h5, h6, _⟩ := h
 exact ⟨(h1.cell t).trans h4, h6.lt, h1.lt⟩
theorem InAt.put {K : Nat} {w : World} {b cur Ln p t : Nat} {R : Nat → List Rat} {part : List Rat} (h : InAt K w b cur Ln p t R part) {i : Nat} (hi : i < part.length) {q : Rat} {s : Bool} {A A' : Option Addr} {m c m' c' : Nat} (hq : FracAt K w (.agg #[.bool s, .slice A m c, .slice A' m' c']) q) :
  InAt K (((w.setCell ⟨cur, i * 3, none⟩ (.bool s)).setCell ⟨cur, i * 3 + 1, none⟩ (.slice A m c)).setCell ⟨cur, i * 3 + 2, none⟩ (.slice A' m' c')) b cur Ln p t R (part.set i q) := by
 obtain ⟨xs, h1, h2, h3, h4, h5, h6, h7⟩ := h
 refine ⟨xs, ((h1.far (p := ⟨cur, i * 3, none⟩) (show b ≠ cur by omega) _).far (p := ⟨cur, i * 3 + 1, none⟩) (show b ≠ cur by omega) _).far (p := ⟨cur, i * 3 + 2, none⟩) (show b ≠ cur by omega) _, h2, h3, h4, h5, h6.put hi hq, fun j hg hp => ?_⟩
 obtain ⟨rb, e, hl, hlt, hf⟩ := h7 j hg hp
 exact ⟨rb, e, hl, hlt, hf.put_other h6 (by omega) _ _ _ _ _ _ _ _⟩
end Go.Proofs.YtlhankdkhiilkaaGreat
