/- Lemmas on the way: Gm4, Gm5, Gm6. -/
import Derived.Test.YtlhankdkhiilkaaGreatI18
set_option linter.unusedSimpArgs false
set_option linter.unusedVariables false
set_option linter.unusedSectionVars false
set_option linter.unnecessarySimpa false
namespace Go.Proofs.YtlhankdkhiilkaaGreat
open Go.RowKit
def ListsAt (w : World) (v : Value) (ls : List (List Int)) : Prop := ∃ cells, Sl w 1 v ls.length cells ∧ ∀ (i : Nat) (l : List Int), ls[i]? = some l → ∃ c0, cells[i]? = some c0 ∧ IntsAt w c0 l
theorem ListsAt.below {w w' : World} {v : Value} {ls : List (List Int)} (h : ListsAt w v ls) (hb : Below w.heap.size w w') : ListsAt w' v ls := by
 obtain ⟨cells, h1, h2⟩ := h
 refine ⟨cells, h1.below hb, fun i l hl => ?_⟩
 obtain ⟨c0, e0, e1⟩ := h2 i l hl
 exact ⟨c0, e0, e1.below hb⟩
theorem ListsAt.open_ {w : World} {v : Value} {ls : List (List Int)} (h : ListsAt w v ls) : ∃ A c, v = .slice A ls.length c ∧ ls.length ≤ c ∧ c ≤ 9223372036854775807 ∧
  ∀ j l, ls[j]? = some l → ∃ b off c0, A = some ⟨b, off, none⟩ ∧ b < w.heap.size ∧ w.cell? ⟨b, off + j, none⟩ = some c0 ∧ IntsAt w c0 l := by
 obtain ⟨cells, h1, h2⟩ := h
 obtain ⟨h0, A, c, rfl, hc, hm, h5⟩ := h1
 refine ⟨A, c, rfl, hc, by unfold maxLen at hm; omega, fun j x hx => ?_⟩
 have hj := (List.getElem?_eq_some_iff.1 hx).1
 obtain ⟨b, off, e, hlt, hcell⟩ := h5 (by omega)
 obtain ⟨c0, e0, hf⟩ := h2 j x hx
 exact ⟨b, off, c0, e, hlt, hcell _ _ e0, hf⟩

def ListsNew (F : Nat) (w : World) (v : Value) (ls : List (List Int)) : Prop := ∃ cells, Sl w 1 v ls.length cells ∧ From v F ∧ ∀ (i : Nat) (l : List Int), ls[i]? = some l → ∃ c0, cells[i]? = some c0 ∧ IntsAt w c0 l ∧ From c0 F
theorem ListsNew.at_ {F : Nat} {w : World} {v : Value} {ls : List (List Int)} (h : ListsNew F w v ls) : ListsAt w v ls := by
 obtain ⟨cells, h1, _, h2⟩ := h
 exact ⟨cells, h1, fun i l hl => by
  obtain ⟨c0, e0, e1, _⟩ := h2 i l hl
  exact ⟨c0, e0, e1⟩⟩
def Same (F : Nat) (w w' : World) : Prop := w.heap.size ≤ w'.heap.size ∧ ∀ b, F ≤ b → b < w.heap.size → w'.heap[b]? = w.heap[b]?
theorem cell_of_heap {w w' : World} {b : Nat} (h : w'.heap[b]? = w.heap[b]?) (o : Nat) : w'.cell? ⟨b, o, none⟩ = w.cell? ⟨b, o, none⟩ := by
 simp only [World.cell?, h]
theorem Sl.same {F : Nat} {w w' : World} {sz : Nat} {v : Value} {n : Nat} {xs : List Value} (h : Sl w sz v n xs) (hf : From v F) (hs : Same F w w') : Sl w' sz v n xs := by
 obtain ⟨h0, A, c, rfl, h2, h3, h5⟩ := h
 refine ⟨h0, A, c, rfl, h2, h3, fun hn => ?_⟩
 obtain ⟨b, off, e, hlt, hc⟩ := h5 hn
 subst e
 exact ⟨b, off, rfl, Nat.lt_of_lt_of_le hlt hs.1, fun j u hu => (cell_of_heap (hs.2 b (hf _ _ _ rfl) hlt) _).trans (hc j u hu)⟩
theorem ListsNew.same {F : Nat} {w w' : World} {v : Value} {ls : List (List Int)} (h : ListsNew F w v ls) (hs : Same F w w') : ListsNew F w' v ls := by
 obtain ⟨cells, h1, hf, h2⟩ := h
 refine ⟨cells, h1.same hf hs, hf, fun i l hl => ?_⟩
 obtain ⟨c0, e0, e1, e2⟩ := h2 i l hl
 exact ⟨c0, e0, Sl.same e1 e2 hs, e2⟩
def GoodL (m : Nat) (K : Nat) (gs : List Gr) : Prop := gs.length ≤ K ∧ ∀ g ∈ gs, g.1.length = m + 1 ∧ 0 ≤ g.2 ∧ g.2 ≤ K
theorem GoodL.nil_ (m : Nat) : GoodL m 0 [] := ⟨by simp, by simp⟩
theorem putL_mem {gs : List Gr} {ws : List Int} {n : Int} {g : Gr} (h : g ∈ putL gs ws n) : g ∈ gs ∨ g = (ws, n) ∨ ∃ x ∈ gs, g = (x.1, x.2 + n) := by
 induction gs with
 | nil => simp [putL] at h; exact .inr (.inl h)
 | cons x gs ih =>
  unfold putL at h
  split at h
  ·rcases List.mem_cons.1 h with rfl | h
   ·exact .inl (by simp)
   ·rcases ih h with h | h | ⟨y, hy, e⟩
    ·exact .inl (by simp [h])
    ·exact .inr (.inl h)
    ·exact .inr (.inr ⟨y, by simp [hy], e⟩)
  ·split at h
   ·rcases List.mem_cons.1 h with rfl | h
    ·exact .inr (.inr ⟨x, by simp, rfl⟩)
    ·exact .inl (by simp [h])
   ·rcases List.mem_cons.1 h with rfl | h
    ·exact .inr (.inl rfl)
    ·exact .inl h
theorem putL_length (gs : List Gr) (ws : List Int) (n : Int) : (putL gs ws n).length ≤ gs.length + 1 := by
 induction gs with
 | nil => simp [putL]
 | cons x gs ih =>
  unfold putL
  split
  ·simp; omega
  ·split <;> simp
theorem GoodL.put {m K : Nat} {gs : List Gr} {ws : List Int} {n : Nat} (h : GoodL m K gs) (hw : ws.length = m + 1) (hn : 1 ≤ n) : GoodL m (K + n) (putL gs ws n) := by
 refine ⟨by have := putL_length gs ws n; have := h.1; omega, fun g hg => ?_⟩
 rcases putL_mem hg with h' | rfl | ⟨x, hx, rfl⟩
 ·have := h.2 g h'; omega
 ·simp only; omega
 ·have := h.2 x hx; simp only; omega
theorem GoodL.mono {m K K' : Nat} {gs : List Gr} (h : GoodL m K gs) (hk : K ≤ K') : GoodL m K' gs := ⟨Nat.le_trans h.1 hk, fun g hg => by have := h.2 g hg; omega⟩

theorem own_setFar {w : World} {base : Nat} {e : TypeId} {sz : Nat} {v : Value} {n : Nat} {xs : List Value} (h : w.ownsRow base e sz v n xs) {p : Addr} (hp : p.block < base) (u : Value) : (w.setCell p u).ownsRow base e sz v n xs := by
 obtain ⟨h0, h1 | ⟨g, cap, cur, hv, hg, hh, hr⟩⟩ := h
 ·exact ⟨h0, .inl h1⟩
 ·exact ⟨h0, .inr ⟨g, cap, cur, hv, hg, (Below.heap_setCell w p u g (by omega)).trans hh, hr⟩⟩
theorem GOwn.setFar {base : Nat} {w : World} {v : Value} {gs : List Gr} (h : GOwn base w v gs) {p : Addr} (hp : p.block < base) (u : Value) : GOwn base (w.setCell p u) v gs := by
 obtain ⟨cells, h1, h2⟩ := h
 refine ⟨cells, own_setFar h1 hp u, fun i g hg => ?_⟩
 obtain ⟨c0, e0, e1, e2, e3, e4⟩ := h2 i g hg
 exact ⟨c0, e0, e1, Sl.setFar e2 e3 hp u, e3, e4⟩
theorem GOwn.mono {base base' : Nat} {w : World} {v : Value} {gs : List Gr} (h : GOwn base w v gs) (hb : base' ≤ base) : GOwn base' w v gs := by
 obtain ⟨cells, h1, h2⟩ := h
 refine ⟨cells, own_mono h1 hb, fun i g hg => ?_⟩
 obtain ⟨c0, e0, e1, e2, e3, e4⟩ := h2 i g hg
 exact ⟨c0, e0, e1, e2, e3.mono hb, e4⟩
theorem GOwn.len {base : Nat} {w : World} {v : Value} {gs : List Gr} (h : GOwn base w v gs) : ∃ A c, v = .slice A gs.length c := by
 obtain ⟨A, c, e, _⟩ := h.at_.open_
 exact ⟨A, c, e⟩
section
open Go.RowKit
end
end Go.Proofs.YtlhankdkhiilkaaGreat
