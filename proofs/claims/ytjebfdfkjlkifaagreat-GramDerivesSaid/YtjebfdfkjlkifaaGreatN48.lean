/- Lemmas. -/
import Derived.Test.YtjebfdfkjlkifaaGreatN47
set_option linter.all false
set_option maxRecDepth 1000000
set_option maxHeartbeats 32000000
namespace Go.Proofs.YtjebfdfkjlkifaaGreat
open Go.RowKit
section
theorem xF (q : Rat) : bX [q] = q := by simp only [bX, List.foldl_cons, List.foldl_nil]; rw [Rat.zero_add]
variable {row : List Int -> List Rat} {V : Nat}
end
def LLOwn (B : Nat) (w : World) (v : Value) (ls : List (List Int)) : Prop := ∃ cells, w.ownsRow B 44 1 v ls.length cells /\
 ∀ (i : Nat) (l : List Int), ls[i]? = some l -> ∃ c0, cells[i]? = some c0 /\ IntsAt w c0 l /\ From c0 B /\ ∀ b, v.ownBlock = some b -> Off c0 b
theorem Same.refl (F : Nat) (w : World) : Same F w w := ⟨nR _, fun _ _ _ => rfl⟩
theorem Same.trans {F : Nat} {w w1 w2 : World} (h : Same F w w1) (h' : Same F w1 w2) : Same F w w2 :=
 ⟨Nat.le_trans h.1 h'.1, fun b hb hl => (h'.2 b hb (Nat.lt_of_lt_of_le hl h.1)).trans (h.2 b hb hl)⟩
theorem Same.of_below {F : Nat} {w w' : World} (h : Below w.heap.size w w') : Same F w w' := ⟨h.size, fun b _ hl => h.block b hl⟩
theorem Same.set3 {F b : Nat} (w : World) (hb : b < F) (i j k : Nat) (u0 u1 u2 : Value) : Same F w (((w.setCell ⟨b, i, none⟩ u0).setCell ⟨b, j, none⟩ u1).setCell ⟨b, k, none⟩ u2) := by
 have e : ∀ (w : World) (i : Nat) (u : Value), Same F w (w.setCell ⟨b, i, none⟩ u) := fun w i u =>
  ⟨by simp, fun c hc _ => Below.heap_setCell w ⟨b, i, none⟩ u c (by show c ≠ b; omega)⟩
 exact ((e w i u0).trans (e _ j u1)).trans (e _ k u2)
theorem LLOwn.nil_ (B : Nat) (w : World) : LLOwn B w (.slice none 0 0) [] := ⟨[], World.ownsRow_nil .., fun i l hl => by simp at hl⟩
theorem LLOwn.same {B : Nat} {w w' : World} {v : Value} {ls : List (List Int)} (h : LLOwn B w v ls) (hs : Same B w w') : LLOwn B w' v ls := by
 obtain ⟨cells, h1, h2⟩ := h
 refine ⟨cells, ?_, fun i l hl => ?_⟩
 ·obtain ⟨h0, h3 | ⟨g, cap, cur, hv, hg, hh, hr⟩⟩ := h1
  ·exact ⟨h0, .inl h3⟩
  exact ⟨h0, .inr ⟨g, cap, cur, hv, hg, (hs.2 g hg (Array.getElem?_eq_some_iff.1 hh).1).trans hh, hr⟩⟩
 obtain ⟨c0, e0, e1, e2, e3⟩ := h2 i l hl
 exact ⟨c0, e0, Sl.same e1 e2 hs, e2, e3⟩
theorem LLOwn.below {B : Nat} {w w' : World} {v : Value} {ls : List (List Int)} (h : LLOwn B w v ls) (hb : Below w.heap.size w w') : LLOwn B w' v ls := h.same (Same.of_below hb)
theorem LLOwn.new {B F : Nat} {w : World} {v : Value} {ls : List (List Int)} (h : LLOwn B w v ls) (hF : F <= B) : ListsNew F w v ls := by
 obtain ⟨cells, h1, h2⟩ := h
 refine ⟨cells, Sl.of_own h1, (From.of_own h1).mono hF, fun i l hl => ?_⟩
 obtain ⟨c0, e0, e1, e2, _⟩ := h2 i l hl
 exact ⟨c0, e0, e1, e2.mono hF⟩
theorem LLOwn.push {B : Nat} {w w1 w' : World} {v v' c : Value} {ls : List (List Int)} {l : List Int} {cells : List Value} (h2 : ∀ (i : Nat) (l : List Int), ls[i]? = some l -> ∃ c0, cells[i]? = some c0 /\ IntsAt w c0 l /\ From c0 B /\ ∀ b, v.ownBlock = some b -> Off c0 b) (hlen : cells.length = ls.length)
  (hw : Same B w w1) (hc : IntsAt w1 c l) (hcf : From c B) (hco : ∀ b, v.ownBlock = some b -> Off c b) (hown : w'.ownsRow B 44 1 v' (ls.length + 1) (cells ++ [c])) (hg : w1.grownBy w' v.ownBlock) (hb : v'.ownBlock = v.ownBlock ∨ v'.ownBlock = some w1.heap.size) : LLOwn B w' v' (ls ++ [l]) := by
 refine ⟨cells ++ [c], by rw [List.length_append]; exact hown, fun i m hm => ?_⟩
 have key : ∀ (c0 : Value) (m : List Int), IntsAt w1 c0 m -> (∀ b, v.ownBlock = some b -> Off c0 b) -> IntsAt w' c0 m /\ ∀ b, v'.ownBlock = some b -> Off c0 b := fun c0 m h1 h3 =>
  ⟨Sl.keptOff h1 hg h3, fun b hb' => by
   rcases hb with e | e
   ·exact h3 b (e ▸ hb')
   rw [e] at hb'
   cases hb'
   exact IntsAt.off h1 (nR _)⟩
 by_cases hi : i < ls.length
 ·rw [List.getElem?_append_left hi] at hm
  obtain ⟨c0, e0, e1, e2, e3⟩ := h2 i m hm
  obtain ⟨k1, k2⟩ := key c0 m (Sl.same e1 e2 hw) e3
  exact ⟨c0, by rw [List.getElem?_append_left (by omega)]; exact e0, k1, e2, k2⟩
 rw [List.getElem?_append_right (by omega)] at hm
 have hi2 : i = ls.length := by
  have := (sI.1 hm).1
  simp at this
  omega
 subst hi2
 rw [Nat.sub_self] at hm
 cases hm
 obtain ⟨k1, k2⟩ := key c l hc hco
 exact ⟨c, by rw [List.getElem?_append_right (by omega), hlen, Nat.sub_self]; rfl, k1, hcf, k2⟩

def BoxA (w : World) (b : Nat) (q : Rat) (v : Value) : Prop := ∃ A m c A' m' c', Blk w b 40 [.bool (ae q), .slice A m c, .slice A' m' c'] /\ CanAt w (.agg #[.bool (ae q), .slice A m c, .slice A' m' c']) q /\ ∀ r, v.ownBlock = some r -> Off (.slice A m c) r /\ Off (.slice A' m' c') r /\ b ≠ r
theorem BoxA.box {w : World} {b : Nat} {q : Rat} {v : Value} (h : BoxA w b q v) : BoxC w b q := by
 obtain ⟨A, m, c, A', m', c', h1, h2, _⟩ := h
 exact BoxC.of h1 h2
theorem BoxA.below {w w' : World} {b : Nat} {q : Rat} {v : Value} (h : BoxA w b q v) (hb : Below w.heap.size w w') : BoxA w' b q v := by
 obtain ⟨A, m, c, A', m', c', h1, h2, h3⟩ := h
 exact ⟨A, m, c, A', m', c', h1.below' hb, h2.below hb, h3⟩
theorem NatAt.keptOff {w w' : World} {v : Value} {n : Nat} {row : Option Nat} (h : NatAt w v n) (hg : w.grownBy w' row) (ho : ∀ b, row = some b -> Off v b) : NatAt w' v n := by
 obtain ⟨l, ⟨h1, h2⟩, h3⟩ := h
 exact ⟨l, ⟨Sl.keptOff h1 hg ho, h2⟩, h3⟩
theorem NatAt.offNew {w : World} {v : Value} {n F : Nat} (h : NatAt w v n) (hf : w.heap.size <= F) : Off v F := by
 obtain ⟨l, ⟨h1, _⟩, _⟩ := h
 exact Sl.off h1 hf
theorem BoxA.push {w w' : World} {b : Nat} {q : Rat} {v v' : Value} (h : BoxA w b q v) (hg : w.grownBy w' v.ownBlock) (hb : v'.ownBlock = v.ownBlock ∨ v'.ownBlock = some w.heap.size) : BoxA w' b q v' := by
 obtain ⟨A, m, c, A', m', c', h1, ⟨vn, vd, e, n1, n2⟩, h3⟩ := h
 have e' : [Value.bool (ae q), .slice A m c, .slice A' m' c'] = [.bool (ae q), vn, vd] := by
  injection e with e
  exact congrArg Array.toList e
 simp only [List.cons.injEq, and_true, true_and] at e'
 obtain ⟨rfl, rfl⟩ := e'
 refine ⟨A, m, c, A', m', c', h1.grown hg (fun e => (h3 b e.symm).2.2 rfl), ⟨_, _, rfl, n1.keptOff hg (fun r hr => (h3 r hr).1), n2.keptOff hg (fun r hr => (h3 r hr).2.1)⟩, fun r hr => ?_⟩
 rcases hb with e | e
 ·exact h3 r (e ▸ hr)
 rw [e] at hr
 cases hr
 exact ⟨n1.offNew (nR _), n2.offNew (nR _), by have := h1.lt; omega⟩
theorem BoxA.put {w : World} {b B : Nat} {q r : Rat} {v : Value} {A A' : Option Addr} {m c m' c' : Nat} (h : BoxC w b r) (hq : CanNew B w (.agg #[.bool (ae q), .slice A m c, .slice A' m' c']) q) (hv : ∀ x, v.ownBlock = some x -> x < B /\ b ≠ x) :
  BoxA (((w.setCell ⟨b, 0, none⟩ (.bool (ae q))).setCell ⟨b, 1, none⟩ (.slice A m c)).setCell ⟨b, 2, none⟩ (.slice A' m' c')) b q v := by
 have hk := FArc.keeps h hq.at_ 0 1 2 (ae q) A A' m c m' c'
 obtain ⟨vn, vd, e, _, _, f1, f2⟩ := hq
 have e' : [Value.bool (ae q), .slice A m c, .slice A' m' c'] = [.bool (ae q), vn, vd] := by
  injection e with e
  exact congrArg Array.toList e
 simp only [List.cons.injEq, and_true, true_and] at e'
 obtain ⟨rfl, rfl⟩ := e'
 obtain ⟨xs, h1, h2, _, _⟩ := h
 refine ⟨A, m, c, A', m', c', ?_, hk, fun x hx => ⟨f1.off (hv x hx).1, f2.off (hv x hx).1, (hv x hx).2⟩⟩
 have h3 := ((h1.set_ 0 (.bool (ae q))).set_ 1 (.slice A m c)).set_ 2 (.slice A' m' c')
 have e2 : ((xs.set 0 (.bool (ae q))).set 1 (.slice A m c)).set 2 (.slice A' m' c') = [.bool (ae q), .slice A m c, .slice A' m' c'] := by
  have h4 : xs.length = 3 := by simpa using h2
  match xs, h4 with
  | [_, _, _], _ => rfl
 rwa [e2] at h3

theorem own_lt {w : World} {base : Nat} {e : TypeId} {sz : Nat} {v : Value} {n : Nat} {xs : List Value} (h : w.ownsRow base e sz v n xs) {b : Nat} (hb : v.ownBlock = some b) : b < w.heap.size := by
 obtain ⟨_, ⟨rfl, _⟩ | ⟨g, cap, cur, rfl, _, hh, _⟩⟩ := h
 ·simp [Value.ownBlock] at hb
 simp [Value.ownBlock] at hb
 subst hb
 exact (Array.getElem?_eq_some_iff.1 hh).1

theorem sgn_le {q r : Rat} (h : q <= r) : aU (q - r) <= 0 := by
 unfold aU
 split
 ·omega
 split
 ·omega
 next h1 h2 => exact absurd h (fun h => by grind)
end Go.Proofs.YtjebfdfkjlkifaaGreat
