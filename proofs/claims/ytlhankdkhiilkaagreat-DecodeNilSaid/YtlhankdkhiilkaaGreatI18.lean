/- Lemmas on the way: Gm3. -/
import Derived.Test.YtlhankdkhiilkaaGreatI17
import Derived.Deep.RegionLaw
set_option linter.unusedSimpArgs false
set_option linter.unusedVariables false
set_option linter.unusedSectionVars false
set_option linter.unnecessarySimpa false
namespace Go.Proofs.YtlhankdkhiilkaaGreat
open Go.RowKit
abbrev Gr := List Int × Int
def Apart (v u : Value) : Prop := ∀ ad n c, u = .slice (some ad) n c → Off v ad.block
def GCells (w : World) (u : Value) (base : Nat) (cells : List Value) (gs : List Gr) : Prop :=
 ∀ i g, gs[i]? = some g → ∃ c0, cells[i * 2]? = some c0 ∧ cells[i * 2 + 1]? = some (.int .i64 g.2) ∧ IntsAt w c0 g.1 ∧ From c0 base ∧ Apart c0 u
def GOwn (base : Nat) (w : World) (v : Value) (gs : List Gr) : Prop := ∃ cells, w.ownsRow base 213 2 v gs.length cells ∧ GCells w v base cells gs
def GramsAt (w : World) (v : Value) (gs : List Gr) : Prop := ∃ cells, Sl w 2 v gs.length cells ∧ ∀ i g, gs[i]? = some g → ∃ c0, cells[i * 2]? = some c0 ∧ cells[i * 2 + 1]? = some (.int .i64 g.2) ∧ IntsAt w c0 g.1
theorem GOwn.at_ {base : Nat} {w : World} {v : Value} {gs : List Gr} (h : GOwn base w v gs) : GramsAt w v gs := by
 obtain ⟨cells, h1, h2⟩ := h
 refine ⟨cells, Sl.of_own h1, fun i g hg => ?_⟩
 obtain ⟨c0, e0, e1, e2, _⟩ := h2 i g hg
 exact ⟨c0, e0, e1, e2⟩
theorem GramsAt.below {w w' : World} {v : Value} {gs : List Gr} (h : GramsAt w v gs) (hb : Below w.heap.size w w') : GramsAt w' v gs := by
 obtain ⟨cells, h1, h2⟩ := h
 refine ⟨cells, h1.below hb, fun i g hg => ?_⟩
 obtain ⟨c0, e0, e1, e2⟩ := h2 i g hg
 exact ⟨c0, e0, e1, e2.below hb⟩
theorem GOwn.nil_ (base : Nat) (w : World) : GOwn base w (.slice none 0 0) [] := ⟨[], World.ownsRow_nil .., fun i g hg => by simp at hg⟩
theorem own_below {w w' : World} {base : Nat} {e : TypeId} {sz : Nat} {v : Value} {n : Nat} {xs : List Value} (h : w.ownsRow base e sz v n xs) (hb : Below w.heap.size w w') : w'.ownsRow base e sz v n xs := by
 obtain ⟨h0, h1 | ⟨g, cap, cur, hv, hg, hh, hr⟩⟩ := h
 ·exact ⟨h0, .inl h1⟩
 ·exact ⟨h0, .inr ⟨g, cap, cur, hv, hg, (hb.block g (Array.getElem?_eq_some_iff.1 hh).1).trans hh, hr⟩⟩
theorem GOwn.below {base : Nat} {w w' : World} {v : Value} {gs : List Gr} (h : GOwn base w v gs) (hb : Below w.heap.size w w') : GOwn base w' v gs := by
 obtain ⟨cells, h1, h2⟩ := h
 refine ⟨cells, own_below h1 hb, fun i g hg => ?_⟩
 obtain ⟨c0, e0, e1, e2, e3, e4⟩ := h2 i g hg
 exact ⟨c0, e0, e1, e2.below hb, e3, e4⟩
theorem GramsAt.open_ {w : World} {v : Value} {gs : List Gr} (h : GramsAt w v gs) : ∃ A c, v = .slice A gs.length c ∧ gs.length ≤ c ∧ c ≤ 9223372036854775807 ∧
  ∀ j g, gs[j]? = some g → ∃ b off c0, A = some ⟨b, off, none⟩ ∧ b < w.heap.size ∧ w.cell? ⟨b, off + j * 2, none⟩ = some c0 ∧ w.cell? ⟨b, off + j * 2 + 1, none⟩ = some (.int .i64 g.2) ∧ IntsAt w c0 g.1 := by
 obtain ⟨cells, h1, h2⟩ := h
 obtain ⟨h0, A, c, rfl, hc, hm, h5⟩ := h1
 refine ⟨A, c, rfl, hc, by unfold maxLen at hm; omega, fun j x hx => ?_⟩
 have hj := (List.getElem?_eq_some_iff.1 hx).1
 obtain ⟨b, off, e, hlt, hcell⟩ := h5 (by omega)
 obtain ⟨c0, e0, e1, hf⟩ := h2 j x hx
 exact ⟨b, off, c0, e, hlt, hcell _ _ e0, by have := hcell _ _ e1; rwa [← Nat.add_assoc] at this, hf⟩

theorem IntsAt.len {w : World} {v : Value} {l : List Int} (h : IntsAt w v l) : ∃ A c, v = .slice A l.length c := by
 obtain ⟨A, c, e, _⟩ := h.open_
 exact ⟨A, c, e⟩
theorem Sl.head {w : World} {sz : Nat} {A : Option Addr} {c n k : Nat} {xs : List Value} (h : Sl w sz (.slice A n c) n xs) (hk : k ≤ n) : Sl w sz (.slice A k c) k (xs.take (k * sz)) := by
 obtain ⟨h0, A', c', h1, h2, h3, h4⟩ := h
 cases h1
 have hks : k * sz ≤ n * sz := Nat.mul_le_mul_right _ hk
 refine ⟨by rw [List.length_take]; omega, A, c, rfl, by omega, h3, fun hk0 => ?_⟩
 obtain ⟨b, off, rfl, hb, hc⟩ := h4 (by omega)
 exact ⟨b, off, rfl, hb, fun j u hu => hc j u (by rw [List.getElem?_take] at hu; split at hu <;> simp_all)⟩
theorem Sl.tail {w : World} {sz : Nat} {b off : Nat} {c n k : Nat} {xs : List Value} (h : Sl w sz (.slice (some ⟨b, off, none⟩) n c) n xs) (hk : k ≤ n) : Sl w sz (.slice (some ⟨b, off + k * sz, none⟩) (n - k) (c - k)) (n - k) (xs.drop (k * sz)) := by
 obtain ⟨h0, A', c', h1, h2, h3, h4⟩ := h
 cases h1
 refine ⟨by rw [List.length_drop, h0, Nat.sub_mul], _, _, rfl, by omega, by omega, fun hk0 => ?_⟩
 obtain ⟨b', off', e, hb, hc⟩ := h4 (by omega)
 cases e
 refine ⟨b, off + k * sz, rfl, hb, fun j u hu => ?_⟩
 rw [List.getElem?_drop] at hu
 rw [Nat.add_assoc]
 exact hc _ u hu
theorem Sl.none_ (w : World) (sz : Nat) (A : Option Addr) (c : Nat) (hc : c ≤ maxLen) : Sl w sz (.slice A 0 c) 0 [] := ⟨by simp, A, c, rfl, Nat.zero_le _, hc, fun h => absurd h (by omega)⟩
theorem own_mono {w : World} {base base' : Nat} {e : TypeId} {sz : Nat} {v : Value} {n : Nat} {xs : List Value} (h : w.ownsRow base e sz v n xs) (hb : base' ≤ base) : w.ownsRow base' e sz v n xs := by
 obtain ⟨h0, h1 | ⟨g, cap, cur, hv, hg, hr⟩⟩ := h
 ·exact ⟨h0, .inl h1⟩
 ·exact ⟨h0, .inr ⟨g, cap, cur, hv, Nat.le_trans hb hg, hr⟩⟩
theorem own_from {w : World} {base : Nat} {e : TypeId} {sz : Nat} {v : Value} {n : Nat} {xs : List Value} (h : w.ownsRow base e sz v n xs) : From v base := From.of_own h

theorem Sl.two (w : World) (x y : Value) (e : TypeId) : Sl (w.alloc (.cells #[x, y] e)) 2 (.slice (some ⟨w.heap.size, 0, none⟩) 1 1) 1 [x, y] := by
 have := (Blk.new w e [x, y]).sl (sz := 2) (n := 1) (c := 1) (by simp) (by omega) (by unfold maxLen; omega)
 simpa using this
theorem IntsAt.off {w : World} {v : Value} {l : List Int} (h : IntsAt w v l) {F : Nat} (hf : w.heap.size ≤ F) : Off v F := Sl.off h hf
theorem GOwn.insert {base F : Nat} {w w' : World} {u v wsl : Value} {gs : List Gr} {CS : List Value} {ws : List Int} {n : Int} {k m : Nat} (hm : CS.length = m * 2) (hgl : gs.length = m) (hc : GCells w u base CS gs) (hb : Below w.heap.size w w') (hF : w.heap.size ≤ F)
  (hown : w'.ownsRow F 213 2 v (m + 1) (CS.take (k * 2) ++ [wsl, .int .i64 n] ++ CS.drop (k * 2))) (hN : IntsAt w' wsl ws) (hf : From wsl base) (ho : ∀ B, F ≤ B → Off wsl B) (hk : k ≤ m) (hbF : base ≤ F) :
  GOwn base w' v (gs.take k ++ (ws, n) :: gs.drop k) := by
 refine ⟨_, by simpa [hgl, Nat.min_eq_left hk, show k + (m - k + 1) = m + 1 by omega] using own_mono hown hbF, ?_⟩
 have hfr := own_from hown
 have hap : ∀ c0 : Value, (∀ B, F ≤ B → Off c0 B) → Apart c0 v := fun c0 h ad a b e => h _ (hfr ad a b e)
 intro i g hg
 have hlt : (CS.take (k * 2)).length = k * 2 := by rw [List.length_take]; omega
 have hgt : (gs.take k).length = k := by rw [List.length_take]; omega
 rcases Nat.lt_trichotomy i k with h | h | h
 ·rw [List.getElem?_append_left (by omega), List.getElem?_take_of_lt h] at hg
  obtain ⟨c0, e0, e1, e2, e3, e4⟩ := hc i g hg
  refine ⟨c0, ?_, ?_, e2.below hb, e3, hap c0 fun B hB => e2.off (Nat.le_trans hF hB)⟩
  ·rw [List.getElem?_append_left (by omega), List.getElem?_take_of_lt (by omega), e0]
  ·rw [List.getElem?_append_left (by omega), List.getElem?_take_of_lt (by omega), e1]
 ·subst h
  rw [List.getElem?_append_right (by omega), hgt, Nat.sub_self] at hg
  cases hg
  refine ⟨wsl, ?_, ?_, hN, hf, hap wsl ho⟩
  ·rw [List.getElem?_append_right (by omega), hlt, Nat.sub_self]; rfl
  ·rw [List.getElem?_append_right (by omega), hlt, show i * 2 + 1 - i * 2 = 1 by omega]; rfl
 ·rw [List.getElem?_append_right (by omega), hgt, show i - k = (i - 1 - k) + 1 by omega, List.getElem?_cons_succ, List.getElem?_drop, show k + (i - 1 - k) = i - 1 by omega] at hg
  obtain ⟨c0, e0, e1, e2, e3, e4⟩ := hc (i - 1) g hg
  refine ⟨c0, ?_, ?_, e2.below hb, e3, hap c0 fun B hB => e2.off (Nat.le_trans hF hB)⟩
  ·rw [List.getElem?_append_right (by omega), hlt, show i * 2 - k * 2 = (i * 2 - k * 2 - 2) + 1 + 1 by omega, List.getElem?_cons_succ, List.getElem?_cons_succ, List.getElem?_drop, ← e0]
   congr 1
   omega
  ·rw [List.getElem?_append_right (by omega), hlt, show i * 2 + 1 - k * 2 = (i * 2 + 1 - k * 2 - 2) + 1 + 1 by omega, List.getElem?_cons_succ, List.getElem?_cons_succ, List.getElem?_drop, ← e1]
   congr 1
   omega

def putL : List Gr → List Int → Int → List Gr
 | [], ws, n => [(ws, n)]
 | g :: gs, ws, n => if ordL g.1 ws < 0 then g :: putL gs ws n else if ordL g.1 ws = 0 then (g.1, g.2 + n) :: gs else (ws, n) :: g :: gs
end Go.Proofs.YtlhankdkhiilkaaGreat
