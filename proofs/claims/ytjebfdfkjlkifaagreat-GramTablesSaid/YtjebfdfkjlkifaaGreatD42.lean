/- Lemmas on the way: Srd, Lc1, Dat. -/
import Derived.Test.YtjebfdfkjlkifaaGreatC38
import Derived.Test.YtjebfdfkjlkifaaGreatD41
import Derived.Deep.Matrix
set_option linter.unusedSimpArgs false
set_option linter.unusedVariables false
set_option linter.unusedSectionVars false
set_option linter.unnecessarySimpa false
namespace Go.Proofs.YtjebfdfkjlkifaaGreat
open Go.RowKit
def SortOk : Prop := ∀ W B A n c gs, GOwn B W (.slice A n c) gs → gs.length = n → n ≤ 20000 → B ≤ W.heap.size → Calls Tryz.prog 136 #[.slice A n c, .func (.func 137) #[] #[]] W fun e w' => e = .returned (.tuple #[]) ∧ ∃ gs' : List Gr, gs'.Perm gs ∧ SortedG gs' ∧ GOwn B w' (.slice A n c) gs' ∧ Below B W w'
theorem knownS (h : SortOk) (w : World) : Calls Tryz.prog 18 #[] w fun e w' => e = .returned (.bool true) ∧ Below w.heap.size w w' := knownG w h
theorem grams_nil (w : World) : GramsAt w (.slice none 0 0) [] := (GOwn.nil_ 0 w).at_
section
open Go.RowKit Go.ChangeShapes Go.WideShapes

theorem ints_row {w : World} {A : Option Addr} {L C : Nat} {Z : List Int} (h1 : L ≤ C) (h2 : C ≤ maxLen) (h3 : Z.length = C) (h4 : A = none → C = 0) (h5 : ∀ a', A = some a' → ∀ c, c < C → w.cell? (a'.add c) = some (.int .i64 (Z.getD c 0))) : IntsAt w (.slice A L C) (Z.take L) := by
 have hl : (Z.take L).length = L := by rw [List.length_take]; omega
 refine ⟨by rw [List.length_map, Nat.mul_one], A, C, by rw [hl], by rw [hl]; exact h1, h2, fun hn => ?_⟩
 rw [hl] at hn
 cases A with
 | none => have := h4 rfl; omega
 | some a' =>
  obtain ⟨b, off, s⟩ := a'
  have h0 := h5 _ rfl 0 (by omega)
  have hs : s = none := by simpa [Addr.add] using World.cell?_spot h0
  subst hs
  refine ⟨b, off, rfl, ?_, fun j u hu => ?_⟩
  ·rw [add_plain] at h0
   exact block_lt_of_cell h0
  ·rw [List.getElem?_map] at hu
   cases hz : (Z.take L)[j]? with
   | none => rw [hz] at hu; cases hu
   | some z =>
    rw [hz] at hu
    cases hu
    have hj := (List.getElem?_eq_some_iff.1 hz).1
    rw [hl] at hj
    have hc := h5 _ rfl j (by omega)
    rw [add_plain] at hc
    rw [hc, List.getD_eq_getElem?_getD]
    rw [List.getElem?_take_of_lt hj] at hz
    rw [hz]
    rfl
end
end Go.Proofs.YtjebfdfkjlkifaaGreat
