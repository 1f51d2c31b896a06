/- Lemmas on the way: @rH. -/
import Derived.Test.YtjebfdfkjlkifaaGreatE45
set_option linter.unusedSimpArgs false
set_option linter.unusedVariables false
set_option linter.unusedSectionVars false
set_option linter.unnecessarySimpa false
namespace Go.Proofs.YtjebfdfkjlkifaaGreat
open Go.RowKit
theorem any_step {α : Type} {p : α → Bool} {l : List α} {j : Nat} {x : α} (hx : l[j]? = some x) : (l.drop j).any p = (p x || (l.drop (j + 1)).any p) := by
 have hj := (List.getElem?_eq_some_iff.1 hx).1
 have : l[j] = x := by rw [List.getElem?_eq_getElem hj] at hx; injection hx
 rw [List.drop_eq_getElem_cons hj, this]
 rfl
def spokeE (V : Int) (ls : List (List Int)) : Int := if anyLong ls = true then 5 else if anyOut V ls = true then 2 else 0
set_option maxRecDepth 1000000 in
set_option maxHeartbeats 4000000 in
theorem spokenG (w : World) (V : Int) (v : Value) (ls : List (List Int)) (h : ListsAt w v ls) :
  Calls Tryz.prog 20 #[.int .i64 V, v] w fun e w' => e = .returned (.int .i64 (spokeE V ls)) ∧ Below w.heap.size w w' := by
 obtain ⟨A, ca, rfl, hlc, hcm, hA⟩ := h.open_
 have HA := Lib.hid hA
 clear h hA
 obtain ⟨n, hn⟩ : ∃ n, ls.length = n := ⟨_, rfl⟩
 rw [hn] at hlc ⊢
 have HN := Lib.hid hn
 clear hn
 have HL0 : Hid (anyLong ls = (ls.drop 0).any fun l => decide (500 < l.length)) := Lib.hid rfl
 have HO0 : Hid (anyOut V ls = (ls.drop 0).any fun l => !inR 1 V l) := Lib.hid rfl
 go_enter Tryz.func20, Tryz.ntmps20
 go_wp2_with fail
 go_loopg [5] n (fun g i wr => ∃ (j : Nat), wr = w ∧ i = .int .i64 j ∧ j + g = n ∧ Hid (anyLong ls = (ls.drop j).any fun l => decide (500 < l.length)))
 case atStart => exact ⟨0, rfl, rfl, by omega, HL0⟩
 case round =>
  obtain ⟨j, rfl, rfl, hj, HQ⟩ := hrel
  rcases Nat.eq_zero_or_pos gk with h | h
  ·obtain rfl : j = n := by omega
   have HF : Hid (anyLong ls = false) := Lib.hid (by rw [HQ.out, List.drop_eq_nil_of_le (by rw [HN.out]; exact Nat.le_refl _)]; rfl)
   go_wp2_with fail
   obtain ⟨n, hn⟩ : ∃ n, n = j := ⟨_, rfl⟩
   rw [← hn] at HN hlc ⊢
   clear hj HQ h hn
   obtain ⟨w, hw, HWR⟩ : ∃ w, w = wr ∧ Hid (Below wr.heap.size wr w) := ⟨_, rfl, Lib.hid (Below.refl _ _)⟩
   conv at HA => rw [← hw]
   conv => arg 5; rw [← hw]
   clear hw
   go_loopg [6] n (fun g i wr => ∃ (j : Nat), i = .int .i64 j ∧ j + g = n ∧ Hid (Below w.heap.size w wr) ∧ Hid (anyOut V ls = (ls.drop j).any fun l => !inR 1 V l))
   case atStart => exact ⟨0, rfl, by omega, Lib.hid (Below.refl _ _), HO0⟩
   case round =>
    obtain ⟨j, rfl, hj, BEL, HQ⟩ := hrel
    rcases Nat.eq_zero_or_pos gk with h | h
    ·obtain rfl : j = n := by omega
     have HT : Hid (spokeE V ls = 0) := Lib.hid (by unfold spokeE; rw [HF.out, HQ.out, List.drop_eq_nil_of_le (by rw [HN.out]; exact Nat.le_refl _)]; rfl)
     go_wp2_with fail
     go_ret
     exact ⟨by rw [HT.out]; rfl, HWR.out.trans (BEL.out.mono HWR.out.size)⟩
    ·obtain ⟨g, rfl⟩ : ∃ g, gk = g + 1 := ⟨gk - 1, by omega⟩
     obtain ⟨x, hx⟩ : ∃ x, ls[j]? = some x := ⟨_, List.getElem?_eq_getElem (by rw [HN.out]; omega)⟩
     obtain ⟨ba, oa, c0, rfl, hba, hc0, hi0⟩ := HA.out j x hx
     have hc := (BEL.out.cell (p := ⟨ba, oa + j, none⟩) hba).trans hc0
     have HI := Lib.hid (hi0.below BEL.out)
     have ST := Lib.hid (HQ.out.trans (any_step hx))
     clear hx hi0 hc0
     cases hb : inR 1 V x with
     | false =>
      have HT : Hid (spokeE V ls = 2) := Lib.hid (by unfold spokeE; rw [HF.out, ST.out, hb]; rfl)
      have HB := Lib.hid hb
      clear hb
      go_wp2_with fail
      refine (sentG wr c0 x V HI.out).mono ?_
      rintro e w1 ⟨rfl, hb1⟩
      rw [HB.out]
      have B1 := Lib.hid (BEL.out.trans (hb1.mono BEL.out.size))
      clear hb1
      go_wp2_with fail
      go_ret
      exact ⟨by rw [HT.out]; rfl, HWR.out.trans (B1.out.mono HWR.out.size)⟩
     | true =>
      have HT : Hid (anyOut V ls = (ls.drop (j + 1)).any fun l => !inR 1 V l) := Lib.hid (by rw [ST.out, hb]; rfl)
      have HB := Lib.hid hb
      clear hb
      go_wp2_with fail
      refine (sentG wr c0 x V HI.out).mono ?_
      rintro e w1 ⟨rfl, hb1⟩
      rw [HB.out]
      have B1 := Lib.hid (BEL.out.trans (hb1.mono BEL.out.size))
      clear hb1
      go_wp2_with fail
      go_roundg g
      case measure => omega
      case rel => exact ⟨j + 1, rfl, by omega, B1, HT⟩
  ·obtain ⟨g, rfl⟩ : ∃ g, gk = g + 1 := ⟨gk - 1, by omega⟩
   obtain ⟨x, hx⟩ : ∃ x, ls[j]? = some x := ⟨_, List.getElem?_eq_getElem (by rw [HN.out]; omega)⟩
   obtain ⟨ba, oa, c0, rfl, _, hc, hi⟩ := HA.out j x hx
   obtain ⟨Ai, ci, rfl, _, _, _⟩ := hi.open_
   have ST := Lib.hid (HQ.out.trans (any_step hx))
   clear hx hi
   obtain ⟨p, hp⟩ : ∃ p, x.length = p := ⟨_, rfl⟩
   rw [hp] at ST hc
   clear hp
   by_cases h1 : 500 < p
   ·have d1 : decide ((500 : Int) < (p : Int)) = true := decide_eq_true (by omega)
    have HT : Hid (spokeE V ls = 5) := Lib.hid (by unfold spokeE; rw [ST.out, decide_eq_true h1]; rfl)
    clear h1
    go_wp2_with fail
    go_ret
    exact ⟨by rw [HT.out]; rfl, Below.refl _ _⟩
   ·have d1 : decide ((500 : Int) < (p : Int)) = false := decide_eq_false (by omega)
    have HT : Hid (anyLong ls = (ls.drop (j + 1)).any fun l => decide (500 < l.length)) := Lib.hid (by rw [ST.out, decide_eq_false h1]; rfl)
    clear h1
    go_wp2_with fail
    go_roundg g
    case measure => omega
    case rel => exact ⟨j + 1, rfl, rfl, by omega, HT⟩
end Go.Proofs.YtjebfdfkjlkifaaGreat
