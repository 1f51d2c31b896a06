/- Lemmas on the way: Lw1, Ce1, CqP. -/
import Derived.Test.YtjebfdfkjlkifaaGreatC37
import Derived.Test.YtjebfdfkjlkifaaGreatC39
set_option linter.unusedSimpArgs false
set_option linter.unusedVariables false
set_option linter.unusedSectionVars false
set_option linter.unnecessarySimpa false
namespace Go.Proofs.YtjebfdfkjlkifaaGreat
open Go.RowKit
def shortB (ls : List (List Int)) : Bool := decide (ls.length ≤ 8) && ls.all fun l => !(decide (12 < l.length) && decide (l.length ≤ 500))
theorem all_step {α : Type} {p : α → Bool} {l : List α} {j : Nat} {x : α} (hx : l[j]? = some x) : (l.drop j).all p = (p x && (l.drop (j + 1)).all p) := by
 have hj := (List.getElem?_eq_some_iff.1 hx).1
 have : l[j] = x := by rw [List.getElem?_eq_getElem hj] at hx; injection hx
 rw [List.drop_eq_getElem_cons hj, this]
 rfl
theorem any_step {α : Type} {p : α → Bool} {l : List α} {j : Nat} {x : α} (hx : l[j]? = some x) : (l.drop j).any p = (p x || (l.drop (j + 1)).any p) := by
 have hj := (List.getElem?_eq_some_iff.1 hx).1
 have : l[j] = x := by rw [List.getElem?_eq_getElem hj] at hx; injection hx
 rw [List.drop_eq_getElem_cons hj, this]
 rfl

set_option maxRecDepth 1000000 in
set_option maxHeartbeats 4000000 in
theorem shortG (w : World) (v : Value) (ls : List (List Int)) (h : ListsAt w v ls) :
  Calls Tryz.prog 17 #[v] w fun e w' => e = .returned (.bool (shortB ls)) ∧ Below w.heap.size w w' := by
 obtain ⟨A, ca, rfl, hlc, hcm, hA⟩ := h.open_
 have HA := Lib.hid hA
 clear h hA
 obtain ⟨n, hn⟩ : ∃ n, ls.length = n := ⟨_, rfl⟩
 rw [hn] at hlc ⊢
 have HN := Lib.hid hn
 clear hn
 by_cases h8 : n ≤ 8
 ·have HS : Hid (shortB ls = ls.all fun l => !(decide (12 < l.length) && decide (l.length ≤ 500))) := Lib.hid (by unfold shortB; rw [HN.out, decide_eq_true h8]; rfl)
  have d8 : decide ((8 : Int) < (n : Int)) = false := decide_eq_false (by omega)
  go_enter Tryz.func17, Tryz.ntmps17
  go_wp2_with fail
  go_loopg [3] n (fun g i wr => ∃ (j : Nat), wr = w ∧ i = .int .i64 j ∧ j + g = n ∧ Hid (shortB ls = (ls.drop j).all fun l => !(decide (12 < l.length) && decide (l.length ≤ 500))))
  case atStart => exact ⟨0, rfl, rfl, by omega, HS⟩
  case round =>
   obtain ⟨j, rfl, rfl, hj, HQ⟩ := hrel
   rcases Nat.eq_zero_or_pos gk with h | h
   ·obtain rfl : j = n := by omega
    have HT : Hid (shortB ls = true) := Lib.hid (by rw [HQ.out, List.drop_eq_nil_of_le (by rw [HN.out]; exact Nat.le_refl _)]; rfl)
    go_wp2_with fail
    go_ret
    exact ⟨ret_bool HT.out.symm, Below.refl _ _⟩
   ·obtain ⟨g, rfl⟩ : ∃ g, gk = g + 1 := ⟨gk - 1, by omega⟩
    obtain ⟨x, hx⟩ : ∃ x, ls[j]? = some x := ⟨_, List.getElem?_eq_getElem (by rw [HN.out]; omega)⟩
    obtain ⟨ba, oa, c0, rfl, _, hc, hi⟩ := HA.out j x hx
    obtain ⟨Ai, ci, rfl, _, _, _⟩ := hi.open_
    have ST := Lib.hid (HQ.out.trans (all_step hx))
    clear hx hi
    obtain ⟨p, hp⟩ : ∃ p, x.length = p := ⟨_, rfl⟩
    rw [hp] at ST hc
    clear hp
    by_cases h1 : 12 < p
    ·by_cases h2 : p ≤ 500
     ·have d1 : decide ((12 : Int) < (p : Int)) = true := decide_eq_true (by omega)
      have d2 : decide ((p : Int) ≤ 500) = true := decide_eq_true (by omega)
      have HT : Hid (shortB ls = false) := Lib.hid (by rw [ST.out, decide_eq_true h1, decide_eq_true h2]; rfl)
      clear h1 h2
      go_wp2_with fail
      go_ret
      exact ⟨ret_bool HT.out.symm, Below.refl _ _⟩
     ·have d1 : decide ((12 : Int) < (p : Int)) = true := decide_eq_true (by omega)
      have d2 : decide ((p : Int) ≤ 500) = false := decide_eq_false (by omega)
      have HT : Hid (shortB ls = (ls.drop (j + 1)).all fun l => !(decide (12 < l.length) && decide (l.length ≤ 500))) := Lib.hid (by rw [ST.out, decide_eq_true h1, decide_eq_false h2]; rfl)
      clear h1 h2
      go_wp2_with fail
      go_roundg g
      case measure => omega
      case rel => exact ⟨j + 1, rfl, rfl, by omega, HT⟩
    ·have d1 : decide ((12 : Int) < (p : Int)) = false := decide_eq_false (by omega)
     have HT : Hid (shortB ls = (ls.drop (j + 1)).all fun l => !(decide (12 < l.length) && decide (l.length ≤ 500))) := Lib.hid (by rw [ST.out, decide_eq_false h1]; rfl)
     clear h1
     go_wp2_with fail
     go_roundg g
     case measure => omega
     case rel => exact ⟨j + 1, rfl, rfl, by omega, HT⟩
 ·have HT : Hid (shortB ls = false) := Lib.hid (by unfold shortB; rw [HN.out, decide_eq_false h8]; rfl)
  have d8 : decide ((8 : Int) < (n : Int)) = true := decide_eq_true (by omega)
  go_enter Tryz.func17, Tryz.ntmps17
  go_wp2_with fail
  go_ret
  exact ⟨ret_bool HT.out.symm, Below.refl _ _⟩

def spokeE (V : Int) (ls : List (List Int)) : Int := if anyLong ls = true then 5 else if anyOut V ls = true then 2 else 0

set_option maxRecDepth 1000000 in
set_option maxHeartbeats 4000000 in
theorem spokenG (w : World) (V : Int) (v : Value) (ls : List (List Int)) (h : ListsAt w v ls) :
  Calls Tryz.prog 20 #[.int .i64 V, v] w fun e w' => e = .returned (.int .i64 (spokeE V ls)) ∧ Below w.heap.size w w' := by
 obtain ⟨A, ca, rfl, hlc, hcm, hA⟩ := h.open_
 have HA := Lib.hid hA
 clear h hA
 obtain ⟨n, hn⟩ : ∃ n, ls.length = n := ⟨_, rfl⟩
 rw [hn] at hlc ⊢
 have HN := Lib.hid hn
 clear hn
 have HL0 : Hid (anyLong ls = (ls.drop 0).any fun l => decide (500 < l.length)) := Lib.hid rfl
 have HO0 : Hid (anyOut V ls = (ls.drop 0).any fun l => !inR 1 V l) := Lib.hid rfl
 go_enter Tryz.func20, Tryz.ntmps20
 go_wp2_with fail
 go_loopg [5] n (fun g i wr => ∃ (j : Nat), wr = w ∧ i = .int .i64 j ∧ j + g = n ∧ Hid (anyLong ls = (ls.drop j).any fun l => decide (500 < l.length)))
 case atStart => exact ⟨0, rfl, rfl, by omega, HL0⟩
 case round =>
  obtain ⟨j, rfl, rfl, hj, HQ⟩ := hrel
  rcases Nat.eq_zero_or_pos gk with h | h
  ·obtain rfl : j = n := by omega
   have HF : Hid (anyLong ls = false) := Lib.hid (by rw [HQ.out, List.drop_eq_nil_of_le (by rw [HN.out]; exact Nat.le_refl _)]; rfl)
   go_wp2_with fail
   obtain ⟨n, hn⟩ : ∃ n, n = j := ⟨_, rfl⟩
   rw [← hn] at HN hlc ⊢
   clear hj HQ h hn
   obtain ⟨w, hw, HWR⟩ : ∃ w, w = wr ∧ Hid (Below wr.heap.size wr w) := ⟨_, rfl, Lib.hid (Below.refl _ _)⟩
   conv at HA => rw [← hw]
   conv => arg 5; rw [← hw]
   clear hw
   go_loopg [6] n (fun g i wr => ∃ (j : Nat), i = .int .i64 j ∧ j + g = n ∧ Hid (Below w.heap.size w wr) ∧ Hid (anyOut V ls = (ls.drop j).any fun l => !inR 1 V l))
   case atStart => exact ⟨0, rfl, by omega, Lib.hid (Below.refl _ _), HO0⟩
   case round =>
    obtain ⟨j, rfl, hj, BEL, HQ⟩ := hrel
    rcases Nat.eq_zero_or_pos gk with h | h
    ·obtain rfl : j = n := by omega
     have HT : Hid (spokeE V ls = 0) := Lib.hid (by unfold spokeE; rw [HF.out, HQ.out, List.drop_eq_nil_of_le (by rw [HN.out]; exact Nat.le_refl _)]; rfl)
     go_wp2_with fail
     go_ret
     exact ⟨by rw [HT.out]; rfl, HWR.out.trans (BEL.out.mono HWR.out.size)⟩
    ·obtain ⟨g, rfl⟩ : ∃ g, gk = g + 1 := ⟨gk - 1, by omega⟩
     obtain ⟨x, hx⟩ : ∃ x, ls[j]? = some x := ⟨_, List.getElem?_eq_getElem (by rw [HN.out]; omega)⟩
     obtain ⟨ba, oa, c0, rfl, hba, hc0, hi0⟩ := HA.out j x hx
     have hc := (BEL.out.cell (p := ⟨ba, oa + j, none⟩) hba).trans hc0
     have HI := Lib.hid (hi0.below BEL.out)
     have ST := Lib.hid (HQ.out.trans (any_step hx))
     clear hx hi0 hc0
     cases hb : inR 1 V x with
     | false =>
      have HT : Hid (spokeE V ls = 2) := Lib.hid (by unfold spokeE; rw [HF.out, ST.out, hb]; rfl)
      have HB := Lib.hid hb
      clear hb
      go_wp2_with fail
      refine (sentG wr c0 x V HI.out).mono ?_
      rintro e w1 ⟨rfl, hb1⟩
      rw [HB.out]
      have B1 := Lib.hid (BEL.out.trans (hb1.mono BEL.out.size))
      clear hb1
      go_wp2_with fail
      go_ret
      exact ⟨by rw [HT.out]; rfl, HWR.out.trans (B1.out.mono HWR.out.size)⟩
     | true =>
      have HT : Hid (anyOut V ls = (ls.drop (j + 1)).any fun l => !inR 1 V l) := Lib.hid (by rw [ST.out, hb]; rfl)
      have HB := Lib.hid hb
      clear hb
      go_wp2_with fail
      refine (sentG wr c0 x V HI.out).mono ?_
      rintro e w1 ⟨rfl, hb1⟩
      rw [HB.out]
      have B1 := Lib.hid (BEL.out.trans (hb1.mono BEL.out.size))
      clear hb1
      go_wp2_with fail
      go_roundg g
      case measure => omega
      case rel => exact ⟨j + 1, rfl, by omega, B1, HT⟩
  ·obtain ⟨g, rfl⟩ : ∃ g, gk = g + 1 := ⟨gk - 1, by omega⟩
   obtain ⟨x, hx⟩ : ∃ x, ls[j]? = some x := ⟨_, List.getElem?_eq_getElem (by rw [HN.out]; omega)⟩
   obtain ⟨ba, oa, c0, rfl, _, hc, hi⟩ := HA.out j x hx
   obtain ⟨Ai, ci, rfl, _, _, _⟩ := hi.open_
   have ST := Lib.hid (HQ.out.trans (any_step hx))
   clear hx hi
   obtain ⟨p, hp⟩ : ∃ p, x.length = p := ⟨_, rfl⟩
   rw [hp] at ST hc
   clear hp
   by_cases h1 : 500 < p
   ·have d1 : decide ((500 : Int) < (p : Int)) = true := decide_eq_true (by omega)
    have HT : Hid (spokeE V ls = 5) := Lib.hid (by unfold spokeE; rw [ST.out, decide_eq_true h1]; rfl)
    clear h1
    go_wp2_with fail
    go_ret
    exact ⟨by rw [HT.out]; rfl, Below.refl _ _⟩
   ·have d1 : decide ((500 : Int) < (p : Int)) = false := decide_eq_false (by omega)
    have HT : Hid (anyLong ls = (ls.drop (j + 1)).any fun l => decide (500 < l.length)) := Lib.hid (by rw [ST.out, decide_eq_false h1]; rfl)
    clear h1
    go_wp2_with fail
    go_roundg g
    case measure => omega
    case rel => exact ⟨j + 1, rfl, rfl, by omega, HT⟩
section
attribute [local go_sem] Oper.semAt_some

set_option maxRecDepth 1000000 in
set_option maxHeartbeats 4000000 in
theorem countLong (w : World) (O V : Int) (sv : Value) (ls : List (List Int)) (hs : ListsAt w sv ls) (hl : anyLong ls = true) :
  Calls Tryz.prog 19 #[.int .i64 O, .int .i64 V, sv] w fun e w' => e = .returned (.tuple #[.agg #[.int .i64 0, .int .i64 0, .slice none 0 0], .int .i64 5]) ∧ Below w.heap.size w w' := by
 obtain ⟨As, cs, rfl, hsc, hsm, hat⟩ := hs.open_
 have HS := Lib.hid hs
 have HLO := Lib.hid hl
 obtain ⟨ns, hns⟩ : ∃ n, ls.length = n := ⟨_, rfl⟩
 rw [hns] at hsc HS ⊢
 have HNS := Lib.hid hns
 clear hs hat hl hns
 refine (callsIn_wide (n := 10)).1 ?_
 refine callsIn_of_wp_marks Tryz.func19 rfl trivial ?_ rfl
 simp only [Tryz.ntmps19, List.size_toArray, List.length_cons, List.length_nil, Nat.reduceAdd, Nat.reduceSub, Array.replicate_succ, Array.replicate_zero, List.push_toArray, List.append_toArray, List.nil_append, List.cons_append]
 refine (wpIn_wide (n := 10)).2 ?_
 go_wp2_with fail
 obtain ⟨W, hW, P0, P1, PB, Phs⟩ := box2 w 3 [.int .i64 V] 27 [.int .i64 0, .int .i64 0, .slice none 0 0]
 rw [← hW]
 clear hW
 have CI := Lib.hid (containsInts W _ ls 76 #[] (fun l => decide (500 < l.length)) (HS.out.below PB.out) (by have := HNS.out; omega) (fun _ _ => by kernel_rfl) (fun U x a hb hx hi => tooLongG U a x hi))
 refine CI.out.mono ?_
 rintro e w1 ⟨rfl, hb1⟩
 rw [show (ls.any fun l => decide (500 < l.length)) = true from HLO.out]
 have X1 := Lib.hid (P1.out.below' hb1)
 have B1 := Lib.hid (PB.out.trans (hb1.mono PB.out.size))
 clear hb1 P0 P1 PB CI
 obtain ⟨p0, p1, p2, f0, f1, f2⟩ := X1.out.three
 go_wp2_with fail
 clear p0 p1 p2 f0 f1 f2
 obtain ⟨W6, hW6⟩ : ∃ W6, W6 = ((w1.setCell ⟨w.heap.size + 1, 0, none⟩ (.int .i64 0)).setCell ⟨w.heap.size + 1, 1, none⟩ (.int .i64 0)).setCell ⟨w.heap.size + 1, 2, none⟩ (.slice none 0 0) := ⟨_, rfl⟩
 have X6 : Blk W6 (w.heap.size + 1) 27 [.int .i64 0, .int .i64 0, .slice none 0 0] := by
  rw [hW6]
  exact ((X1.out.set_ 0 _).set_ 1 _).set_ 2 _
 have Y6 : Below w.heap.size w W6 := by rw [hW6]; exact below3 B1.out (by omega) _ _ _ _ _ _
 rw [← hW6]
 clear hW6
 refine leaves_marks [] W6 (fun r hr => by cases hr) List.nodup_nil (fun W7 hs => ?_)
 obtain ⟨s1, s2, s3, s4⟩ := hs
 have X7 := X6.calm s1
 have g0 := X7.cell 0
 have g1 := X7.cell 1
 have g2 := X7.cell 2
 simp only [List.getElem?_cons_zero, List.getElem?_cons_succ] at g0 g1 g2
 exact ⟨.tuple #[.agg #[.int .i64 0, .int .i64 0, .slice none 0 0], .int .i64 5], by simp [results, Tryz.results19, go_sem, g0, g1, g2], rfl, Y6.trans (s4 w.heap.size (fun r hr => by cases hr) Y6.size)⟩

set_option maxRecDepth 1000000 in
set_option maxHeartbeats 4000000 in
theorem countBad (w : World) (O V : Int) (sv : Value) (ls : List (List Int)) (hs : ListsAt w sv ls) (hl : anyLong ls = false) (hb : sizesB O V = false ∨ anyOut V ls = true) :
  Calls Tryz.prog 19 #[.int .i64 O, .int .i64 V, sv] w fun e w' => e = .returned (.tuple #[.agg #[.int .i64 0, .int .i64 0, .slice none 0 0], .int .i64 2]) ∧ Below w.heap.size w w' := by
 obtain ⟨As, cs, rfl, hsc, hsm, hat⟩ := hs.open_
 have HS := Lib.hid hs
 have HLO := Lib.hid hl
 have HBAD := Lib.hid hb
 obtain ⟨ns, hns⟩ : ∃ n, ls.length = n := ⟨_, rfl⟩
 rw [hns] at hsc HS ⊢
 have HNS := Lib.hid hns
 clear hs hat hl hns hb
 refine (callsIn_wide (n := 10)).1 ?_
 refine callsIn_of_wp_marks Tryz.func19 rfl trivial ?_ rfl
 simp only [Tryz.ntmps19, List.size_toArray, List.length_cons, List.length_nil, Nat.reduceAdd, Nat.reduceSub, Array.replicate_succ, Array.replicate_zero, List.push_toArray, List.append_toArray, List.nil_append, List.cons_append]
 refine (wpIn_wide (n := 10)).2 ?_
 go_wp2_with fail
 obtain ⟨W, hW, P0, P1, PB, Phs⟩ := box2 w 3 [.int .i64 V] 27 [.int .i64 0, .int .i64 0, .slice none 0 0]
 rw [← hW]
 clear hW
 have CI := Lib.hid (containsInts W _ ls 76 #[] (fun l => decide (500 < l.length)) (HS.out.below PB.out) (by have := HNS.out; omega) (fun _ _ => by kernel_rfl) (fun U x a hb hx hi => tooLongG U a x hi))
 refine CI.out.mono ?_
 rintro e w1 ⟨rfl, hb1⟩
 rw [show (ls.any fun l => decide (500 < l.length)) = false from HLO.out]
 have X0 := Lib.hid (P0.out.below' hb1)
 have X1 := Lib.hid (P1.out.below' hb1)
 have B1 := Lib.hid (PB.out.trans (hb1.mono PB.out.size))
 clear hb1 P0 P1 PB CI
 have q0 := X0.out.cell 0
 simp only [List.getElem?_cons_zero] at q0
 go_wp2_with fail
 refine (sizedG w1 O V).mono ?_
 rintro e w2 ⟨rfl, hb2⟩
 have Y0 := Lib.hid (X0.out.below' hb2)
 have Y1 := Lib.hid (X1.out.below' hb2)
 have B2 := Lib.hid (B1.out.trans (hb2.mono B1.out.size))
 clear hb2 q0 X0 X1 B1
 by_cases hz : sizesB O V = true
 ·rw [hz]
  have HO : Hid (anyOut V ls = true) := Lib.hid (by
   rcases HBAD.out with h | h
   ·rw [h] at hz; cases hz
   ·exact h)
  have q0 := Y0.out.cell 0
  simp only [List.getElem?_cons_zero] at q0
  have CI := Lib.hid (containsInts w2 _ ls 78 #[.pointer (some ⟨w.heap.size, 0, none⟩)] (fun l => !inR 1 V l) (HS.out.below B2.out) (by have := HNS.out; omega) (fun _ _ => by kernel_rfl) (fun U x a hb hx hi => notSaid2 U a x V w.heap.size hi ((Y0.out.below' hb).cell 0)))
  clear hz
  go_wp2_with fail
  refine CI.out.mono ?_
  rintro e w3 ⟨rfl, hb3⟩
  rw [show (ls.any fun l => !inR 1 V l) = true from HO.out]
  have Z1 := Lib.hid (Y1.out.below' hb3)
  have B3 := Lib.hid (B2.out.trans (hb3.mono B2.out.size))
  clear hb3 q0 Y0 Y1 B2 CI
  obtain ⟨p0, p1, p2, f0, f1, f2⟩ := Z1.out.three
  go_wp2_with fail
  clear p0 p1 p2 f0 f1 f2
  obtain ⟨W6, hW6⟩ : ∃ W6, W6 = ((w3.setCell ⟨w.heap.size + 1, 0, none⟩ (.int .i64 0)).setCell ⟨w.heap.size + 1, 1, none⟩ (.int .i64 0)).setCell ⟨w.heap.size + 1, 2, none⟩ (.slice none 0 0) := ⟨_, rfl⟩
  have X6 : Blk W6 (w.heap.size + 1) 27 [.int .i64 0, .int .i64 0, .slice none 0 0] := by
   rw [hW6]
   exact ((Z1.out.set_ 0 _).set_ 1 _).set_ 2 _
  have Y6 : Below w.heap.size w W6 := by rw [hW6]; exact below3 B3.out (by omega) _ _ _ _ _ _
  rw [← hW6]
  clear hW6
  refine leaves_marks [] W6 (fun r hr => by cases hr) List.nodup_nil (fun W7 hs => ?_)
  obtain ⟨s1, s2, s3, s4⟩ := hs
  have X7 := X6.calm s1
  have g0 := X7.cell 0
  have g1 := X7.cell 1
  have g2 := X7.cell 2
  simp only [List.getElem?_cons_zero, List.getElem?_cons_succ] at g0 g1 g2
  exact ⟨.tuple #[.agg #[.int .i64 0, .int .i64 0, .slice none 0 0], .int .i64 2], by simp [results, Tryz.results19, go_sem, g0, g1, g2], rfl, Y6.trans (s4 w.heap.size (fun r hr => by cases hr) Y6.size)⟩
 ·have hz : sizesB O V = false := by simpa using hz
  rw [hz]
  clear hz
  obtain ⟨p0, p1, p2, f0, f1, f2⟩ := Y1.out.three
  go_wp2_with fail
  clear p0 p1 p2 f0 f1 f2
  obtain ⟨W6, hW6⟩ : ∃ W6, W6 = ((w2.setCell ⟨w.heap.size + 1, 0, none⟩ (.int .i64 0)).setCell ⟨w.heap.size + 1, 1, none⟩ (.int .i64 0)).setCell ⟨w.heap.size + 1, 2, none⟩ (.slice none 0 0) := ⟨_, rfl⟩
  have X6 : Blk W6 (w.heap.size + 1) 27 [.int .i64 0, .int .i64 0, .slice none 0 0] := by
   rw [hW6]
   exact ((Y1.out.set_ 0 _).set_ 1 _).set_ 2 _
  have Y6 : Below w.heap.size w W6 := by rw [hW6]; exact below3 B2.out (by omega) _ _ _ _ _ _
  rw [← hW6]
  clear hW6
  refine leaves_marks [] W6 (fun r hr => by cases hr) List.nodup_nil (fun W7 hs => ?_)
  obtain ⟨s1, s2, s3, s4⟩ := hs
  have X7 := X6.calm s1
  have g0 := X7.cell 0
  have g1 := X7.cell 1
  have g2 := X7.cell 2
  simp only [List.getElem?_cons_zero, List.getElem?_cons_succ] at g0 g1 g2
  exact ⟨.tuple #[.agg #[.int .i64 0, .int .i64 0, .slice none 0 0], .int .i64 2], by simp [results, Tryz.results19, go_sem, g0, g1, g2], rfl, Y6.trans (s4 w.heap.size (fun r hr => by cases hr) Y6.size)⟩
end
theorem ordL_swap {a b : List Int} (h : a.length = b.length) : ordL b a = - ordL a b := by
 rw [← cmpL_ord h, ← cmpL_ord h.symm, cmpL_swap]
theorem look_cons (e : Gr) (m : List Gr) (k : List Int) : lookT (e :: m) k = if e.1 = k then some e.2 else lookT m k := by
 unfold lookT
 rw [List.find?_cons]
 by_cases h : e.1 = k
 ·rw [if_pos h, decide_eq_true h]; rfl
 ·rw [if_neg h, decide_eq_false h]
theorem put_none {n : Nat} {g : Gr} {gs : List Gr} {ws : List Int} (hr : Rises (g :: gs)) (h1 : ¬ ordL g.1 ws < 0) (h2 : ¬ ordL g.1 ws = 0) : ∀ e ∈ g :: gs, e.1 ≠ ws := by
 intro e he h
 rcases List.mem_cons.1 he with rfl | he
 ·rw [h, ordL_self] at h2
  exact h2 rfl
 ·have := (List.pairwise_cons.1 hr).1 e he
  rw [h] at this
  exact h1 this
theorem putL_look {n : Nat} {gs : List Gr} {ws : List Int} {c : Int} (hr : Rises gs) (hl : ∀ g ∈ gs, g.1.length = n) (hw : ws.length = n) (k : List Int) :
  lookT (putL gs ws c) k = if k = ws then some ((lookT gs ws).getD 0 + c) else lookT gs k := by
 induction gs with
 | nil =>
  unfold putL
  rw [look_cons]
  by_cases hk : k = ws
  ·rw [if_pos hk, if_pos hk.symm]; simp [lookT]
  ·rw [if_neg hk, if_neg (fun e => hk e.symm)]
 | cons g gs ih =>
  have hr2 := List.pairwise_cons.1 hr
  have hg := hl g List.mem_cons_self
  have ih' := ih hr2.2 (fun x hx => hl x (List.mem_cons_of_mem _ hx))
  unfold putL
  by_cases h1 : ordL g.1 ws < 0
  ·rw [if_pos h1]
   have hne : g.1 ≠ ws := fun e => by rw [e, ordL_self] at h1; omega
   rw [look_cons, look_cons, look_cons, ih', if_neg hne]
   by_cases hk : k = ws
   ·rw [if_pos hk, if_neg (by rw [hk]; exact hne), if_pos hk]
   ·rw [if_neg hk, if_neg hk]
  ·rw [if_neg h1]
   by_cases h2 : ordL g.1 ws = 0
   ·rw [if_pos h2]
    have he : g.1 = ws := (ordL_eq (by rw [hg, hw])).1 h2
    rw [look_cons, look_cons, look_cons, if_pos he]
    by_cases hk : k = ws
    ·rw [if_pos hk, if_pos (by rw [hk]; exact he)]; rfl
    ·rw [if_neg hk, if_neg (by rw [he]; exact fun e => hk e.symm), if_neg (by rw [he]; exact fun e => hk e.symm)]
   ·rw [if_neg h2]
    have hno := lookT_none (put_none (n := n) hr h1 h2)
    rw [look_cons, hno]
    by_cases hk : k = ws
    ·rw [if_pos hk, if_pos hk.symm]; simp
    ·rw [if_neg hk, if_neg (fun e => hk e.symm)]
theorem putL_rises {n : Nat} {gs : List Gr} {ws : List Int} {c : Int} (hr : Rises gs) (hl : ∀ g ∈ gs, g.1.length = n) (hw : ws.length = n) : Rises (putL gs ws c) := by
 induction gs with
 | nil => exact List.pairwise_singleton _ _
 | cons g gs ih =>
  have hr2 := List.pairwise_cons.1 hr
  have hg := hl g List.mem_cons_self
  have hgs : ∀ x ∈ gs, x.1.length = n := fun x hx => hl x (List.mem_cons_of_mem _ hx)
  have ih' := ih hr2.2 hgs
  unfold putL
  by_cases h1 : ordL g.1 ws < 0
  ·rw [if_pos h1]
   refine List.pairwise_cons.2 ⟨fun x hx => ?_, ih'⟩
   rcases putL_mem hx with h | rfl | ⟨y, hy, rfl⟩
   ·exact hr2.1 x h
   ·exact h1
   ·exact hr2.1 y hy
  ·rw [if_neg h1]
   by_cases h2 : ordL g.1 ws = 0
   ·rw [if_pos h2]
    exact List.pairwise_cons.2 ⟨fun x hx => hr2.1 x hx, hr2.2⟩
   ·rw [if_neg h2]
    have h3 : ordL ws g.1 < 0 := by rw [ordL_swap (by rw [hg, hw])]; omega
    refine List.pairwise_cons.2 ⟨fun x hx => ?_, hr⟩
    rcases List.mem_cons.1 hx with rfl | hx
    ·exact h3
    ·exact ordL_lt_trans (by rw [hw, hg]) (by rw [hg, hgs x hx]) h3 (hr2.1 x hx)
theorem putL_len {n : Nat} {gs : List Gr} {ws : List Int} {c : Int} (hl : ∀ g ∈ gs, g.1.length = n) (hw : ws.length = n) : ∀ g ∈ putL gs ws c, g.1.length = n := by
 intro g hg
 rcases putL_mem hg with h | rfl | ⟨y, hy, rfl⟩
 ·exact hl g h
 ·exact hw
 ·exact hl y hy
theorem Cnt.putL {n : Nat} {gs : List Gr} {T : List Int → Int} {ws : List Int} {c : Int} (h : Cnt gs T) (hr : Rises gs) (hl : ∀ g ∈ gs, g.1.length = n) (hw : ws.length = n) (hc : 0 < c) : Cnt (putL gs ws c) (fun x => T x + if x = ws then c else 0) := by
 refine ⟨(putL_rises hr hl hw).nodup, fun k => ?_, fun e he => ?_⟩
 ·rw [putL_look hr hl hw]
  by_cases hk : k = ws
  ·show _ = T k + if k = ws then c else 0
   rw [if_pos hk, if_pos hk, hk, ← h.2.1 ws]; rfl
  ·show _ = T k + if k = ws then c else 0
   rw [if_neg hk, if_neg hk, h.2.1 k]; omega
 ·rcases putL_mem he with h1 | rfl | ⟨y, hy, rfl⟩
  ·exact h.2.2 e h1
  ·exact hc
  ·have := h.2.2 y hy
   show 0 < y.2 + c
   omega
theorem put_acc {n : Nat} : ∀ (l : List (List Int)) (t m : List Gr) (T : List Int → Int), (∀ g ∈ l, g.length = n) → Rises t → (∀ g ∈ t, g.1.length = n) → Cnt t T → Cnt m T →
  Rises (putAll t l) ∧ (∀ g ∈ putAll t l, g.1.length = n) ∧ ∃ T', Cnt (putAll t l) T' ∧ Cnt ((l.map fun g => (g, (1 : Int))).foldl addT m) T' := by
 intro l
 induction l with
 | nil => intro t m T _ hr hl h1 h2; exact ⟨hr, hl, T, h1, h2⟩
 | cons g l ih =>
  intro t m T hg hr hl h1 h2
  have hw := hg g List.mem_cons_self
  exact ih (Go.Proofs.YtjebfdfkjlkifaaGreat.putL t g 1) (addT m (g, 1)) _ (fun x hx => hg x (List.mem_cons_of_mem _ hx)) (putL_rises hr hl hw) (putL_len hl hw) (h1.putL hr hl hw (by omega)) (h2.add (by omega))
theorem Cnt.nodup {m : List Gr} {T : List Int → Int} (h : Cnt m T) : m.Nodup := (List.pairwise_map.1 h.1).imp (fun h e => h (congrArg _ e))
theorem Cnt.perm_of {m m' : List Gr} {T : List Int → Int} (h : Cnt m T) (h' : Cnt m' T) : m.Perm m' := by
 refine (List.perm_ext_iff_of_nodup h.nodup h'.nodup).2 fun e => ⟨fun he => ?_, fun he => ?_⟩
 ·have h1 := h.of_mem he
  have h2 := h.2.2 e he
  have h3 := h'.mem (k := e.1) (by omega)
  rw [h1] at h3
  exact h3
 ·have h1 := h'.of_mem he
  have h2 := h'.2.2 e he
  have h3 := h.mem (k := e.1) (by omega)
  rw [h1] at h3
  exact h3
theorem gramsAll_len {m : Nat} {ls : List (List Int)} : ∀ g ∈ ls.flatMap (gramsL m), g.length = m + 1 := by
 intro g hg
 obtain ⟨l, hl, hg⟩ := List.mem_flatMap.1 hg
 exact gramsL_mem hg
theorem count_acc (m : Nat) (ls : List (List Int)) : Rises (countL m ls) ∧ (∀ g ∈ countL m ls, g.1.length = m + 1) ∧ ∃ T', Cnt (countL m ls) T' ∧ Cnt (cntL m ls) T' :=
 put_acc (ls.flatMap (gramsL m)) [] [] (fun _ => 0) gramsAll_len List.Pairwise.nil (fun g hg => by cases hg) Cnt.nil Cnt.nil
theorem Rises.sorted {n : Nat} {gs : List Gr} (h : Rises gs) (hl : ∀ g ∈ gs, g.1.length = n) : SortedG gs := by
 refine List.Pairwise.imp_of_mem ?_ h
 intro a b ha hb hab hn
 rw [cmpL_ord (by rw [hl a ha, hl b hb]), ordL_swap (by rw [hl a ha, hl b hb])] at hn
 omega
theorem sorted_cnt {n : Nat} {gs hs : List Gr} {T : List Int → Int} (hp : gs.Perm hs) (hg : SortedG gs) (hr : Rises hs) (hl : ∀ g ∈ hs, g.1.length = n) (hc : Cnt hs T) : gs = hs := by
 refine sorted_one hp hg (hr.sorted hl) ?_
 intro a ha b hb h1 h2
 have e : a.1 = b.1 := by
  rcases cmpL_not.1 h2 with h | h
  ·exact absurd h h1
  ·exact h
 refine Prod.ext e ?_
 have e1 := nodup_at hc.1 ha
 have e2 := nodup_at hc.1 hb
 rw [e, e2] at e1
 injection e1 with e1
 exact e1.symm
theorem count_same {m : Nat} {ls : List (List Int)} {gs : List Gr} (h : gs.Perm (cntL m ls)) (hs : SortedG gs) : gs = countL m ls := by
 obtain ⟨h1, h2, T, h3, h4⟩ := count_acc m ls
 exact sorted_cnt (h.trans (h4.perm_of h3)) hs h1 h2 h3
theorem good_all {m : Nat} : ∀ (l : List (List Int)) (t : List Gr) (K : Nat), GoodL m K t → (∀ g ∈ l, g.length = m + 1) → GoodL m (K + l.length) (putAll t l) := by
 intro l
 induction l with
 | nil => intro t K h _; exact h
 | cons g l ih =>
  intro t K h hg
  have := ih (Go.Proofs.YtjebfdfkjlkifaaGreat.putL t g ((1 : Nat) : Int)) (K + 1) (h.put (hg g List.mem_cons_self) (Nat.le_refl 1)) (fun x hx => hg x (List.mem_cons_of_mem _ hx))
  rw [List.length_cons, show K + (l.length + 1) = K + 1 + l.length by omega]
  exact this
theorem putAll_keys : ∀ (l : List (List Int)) (t : List Gr), ∀ e ∈ putAll t l, e.1 ∈ t.map Prod.fst ∨ e.1 ∈ l := by
 intro l
 induction l with
 | nil => intro t e he; exact .inl (List.mem_map.2 ⟨e, he, rfl⟩)
 | cons x l ih =>
  intro t e he
  rcases ih (Go.Proofs.YtjebfdfkjlkifaaGreat.putL t x 1) e he with h | h
  ·obtain ⟨y, hy, e1⟩ := List.mem_map.1 h
   rcases putL_mem hy with h2 | rfl | ⟨z, hz, rfl⟩
   ·exact .inl (List.mem_map.2 ⟨y, h2, e1⟩)
   ·exact .inr (by rw [← e1]; exact List.mem_cons_self)
   ·exact .inl (List.mem_map.2 ⟨z, hz, e1⟩)
  ·exact .inr (List.mem_cons_of_mem _ h)
theorem rises_before {gs : List Gr} (h : Rises gs) {i : Nat} {g : Gr} (hg : gs[i]? = some g) (hi : 0 < i) : ordL (gs.getD (i - 1) ([], 0)).1 g.1 < 0 := by
 obtain ⟨hlt, e⟩ := List.getElem?_eq_some_iff.1 hg
 have := (List.pairwise_iff_getElem.1 h) (i - 1) i (by omega) hlt (by omega)
 rw [e] at this
 rw [List.getD_eq_getElem?_getD, List.getElem?_eq_getElem (by omega)]
 exact this
theorem gramsAll_count {m : Nat} {ls : List (List Int)} (h : ∀ l ∈ ls, l.length ≤ 500) (hn : ls.length ≤ 8) : (ls.flatMap (gramsL m)).length ≤ 4008 := by
 have h1 := ones_len (mo := m) h
 unfold onesL at h1
 rw [List.length_map] at h1
 omega
theorem count_table {m : Nat} {V : Int} {ls : List (List Int)} (hm : m ≤ 3) (hV : 1 ≤ V ∧ V ≤ 2000) (hin : ∀ l ∈ ls, ∀ x ∈ l, 1 ≤ x ∧ x ≤ V) (hlen : ∀ l ∈ ls, l.length ≤ 500) (hn : ls.length ≤ 8) : tableE ((m + 1 : Nat) : Int) V (countL m ls) = 0 := by
 obtain ⟨h1, h2, T, h3, h4⟩ := count_acc m ls
 have hG := good_all (ls.flatMap (gramsL m)) [] 0 (GoodL.nil_ m) gramsAll_len
 have hc := gramsAll_count (m := m) hlen hn
 have hL : (countL m ls).length ≤ 4008 := Nat.le_trans hG.1 (by omega)
 refine tableE_good (by omega) ?_ (fun i hi => ?_)
 ·unfold sizesB
  rw [decide_eq_true (show (1 : Int) ≤ ((m + 1 : Nat) : Int) by omega), decide_eq_true (show ((m + 1 : Nat) : Int) ≤ 4 by omega), decide_eq_true hV.1, decide_eq_true hV.2]
  rfl
 ·have hg := List.getElem?_eq_getElem hi
  have hmem := List.getElem_mem hi
  generalize (countL m ls)[i] = g at hg hmem
  have hk : g.1 ∈ ls.flatMap (gramsL m) := by
   rcases putAll_keys _ _ g hmem with h | h
   ·cases h
   ·exact h
  obtain ⟨l, hl, hgl⟩ := List.mem_flatMap.1 hk
  obtain ⟨j, hj⟩ := List.getElem?_of_mem hgl
  have hlt := (List.getElem?_eq_some_iff.1 hj).1
  rw [gramsL_length] at hlt
  have e : (gramsL m l).getD j [] = g.1 := by rw [List.getD_eq_getElem?_getD, hj]; rfl
  have hall := gram_all (m := m) (v := V) (by omega) (hin l hl) hlt
  rw [e] at hall
  have hb := hG.2 g hmem
  have hp := h3.2.2 g hmem
  refine goodAt_true hg (by rw [h2 g hmem]) (inR_iff.2 hall.2) (by omega) (by omega) (fun hi => rises_before h1 hg hi)
end Go.Proofs.YtjebfdfkjlkifaaGreat
