/- Lemmas on the way: Srd, Lc1, Dat. -/
import Derived.Test.YtjebfdfkjlkifaaGreatC38
import Derived.Test.YtjebfdfkjlkifaaGreatC41
import Derived.Deep.Matrix
set_option linter.unusedSimpArgs false
set_option linter.unusedVariables false
set_option linter.unusedSectionVars false
set_option linter.unnecessarySimpa false
namespace Go.Proofs.YtjebfdfkjlkifaaGreat
open Go.RowKit
def SortOk : Prop := ∀ W B A n c gs, GOwn B W (.slice A n c) gs → gs.length = n → n ≤ 20000 → B ≤ W.heap.size → Calls Tryz.prog 136 #[.slice A n c, .func (.func 137) #[] #[]] W fun e w' => e = .returned (.tuple #[]) ∧ ∃ gs' : List Gr, gs'.Perm gs ∧ SortedG gs' ∧ GOwn B w' (.slice A n c) gs' ∧ Below B W w'
theorem knownS (h : SortOk) (w : World) : Calls Tryz.prog 18 #[] w fun e w' => e = .returned (.bool true) ∧ Below w.heap.size w w' := knownG w h
theorem grams_nil (w : World) : GramsAt w (.slice none 0 0) [] := (GOwn.nil_ 0 w).at_

set_option maxRecDepth 1000000 in
set_option maxHeartbeats 4000000 in
theorem gramCountsG (hsort : SortOk) (w : World) (O V : Int) (sv : Value) (ls : List (List Int)) (hs : ListsAt w sv ls) :
  Calls Tryz.prog 3 #[.int .i64 O, .int .i64 V, sv] w fun e w' => e = .returned (.bool true) ∧ Below w.heap.size w w' := by
 have HK := Lib.hid (knownS hsort)
 have HSO := Lib.hid hsort
 have HS := Lib.hid hs
 obtain ⟨A, c, rfl, hlc, hcm, _⟩ := hs.open_
 obtain ⟨n, hn⟩ : ∃ n, ls.length = n := ⟨_, rfl⟩
 rw [hn] at hlc HS ⊢
 have HN := Lib.hid hn
 clear hs hn hsort
 cases hsh : shortB ls with
 | false =>
  have HSH := Lib.hid hsh
  clear hsh
  go_enter Tryz.func3, Tryz.ntmps3
  go_wp2_with fail
  refine (shortG w _ ls HS.out).mono ?_
  rintro e w1 ⟨rfl, hb1⟩
  rw [HSH.out]
  have B1 := Lib.hid hb1
  clear hb1
  go_wp2_with fail
  refine (HK.out w1).mono ?_
  rintro e w2 ⟨rfl, hb2⟩
  have B2 := Lib.hid (B1.out.trans (hb2.mono B1.out.size))
  clear hb2
  go_wp2_with fail
  go_ret
  exact ⟨rfl, B2.out⟩
 | true =>
  have HSH := Lib.hid hsh
  have h8 : n ≤ 8 := by
   unfold shortB at hsh
   rw [HN.out] at hsh
   simp only [Bool.and_eq_true, decide_eq_true_eq] at hsh
   exact hsh.1
  clear hsh
  cases hlo : anyLong ls with
  | true =>
   have HLO := Lib.hid hlo
   have HSP : Hid (spokeE V ls = 5) := Lib.hid (by unfold spokeE; rw [hlo]; rfl)
   clear hlo
   go_enter Tryz.func3, Tryz.ntmps3
   go_wp2_with fail
   refine (shortG w _ ls HS.out).mono ?_
   rintro e w1 ⟨rfl, hb1⟩
   rw [HSH.out]
   have B1 := Lib.hid hb1
   clear hb1
   go_wp2_with fail
   refine (countLong w1 O V _ ls (HS.out.below B1.out) HLO.out).mono ?_
   rintro e w2 ⟨rfl, hb2⟩
   have B2 := Lib.hid (B1.out.trans (hb2.mono B1.out.size))
   clear hb2 B1
   go_wp2_with fail
   obtain ⟨W3, hW3, T0, TB, Ths⟩ := box1 w2 27 [.int .i64 0, .int .i64 0, .slice none 0 0]
   rw [← hW3]
   clear hW3
   have B3 := Lib.hid (B2.out.trans (TB.out.mono B2.out.size))
   clear B2 TB
   refine (spokenG W3 V _ ls (HS.out.below B3.out)).mono ?_
   rintro e w4 ⟨rfl, hb4⟩
   rw [HSP.out]
   have B4 := Lib.hid (B3.out.trans (hb4.mono B3.out.size))
   have T4 := Lib.hid (T0.out.below' hb4)
   clear hb4 B3 T0
   obtain ⟨p0, p1, p2, f0, f1, f2⟩ := T4.out.three
   go_wp2_with fail
   refine (sameTableG w4 0 0 0 0 _ _ [] [] (grams_nil _) (grams_nil _)).mono ?_
   rintro e w5 ⟨rfl, hb5⟩
   rw [show decide ((0 : Int) = 0 ∧ (0 : Int) = 0 ∧ ([] : List Gr) = []) = true from rfl]
   have B5 := Lib.hid (B4.out.trans (hb5.mono B4.out.size))
   clear hb5 B4 T4 p0 p1 p2 f0 f1 f2
   go_wp2_with fail
   refine (HK.out w5).mono ?_
   rintro e w6 ⟨rfl, hb6⟩
   have B6 := Lib.hid (B5.out.trans (hb6.mono B5.out.size))
   clear hb6
   go_wp2_with fail
   go_ret
   exact ⟨rfl, B6.out⟩
  | false =>
   have HLO := Lib.hid hlo
   clear hlo
   cases hsz : sizesB O V with
   | false =>
    have HSZ := Lib.hid hsz
    clear hsz
    cases hao : anyOut V ls with
    | false =>
     have HAO := Lib.hid hao
     clear hao
     have HSP : Hid (spokeE V ls = 0) := Lib.hid (by unfold spokeE; rw [HLO.out, HAO.out]; rfl)
     go_enter Tryz.func3, Tryz.ntmps3
     go_wp2_with fail
     refine (shortG w _ ls HS.out).mono ?_
     rintro e w1 ⟨rfl, hb1⟩
     rw [HSH.out]
     have B1 := Lib.hid hb1
     clear hb1
     go_wp2_with fail
     refine (countBad w1 O V _ ls (HS.out.below B1.out) HLO.out (.inl HSZ.out)).mono ?_
     rintro e w2 ⟨rfl, hb2⟩
     have B2 := Lib.hid (B1.out.trans (hb2.mono B1.out.size))
     clear hb2 B1
     go_wp2_with fail
     obtain ⟨W3, hW3, T0, TB, Ths⟩ := box1 w2 27 [.int .i64 0, .int .i64 0, .slice none 0 0]
     rw [← hW3]
     clear hW3
     have B3 := Lib.hid (B2.out.trans (TB.out.mono B2.out.size))
     clear B2 TB
     refine (spokenG W3 V _ ls (HS.out.below B3.out)).mono ?_
     rintro e w4 ⟨rfl, hb4⟩
     rw [HSP.out]
     have B4 := Lib.hid (B3.out.trans (hb4.mono B3.out.size))
     have T4 := Lib.hid (T0.out.below' hb4)
     clear hb4 B3 T0
     go_wp2_with fail
     refine (sizesG w4 O V).mono ?_
     rintro e w9 ⟨rfl, hb9⟩
     rw [HSZ.out]
     have B9 := Lib.hid (B4.out.trans (hb9.mono B4.out.size))
     have T9 := Lib.hid (T4.out.below' hb9)
     clear hb9 B4 T4
     obtain ⟨p0, p1, p2, f0, f1, f2⟩ := T9.out.three
     go_wp2_with fail
     refine (sameTableG w9 0 0 0 0 _ _ [] [] (grams_nil _) (grams_nil _)).mono ?_
     rintro e w5 ⟨rfl, hb5⟩
     rw [show decide ((0 : Int) = 0 ∧ (0 : Int) = 0 ∧ ([] : List Gr) = []) = true from rfl]
     have B5 := Lib.hid (B9.out.trans (hb5.mono B9.out.size))
     clear hb5 B9 T9 p0 p1 p2 f0 f1 f2
     go_wp2_with fail
     refine (HK.out w5).mono ?_
     rintro e w6 ⟨rfl, hb6⟩
     have B6 := Lib.hid (B5.out.trans (hb6.mono B5.out.size))
     clear hb6
     go_wp2_with fail
     go_ret
     exact ⟨rfl, B6.out⟩
    | true =>
     have HAO := Lib.hid hao
     clear hao
     have HSP : Hid (spokeE V ls = 2) := Lib.hid (by unfold spokeE; rw [HLO.out, HAO.out]; rfl)
     go_enter Tryz.func3, Tryz.ntmps3
     go_wp2_with fail
     refine (shortG w _ ls HS.out).mono ?_
     rintro e w1 ⟨rfl, hb1⟩
     rw [HSH.out]
     have B1 := Lib.hid hb1
     clear hb1
     go_wp2_with fail
     refine (countBad w1 O V _ ls (HS.out.below B1.out) HLO.out (.inl HSZ.out)).mono ?_
     rintro e w2 ⟨rfl, hb2⟩
     have B2 := Lib.hid (B1.out.trans (hb2.mono B1.out.size))
     clear hb2 B1
     go_wp2_with fail
     obtain ⟨W3, hW3, T0, TB, Ths⟩ := box1 w2 27 [.int .i64 0, .int .i64 0, .slice none 0 0]
     rw [← hW3]
     clear hW3
     have B3 := Lib.hid (B2.out.trans (TB.out.mono B2.out.size))
     clear B2 TB
     refine (spokenG W3 V _ ls (HS.out.below B3.out)).mono ?_
     rintro e w4 ⟨rfl, hb4⟩
     rw [HSP.out]
     have B4 := Lib.hid (B3.out.trans (hb4.mono B3.out.size))
     have T4 := Lib.hid (T0.out.below' hb4)
     clear hb4 B3 T0
     go_wp2_with fail
     refine (sizesG w4 O V).mono ?_
     rintro e w9 ⟨rfl, hb9⟩
     rw [HSZ.out]
     have B9 := Lib.hid (B4.out.trans (hb9.mono B4.out.size))
     have T9 := Lib.hid (T4.out.below' hb9)
     clear hb9 B4 T4
     obtain ⟨p0, p1, p2, f0, f1, f2⟩ := T9.out.three
     go_wp2_with fail
     refine (sameTableG w9 0 0 0 0 _ _ [] [] (grams_nil _) (grams_nil _)).mono ?_
     rintro e w5 ⟨rfl, hb5⟩
     rw [show decide ((0 : Int) = 0 ∧ (0 : Int) = 0 ∧ ([] : List Gr) = []) = true from rfl]
     have B5 := Lib.hid (B9.out.trans (hb5.mono B9.out.size))
     clear hb5 B9 T9 p0 p1 p2 f0 f1 f2
     go_wp2_with fail
     refine (HK.out w5).mono ?_
     rintro e w6 ⟨rfl, hb6⟩
     have B6 := Lib.hid (B5.out.trans (hb6.mono B5.out.size))
     clear hb6
     go_wp2_with fail
     go_ret
     exact ⟨rfl, B6.out⟩
   | true =>
    have HSZ := Lib.hid hsz
    clear hsz
    cases hao : anyOut V ls with
    | true =>
     have HAO := Lib.hid hao
     clear hao
     have HSP : Hid (spokeE V ls = 2) := Lib.hid (by unfold spokeE; rw [HLO.out, HAO.out]; rfl)
     go_enter Tryz.func3, Tryz.ntmps3
     go_wp2_with fail
     refine (shortG w _ ls HS.out).mono ?_
     rintro e w1 ⟨rfl, hb1⟩
     rw [HSH.out]
     have B1 := Lib.hid hb1
     clear hb1
     go_wp2_with fail
     refine (countBad w1 O V _ ls (HS.out.below B1.out) HLO.out (.inr HAO.out)).mono ?_
     rintro e w2 ⟨rfl, hb2⟩
     have B2 := Lib.hid (B1.out.trans (hb2.mono B1.out.size))
     clear hb2 B1
     go_wp2_with fail
     obtain ⟨W3, hW3, T0, TB, Ths⟩ := box1 w2 27 [.int .i64 0, .int .i64 0, .slice none 0 0]
     rw [← hW3]
     clear hW3
     have B3 := Lib.hid (B2.out.trans (TB.out.mono B2.out.size))
     clear B2 TB
     refine (spokenG W3 V _ ls (HS.out.below B3.out)).mono ?_
     rintro e w4 ⟨rfl, hb4⟩
     rw [HSP.out]
     have B4 := Lib.hid (B3.out.trans (hb4.mono B3.out.size))
     have T4 := Lib.hid (T0.out.below' hb4)
     clear hb4 B3 T0
     go_wp2_with fail
     refine (sizesG w4 O V).mono ?_
     rintro e w9 ⟨rfl, hb9⟩
     rw [HSZ.out]
     have B9 := Lib.hid (B4.out.trans (hb9.mono B4.out.size))
     have T9 := Lib.hid (T4.out.below' hb9)
     clear hb9 B4 T4
     obtain ⟨p0, p1, p2, f0, f1, f2⟩ := T9.out.three
     go_wp2_with fail
     refine (sameTableG w9 0 0 0 0 _ _ [] [] (grams_nil _) (grams_nil _)).mono ?_
     rintro e w5 ⟨rfl, hb5⟩
     rw [show decide ((0 : Int) = 0 ∧ (0 : Int) = 0 ∧ ([] : List Gr) = []) = true from rfl]
     have B5 := Lib.hid (B9.out.trans (hb5.mono B9.out.size))
     clear hb5 B9 T9 p0 p1 p2 f0 f1 f2
     go_wp2_with fail
     refine (HK.out w5).mono ?_
     rintro e w6 ⟨rfl, hb6⟩
     have B6 := Lib.hid (B5.out.trans (hb6.mono B5.out.size))
     clear hb6
     go_wp2_with fail
     go_ret
     exact ⟨rfl, B6.out⟩
    | false =>
     have HAO := Lib.hid hao
     clear hao
     have HO4 : 1 ≤ O ∧ O ≤ 4 ∧ 1 ≤ V ∧ V ≤ 2000 := by
      have := HSZ.out
      unfold sizesB at this
      simp only [Bool.and_eq_true, decide_eq_true_eq] at this
      omega
     obtain ⟨m, rfl⟩ : ∃ m : Nat, O = ((m + 1 : Nat) : Int) := ⟨(O - 1).toNat, by omega⟩
     have HSP : Hid (spokeE V ls = 0) := Lib.hid (by unfold spokeE; rw [HLO.out, HAO.out]; rfl)
     have HIN : Hid (∀ l ∈ ls, ∀ x ∈ l, 1 ≤ x ∧ x ≤ V) := Lib.hid (fun l hl => inR_all (by simpa using List.any_eq_false.1 HAO.out l hl))
     have H5 : Hid (∀ l ∈ ls, l.length ≤ 500) := Lib.hid (fun l hl => by simpa using List.any_eq_false.1 HLO.out l hl)
     have HTE : Hid (tableE ((m + 1 : Nat) : Int) V (countL m ls) = 0) := Lib.hid (count_table (by omega) (by omega) HIN.out H5.out (by rw [HN.out]; exact h8))
     have HFM : Hid ((ls.flatMap (gramsL m)).length ≤ 900000) := Lib.hid (Nat.le_trans (gramsAll_count H5.out (by rw [HN.out]; exact h8)) (by omega))
     go_enter Tryz.func3, Tryz.ntmps3
     go_wp2_with fail
     refine (shortG w _ ls HS.out).mono ?_
     rintro e w1 ⟨rfl, hb1⟩
     rw [HSH.out]
     have B1 := Lib.hid hb1
     clear hb1
     go_wp2_with fail
     refine (countS w1 (m + 1) V _ ls (HS.out.below B1.out) HLO.out HSZ.out HAO.out (by rw [HN.out]; exact h8) HSO.out).mono ?_
     rintro e w2 ⟨lv, gs, rfl, hp, hso, hg, hb2⟩
     obtain rfl := count_same hp hso
     have B2 := Lib.hid (B1.out.trans (hb2.mono B1.out.size))
     have G2 := Lib.hid hg
     obtain ⟨Ag, cg, rfl, _⟩ := hg.open_
     clear hb2 B1 hp hso hg
     have HM : Hid (m + 1 - 1 = m) := Lib.hid (by omega)
     rw [HM.out] at G2
     clear HM
     obtain ⟨gs, hgs⟩ : ∃ gs, gs = countL m ls := ⟨_, rfl⟩
     rw [← hgs] at G2 HTE
     have HGS := Lib.hid hgs
     obtain ⟨L, hL⟩ : ∃ L, L = (countL m ls).length := ⟨_, rfl⟩
     have HL : Hid (gs.length = L) := Lib.hid (by rw [hgs, hL])
     rw [HL.out] at G2
     go_wp2_with fail
     rw [← hL]
     clear hL hgs
     obtain ⟨W3, hW3, T0, TB, Ths⟩ := box1 w2 27 [.int .i64 ((m : Int) + 1), .int .i64 V, .slice Ag L cg]
     rw [← hW3]
     clear hW3
     have B3 := Lib.hid (B2.out.trans (TB.out.mono B2.out.size))
     have G3 := Lib.hid (G2.out.below TB.out)
     clear B2 TB G2
     refine (spokenG W3 V _ ls (HS.out.below B3.out)).mono ?_
     rintro e w4 ⟨rfl, hb4⟩
     rw [HSP.out]
     have B4 := Lib.hid (B3.out.trans (hb4.mono B3.out.size))
     have T4 := Lib.hid (T0.out.below' hb4)
     have G4 := Lib.hid (G3.out.below hb4)
     clear hb4 B3 T0 G3
     go_wp2_with fail
     refine (sizesG w4 ((m : Int) + 1) V).mono ?_
     rintro e w9 ⟨rfl, hb9⟩
     rw [show sizesB ((m : Int) + 1) V = true from HSZ.out]
     have B9 := Lib.hid (B4.out.trans (hb9.mono B4.out.size))
     have T9 := Lib.hid (T4.out.below' hb9)
     have G9 := Lib.hid (G4.out.below hb9)
     clear hb9 B4 T4 G4
     obtain ⟨p0, p1, p2, f0, f1, f2⟩ := T9.out.three
     go_wp2_with fail
     have S9 := Lib.hid (HS.out.below B9.out)
     have BB := Lib.hid (Below.refl w9.heap.size w9)
     have hS := And.intro p0 (And.intro p1 p2)
     go_region_held3 (fun w' => w'.cell? ⟨w2.heap.size, 0, none⟩ = some (.int .i64 ((m : Int) + 1)) ∧ w'.cell? ⟨w2.heap.size, 1, none⟩ = some (.int .i64 V) ∧ w'.cell? ⟨w2.heap.size, 2, none⟩ = some (.slice Ag L cg)) (first | assumption | go_keep)
      (first
       | (go_at_call 23; refine (countG _ ((m : Int) + 1) V m _ ls rfl (by omega) (fun s hs => Nat.le_trans (H5.out s hs) (by omega)) HFM.out ?_).mono ?_; (first | exact S9.out | exact S9.out.below (below_drew_self _) | exact S9.out.below (below_alloc_self _ _) | exact S9.out.below (below_alloc_drew _ _)); rintro e wl ⟨lv, rfl, hgo, _, hb⟩; (first | replace hb := below_new_drew hb | replace hb := below_new hb | replace hb := below_of_drew hb | skip); replace BB := Lib.hid (BB.out.trans (hb.mono BB.out.size)); have hgo' := hgo.at_; rw [← HGS.out] at hgo'; obtain ⟨Ar, cr, rfl, _⟩ := hgo'.open_; rw [HL.out] at hgo' ⊢; have GR := Lib.hid hgo'; have GA := Lib.hid (G9.out.below BB.out); obtain ⟨q0, q1, q2, _, _, _⟩ := (T9.out.below' BB.out).three; have hS := And.intro q0 (And.intro q1 q2); clear hb hgo hgo' q0 q1 q2)
       | (go_at_call 22; refine (sameTableG _ ((m : Int) + 1) V ((m : Int) + 1) V _ _ gs gs ?_ ?_).mono ?_; (first | exact GA.out | exact GA.out.below (below_drew_self _) | exact GA.out.below (below_alloc_self _ _) | exact GA.out.below (below_alloc_drew _ _)); (first | exact GR.out | exact GR.out.below (below_drew_self _) | exact GR.out.below (below_alloc_self _ _) | exact GR.out.below (below_alloc_drew _ _)); rintro e wl ⟨rfl, hb⟩; (first | replace hb := below_new_drew hb | replace hb := below_new hb | replace hb := below_of_drew hb | skip); rw [show decide (((m : Int) + 1) = (m : Int) + 1 ∧ V = V ∧ gs = gs) = true from decide_eq_true ⟨rfl, rfl, rfl⟩]; replace BB := Lib.hid (BB.out.trans (hb.mono BB.out.size)); replace GA := Lib.hid (G9.out.below BB.out); obtain ⟨q0, q1, q2, _, _, _⟩ := (T9.out.below' BB.out).three; have hS := And.intro q0 (And.intro q1 q2); clear hb q0 q1 q2)
       | (go_at_call 24; refine (checkTableG _ ((m : Int) + 1) V _ gs ?_).mono ?_; (first | exact GA.out | exact GA.out.below (below_drew_self _) | exact GA.out.below (below_alloc_self _ _) | exact GA.out.below (below_alloc_drew _ _)); rintro e wl ⟨rfl, hb⟩; (first | replace hb := below_new_drew hb | replace hb := below_new hb | replace hb := below_of_drew hb | skip); rw [show tableE ((m : Int) + 1) V gs = 0 from HTE.out]; replace BB := Lib.hid (BB.out.trans (hb.mono BB.out.size)); replace GA := Lib.hid (G9.out.below BB.out); obtain ⟨q0, q1, q2, _, _, _⟩ := (T9.out.below' BB.out).three; have hS := And.intro q0 (And.intro q1 q2); clear hb q0 q1 q2)
       | (go_at_call 18; refine (HK.out _).mono ?_; rintro e wl ⟨rfl, hb⟩; (first | replace hb := below_new_drew hb | replace hb := below_new hb | replace hb := below_of_drew hb | skip); replace BB := Lib.hid (BB.out.trans (hb.mono BB.out.size)); obtain ⟨q0, q1, q2, _, _, _⟩ := (T9.out.below' BB.out).three; have hS := And.intro q0 (And.intro q1 q2); clear hb q0 q1 q2))
     all_goals
      go_wp2_with fail
      go_ret
      exact ⟨rfl, B9.out.trans (BB.out.mono B9.out.size)⟩
section
open Go.RowKit Go.ChangeShapes Go.WideShapes

theorem ints_row {w : World} {A : Option Addr} {L C : Nat} {Z : List Int} (h1 : L ≤ C) (h2 : C ≤ maxLen) (h3 : Z.length = C) (h4 : A = none → C = 0) (h5 : ∀ a', A = some a' → ∀ c, c < C → w.cell? (a'.add c) = some (.int .i64 (Z.getD c 0))) : IntsAt w (.slice A L C) (Z.take L) := by
 have hl : (Z.take L).length = L := by rw [List.length_take]; omega
 refine ⟨by rw [List.length_map, Nat.mul_one], A, C, by rw [hl], by rw [hl]; exact h1, h2, fun hn => ?_⟩
 rw [hl] at hn
 cases A with
 | none => have := h4 rfl; omega
 | some a' =>
  obtain ⟨b, off, s⟩ := a'
  have h0 := h5 _ rfl 0 (by omega)
  have hs : s = none := by simpa [Addr.add] using World.cell?_spot h0
  subst hs
  refine ⟨b, off, rfl, ?_, fun j u hu => ?_⟩
  ·rw [add_plain] at h0
   exact block_lt_of_cell h0
  ·rw [List.getElem?_map] at hu
   cases hz : (Z.take L)[j]? with
   | none => rw [hz] at hu; cases hu
   | some z =>
    rw [hz] at hu
    cases hu
    have hj := (List.getElem?_eq_some_iff.1 hz).1
    rw [hl] at hj
    have hc := h5 _ rfl j (by omega)
    rw [add_plain] at hc
    rw [hc, List.getD_eq_getElem?_getD]
    rw [List.getElem?_take_of_lt hj] at hz
    rw [hz]
    rfl
theorem open_lists {H : Type} {enc : TypeId × Value → H} {W : World} {held : Bool} {v : Value} {d : DataW H} {ps : List MemPlace} {a : Option Addr} {n c : Nat} (hv : v = .slice a n c) (h : DataW.Trod enc Tryz.prog W 0 (fun _ => true) held 22 v d ps) : ∃ ls, ListsAt W v ls := by
 subst hv
 obtain ⟨fuel, hf⟩ := h
 rcases Go.Deep.open_int_rows Tryz.underlying22 Tryz.underlying44 Tryz.underlying3 (by kernel_rfl) (by kernel_rfl) hf with ⟨hcs, _⟩ | ⟨a', len, cap, A, L, C, Z, hcs, _, h1, h2, _, hr⟩
 ·simp [Value.cells] at hcs
  obtain ⟨rfl, rfl, rfl⟩ := hcs
  exact ⟨[], [], Sl.nil_ _ _, fun i l hl => by simp at hl⟩
 ·simp [Value.cells] at hcs
  obtain ⟨rfl, rfl, rfl⟩ := hcs
  obtain ⟨b, off, s⟩ := a'
  by_cases hn : n = 0
  ·subst hn
   exact ⟨[], [], ⟨rfl, _, _, rfl, h1, h2, fun h => absurd h (Nat.lt_irrefl 0)⟩, fun i l hl => by simp at hl⟩
  have h0 := (hr 0 (by omega)).1
  have hs : s = none := by simpa [Addr.add] using World.cell?_spot h0
  subst hs
  rw [add_plain] at h0
  refine ⟨(List.range n).map fun r => (Z r).take (L r), (List.range n).map fun r => .slice (A r) (L r) (C r), ⟨by simp, _, _, by simp, by simpa using h1, h2, fun _ => ⟨b, off, rfl, block_lt_of_cell h0, fun j u hu => ?_⟩⟩, fun i l hl => ?_⟩
  ·rw [List.getElem?_map] at hu
   by_cases hj : j < n
   ·rw [List.getElem?_range hj] at hu
    cases hu
    have := (hr j (by omega)).1
    rwa [add_plain] at this
   ·rw [List.getElem?_eq_none_iff.2 (by simpa using hj)] at hu
    cases hu
  ·rw [List.getElem?_map] at hl
   by_cases hj : i < n
   ·rw [List.getElem?_range hj] at hl
    cases hl
    obtain ⟨_, r1, r2, r3, _, r5, r6⟩ := hr i (by omega)
    refine ⟨.slice (A i) (L i) (C i), ?_, ints_row r1 r2 r3 r5 (fun a' ha => (r6 a' ha).2)⟩
    rw [List.getElem?_map, List.getElem?_range hj]
    rfl
   ·rw [List.getElem?_eq_none_iff.2 (by simpa using hj)] at hl
    cases hl
end
end Go.Proofs.YtjebfdfkjlkifaaGreat
