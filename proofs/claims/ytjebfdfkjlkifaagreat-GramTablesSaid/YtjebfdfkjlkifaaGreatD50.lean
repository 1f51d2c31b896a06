/- Lemmas on the way: Lc3. -/
import Derived.Test.YtjebfdfkjlkifaaGreatD49
set_option linter.unusedSimpArgs false
set_option linter.unusedVariables false
set_option linter.unusedSectionVars false
set_option linter.unnecessarySimpa false
namespace Go.Proofs.YtjebfdfkjlkifaaGreat
open Go.RowKit
set_option maxRecDepth 1000000 in
set_option maxHeartbeats 16000000 in
theorem gramTablesOut (hsort : SortOk) (w : World) (o V p U least : Int) (A B : Option Addr) (c d L M : Nat) (gs hs : List Gr) (ht : GramsAt w (.slice A L c) gs) (hu : GramsAt w (.slice B M d) hs) (hL : gs.length = L) (hM : hs.length = M) (hB : (smallB V gs && smallB U hs) = false) :
  Calls Tryz.prog 16 #[.agg #[.int .i64 o, .int .i64 V, .slice A L c], .agg #[.int .i64 p, .int .i64 U, .slice B M d], .int .i64 least] w fun e w' => e = .returned (.bool true) ∧ Below w.heap.size w w' := by
 have HK := Lib.hid (knownS hsort)
 have HT := Lib.hid ht
 have HU := Lib.hid hu
 have HL := Lib.hid hL
 have HM := Lib.hid hM
 clear ht hu hL hM hsort
 cases h1 : smallB V gs with
 | false =>
  have H1 := Lib.hid h1
  clear h1 hB
  go_enter Tryz.func16, Tryz.ntmps16
  go_wp2_with fail
  obtain ⟨W, hW, P0, P1, PB, Phs⟩ := box2 w 27 [.int .i64 o, .int .i64 V, .slice A L c] 27 [.int .i64 p, .int .i64 U, .slice B M d]
  rw [← hW]
  clear hW
  obtain ⟨p0, p1, p2, _, _, _⟩ := P0.out.three
  obtain ⟨q0, q1, q2, _, _, _⟩ := P1.out.three
  go_wp2_with fail
  refine (smallG W o V A c L gs (HT.out.below PB.out) HL.out).mono ?_
  rintro e w1 ⟨rfl, hb⟩
  rw [H1.out]
  have BC := Lib.hid (PB.out.trans (hb.mono PB.out.size))
  clear hb P0 P1 PB p0 p1 p2 q0 q1 q2
  go_wp2_with fail
  refine (HK.out _).mono ?_
  rintro e wK ⟨rfl, hbK⟩
  have BK := Lib.hid (BC.out.trans (hbK.mono BC.out.size))
  clear hbK
  go_wp2_with fail
  go_ret
  exact ⟨rfl, BK.out⟩
 | true =>
  have H1 := Lib.hid h1
  have H2 : Hid (smallB U hs = false) := Lib.hid (by rw [h1] at hB; simpa using hB)
  clear h1 hB
  go_enter Tryz.func16, Tryz.ntmps16
  go_wp2_with fail
  obtain ⟨W, hW, P0, P1, PB, Phs⟩ := box2 w 27 [.int .i64 o, .int .i64 V, .slice A L c] 27 [.int .i64 p, .int .i64 U, .slice B M d]
  rw [← hW]
  clear hW
  obtain ⟨p0, p1, p2, _, _, _⟩ := P0.out.three
  obtain ⟨q0, q1, q2, _, _, _⟩ := P1.out.three
  go_wp2_with fail
  refine (smallG W o V A c L gs (HT.out.below PB.out) HL.out).mono ?_
  rintro e w1 ⟨rfl, hb⟩
  rw [H1.out]
  have BC := Lib.hid (PB.out.trans (hb.mono PB.out.size))
  have X1 := Lib.hid (P1.out.below' hb)
  clear hb P0 P1 PB p0 p1 p2 q0 q1 q2
  obtain ⟨q0, q1, q2, _, _, _⟩ := X1.out.three
  go_wp2_with fail
  refine (smallG w1 p U B d M hs (HU.out.below BC.out) HM.out).mono ?_
  rintro e w2 ⟨rfl, hb⟩
  rw [H2.out]
  replace BC := Lib.hid (BC.out.trans (hb.mono BC.out.size))
  clear hb X1 q0 q1 q2
  go_wp2_with fail
  refine (HK.out _).mono ?_
  rintro e wK ⟨rfl, hbK⟩
  have BK := Lib.hid (BC.out.trans (hbK.mono BC.out.size))
  clear hbK
  go_wp2_with fail
  go_ret
  exact ⟨rfl, BK.out⟩

set_option maxRecDepth 1000000 in
set_option maxHeartbeats 16000000 in
theorem gramTablesIn (hsort : SortOk) (w : World) (o V p U least : Int) (A B : Option Addr) (c d L M : Nat) (gs hs : List Gr) (ht : GramsAt w (.slice A L c) gs) (hu : GramsAt w (.slice B M d) hs) (hL : gs.length = L) (hM : hs.length = M) (hB : (smallB V gs && smallB U hs) = true) :
  Calls Tryz.prog 16 #[.agg #[.int .i64 o, .int .i64 V, .slice A L c], .agg #[.int .i64 p, .int .i64 U, .slice B M d], .int .i64 least] w fun e w' => e = .returned (.bool true) ∧ Below w.heap.size w w' := by
 have HK := Lib.hid (knownS hsort)
 have HSO := Lib.hid hsort
 have HT := Lib.hid ht
 have HU := Lib.hid hu
 have HL := Lib.hid hL
 have HM := Lib.hid hM
 rw [Bool.and_eq_true] at hB
 have hl : gs.length ≤ 60 ∧ hs.length ≤ 60 := by
  have h1 := hB.1
  have h2 := hB.2
  unfold smallB at h1 h2
  simp only [Bool.and_eq_true, decide_eq_true_eq] at h1 h2
  exact ⟨h1.1.1, h2.1.1⟩
 have HLL := Lib.hid hl
 have H1 := Lib.hid hB.1
 have H2 := Lib.hid hB.2
 have HMU : Hid (∀ W, GramsAt W (.slice A L c) gs → GramsAt W (.slice B M d) hs → Calls Tryz.prog 58 #[.agg #[.int .i64 o, .int .i64 V, .slice A L c], .agg #[.int .i64 p, .int .i64 U, .slice B M d]] W fun e w' => ∃ o' V' A' c' n gs', e = .returned (.tuple #[.agg #[.int .i64 o', .int .i64 V', .slice A' n c'], .int .i64 (mergeE ⟨o, V, A, c, gs⟩ ⟨p, U, B, d, hs⟩)]) ∧ GramsAt w' (.slice A' n c') gs' ∧ TabIf (mergeE ⟨o, V, A, c, gs⟩ ⟨p, U, B, d, hs⟩) o V (putK (putK [] gs) hs) o' V' gs' ∧ Below W.heap.size W w') := Lib.hid (fun W h1 h2 => by
  have := mergeU hsort W ⟨o, V, A, c, gs⟩ ⟨p, U, B, d, hs⟩ (by simp only [Tb.lv]; rw [hL]; exact h1) (by simp only [Tb.lv]; rw [hM]; exact h2) hl.1 hl.2
  simp only [Tb.lv] at this
  rw [hL, hM] at this
  exact this)
 have HLW : Hid (∀ W, GramsAt W (.slice A L c) gs → Calls Tryz.prog 59 #[.agg #[.int .i64 o, .int .i64 V, .slice A L c]] W fun e w' => ∃ o' V' A' c' n gs', e = .returned (.tuple #[.agg #[.int .i64 o', .int .i64 V', .slice A' n c'], .int .i64 (lowE ⟨o, V, A, c, gs⟩)]) ∧ GramsAt w' (.slice A' n c') gs' ∧ TabIf (lowE ⟨o, V, A, c, gs⟩) (o - 1) V (putK [] (lowL gs)) o' V' gs' ∧ Below W.heap.size W w') := Lib.hid (fun W h1 => by
  have := lowerU hsort W ⟨o, V, A, c, gs⟩ (by simp only [Tb.lv]; rw [hL]; exact h1)
  simp only [Tb.lv] at this
  rw [hL] at this
  exact this)
 have HDR : Hid (∀ W, GramsAt W (.slice A L c) gs → Calls Tryz.prog 71 #[.agg #[.int .i64 o, .int .i64 V, .slice A L c], .int .i64 least] W fun e w' => ∃ o' V' A' c' n gs', e = .returned (.tuple #[.agg #[.int .i64 o', .int .i64 V', .slice A' n c'], .int .i64 (tableE o V gs)]) ∧ GramsAt w' (.slice A' n c') gs' ∧ TabIf (tableE o V gs) o V (putK [] (dropL least gs)) o' V' gs' ∧ Below W.heap.size W w') := Lib.hid (fun W h1 => by
  have := dropU W ⟨o, V, A, c, gs⟩ least (by simp only [Tb.lv]; rw [hL]; exact h1)
  simp only [Tb.lv] at this
  rw [hL] at this
  exact this)
 clear ht hu hL hM hsort hB hl
 obtain ⟨FL, hFL⟩ : ∃ FL, lowE ⟨o, V, A, c, gs⟩ = FL := ⟨_, rfl⟩
 rw [hFL] at HLW
 have HFL := Lib.hid hFL
 clear hFL
 obtain ⟨ea, hea⟩ : ∃ ea, tableE o V gs = ea := ⟨_, rfl⟩
 obtain ⟨eb, heb⟩ : ∃ eb, tableE p U hs = eb := ⟨_, rfl⟩
 obtain ⟨F, hF⟩ : ∃ F, mergeE ⟨o, V, A, c, gs⟩ ⟨p, U, B, d, hs⟩ = F := ⟨_, rfl⟩
 rw [hF] at HMU
 rw [hea] at HDR
 have HEA := Lib.hid hea
 have HEB := Lib.hid heb
 have HFE := Lib.hid hF
 clear hea heb hF
 go_enter Tryz.func16, Tryz.ntmps16
 go_wp2_with fail
 obtain ⟨W, hW, P0, P1, PB, Phs⟩ := box2 w 27 [.int .i64 o, .int .i64 V, .slice A L c] 27 [.int .i64 p, .int .i64 U, .slice B M d]
 rw [← hW]
 clear hW
 obtain ⟨p0, p1, p2, _, _, _⟩ := P0.out.three
 obtain ⟨q0, q1, q2, _, _, _⟩ := P1.out.three
 go_wp2_with fail
 refine (smallG W o V A c L gs (HT.out.below PB.out) HL.out).mono ?_
 rintro e w1 ⟨rfl, hb⟩
 rw [H1.out]
 have BC := Lib.hid (PB.out.trans (hb.mono PB.out.size))
 have X0 := Lib.hid (P0.out.below' hb)
 have X1 := Lib.hid (P1.out.below' hb)
 clear hb P0 P1 PB p0 p1 p2 q0 q1 q2
 obtain ⟨q0, q1, q2, _, _, _⟩ := X1.out.three
 go_wp2_with fail
 refine (smallG w1 p U B d M hs (HU.out.below BC.out) HM.out).mono ?_
 rintro e w2 ⟨rfl, hb⟩
 rw [H2.out]
 replace BC := Lib.hid (BC.out.trans (hb.mono BC.out.size))
 replace X0 := Lib.hid (X0.out.below' hb)
 replace X1 := Lib.hid (X1.out.below' hb)
 clear hb q0 q1 q2
 obtain ⟨p0, p1, p2, _, _, _⟩ := X0.out.three
 go_wp2_with fail
 refine (refCheckTableG w2 o V _ gs (HT.out.below BC.out)).mono ?_
 rintro e w3 ⟨rfl, hb⟩
 rw [HEA.out]
 replace BC := Lib.hid (BC.out.trans (hb.mono BC.out.size))
 replace X0 := Lib.hid (X0.out.below' hb)
 replace X1 := Lib.hid (X1.out.below' hb)
 clear hb p0 p1 p2
 obtain ⟨p0, p1, p2, _, _, _⟩ := X0.out.three
 go_wp2_with fail
 refine (checkTableG w3 o V _ gs (HT.out.below BC.out)).mono ?_
 rintro e w4 ⟨rfl, hb⟩
 rw [HEA.out]
 replace BC := Lib.hid (BC.out.trans (hb.mono BC.out.size))
 replace X0 := Lib.hid (X0.out.below' hb)
 replace X1 := Lib.hid (X1.out.below' hb)
 clear hb p0 p1 p2
 obtain ⟨p0, p1, p2, _, _, _⟩ := X0.out.three
 obtain ⟨q0, q1, q2, _, _, _⟩ := X1.out.three
 have dea : (ea != ea) = false := by simp
 go_wp2_with fail
 refine (HMU.out w4 (HT.out.below BC.out) (HU.out.below BC.out)).mono ?_
 rintro e w5 ⟨o', V', A', c', n', gs', rfl, hg, htab, hb⟩
 have GM := Lib.hid hg
 have HTAB := Lib.hid htab
 replace BC := Lib.hid (BC.out.trans (hb.mono BC.out.size))
 replace X0 := Lib.hid (X0.out.below' hb)
 replace X1 := Lib.hid (X1.out.below' hb)
 clear hb hg htab p0 p1 p2 q0 q1 q2
 have hz5 : w.heap.size + 1 < w5.heap.size := X1.out.lt
 go_upto_region 7 with fail
 obtain ⟨W6, hW6, N0, NB, Nhs⟩ := box1 w5 27 [.int .i64 o', .int .i64 V', .slice A' n' c']
 rw [← hW6]
 clear hW6
 replace BC := Lib.hid (BC.out.trans (NB.out.mono BC.out.size))
 replace X0 := Lib.hid (X0.out.below' NB.out)
 replace X1 := Lib.hid (X1.out.below' NB.out)
 replace GM := Lib.hid (GM.out.below NB.out)
 have hz0 : w.heap.size + 1 < W6.heap.size := X1.out.lt
 clear NB
 obtain ⟨W1v, hW1v⟩ : ∃ x : Int, x = if ea = 0 then eb else ea := ⟨_, rfl⟩
 have HW1 := Lib.hid hW1v
 clear hW1v
 go_upto_if 38 with fail
 go_cut [10] (fun wv wc => wv = .int .i64 W1v ∧ Hid (Below W6.heap.size W6 wc))
 case first =>
  obtain ⟨q0, q1, q2, _, _, _⟩ := X1.out.three
  by_cases he : ea = 0
  ·have d1 : (ea == 0) = true := by simpa using he
   have HE1 : Hid (W1v = eb) := Lib.hid (by rw [HW1.out, if_pos he])
   clear he
   go_wp2_with fail
   refine (refCheckTableG W6 p U _ hs (HU.out.below BC.out)).mono ?_
   rintro e w6 ⟨rfl, hb⟩
   rw [HEB.out]
   have BD := Lib.hid hb
   clear hb
   go_wp2_with fail
   go_meet
   exact ⟨by rw [HE1.out], BD⟩
  ·have d1 : (ea == 0) = false := by simpa using he
   have HE1 : Hid (W1v = ea) := Lib.hid (by rw [HW1.out, if_neg he])
   clear he
   go_wp2_with fail
   go_meet
   exact ⟨by rw [HE1.out], Lib.hid (Below.refl _ _)⟩
 case rest =>
  obtain ⟨rfl, BD⟩ := hcut
  replace BC := Lib.hid (BC.out.trans (BD.out.mono BC.out.size))
  replace X0 := Lib.hid (X0.out.below' BD.out)
  replace X1 := Lib.hid (X1.out.below' BD.out)
  replace N0 := Lib.hid (N0.out.below' BD.out)
  replace GM := Lib.hid (GM.out.below BD.out)
  have hw6 : W6.heap.size ≤ wc.heap.size := BD.out.size
  obtain ⟨w7, hw7⟩ : ∃ w7, w7 = wc := ⟨_, rfl⟩
  rw [← hw7] at BC X0 X1 N0 GM hw6 ⊢
  clear hw7 BD
  obtain ⟨tb, htb⟩ : ∃ tb : Bool, tb = decide (W1v = 0 ∧ ¬ (o = p ∧ V = U ∧ ¬ 1073741824 < mostL (putK (putK [] gs) hs))) := ⟨_, rfl⟩
  have HTB := Lib.hid htb
  clear htb
  go_upto_region 10 with fail
  go_cut [63] (fun tv wd => tv = .bool tb ∧ Hid (Below w7.heap.size w7 wd))
  case first =>
   obtain ⟨p0, p1, p2, _, _, _⟩ := X0.out.three
   obtain ⟨q0, q1, q2, _, _, _⟩ := X1.out.three
   by_cases h1 : W1v = 0
   ·have d1 : (W1v == 0) = true := by simpa using h1
    have hE0 : ea = 0 ∧ eb = 0 := by
     have h := HW1.out
     rw [h1] at h
     by_cases he : ea = 0
     ·rw [if_pos he] at h; exact ⟨he, h.symm⟩
     ·rw [if_neg he] at h; exact absurd h.symm he
    by_cases h2 : o = p
    ·have d2 : (o != p) = false := by simpa using h2
     by_cases h3 : V = U
     ·have d3 : (V != U) = false := by simpa using h3
      obtain ⟨mx, hmx⟩ : ∃ mx, mostL (putK (putK [] gs) hs) = mx := ⟨_, rfl⟩
      have HMX := Lib.hid hmx
      have HTB2 : Hid (tb = decide (1073741824 < mx)) := Lib.hid (by
       rw [HTB.out, hmx]
       by_cases h4 : 1073741824 < mx
       ·rw [decide_eq_true h4]; exact decide_eq_true ⟨h1, fun h => h.2.2 h4⟩
       ·rw [decide_eq_false h4]; exact decide_eq_false (fun h => h.2 ⟨h2, h3, h4⟩))
      have ta := table_all (HEA.out.trans hE0.1)
      obtain ⟨nn, hnn⟩ : ∃ nn : Nat, o = (nn : Int) := ⟨o.toNat, by omega⟩
      have MR := Lib.hid (mergeR w7 o V p U A B c d L M nn gs hs (HT.out.below BC.out) (HU.out.below BC.out) HL.out HM.out (fun g hg => by have := (ta.2.2.2.2.2.1 g hg); exact ⟨by omega, by omega, this.2.2.2⟩) (fun g hg => by have := ((table_all (HEB.out.trans hE0.2)).2.2.2.2.2.1 g hg); exact ⟨by omega, by omega, this.2.2.2⟩) (by have := HLL.out.1; rw [HL.out] at this; omega) (by have := HLL.out.2; rw [HM.out] at this; omega) (by omega))
      clear h1 h2 h3 hE0 hmx ta hnn
      go_wp2_with fail
      refine MR.out.mono ?_
      rintro e w8 ⟨lv, rfl, hg, _, hb⟩
      obtain ⟨Ar, cr, rfl, _⟩ := hg.open_
      have GR := Lib.hid hg
      have B8 := Lib.hid hb
      obtain ⟨Lr, hLr⟩ : ∃ Lr, (putK (putK [] gs) hs).length = Lr := ⟨_, rfl⟩
      have HLR := Lib.hid hLr
      rw [hLr] at GR ⊢
      clear hg hb hLr MR
      go_wp2_with fail
      refine (greatestR w8 o V Ar cr Lr _ GR.out HLR.out).mono ?_
      rintro e w9 ⟨rfl, hb⟩
      rw [HMX.out]
      have B9 := Lib.hid (B8.out.trans (hb.mono B8.out.size))
      clear hb
      go_wp2_with fail
      go_meet
      exact ⟨by rw [HTB2.out], B9⟩
     ·have d3 : (V != U) = true := by simpa using h3
      have HTB2 : Hid (tb = true) := Lib.hid (by rw [HTB.out]; exact decide_eq_true ⟨h1, fun h => h3 h.2.1⟩)
      clear h1 h2 h3 hE0
      go_wp2_with fail
      go_meet
      exact ⟨by rw [HTB2.out], Lib.hid (Below.refl _ _)⟩
    ·have d2 : (o != p) = true := by simpa using h2
     have HTB2 : Hid (tb = true) := Lib.hid (by rw [HTB.out]; exact decide_eq_true ⟨h1, fun h => h2 h.1⟩)
     clear h1 h2 hE0
     go_wp2_with fail
     go_meet
     exact ⟨by rw [HTB2.out], Lib.hid (Below.refl _ _)⟩
   ·have d1 : (W1v == 0) = false := by simpa using h1
    have HTB2 : Hid (tb = false) := Lib.hid (by rw [HTB.out]; exact decide_eq_false (fun h => h1 h.1))
    clear h1
    go_wp2_with fail
    go_meet
    exact ⟨by rw [HTB2.out], Lib.hid (Below.refl _ _)⟩
  case rest =>
   obtain ⟨rfl, BD⟩ := hcut
   have HF2 : Hid (F = if tb = true then 2 else W1v) := Lib.hid (by
    rw [← HFE.out, HTB.out, HW1.out]
    unfold mergeE
    simp only [HEA.out, HEB.out]
    by_cases he : ea = 0
    ·rw [if_neg (fun hn => hn he), if_pos he]
     by_cases he2 : eb = 0
     ·rw [if_neg (fun hn => hn he2)]
      by_cases hc : o = p ∧ V = U ∧ ¬ 1073741824 < mostL (putK (putK [] gs) hs)
      ·rw [if_pos hc, if_neg (by simp only [decide_eq_true_eq]; exact fun h => h.2 hc), he2]
      ·rw [if_neg hc, if_pos (by simp only [decide_eq_true_eq]; exact ⟨he2, hc⟩)]
     ·rw [if_pos he2, if_neg (by simp only [decide_eq_true_eq]; exact fun h => he2 h.1)]
    ·rw [if_pos he, if_neg he, if_neg (by simp only [decide_eq_true_eq]; exact fun h => he h.1)])
   replace BC := Lib.hid (BC.out.trans (BD.out.mono BC.out.size))
   replace X0 := Lib.hid (X0.out.below' BD.out)
   replace X1 := Lib.hid (X1.out.below' BD.out)
   replace N0 := Lib.hid (N0.out.below' BD.out)
   replace GM := Lib.hid (GM.out.below BD.out)
   have hw8 : w7.heap.size ≤ wc.heap.size := BD.out.size
   obtain ⟨w8, hw8'⟩ : ∃ w8, w8 = wc := ⟨_, rfl⟩
   rw [← hw8'] at BC X0 X1 N0 GM hw8 ⊢
   clear hw8' BD
   go_upto_if 63 with fail
   go_cut [10] (fun wv wd => wv = .int .i64 F ∧ wd = w8)
   case first =>
    cases tb
    ·have HF3 : Hid (F = W1v) := Lib.hid HF2.out
     go_wp2_with fail
     go_meet
     exact ⟨by rw [HF3.out], rfl⟩
    ·have HF3 : Hid (F = 2) := Lib.hid HF2.out
     go_wp2_with fail
     go_meet
     exact ⟨by rw [HF3.out], rfl⟩
   case rest =>
    obtain ⟨rfl, rfl⟩ := hcut
    obtain ⟨w9, hw9⟩ : ∃ w9, w9 = wc := ⟨_, rfl⟩
    rw [← hw9] at BC X0 X1 N0 GM hw8 ⊢
    clear hw9
    go_upto_region 12 with fail
    go_cut [88] (fun tv wd => tv = .bool false ∧ Hid (Below w9.heap.size w9 wd))
    case first =>
     obtain ⟨n0, n1, n2, _, _, _⟩ := N0.out.three
     obtain ⟨p0, p1, p2, _, _, _⟩ := X0.out.three
     obtain ⟨q0, q1, q2, _, _, _⟩ := X1.out.three
     have f1 : (F != F) = false := by simp
     by_cases hf : F = 0
     ·have f2 : (F != 0) = false := by simpa using hf
      have f3 : (F == 0) = true := by simpa using hf
      have hE0 : ea = 0 ∧ eb = 0 ∧ o = p ∧ V = U := by
       have h := HFE.out
       rw [hf] at h
       unfold mergeE at h
       simp only [HEA.out, HEB.out] at h
       by_cases he : ea = 0
       ·rw [if_neg (fun hn => hn he)] at h
        by_cases he2 : eb = 0
        ·rw [if_neg (fun hn => hn he2)] at h
         by_cases hc : o = p ∧ V = U ∧ ¬ 1073741824 < mostL (putK (putK [] gs) hs)
         ·exact ⟨he, he2, hc.1, hc.2.1⟩
         ·rw [if_neg hc] at h; cases h
        ·rw [if_pos he2] at h; exact absurd h he2
       ·rw [if_pos he] at h; exact absurd h he
      have HSAME : Hid (o' = o ∧ V' = V ∧ gs' = putK (putK [] gs) hs) := Lib.hid (by
       rcases HTAB.out with ⟨_, h⟩ | ⟨h, _⟩
       ·exact h
       ·exact absurd hf h)
      have ta := table_all (HEA.out.trans hE0.1)
      obtain ⟨nn, hnn⟩ : ∃ nn : Nat, o = (nn : Int) := ⟨o.toNat, by omega⟩
      have HMR := Lib.hid (fun (W : World) (h1 : GramsAt W (.slice A L c) gs) (h2 : GramsAt W (.slice B M d) hs) => mergeR W o V p U A B c d L M nn gs hs h1 h2 HL.out HM.out (fun g hg => by have := (ta.2.2.2.2.2.1 g hg); exact ⟨by omega, by omega, this.2.2.2⟩) (fun g hg => by have := ((table_all (HEB.out.trans hE0.2.1)).2.2.2.2.2.1 g hg); exact ⟨by omega, by omega, this.2.2.2⟩) (by have := HLL.out.1; rw [HL.out] at this; omega) (by have := HLL.out.2; rw [HM.out] at this; omega) (by omega))
      have HT9 := Lib.hid (HT.out.below BC.out)
      have HU9 := Lib.hid (HU.out.below BC.out)
      have BB := Lib.hid (Below.refl w9.heap.size w9)
      clear hf hE0 ta hnn
      have HSET : Hid (∀ w', Below w9.heap.size w9 w' → Below w9.heap.size w9 w' ∧ (w'.cell? ⟨w5.heap.size, 0, none⟩ = some (.int .i64 o') ∧ w'.cell? ⟨w5.heap.size, 1, none⟩ = some (.int .i64 V') ∧ w'.cell? ⟨w5.heap.size, 2, none⟩ = some (.slice A' n' c')) ∧ (w'.cell? ⟨w.heap.size, 0, none⟩ = some (.int .i64 o) ∧ w'.cell? ⟨w.heap.size, 1, none⟩ = some (.int .i64 V) ∧ w'.cell? ⟨w.heap.size, 2, none⟩ = some (.slice A L c)) ∧ (w'.cell? ⟨w.heap.size + 1, 0, none⟩ = some (.int .i64 p) ∧ w'.cell? ⟨w.heap.size + 1, 1, none⟩ = some (.int .i64 U) ∧ w'.cell? ⟨w.heap.size + 1, 2, none⟩ = some (.slice B M d))) := Lib.hid (fun w' hb => ⟨hb, ⟨(N0.out.below' hb).three.1, (N0.out.below' hb).three.2.1, (N0.out.below' hb).three.2.2.1⟩, ⟨(X0.out.below' hb).three.1, (X0.out.below' hb).three.2.1, (X0.out.below' hb).three.2.2.1⟩, ⟨(X1.out.below' hb).three.1, (X1.out.below' hb).three.2.1, (X1.out.below' hb).three.2.2.1⟩⟩)
      clear n0 n1 n2 p0 p1 p2 q0 q1 q2
      refine wp_region_held_drew (S := fun w' => Below w9.heap.size w9 w' ∧ (w'.cell? ⟨w5.heap.size, 0, none⟩ = some (.int .i64 o') ∧ w'.cell? ⟨w5.heap.size, 1, none⟩ = some (.int .i64 V') ∧ w'.cell? ⟨w5.heap.size, 2, none⟩ = some (.slice A' n' c')) ∧ (w'.cell? ⟨w.heap.size, 0, none⟩ = some (.int .i64 o) ∧ w'.cell? ⟨w.heap.size, 1, none⟩ = some (.int .i64 V) ∧ w'.cell? ⟨w.heap.size, 2, none⟩ = some (.slice A L c)) ∧ (w'.cell? ⟨w.heap.size + 1, 0, none⟩ = some (.int .i64 p) ∧ w'.cell? ⟨w.heap.size + 1, 1, none⟩ = some (.int .i64 U) ∧ w'.cell? ⟨w.heap.size + 1, 2, none⟩ = some (.slice B M d))) (by kernel_rfl) (HSET.out _ (below_drew_self w9)) (fun hHeld => ?_)
      refine wpAnyH_take (i := 0) (v := ?_) rfl (by kernel_rfl) (by kernel_rfl) (by kernel_rfl) (fun _ _ _ h => h) (Or.inl ⟨by rfl, ?_⟩) (by assumption) ?_
      rotate_left
      ·(intro w' hSw; (try dsimp only at hSw); go_simp <;> with_reducible rfl)
      simp only [List.getElem_toArray, List.getElem_cons_succ, List.getElem_cons_zero, Act.put, List.setIfInBounds_toArray, List.set_cons_zero, List.set_cons_succ]
      refine wpAnyH_take (i := 1) (v := ?_) rfl (by kernel_rfl) (by kernel_rfl) (by kernel_rfl) (fun _ _ _ h => h) (Or.inl ⟨by rfl, ?_⟩) (by assumption) ?_
      rotate_left
      ·(intro w' hSw; (try dsimp only at hSw); go_simp <;> with_reducible rfl)
      simp only [List.getElem_toArray, List.getElem_cons_succ, List.getElem_cons_zero, Act.put, List.setIfInBounds_toArray, List.set_cons_zero, List.set_cons_succ]
      refine wpAnyH_take (i := 2) (v := ?_) rfl (by kernel_rfl) (by kernel_rfl) (by kernel_rfl) (fun _ _ _ h => h) (Or.inl ⟨by rfl, ?_⟩) (by assumption) ?_
      rotate_left
      ·(intro w' hSw; (try dsimp only at hSw); go_simp <;> with_reducible rfl)
      simp only [List.getElem_toArray, List.getElem_cons_succ, List.getElem_cons_zero, Act.put, List.setIfInBounds_toArray, List.set_cons_zero, List.set_cons_succ]
      refine wpAnyH_take (i := 3) (v := ?_) rfl (by kernel_rfl) (by kernel_rfl) (by kernel_rfl) (fun _ _ _ h => h) (Or.inl ⟨by rfl, ?_⟩) (by assumption) ?_
      rotate_left
      ·(intro w' hSw; (try dsimp only at hSw); go_simp <;> with_reducible rfl)
      simp only [List.getElem_toArray, List.getElem_cons_succ, List.getElem_cons_zero, Act.put, List.setIfInBounds_toArray, List.set_cons_zero, List.set_cons_succ]
      refine wpAnyH_take (i := 4) (v := ?_) rfl (by kernel_rfl) (by kernel_rfl) (by kernel_rfl) (fun _ _ _ h => h) (Or.inl ⟨by rfl, ?_⟩) (by assumption) ?_
      rotate_left
      ·(intro w' hSw; (try dsimp only at hSw); go_simp <;> with_reducible rfl)
      simp only [List.getElem_toArray, List.getElem_cons_succ, List.getElem_cons_zero, Act.put, List.setIfInBounds_toArray, List.set_cons_zero, List.set_cons_succ]
      refine wpAnyH_take (i := 5) (v := ?_) rfl (by kernel_rfl) (by kernel_rfl) (by kernel_rfl) (fun _ _ _ h => h) (Or.inl ⟨by rfl, ?_⟩) (by assumption) ?_
      rotate_left
      ·(intro w' hSw; (try dsimp only at hSw); go_simp <;> with_reducible rfl)
      simp only [List.getElem_toArray, List.getElem_cons_succ, List.getElem_cons_zero, Act.put, List.setIfInBounds_toArray, List.set_cons_zero, List.set_cons_succ]
      refine wpAnyH_take (i := 6) (v := ?_) rfl (by kernel_rfl) (by kernel_rfl) (by kernel_rfl) (fun _ _ _ h => h) (Or.inl ⟨by rfl, ?_⟩) (by assumption) ?_
      rotate_left
      ·(intro w' hSw; (try dsimp only at hSw); go_simp <;> with_reducible rfl)
      simp only [List.getElem_toArray, List.getElem_cons_succ, List.getElem_cons_zero, Act.put, List.setIfInBounds_toArray, List.set_cons_zero, List.set_cons_succ]
      refine wpAnyH_take (i := 7) (v := undef) rfl (by kernel_rfl) (by kernel_rfl) (by kernel_rfl) (fun _ _ _ h => h) (Or.inr ⟨by rfl, rfl⟩) (by assumption) ?_
      simp only [List.getElem_toArray, List.getElem_cons_succ, List.getElem_cons_zero, Act.put, List.setIfInBounds_toArray, List.set_cons_zero, List.set_cons_succ]
      refine wpAnyH_take (i := 8) (v := undef) rfl (by kernel_rfl) (by kernel_rfl) (by kernel_rfl) (fun _ _ _ h => h) (Or.inr ⟨by rfl, rfl⟩) (by assumption) ?_
      simp only [List.getElem_toArray, List.getElem_cons_succ, List.getElem_cons_zero, Act.put, List.setIfInBounds_toArray, List.set_cons_zero, List.set_cons_succ]
      refine wpAnyH_ready (rs := [9]) (by kernel_rfl) (by simp) ?_
      refine AllReadyH.cons rfl (fun K hK => ?_) AllReadyH.nil
      go_simp
      refine hK.out _ _ hHeld (fun hHeld => ?_)
      clear hK K
      try simp only [List.getElem_toArray, List.getElem_cons_succ, List.getElem_cons_zero, Act.put, List.setIfInBounds_toArray, List.set_cons_zero, List.set_cons_succ]
      refine wpAnyH_take (i := 10) (v := undef) rfl (by kernel_rfl) (by kernel_rfl) (by kernel_rfl) (fun _ _ _ h => h) (Or.inr ⟨by rfl, rfl⟩) (by assumption) ?_
      simp only [List.getElem_toArray, List.getElem_cons_succ, List.getElem_cons_zero, Act.put, List.setIfInBounds_toArray, List.set_cons_zero, List.set_cons_succ]
      refine wpAnyH_take (i := 11) (v := ?_) rfl (by kernel_rfl) (by kernel_rfl) (by kernel_rfl) (fun _ _ _ h => h) (Or.inl ⟨by rfl, ?_⟩) (by assumption) ?_
      rotate_left
      ·(intro w' hSw; (try dsimp only at hSw); go_simp <;> with_reducible rfl)
      simp only [List.getElem_toArray, List.getElem_cons_succ, List.getElem_cons_zero, Act.put, List.setIfInBounds_toArray, List.set_cons_zero, List.set_cons_succ]
      refine wpAnyH_take (i := 12) (v := ?_) rfl (by kernel_rfl) (by kernel_rfl) (by kernel_rfl) (fun _ _ _ h => h) (Or.inl ⟨by rfl, ?_⟩) (by assumption) ?_
      rotate_left
      ·(intro w' hSw; (try dsimp only at hSw); go_simp <;> with_reducible rfl)
      simp only [List.getElem_toArray, List.getElem_cons_succ, List.getElem_cons_zero, Act.put, List.setIfInBounds_toArray, List.set_cons_zero, List.set_cons_succ]
      refine wpAnyH_take (i := 13) (v := ?_) rfl (by kernel_rfl) (by kernel_rfl) (by kernel_rfl) (fun _ _ _ h => h) (Or.inl ⟨by rfl, ?_⟩) (by assumption) ?_
      rotate_left
      ·(intro w' hSw; (try dsimp only at hSw); go_simp <;> with_reducible rfl)
      simp only [List.getElem_toArray, List.getElem_cons_succ, List.getElem_cons_zero, Act.put, List.setIfInBounds_toArray, List.set_cons_zero, List.set_cons_succ]
      refine wpAnyH_take (i := 14) (v := ?_) rfl (by kernel_rfl) (by kernel_rfl) (by kernel_rfl) (fun _ _ _ h => h) (Or.inl ⟨by rfl, ?_⟩) (by assumption) ?_
      rotate_left
      ·(intro w' hSw; (try dsimp only at hSw); go_simp <;> with_reducible rfl)
      simp only [List.getElem_toArray, List.getElem_cons_succ, List.getElem_cons_zero, Act.put, List.setIfInBounds_toArray, List.set_cons_zero, List.set_cons_succ]
      refine wpAnyH_take (i := 15) (v := ?_) rfl (by kernel_rfl) (by kernel_rfl) (by kernel_rfl) (fun _ _ _ h => h) (Or.inl ⟨by rfl, ?_⟩) (by assumption) ?_
      rotate_left
      ·(intro w' hSw; (try dsimp only at hSw); go_simp <;> with_reducible rfl)
      simp only [List.getElem_toArray, List.getElem_cons_succ, List.getElem_cons_zero, Act.put, List.setIfInBounds_toArray, List.set_cons_zero, List.set_cons_succ]
      refine wpAnyH_take (i := 16) (v := ?_) rfl (by kernel_rfl) (by kernel_rfl) (by kernel_rfl) (fun _ _ _ h => h) (Or.inl ⟨by rfl, ?_⟩) (by assumption) ?_
      rotate_left
      ·(intro w' hSw; (try dsimp only at hSw); go_simp <;> with_reducible rfl)
      simp only [List.getElem_toArray, List.getElem_cons_succ, List.getElem_cons_zero, Act.put, List.setIfInBounds_toArray, List.set_cons_zero, List.set_cons_succ]
      refine wpAnyH_take (i := 17) (v := ?_) rfl (by kernel_rfl) (by kernel_rfl) (by kernel_rfl) (fun _ _ _ h => h) (Or.inl ⟨by rfl, ?_⟩) (by assumption) ?_
      rotate_left
      ·(intro w' hSw; (try dsimp only at hSw); go_simp <;> with_reducible rfl)
      simp only [List.getElem_toArray, List.getElem_cons_succ, List.getElem_cons_zero, Act.put, List.setIfInBounds_toArray, List.set_cons_zero, List.set_cons_succ]
      refine wpAnyH_take (i := 18) (v := ?_) rfl (by kernel_rfl) (by kernel_rfl) (by kernel_rfl) (fun _ _ _ h => h) (Or.inl ⟨by rfl, ?_⟩) (by assumption) ?_
      rotate_left
      ·(intro w' hSw; (try dsimp only at hSw); go_simp <;> with_reducible rfl)
      simp only [List.getElem_toArray, List.getElem_cons_succ, List.getElem_cons_zero, Act.put, List.setIfInBounds_toArray, List.set_cons_zero, List.set_cons_succ]
      refine wpAnyH_take (i := 19) (v := ?_) rfl (by kernel_rfl) (by kernel_rfl) (by kernel_rfl) (fun _ _ _ h => h) (Or.inl ⟨by rfl, ?_⟩) (by assumption) ?_
      rotate_left
      ·(intro w' hSw; (try dsimp only at hSw); go_simp <;> with_reducible rfl)
      simp only [List.getElem_toArray, List.getElem_cons_succ, List.getElem_cons_zero, Act.put, List.setIfInBounds_toArray, List.set_cons_zero, List.set_cons_succ]
      refine wpAnyH_ready (rs := [20]) (by kernel_rfl) (by simp) ?_
      refine AllReadyH.cons rfl (fun K hK => ?_) AllReadyH.nil
      go_simp
      refine (HMR.out _ (HT9.out.below hHeld.1) (HU9.out.below hHeld.1)).mono ?_
      rintro e wl ⟨lv, rfl, hg, _, hb⟩
      obtain ⟨Ar, cr, rfl, _⟩ := hg.open_
      have GR := Lib.hid hg
      clear hg
      have hS := HSET.out wl (hHeld.1.trans (hb.mono hHeld.1.size))
      clear hb hHeld
      try go_simp
      refine hK.out _ _ hS (fun hHeld => ?_)
      clear hK K hS
      try simp only [List.getElem_toArray, List.getElem_cons_succ, List.getElem_cons_zero, Act.put, List.setIfInBounds_toArray, List.set_cons_zero, List.set_cons_succ]
      refine wpAnyH_ready (rs := [21]) (by kernel_rfl) (by simp) ?_
      refine AllReadyH.cons rfl (fun K hK => ?_) AllReadyH.nil
      go_simp
      refine (sameTableG _ o' V' o V _ _ gs' (putK (putK [] gs) hs) (GM.out.below hHeld.1) GR.out).mono ?_
      rintro e wl ⟨rfl, hb⟩
      rw [show decide (o' = o ∧ V' = V ∧ gs' = putK (putK [] gs) hs) = true from decide_eq_true HSAME.out]
      have hS := HSET.out wl (hHeld.1.trans (hb.mono hHeld.1.size))
      clear hb hHeld
      try go_simp
      refine hK.out _ _ hS (fun hHeld => ?_)
      clear hK K hS
      try simp only [List.getElem_toArray, List.getElem_cons_succ, List.getElem_cons_zero, Act.put, List.setIfInBounds_toArray, List.set_cons_zero, List.set_cons_succ]
      refine wpAnyH_take (i := 22) (v := ?_) rfl (by kernel_rfl) (by kernel_rfl) (by kernel_rfl) (fun _ _ _ h => h) (Or.inl ⟨by rfl, ?_⟩) (by assumption) ?_
      rotate_left
      ·(intro w' hSw; (try dsimp only at hSw); go_simp <;> with_reducible rfl)
      simp only [List.getElem_toArray, List.getElem_cons_succ, List.getElem_cons_zero, Act.put, List.setIfInBounds_toArray, List.set_cons_zero, List.set_cons_succ]
      refine wpAnyH_take (i := 23) (v := ?_) rfl (by kernel_rfl) (by kernel_rfl) (by kernel_rfl) (fun _ _ _ h => h) (Or.inl ⟨by rfl, ?_⟩) (by assumption) ?_
      rotate_left
      ·(intro w' hSw; (try dsimp only at hSw); go_simp <;> with_reducible rfl)
      simp only [List.getElem_toArray, List.getElem_cons_succ, List.getElem_cons_zero, Act.put, List.setIfInBounds_toArray, List.set_cons_zero, List.set_cons_succ]
      refine wpAnyH_take (i := 24) (v := ?_) rfl (by kernel_rfl) (by kernel_rfl) (by kernel_rfl) (fun _ _ _ h => h) (Or.inl ⟨by rfl, ?_⟩) (by assumption) ?_
      rotate_left
      ·(intro w' hSw; (try dsimp only at hSw); go_simp <;> with_reducible rfl)
      simp only [List.getElem_toArray, List.getElem_cons_succ, List.getElem_cons_zero, Act.put, List.setIfInBounds_toArray, List.set_cons_zero, List.set_cons_succ]
      refine wpAnyH_done (by kernel_rfl) ?_ _
      have hBW := hHeld.1
      clear hHeld
      go_wp2_with fail
      go_meet
      exact ⟨rfl, Lib.hid hBW⟩
     ·have f2 : (F != 0) = true := by simpa using hf
      have f3 : (F == 0) = false := by simpa using hf
      have HSAME : Hid (o' = 0 ∧ V' = 0 ∧ gs' = []) := Lib.hid (by
       rcases HTAB.out with ⟨h, _⟩ | ⟨_, h⟩
       ·exact absurd h hf
       ·exact h)
      have BB := Lib.hid (Below.refl w9.heap.size w9)
      have GZ := Lib.hid (grams_nil w9)
      clear hf
      have HSET : Hid (∀ w', Below w9.heap.size w9 w' → Below w9.heap.size w9 w' ∧ (w'.cell? ⟨w5.heap.size, 0, none⟩ = some (.int .i64 o') ∧ w'.cell? ⟨w5.heap.size, 1, none⟩ = some (.int .i64 V') ∧ w'.cell? ⟨w5.heap.size, 2, none⟩ = some (.slice A' n' c')) ∧ (w'.cell? ⟨w.heap.size, 0, none⟩ = some (.int .i64 o) ∧ w'.cell? ⟨w.heap.size, 1, none⟩ = some (.int .i64 V) ∧ w'.cell? ⟨w.heap.size, 2, none⟩ = some (.slice A L c)) ∧ (w'.cell? ⟨w.heap.size + 1, 0, none⟩ = some (.int .i64 p) ∧ w'.cell? ⟨w.heap.size + 1, 1, none⟩ = some (.int .i64 U) ∧ w'.cell? ⟨w.heap.size + 1, 2, none⟩ = some (.slice B M d))) := Lib.hid (fun w' hb => ⟨hb, ⟨(N0.out.below' hb).three.1, (N0.out.below' hb).three.2.1, (N0.out.below' hb).three.2.2.1⟩, ⟨(X0.out.below' hb).three.1, (X0.out.below' hb).three.2.1, (X0.out.below' hb).three.2.2.1⟩, ⟨(X1.out.below' hb).three.1, (X1.out.below' hb).three.2.1, (X1.out.below' hb).three.2.2.1⟩⟩)
      clear n0 n1 n2 p0 p1 p2 q0 q1 q2
      refine wp_region_held_drew (S := fun w' => Below w9.heap.size w9 w' ∧ (w'.cell? ⟨w5.heap.size, 0, none⟩ = some (.int .i64 o') ∧ w'.cell? ⟨w5.heap.size, 1, none⟩ = some (.int .i64 V') ∧ w'.cell? ⟨w5.heap.size, 2, none⟩ = some (.slice A' n' c')) ∧ (w'.cell? ⟨w.heap.size, 0, none⟩ = some (.int .i64 o) ∧ w'.cell? ⟨w.heap.size, 1, none⟩ = some (.int .i64 V) ∧ w'.cell? ⟨w.heap.size, 2, none⟩ = some (.slice A L c)) ∧ (w'.cell? ⟨w.heap.size + 1, 0, none⟩ = some (.int .i64 p) ∧ w'.cell? ⟨w.heap.size + 1, 1, none⟩ = some (.int .i64 U) ∧ w'.cell? ⟨w.heap.size + 1, 2, none⟩ = some (.slice B M d))) (by kernel_rfl) (HSET.out _ (below_drew_self w9)) (fun hHeld => ?_)
      refine wpAnyH_take (i := 0) (v := ?_) rfl (by kernel_rfl) (by kernel_rfl) (by kernel_rfl) (fun _ _ _ h => h) (Or.inl ⟨by rfl, ?_⟩) (by assumption) ?_
      rotate_left
      ·(intro w' hSw; (try dsimp only at hSw); go_simp <;> with_reducible rfl)
      simp only [List.getElem_toArray, List.getElem_cons_succ, List.getElem_cons_zero, Act.put, List.setIfInBounds_toArray, List.set_cons_zero, List.set_cons_succ]
      refine wpAnyH_take (i := 1) (v := ?_) rfl (by kernel_rfl) (by kernel_rfl) (by kernel_rfl) (fun _ _ _ h => h) (Or.inl ⟨by rfl, ?_⟩) (by assumption) ?_
      rotate_left
      ·(intro w' hSw; (try dsimp only at hSw); go_simp <;> with_reducible rfl)
      simp only [List.getElem_toArray, List.getElem_cons_succ, List.getElem_cons_zero, Act.put, List.setIfInBounds_toArray, List.set_cons_zero, List.set_cons_succ]
      refine wpAnyH_take (i := 2) (v := ?_) rfl (by kernel_rfl) (by kernel_rfl) (by kernel_rfl) (fun _ _ _ h => h) (Or.inl ⟨by rfl, ?_⟩) (by assumption) ?_
      rotate_left
      ·(intro w' hSw; (try dsimp only at hSw); go_simp <;> with_reducible rfl)
      simp only [List.getElem_toArray, List.getElem_cons_succ, List.getElem_cons_zero, Act.put, List.setIfInBounds_toArray, List.set_cons_zero, List.set_cons_succ]
      refine wpAnyH_take (i := 3) (v := ?_) rfl (by kernel_rfl) (by kernel_rfl) (by kernel_rfl) (fun _ _ _ h => h) (Or.inl ⟨by rfl, ?_⟩) (by assumption) ?_
      rotate_left
      ·(intro w' hSw; (try dsimp only at hSw); go_simp <;> with_reducible rfl)
      simp only [List.getElem_toArray, List.getElem_cons_succ, List.getElem_cons_zero, Act.put, List.setIfInBounds_toArray, List.set_cons_zero, List.set_cons_succ]
      refine wpAnyH_take (i := 4) (v := ?_) rfl (by kernel_rfl) (by kernel_rfl) (by kernel_rfl) (fun _ _ _ h => h) (Or.inl ⟨by rfl, ?_⟩) (by assumption) ?_
      rotate_left
      ·(intro w' hSw; (try dsimp only at hSw); go_simp <;> with_reducible rfl)
      simp only [List.getElem_toArray, List.getElem_cons_succ, List.getElem_cons_zero, Act.put, List.setIfInBounds_toArray, List.set_cons_zero, List.set_cons_succ]
      refine wpAnyH_take (i := 5) (v := ?_) rfl (by kernel_rfl) (by kernel_rfl) (by kernel_rfl) (fun _ _ _ h => h) (Or.inl ⟨by rfl, ?_⟩) (by assumption) ?_
      rotate_left
      ·(intro w' hSw; (try dsimp only at hSw); go_simp <;> with_reducible rfl)
      simp only [List.getElem_toArray, List.getElem_cons_succ, List.getElem_cons_zero, Act.put, List.setIfInBounds_toArray, List.set_cons_zero, List.set_cons_succ]
      refine wpAnyH_take (i := 6) (v := ?_) rfl (by kernel_rfl) (by kernel_rfl) (by kernel_rfl) (fun _ _ _ h => h) (Or.inl ⟨by rfl, ?_⟩) (by assumption) ?_
      rotate_left
      ·(intro w' hSw; (try dsimp only at hSw); go_simp <;> with_reducible rfl)
      simp only [List.getElem_toArray, List.getElem_cons_succ, List.getElem_cons_zero, Act.put, List.setIfInBounds_toArray, List.set_cons_zero, List.set_cons_succ]
      refine wpAnyH_take (i := 7) (v := ?_) rfl (by kernel_rfl) (by kernel_rfl) (by kernel_rfl) (fun _ _ _ h => h) (Or.inl ⟨by rfl, ?_⟩) (by assumption) ?_
      rotate_left
      ·(intro w' hSw; (try dsimp only at hSw); go_simp <;> with_reducible rfl)
      simp only [List.getElem_toArray, List.getElem_cons_succ, List.getElem_cons_zero, Act.put, List.setIfInBounds_toArray, List.set_cons_zero, List.set_cons_succ]
      refine wpAnyH_take (i := 8) (v := ?_) rfl (by kernel_rfl) (by kernel_rfl) (by kernel_rfl) (fun _ _ _ h => h) (Or.inl ⟨by rfl, ?_⟩) (by assumption) ?_
      rotate_left
      ·(intro w' hSw; (try dsimp only at hSw); go_simp <;> with_reducible rfl)
      simp only [List.getElem_toArray, List.getElem_cons_succ, List.getElem_cons_zero, Act.put, List.setIfInBounds_toArray, List.set_cons_zero, List.set_cons_succ]
      refine wpAnyH_ready (rs := [9]) (by kernel_rfl) (by simp) ?_
      refine AllReadyH.cons rfl (fun K hK => ?_) AllReadyH.nil
      go_simp
      refine (sameTableG _ o' V' 0 0 _ _ gs' [] (GM.out.below hHeld.1) (grams_nil _)).mono ?_
      rintro e wl ⟨rfl, hb⟩
      rw [show decide (o' = 0 ∧ V' = 0 ∧ gs' = []) = true from decide_eq_true HSAME.out]
      have hS := HSET.out wl (hHeld.1.trans (hb.mono hHeld.1.size))
      clear hb hHeld
      try go_simp
      refine hK.out _ _ hS (fun hHeld => ?_)
      clear hK K hS
      try simp only [List.getElem_toArray, List.getElem_cons_succ, List.getElem_cons_zero, Act.put, List.setIfInBounds_toArray, List.set_cons_zero, List.set_cons_succ]
      refine wpAnyH_take (i := 10) (v := ?_) rfl (by kernel_rfl) (by kernel_rfl) (by kernel_rfl) (fun _ _ _ h => h) (Or.inl ⟨by rfl, ?_⟩) (by assumption) ?_
      rotate_left
      ·(intro w' hSw; (try dsimp only at hSw); go_simp <;> with_reducible rfl)
      simp only [List.getElem_toArray, List.getElem_cons_succ, List.getElem_cons_zero, Act.put, List.setIfInBounds_toArray, List.set_cons_zero, List.set_cons_succ]
      refine wpAnyH_take (i := 11) (v := ?_) rfl (by kernel_rfl) (by kernel_rfl) (by kernel_rfl) (fun _ _ _ h => h) (Or.inl ⟨by rfl, ?_⟩) (by assumption) ?_
      rotate_left
      ·(intro w' hSw; (try dsimp only at hSw); go_simp <;> with_reducible rfl)
      simp only [List.getElem_toArray, List.getElem_cons_succ, List.getElem_cons_zero, Act.put, List.setIfInBounds_toArray, List.set_cons_zero, List.set_cons_succ]
      refine wpAnyH_take (i := 12) (v := ?_) rfl (by kernel_rfl) (by kernel_rfl) (by kernel_rfl) (fun _ _ _ h => h) (Or.inl ⟨by rfl, ?_⟩) (by assumption) ?_
      rotate_left
      ·(intro w' hSw; (try dsimp only at hSw); go_simp <;> with_reducible rfl)
      simp only [List.getElem_toArray, List.getElem_cons_succ, List.getElem_cons_zero, Act.put, List.setIfInBounds_toArray, List.set_cons_zero, List.set_cons_succ]
      refine wpAnyH_take (i := 13) (v := ?_) rfl (by kernel_rfl) (by kernel_rfl) (by kernel_rfl) (fun _ _ _ h => h) (Or.inl ⟨by rfl, ?_⟩) (by assumption) ?_
      rotate_left
      ·(intro w' hSw; (try dsimp only at hSw); go_simp <;> with_reducible rfl)
      simp only [List.getElem_toArray, List.getElem_cons_succ, List.getElem_cons_zero, Act.put, List.setIfInBounds_toArray, List.set_cons_zero, List.set_cons_succ]
      refine wpAnyH_take (i := 14) (v := ?_) rfl (by kernel_rfl) (by kernel_rfl) (by kernel_rfl) (fun _ _ _ h => h) (Or.inl ⟨by rfl, ?_⟩) (by assumption) ?_
      rotate_left
      ·(intro w' hSw; (try dsimp only at hSw); go_simp <;> with_reducible rfl)
      simp only [List.getElem_toArray, List.getElem_cons_succ, List.getElem_cons_zero, Act.put, List.setIfInBounds_toArray, List.set_cons_zero, List.set_cons_succ]
      refine wpAnyH_take (i := 15) (v := ?_) rfl (by kernel_rfl) (by kernel_rfl) (by kernel_rfl) (fun _ _ _ h => h) (Or.inl ⟨by rfl, ?_⟩) (by assumption) ?_
      rotate_left
      ·(intro w' hSw; (try dsimp only at hSw); go_simp <;> with_reducible rfl)
      simp only [List.getElem_toArray, List.getElem_cons_succ, List.getElem_cons_zero, Act.put, List.setIfInBounds_toArray, List.set_cons_zero, List.set_cons_succ]
      refine wpAnyH_take (i := 16) (v := ?_) rfl (by kernel_rfl) (by kernel_rfl) (by kernel_rfl) (fun _ _ _ h => h) (Or.inl ⟨by rfl, ?_⟩) (by assumption) ?_
      rotate_left
      ·(intro w' hSw; (try dsimp only at hSw); go_simp <;> with_reducible rfl)
      simp only [List.getElem_toArray, List.getElem_cons_succ, List.getElem_cons_zero, Act.put, List.setIfInBounds_toArray, List.set_cons_zero, List.set_cons_succ]
      refine wpAnyH_take (i := 17) (v := undef) rfl (by kernel_rfl) (by kernel_rfl) (by kernel_rfl) (fun _ _ _ h => h) (Or.inr ⟨by rfl, rfl⟩) (by assumption) ?_
      simp only [List.getElem_toArray, List.getElem_cons_succ, List.getElem_cons_zero, Act.put, List.setIfInBounds_toArray, List.set_cons_zero, List.set_cons_succ]
      refine wpAnyH_take (i := 18) (v := undef) rfl (by kernel_rfl) (by kernel_rfl) (by kernel_rfl) (fun _ _ _ h => h) (Or.inr ⟨by rfl, rfl⟩) (by assumption) ?_
      simp only [List.getElem_toArray, List.getElem_cons_succ, List.getElem_cons_zero, Act.put, List.setIfInBounds_toArray, List.set_cons_zero, List.set_cons_succ]
      refine wpAnyH_take (i := 19) (v := undef) rfl (by kernel_rfl) (by kernel_rfl) (by kernel_rfl) (fun _ _ _ h => h) (Or.inr ⟨by rfl, rfl⟩) (by assumption) ?_
      simp only [List.getElem_toArray, List.getElem_cons_succ, List.getElem_cons_zero, Act.put, List.setIfInBounds_toArray, List.set_cons_zero, List.set_cons_succ]
      refine wpAnyH_ready (rs := [20]) (by kernel_rfl) (by simp) ?_
      refine AllReadyH.cons rfl (fun K hK => ?_) AllReadyH.nil
      go_simp
      refine hK.out _ _ hHeld (fun hHeld => ?_)
      clear hK K
      try simp only [List.getElem_toArray, List.getElem_cons_succ, List.getElem_cons_zero, Act.put, List.setIfInBounds_toArray, List.set_cons_zero, List.set_cons_succ]
      refine wpAnyH_ready (rs := [21]) (by kernel_rfl) (by simp) ?_
      refine AllReadyH.cons rfl (fun K hK => ?_) AllReadyH.nil
      go_simp
      refine hK.out _ _ hHeld (fun hHeld => ?_)
      clear hK K
      try simp only [List.getElem_toArray, List.getElem_cons_succ, List.getElem_cons_zero, Act.put, List.setIfInBounds_toArray, List.set_cons_zero, List.set_cons_succ]
      refine wpAnyH_take (i := 22) (v := undef) rfl (by kernel_rfl) (by kernel_rfl) (by kernel_rfl) (fun _ _ _ h => h) (Or.inr ⟨by rfl, rfl⟩) (by assumption) ?_
      simp only [List.getElem_toArray, List.getElem_cons_succ, List.getElem_cons_zero, Act.put, List.setIfInBounds_toArray, List.set_cons_zero, List.set_cons_succ]
      refine wpAnyH_take (i := 23) (v := ?_) rfl (by kernel_rfl) (by kernel_rfl) (by kernel_rfl) (fun _ _ _ h => h) (Or.inl ⟨by rfl, ?_⟩) (by assumption) ?_
      rotate_left
      ·(intro w' hSw; (try dsimp only at hSw); go_simp <;> with_reducible rfl)
      simp only [List.getElem_toArray, List.getElem_cons_succ, List.getElem_cons_zero, Act.put, List.setIfInBounds_toArray, List.set_cons_zero, List.set_cons_succ]
      refine wpAnyH_take (i := 24) (v := ?_) rfl (by kernel_rfl) (by kernel_rfl) (by kernel_rfl) (fun _ _ _ h => h) (Or.inl ⟨by rfl, ?_⟩) (by assumption) ?_
      rotate_left
      ·(intro w' hSw; (try dsimp only at hSw); go_simp <;> with_reducible rfl)
      simp only [List.getElem_toArray, List.getElem_cons_succ, List.getElem_cons_zero, Act.put, List.setIfInBounds_toArray, List.set_cons_zero, List.set_cons_succ]
      refine wpAnyH_done (by kernel_rfl) ?_ _
      have hBW := hHeld.1
      clear hHeld
      go_wp2_with fail
      go_meet
      exact ⟨rfl, Lib.hid hBW⟩
    case rest =>
     obtain ⟨rfl, BD⟩ := hcut
     replace BC := Lib.hid (BC.out.trans (BD.out.mono BC.out.size))
     replace X0 := Lib.hid (X0.out.below' BD.out)
     obtain ⟨wA, hwA⟩ : ∃ wA, wA = wc := ⟨_, rfl⟩
     rw [← hwA] at BC X0 ⊢
     clear hwA BD N0 GM X1 HMU HTAB HTB HF2 HW1 HFE HEB hz0 hz5 hw6 hw8
     obtain ⟨p0, p1, p2, _, _, _⟩ := X0.out.three
     go_wp2_with fail
     refine (HLW.out wA (HT.out.below BC.out)).mono ?_
     rintro e wB ⟨o2, V2, A2, c2, n2, g2, rfl, hg, htab, hb⟩
     have GL := Lib.hid hg
     have HTL := Lib.hid htab
     replace BC := Lib.hid (BC.out.trans (hb.mono BC.out.size))
     replace X0 := Lib.hid (X0.out.below' hb)
     clear hb hg htab p0 p1 p2 HLW
     obtain ⟨p0, p1, p2, _, _, _⟩ := X0.out.three
     have y0 : w.heap.size < wB.heap.size := X0.out.lt
     go_wp2_with fail
     clear p0 p1 p2
     obtain ⟨WB, hWB, Y0, YB, Yhs⟩ := box1 wB 27 [.int .i64 o2, .int .i64 V2, .slice A2 n2 c2]
     rw [← hWB]
     clear hWB
     replace BC := Lib.hid (BC.out.trans (YB.out.mono BC.out.size))
     replace X0 := Lib.hid (X0.out.below' YB.out)
     replace GL := Lib.hid (GL.out.below YB.out)
     clear YB
     refine (HDR.out WB (HT.out.below BC.out)).mono ?_
     rintro e wC ⟨o3, V3, A3, c3, n3, g3, rfl, hg, htab, hb⟩
     have GD := Lib.hid hg
     have HTD := Lib.hid htab
     replace BC := Lib.hid (BC.out.trans (hb.mono BC.out.size))
     replace X0 := Lib.hid (X0.out.below' hb)
     replace Y0 := Lib.hid (Y0.out.below' hb)
     replace GL := Lib.hid (GL.out.below hb)
     have y1 : w.heap.size < wC.heap.size := X0.out.lt
     have y2 : wB.heap.size < wC.heap.size := Y0.out.lt
     clear hb hg htab HDR
     go_upto_region 16 with fail
     obtain ⟨WC, hWC, Z0, ZB, Zhs⟩ := box1 wC 27 [.int .i64 o3, .int .i64 V3, .slice A3 n3 c3]
     rw [← hWC]
     clear hWC
     replace BC := Lib.hid (BC.out.trans (ZB.out.mono BC.out.size))
     replace X0 := Lib.hid (X0.out.below' ZB.out)
     replace Y0 := Lib.hid (Y0.out.below' ZB.out)
     replace GL := Lib.hid (GL.out.below ZB.out)
     replace GD := Lib.hid (GD.out.below ZB.out)
     clear ZB
     by_cases he : ea = 0
     ·have d1 : (ea != 0) = false := by simpa using he
      have HE0 : Hid (tableE o V gs = 0) := Lib.hid (HEA.out.trans he)
      have HSD : Hid (o3 = o ∧ V3 = V ∧ g3 = putK [] (dropL least gs)) := Lib.hid (by
       rcases HTD.out with ⟨_, h⟩ | ⟨h, _⟩
       ·exact h
       ·exact absurd he h)
      have ta := table_all HE0.out
      obtain ⟨nn, hnn⟩ : ∃ nn : Nat, o = (nn : Int) := ⟨o.toNat, by omega⟩
      have HGP : Hid (∀ g ∈ gs, g.1.length = nn ∧ 0 ≤ g.2 ∧ g.2 ≤ 1073741824) := Lib.hid (fun g hg => by have := ta.2.2.2.2.2.1 g hg; exact ⟨by omega, by omega, this.2.2.2⟩)
      have ho4 : 1 ≤ o ∧ o ≤ 4 := ⟨ta.2.1, ta.2.2.1⟩
      have hL60 : L ≤ 60 := by have := HLL.out.1; rw [HL.out] at this; exact this
      have HDRR := Lib.hid (fun (W : World) (h : GramsAt W (.slice A L c) gs) => dropR W o V least A c L nn gs h HL.out HGP.out (by omega) (by omega))
      have HT1 := Lib.hid (HT.out.below BC.out)
      have HNN := Lib.hid hnn
      have HEZ := Lib.hid he
      clear ta hnn he
      go_upto_region 18 with fail
      go_cut [132] (fun tv wd => tv = .bool false ∧ Hid (Below WC.heap.size WC wd))
      case first =>
       have BB := Lib.hid (Below.refl WC.heap.size WC)
       obtain ⟨p0, p1, p2, _, _, _⟩ := X0.out.three
       obtain ⟨l0, l1, l2, _, _, _⟩ := Z0.out.three
       have hS := And.intro (And.intro l0 (And.intro l1 l2)) (And.intro p0 (And.intro p1 p2))
       go_region_held3 (fun w' => (w'.cell? ⟨wC.heap.size, 0, none⟩ = some (.int .i64 o3) ∧ w'.cell? ⟨wC.heap.size, 1, none⟩ = some (.int .i64 V3) ∧ w'.cell? ⟨wC.heap.size, 2, none⟩ = some (.slice A3 n3 c3)) ∧ (w'.cell? ⟨w.heap.size, 0, none⟩ = some (.int .i64 o) ∧ w'.cell? ⟨w.heap.size, 1, none⟩ = some (.int .i64 V) ∧ w'.cell? ⟨w.heap.size, 2, none⟩ = some (.slice A L c))) (first | assumption | go_keep)
        (first
         | (go_at_call 72; refine (HDRR.out _ ?_).mono ?_; (first | exact HT1.out | exact HT1.out.below (below_drew_self _) | exact HT1.out.below (below_alloc_self _ _) | exact HT1.out.below (below_alloc_drew _ _)); rintro e wl ⟨lv, rfl, hg, hb⟩; obtain ⟨Ar, cr, rfl, _⟩ := hg.open_; (first | replace hb := below_new_drew hb | replace hb := below_new hb | replace hb := below_of_drew hb | skip); replace BB := Lib.hid (BB.out.trans (hb.mono BB.out.size)); have GR := Lib.hid hg; have GD1 := Lib.hid (GD.out.below BB.out); have hS := And.intro (And.intro (Z0.out.below' BB.out).three.1 (And.intro (Z0.out.below' BB.out).three.2.1 (Z0.out.below' BB.out).three.2.2.1)) (And.intro (X0.out.below' BB.out).three.1 (And.intro (X0.out.below' BB.out).three.2.1 (X0.out.below' BB.out).three.2.2.1)); clear hg hb)
         | (go_at_call 22; refine (sameTableG _ o3 V3 o V _ _ g3 (putK [] (dropL least gs)) ?_ ?_).mono ?_; (first | exact GD1.out | exact GD1.out.below (below_drew_self _) | exact GD1.out.below (below_alloc_self _ _) | exact GD1.out.below (below_alloc_drew _ _)); (first | exact GR.out | exact GR.out.below (below_drew_self _) | exact GR.out.below (below_alloc_self _ _) | exact GR.out.below (below_alloc_drew _ _)); rintro e wl ⟨rfl, hb⟩; (first | replace hb := below_new_drew hb | replace hb := below_new hb | replace hb := below_of_drew hb | skip); rw [show decide (o3 = o ∧ V3 = V ∧ g3 = putK [] (dropL least gs)) = true from decide_eq_true HSD.out]; replace BB := Lib.hid (BB.out.trans (hb.mono BB.out.size)); have hS := And.intro (And.intro (Z0.out.below' BB.out).three.1 (And.intro (Z0.out.below' BB.out).three.2.1 (Z0.out.below' BB.out).three.2.2.1)) (And.intro (X0.out.below' BB.out).three.1 (And.intro (X0.out.below' BB.out).three.2.1 (X0.out.below' BB.out).three.2.2.1)); clear hb))
       all_goals
        go_wp2_with fail
        go_meet
        exact ⟨rfl, BB⟩
      case rest =>
       obtain ⟨rfl, BD⟩ := hcut
       replace BC := Lib.hid (BC.out.trans (BD.out.mono BC.out.size))
       replace X0 := Lib.hid (X0.out.below' BD.out)
       replace Y0 := Lib.hid (Y0.out.below' BD.out)
       replace GL := Lib.hid (GL.out.below BD.out)
       obtain ⟨wD, hwD⟩ : ∃ wD, wD = wc := ⟨_, rfl⟩
       rw [← hwD] at BC X0 Y0 GL ⊢
       clear hwD BD Z0 GD HSD HTD HDRR HT1
       obtain ⟨p0, p1, p2, _, _, _⟩ := X0.out.three
       by_cases ho : o = 1
       ·have d4 : (o == 1) = true := by simpa using ho
        have HFE2 : Hid (FL = 2) := Lib.hid (by
         rw [← HFL.out]
         unfold lowE
         simp only [HE0.out]
         rw [if_neg (fun hn => hn rfl)]
         exact if_pos (.inl ho))
        have HZL : Hid (o2 = 0 ∧ V2 = 0 ∧ g2 = []) := Lib.hid (by
         rcases HTL.out with ⟨h, _⟩ | ⟨_, h⟩
         ·exact absurd (HFE2.out.symm.trans h) (by decide)
         ·exact h)
        have d2 : (FL == 2) = true := by rw [HFE2.out]; rfl
        clear ho
        obtain ⟨l0, l1, l2, _, _, _⟩ := Y0.out.three
        go_wp2_with fail
        refine (sameTableG _ o2 V2 0 0 _ _ g2 [] GL.out (grams_nil _)).mono ?_
        rintro e wF ⟨rfl, hb⟩
        rw [show decide (o2 = 0 ∧ V2 = 0 ∧ g2 = []) = true from decide_eq_true HZL.out]
        replace BC := Lib.hid (BC.out.trans (hb.mono BC.out.size))
        clear hb l0 l1 l2
        go_wp2_with fail
        refine (HK.out _).mono ?_
        rintro e wK ⟨rfl, hbK⟩
        have BK := Lib.hid (BC.out.trans (hbK.mono BC.out.size))
        clear hbK
        go_wp2_with fail
        go_ret
        exact ⟨rfl, BK.out⟩
       ·have d4 : (o == 1) = false := by simpa using ho
        obtain ⟨mx, hmx⟩ : ∃ mx, mostL (putK [] (lowL gs)) = mx := ⟨_, rfl⟩
        have HMX := Lib.hid hmx
        have hnn := HNN.out
        obtain ⟨mm, hmm⟩ : ∃ mm : Nat, nn = mm + 1 := ⟨nn - 1, by omega⟩
        have HLR := Lib.hid (fun (W : World) (h : GramsAt W (.slice A L c) gs) => lowR6 W o V A c L mm gs h HL.out (fun g hg => by have := HGP.out g hg; exact ⟨by omega, this.2⟩) (by omega) (by omega) (by omega))
        by_cases hbig : 1073741824 < mx
        ·have d5 : decide (1073741824 < mx) = true := decide_eq_true hbig
         have HFE2 : Hid (FL = 2) := Lib.hid (by
          rw [← HFL.out]
          unfold lowE
          simp only [HE0.out]
          rw [if_neg (fun hn => hn rfl)]
          exact if_pos (.inr (by rw [hmx]; exact hbig)))
         have HZL : Hid (o2 = 0 ∧ V2 = 0 ∧ g2 = []) := Lib.hid (by
          rcases HTL.out with ⟨h, _⟩ | ⟨_, h⟩
          ·exact absurd (HFE2.out.symm.trans h) (by decide)
          ·exact h)
         have d2 : (FL == 2) = true := by rw [HFE2.out]; rfl
         have HT2 := Lib.hid (HT.out.below BC.out)
         clear ho hbig hmx hnn hmm
         go_wp2_with fail
         refine (HLR.out wD HT2.out).mono ?_
         rintro e wE ⟨lv, rfl, hg, _, hb⟩
         obtain ⟨Ar, cr, rfl, _⟩ := hg.open_
         have GR := Lib.hid hg
         obtain ⟨Lr, hLr⟩ : ∃ Lr, (putK [] (lowL gs)).length = Lr := ⟨_, rfl⟩
         have HLRR := Lib.hid hLr
         rw [hLr] at GR ⊢
         replace BC := Lib.hid (BC.out.trans (hb.mono BC.out.size))
         replace Y0 := Lib.hid (Y0.out.below' hb)
         replace GL := Lib.hid (GL.out.below hb)
         clear hg hb hLr X0 p0 p1 p2
         go_wp2_with fail
         refine (greatestR wE (o - 1) V Ar cr Lr _ GR.out HLRR.out).mono ?_
         rintro e wE2 ⟨rfl, hb⟩
         rw [HMX.out]
         replace BC := Lib.hid (BC.out.trans (hb.mono BC.out.size))
         replace Y0 := Lib.hid (Y0.out.below' hb)
         replace GL := Lib.hid (GL.out.below hb)
         clear hb GR
         obtain ⟨l0, l1, l2, _, _, _⟩ := Y0.out.three
         go_wp2_with fail
         refine (sameTableG _ o2 V2 0 0 _ _ g2 [] GL.out (grams_nil _)).mono ?_
         rintro e wF ⟨rfl, hb⟩
         rw [show decide (o2 = 0 ∧ V2 = 0 ∧ g2 = []) = true from decide_eq_true HZL.out]
         replace BC := Lib.hid (BC.out.trans (hb.mono BC.out.size))
         clear hb l0 l1 l2
         go_wp2_with fail
         refine (HK.out _).mono ?_
         rintro e wK ⟨rfl, hbK⟩
         have BK := Lib.hid (BC.out.trans (hbK.mono BC.out.size))
         clear hbK
         go_wp2_with fail
         go_ret
         exact ⟨rfl, BK.out⟩
        ·have d5 : decide (1073741824 < mx) = false := decide_eq_false hbig
         have HFE2 : Hid (FL = 0) := Lib.hid (by
          rw [← HFL.out]
          unfold lowE
          simp only [HE0.out]
          rw [if_neg (fun hn => hn rfl)]
          exact if_neg (fun h => h.elim ho (fun h => hbig (by rw [← hmx]; exact h))))
         have HSL : Hid (o2 = o - 1 ∧ V2 = V ∧ g2 = putK [] (lowL gs)) := Lib.hid (by
          rcases HTL.out with ⟨_, h⟩ | ⟨h, _⟩
          ·exact h
          ·exact absurd HFE2.out h)
         have d2 : (FL == 0) = true := by rw [HFE2.out]; rfl
         have HT2 := Lib.hid (HT.out.below BC.out)
         clear ho hbig hmx hnn hmm
         go_wp2_with fail
         refine (HLR.out wD HT2.out).mono ?_
         rintro e wE ⟨lv, rfl, hg, _, hb⟩
         obtain ⟨Ar, cr, rfl, _⟩ := hg.open_
         have GR := Lib.hid hg
         obtain ⟨Lr, hLr⟩ : ∃ Lr, (putK [] (lowL gs)).length = Lr := ⟨_, rfl⟩
         have HLRR := Lib.hid hLr
         rw [hLr] at GR ⊢
         replace BC := Lib.hid (BC.out.trans (hb.mono BC.out.size))
         replace X0 := Lib.hid (X0.out.below' hb)
         replace Y0 := Lib.hid (Y0.out.below' hb)
         replace GL := Lib.hid (GL.out.below hb)
         clear hg hb hLr p0 p1 p2
         go_wp2_with fail
         refine (greatestR wE (o - 1) V Ar cr Lr _ GR.out HLRR.out).mono ?_
         rintro e wE2 ⟨rfl, hb⟩
         rw [HMX.out]
         replace BC := Lib.hid (BC.out.trans (hb.mono BC.out.size))
         replace X0 := Lib.hid (X0.out.below' hb)
         replace Y0 := Lib.hid (Y0.out.below' hb)
         replace GL := Lib.hid (GL.out.below hb)
         clear hb GR
         go_upto_region 22 with fail
         have HT3 := Lib.hid (HT.out.below BC.out)
         have BB := Lib.hid (Below.refl wE2.heap.size wE2)
         obtain ⟨p0, p1, p2, _, _, _⟩ := X0.out.three
         obtain ⟨l0, l1, l2, _, _, _⟩ := Y0.out.three
         have hS := And.intro (And.intro l0 (And.intro l1 l2)) (And.intro p0 (And.intro p1 p2))
         go_region_held3 (fun w' => (w'.cell? ⟨wB.heap.size, 0, none⟩ = some (.int .i64 o2) ∧ w'.cell? ⟨wB.heap.size, 1, none⟩ = some (.int .i64 V2) ∧ w'.cell? ⟨wB.heap.size, 2, none⟩ = some (.slice A2 n2 c2)) ∧ (w'.cell? ⟨w.heap.size, 0, none⟩ = some (.int .i64 o) ∧ w'.cell? ⟨w.heap.size, 1, none⟩ = some (.int .i64 V) ∧ w'.cell? ⟨w.heap.size, 2, none⟩ = some (.slice A L c))) (first | assumption | go_keep)
          (first
           | (go_at_call 73; refine (HLR.out _ ?_).mono ?_; (first | exact HT3.out | exact HT3.out.below (below_drew_self _) | exact HT3.out.below (below_alloc_self _ _) | exact HT3.out.below (below_alloc_drew _ _)); rintro e wl ⟨lv, rfl, hg, _, hb⟩; obtain ⟨Ar, cr, rfl, _⟩ := hg.open_; (first | replace hb := below_new_drew hb | replace hb := below_new hb | replace hb := below_of_drew hb | skip); replace BB := Lib.hid (BB.out.trans (hb.mono BB.out.size)); have GR := Lib.hid hg; have GL1 := Lib.hid (GL.out.below BB.out); have hS := And.intro (And.intro (Y0.out.below' BB.out).three.1 (And.intro (Y0.out.below' BB.out).three.2.1 (Y0.out.below' BB.out).three.2.2.1)) (And.intro (X0.out.below' BB.out).three.1 (And.intro (X0.out.below' BB.out).three.2.1 (X0.out.below' BB.out).three.2.2.1)); clear hg hb)
           | (go_at_call 22; refine (sameTableG _ o2 V2 (o - 1) V _ _ g2 (putK [] (lowL gs)) ?_ ?_).mono ?_; (first | exact GL1.out | exact GL1.out.below (below_drew_self _) | exact GL1.out.below (below_alloc_self _ _) | exact GL1.out.below (below_alloc_drew _ _)); (first | exact GR.out | exact GR.out.below (below_drew_self _) | exact GR.out.below (below_alloc_self _ _) | exact GR.out.below (below_alloc_drew _ _)); rintro e wl ⟨rfl, hb⟩; (first | replace hb := below_new_drew hb | replace hb := below_new hb | replace hb := below_of_drew hb | skip); rw [show decide (o2 = o - 1 ∧ V2 = V ∧ g2 = putK [] (lowL gs)) = true from decide_eq_true HSL.out]; replace BB := Lib.hid (BB.out.trans (hb.mono BB.out.size)); have hS := And.intro (And.intro (Y0.out.below' BB.out).three.1 (And.intro (Y0.out.below' BB.out).three.2.1 (Y0.out.below' BB.out).three.2.2.1)) (And.intro (X0.out.below' BB.out).three.1 (And.intro (X0.out.below' BB.out).three.2.1 (X0.out.below' BB.out).three.2.2.1)); clear hb)
           | (go_at_call 18; refine (HK.out _).mono ?_; rintro e wl ⟨rfl, hb⟩; (first | replace hb := below_new_drew hb | replace hb := below_new hb | replace hb := below_of_drew hb | skip); replace BB := Lib.hid (BB.out.trans (hb.mono BB.out.size)); have hS := And.intro (And.intro (Y0.out.below' BB.out).three.1 (And.intro (Y0.out.below' BB.out).three.2.1 (Y0.out.below' BB.out).three.2.2.1)) (And.intro (X0.out.below' BB.out).three.1 (And.intro (X0.out.below' BB.out).three.2.1 (X0.out.below' BB.out).three.2.2.1)); clear hb))
         all_goals
          go_wp2_with fail
          go_ret
          exact ⟨rfl, BC.out.trans (BB.out.mono BC.out.size)⟩
     ·have d1 : (ea != 0) = true := by simpa using he
      have HFE2 : Hid (FL = ea) := Lib.hid (by rw [← HFL.out]; unfold lowE; simp only [HEA.out]; exact if_pos he)
      have HZL : Hid (o2 = 0 ∧ V2 = 0 ∧ g2 = []) := Lib.hid (by
       rcases HTL.out with ⟨h, _⟩ | ⟨_, h⟩
       ·exact absurd (HFE2.out.symm.trans h) he
       ·exact h)
      have HZD : Hid (o3 = 0 ∧ V3 = 0 ∧ g3 = []) := Lib.hid (by
       rcases HTD.out with ⟨h, _⟩ | ⟨_, h⟩
       ·exact absurd h he
       ·exact h)
      have d2 : (FL == ea) = true := by rw [HFE2.out]; simp
      have d3 : (ea == ea) = true := by simp
      clear he
      obtain ⟨l0, l1, l2, _, _, _⟩ := Y0.out.three
      go_wp2_with fail
      refine (sameTableG WC o2 V2 0 0 _ _ g2 [] GL.out (grams_nil _)).mono ?_
      rintro e wD ⟨rfl, hb⟩
      rw [show decide (o2 = 0 ∧ V2 = 0 ∧ g2 = []) = true from decide_eq_true HZL.out]
      replace BC := Lib.hid (BC.out.trans (hb.mono BC.out.size))
      replace Z0 := Lib.hid (Z0.out.below' hb)
      replace GD := Lib.hid (GD.out.below hb)
      clear hb l0 l1 l2
      obtain ⟨l0, l1, l2, _, _, _⟩ := Z0.out.three
      go_wp2_with fail
      refine (sameTableG wD o3 V3 0 0 _ _ g3 [] GD.out (grams_nil _)).mono ?_
      rintro e wE ⟨rfl, hb⟩
      rw [show decide (o3 = 0 ∧ V3 = 0 ∧ g3 = []) = true from decide_eq_true HZD.out]
      replace BC := Lib.hid (BC.out.trans (hb.mono BC.out.size))
      clear hb l0 l1 l2
      go_wp2_with fail
      refine (HK.out _).mono ?_
      rintro e wK ⟨rfl, hbK⟩
      have BK := Lib.hid (BC.out.trans (hbK.mono BC.out.size))
      clear hbK
      go_wp2_with fail
      go_ret
      exact ⟨rfl, BK.out⟩
end Go.Proofs.YtjebfdfkjlkifaaGreat
