/- Lemmas. -/
import Derived.Test.YtjebfdfkjlkifaaGreatK51
set_option linter.all false
set_option maxRecDepth 1000000
set_option maxHeartbeats 32000000
namespace Go.Proofs.YtjebfdfkjlkifaaGreat
open Go.RowKit
theorem sY {O V : Int} {gs : List Gr} {k : Int} {a : Rat} {mix : List Rat} {hl : List Int} {z : Int} (h : bM O V gs k a mix hl = z) (hz : z ≠ 0) :
  (aJ O V gs k a mix ≠ 0 -> z = aJ O V gs k a mix) /\ (aJ O V gs k a mix = 0 -> z = 2 /\ (((hl.length : Int) == O - 1) && inR 0 V hl) = false) := by
 unfold bM at h
 refine ⟨fun h1 => ?_, fun h1 => ?_⟩
 ·rw [if_pos h1] at h
  exact h.symm
 rw [if_neg (by rw [h1]; decide)] at h
 split at h
 ·omega
 next h2 =>
 refine ⟨h.symm, ?_⟩
 cases hb : (((hl.length : Int) == O - 1) && inR 0 V hl) with
 | false => rfl
 | true => exact absurd (by simpa using hb) h2
theorem qC {O V : Int} {gs : List Gr} {k : Int} {a : Rat} {mix : List Rat} {hl : List Int} (h : bM O V gs k a mix hl = 0) : aJ O V gs k a mix = 0 /\ (((hl.length : Int) == O - 1) && inR 0 V hl) = true := by
 unfold bM at h
 split at h
 ·next h1 => exact absurd h h1
 next h1 =>
 split at h
 ·next h2 => exact ⟨Decidable.not_not.1 h1, by simpa using h2⟩
 omega

theorem qF (hsort : ma) (w : World) (O V : Int) (Al : Option Addr) (nl cl : Nat) (gs : List Gr) (k : Int) (s : Bool) (A A' : Option Addr) (m c m' c' : Nat) (mv : Value) (am : Raw) (rs : List Raw) (hv : Value) (hl : List Int) (x : Int) (hg : GramsAt w (.slice Al nl cl) gs) (ha : RawAt w (.agg #[.bool s, .slice A m c, .slice A' m' c']) am) (hm : RawsAt w mv rs) (hh : IntsAt w hv hl) (hO : -9223372036854775808 <= O /\ O <= 9223372036854775807) :
  Calls Tryz.prog 7 #[aG O V (.slice Al nl cl) k s A A' m c m' c' mv, hv, .int .i64 x] w fun e w' => e = .returned (.bool true) /\ Below w.heap.size w w' := by
 obtain ⟨Am, cm, rfl, hmc, hcm, _⟩ := hm.open_
 obtain ⟨Ah, ch, rfl, hlc, hcm', _⟩ := hh.open_
 have HK := aH (vQ hsort)
 obtain ⟨ml, hml⟩ : ∃ n, rs.length = n := ⟨_, rfl⟩
 obtain ⟨nh, hnh⟩ : ∃ n, hl.length = n := ⟨_, rfl⟩
 have HTN : Hd (∀ w', Below w.heap.size w w' -> Calls Tryz.prog 25 #[aG O V (.slice Al nl cl) k s A A' m c m' c' (.slice Am ml cm)] w' fun e w2 => e = .returned (.bool (da V gs am rs)) /\ Below w'.heap.size w' w2) := aH (fun w' hb => by
  rw [<- hml]
  exact wj w' O V (.slice Al nl cl) gs k s A A' m c m' c' _ am rs (hg.below hb) (ha.below hb) (hm.below hb))
 have HLA : Hd (da V gs am rs = true -> ∀ w', Below w.heap.size w w' -> LangAt w' (.slice Al nl cl) gs s A A' m c m' c' am.q (.slice Am ml cm) (rs.map Raw.q)) := aH (fun ht w' hb => by
  rw [<- hml]
  exact (LangAt.of hg ha hm ht).below hb)
 have HHA : Hd (∀ w', Below w.heap.size w w' -> IntsAt w' (.slice Ah nh ch) hl) := aH (fun w' hb => by rw [<- hnh]; exact hh.below hb)
 rw [hml] at hmc ⊢
 rw [hnh] at hlc ⊢
 have HNH := aH hnh
 obtain ⟨tb, htb⟩ : ∃ b, da V gs am rs = b := ⟨_, rfl⟩
 have HTB := aH htb
 clear hsort hg ha hm hh hml hnh htb
 unfold aG
 go_enter Tryz.func7, Tryz.ntmps7
 go_wp2_with fail
 obtain ⟨W, hW, P0, PB, Phs⟩ := aA w 43 [.int .i64 O, .int .i64 V, .slice Al nl cl, .int .i64 k, .bool s, .slice A m c, .slice A' m' c', .slice Am ml cm]
 rw [<- hW]
 clear hW
 obtain ⟨p0, p1, p2, p3, p4, p5, p6, p7⟩ := an P0.o
 go_wp2_with fail
 refine (HTN.o W PB.o).mono ?_
 rintro e w1 ⟨rfl, hb1⟩
 rw [HTB.o]
 have P1 := aH (P0.o.below' hb1)
 have B1 := aH (PB.o.trans (hb1.mono PB.o.size))
 clear p0 p1 p2 p3 p4 p5 p6 p7 hb1 P0 PB
 obtain ⟨p0, p1, p2, p3, p4, p5, p6, p7⟩ := an P1.o
 cases tb with
 | false =>
  go_wp2_with fail
  refine (HK.o _).mono ?_
  rintro e wK ⟨rfl, hbK⟩
  have BK := aH (B1.o.trans (hbK.mono B1.o.size))
  clear hbK
  go_wp2_with fail
  go_ret
  exact ⟨rfl, BK.o⟩
 | true =>
  rcases Nat.lt_or_ge 10 nh with h10 | h10
  ·have d1 : decide ((10 : Int) < (nh : Int)) = true := dT (by omega)
   have d2 : decide (10 < nh) = true := dT h10
   go_wp2_with fail
   refine (HK.o _).mono ?_
   rintro e wK ⟨rfl, hbK⟩
   have BK := aH (B1.o.trans (hbK.mono B1.o.size))
   clear hbK
   go_wp2_with fail
   go_ret
   exact ⟨rfl, BK.o⟩
  have d1 : decide ((10 : Int) < (nh : Int)) = false := dF (by omega)
  have d2 : decide (10 < nh) = false := dF (by omega)
  have LA := aH (HLA.o HTB.o)
  have SM := aH (rE (iZ HTB.o).1)
  obtain ⟨a, hqa⟩ : ∃ q, am.q = q := ⟨_, rfl⟩
  obtain ⟨mix, hmix⟩ : ∃ l, rs.map Raw.q = l := ⟨_, rfl⟩
  rw [hqa, hmix] at LA
  clear hqa hmix
  obtain ⟨ce, hce⟩ : ∃ z, aJ O V gs k a mix = z := ⟨_, rfl⟩
  have HCE := aH hce
  clear hce
  go_wp2_with fail
  refine (pV w1 O V (.slice Al nl cl) gs k s A A' m c m' c' (.slice Am ml cm) a mix (LA.o w1 B1.o)).mono ?_
  rw [HCE.o]
  rintro e w2 ⟨rfl, hb2⟩
  clear p0 p1 p2 p3 p4 p5 p6 p7
  have B2 := aH (B1.o.trans (hb2.mono B1.o.size))
  have P2 := aH (P1.o.below' hb2)
  clear B1 P1
  clear hb2
  obtain ⟨p0, p1, p2, p3, p4, p5, p6, p7⟩ := an P2.o
  have c1 : (ce != ce) = false := by simp
  go_wp2_with fail
  refine (lW w2 O V (.slice Al nl cl) gs k s A A' m c m' c' (.slice Am ml cm) a mix (LA.o w2 B2.o)).mono ?_
  rw [HCE.o]
  rintro e w3 ⟨rfl, hb3⟩
  clear p0 p1 p2 p3 p4 p5 p6 p7
  have B3 := aH (B2.o.trans (hb3.mono B2.o.size))
  have P3 := aH (P2.o.below' hb3)
  clear B2 P2
  clear hb3
  obtain ⟨p0, p1, p2, p3, p4, p5, p6, p7⟩ := an P3.o
  obtain ⟨z, hzz⟩ : ∃ z, bM O V gs k a mix hl = z := ⟨_, rfl⟩
  by_cases hz : z = 0
  ·subst hz
   have HE := aH hzz
   have hgd := qC hzz
   obtain rfl : ce = 0 := by rw [<- HCE.o]; exact hgd.1
   have HF0 := aH hgd.2
   have HSZ := en (eI (cI HCE.o).1).2.1
   obtain ⟨o, rfl⟩ : ∃ o : Nat, O = o := ⟨O.toNat, by omega⟩
   obtain ⟨v, rfl⟩ : ∃ v : Nat, V = v := ⟨V.toNat, by omega⟩
   have hv8 : v <= 8 := by have := SM.o.2; omega
   obtain ⟨qs, hqs⟩ : ∃ l, fA k o gs v a mix hl = l := ⟨_, rfl⟩
   have HLN : Hd (qs.length = v + 1) := aH (by
    rw [<- hqs]
    exact (uw (bY (cI HCE.o).1 hv8) (cI HCE.o).2 hl).1)
   have HQS := aH hqs
   clear hqs hgd hzz
   by_cases hx : x < 0 ∨ (v : Int) < x
   ·skip
    go_wp2_with fail
    refine (Go.Proofs.YtjebfdfkjlkifaaGreat.rowG w3 o v (.slice Al nl cl) gs k s A A' m c m' c' (.slice Am ml cm) a mix _ hl (LA.o w3 B3.o) (HHA.o w3 B3.o) HE.o hv8).mono ?_
    rw [HQS.o]
    rintro e w4 ⟨b4, rfl, _, hf4, hb4⟩
    have R4 := aH hf4
    clear hf4
    clear p0 p1 p2 p3 p4 p5 p6 p7
    have B4 := aH (B3.o.trans (hb4.mono B3.o.size))
    have P4 := aH (P3.o.below' hb4)
    clear B3 P3
    clear hb4
    obtain ⟨p0, p1, p2, p3, p4, p5, p6, p7⟩ := an P4.o
    go_wp2_with fail
    refine (pt w4 o v (.slice Al nl cl) gs k s A A' m c m' c' (.slice Am ml cm) a mix _ hl x (LA.o w4 B4.o) (HHA.o w4 B4.o) HE.o hx).mono ?_
    rintro e w5 ⟨rfl, hb5⟩
    clear p0 p1 p2 p3 p4 p5 p6 p7
    have B5 := aH (B4.o.trans (hb5.mono B4.o.size))
    have P5 := aH (P4.o.below' hb5)
    have R5 := aH (R4.o.below hb5)
    clear B4 P4 R4
    clear hb5
    obtain ⟨p0, p1, p2, p3, p4, p5, p6, p7⟩ := an P5.o
    go_upto_region 8 with fail
    obtain ⟨w6, hw6, X0, XB, Xhs⟩ := aA w5 40 [.bool false, .slice none 0 0, .slice none 0 0]
    rw [<- hw6]
    clear hw6
    clear p0 p1 p2 p3 p4 p5 p6 p7
    have B6 := aH (B5.o.trans (XB.o.mono B5.o.size))
    have P6 := aH (P5.o.below' XB.o)
    have R6 := aH (R5.o.below XB.o)
    clear B5 P5 R5
    have X6 := X0
    clear X0 XB Xhs
    obtain ⟨p0, p1, p2, p3, p4, p5, p6, p7⟩ := an P6.o
    go_wp2_with fail
    refine (pb w6 o v (.slice Al nl cl) gs k s A A' m c m' c' (.slice Am ml cm) a mix _ hl x (LA.o w6 B6.o) (HHA.o w6 B6.o) HE.o (by omega)).mono ?_
    rintro e w7 ⟨rfl, hb7⟩
    clear p0 p1 p2 p3 p4 p5 p6 p7
    have B7 := aH (B6.o.trans (hb7.mono B6.o.size))
    have P7 := aH (P6.o.below' hb7)
    have R7 := aH (R6.o.below hb7)
    have X7 := aH (X6.o.below' hb7)
    clear B6 P6 R6 X6
    clear hb7
    obtain ⟨p0, p1, p2, p3, p4, p5, p6, p7⟩ := an P7.o
    go_wp2_with fail
    refine (il w7 o v (.slice Al nl cl) gs k s A A' m c m' c' Am ml cm _ hl (by omega) Al nl cl rfl (HHA.o w7 B7.o)).mono ?_
    rintro e w8 ⟨rfl, hb8⟩
    rw [HF0.o]
    clear p0 p1 p2 p3 p4 p5 p6 p7
    have B8 := aH (B7.o.trans (hb8.mono B7.o.size))
    have P8 := aH (P7.o.below' hb8)
    have R8 := aH (R7.o.below hb8)
    have X8 := aH (X7.o.below' hb8)
    clear B7 P7 R7 X7
    clear hb8
    obtain ⟨p0, p1, p2, p3, p4, p5, p6, p7⟩ := an P8.o
    go_wp2_with fail
    refine (lN w8 o v (.slice Al nl cl) gs k s A A' m c m' c' (.slice Am ml cm) a mix _ hl (LA.o w8 B8.o) (HHA.o w8 B8.o) HE.o hv8 SM.o.1).mono ?_
    rw [HQS.o]
    rintro e w9 ⟨b9, rfl, _, hf9, hb9⟩
    have Q9 := aH hf9
    clear hf9
    clear p0 p1 p2 p3 p4 p5 p6 p7
    have B9 := aH (B8.o.trans (hb9.mono B8.o.size))
    have P9 := aH (P8.o.below' hb9)
    have R9 := aH (R8.o.below hb9)
    have X9 := aH (X8.o.below' hb9)
    clear B8 P8 R8 X8
    clear hb9
    obtain ⟨p0, p1, p2, p3, p4, p5, p6, p7⟩ := an P9.o
    go_wp2_with fail
    refine (iG w9 _ _ qs qs (by have := (R9.o.cans (c := v + 1) (by rw [HLN.o]; exact nR _) (by omega)); rwa [HLN.o] at this) (by have := (Q9.o.cans (c := v + 1) (by rw [HLN.o]; exact nR _) (by omega)); rwa [HLN.o] at this)).mono ?_
    rintro e w10 ⟨rfl, hb10⟩
    rw [show decide (qs = qs) = true from dT rfl]
    clear p0 p1 p2 p3 p4 p5 p6 p7
    have B10 := aH (B9.o.trans (hb10.mono B9.o.size))
    have P10 := aH (P9.o.below' hb10)
    have X10 := aH (X9.o.below' hb10)
    have Q10 := aH (Q9.o.below hb10)
    clear B9 P9 R9 X9 Q9
    clear hb10
    obtain ⟨p0, p1, p2, p3, p4, p5, p6, p7⟩ := an P10.o
    obtain ⟨x0, x1, x2, _, _, _⟩ := X10.o.three
    rcases Int.lt_or_le x 0 with hx0 | hx0
    ·have d3 : decide (x < 0) = true := dT hx0
     have d5 : decide (x < 1) = true := dT (by omega)
     go_wp2_with fail
     refine (ez w10 _ 0 64 ((CanNew.zero_ 0 w10).at_.frac (cB 64 (by omega)) (by omega)) (by omega)).mono ?_
     rintro e w11 ⟨rfl, hb11⟩
     rw [show aU 0 = 0 from rfl]
     clear x0 x1 x2
     clear p0 p1 p2 p3 p4 p5 p6 p7
     have B11 := aH (B10.o.trans (hb11.mono B10.o.size))
     have P11 := aH (P10.o.below' hb11)
     have X11 := aH (X10.o.below' hb11)
     have Q11 := aH (Q10.o.below hb11)
     clear B10 P10 X10 Q10
     clear hb11
     obtain ⟨p0, p1, p2, p3, p4, p5, p6, p7⟩ := an P11.o
     go_wp2_with fail
     refine (HK.o _).mono ?_
     rintro e wK ⟨rfl, hbK⟩
     have BK := aH (B11.o.trans (hbK.mono B11.o.size))
     clear hbK
     go_wp2_with fail
     go_ret
     exact ⟨rfl, BK.o⟩
    have d3 : decide (x < 0) = false := dF (by omega)
    have d4 : decide ((v : Int) < x) = true := dT (by omega)
    have d5 : decide (x < 1) = false := dF (by omega)
    go_wp2_with fail
    refine (ez w10 _ 0 64 ((CanNew.zero_ 0 w10).at_.frac (cB 64 (by omega)) (by omega)) (by omega)).mono ?_
    rintro e w11 ⟨rfl, hb11⟩
    rw [show aU 0 = 0 from rfl]
    clear x0 x1 x2
    clear p0 p1 p2 p3 p4 p5 p6 p7
    have B11 := aH (B10.o.trans (hb11.mono B10.o.size))
    have P11 := aH (P10.o.below' hb11)
    have X11 := aH (X10.o.below' hb11)
    have Q11 := aH (Q10.o.below hb11)
    clear B10 P10 X10 Q10
    clear hb11
    obtain ⟨p0, p1, p2, p3, p4, p5, p6, p7⟩ := an P11.o
    go_wp2_with fail
    refine (HK.o _).mono ?_
    rintro e wK ⟨rfl, hbK⟩
    have BK := aH (B11.o.trans (hbK.mono B11.o.size))
    clear hbK
    go_wp2_with fail
    go_ret
    exact ⟨rfl, BK.o⟩
   obtain ⟨y, rfl⟩ : ∃ y : Nat, x = y := ⟨x.toNat, by omega⟩
   have d4 : decide ((v : Int) < (y : Int)) = false := dF (by omega)
   have d4' : decide (v < y) = false := dF (by omega)
   obtain ⟨qx, hqx⟩ : ∃ q, qs[y]? = some q := ⟨_, eG (by rw [HLN.o]; omega)⟩
   have HQX := aH hqx
   have HGD : Hd (qs.getD y 0 = qx) := aH (by rw [gD, hqx]; rfl)
   have q1 : (0 : Int) <= (y : Int) := by omega
   have q2 : (y : Int) < (v : Int) + 1 := by omega
   clear hqx
   rcases zP y with hy | hy
   ·subst hy
    have d6 : decide ((v : Int) < 0) = false := dF (by omega)
    have d7 : decide (v < 0) = false := dF (by omega)
    have q3 : (0 : Int) < (v : Int) + 1 := by omega
    go_wp2_with fail
    refine (Go.Proofs.YtjebfdfkjlkifaaGreat.rowG w3 o v (.slice Al nl cl) gs k s A A' m c m' c' (.slice Am ml cm) a mix _ hl (LA.o w3 B3.o) (HHA.o w3 B3.o) HE.o hv8).mono ?_
    rw [HQS.o]
    rintro e w4 ⟨b4, rfl, _, hf4, hb4⟩
    have R4 := aH hf4
    clear hf4
    clear p0 p1 p2 p3 p4 p5 p6 p7
    have B4 := aH (B3.o.trans (hb4.mono B3.o.size))
    have P4 := aH (P3.o.below' hb4)
    clear B3 P3
    clear hb4
    obtain ⟨p0, p1, p2, p3, p4, p5, p6, p7⟩ := an P4.o
    go_wp2_with fail
    refine (oR w4 o v 0 (.slice Al nl cl) gs k s A A' m c m' c' (.slice Am ml cm) a mix _ hl (LA.o w4 B4.o) (HHA.o w4 B4.o) HE.o hv8 (by omega)).mono ?_
    rw [HQS.o, HGD.o]
    rintro e w5 ⟨u, rfl, hu, hb5⟩
    obtain ⟨Ax, mx, cx, Ax', mx', cx', rfl⟩ := hu.open_
    have U5 := aH hu
    clear hu
    clear p0 p1 p2 p3 p4 p5 p6 p7
    have B5 := aH (B4.o.trans (hb5.mono B4.o.size))
    have P5 := aH (P4.o.below' hb5)
    have R5 := aH (R4.o.below hb5)
    clear B4 P4 R4
    clear hb5
    obtain ⟨p0, p1, p2, p3, p4, p5, p6, p7⟩ := an P5.o
    go_upto_region 8 with fail
    obtain ⟨w6, hw6, X0, XB, Xhs⟩ := aA w5 40 [.bool (ae qx), .slice Ax mx cx, .slice Ax' mx' cx']
    rw [<- hw6]
    clear hw6
    clear p0 p1 p2 p3 p4 p5 p6 p7
    have B6 := aH (B5.o.trans (XB.o.mono B5.o.size))
    have P6 := aH (P5.o.below' XB.o)
    have R6 := aH (R5.o.below XB.o)
    have U6 := aH (U5.o.below XB.o)
    clear B5 P5 R5 U5
    have X6 := X0
    clear X0 XB Xhs
    obtain ⟨p0, p1, p2, p3, p4, p5, p6, p7⟩ := an P6.o
    go_wp2_with fail
    refine (pb w6 o v (.slice Al nl cl) gs k s A A' m c m' c' (.slice Am ml cm) a mix _ hl 0 (LA.o w6 B6.o) (HHA.o w6 B6.o) HE.o (by omega)).mono ?_
    rintro e w7 ⟨rfl, hb7⟩
    clear p0 p1 p2 p3 p4 p5 p6 p7
    have B7 := aH (B6.o.trans (hb7.mono B6.o.size))
    have P7 := aH (P6.o.below' hb7)
    have R7 := aH (R6.o.below hb7)
    have U7 := aH (U6.o.below hb7)
    have X7 := aH (X6.o.below' hb7)
    clear B6 P6 R6 U6 X6
    clear hb7
    obtain ⟨p0, p1, p2, p3, p4, p5, p6, p7⟩ := an P7.o
    go_wp2_with fail
    refine (il w7 o v (.slice Al nl cl) gs k s A A' m c m' c' Am ml cm _ hl (by omega) Al nl cl rfl (HHA.o w7 B7.o)).mono ?_
    rintro e w8 ⟨rfl, hb8⟩
    rw [HF0.o]
    clear p0 p1 p2 p3 p4 p5 p6 p7
    have B8 := aH (B7.o.trans (hb8.mono B7.o.size))
    have P8 := aH (P7.o.below' hb8)
    have R8 := aH (R7.o.below hb8)
    have U8 := aH (U7.o.below hb8)
    have X8 := aH (X7.o.below' hb8)
    clear B7 P7 R7 U7 X7
    clear hb8
    obtain ⟨p0, p1, p2, p3, p4, p5, p6, p7⟩ := an P8.o
    go_wp2_with fail
    refine (lN w8 o v (.slice Al nl cl) gs k s A A' m c m' c' (.slice Am ml cm) a mix _ hl (LA.o w8 B8.o) (HHA.o w8 B8.o) HE.o hv8 SM.o.1).mono ?_
    rw [HQS.o]
    rintro e w9 ⟨b9, rfl, _, hf9, hb9⟩
    have Q9 := aH hf9
    clear hf9
    clear p0 p1 p2 p3 p4 p5 p6 p7
    have B9 := aH (B8.o.trans (hb9.mono B8.o.size))
    have P9 := aH (P8.o.below' hb9)
    have R9 := aH (R8.o.below hb9)
    have U9 := aH (U8.o.below hb9)
    have X9 := aH (X8.o.below' hb9)
    clear B8 P8 R8 U8 X8
    clear hb9
    obtain ⟨p0, p1, p2, p3, p4, p5, p6, p7⟩ := an P9.o
    go_wp2_with fail
    refine (iG w9 _ _ qs qs (by have := (R9.o.cans (c := v + 1) (by rw [HLN.o]; exact nR _) (by omega)); rwa [HLN.o] at this) (by have := (Q9.o.cans (c := v + 1) (by rw [HLN.o]; exact nR _) (by omega)); rwa [HLN.o] at this)).mono ?_
    rintro e w10 ⟨rfl, hb10⟩
    rw [show decide (qs = qs) = true from dT rfl]
    clear p0 p1 p2 p3 p4 p5 p6 p7
    have B10 := aH (B9.o.trans (hb10.mono B9.o.size))
    have P10 := aH (P9.o.below' hb10)
    have U10 := aH (U9.o.below hb10)
    have X10 := aH (X9.o.below' hb10)
    have Q10 := aH (Q9.o.below hb10)
    clear B9 P9 R9 U9 X9 Q9
    clear hb10
    obtain ⟨p0, p1, p2, p3, p4, p5, p6, p7⟩ := an P10.o
    obtain ⟨x0, x1, x2, _, _, _⟩ := X10.o.three
    obtain ⟨Aq, mq, cq, Aq', mq', cq', k0, k1, k2, _, _, _, tq⟩ := Q10.o.get HQX.o
    simp only [Nat.zero_mul, Nat.zero_add] at k0 k1 k2
    have TQ := aH tq
    have sX := X10.o.lt
    have sQ := Q10.o.lt
    have HSET : Hd (∀ w', Below w10.heap.size w10 w' -> (fun w' => w'.cell? ⟨w5.heap.size, 0, none⟩ = some (.bool (ae qx)) /\ w'.cell? ⟨w5.heap.size, 1, none⟩ = some (.slice Ax mx cx) /\ w'.cell? ⟨w5.heap.size, 2, none⟩ = some (.slice Ax' mx' cx') /\ w'.cell? ⟨b9, 0, none⟩ = some (.bool (ae qx)) /\ w'.cell? ⟨b9, 1, none⟩ = some (.slice Aq mq cq) /\ w'.cell? ⟨b9, 2, none⟩ = some (.slice Aq' mq' cq')) w') := aH (fun w' hb => ⟨(hb.cell (p := ⟨w5.heap.size, 0, none⟩) sX).trans x0, (hb.cell (p := ⟨w5.heap.size, 1, none⟩) sX).trans x1, (hb.cell (p := ⟨w5.heap.size, 2, none⟩) sX).trans x2, (hb.cell (p := ⟨b9, 0, none⟩) sQ).trans k0, (hb.cell (p := ⟨b9, 1, none⟩) sQ).trans k1, (hb.cell (p := ⟨b9, 2, none⟩) sQ).trans k2⟩)
    have BB := aH (Below.refl w10.heap.size w10)
    have hS := HSET.o w10 BB.o
    clear tq x0 x1 x2 k0 k1 k2
    go_upto_region 19 with fail
    go_cut [126] (fun t wc => t = .bool false /\ Hd (Below w10.heap.size w10 wc))
    case first =>
     go_region_held3 (fun w' => w'.cell? ⟨w5.heap.size, 0, none⟩ = some (.bool (ae qx)) /\ w'.cell? ⟨w5.heap.size, 1, none⟩ = some (.slice Ax mx cx) /\ w'.cell? ⟨w5.heap.size, 2, none⟩ = some (.slice Ax' mx' cx') /\ w'.cell? ⟨b9, 0, none⟩ = some (.bool (ae qx)) /\ w'.cell? ⟨b9, 1, none⟩ = some (.slice Aq mq cq) /\ w'.cell? ⟨b9, 2, none⟩ = some (.slice Aq' mq' cq'))
      (first | assumption | exact hS | go_keep)
      (first
       | (go_at_call 40; refine (gW _ _ _ qx qx (U10.o.below (bS _)) (TQ.o.below (bS _))).mono ?_; rintro e wl ⟨rfl, hb'⟩; rw [show decide (qx = qx) = true from dT rfl]; have hb := bO hb'; replace BB := aH hb; have hS := HSET.o _ BB.o; clear hb hb'))
     all_goals
      go_wp2_with fail
      go_meet
      exact ⟨rfl, BB⟩
    obtain ⟨rfl, hcc⟩ := hcut
    have hbc := hcc.o
    obtain ⟨w11, rfl⟩ : ∃ x, x = wc := ⟨_, rfl⟩
    clear hcc BB hS HSET TQ
    clear p0 p1 p2 p3 p4 p5 p6 p7
    have B11 := aH (B10.o.trans (hbc.mono B10.o.size))
    have P11 := aH (P10.o.below' hbc)
    clear B10 P10 U10 X10 Q10
    clear hbc
    obtain ⟨p0, p1, p2, p3, p4, p5, p6, p7⟩ := an P11.o
    go_wp2_with fail
    refine (HK.o _).mono ?_
    rintro e wK ⟨rfl, hbK⟩
    have BK := aH (B11.o.trans (hbK.mono B11.o.size))
    clear hbK
    go_wp2_with fail
    go_ret
    exact ⟨rfl, BK.o⟩
   have d3 : decide ((y : Int) < 0) = false := dF (by omega)
   have d5 : decide ((y : Int) < 1) = false := dF (by omega)
   have d5' : decide (y < 1) = false := dF (by omega)
   go_wp2_with fail
   refine (Go.Proofs.YtjebfdfkjlkifaaGreat.rowG w3 o v (.slice Al nl cl) gs k s A A' m c m' c' (.slice Am ml cm) a mix _ hl (LA.o w3 B3.o) (HHA.o w3 B3.o) HE.o hv8).mono ?_
   rw [HQS.o]
   rintro e w4 ⟨b4, rfl, _, hf4, hb4⟩
   have R4 := aH hf4
   clear hf4
   clear p0 p1 p2 p3 p4 p5 p6 p7
   have B4 := aH (B3.o.trans (hb4.mono B3.o.size))
   have P4 := aH (P3.o.below' hb4)
   clear B3 P3
   clear hb4
   obtain ⟨p0, p1, p2, p3, p4, p5, p6, p7⟩ := an P4.o
   go_wp2_with fail
   refine (oR w4 o v y (.slice Al nl cl) gs k s A A' m c m' c' (.slice Am ml cm) a mix _ hl (LA.o w4 B4.o) (HHA.o w4 B4.o) HE.o hv8 (by omega)).mono ?_
   rw [HQS.o, HGD.o]
   rintro e w5 ⟨u, rfl, hu, hb5⟩
   obtain ⟨Ax, mx, cx, Ax', mx', cx', rfl⟩ := hu.open_
   have U5 := aH hu
   clear hu
   clear p0 p1 p2 p3 p4 p5 p6 p7
   have B5 := aH (B4.o.trans (hb5.mono B4.o.size))
   have P5 := aH (P4.o.below' hb5)
   have R5 := aH (R4.o.below hb5)
   clear B4 P4 R4
   clear hb5
   obtain ⟨p0, p1, p2, p3, p4, p5, p6, p7⟩ := an P5.o
   go_upto_region 8 with fail
   obtain ⟨w6, hw6, X0, XB, Xhs⟩ := aA w5 40 [.bool (ae qx), .slice Ax mx cx, .slice Ax' mx' cx']
   rw [<- hw6]
   clear hw6
   clear p0 p1 p2 p3 p4 p5 p6 p7
   have B6 := aH (B5.o.trans (XB.o.mono B5.o.size))
   have P6 := aH (P5.o.below' XB.o)
   have R6 := aH (R5.o.below XB.o)
   have U6 := aH (U5.o.below XB.o)
   clear B5 P5 R5 U5
   have X6 := X0
   clear X0 XB Xhs
   obtain ⟨p0, p1, p2, p3, p4, p5, p6, p7⟩ := an P6.o
   go_wp2_with fail
   refine (wR w6 o v (.slice Al nl cl) gs k s A A' m c m' c' (.slice Am ml cm) a mix _ hl (y : Int) (LA.o w6 B6.o) (HHA.o w6 B6.o) HE.o (by omega) (by rw [HNH.o]; omega)).mono ?_
   rintro e w7 ⟨nv, rfl, hn, hb7⟩
   obtain ⟨An, cn, rfl, _, _, _⟩ := hn.open_
   obtain ⟨nn, hnn⟩ : ∃ n, (fP hl (y : Int)).length = n := ⟨_, rfl⟩
   rw [hnn] at hn ⊢
   have N7 := aH hn
   clear hn hnn
   clear p0 p1 p2 p3 p4 p5 p6 p7
   have B7 := aH (B6.o.trans (hb7.mono B6.o.size))
   have P7 := aH (P6.o.below' hb7)
   have R7 := aH (R6.o.below hb7)
   have U7 := aH (U6.o.below hb7)
   have X7 := aH (X6.o.below' hb7)
   clear B6 P6 R6 U6 X6
   clear hb7
   obtain ⟨p0, p1, p2, p3, p4, p5, p6, p7⟩ := an P7.o
   go_wp2_with fail
   refine (il w7 o v (.slice Al nl cl) gs k s A A' m c m' c' Am ml cm _ hl (by omega) Al nl cl rfl (HHA.o w7 B7.o)).mono ?_
   rintro e w8 ⟨rfl, hb8⟩
   rw [HF0.o]
   clear p0 p1 p2 p3 p4 p5 p6 p7
   have B8 := aH (B7.o.trans (hb8.mono B7.o.size))
   have P8 := aH (P7.o.below' hb8)
   have R8 := aH (R7.o.below hb8)
   have U8 := aH (U7.o.below hb8)
   have X8 := aH (X7.o.below' hb8)
   have N8 := aH (N7.o.below hb8)
   clear B7 P7 R7 U7 X7 N7
   clear hb8
   obtain ⟨p0, p1, p2, p3, p4, p5, p6, p7⟩ := an P8.o
   go_wp2_with fail
   refine (lN w8 o v (.slice Al nl cl) gs k s A A' m c m' c' (.slice Am ml cm) a mix _ hl (LA.o w8 B8.o) (HHA.o w8 B8.o) HE.o hv8 SM.o.1).mono ?_
   rw [HQS.o]
   rintro e w9 ⟨b9, rfl, _, hf9, hb9⟩
   have Q9 := aH hf9
   clear hf9
   clear p0 p1 p2 p3 p4 p5 p6 p7
   have B9 := aH (B8.o.trans (hb9.mono B8.o.size))
   have P9 := aH (P8.o.below' hb9)
   have R9 := aH (R8.o.below hb9)
   have U9 := aH (U8.o.below hb9)
   have X9 := aH (X8.o.below' hb9)
   have N9 := aH (N8.o.below hb9)
   clear B8 P8 R8 U8 X8 N8
   clear hb9
   obtain ⟨p0, p1, p2, p3, p4, p5, p6, p7⟩ := an P9.o
   go_wp2_with fail
   refine (iG w9 _ _ qs qs (by have := (R9.o.cans (c := v + 1) (by rw [HLN.o]; exact nR _) (by omega)); rwa [HLN.o] at this) (by have := (Q9.o.cans (c := v + 1) (by rw [HLN.o]; exact nR _) (by omega)); rwa [HLN.o] at this)).mono ?_
   rintro e w10 ⟨rfl, hb10⟩
   rw [show decide (qs = qs) = true from dT rfl]
   clear p0 p1 p2 p3 p4 p5 p6 p7
   have B10 := aH (B9.o.trans (hb10.mono B9.o.size))
   have P10 := aH (P9.o.below' hb10)
   have U10 := aH (U9.o.below hb10)
   have X10 := aH (X9.o.below' hb10)
   have N10 := aH (N9.o.below hb10)
   have Q10 := aH (Q9.o.below hb10)
   clear B9 P9 R9 U9 X9 N9 Q9
   clear hb10
   obtain ⟨p0, p1, p2, p3, p4, p5, p6, p7⟩ := an P10.o
   obtain ⟨x0, x1, x2, _, _, _⟩ := X10.o.three
   obtain ⟨Aq, mq, cq, Aq', mq', cq', k0, k1, k2, _, _, _, tq⟩ := Q10.o.get HQX.o
   have TQ := aH tq
   have sX := X10.o.lt
   have sQ := Q10.o.lt
   have HSET : Hd (∀ w', Below w10.heap.size w10 w' -> (fun w' => w'.cell? ⟨w5.heap.size, 0, none⟩ = some (.bool (ae qx)) /\ w'.cell? ⟨w5.heap.size, 1, none⟩ = some (.slice Ax mx cx) /\ w'.cell? ⟨w5.heap.size, 2, none⟩ = some (.slice Ax' mx' cx') /\ w'.cell? ⟨b9, y * 3, none⟩ = some (.bool (ae qx)) /\ w'.cell? ⟨b9, y * 3 + 1, none⟩ = some (.slice Aq mq cq) /\ w'.cell? ⟨b9, y * 3 + 2, none⟩ = some (.slice Aq' mq' cq')) w') := aH (fun w' hb => ⟨(hb.cell (p := ⟨w5.heap.size, 0, none⟩) sX).trans x0, (hb.cell (p := ⟨w5.heap.size, 1, none⟩) sX).trans x1, (hb.cell (p := ⟨w5.heap.size, 2, none⟩) sX).trans x2, (hb.cell (p := ⟨b9, y * 3, none⟩) sQ).trans k0, (hb.cell (p := ⟨b9, y * 3 + 1, none⟩) sQ).trans k1, (hb.cell (p := ⟨b9, y * 3 + 2, none⟩) sQ).trans k2⟩)
   have BB := aH (Below.refl w10.heap.size w10)
   have hS := HSET.o w10 BB.o
   clear tq x0 x1 x2 k0 k1 k2
   go_upto_region 19 with fail
   go_cut [126] (fun t wc => t = .bool false /\ Hd (Below w10.heap.size w10 wc))
   case first =>
    go_region_held3 (fun w' => w'.cell? ⟨w5.heap.size, 0, none⟩ = some (.bool (ae qx)) /\ w'.cell? ⟨w5.heap.size, 1, none⟩ = some (.slice Ax mx cx) /\ w'.cell? ⟨w5.heap.size, 2, none⟩ = some (.slice Ax' mx' cx') /\ w'.cell? ⟨b9, y * 3, none⟩ = some (.bool (ae qx)) /\ w'.cell? ⟨b9, y * 3 + 1, none⟩ = some (.slice Aq mq cq) /\ w'.cell? ⟨b9, y * 3 + 2, none⟩ = some (.slice Aq' mq' cq'))
     (first | assumption | exact hS | go_keep)
     (first
      | (go_at_call 40; refine (gW _ _ _ qx qx (U10.o.below (bS _)) (TQ.o.below (bS _))).mono ?_; rintro e wl ⟨rfl, hb'⟩; rw [show decide (qx = qx) = true from dT rfl]; have hb := bO hb'; replace BB := aH hb; have hS := HSET.o _ BB.o; clear hb hb'))
    all_goals
     go_wp2_with fail
     go_meet
     exact ⟨rfl, BB⟩
   obtain ⟨rfl, hcc⟩ := hcut
   have hbc := hcc.o
   obtain ⟨w11, rfl⟩ : ∃ x, x = wc := ⟨_, rfl⟩
   clear hcc BB hS HSET TQ
   clear p0 p1 p2 p3 p4 p5 p6 p7
   have B11 := aH (B10.o.trans (hbc.mono B10.o.size))
   have P11 := aH (P10.o.below' hbc)
   have N11 := aH (N10.o.below hbc)
   clear B10 P10 U10 X10 N10 Q10
   clear hbc
   obtain ⟨p0, p1, p2, p3, p4, p5, p6, p7⟩ := an P11.o
   go_wp2_with fail
   refine (wQ w11 _ hl (y : Int) (HHA.o w11 B11.o) (by rw [HNH.o]; omega)).mono ?_
   rintro e w12 ⟨rv, rfl, hn, hb12⟩
   have M12 := aH hn
   clear hn
   clear p0 p1 p2 p3 p4 p5 p6 p7
   have B12 := aH (B11.o.trans (hb12.mono B11.o.size))
   have P12 := aH (P11.o.below' hb12)
   have N12 := aH (N11.o.below hb12)
   clear B11 P11 N11
   clear hb12
   obtain ⟨p0, p1, p2, p3, p4, p5, p6, p7⟩ := an P12.o
   go_wp2_with fail
   refine (oo w12 _ _ (fP hl (y : Int)) (fP hl (y : Int)) N12.o M12.o).mono ?_
   rintro e w13 ⟨rfl, hb13⟩
   rw [show decide (fP hl (y : Int) = fP hl (y : Int)) = true from dT rfl]
   clear p0 p1 p2 p3 p4 p5 p6 p7
   have B13 := aH (B12.o.trans (hb13.mono B12.o.size))
   have P13 := aH (P12.o.below' hb13)
   clear B12 P12 N12 M12
   clear hb13
   obtain ⟨p0, p1, p2, p3, p4, p5, p6, p7⟩ := an P13.o
   go_wp2_with fail
   refine (HK.o _).mono ?_
   rintro e wK ⟨rfl, hbK⟩
   have BK := aH (B13.o.trans (hbK.mono B13.o.size))
   clear hbK
   go_wp2_with fail
   go_ret
   exact ⟨rfl, BK.o⟩
  have HZ := aH hzz
  have n1 : (z != 0) = true := by simpa using hz
  have n2 : (z == 0) = false := by simpa using hz
  have hbd := aH (sY hzz hz)
  clear hzz
  go_wp2_with fail
  refine (vI w3 O V (.slice Al nl cl) gs k s A A' m c m' c' (.slice Am ml cm) a mix _ hl z (LA.o w3 B3.o) (HHA.o w3 B3.o) HZ.o hz).mono ?_
  rintro e w4 ⟨rfl, hb4⟩
  clear p0 p1 p2 p3 p4 p5 p6 p7
  have B4 := aH (B3.o.trans (hb4.mono B3.o.size))
  have P4 := aH (P3.o.below' hb4)
  clear B3 P3
  clear hb4
  obtain ⟨p0, p1, p2, p3, p4, p5, p6, p7⟩ := an P4.o
  go_wp2_with fail
  refine (pu w4 O V (.slice Al nl cl) gs k s A A' m c m' c' (.slice Am ml cm) a mix _ hl x z (LA.o w4 B4.o) (HHA.o w4 B4.o) HZ.o hz).mono ?_
  rintro e w5 ⟨rfl, hb5⟩
  clear p0 p1 p2 p3 p4 p5 p6 p7
  have B5 := aH (B4.o.trans (hb5.mono B4.o.size))
  have P5 := aH (P4.o.below' hb5)
  clear B4 P4
  clear hb5
  obtain ⟨p0, p1, p2, p3, p4, p5, p6, p7⟩ := an P5.o
  go_upto_region 8 with fail
  obtain ⟨w6, hw6, X0, XB, Xhs⟩ := aA w5 40 [.bool false, .slice none 0 0, .slice none 0 0]
  rw [<- hw6]
  clear hw6
  clear p0 p1 p2 p3 p4 p5 p6 p7
  have B6 := aH (B5.o.trans (XB.o.mono B5.o.size))
  have P6 := aH (P5.o.below' XB.o)
  clear B5 P5
  have X6 := X0
  clear X0 XB Xhs
  obtain ⟨p0, p1, p2, p3, p4, p5, p6, p7⟩ := an P6.o
  go_wp2_with fail
  refine (uH w6 O V (.slice Al nl cl) gs k s A A' m c m' c' (.slice Am ml cm) a mix _ hl x z (LA.o w6 B6.o) (HHA.o w6 B6.o) HZ.o hz).mono ?_
  rintro e w7 ⟨rfl, hb7⟩
  clear p0 p1 p2 p3 p4 p5 p6 p7
  have B7 := aH (B6.o.trans (hb7.mono B6.o.size))
  have P7 := aH (P6.o.below' hb7)
  have X7 := aH (X6.o.below' hb7)
  clear B6 P6 X6
  clear hb7
  obtain ⟨p0, p1, p2, p3, p4, p5, p6, p7⟩ := an P7.o
  by_cases hc0 : ce = 0
  ·subst hc0
   have h9 := hbd.o.2 HCE.o
   obtain rfl : z = 2 := h9.1
   have HF0 := aH h9.2
   have HSZ := en (eI (cI HCE.o).1).2.1
   clear h9 hbd n1 n2
   go_wp2_with fail
   refine (il w7 O V (.slice Al nl cl) gs k s A A' m c m' c' Am ml cm _ hl (by omega) Al nl cl rfl (HHA.o w7 B7.o)).mono ?_
   rintro e w8 ⟨rfl, hb8⟩
   rw [HF0.o]
   clear p0 p1 p2 p3 p4 p5 p6 p7
   have B8 := aH (B7.o.trans (hb8.mono B7.o.size))
   have P8 := aH (P7.o.below' hb8)
   have X8 := aH (X7.o.below' hb8)
   clear B7 P7 X7
   clear hb8
   obtain ⟨p0, p1, p2, p3, p4, p5, p6, p7⟩ := an P8.o
   obtain ⟨x0, x1, x2, _, _, _⟩ := X8.o.three
   go_wp2_with fail
   refine (ez w8 _ 0 64 ((CanNew.zero_ 0 w8).at_.frac (cB 64 (by omega)) (by omega)) (by omega)).mono ?_
   rintro e wS ⟨rfl, hbS⟩
   rw [show aU 0 = 0 from rfl]
   have BS := aH (B8.o.trans (hbS.mono B8.o.size))
   clear hbS x0 x1 x2
   go_wp2_with fail
   refine (HK.o _).mono ?_
   rintro e wK ⟨rfl, hbK⟩
   have BK := aH (BS.o.trans (hbK.mono BS.o.size))
   clear hbK
   go_wp2_with fail
   go_ret
   exact ⟨rfl, BK.o⟩
  have n3 : (ce == 0) = false := by simpa using hc0
  have n4 : (ce != 0) = true := by simpa using hc0
  have h9 := hbd.o.1 (by rw [HCE.o]; exact hc0)
  rw [HCE.o] at h9
  subst h9
  clear hbd
  obtain ⟨x0, x1, x2, _, _, _⟩ := X7.o.three
  go_wp2_with fail
  refine (ez w7 _ 0 64 ((CanNew.zero_ 0 w7).at_.frac (cB 64 (by omega)) (by omega)) (by omega)).mono ?_
  rintro e wS ⟨rfl, hbS⟩
  rw [show aU 0 = 0 from rfl]
  have BS := aH (B7.o.trans (hbS.mono B7.o.size))
  clear hbS x0 x1 x2
  go_wp2_with fail
  refine (HK.o _).mono ?_
  rintro e wK ⟨rfl, hbK⟩
  have BK := aH (BS.o.trans (hbK.mono BS.o.size))
  clear hbK
  go_wp2_with fail
  go_ret
  exact ⟨rfl, BK.o⟩
end Go.Proofs.YtjebfdfkjlkifaaGreat
