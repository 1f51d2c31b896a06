/- Lemmas. -/
import Derived.Test.YtjebfdfkjlkifaaGreatN52
set_option linter.all false
set_option maxRecDepth 1000000
set_option maxHeartbeats 32000000
namespace Go.Proofs.YtjebfdfkjlkifaaGreat
open Go.RowKit
theorem gramAllG (hsort : ma) (w : World) (L V : Int) (A : Option Addr) (n c : Nat) (rr : List RRule) (sv : Value) (sl : List Int) (h : RRulesAt w (.slice A n c) rr) (hn : rr.length = n) (hs : IntsAt w sv sl) :
  Calls Tryz.prog 8 #[.agg #[.int .i64 L, .int .i64 V, .slice A n c], sv] w fun e w' => e = .returned (.bool true) /\ Below w.heap.size w w' := by
 obtain ⟨SA, sc, rfl, hsc, hscm, _⟩ := hs.open_
 have HK := aH (vQ hsort)
 obtain ⟨p, hp⟩ : ∃ p, sl.length = p := ⟨_, rfl⟩
 have HFW : Hd (∀ w', Below w.heap.size w w' -> Calls Tryz.prog 46 #[.agg #[.int .i64 L, .int .i64 V, .slice A n c]] w' fun e w2 => e = .returned (.bool (fewB rr)) /\ Below w'.heap.size w' w2) := aH (fun w' hb => fewG w' L V A n c rr (h.below hb) hn)
 obtain ⟨rs, hrs⟩ : ∃ l, rr.map RRule.rule = l := ⟨_, rfl⟩
 have HRA : Hd (fewB rr = true -> ∀ w', Below w.heap.size w w' -> RulesAt 64 w' (.slice A n c) rs) := aH (fun hf w' hb => by rw [<- hrs]; exact (h.rules (few_ok hf).2).below hb)
 have HSA : Hd (∀ w', Below w.heap.size w w' -> IntsAt w' (.slice SA p sc) sl) := aH (fun w' hb => by rw [<- hp]; exact hs.below hb)
 have HN : Hd (rs.length = n) := aH (by rw [<- hrs, List.length_map]; exact hn)
 rw [hp] at hsc ⊢
 have HP := aH hp
 obtain ⟨fb, hfb⟩ : ∃ b, fewB rr = b := ⟨_, rfl⟩
 obtain ⟨ce, hce⟩ : ∃ z, aR L V rs = z := ⟨_, rfl⟩
 obtain ⟨ks, hks⟩ : ∃ b, inR 1 V sl = b := ⟨_, rfl⟩
 obtain ⟨b6, e6⟩ : ∃ b, decide ((6 : Int) < (n : Int)) = b := ⟨_, rfl⟩
 obtain ⟨b4, e4⟩ : ∃ b, decide ((4 : Int) < V) = b := ⟨_, rfl⟩
 obtain ⟨b3, e3⟩ : ∃ b, decide ((3 : Int) < (p : Int)) = b := ⟨_, rfl⟩
 obtain ⟨bc, ec⟩ : ∃ b, (ce != 0) = b := ⟨_, rfl⟩
 obtain ⟨tk, htk⟩ : ∃ b, (!fb || (b6 || (bc || (b4 || (b3 || !ks))))) = b := ⟨_, rfl⟩
 have e6' : decide (6 < n) = b6 := by rw [<- e6]; exact decide_eq_decide.2 (by omega)
 have e3' : decide (3 < p) = b3 := by rw [<- e3]; exact decide_eq_decide.2 (by omega)
 have HFB := aH hfb
 have HCE := aH hce
 have HKS := aH hks
 have HTK := aH htk
 have HB6 := aH e6
 have HB4 := aH e4
 have HB3 := aH e3
 have HBC := aH ec
 clear hsort h hn hs hp hrs hfb hce hks htk
 go_enter Tryz.func8, Tryz.ntmps8
 go_upto_region 1 with fail
 obtain ⟨W, hW, P0, PB, Phs⟩ := aA w 73 [.int .i64 L, .int .i64 V, .slice A n c]
 rw [<- hW]
 clear hW
 obtain ⟨p0, p1, p2, _, _, _⟩ := P0.o.three
 go_cut [55] (fun t wc => t = .bool tk /\ Hd (Below W.heap.size W wc))
 case first =>
  go_wp2_with fail
  refine (HFW.o W PB.o).mono ?_
  rintro e wa ⟨rfl, hba⟩
  rw [HFB.o]
  have BA := aH hba
  clear hba
  cases fb with
  | false =>
   go_wp2_with fail
   go_meet
   exact ⟨by rw [<- HTK.o]; rfl, BA⟩
  | true =>
   obtain ⟨p0, p1, p2, _, _, _⟩ := (P0.o.below' BA.o).three
   cases b6 with
   | true =>
    go_wp2_with fail
    go_meet
    exact ⟨by rw [<- HTK.o]; rfl, BA⟩
   | false =>
    go_wp2_with fail
    refine (checkGR wa L V _ rs (HRA.o HFB.o wa (PB.o.trans (BA.o.mono PB.o.size))) (by rw [HN.o]; have := of_decide_eq_false HB6.o; omega)).mono ?_
    rintro e wb ⟨rfl, hbb⟩
    rw [HCE.o]
    have BB := aH (BA.o.trans (hbb.mono BA.o.size))
    clear p0 p1 p2 hbb
    obtain ⟨p0, p1, p2, _, _, _⟩ := (P0.o.below' BB.o).three
    cases bc with
    | true =>
     go_wp2_with fail
     go_meet
     exact ⟨by rw [<- HTK.o]; rfl, BB⟩
    | false =>
     cases b4 with
     | true =>
      go_wp2_with fail
      go_meet
      exact ⟨by rw [<- HTK.o]; rfl, BB⟩
     | false =>
      cases b3 with
      | true =>
       go_wp2_with fail
       go_meet
       exact ⟨by rw [<- HTK.o]; rfl, BB⟩
      | false =>
       go_wp2_with fail
       refine (sentG wb _ sl V (HSA.o wb (PB.o.trans (BB.o.mono PB.o.size)))).mono ?_
       rintro e wd ⟨rfl, hbd⟩
       rw [HKS.o]
       have BD := aH (BB.o.trans (hbd.mono BB.o.size))
       clear hbd
       cases ks <;> (go_wp2_with fail; go_meet; exact ⟨by rw [<- HTK.o]; rfl, BD⟩)
 case rest =>
 obtain ⟨rfl, hcc⟩ := hcut
 obtain ⟨w1, rfl⟩ : ∃ x, x = wc := ⟨_, rfl⟩
 have P1 := aH (P0.o.below' hcc.o)
 have B1 := aH (PB.o.trans (hcc.o.mono PB.o.size))
 clear hcc p0 p1 p2 P0 PB Phs e6 e4 e3 ec e6' e3'
 cases tk with
 | true =>
  go_wp2_with fail
  refine (HK.o _).mono ?_
  rintro e wK ⟨rfl, hbK⟩
  have BK := aH (B1.o.trans (hbK.mono B1.o.size))
  clear hbK
  go_wp2_with fail
  go_ret
  exact ⟨rfl, BK.o⟩
 | false =>
 have HTT := HTK.o
 simp only [Bool.or_eq_false_iff, Bool.not_eq_false'] at HTT
 obtain ⟨rfl, rfl, rfl, rfl, rfl, rfl⟩ := HTT
 have hn6 : n <= 6 := by have := of_decide_eq_false HB6.o; omega
 have hV4 : V <= 4 := by have := of_decide_eq_false HB4.o; omega
 have hp3 : p <= 3 := by have := of_decide_eq_false HB3.o; omega
 obtain rfl : ce = 0 := by have := HBC.o; simpa using this
 have hck := lA HCE.o
 obtain ⟨Ln, rfl⟩ : ∃ Ln : Nat, L = Ln := ⟨L.toNat, by omega⟩
 obtain ⟨Vn, rfl⟩ : ∃ Vn : Nat, V = Vn := ⟨V.toNat, by omega⟩
 have hVn : Vn <= 4 := by omega
 have HCK := HCE
 have HRS : Hd (∀ w', Below w.heap.size w w' -> RulesAt 64 w' (.slice A n c) rs) := aH (HRA.o HFB.o)
 have HRO : Hd (RulesOk Ln rs) := aH (fun r hr => by
  have := hck.2.2.2.2.2.1 r hr
  exact ⟨this.1, this.2.1, this.2.2.1, this.2.2.2.1, this.2.2.2.2.1, this.2.2.2.2.2.2.2⟩)
 have HQ6 : Hd (∀ r ∈ rs, QB 64 r.q) := aH ((HRS.o w1 B1.o).qb (by omega))
 obtain ⟨xq, hxq⟩ : ∃ q, sayW Ln rs sl = q := ⟨_, rfl⟩
 have HALL : Hd (bX ((allL n (p + 1)).map (shareL rs sl)) = xq) := aH (by
  rw [<- hxq, <- HN.o, <- HP.o]
  exact all_lists (by simp) (by omega) HRO.o (fun x hx => (inR_iff.1 HKS.o x hx).1))
 have HSHORT : Hd (shortQ Ln Vn rs <= 1) := aH (short_le (L := Ln) (by simp) (by omega) HRO.o (by have := hck.2.2.2.2.2.2; rwa [Int.toNat_natCast] at this) Vn)
 have HXQ := aH hxq
 obtain ⟨i0, gi, gz0, gz1, gz2⟩ := info_parts eD
 obtain ⟨i1, ki, kz0, kz1, kz2⟩ := info_parts sR
 have GI := aH gi
 have KI := aH ki
 have GZ := aH (aI gz0 (aI gz1 gz2))
 have KZ := aH (aI kz0 (aI kz1 kz2))
 clear gi gz0 gz1 gz2 ki kz0 kz1 kz2 hck hxq HTK HFW HRA HBC HB6 HB4 HB3
 obtain ⟨p0, p1, p2, _, _, _⟩ := P1.o.three
 go_wp2_with fail
 refine (saysW w1 Ln Vn _ _ rs sl (HRS.o w1 B1.o) (HSA.o w1 B1.o) (by rw [HN.o]; omega) (by rw [HP.o]; omega) HCK.o HKS.o).mono ?_
 rw [HXQ.o]
 rintro e w2 ⟨u, rfl, hu, hb⟩
 obtain ⟨Ax, mx, cx, Ax', mx', cx', rfl⟩ := hu.open_
 have TU := aH hu
 have B2 := aH (B1.o.trans (hb.mono B1.o.size))
 have P2 := aH (P1.o.below' hb)
 clear hu hb p0 p1 p2 P1 B1
 go_upto_region 4 with fail
 obtain ⟨W3, hW3, X0, XB, Xhs⟩ := aA w2 40 [.bool (ae xq), .slice Ax mx cx, .slice Ax' mx' cx']
 rw [<- hW3]
 clear hW3
 have XP : Hd (BoxC W3 w2.heap.size xq) := aH (BoxC.of X0.o (TU.o.below XB.o))
 have P3 := aH (P2.o.below' XB.o)
 have B3 := aH (B2.o.trans (XB.o.mono B2.o.size))
 obtain ⟨bx, hbx⟩ : ∃ b, w2.heap.size = b := ⟨_, rfl⟩
 rw [hbx] at XP ⊢
 clear P2 B2 TU X0 XB Xhs hbx
 go_wp2_with fail
 obtain ⟨W4, hW4, R0, RB, Rhs⟩ := aA W3 44 [.slice none 0 0]
 rw [<- hW4]
 clear hW4
 have LS : Hd (ListsNew W3.heap.size W4 (.slice (some ⟨W3.heap.size, 0, none⟩) 1 1) (allL n 0)) := aH (by
  refine ⟨[.slice none 0 0], R0.o.sl (sz := 1) (n := 1) (c := 1) (by simp) (by omega) (by unfold maxLen; omega), fun ad n c e => by cases e; exact nR _, fun i l hl => ?_⟩
  cases i with
  | succ i => simp [allL] at hl
  | zero =>
   simp [allL] at hl
   subst hl
   exact ⟨_, rfl, IntsAt.nil_ _, fun ad n c e => by cases e⟩)
 have BL := RB
 clear R0 RB Rhs
 go_loopg [7, 8, 9, 10, 11] (p + 1) (fun gh s7 s8 _ _ _ wz => ∃ (k : Nat) (va : Value), s7 = va /\ s8 = .int .i64 k /\ k + gh = p + 1 /\ Hd (ListsNew W3.heap.size wz va (allL n k)) /\ Hd (Below W3.heap.size W3 wz))
 case atStart => exact ⟨0, _, rfl, rfl, by omega, LS, BL⟩
 clear LS BL
 obtain ⟨k, va, rfl, rfl, hk, LS, BL⟩ := hrel
 obtain ⟨Wm, rfl⟩ : ∃ x, x = wr := ⟨_, rfl⟩
 rcases zP gk with hh | hh
 ·subst hh
  obtain rfl : k = p + 1 := by omega
  have t4 : decide (((p + 1 : Nat) : Int) <= (p : Int)) = false := dF (by omega)
  have t5 : decide ((p : Int) + 1 <= (p : Int)) = false := dF (by omega)
  go_upto_region 18 with fail
  obtain ⟨W5, hW5, S0, SB, Shs⟩ := aA Wm 40 [.bool false, .slice none 0 0, .slice none 0 0]
  rw [<- hW5]
  clear hW5
  obtain ⟨bs, hbs⟩ : ∃ b, Wm.heap.size = b := ⟨_, rfl⟩
  rw [hbs]
  have BS : Hd (BoxC W5 bs (bX (((allL n (p + 1)).take 0).map (shareL rs sl)))) := aH (by rw [<- hbs]; exact BoxC.of (q := 0) S0.o (uX W5))
  have BW := SB
  have BM := aH (B3.o.trans (BL.o.mono B3.o.size))
  have PM := aH (P3.o.below' BL.o)
  have XM := aH (XP.o.below BL.o)
  have hlen4 : ∀ l ∈ allL n (p + 1), l.length <= 4 := fun l hl => by rw [allL_length l hl]; omega
  have HL4 := aH hlen4
  obtain ⟨Aa, ca', rfl, hac, hacm, _⟩ := LS.o.at_.open_
  have LSV : Hd (∀ w', Below Wm.heap.size Wm w' -> ∀ j l, (allL n (p + 1))[j]? = some l -> ∃ b off c0, Aa = some ⟨b, off, none⟩ /\ b < w'.heap.size /\ w'.cell? ⟨b, off + j, none⟩ = some c0 /\ IntsAt w' c0 l) := aH (fun w' hb j l hl => by
   obtain ⟨_, _, e, _, _, h6⟩ := (LS.o.same (Same.of_below hb)).at_.open_
   injection e with e1
   rw [e1]
   exact h6 j l hl)
  obtain ⟨M, hM⟩ : ∃ x, (allL n (p + 1)).length = x := ⟨_, rfl⟩
  have hM1 : M <= 1296 := by rw [<- hM]; exact allL_len4 hn6 (by omega)
  rw [hM] at hac ⊢
  have HM := aH hM
  have swm : w.heap.size < Wm.heap.size := PM.o.lt
  clear hM LS hlen4 S0 Shs t4 t5
  go_wp2_with fail
  go_loopg [13, 14, 15, 16] M (fun gh s13 _ _ _ wz => ∃ (i : Nat), s13 = .int .i64 i /\ i + gh = M /\ Hd (BoxC wz bs (bX (((allL n (p + 1)).take i).map (shareL rs sl)))) /\ Hd (Below Wm.heap.size Wm wz))
  case atStart => exact ⟨0, rfl, by omega, BS, BW⟩
  obtain ⟨w5, rfl⟩ : ∃ x, x = wr := ⟨_, rfl⟩
  clear BS BW SB
  obtain ⟨i, rfl, hi, BS, BW⟩ := hrel
  have P5 := aH (PM.o.below' BW.o)
  obtain ⟨p0, p1, p2, _, _, _⟩ := P5.o.three
  rcases zP gk with hh1 | hh1
  ·subst hh1
   obtain rfl : i = M := by omega
   have HSUM : Hd (bX (((allL n (p + 1)).take i).map (shareL rs sl)) = xq) := aH (by
    rw [tL (by rw [HM.o]; exact nR _)]
    exact HALL.o)
   rw [HSUM.o] at BS
   have X5 := aH (XM.o.below BW.o)
   obtain ⟨Ar, mr, cr, Ar', mr', cr', r0, r1, r2, _, _, _, tr⟩ := BS.o.get
   obtain ⟨Ax, mx, cx, Ax', mx', cx', x0, x1, x2, _, _, _, tx⟩ := X5.o.get
   have TR := aH tr
   have TX := aH tx
   clear tr tx
   go_wp2_with fail
   refine (gW w5 _ _ xq xq TR.o TX.o).mono ?_
   rintro e w6a ⟨rfl, hb⟩
   rw [show decide (xq = xq) = true from dT rfl]
   have B6a := aH ((BM.o.trans (BW.o.mono BM.o.size)).trans (hb.mono (BM.o.trans (BW.o.mono BM.o.size)).size))
   have P6a := aH (P5.o.below' hb)
   clear hb p0 p1 p2 r0 r1 r2 x0 x1 x2 TR TX X5 BS BW P5
   obtain ⟨p0, p1, p2, _, _, _⟩ := P6a.o.three
   obtain ⟨q0, hq0⟩ : ∃ q, sayW Ln rs [] = q := ⟨_, rfl⟩
   have HQ0 := aH hq0
   clear hq0
   go_wp2_with fail
   refine (saysW w6a Ln Vn _ _ rs [] (HRS.o w6a B6a.o) (IntsAt.nil_ _) (by rw [HN.o]; omega) (by simp) HCK.o rfl).mono ?_
   rw [HQ0.o]
   rintro e w6 ⟨u, rfl, hu, hb⟩
   obtain ⟨Ax, mx, cx, Ax', mx', cx', rfl⟩ := hu.open_
   have TU := aH hu
   have B6 := aH (B6a.o.trans (hb.mono B6a.o.size))
   have P6 := aH (P6a.o.below' hb)
   clear hu hb p0 p1 p2 P6a B6a
   go_upto_region 27 with fail
   obtain ⟨W7, hW7, Z0, ZB, Zhs⟩ := aA w6 40 [.bool (ae q0), .slice Ax mx cx, .slice Ax' mx' cx']
   rw [<- hW7]
   clear hW7
   obtain ⟨bz, hbz0⟩ : ∃ b, w6.heap.size = b := ⟨_, rfl⟩
   have BZ7 : Hd (BoxC W7 bz (shortN Ln Vn rs 0)) := aH (by
    rw [<- hbz0]
    show BoxC W7 _ (sayW Ln rs [] + 0)
    rw [Rat.add_zero, HQ0.o]
    exact BoxC.of Z0.o (TU.o.below ZB.o))
   have BW7 := ZB
   have P7 := aH (P6.o.below' ZB.o)
   obtain ⟨p0, p1, p2, _, _, _⟩ := P7.o.three
   clear TU Z0 Zhs
   rw [hbz0]
   go_wp2_with fail
   clear p0 p1 p2 P7 ZB
   go_loopg [19, 20, 21, 22, 23, 24] Vn (fun gh s19 _ _ _ _ _ wz => ∃ (i : Nat), s19 = .int .i64 ((i : Int) + 1) /\ i + gh = Vn /\ Hd (BoxC wz bz (shortN Ln Vn rs i)) /\ Hd (Below w6.heap.size w6 wz))
   case atStart => exact ⟨0, by simp, by omega, BZ7, BW7⟩
   obtain ⟨w8, rfl⟩ : ∃ x, x = wr := ⟨_, rfl⟩
   clear BZ7 BW7
   obtain ⟨i, rfl, hi, BZ, BW⟩ := hrel
   have P8 := aH (P6.o.below' BW.o)
   obtain ⟨p0, p1, p2, _, _, _⟩ := P8.o.three
   rcases zP gk with hh2 | hh2
   ·subst hh2
    obtain rfl : i = Vn := by omega
    have t6 : decide (((i : Nat) : Int) + 1 <= (i : Int)) = false := dF (by omega)
    have QR : Hd (QB 500000 (shortN Ln i rs i)) := aH (shortN_qb HQ6.o (by rw [HN.o]; omega) (by omega) (by omega))
    have hle := sgn_le HSHORT.o
    rw [<- shortN_all] at hle
    obtain ⟨R, hR⟩ : ∃ r, shortN Ln i rs i = r := ⟨_, rfl⟩
    rw [hR] at BZ QR hle
    obtain ⟨sg, hsg⟩ : ∃ z, aU (R - 1) = z := ⟨_, rfl⟩
    rw [hsg] at hle
    have HSG : Hd (aU (R - ((1 : Nat) : Rat)) = sg) := aH hsg
    have d1 : decide (sg <= 0) = true := dT hle
    obtain ⟨Ar, mr, cr, Ar', mr', cr', r0, r1, r2, _, _, _, tr⟩ := BZ.o.get
    have TR := aH (tr.frac (k := 1000000) (QR.o.mono (by omega)) (by omega))
    have BB := aH (Below.refl w8.heap.size w8)
    have sX : bz < w8.heap.size := BZ.o.lt
    have HSET : Hd (∀ w', Below w8.heap.size w8 w' -> (fun w' => w'.cell? ⟨bz, 0, none⟩ = some (.bool (ae R)) /\ w'.cell? ⟨bz, 1, none⟩ = some (.slice Ar mr cr) /\ w'.cell? ⟨bz, 2, none⟩ = some (.slice Ar' mr' cr')) w') := aH (fun w' hb => ⟨(hb.cell (p := ⟨bz, 0, none⟩) sX).trans r0, (hb.cell (p := ⟨bz, 1, none⟩) sX).trans r1, (hb.cell (p := ⟨bz, 2, none⟩) sX).trans r2⟩)
    have hS := HSET.o w8 BB.o
    have B8 := aH (B6.o.trans (BW.o.mono B6.o.size))
    clear hR hsg tr QR
    go_wp2_with fail
    go_region_held3 (fun w' => w'.cell? ⟨bz, 0, none⟩ = some (.bool (ae R)) /\ w'.cell? ⟨bz, 1, none⟩ = some (.slice Ar mr cr) /\ w'.cell? ⟨bz, 2, none⟩ = some (.slice Ar' mr' cr'))
     (first | assumption | exact hS | go_keep)
     (first
      | (go_at_call 33; refine (ofR _ 1 (by omega)).mono ?_; rintro e wl ⟨u1, rfl, t, hb⟩; have hb0 := hb; (first | replace hb := below_new_drew hb | replace hb := below_new hb | replace hb := bO hb | skip); (try (first | replace AB := aH (AB.o.below' hb) | replace AB := aH (AB.o.below hb))); (first | have AB := aH ((BoxC.zero _).below hb0) | have AB := aH ((BoxC.zero _).below (bO hb0)) | skip); replace BB := aH (BB.o.trans (hb.mono BB.o.size)); have hs := BB.o.size; clear hb0; have T1 := aH (t.at_.frac (k := 1000000) ((bv (n := 1) (k := 64) (by omega) (by omega)).mono (by omega)) (by omega)); have hS := HSET.o _ BB.o; clear t hb)
      | (go_at_call 30; refine (vW _ _ _ R ((1 : Nat) : Rat) 1000000 ?_ ?_ (by omega) (by omega)).mono ?_; (first | exact TR.o.below BB.o | exact (TR.o.below BB.o).below (bS _)); (first | exact T1.o | exact T1.o.below (bS _) | exact T1.o.below (bA _ _) | exact T1.o.below (below_alloc_drew _ _)); rintro e wl ⟨rfl, hb⟩; rw [HSG.o]; have hb0 := hb; (first | replace hb := below_new_drew hb | replace hb := below_new hb | replace hb := bO hb | skip); (try (first | replace AB := aH (AB.o.below' hb) | replace AB := aH (AB.o.below hb))); (first | have AB := aH ((BoxC.zero _).below hb0) | have AB := aH ((BoxC.zero _).below (bO hb0)) | skip); replace BB := aH (BB.o.trans (hb.mono BB.o.size)); have hs := BB.o.size; clear hb0; have hS := HSET.o _ BB.o; clear hb)
      | (go_at_call 18; refine (HK.o _).mono ?_; rintro e wl ⟨rfl, hb⟩; have hb0 := hb; (first | replace hb := below_new_drew hb | replace hb := below_new hb | replace hb := bO hb | skip); (try (first | replace AB := aH (AB.o.below' hb) | replace AB := aH (AB.o.below hb))); (first | have AB := aH ((BoxC.zero _).below hb0) | have AB := aH ((BoxC.zero _).below (bO hb0)) | skip); replace BB := aH (BB.o.trans (hb.mono BB.o.size)); have hs := BB.o.size; clear hb0; have hS := HSET.o _ BB.o; clear hb))
    all_goals
     go_wp2_with fail
     go_ret
     exact ⟨rfl, B8.o.trans (BB.o.mono B8.o.size)⟩
   obtain ⟨gh, rfl⟩ : ∃ g, gk = g + 1 := ⟨gk - 1, by omega⟩
   have t6 : decide ((i : Int) + 1 <= (Vn : Int)) = true := dT (by omega)
   have j8 : IntKind.i64.wrap ((i : Int) + 1 + 1) = (i : Int) + 1 + 1 := iI _ (by omega)
   go_wp2_with fail
   obtain ⟨W9, hW9, Y0, YB, Yhs⟩ := aA w8 3 [.int .i64 ((i : Int) + 1)]
   rw [<- hW9]
   clear hW9
   have B9 := aH (B6.o.trans ((BW.o.trans (YB.o.mono BW.o.size)).mono B6.o.size))
   have I9 : Hd (IntsAt W9 (.slice (some ⟨w8.heap.size, 0, none⟩) 1 1) [(i : Int) + 1]) := aH (fp (l := [(i : Int) + 1]) Y0.o (by simp))
   obtain ⟨q1, hq1⟩ : ∃ q, sayW Ln rs [(i : Int) + 1] = q := ⟨_, rfl⟩
   have QX : Hd (QB 20000 q1) := aH (by rw [<- hq1]; exact sayW_qb HQ6.o (by rw [HN.o]; omega) (by simp))
   have HQ1 := aH hq1
   clear hq1 p0 p1 p2
   refine (saysW W9 Ln Vn _ _ rs [(i : Int) + 1] (HRS.o W9 B9.o) I9.o (by rw [HN.o]; omega) (by simp) HCK.o (inR_iff.2 (fun x hx => by simp only [List.mem_cons, List.not_mem_nil, or_false] at hx; omega))).mono ?_
   rw [HQ1.o]
   rintro e w9 ⟨u, rfl, hu, hb⟩
   obtain ⟨Ax, mx, cx, Ax', mx', cx', rfl⟩ := hu.open_
   have TU := aH hu
   have BW9 := aH ((BW.o.trans (YB.o.mono BW.o.size)).trans (hb.mono (BW.o.trans (YB.o.mono BW.o.size)).size))
   have BZ9 := aH ((BZ.o.below YB.o).below hb)
   clear hu hb Y0 YB Yhs I9 B9
   go_upto_region 31 with fail
   obtain ⟨W10, hW10, X0, XB, Xhs⟩ := aA w9 40 [.bool (ae q1), .slice Ax mx cx, .slice Ax' mx' cx']
   rw [<- hW10]
   clear hW10
   have XPi : Hd (BoxC W10 w9.heap.size q1) := aH (BoxC.of X0.o (TU.o.below XB.o))
   have BZi := aH (BZ9.o.below XB.o)
   have BWi := aH (BW9.o.trans (XB.o.mono BW9.o.size))
   have QS : Hd (QB 500000 (shortN Ln Vn rs i)) := aH (shortN_qb HQ6.o (by rw [HN.o]; omega) (by omega) (by omega))
   have QI : Hd (QB 520001 (shortN Ln Vn rs i + sayW Ln rs [(i : Int) + 1])) := aH (by rw [HQ1.o]; exact (QS.o.add QX.o).mono (by omega))
   obtain ⟨R, hR⟩ : ∃ r, shortN Ln Vn rs i = r := ⟨_, rfl⟩
   have HS : Hd (R + q1 = shortN Ln Vn rs i + sayW Ln rs [(i : Int) + 1]) := aH (by rw [<- hR, <- HQ1.o])
   rw [hR] at BZi QS
   clear hR BZ9 BW9 TU X0 XB Xhs BZ BW
   obtain ⟨Ar, mr, cr, Ar', mr', cr', r0, r1, r2, _, _, _, tr⟩ := BZi.o.get
   obtain ⟨Ax, mx, cx, Ax', mx', cx', x0, x1, x2, _, _, _, tx⟩ := XPi.o.get
   have TR := aH (tr.frac (k := 1000000) (QS.o.mono (by omega)) (by omega))
   have TX := aH (tx.frac (k := 1000000) (QX.o.mono (by omega)) (by omega))
   clear tr tx
   go_wp2_with fail
   refine (nO W10 _ _ R q1 1000000 TR.o TX.o (by omega) (by omega)).mono ?_
   rintro e wzi ⟨u, rfl, tz, hbz⟩
   rw [HS.o] at tz
   obtain ⟨Az, mz, cz, Az', mz', cz', rfl⟩ := tz.at_.open_
   have TZ := aH tz.at_
   have BZi2 := aH (BZi.o.below hbz)
   have BWi2 := aH (BWi.o.trans (hbz.mono BWi.o.size))
   clear tz hbz r0 r1 r2 x0 x1 x2 TR TX BZi XPi BWi
   obtain ⟨_, _, _, _, _, _, u0, u1, u2, y0, y1, y2, _⟩ := BZi2.o.get
   go_wp2_with fail
   have BZj : Hd (BoxC (((wzi.setCell ⟨bz, 0, none⟩ (.bool (ae (shortN Ln Vn rs i + sayW Ln rs [(i : Int) + 1])))).setCell ⟨bz, 1, none⟩ (.slice Az mz cz)).setCell ⟨bz, 2, none⟩ (.slice Az' mz' cz')) bz (shortN Ln Vn rs i + sayW Ln rs [(i : Int) + 1] + aQ (fun u => sayW Ln rs [(i : Int) + 1, (u : Int) + 1]) 0)) := aH (by
    show BoxC _ bz (_ + 0)
    rw [Rat.add_zero]
    exact BZi2.o.put rfl TZ.o)
   have BWj := aH (aL BWi2.o (Nat.le_of_eq hbz0) 0 1 2 (.bool (ae (shortN Ln Vn rs i + sayW Ln rs [(i : Int) + 1]))) (.slice Az mz cz) (.slice Az' mz' cz'))
   clear u0 u1 u2 y0 y1 y2 BZi2 BWi2
   go_loopg [22, 23, 24] Vn (fun gz s22 _ _ wz => ∃ (j : Nat), s22 = .int .i64 ((j : Int) + 1) /\ j + gz = Vn /\ Hd (BoxC wz bz (shortN Ln Vn rs i + sayW Ln rs [(i : Int) + 1] + aQ (fun u => sayW Ln rs [(i : Int) + 1, (u : Int) + 1]) j)) /\ Hd (Below w6.heap.size w6 wz))
   case atStart => exact ⟨0, by simp, by omega, BZj, BWj⟩
   obtain ⟨w10, rfl⟩ : ∃ x, x = wr := ⟨_, rfl⟩
   clear BZj BWj
   obtain ⟨j, rfl, hj, BZ, BW⟩ := hrel
   have P10 := aH (P6.o.below' BW.o)
   obtain ⟨p0, p1, p2, _, _, _⟩ := P10.o.three
   rcases zP gk with hh3 | hh3
   ·subst hh3
    obtain rfl : j = Vn := by omega
    have t7 : decide ((j : Int) + 1 <= (j : Int)) = false := dF (by omega)
    go_wp2_with fail
    go_roundg gh
    case measure => omega
    case rel => exact ⟨i + 1, by simp, by omega, aH (by rw [shortN_succ]; exact BZ.o), BW⟩
   obtain ⟨gz, rfl⟩ : ∃ g, gk = g + 1 := ⟨gk - 1, by omega⟩
   have t7 : decide ((j : Int) + 1 <= (Vn : Int)) = true := dT (by omega)
   have j9 : IntKind.i64.wrap ((j : Int) + 1 + 1) = (j : Int) + 1 + 1 := iI _ (by omega)
   go_wp2_with fail
   obtain ⟨W11, hW11, Y0, YB, Yhs⟩ := aA w10 3 [.int .i64 ((i : Int) + 1), .int .i64 ((j : Int) + 1)]
   rw [<- hW11]
   clear hW11
   have B11 := aH (B6.o.trans ((BW.o.trans (YB.o.mono BW.o.size)).mono B6.o.size))
   have I11 : Hd (IntsAt W11 (.slice (some ⟨w10.heap.size, 0, none⟩) 2 2) [(i : Int) + 1, (j : Int) + 1]) := aH (fp (l := [(i : Int) + 1, (j : Int) + 1]) Y0.o (by simp))
   obtain ⟨q2, hq2⟩ : ∃ q, sayW Ln rs [(i : Int) + 1, (j : Int) + 1] = q := ⟨_, rfl⟩
   have QX : Hd (QB 20000 q2) := aH (by rw [<- hq2]; exact sayW_qb HQ6.o (by rw [HN.o]; omega) (by simp))
   have HQ2 := aH hq2
   clear hq2 p0 p1 p2
   refine (saysW W11 Ln Vn _ _ rs [(i : Int) + 1, (j : Int) + 1] (HRS.o W11 B11.o) I11.o (by rw [HN.o]; omega) (by simp) HCK.o (inR_iff.2 (fun x hx => by simp only [List.mem_cons, List.not_mem_nil, or_false] at hx; omega))).mono ?_
   rw [HQ2.o]
   rintro e w12 ⟨u, rfl, hu, hb⟩
   obtain ⟨Ax, mx, cx, Ax', mx', cx', rfl⟩ := hu.open_
   have TU := aH hu
   have B12 := aH ((BW.o.trans (YB.o.mono BW.o.size)).trans (hb.mono (BW.o.trans (YB.o.mono BW.o.size)).size))
   have BZ12 := aH ((BZ.o.below YB.o).below hb)
   clear hu hb Y0 YB Yhs I11 B11
   go_upto_region 36 with fail
   obtain ⟨W13, hW13, X0, XB, Xhs⟩ := aA w12 40 [.bool (ae q2), .slice Ax mx cx, .slice Ax' mx' cx']
   rw [<- hW13]
   clear hW13
   have XP1 : Hd (BoxC W13 w12.heap.size q2) := aH (BoxC.of X0.o (TU.o.below XB.o))
   have BZ1 := aH (BZ12.o.below XB.o)
   have BW1 := aH (B12.o.trans (XB.o.mono B12.o.size))
   have QS : Hd (QB 700000 (shortN Ln Vn rs i + sayW Ln rs [(i : Int) + 1] + aQ (fun u => sayW Ln rs [(i : Int) + 1, (u : Int) + 1]) j)) := aH (((QI.o.add (inner_qb HQ6.o (by rw [HN.o]; omega) _ (by omega)))).mono (by omega))
   obtain ⟨R, hR⟩ : ∃ r, shortN Ln Vn rs i + sayW Ln rs [(i : Int) + 1] + aQ (fun u => sayW Ln rs [(i : Int) + 1, (u : Int) + 1]) j = r := ⟨_, rfl⟩
   have HS : Hd (R + q2 = shortN Ln Vn rs i + sayW Ln rs [(i : Int) + 1] + aQ (fun u => sayW Ln rs [(i : Int) + 1, (u : Int) + 1]) (j + 1)) := aH (by rw [<- hR, <- HQ2.o, Rat.add_assoc]; rfl)
   rw [hR] at BZ1 QS
   clear hR BZ12 B12 TU X0 XB Xhs BZ BW
   obtain ⟨Ar, mr, cr, Ar', mr', cr', r0, r1, r2, _, _, _, tr⟩ := BZ1.o.get
   obtain ⟨Ax, mx, cx, Ax', mx', cx', x0, x1, x2, _, _, _, tx⟩ := XP1.o.get
   have TR := aH (tr.frac (k := 1000000) (QS.o.mono (by omega)) (by omega))
   have TX := aH (tx.frac (k := 1000000) (QX.o.mono (by omega)) (by omega))
   clear tr tx
   go_wp2_with fail
   refine (nO W13 _ _ R q2 1000000 TR.o TX.o (by omega) (by omega)).mono ?_
   rintro e wz1 ⟨u, rfl, tz, hbz⟩
   rw [HS.o] at tz
   obtain ⟨Az, mz, cz, Az', mz', cz', rfl⟩ := tz.at_.open_
   have TZ := aH tz.at_
   have BZ12 := aH (BZ1.o.below hbz)
   have BW12 := aH (BW1.o.trans (hbz.mono BW1.o.size))
   clear tz hbz r0 r1 r2 x0 x1 x2 TR TX BZ1 XP1 BW1
   obtain ⟨_, _, _, _, _, _, u0, u1, u2, y0, y1, y2, _⟩ := BZ12.o.get
   go_wp2_with fail
   go_roundg gz
   case measure => omega
   case rel => exact ⟨j + 1, by simp, by omega, aH (BZ12.o.put rfl TZ.o), aH (aL BW12.o (Nat.le_of_eq hbz0) _ _ _ _ _ _)⟩
  obtain ⟨gh, rfl⟩ : ∃ g, gk = g + 1 := ⟨gk - 1, by omega⟩
  obtain ⟨l, hl⟩ : ∃ x, (allL n (p + 1))[i]? = some x := ⟨_, eG (by rw [HM.o]; omega)⟩
  have HLI := aH hl
  have hll := HL4.o l (mG hl)
  obtain ⟨ba, oa, c0, rfl, hba, ca, hci⟩ := LSV.o w5 BW.o i l hl
  obtain ⟨nl, hnl⟩ : ∃ x, l.length = x := ⟨_, rfl⟩
  obtain ⟨As, cs, rfl, hsc', hscm', _⟩ := hci.open_
  rw [hnl] at hci ca hsc' hll
  have HCI := aH hci
  have HNL := aH hnl
  have i4 : (0 : Int) <= (i : Int) := by omega
  have i5 : (i : Int) < (M : Int) := by omega
  have i6 : IntKind.i64.wrap ((i : Int) + 1) = (i : Int) + 1 := iI _ (by omega)
  have sP : w.heap.size < w5.heap.size := P5.o.lt
  have sA : ba < w5.heap.size := hba
  have B5D := aH (BM.o.trans (BW.o.mono BM.o.size))
  have QD : Hd (QB 1000 (derA Ln Vn rs l).2) := aH (derA_qb HQ6.o (by rw [HNL.o]; omega))
  have HSD := aH (share_der HCK.o sl l)
  obtain ⟨E, hE⟩ : ∃ z, derE (Ln : Int) Vn rs l = z := ⟨_, rfl⟩
  obtain ⟨da, hda⟩ : ∃ z, derA (Ln : Int) Vn rs l = z := ⟨_, rfl⟩
  obtain ⟨ws, dq⟩ := da
  rw [hda] at QD
  rw [hE, hda] at HSD
  have HE := aH hE
  have HDA := aH hda
  clear hl hci hnl hE hda
  go_upto_region 21 with fail
  go_cut [14, 15, 16] (fun s14 s15 s16 wc => ∃ sv bq, sv = s14 /\ s15 = .pointer (some ⟨bq, 0, none⟩) /\ s16 = .int .i64 E /\ Hd (w5.heap.size <= bq) /\ Hd (IntsAt wc sv ws) /\ Hd (BoxC wc bq dq) /\ Hd (Below w5.heap.size w5 wc))
  case first =>
   have HSET : Hd (∀ w', Below w5.heap.size w5 w' -> (fun w' => w'.cell? ⟨w.heap.size, 0, none⟩ = some (.int .i64 (Ln : Int)) /\ w'.cell? ⟨w.heap.size, 1, none⟩ = some (.int .i64 (Vn : Int)) /\ w'.cell? ⟨w.heap.size, 2, none⟩ = some (.slice A n c) /\ w'.cell? ⟨ba, oa + i, none⟩ = some (.slice As nl cs)) w') := aH (fun w' hb => ⟨(hb.cell (p := ⟨w.heap.size, 0, none⟩) sP).trans p0, (hb.cell (p := ⟨w.heap.size, 1, none⟩) sP).trans p1, (hb.cell (p := ⟨w.heap.size, 2, none⟩) sP).trans p2, (hb.cell (p := ⟨ba, oa + i, none⟩) sA).trans ca⟩)
   have BB := aH (Below.refl w5.heap.size w5)
   have hS := HSET.o w5 BB.o
   go_region_held3 (fun w' => w'.cell? ⟨w.heap.size, 0, none⟩ = some (.int .i64 (Ln : Int)) /\ w'.cell? ⟨w.heap.size, 1, none⟩ = some (.int .i64 (Vn : Int)) /\ w'.cell? ⟨w.heap.size, 2, none⟩ = some (.slice A n c) /\ w'.cell? ⟨ba, oa + i, none⟩ = some (.slice As nl cs))
    (first | assumption | exact hS | exact ⟨au hS.1 _, au hS.2.1 _, au hS.2.2.1 _, au hS.2.2.2 _⟩ | exact ⟨aj hS.1 (by omega) _ _ _ _ _ _, aj hS.2.1 (by omega) _ _ _ _ _ _, aj hS.2.2.1 (by omega) _ _ _ _ _ _, aj hS.2.2.2 (by omega) _ _ _ _ _ _⟩ | go_keep)
    (first
     | (go_at_call 50; refine (deriveG _ Ln Vn _ _ rs l ?_ ?_ (by rw [HNL.o]; omega)).mono ?_; (first | exact HRS.o _ (B5D.o.trans ((BB.o.trans (bS _)).mono B5D.o.size)) | exact HRS.o _ (B5D.o.trans ((below_alloc_drew w5 _).mono B5D.o.size)) | exact HRS.o _ (B5D.o.trans ((bA w5 _).mono B5D.o.size)) | exact HRS.o _ (B5D.o.trans (((bS w5).trans (bA w5.drew _)).mono B5D.o.size))); (first | exact HCI.o.below (bS _) | exact HCI.o.below (below_alloc_drew w5 _) | exact HCI.o.below (bA w5 _) | exact HCI.o.below ((bS w5).trans (bA w5.drew _))); rw [HE.o, HDA.o]; rintro e wl ⟨sv, u, rfl, hI, hF, t, hb⟩; have hb0 := hb; (first | replace hb := below_new_drew hb | replace hb := below_new hb | replace hb := bO hb | skip); (try (first | replace AB := aH (AB.o.below' hb) | replace AB := aH (AB.o.below hb))); (first | have AB := aH ((BoxC.zero _).below hb0) | have AB := aH ((BoxC.zero _).below (bO hb0)) | skip); replace BB := aH (BB.o.trans (hb.mono BB.o.size)); have hs := BB.o.size; clear hb0; obtain ⟨Ax, mx, cx, Ax', mx', cx', rfl⟩ := t.open_; have T4 := aH t; have I4 := aH hI; have F4 := aH hF; (try (obtain ⟨_, _, _, _, _, _, ab0, ab1, ab2, az0, az1, az2, _⟩ := AB.o.get)); have hS := HSET.o _ BB.o; clear t hb hI hF))
   all_goals
    go_wp2_with fail
    go_meet
    first
     | exact ⟨_, _, rfl, rfl, rfl, aH (by omega), aH (I4.o.below (bA _ _)), aH (BoxC.new T4.o), aH (BB.o.alloc BB.o.size _)⟩
     | exact ⟨_, _, rfl, rfl, rfl, aH (by omega), aH (I4.o.same F4.o (Same.set3 _ (by simp [World.drew]) 0 1 2 _ _ _)), aH (AB.o.put rfl T4.o), aH (aL BB.o (by omega) _ _ _ _ _ _)⟩
  obtain ⟨s14, bq, rfl, rfl, rfl, hbq, IW, BQ, BC⟩ := hcut
  obtain ⟨w6, rfl⟩ : ∃ x, x = wc := ⟨_, rfl⟩
  have hbq1 := hbq.o
  have BS6 := aH (BS.o.below BC.o)
  have BW6 := aH (BW.o.trans (BC.o.mono BW.o.size))
  have sB5 : bs < w5.heap.size := BS.o.lt
  obtain ⟨be, hbe⟩ : ∃ b, (E == 0) = b := ⟨_, rfl⟩
  obtain ⟨sw, hsw⟩ : ∃ b, decide (ws = sl) = b := ⟨_, rfl⟩
  obtain ⟨tk, htk⟩ : ∃ b, (be && sw) = b := ⟨_, rfl⟩
  have HSH : Hd ((if tk = true then dq else 0) = shareL rs sl l) := aH (by
   have := HSD.o
   simp only at this
   rwa [hbe, hsw, htk] at this)
  have HSW := aH hsw
  have HTK := aH htk
  clear hbq BC hsw htk BS BW ca P5 p0 p1 p2
  go_upto_region 22 with fail
  go_cut [118] (fun t wc => t = .bool tk /\ Hd (Below w6.heap.size w6 wc))
  case first =>
   cases be with
   | false =>
    go_wp2_with fail
    go_meet
    exact ⟨by rw [<- HTK.o]; rfl, aH (Below.refl _ _)⟩
   | true =>
    go_wp2_with fail
    refine (oo w6 _ _ ws sl IW.o (HSA.o w6 (BM.o.trans (BW6.o.mono BM.o.size)))).mono ?_
    rintro e wb ⟨rfl, hbb⟩
    rw [HSW.o]
    have BBB := aH hbb
    clear hbb
    go_wp2_with fail
    go_meet
    exact ⟨by rw [<- HTK.o]; rfl, BBB⟩
  obtain ⟨rfl, hcc⟩ := hcut
  obtain ⟨w7, rfl⟩ : ∃ x, x = wc := ⟨_, rfl⟩
  have BZs := aH (BS6.o.below hcc.o)
  have XPs := aH (BQ.o.below hcc.o)
  have BWs := aH (BW6.o.trans (hcc.o.mono BW6.o.size))
  have HNX : Hd (bX (((allL n (p + 1)).take (i + 1)).map (shareL rs sl)) = bX (((allL n (p + 1)).take i).map (shareL rs sl)) + shareL rs sl l) := aH (by
   rw [ah _ HLI.o, List.map_append, mC, List.map_cons, List.map_nil, xF])
  have QS : Hd (QB 400000 (bX (((allL n (p + 1)).take i).map (shareL rs sl)))) := aH ((sharesum_qb HQ6.o sl (fun y hy => HL4.o y (List.mem_of_mem_take hy))).mono (by
   rw [List.length_take]
   have : min i (allL n (p + 1)).length <= 1296 := by rw [HM.o]; omega
   omega))
  have QX := QD
  have bsM : Wm.heap.size <= bs := by omega
  clear hcc BS6 BW6 BQ IW hbe
  cases tk with
  | true =>
   obtain ⟨R, hR⟩ : ∃ r, bX (((allL n (p + 1)).take i).map (shareL rs sl)) = r := ⟨_, rfl⟩
   obtain ⟨R2, hR2⟩ : ∃ r, bX (((allL n (p + 1)).take (i + 1)).map (shareL rs sl)) = r := ⟨_, rfl⟩
   have HS : Hd (R + dq = R2) := aH (by rw [<- hR2, HNX.o, <- HSH.o, if_pos rfl, hR])
   have HR2 := aH hR2
   rw [hR] at BZs QS
   clear hR hR2
   obtain ⟨Ar, mr, cr, Ar', mr', cr', r0, r1, r2, _, _, _, tr⟩ := BZs.o.get
   obtain ⟨Ax, mx, cx, Ax', mx', cx', x0, x1, x2, _, _, _, tx⟩ := XPs.o.get
   have TR := aH (tr.frac (k := 1000000) (QS.o.mono (by omega)) (by omega))
   have TX := aH (tx.frac (k := 1000000) (QX.o.mono (by omega)) (by omega))
   clear tr tx
   go_wp2_with fail
   refine (nO w7 _ _ R dq 1000000 TR.o TX.o (by omega) (by omega)).mono ?_
   rintro e wzs ⟨u, rfl, tz, hbz⟩
   rw [HS.o] at tz
   obtain ⟨Az, mz, cz, Az', mz', cz', rfl⟩ := tz.at_.open_
   have TZ := aH tz.at_
   have BZs2 := aH (BZs.o.below hbz)
   have BWs2 := aH (BWs.o.trans (hbz.mono BWs.o.size))
   clear tz hbz r0 r1 r2 x0 x1 x2 TR TX BZs XPs BWs
   obtain ⟨_, _, _, _, _, _, u0, u1, u2, y0, y1, y2, _⟩ := BZs2.o.get
   go_wp2_with fail
   go_roundg gh
   case measure => omega
   case rel => exact ⟨i + 1, rfl, by omega, aH (by rw [HR2.o]; exact BZs2.o.put rfl TZ.o), aH (aL BWs2.o bsM _ _ _ _ _ _)⟩
  | false =>
   have HS : Hd (bX (((allL n (p + 1)).take (i + 1)).map (shareL rs sl)) = bX (((allL n (p + 1)).take i).map (shareL rs sl))) := aH (by rw [HNX.o, <- HSH.o, if_neg (by decide), Rat.add_zero])
   go_wp2_with fail
   go_roundg gh
   case measure => omega
   case rel => exact ⟨i + 1, rfl, by omega, aH (by rw [HS.o]; exact BZs.o), BWs⟩
 obtain ⟨gh, rfl⟩ : ∃ g, gk = g + 1 := ⟨gk - 1, by omega⟩
 have t4 : decide ((k : Int) <= (p : Int)) = true := dT (by omega)
 have t4' : decide (k <= p) = true := dT (by omega)
 have n1 : IntKind.i64.wrap ((k : Int) + 1) = (k : Int) + 1 := iI _ (by omega)
 obtain ⟨Aa, ca', rfl, hac, hacm, _⟩ := LS.o.at_.open_
 have LSV : Hd (∀ w', Below Wm.heap.size Wm w' -> ∀ j l, (allL n k)[j]? = some l -> ∃ b off c0, Aa = some ⟨b, off, none⟩ /\ b < w'.heap.size /\ w'.cell? ⟨b, off + j, none⟩ = some c0 /\ IntsAt w' c0 l) := aH (fun w' hb j l hl => by
  obtain ⟨_, _, e, _, _, h6⟩ := (LS.o.same (Same.of_below hb)).at_.open_
  injection e with e1
  rw [e1]
  exact h6 j l hl)
 obtain ⟨M, hM⟩ : ∃ x, (allL n k).length = x := ⟨_, rfl⟩
 have hM1 : M <= 1296 := by rw [<- hM]; exact allL_len4 hn6 (by omega)
 rw [hM] at hac ⊢
 have HM := aH hM
 have sm0 : W3.heap.size <= Wm.heap.size := BL.o.size
 have PM := aH (P3.o.below' BL.o)
 have swm : w.heap.size < Wm.heap.size := PM.o.lt
 clear hM LS
 go_wp2_with fail
 go_loopg [9, 10, 11] M (fun gq s9 s10 _ wz => ∃ (i : Nat) (vl : Value), vl = s9 /\ s10 = .int .i64 i /\ i + gq = M /\ Hd (LLOwn Wm.heap.size wz vl (((allL n k).take i).flatMap (nextA n))) /\ Hd (Below Wm.heap.size Wm wz))
 case atStart => exact ⟨0, _, rfl, rfl, by omega, aH (LLOwn.nil_ _ _), aH (Below.refl _ _)⟩
 obtain ⟨w4, rfl⟩ : ∃ x, x = wr := ⟨_, rfl⟩
 obtain ⟨i, vl, rfl, rfl, hi, LL, BW⟩ := hrel
 rcases zP gk with hh2 | hh2
 ·subst hh2
  obtain rfl : i = M := by omega
  go_wp2_with fail
  go_roundg gh
  case measure => omega
  case rel => exact ⟨k + 1, _, rfl, rfl, by omega, aH (by
   have := LL.o.new (show W3.heap.size <= Wm.heap.size by omega)
   rwa [tL (by rw [HM.o]; exact nR _), <- allL_succ] at this), aH (BL.o.trans (BW.o.mono sm0))⟩
 obtain ⟨gq, rfl⟩ : ∃ g, gk = g + 1 := ⟨gk - 1, by omega⟩
 obtain ⟨l, hl⟩ : ∃ x, (allL n k)[i]? = some x := ⟨_, eG (by rw [HM.o]; omega)⟩
 have HLI := aH hl
 have hll : l.length = k := allL_length l (mG hl)
 have HLN := aH hll
 obtain ⟨ba, oa, _, rfl, _⟩ := LSV.o w4 BW.o i l hl
 have i4 : (0 : Int) <= (i : Int) := by omega
 have i5 : (i : Int) < (M : Int) := by omega
 have i6 : IntKind.i64.wrap ((i : Int) + 1) = (i : Int) + 1 := iI _ (by omega)
 clear hl hll
 go_wp2_with fail
 go_loopg [9, 11] n (fun gz s9 s11 wz => ∃ (q : Nat) (vl : Value), vl = s9 /\ s11 = .int .i64 q /\ q + gz = n /\ Hd (LLOwn Wm.heap.size wz vl (((allL n k).take i).flatMap (nextA n) ++ (nextA n l).take q)) /\ Hd (Below Wm.heap.size Wm wz))
 case atStart => exact ⟨0, _, rfl, rfl, by omega, aH (by rw [List.take_zero, List.append_nil]; exact LL.o), BW⟩
 clear LL BW
 obtain ⟨w5, rfl⟩ : ∃ x, x = wr := ⟨_, rfl⟩
 obtain ⟨q, vl, rfl, rfl, hq, LL, BW⟩ := hrel
 have P5 := aH (PM.o.below' BW.o)
 obtain ⟨p0, p1, p2, _, _, _⟩ := P5.o.three
 rcases zP gk with hh3 | hh3
 ·subst hh3
  obtain rfl : q = n := by omega
  go_wp2_with fail
  go_roundg gq
  case measure => omega
  case rel => exact ⟨i + 1, _, rfl, rfl, by omega, aH (by
   have := LL.o
   rwa [tL (l := nextA q l) (by rw [nextA_length]; exact nR _), <- nextA_take HLI.o] at this), BW⟩
 obtain ⟨gz, rfl⟩ : ∃ g, gk = g + 1 := ⟨gk - 1, by omega⟩
 have q1 : (q : Int) < (n : Int) := by omega
 have q2 : IntKind.i64.wrap ((q : Int) + 1) = (q : Int) + 1 := iI _ (by omega)
 obtain ⟨b2, o2, c2, e2, hb2, ca, hci⟩ := LSV.o w5 BW.o i l HLI.o
 cases e2
 obtain ⟨A2, k2, rfl, _, _, _⟩ := hci.open_
 rw [HLN.o] at hci ca
 have HI9 := aH hci
 obtain ⟨cells, hown, hel⟩ := LL.o
 have HOW := aH hown
 have HEL := aH hel
 have hcl : cells.length = (((allL n k).take i).flatMap (nextA n) ++ (nextA n l).take q).length := by have := hown.1; omega
 have HCL := aH hcl
 obtain ⟨ln, hln2⟩ : ∃ x, (((allL n k).take i).flatMap (nextA n) ++ (nextA n l).take q).length = x := ⟨_, rfl⟩
 have hln3 : ln <= 10000 := by rw [<- hln2]; exact flat_bd hn6 (by omega) l i q
 rw [hln2] at HOW
 have HLN2 := aH hln2
 have swr : Wm.heap.size <= w5.heap.size := BW.o.size
 clear hci hown hel hcl hln2
 go_wp2_with (at_builtin; refine al rfl (.const (.slice none 0 0)) (.tmp 87) 44 rfl w5.heap.size 3 i0 (.int .i64 0) 1 8 Tryz.underlying44 GI.o GZ.o.1 GZ.o.2.1 GZ.o.2.2 rfl (by decide) (.slice none 0 0) 0 [] rfl (World.ownsRow_nil ..) _ k (l.map (Value.int .i64)) rfl (by have h6 := HI9.o; unfold IntsAt at h6; rwa [HLN.o] at h6) (fo l) (by unfold maxLen; omega) (by omega) (nR _) ?_)
 intro v2 wA tA1 tA2 _
 (try rw [List.nil_append] at tA1)
 (try rw [Nat.zero_add] at tA1)
 have HOA := aH tA1
 have BA : Hd (Below w5.heap.size w5 wA) := aH ((Below.refl _ _).grown tA2 (nR _) (by simp [Value.ownBlock]))
 have hsA : w5.heap.size <= wA.heap.size := BA.o.size
 clear tA1 tA2
 go_wp2_with (at_builtin; refine al rfl (.tmp 88) (.tmp 90) 44 rfl w5.heap.size 3 i0 (.int .i64 0) 1 8 Tryz.underlying44 GI.o GZ.o.1 GZ.o.2.1 GZ.o.2.2 rfl (by decide) _ _ _ rfl (bK HOA.o (Below.alloc (Below.refl _ _) (nR _) _)) _ 1 [.int .i64 (q : Int)] rfl (Sl.one _ _ _) (by simp [Value.oneCell']) (by unfold maxLen; omega) (by omega) (by simp; omega) ?_)
 intro v3 wB tB1 tB2 _
 have HOB : Hd (wB.ownsRow w5.heap.size 3 1 v3 (k + 1) ((l ++ [(q : Int)]).map (Value.int .i64))) := aH (by
  rw [List.map_append]
  exact tB1)
 have BB : Hd (Below w5.heap.size w5 wB) := aH ((BA.o.alloc hsA _).grown tB2 (by simp; omega) (ao (From.of_own HOA.o)))
 have hsB : w5.heap.size <= wB.heap.size := BB.o.size
 obtain ⟨g3, cap3, rfl⟩ := g9 tB1 (by omega)
 clear tB1 tB2
 go_wp2_with (at_builtin; refine al rfl (.tmp 83) (.tmp 92) 22 rfl Wm.heap.size 44 i1 (.slice none 0 0) 1 24 Tryz.underlying22 KI.o KZ.o.1 KZ.o.2.1 KZ.o.2.2 rfl (by decide) _ _ _ rfl (bK (bK HOW.o BB.o) (Below.alloc (Below.refl _ _) (nR _) _)) _ 1 [.slice (some ⟨g3, 0, none⟩) (k + 1) cap3] rfl (Sl.one _ _ _) (by simp [Value.oneCell']) (by unfold maxLen; omega) (by omega) (by simp; omega) ?_)
 intro v4 wC tC1 tC2 tC3
 have LLC : Hd (LLOwn Wm.heap.size wC v4 (((allL n k).take i).flatMap (nextA n) ++ (nextA n l).take (q + 1))) := aH (by
  have hfr : From (.slice (some ⟨g3, 0, none⟩) (k + 1) cap3) w5.heap.size := From.of_own HOB.o
  rw [nextA_step n l (by omega), <- List.append_assoc]
  refine LLOwn.push (w := w5) HEL.o HCL.o ((Same.of_below BB.o).trans (Same.of_below (bA _ _))) ?_ (hfr.mono (by omega)) (fun b hb => hfr.off (own_lt HOW.o hb)) ?_ tC2 (tC3.elim Or.inl (fun e => Or.inr (by rw [e]; simp)))
  ·have h6 : IntsAt wB (.slice (some ⟨g3, 0, none⟩) (k + 1) cap3) (l ++ [(q : Int)]) := by
    unfold IntsAt
    rw [List.length_append, HLN.o]
    exact Sl.of_own HOB.o
   exact h6.below (bA _ _)
  rw [HLN2.o]
  exact tC1)
 have BCC : Hd (Below Wm.heap.size Wm wC) := aH (((BW.o.trans (BB.o.mono (by omega))).alloc (by omega) _).grown tC2 (by simp; omega) (ao (From.of_own HOW.o)))
 clear tC1 tC2 tC3
 go_wp2_with fail
 go_roundg gz
 case measure => omega
 case rel => exact ⟨q + 1, _, rfl, rfl, by omega, LLC, BCC⟩
end Go.Proofs.YtjebfdfkjlkifaaGreat
