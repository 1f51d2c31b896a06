/- Lemmas. -/
import Derived.Test.YtjebfdfkjlkifaaGreatO52
set_option linter.all false
set_option maxRecDepth 1000000
set_option maxHeartbeats 32000000
namespace Go.Proofs.YtjebfdfkjlkifaaGreat
open Go.RowKit
theorem classedQ_qb {row : List Rat} {w : World} {iv : Value} {cs : List Int} {qs : List Rat} (h : ∀ q ∈ row, QB 5000000 q) (hq : FracsAt 64 w iv qs) (i : Nat) : QB 6000000 (classedQ row cs qs i) := by
 have h1 : ∀ j, QB 5000000 (row.getD j 0) := fun j => cF (i := j) (cB 5000000 (by omega)) h
 have h2 : ∀ j, QB 64 (qs.getD j 0) := fun j => cF (i := j) (cB 64 (by omega)) (hq.qb (by omega))
 unfold classedQ
 split
 ·exact (h1 0).mono (by omega)
 exact ((h1 _).mul (h2 _)).mono (by omega)

theorem gramClassedG (hsort : ma) (w : World) (O V : Int) (Al : Option Addr) (nl cl : Nat) (gs : List Gr) (k : Int) (s : Bool) (A A' : Option Addr) (m c m' c' : Nat) (mv : Value) (am : Raw) (rs : List Raw) (ov iv : Value) (cs : List Int) (rc : List Raw) (hv : Value) (hl : List Int) (hg : GramsAt w (.slice Al nl cl) gs) (ha : RawAt w (.agg #[.bool s, .slice A m c, .slice A' m' c']) am) (hm : RawsAt w mv rs) (ho : IntsAt w ov cs) (hi : RawsAt w iv rc) (hh : IntsAt w hv hl) (hO : -9223372036854775808 <= O /\ O <= 9223372036854775807) :
  Calls Tryz.prog 14 #[aG O V (.slice Al nl cl) k s A A' m c m' c' mv, .agg #[ov, iv], hv] w fun e w' => e = .returned (.bool true) /\ Below w.heap.size w w' := by
 obtain ⟨Am, cm, rfl, hmc, hcm, _⟩ := hm.open_
 obtain ⟨Ah, ch, rfl, hlc, hcm', hhat⟩ := hh.open_
 obtain ⟨Ao, co, rfl, hoc, hom, hoat⟩ := ho.open_
 obtain ⟨Ai, ci, rfl, hic, him, _⟩ := hi.open_
 have HK := aH (vQ hsort)
 obtain ⟨ml, hml⟩ : ∃ n, rs.length = n := ⟨_, rfl⟩
 obtain ⟨nh, hnh⟩ : ∃ n, hl.length = n := ⟨_, rfl⟩
 obtain ⟨no, hno⟩ : ∃ n, cs.length = n := ⟨_, rfl⟩
 obtain ⟨ni, hni⟩ : ∃ n, rc.length = n := ⟨_, rfl⟩
 obtain ⟨a, hqa⟩ : ∃ q, am.q = q := ⟨_, rfl⟩
 obtain ⟨mix, hmix⟩ : ∃ l, rs.map Raw.q = l := ⟨_, rfl⟩
 obtain ⟨qs, hqs⟩ : ∃ l, rc.map Raw.q = l := ⟨_, rfl⟩
 have HTN : Hd (∀ w', Below w.heap.size w w' -> Calls Tryz.prog 25 #[aG O V (.slice Al nl cl) k s A A' m c m' c' (.slice Am ml cm)] w' fun e w2 => e = .returned (.bool (da V gs am rs)) /\ Below w'.heap.size w' w2) := aH (fun w' hb => by
  rw [<- hml]
  exact wj w' O V (.slice Al nl cl) gs k s A A' m c m' c' _ am rs (hg.below hb) (ha.below hb) (hm.below hb))
 have HLA : Hd (da V gs am rs = true -> ∀ w', Below w.heap.size w w' -> LangAt w' (.slice Al nl cl) gs s A A' m c m' c' a (.slice Am ml cm) mix) := aH (fun ht w' hb => by
  rw [<- hml, <- hqa, <- hmix]
  exact (LangAt.of hg ha hm ht).below hb)
 have HCC : Hd (∀ w', Below w.heap.size w w' -> Calls Tryz.prog 60 #[.agg #[.slice Ao no co, .slice Ai ni ci]] w' fun e w2 => e = .returned (.bool (classesB cs rc)) /\ Below w'.heap.size w' w2) := aH (fun w' hb => by
  rw [<- hno, <- hni]
  exact classesG w' _ _ cs rc (ho.below hb) (hi.below hb))
 have HSML : Hd (classesB cs rc = true -> cs.length <= 12 /\ qs.length <= 12) := aH (fun h => by
  unfold classesB at h
  simp only [Bool.and_eq_true, decide_eq_true_eq] at h
  rw [<- hqs, List.length_map]
  exact ⟨h.1, h.2.1⟩)
 have HFC : Hd (classesB cs rc = true -> ∀ w', Below w.heap.size w w' -> FracsAt 64 w' (.slice Ai ni ci) qs) := aH (fun h w' hb => by
  unfold classesB at h
  simp only [Bool.and_eq_true, decide_eq_true_eq] at h
  rw [<- hni, <- hqs]
  exact (hi.fracs h.2.2).below hb)
 have HHC : Hd (∀ w', Below w.heap.size w w' -> IntsAt w' (.slice Ah nh ch) hl) := aH (fun w' hb => by rw [<- hnh]; exact hh.below hb)
 have HOC : Hd (∀ w', Below w.heap.size w w' -> IntsAt w' (.slice Ao no co) cs) := aH (fun w' hb => by rw [<- hno]; exact ho.below hb)
 have HOA := aH hoat
 have HHA := aH hhat
 rw [hml] at hmc ⊢
 rw [hnh] at hlc ⊢
 rw [hno] at hoc ⊢
 rw [hni] at hic ⊢
 have HNH := aH hnh
 have HNO := aH hno
 obtain ⟨tb, htb⟩ : ∃ b, da V gs am rs = b := ⟨_, rfl⟩
 obtain ⟨cb, hcb⟩ : ∃ b, classesB cs rc = b := ⟨_, rfl⟩
 obtain ⟨ce, hce⟩ : ∃ z, aJ O V gs k a mix = z := ⟨_, rfl⟩
 obtain ⟨bc, hbc⟩ : ∃ b, (ce != 0) = b := ⟨_, rfl⟩
 obtain ⟨qb, hqb⟩ : ∃ b, clsB cs qs = b := ⟨_, rfl⟩
 obtain ⟨kb, hkb⟩ : ∃ b, (cs.all fun x => decide (x <= V)) = b := ⟨_, rfl⟩
 obtain ⟨bl, hbl⟩ : ∃ b, ((nh : Int) != O - 1) = b := ⟨_, rfl⟩
 obtain ⟨tk, htk⟩ : ∃ b, (!tb || (!cb || (bc || (!qb || (!kb || bl))))) = b := ⟨_, rfl⟩
 have HTB := aH htb
 have HCB := aH hcb
 have HCE := aH hce
 have HBC := aH hbc
 have HQB := aH hqb
 have HKB := aH hkb
 have HBL := aH hbl
 have HTK := aH htk
 clear hsort hg ha hm ho hi hh hml hnh hno hni hqa hmix hqs htb hcb hce hqb hkb htk hoat hhat
 unfold aG
 go_enter Tryz.func14, Tryz.ntmps14
 go_upto_region 1 with fail
 obtain ⟨W, hW, P0, P1, PB, Phs⟩ := cP w 43 [.int .i64 O, .int .i64 V, .slice Al nl cl, .int .i64 k, .bool s, .slice A m c, .slice A' m' c', .slice Am ml cm] 94 [.slice Ao no co, .slice Ai ni ci]
 rw [<- hW]
 clear hW
 obtain ⟨p0, p1, p2, p3, p4, p5, p6, p7⟩ := an P0.o
 obtain ⟨q0, q1⟩ := two_at P1.o
 go_cut [47] (fun t wc => t = .bool tk /\ Hd (Below W.heap.size W wc))
 case first =>
  go_wp2_with fail
  refine (HTN.o W PB.o).mono ?_
  rintro e wa1 ⟨rfl, hb1⟩
  rw [HTB.o]
  have BA1 := aH hb1
  clear hb1 p0 p1 p2 p3 p4 p5 p6 p7 q0 q1
  obtain ⟨p0, p1, p2, p3, p4, p5, p6, p7⟩ := an (P0.o.below' BA1.o)
  obtain ⟨q0, q1⟩ := two_at (P1.o.below' BA1.o)
  cases tb with
  | false =>
   go_wp2_with fail
   go_meet
   exact ⟨by rw [<- HTK.o]; rfl, BA1⟩
  | true =>
   go_wp2_with fail
   refine (HCC.o wa1 (PB.o.trans (BA1.o.mono PB.o.size))).mono ?_
   rintro e wa2 ⟨rfl, hb2⟩
   rw [HCB.o]
   have BA2 := aH (BA1.o.trans (hb2.mono BA1.o.size))
   clear hb2 p0 p1 p2 p3 p4 p5 p6 p7 q0 q1
   obtain ⟨p0, p1, p2, p3, p4, p5, p6, p7⟩ := an (P0.o.below' BA2.o)
   obtain ⟨q0, q1⟩ := two_at (P1.o.below' BA2.o)
   cases cb with
   | false =>
    go_wp2_with fail
    go_meet
    exact ⟨by rw [<- HTK.o]; rfl, BA2⟩
   | true =>
    go_wp2_with fail
    refine (pV wa2 O V (.slice Al nl cl) gs k s A A' m c m' c' (.slice Am ml cm) a mix (HLA.o HTB.o wa2 (PB.o.trans (BA2.o.mono PB.o.size)))).mono ?_
    rintro e wa3 ⟨rfl, hb3⟩
    rw [HCE.o]
    have BA3 := aH (BA2.o.trans (hb3.mono BA2.o.size))
    clear hb3 p0 p1 p2 p3 p4 p5 p6 p7 q0 q1
    obtain ⟨p0, p1, p2, p3, p4, p5, p6, p7⟩ := an (P0.o.below' BA3.o)
    obtain ⟨q0, q1⟩ := two_at (P1.o.below' BA3.o)
    cases bc with
    | true =>
     go_wp2_with fail
     go_meet
     exact ⟨by rw [<- HTK.o]; rfl, BA3⟩
    | false =>
     obtain rfl : ce = 0 := by have := HBC.o; simpa using this
     have HSZ := en (eI (cI HCE.o).1).2.1
     have e9 : IntKind.i64.wrap (O - 1) = O - 1 := iI _ (by omega)
     go_wp2_with fail
     refine (checkClR wa3 _ _ cs qs (HOC.o wa3 (PB.o.trans (BA3.o.mono PB.o.size))) (HFC.o HCB.o wa3 (PB.o.trans (BA3.o.mono PB.o.size))) (HSML.o HCB.o).1 (HSML.o HCB.o).2).mono ?_
     rintro e wa4 ⟨rfl, hb4⟩
     rw [HQB.o]
     have BA4 := aH (BA3.o.trans (hb4.mono BA3.o.size))
     clear hb4 p0 p1 p2 p3 p4 p5 p6 p7 q0 q1
     obtain ⟨p0, p1, p2, p3, p4, p5, p6, p7⟩ := an (P0.o.below' BA4.o)
     obtain ⟨q0, q1⟩ := two_at (P1.o.below' BA4.o)
     cases qb with
     | false =>
      go_wp2_with fail
      go_meet
      exact ⟨by rw [<- HTK.o]; rfl, BA4⟩
     | true =>
      go_wp2_with fail
      refine (knownCR wa4 O V Al nl cl k s A A' m c m' c' Am ml cm _ Ai ni ci cs (HOC.o wa4 (PB.o.trans (BA4.o.mono PB.o.size)))).mono ?_
      rintro e wa5 ⟨rfl, hb5⟩
      rw [HKB.o]
      have BA5 := aH (BA4.o.trans (hb5.mono BA4.o.size))
      clear hb5 p0 p1 p2 p3 p4 p5 p6 p7 q0 q1
      obtain ⟨p0, p1, p2, p3, p4, p5, p6, p7⟩ := an (P0.o.below' BA5.o)
      obtain ⟨q0, q1⟩ := two_at (P1.o.below' BA5.o)
      cases kb with
      | false =>
       go_wp2_with fail
       go_meet
       exact ⟨by rw [<- HTK.o]; rfl, BA5⟩
      | true =>
       cases bl <;> (go_wp2_with fail; go_meet; exact ⟨by rw [<- HTK.o]; rfl, BA5⟩)
 case rest =>
 obtain ⟨rfl, hcc⟩ := hcut
 obtain ⟨w2, rfl⟩ : ∃ x, x = wc := ⟨_, rfl⟩
 have P2 := aH (P0.o.below' hcc.o)
 have C2 := aH (P1.o.below' hcc.o)
 have B2 := aH (PB.o.trans (hcc.o.mono PB.o.size))
 clear hcc p0 p1 p2 p3 p4 p5 p6 p7 q0 q1 P0 P1 PB Phs hbc hbl
 cases tk with
 | true =>
  go_wp2_with fail
  refine (HK.o _).mono ?_
  rintro e wK ⟨rfl, hbK⟩
  have BK := aH (B2.o.trans (hbK.mono B2.o.size))
  clear hbK
  go_wp2_with fail
  go_ret
  exact ⟨rfl, BK.o⟩
 | false =>
 have HTT := HTK.o
 simp only [Bool.or_eq_false_iff, Bool.not_eq_false'] at HTT
 obtain ⟨rfl, rfl, rfl, rfl, rfl, rfl⟩ := HTT
 obtain rfl : ce = 0 := by have := HBC.o; simpa using this
 have hnl : (nh : Int) = O - 1 := by have := HBL.o; simpa using this
 have SM := aH (rE (iZ HTB.o).1)
 have HSZ := en (eI (cI HCE.o).1).2.1
 obtain ⟨o, rfl⟩ : ∃ o : Nat, O = o := ⟨O.toNat, by omega⟩
 obtain ⟨v, rfl⟩ : ∃ v : Nat, V = v := ⟨V.toNat, by omega⟩
 have hv8 : v <= 8 := by have := SM.o.2; omega
 have HLEN : Hd (hl.length = o - 1) := aH (by rw [HNH.o]; omega)
 clear hnl
 have hno12 : no <= 12 := by have := (HSML.o HCB.o).1; rw [HNO.o] at this; exact this
 have HKV : Hd (∀ j, j < cs.length -> cs.getD j 0 <= (v : Int)) := aH (fun j hj => by
  have := List.all_eq_true.1 HKB.o cs[j] (List.getElem_mem hj)
  rw [gD, eG hj]
  exact of_decide_eq_true this)
 have HKN : Hd (inR 1 v cs = true) := aH (inR_iff.2 (fun x hx => by
  obtain ⟨j, hj, rfl⟩ := List.getElem_of_mem hx
  have h1 := HKV.o j hj
  have h2 := ((clsB_ok HQB.o).2.2 j hj).1
  rw [gD, eG hj] at h1 h2
  exact ⟨h2, h1⟩))
 have HLA2 := aH (HLA.o HTB.o)
 have HFC2 := aH (HFC.o HCB.o)
 obtain ⟨p0, p1, p2, p3, p4, p5, p6, p7⟩ := an P2.o
 obtain ⟨q0, q1⟩ := two_at C2.o
 clear HTN HCC HTK
 go_wp2_with fail
 go_loopg [7, 8, 9] v (fun g s7 _ _ wz => ∃ (z : Nat), wz = w2 /\ s7 = .int .i64 ((z : Int) + 1) /\ z + g = v /\ Hd (∀ y : Nat, 1 <= y -> y <= z -> ∃ j, j < cs.length /\ cs.getD j 0 = (y : Int)))
 case atStart => exact ⟨0, rfl, by simp, by omega, aH (fun y h1 h2 => by omega)⟩
 obtain ⟨z, rfl, rfl, hz, HAS⟩ := hrel
 rcases zP gk with hh | hh
 ·subst hh
  obtain rfl : v = z := by omega
  have t1 : decide ((v : Int) + 1 <= (v : Int)) = false := dF (by omega)
  go_wp2_with fail
  go_loopg [10] nh (fun g s10 wz => ∃ (i : Nat), s10 = .int .i64 i /\ i + g = nh /\ Hd (∀ x ∈ hl.take i, 0 <= x /\ x <= (no : Int)) /\ Hd (Below wr.heap.size wr wz))
  case atStart => exact ⟨0, rfl, by omega, aH (fun x hx => by simp at hx), aH (Below.refl _ _)⟩
  obtain ⟨w4, rfl⟩ : ∃ x, x = wr := ⟨_, rfl⟩
  obtain ⟨i, rfl, hi, HIN, BW⟩ := hrel
  have P4 := aH (P2.o.below' BW.o)
  have C4 := aH (C2.o.below' BW.o)
  have B4 := aH (B2.o.trans (BW.o.mono B2.o.size))
  clear p0 p1 p2 p3 p4 p5 p6 p7 q0 q1
  obtain ⟨p0, p1, p2, p3, p4, p5, p6, p7⟩ := an P4.o
  obtain ⟨q0, q1⟩ := two_at C4.o
  rcases zP gk with hh | hh
  ·subst hh
   obtain rfl : i = nh := by omega
   have HIR : Hd (inR 0 cs.length hl = true) := aH (by
    refine inR_iff.2 (fun x hx => ?_)
    rw [HNO.o]
    exact HIN.o x (by rw [tL (by rw [HNH.o]; exact nR _)]; exact hx))
   go_wp2_with fail
   obtain ⟨row, hrow⟩ : ∃ l, fA k o gs v a mix (hl.map (clsOf cs)) = l := ⟨_, rfl⟩
   have HROW := aH hrow
   have RA : Hd (row.length = v + 1 /\ bX row = 1 /\ ∀ q ∈ row, 0 < q) := aH (by
    rw [<- hrow]
    exact uw (bY (cI HCE.o).1 hv8) (cI HCE.o).2 _)
   have RQ : Hd (∀ q ∈ row, QB 5000000 q) := aH (by
    obtain ⟨T, rv, F, hw⟩ := rk w4 o v (.slice Al nl cl) gs k s A A' m c m' c' (.slice Am ml cm) a mix (HLA2.o w4 B4.o) HCE.o hv8
    rw [<- hrow]
    exact hw.qb _)
   have QB6 : Hd (∀ i, QB 6000000 (classedQ row cs qs i)) := aH (classedQ_qb RQ.o (HFC2.o w4 B4.o))
   obtain ⟨i0, ki, kz0, kz1, kz2⟩ := info_parts sS
   have KI := aH ki
   have KZ := aH (aI kz0 (aI kz1 kz2))
   clear hrow ki kz0 kz1 kz2 HIN
   go_loopg [11, 12, 13, 14] (no + 1) (fun g s11 s12 _ _ wz => ∃ (i : Nat) (vl : Value), vl = s11 /\ s12 = .int .i64 i /\ i + g = no + 1 /\ (i = 0 -> vl = .slice none 0 0) /\ Hd (FrOwn w4.heap.size wz vl ((List.range i).map (classedQ row cs qs))) /\ Hd (Below w4.heap.size w4 wz))
   case atStart => exact ⟨0, _, rfl, rfl, by omega, fun _ => rfl, aH (FrOwn.nil_ _ _), aH (Below.refl _ _)⟩
   obtain ⟨w5, rfl⟩ : ∃ x, x = wr := ⟨_, rfl⟩
   obtain ⟨j, vl, rfl, rfl, hj, hj0, FO, BW⟩ := hrel
   have P5 := aH (P4.o.below' BW.o)
   have C5 := aH (C4.o.below' BW.o)
   have B5 := aH (B4.o.trans (BW.o.mono B4.o.size))
   clear p0 p1 p2 p3 p4 p5 p6 p7 q0 q1
   obtain ⟨p0, p1, p2, p3, p4, p5, p6, p7⟩ := an P5.o
   obtain ⟨q0, q1⟩ := two_at C5.o
   rcases zP gk with hh | hh
   ·subst hh
    obtain rfl : j = no + 1 := by omega
    have t2 : decide (((no + 1 : Nat) : Int) <= (no : Int)) = false := dF (by omega)
    have t3 : decide ((no : Int) + 1 <= (no : Int)) = false := dF (by omega)
    have HD : Hd (iq ((List.range (no + 1)).map (classedQ row cs qs)) = true) := aH (by
     have := classed_distr RA.o.1 RA.o.2.2 RA.o.2.1 HQB.o (v := v) (fun j hj => HKV.o j hj) (fun y h1 h2 => HAS.o y h1 h2)
     rwa [HNO.o] at this)
    have FF : Hd (FracsAt 6000000 w5 vl ((List.range (no + 1)).map (classedQ row cs qs))) := aH (FO.o.cans.fracs (fun q hq => by
     obtain ⟨i, _, rfl⟩ := List.mem_map.1 hq
     exact QB6.o i) (by omega))
    go_wp2_with fail
    refine (kv w5 6000000 _ _ FF.o (by omega) (by rw [List.length_map, List.length_range]; have := (HSML.o HCB.o).1; rw [HNO.o] at this; omega)).mono ?_
    rintro e w6 ⟨rfl, hb⟩
    rw [HD.o]
    have B6 := aH (B5.o.trans (hb.mono B5.o.size))
    clear hb
    go_wp2_with fail
    refine (HK.o _).mono ?_
    rintro e wK ⟨rfl, hbK⟩
    have BK := aH (B6.o.trans (hbK.mono B6.o.size))
    clear hbK
    go_wp2_with fail
    go_ret
    exact ⟨rfl, BK.o⟩
   obtain ⟨g, rfl⟩ : ∃ g, gk = g + 1 := ⟨gk - 1, by omega⟩
   have t2 : decide ((j : Int) <= (no : Int)) = true := dT (by omega)
   have t3 : decide (j <= no) = true := dT (by omega)
   have j9 : IntKind.i64.wrap ((j : Int) + 1) = (j : Int) + 1 := iI _ (by omega)
   go_wp2_with fail
   refine (classedG w5 o v (.slice Al nl cl) gs k s A A' m c m' c' (.slice Am ml cm) a mix _ _ cs qs _ hl j (HLA2.o w5 B5.o) (HHC.o w5 B5.o) (HOC.o w5 B5.o) (HFC2.o w5 B5.o) HCE.o hv8 (HSML.o HCB.o).1 (HSML.o HCB.o).2 HQB.o HKN.o HLEN.o HIR.o (by rw [HNO.o]; omega)).mono ?_
   rw [HROW.o]
   rintro e w6 ⟨u, rfl, hu, hun, hb⟩
   obtain ⟨Ax, mx, cx, Ax', mx', cx', rfl⟩ := hu.open_
   have TU := aH hu
   have QT := aH (QB6.o j)
   have HNXT : Hd ((List.range (j + 1)).map (classedQ row cs qs) = (List.range j).map (classedQ row cs qs) ++ [classedQ row cs qs j]) := aH (by rw [List.range_succ, List.map_append]; rfl)
   have HOFF : Hd (∀ b, vl.ownBlock = some b -> Off (.slice Ax mx cx) b /\ Off (.slice Ax' mx' cx') b) := aH (fun b hb' => by
    rcases zP j with h0 | h0
    ·rw [hj0 h0] at hb'
     cases hb'
    obtain ⟨_, _, _, _, _, _, e, _, _, f1, f2⟩ := (hun h0).open_
    have e' := congrArg Value.cells e
    obtain ⟨cells, h1, _⟩ := FO.o
    have := own_lt h1 hb'
    simp only [Value.agg.injEq] at e
    have e2 := congrArg Array.toList e
    simp only [List.cons.injEq, and_true, true_and] at e2
    rw [e2.1, e2.2]
    exact ⟨f1.off this, f2.off this⟩)
   obtain ⟨cq, hcq⟩ : ∃ q, classedQ row cs qs j = q := ⟨_, rfl⟩
   rw [hcq] at TU QT HNXT ⊢
   have FO6 := aH (FO.o.below hb)
   have BW6 := aH (BW.o.trans (hb.mono BW.o.size))
   have s4 : w4.heap.size <= w5.heap.size := BW.o.size
   clear hu hun hb hcq FO BW p0 p1 p2 p3 p4 p5 p6 p7 q0 q1
   go_upto_region 23 with fail
   obtain ⟨W7, hW7, X0, XB, Xhs⟩ := aA w6 40 [.bool (ae cq), .slice Ax mx cx, .slice Ax' mx' cx']
   rw [<- hW7]
   clear hW7
   obtain ⟨x0, x1, x2, _, _, _⟩ := X0.o.three
   have TX := aH (TU.o.below XB.o)
   have FO7 := aH (FO6.o.below XB.o)
   have BW7 := aH (BW6.o.trans (XB.o.mono BW6.o.size))
   clear TU FO6 BW6 XB Xhs
   obtain ⟨cells, hown, hel⟩ := FO7.o
   have HOW := aH hown
   have HEL := aH hel
   have HCLN : Hd (cells.length = ((List.range j).map (classedQ row cs qs)).length * 3) := aH hown.1
   have HLJ : Hd (((List.range j).map (classedQ row cs qs)).length = j) := aH (by simp)
   rw [HLJ.o] at HOW
   have sw7 : w4.heap.size <= W7.heap.size := BW7.o.size
   clear hown hel
   go_wp2_with (at_builtin; refine al rfl (.tmp 115) (.tmp 117) 41 rfl w4.heap.size 40 i0 (.agg #[.bool false, .slice none 0 0, .slice none 0 0]) 3 56 Tryz.underlying41 KI.o KZ.o.1 KZ.o.2.1 KZ.o.2.2 rfl (by decide) _ _ _ rfl (bK HOW.o (Below.alloc (Below.refl _ _) (nR _) _)) _ 1 [.bool (ae cq), .slice Ax mx cx, .slice Ax' mx' cx'] rfl (Sl.three _ _ _ _ _) (by simp [Value.oneCell']) (by unfold maxLen; omega) (by omega) (by simp; omega) ?_)
   intro v3 w8 t1' t2' t3'
   have FO8 : Hd (FrOwn w4.heap.size w8 v3 ((List.range (j + 1)).map (classedQ row cs qs))) := aH (by
    rw [HNXT.o]
    refine FrOwn.push (w := W7) HEL.o HCLN.o (bA _ _) (TX.o.below (bA _ _)) HOFF.o ?_ t2' (t3'.elim Or.inl (fun e => Or.inr (by rw [e]; simp)))
    rw [HLJ.o]
    exact t1')
   have BW8 : Hd (Below w4.heap.size w4 w8) := aH ((BW7.o.alloc sw7 _).grown t2' (by simp; omega) (ao (From.of_own HOW.o)))
   clear t1' t2' t3' x0 x1 x2
   go_wp2_with fail
   go_roundg g
   case measure => omega
   case rel => exact ⟨j + 1, _, rfl, rfl, by omega, fun h => by omega, FO8, BW8⟩
  obtain ⟨g, rfl⟩ : ∃ g, gk = g + 1 := ⟨gk - 1, by omega⟩
  obtain ⟨x, hx⟩ : ∃ x, hl[i]? = some x := ⟨_, eG (by rw [HNH.o]; omega)⟩
  obtain ⟨bh, oh, rfl, hbh, e0⟩ := HHA.o i x hx
  have c9 := (B4.o.cell (p := ⟨bh, oh + i, none⟩) hbh).trans e0
  have HXI := aH hx
  have i1 : (0 : Int) <= (i : Int) := by omega
  have i2 : (i : Int) < (nh : Int) := by omega
  have i9 : IntKind.i64.wrap ((i : Int) + 1) = (i : Int) + 1 := iI _ (by omega)
  clear hx e0
  by_cases h1 : x < 0
  ·have d1 : decide (x < 0) = true := dT h1
   clear h1
   go_wp2_with fail
   go_quiet (fail)
   have B5 := aH (ak B4.o nq)
   go_wp2_with fail
   refine (HK.o _).mono ?_
   rintro e wK ⟨rfl, hbK⟩
   have BK := aH (B5.o.trans (hbK.mono B5.o.size))
   clear hbK
   go_wp2_with fail
   go_ret
   exact ⟨rfl, BK.o⟩
  have d1 : decide (x < 0) = false := dF h1
  by_cases h2 : (no : Int) < x
  ·have d2 : decide ((no : Int) < x) = true := dT h2
   clear h1 h2
   go_wp2_with fail
   go_quiet (fail)
   have B5 := aH (ak B4.o nq)
   go_wp2_with fail
   refine (HK.o _).mono ?_
   rintro e wK ⟨rfl, hbK⟩
   have BK := aH (B5.o.trans (hbK.mono B5.o.size))
   clear hbK
   go_wp2_with fail
   go_ret
   exact ⟨rfl, BK.o⟩
  have d2 : decide ((no : Int) < x) = false := dF h2
  have HIN2 : Hd (∀ y ∈ hl.take (i + 1), 0 <= y /\ y <= (no : Int)) := aH (fun y hy => by
   rw [ah _ HXI.o, List.mem_append, List.mem_singleton] at hy
   rcases hy with hy | rfl
   ·exact HIN.o y hy
   omega)
  clear h1 h2
  go_wp2_with fail
  go_quiet (fail)
  go_wp2_with fail
  go_roundg g
  case measure => omega
  case rel => exact ⟨i + 1, rfl, by omega, HIN2, aH (ak BW.o nq)⟩
 obtain ⟨g, rfl⟩ : ∃ g, gk = g + 1 := ⟨gk - 1, by omega⟩
 have t1 : decide ((z : Int) + 1 <= (v : Int)) = true := dT (by omega)
 have z9 : IntKind.i64.wrap ((z : Int) + 1 + 1) = (z : Int) + 1 + 1 := iI _ (by omega)
 go_wp2_with fail
 go_loopg [8, 9] no (fun g s8 s9 wz => ∃ (i : Nat) (hb : Bool), wz = wr /\ s8 = .bool hb /\ s9 = .int .i64 i /\ i + g = no /\ Hd (hb = true ↔ ∃ j, j < i /\ cs.getD j 0 = (z : Int) + 1))
 case atStart => exact ⟨0, false, rfl, rfl, rfl, by omega, aH ⟨fun h => (by cases h), fun ⟨j, h, _⟩ => by omega⟩⟩
 obtain ⟨i, hb, rfl, rfl, rfl, hi, HB⟩ := hrel
 rcases zP gk with hh2 | hh2
 ·subst hh2
  obtain rfl : i = no := by omega
  cases hb with
  | false =>
   go_wp2_with fail
   refine (HK.o _).mono ?_
   rintro e wK ⟨rfl, hbK⟩
   have BK := aH (B2.o.trans (hbK.mono B2.o.size))
   clear hbK
   go_wp2_with fail
   go_ret
   exact ⟨rfl, BK.o⟩
  | true =>
   have HA2 : Hd (∀ y : Nat, 1 <= y -> y <= z + 1 -> ∃ j, j < cs.length /\ cs.getD j 0 = (y : Int)) := aH (fun y h1 h2 => by
    rcases Nat.lt_or_ge y (z + 1) with h3 | h3
    ·exact HAS.o y h1 (by omega)
    obtain ⟨j, h4, h5⟩ := HB.o.1 rfl
    exact ⟨j, by rw [HNO.o]; exact h4, by rw [h5, show y = z + 1 by omega]; rfl⟩)
   go_wp2_with fail
   go_roundg g
   case measure => omega
   case rel => exact ⟨z + 1, rfl, by simp, by omega, HA2⟩
 obtain ⟨g2, rfl⟩ : ∃ g, gk = g + 1 := ⟨gk - 1, by omega⟩
 obtain ⟨x, hx⟩ : ∃ x, cs[i]? = some x := ⟨_, eG (by rw [HNO.o]; omega)⟩
 obtain ⟨bo, oo, rfl, hbo, e0⟩ := HOA.o i x hx
 have c9 := (B2.o.cell (p := ⟨bo, oo + i, none⟩) hbo).trans e0
 have HXG : Hd (cs.getD i 0 = x) := aH (by rw [gD, hx]; rfl)
 have i1 : (0 : Int) <= (i : Int) := by omega
 have i2 : (i : Int) < (no : Int) := by omega
 have i9 : IntKind.i64.wrap ((i : Int) + 1) = (i : Int) + 1 := iI _ (by omega)
 clear hx e0
 cases hb with
 | true =>
  have HB2 : Hd (∃ j, j < i + 1 /\ cs.getD j 0 = (z : Int) + 1) := aH (by
   obtain ⟨j, h1, h2⟩ := HB.o.1 rfl
   exact ⟨j, by omega, h2⟩)
  go_wp2_with fail
  go_roundg g2
  case measure => omega
  case rel => exact ⟨i + 1, true, rfl, rfl, rfl, by omega, aH ⟨fun _ => HB2.o, fun _ => rfl⟩⟩
 | false =>
  obtain ⟨bx, hbx⟩ : ∃ b, (x == (z : Int) + 1) = b := ⟨_, rfl⟩
  have HB2 : Hd (bx = true ↔ ∃ j, j < i + 1 /\ cs.getD j 0 = (z : Int) + 1) := aH (by
   rw [<- hbx, beq_iff_eq]
   refine ⟨fun h => ⟨i, by omega, by rw [HXG.o, h]⟩, fun ⟨j, h1, h2⟩ => ?_⟩
   rcases Nat.lt_or_ge j i with h3 | h3
   ·have := HB.o.2 ⟨j, h3, h2⟩
    cases this
   obtain rfl : j = i := by omega
   rw [<- HXG.o, h2])
  go_wp2_with fail
  go_roundg g2
  case measure => omega
  case rel => exact ⟨i + 1, bx, rfl, rfl, rfl, by omega, HB2⟩
end Go.Proofs.YtjebfdfkjlkifaaGreat
