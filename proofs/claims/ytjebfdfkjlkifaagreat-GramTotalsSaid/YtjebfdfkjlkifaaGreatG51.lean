/- Lemmas on the way: Gt1. -/
import Derived.Test.YtjebfdfkjlkifaaGreatG48
set_option linter.unusedSimpArgs false
set_option linter.unusedVariables false
set_option linter.unusedSectionVars false
set_option linter.unnecessarySimpa false
namespace Go.Proofs.YtjebfdfkjlkifaaGreat
open Go.RowKit
theorem Same.trans_below {F : Nat} {w w1 w2 : World} (h : Same F w w1) (hb : Below w.heap.size w1 w2) : Same F w w2 :=
 ⟨Nat.le_trans h.1 hb.size, fun b hF hl => (hb.block b hl).trans (h.2 b hF hl)⟩
theorem own_lt {w : World} {base : Nat} {e : TypeId} {sz : Nat} {v : Value} {n : Nat} {xs : List Value} (h : w.ownsRow base e sz v n xs) {b : Nat} (hb : v.ownBlock = some b) : b < w.heap.size := by
 obtain ⟨_, ⟨rfl, _⟩ | ⟨g, cap, cur, rfl, _, hh, _⟩⟩ := h
 ·simp [Value.ownBlock] at hb
 ·simp [Value.ownBlock] at hb
  subst hb
  exact (Array.getElem?_eq_some_iff.1 hh).1


set_option maxRecDepth 1000000 in
set_option maxHeartbeats 32000000 in
theorem gramTotalsG (hsort : SortOk) (w : World) (O V : Int) (Al : Option Addr) (nl cl : Nat) (gs : List Gr) (k : Int) (s : Bool) (A A' : Option Addr) (m c m' c' : Nat) (mv : Value) (am : Raw) (rs : List Raw) (most : Int) (hg : GramsAt w (.slice Al nl cl) gs) (ha : RawAt w (.agg #[.bool s, .slice A m c, .slice A' m' c']) am) (hm : RawsAt w mv rs) (hO : -9223372036854775808 ≤ O ∧ O ≤ 9223372036854775807) :
  Calls Tryz.prog 5 #[langV O V (.slice Al nl cl) k s A A' m c m' c' mv, .int .i64 most] w fun e w' => e = .returned (.bool true) ∧ Below w.heap.size w w' := by
 obtain ⟨Am, cm, rfl, hmc, hcm, _⟩ := hm.open_
 have HK := Lib.hid (knownS hsort)
 have HG := Lib.hid hg
 have HA := Lib.hid ha
 have HM := Lib.hid hm
 obtain ⟨ml, hml⟩ : ∃ n, rs.length = n := ⟨_, rfl⟩
 have HTN : Hid (∀ w', Below w.heap.size w w' → Calls Tryz.prog 25 #[langV O V (.slice Al nl cl) k s A A' m c m' c' (.slice Am ml cm)] w' fun e w2 => e = .returned (.bool (thinB V gs am rs)) ∧ Below w'.heap.size w' w2) := Lib.hid (fun w' hb => by
  rw [← hml]
  exact thinG w' O V (.slice Al nl cl) gs k s A A' m c m' c' _ am rs (hg.below hb) (ha.below hb) (hm.below hb))
 have HLA : Hid (thinB V gs am rs = true → ∀ w', Below w.heap.size w w' → LangAt w' (.slice Al nl cl) gs s A A' m c m' c' am.q (.slice Am ml cm) (rs.map Raw.q)) := Lib.hid (fun ht w' hb => by
  rw [← hml]
  exact (LangAt.of hg ha hm ht).below hb)
 rw [hml] at hmc ⊢
 obtain ⟨tb, htb⟩ : ∃ b, thinB V gs am rs = b := ⟨_, rfl⟩
 have HTB := Lib.hid htb
 clear hsort hg ha hm hml htb HG HA HM
 unfold langV
 go_enter Tryz.func5, Tryz.ntmps5
 go_wp2_with fail
 obtain ⟨W, hW, P0, PB, Phs⟩ := box1 w 43 [.int .i64 O, .int .i64 V, .slice Al nl cl, .int .i64 k, .bool s, .slice A m c, .slice A' m' c', .slice Am ml cm]
 rw [← hW]
 clear hW
 obtain ⟨p0, p1, p2, p3, p4, p5, p6, p7⟩ := eight P0.out
 go_wp2_with fail
 refine (HTN.out W PB.out).mono ?_
 rintro e w1 ⟨rfl, hb1⟩
 rw [HTB.out]
 have P1 := Lib.hid (P0.out.below' hb1)
 have B1 := Lib.hid (PB.out.trans (hb1.mono PB.out.size))
 clear p0 p1 p2 p3 p4 p5 p6 p7 hb1 P0 PB
 obtain ⟨p0, p1, p2, p3, p4, p5, p6, p7⟩ := eight P1.out
 cases tb with
 | false =>
  go_wp2_with fail
  refine (HK.out _).mono ?_
  rintro e wK ⟨rfl, hbK⟩
  have BK := Lib.hid (B1.out.trans (hbK.mono B1.out.size))
  clear hbK
  go_wp2_with fail
  go_ret
  exact ⟨rfl, BK.out⟩
 | true =>
  have LA := Lib.hid (HLA.out HTB.out)
  have SM := Lib.hid (small_ok (thin_ok HTB.out).1)
  obtain ⟨a, hqa⟩ : ∃ q, am.q = q := ⟨_, rfl⟩
  obtain ⟨mix, hmix⟩ : ∃ l, rs.map Raw.q = l := ⟨_, rfl⟩
  rw [hqa, hmix] at LA
  clear hqa hmix
  go_wp2_with fail
  refine (refCheckG w1 O V (.slice Al nl cl) gs k s A A' m c m' c' (.slice Am ml cm) a mix (LA.out w1 B1.out)).mono ?_
  rintro e w2 ⟨rfl, hb2⟩
  obtain ⟨ce, hce⟩ : ∃ z, checkE O V gs k a mix = z := ⟨_, rfl⟩
  rw [hce]
  have HCE := Lib.hid hce
  have P2 := Lib.hid (P1.out.below' hb2)
  have B2 := Lib.hid (B1.out.trans (hb2.mono B1.out.size))
  clear p0 p1 p2 p3 p4 p5 p6 p7 hb2 P1 B1 hce
  obtain ⟨p0, p1, p2, p3, p4, p5, p6, p7⟩ := eight P2.out
  by_cases hc0 : ce = 0
  ·subst hc0
   have HSZ := sizes_ok (tableE_ok (check_ok HCE.out).1).2.1
   obtain ⟨o, rfl⟩ : ∃ o : Nat, O = o := ⟨O.toNat, by omega⟩
   obtain ⟨v, rfl⟩ : ∃ v : Nat, V = v := ⟨V.toNat, by omega⟩
   have hv8 : v ≤ 8 := by have := SM.out.2; omega
   by_cases hv2 : v ≤ 2
   ·have t1 : decide ((2 : Int) < (v : Int)) = false := decide_eq_false (by omega)
    by_cases h0 : 0 ≤ most
    ·have t2 : decide (most < 0) = false := decide_eq_false (by omega)
     by_cases h3 : most ≤ 3
     ·have t3 : decide (3 < most) = false := decide_eq_false (by omega)
      obtain ⟨M, rfl⟩ : ∃ M : Nat, most = M := ⟨most.toNat, by omega⟩
      have hM : M ≤ 3 := by omega
      clear h0 h3
      have HCK := Lib.hid (check_ok HCE.out)
      have HT := Lib.hid (table_small (check_ok HCE.out).1 hv8)
      obtain ⟨row, hrow⟩ : ∃ f, rowQ k o gs v a mix = f := ⟨_, rfl⟩
      have RL : Hid (∀ h, (row h).length = v + 1) := Lib.hid (fun h => by rw [← hrow]; exact (row_all HT.out HCK.out.2 h).1)
      have RS : Hid (∀ h, sumQ (row h) = 1) := Lib.hid (fun h => by rw [← hrow]; exact (row_all HT.out HCK.out.2 h).2.1)
      have RP : Hid (∀ h, ∀ q ∈ row h, 0 < q) := Lib.hid (fun h => by rw [← hrow]; exact (row_all HT.out HCK.out.2 h).2.2)
      have RQ : Hid (∀ h, ∀ q ∈ row h, QB 5000000 q) := Lib.hid (by
       obtain ⟨T, rv, F, hw⟩ := way_ok w2 o v (.slice Al nl cl) gs k s A A' m c m' c' (.slice Am ml cm) a mix (LA.out w2 B2.out) HCE.out hv8
       rw [← hrow]
       exact hw.qb)
      have HRW := Lib.hid hrow
      obtain ⟨om, hom⟩ : ∃ n, o - 1 = n := ⟨_, rfl⟩
      have HOM := Lib.hid hom
      clear hrow hom
      obtain ⟨i0, gi, gz0, gz1, gz2⟩ := info_parts infoInt
      obtain ⟨i1, ki, kz0, kz1, kz2⟩ := info_parts infoInts
      have GI := Lib.hid gi
      have KI := Lib.hid ki
      have GZ := Lib.hid (And.intro gz0 (And.intro gz1 gz2))
      have KZ := Lib.hid (And.intro kz0 (And.intro kz1 kz2))
      clear gi gz0 gz1 gz2 ki kz0 kz1 kz2
      go_wp2_with fail
      obtain ⟨W3, hW3, R0, R1, RB, Rhs⟩ := box2 w2 40 [.bool false, .slice none 0 0, .slice none 0 0] 44 [.slice none 0 0]
      rw [← hW3]
      clear hW3
      have BX : Hid (BoxC W3 w2.heap.size (allS row om v 0)) := Lib.hid (BoxC.of (q := 0) R0.out ((CanNew.zero_ 0 W3).at_))
      have LS : Hid (ListsNew (w2.heap.size + 1) W3 (.slice (some ⟨w2.heap.size + 1, 0, none⟩) 1 1) (levL v 0)) := Lib.hid (by
       refine ⟨[.slice none 0 0], R1.out.sl (sz := 1) (n := 1) (c := 1) (by simp) (by omega) (by unfold maxLen; omega), fun ad n c e => by cases e; exact Nat.le_refl _, fun i l hl => ?_⟩
       cases i with
       | succ i => simp [levL] at hl
       | zero =>
        simp [levL] at hl
        subst hl
        exact ⟨_, rfl, IntsAt.nil_ _, fun ad n c e => by cases e⟩)
      have P3 := Lib.hid (P2.out.below' RB.out)
      have B3 := Lib.hid (B2.out.trans (RB.out.mono B2.out.size))
      have sw : w.heap.size < w2.heap.size := P2.out.lt
      obtain ⟨bx, hbx⟩ : ∃ n, w2.heap.size = n := ⟨_, rfl⟩
      rw [hbx] at BX LS sw ⊢
      clear hbx p0 p1 p2 p3 p4 p5 p6 p7 P2 B2 R0 R1 RB Rhs
      go_loopg [6, 7, 8, 9, 10, 11, 12] (M + 1) (fun gh s6 s7 _ _ _ _ _ wz => ∃ (n : Nat) (va : Value), s6 = va ∧ s7 = .int .i64 n ∧ n + gh = M + 1 ∧ Hid (ListsNew (bx + 1) wz va (levL v n)) ∧ Hid (BoxC wz bx (allS row om v n)) ∧ Hid (Blk wz w.heap.size 43 [.int .i64 o, .int .i64 v, .slice Al nl cl, .int .i64 k, .bool s, .slice A m c, .slice A' m' c', .slice Am ml cm]) ∧ Hid (Below w.heap.size w wz))
      case atStart => exact ⟨0, _, rfl, rfl, by omega, LS, BX, P3, B3⟩
      case round =>
       clear BX LS P3 B3
       obtain ⟨n, va, rfl, rfl, hn, LS, BX, P3, B3⟩ := hrel
       obtain ⟨Wm, hWm⟩ : ∃ x, x = wr := ⟨_, rfl⟩
       subst hWm
       rcases Nat.eq_zero_or_pos gk with hh | hh
       ·subst hh
        obtain rfl : n = M + 1 := by omega
        have t4 : decide (((M + 1 : Nat) : Int) ≤ (M : Int)) = false := decide_eq_false (by omega)
        have t5 : decide ((M : Int) + 1 ≤ (M : Int)) = false := decide_eq_false (by omega)
        have QR := alls_qb RQ.out om hv2 (M + 1) (by omega)
        have hle := sgn_le (all_le (V := v) RP.out RL.out RS.out om (M + 1))
        obtain ⟨R, hR⟩ : ∃ r, allS row om v (M + 1) = r := ⟨_, rfl⟩
        rw [hR] at BX QR hle
        obtain ⟨sg, hsg⟩ : ∃ z, sgnI (R - 1) = z := ⟨_, rfl⟩
        rw [hsg] at hle
        have HSG : Hid (sgnI (R - ((1 : Nat) : Rat)) = sg) := Lib.hid hsg
        have d1 : decide (sg ≤ 0) = true := decide_eq_true hle
        obtain ⟨Ar, mr, cr, Ar', mr', cr', r0, r1, r2, _, _, _, tr⟩ := BX.out.get
        have TR := Lib.hid (tr.frac (k := 1000000000) (QR.mono (by omega)) (by omega))
        have BB := Lib.hid (Below.refl Wm.heap.size Wm)
        have sX : bx < Wm.heap.size := BX.out.lt
        clear hR hsg tr QR
        have hS := And.intro ((BB.out.cell (p := ⟨bx, 0, none⟩) sX).trans r0) (And.intro ((BB.out.cell (p := ⟨bx, 1, none⟩) sX).trans r1) ((BB.out.cell (p := ⟨bx, 2, none⟩) sX).trans r2))
        go_wp2_with fail
        go_region_held3 (fun w' => w'.cell? ⟨bx, 0, none⟩ = some (.bool (isNeg R)) ∧ w'.cell? ⟨bx, 1, none⟩ = some (.slice Ar mr cr) ∧ w'.cell? ⟨bx, 2, none⟩ = some (.slice Ar' mr' cr'))
         (first | assumption | exact hS | go_keep)
         (first
          | (go_at_call 33; refine (ofR _ 1 (by omega)).mono ?_; rintro e wl ⟨u1, rfl, t, hb⟩; have hb0 := hb; (first | replace hb := below_new_drew hb | replace hb := below_new hb | replace hb := below_of_drew hb | skip); (try (first | replace AB := Lib.hid (AB.out.below' hb) | replace AB := Lib.hid (AB.out.below hb))); (first | have AB := Lib.hid ((BoxC.zero _).below hb0) | have AB := Lib.hid ((BoxC.zero _).below (below_of_drew hb0)) | skip); replace BB := Lib.hid (BB.out.trans (hb.mono BB.out.size)); have hs := BB.out.size; clear hb0; have T1 := Lib.hid (t.at_.frac (k := 1000000000) ((qb_nat (n := 1) (k := 64) (by omega) (by omega)).mono (by omega)) (by omega)); have hS := And.intro ((BB.out.cell (p := ⟨bx, 0, none⟩) sX).trans r0) (And.intro ((BB.out.cell (p := ⟨bx, 1, none⟩) sX).trans r1) ((BB.out.cell (p := ⟨bx, 2, none⟩) sX).trans r2)); clear t hb)
          | (go_at_call 30; refine (cmpR _ _ _ R ((1 : Nat) : Rat) 1000000000 ?_ ?_ (by omega) (by omega)).mono ?_; (first | exact TR.out.below BB.out | exact (TR.out.below BB.out).below (below_drew_self _)); (first | exact T1.out | exact T1.out.below (below_drew_self _) | exact T1.out.below (below_alloc_self _ _) | exact T1.out.below (below_alloc_drew _ _)); rintro e wl ⟨rfl, hb⟩; rw [HSG.out]; have hb0 := hb; (first | replace hb := below_new_drew hb | replace hb := below_new hb | replace hb := below_of_drew hb | skip); (try (first | replace AB := Lib.hid (AB.out.below' hb) | replace AB := Lib.hid (AB.out.below hb))); (first | have AB := Lib.hid ((BoxC.zero _).below hb0) | have AB := Lib.hid ((BoxC.zero _).below (below_of_drew hb0)) | skip); replace BB := Lib.hid (BB.out.trans (hb.mono BB.out.size)); have hs := BB.out.size; clear hb0; have hS := And.intro ((BB.out.cell (p := ⟨bx, 0, none⟩) sX).trans r0) (And.intro ((BB.out.cell (p := ⟨bx, 1, none⟩) sX).trans r1) ((BB.out.cell (p := ⟨bx, 2, none⟩) sX).trans r2)); clear hb)
          | (go_at_call 18; refine (HK.out _).mono ?_; rintro e wl ⟨rfl, hb⟩; have hb0 := hb; (first | replace hb := below_new_drew hb | replace hb := below_new hb | replace hb := below_of_drew hb | skip); (try (first | replace AB := Lib.hid (AB.out.below' hb) | replace AB := Lib.hid (AB.out.below hb))); (first | have AB := Lib.hid ((BoxC.zero _).below hb0) | have AB := Lib.hid ((BoxC.zero _).below (below_of_drew hb0)) | skip); replace BB := Lib.hid (BB.out.trans (hb.mono BB.out.size)); have hs := BB.out.size; clear hb0; have hS := And.intro ((BB.out.cell (p := ⟨bx, 0, none⟩) sX).trans r0) (And.intro ((BB.out.cell (p := ⟨bx, 1, none⟩) sX).trans r1) ((BB.out.cell (p := ⟨bx, 2, none⟩) sX).trans r2)); clear hb))
        all_goals
         go_wp2_with fail
         go_ret
         exact ⟨rfl, B3.out.trans (BB.out.mono B3.out.size)⟩
       ·obtain ⟨gh, rfl⟩ : ∃ g, gk = g + 1 := ⟨gk - 1, by omega⟩
        have t4 : decide ((n : Int) ≤ (M : Int)) = true := decide_eq_true (by omega)
        have t4' : decide (n ≤ M) = true := decide_eq_true (by omega)
        have n1 : IntKind.i64.wrap ((n : Int) + 1) = (n : Int) + 1 := IntWalk.i64_in _ (by omega)
        obtain ⟨Aa, ca', rfl, hac, hacm, _⟩ := LS.out.at_.open_
        have LSV : Hid (∀ w', Same (bx + 1) Wm w' → ∀ j l, (levL v n)[j]? = some l → ∃ b off c0, Aa = some ⟨b, off, none⟩ ∧ b < w'.heap.size ∧ w'.cell? ⟨b, off + j, none⟩ = some c0 ∧ IntsAt w' c0 l) := Lib.hid (fun w' hs j l hl => by
         obtain ⟨_, _, e, _, _, h6⟩ := (LS.out.same hs).at_.open_
         injection e with e1
         rw [e1]
         exact h6 j l hl)
        obtain ⟨L, hL⟩ : ∃ x, (levL v n).length = x := ⟨_, rfl⟩
        have hL8 : L ≤ 8 := by rw [← hL]; exact lev_len hv2 n (by omega)
        rw [hL] at hac ⊢
        have HL := Lib.hid hL
        have sm0 : bx < Wm.heap.size := BX.out.lt
        have sm1 : w.heap.size < Wm.heap.size := P3.out.lt
        clear hL LS
        go_wp2_with fail
        go_loopg [8, 9, 10, 11, 12] L (fun gq s8 s9 _ _ _ wz => ∃ (i : Nat) (vl : Value), vl = s8 ∧ s9 = .int .i64 i ∧ i + gq = L ∧ Hid (LLOwn Wm.heap.size wz vl (((levL v n).take i).flatMap (nextL v))) ∧ Hid (Same (bx + 1) Wm wz) ∧ Hid (BoxC wz bx (allS row om v n + sayS row om ((levL v n).take i))) ∧ Hid (Blk wz w.heap.size 43 [.int .i64 o, .int .i64 v, .slice Al nl cl, .int .i64 k, .bool s, .slice A m c, .slice A' m' c', .slice Am ml cm]) ∧ Hid (Below w.heap.size w wz))
        case atStart => exact ⟨0, _, rfl, rfl, by omega, Lib.hid (LLOwn.nil_ _ _), Lib.hid (Same.refl _ _), Lib.hid (by
         show BoxC Wm bx (allS row om v n + 0)
         rw [Rat.add_zero]
         exact BX.out), P3, B3⟩
        case round =>
         clear BX P3 B3
         obtain ⟨i, vl, rfl, rfl, hi, LL, SM, BX, P4, B4⟩ := hrel
         rcases Nat.eq_zero_or_pos gk with hh2 | hh2
         ·subst hh2
          obtain rfl : i = L := by omega
          go_wp2_with fail
          go_roundg gh
          case measure => omega
          case rel => exact ⟨n + 1, _, rfl, rfl, by omega, Lib.hid (by
           have := LL.out.new (show bx + 1 ≤ Wm.heap.size by omega)
           rwa [List.take_of_length_le (by rw [HL.out]; exact Nat.le_refl _)] at this), Lib.hid (by
           have := BX.out
           rwa [List.take_of_length_le (by rw [HL.out]; exact Nat.le_refl _)] at this), P4, B4⟩
         ·obtain ⟨gq, rfl⟩ : ∃ g, gk = g + 1 := ⟨gk - 1, by omega⟩
          obtain ⟨sl, hsl⟩ : ∃ x, (levL v n)[i]? = some x := ⟨_, List.getElem?_eq_getElem (by rw [HL.out]; omega)⟩
          have HSL := Lib.hid hsl
          have hwd := lev_wordy n sl (List.mem_of_getElem? hsl)
          have HWD := Lib.hid hwd.2
          have hln : sl.length = n := hwd.1
          have HLN := Lib.hid hln
          obtain ⟨ba, oa, c0, rfl, hba, ca, hci⟩ := LSV.out wr SM.out i sl hsl
          obtain ⟨As, cs, rfl, hsc, hscm, _⟩ := hci.open_
          rw [hln] at hci ca hsc
          have HCI := Lib.hid hci
          have i4 : (0 : Int) ≤ (i : Int) := by omega
          have i5 : (i : Int) < (L : Int) := by omega
          have i6 : IntKind.i64.wrap ((i : Int) + 1) = (i : Int) + 1 := IntWalk.i64_in _ (by omega)
          obtain ⟨p0, p1, p2, p3, p4, p5, p6, p7⟩ := eight P4.out
          have sP : w.heap.size < wr.heap.size := P4.out.lt
          have sA : ba < wr.heap.size := hba
          have hpos := sgnI_gt (say_pos (row := row) RP.out RL.out (m := om) HWD.out)
          have QS := Lib.hid (say_qb RQ.out om (s := sl) (by omega))
          obtain ⟨q1, hq1⟩ : ∃ q, sayQ row om sl = q := ⟨_, rfl⟩
          rw [hq1] at hpos QS
          obtain ⟨sg, hsg⟩ : ∃ z, sgnI q1 = z := ⟨_, rfl⟩
          rw [hsg] at hpos
          have HQ1 := Lib.hid hq1
          have HSG := Lib.hid hsg
          have d1 : decide (sg ≤ 0) = false := decide_eq_false (by omega)
          clear hsl hwd hci hq1 hsg hln
          go_upto_region 12 with fail
          go_cut [10, 11] (fun s10 s11 wc => ∃ bp, s10 = .pointer (some ⟨bp, 0, none⟩) ∧ s11 = .int .i64 0 ∧ Hid (wr.heap.size ≤ bp) ∧ Hid (BoxC wc bp q1) ∧ Hid (Below wr.heap.size wr wc))
          case first =>
           have BB := Lib.hid (Below.refl wr.heap.size wr)
           have hS := And.intro ((BB.out.cell (p := ⟨w.heap.size, 0, none⟩) sP).trans p0) (And.intro ((BB.out.cell (p := ⟨w.heap.size, 1, none⟩) sP).trans p1) (And.intro ((BB.out.cell (p := ⟨w.heap.size, 2, none⟩) sP).trans p2) (And.intro ((BB.out.cell (p := ⟨w.heap.size, 3, none⟩) sP).trans p3) (And.intro ((BB.out.cell (p := ⟨w.heap.size, 4, none⟩) sP).trans p4) (And.intro ((BB.out.cell (p := ⟨w.heap.size, 5, none⟩) sP).trans p5) (And.intro ((BB.out.cell (p := ⟨w.heap.size, 6, none⟩) sP).trans p6) (And.intro ((BB.out.cell (p := ⟨w.heap.size, 7, none⟩) sP).trans p7) ((BB.out.cell (p := ⟨ba, oa + i, none⟩) sA).trans ca))))))))
           go_region_held3 (fun w' => w'.cell? ⟨w.heap.size, 0, none⟩ = some (.int .i64 o) ∧ w'.cell? ⟨w.heap.size, 1, none⟩ = some (.int .i64 v) ∧ w'.cell? ⟨w.heap.size, 2, none⟩ = some (.slice Al nl cl) ∧ w'.cell? ⟨w.heap.size, 3, none⟩ = some (.int .i64 k) ∧ w'.cell? ⟨w.heap.size, 4, none⟩ = some (.bool s) ∧ w'.cell? ⟨w.heap.size, 5, none⟩ = some (.slice A m c) ∧ w'.cell? ⟨w.heap.size, 6, none⟩ = some (.slice A' m' c') ∧ w'.cell? ⟨w.heap.size, 7, none⟩ = some (.slice Am ml cm) ∧ w'.cell? ⟨ba, oa + i, none⟩ = some (.slice As n cs))
            (first | assumption | exact hS | exact ⟨cell_alloc hS.1 _, cell_alloc hS.2.1 _, cell_alloc hS.2.2.1 _, cell_alloc hS.2.2.2.1 _, cell_alloc hS.2.2.2.2.1 _, cell_alloc hS.2.2.2.2.2.1 _, cell_alloc hS.2.2.2.2.2.2.1 _, cell_alloc hS.2.2.2.2.2.2.2.1 _, cell_alloc hS.2.2.2.2.2.2.2.2 _⟩ | exact ⟨cell3 hS.1 (by omega) _ _ _ _ _ _, cell3 hS.2.1 (by omega) _ _ _ _ _ _, cell3 hS.2.2.1 (by omega) _ _ _ _ _ _, cell3 hS.2.2.2.1 (by omega) _ _ _ _ _ _, cell3 hS.2.2.2.2.1 (by omega) _ _ _ _ _ _, cell3 hS.2.2.2.2.2.1 (by omega) _ _ _ _ _ _, cell3 hS.2.2.2.2.2.2.1 (by omega) _ _ _ _ _ _, cell3 hS.2.2.2.2.2.2.2.1 (by omega) _ _ _ _ _ _, cell3 hS.2.2.2.2.2.2.2.2 (by omega) _ _ _ _ _ _⟩ | go_keep)
            (first
             | (go_at_call 36; refine (sentAny _ o v (.slice Al nl cl) gs k s A A' m c m' c' (.slice Am ml cm) a mix (.slice As n cs) sl ?_ ?_ (sent_one rfl HCE.out HWD.out (by have := HLN.out; omega)) hv8).mono ?_; (first | exact LA.out _ (B4.out.trans ((BB.out.trans (below_drew_self _)).mono B4.out.size)) | exact LA.out _ (B4.out.trans ((below_alloc_drew wr _).mono B4.out.size)) | exact LA.out _ (B4.out.trans ((below_alloc_self wr _).mono B4.out.size)) | exact LA.out _ (B4.out.trans (((below_drew_self wr).trans (below_alloc_self wr.drew _)).mono B4.out.size))); (first | exact HCI.out.below (below_drew_self _) | exact HCI.out.below (below_alloc_drew wr _) | exact HCI.out.below (below_alloc_self wr _) | exact HCI.out.below ((below_drew_self wr).trans (below_alloc_self wr.drew _))); rw [HRW.out, HOM.out, HQ1.out]; rintro e wl ⟨u, rfl, t, hb⟩; have hb0 := hb; (first | replace hb := below_new_drew hb | replace hb := below_new hb | replace hb := below_of_drew hb | skip); (try (first | replace AB := Lib.hid (AB.out.below' hb) | replace AB := Lib.hid (AB.out.below hb))); (first | have AB := Lib.hid ((BoxC.zero _).below hb0) | have AB := Lib.hid ((BoxC.zero _).below (below_of_drew hb0)) | skip); replace BB := Lib.hid (BB.out.trans (hb.mono BB.out.size)); have hs := BB.out.size; clear hb0; obtain ⟨Ax, mx, cx, Ax', mx', cx', rfl⟩ := t.open_; have T4 := Lib.hid t; (try (obtain ⟨_, _, _, _, _, _, ab0, ab1, ab2, az0, az1, az2, _⟩ := AB.out.get)); have hS := And.intro ((BB.out.cell (p := ⟨w.heap.size, 0, none⟩) sP).trans p0) (And.intro ((BB.out.cell (p := ⟨w.heap.size, 1, none⟩) sP).trans p1) (And.intro ((BB.out.cell (p := ⟨w.heap.size, 2, none⟩) sP).trans p2) (And.intro ((BB.out.cell (p := ⟨w.heap.size, 3, none⟩) sP).trans p3) (And.intro ((BB.out.cell (p := ⟨w.heap.size, 4, none⟩) sP).trans p4) (And.intro ((BB.out.cell (p := ⟨w.heap.size, 5, none⟩) sP).trans p5) (And.intro ((BB.out.cell (p := ⟨w.heap.size, 6, none⟩) sP).trans p6) (And.intro ((BB.out.cell (p := ⟨w.heap.size, 7, none⟩) sP).trans p7) ((BB.out.cell (p := ⟨ba, oa + i, none⟩) sA).trans ca)))))))); clear t hb))
           all_goals
            go_wp2_with fail
            go_meet
            first
             | exact ⟨_, rfl, rfl, Lib.hid (by omega), Lib.hid (BoxC.new T4.out), Lib.hid (BB.out.alloc BB.out.size _)⟩
             | exact ⟨_, rfl, rfl, Lib.hid (by omega), Lib.hid (AB.out.put rfl T4.out), Lib.hid (below3 BB.out (by omega) _ _ _ _ _ _)⟩
          case rest =>
           obtain ⟨bp, rfl, rfl, hbp, XP, BC⟩ := hcut
           have hbp1 := hbp.out
           have LL5 := Lib.hid (LL.out.below BC.out)
           have SM5 := Lib.hid (SM.out.trans (Same.of_below (F := bx + 1) BC.out))
           have BX5 := Lib.hid (BX.out.below BC.out)
           have P5 := Lib.hid (P4.out.below' BC.out)
           have B5 := Lib.hid (B4.out.trans (BC.out.mono B4.out.size))
           have sX : bx < wr.heap.size := BX.out.lt
           clear p0 p1 p2 p3 p4 p5 p6 p7 ca LL SM BX P4 B4 BC hbp
           obtain ⟨Ax, mx, cx, Ax', mx', cx', x0, x1, x2, _, _, _, tx⟩ := XP.out.get
           have TX := Lib.hid (tx.frac (k := 1000000000) (QS.out.mono (by omega)) (by omega))
           clear tx
           go_wp2_with fail
           refine (signR wc _ q1 1000000000 TX.out (by omega)).mono ?_
           rintro e w6 ⟨rfl, hb6⟩
           rw [HSG.out]
           have LL6 := Lib.hid (LL5.out.below hb6)
           have SM6 := Lib.hid (SM5.out.trans (Same.of_below (F := bx + 1) hb6))
           have BX6 := Lib.hid (BX5.out.below hb6)
           have XP6 := Lib.hid (XP.out.below hb6)
           have TX6 := Lib.hid (TX.out.below hb6)
           have P6 := Lib.hid (P5.out.below' hb6)
           have B6 := Lib.hid (B5.out.trans (hb6.mono B5.out.size))
           clear x0 x1 x2 hb6 LL5 SM5 BX5 P5 B5 XP TX
           have QR : Hid (QB 900000000 (allS row om v n + sayS row om ((levL v n).take i))) := Lib.hid (by
            have h1 := alls_qb RQ.out om hv2 n (by omega)
            have h2 := says_qb RQ.out om ((levL v n).take i) (fun s hs => by have := (lev_wordy n s (List.mem_of_mem_take hs)).1; omega)
            have h3 : ((levL v n).take i).length ≤ 8 := by rw [List.length_take]; omega
            exact (h1.add h2).mono (by omega))
           obtain ⟨R, hR⟩ : ∃ r, allS row om v n + sayS row om ((levL v n).take i) = r := ⟨_, rfl⟩
           rw [hR] at BX6 QR
           have HR2 : Hid (R + q1 = allS row om v n + sayS row om ((levL v n).take (i + 1))) := Lib.hid (by
            have e : (levL v n).take (i + 1) = (levL v n).take i ++ [sl] := by
             rw [List.take_add_one, HSL.out]
             rfl
            rw [e, sayS_snoc, HQ1.out, ← hR, Rat.add_assoc])
           obtain ⟨Ar, mr, cr, Ar', mr', cr', r0, r1, r2, _, _, _, tr⟩ := BX6.out.get
           obtain ⟨Ax, mx, cx, Ax', mx', cx', x0, x1, x2, _, _, _, tx⟩ := XP6.out.get
           have TR := Lib.hid (tr.frac (k := 1000000000) (QR.out.mono (by omega)) (by omega))
           have TY := Lib.hid (tx.frac (k := 1000000000) (QS.out.mono (by omega)) (by omega))
           clear tr tx hR
           go_wp2_with fail
           refine (addR w6 _ _ R q1 1000000000 TR.out TY.out (by omega) (by omega)).mono ?_
           rintro e w7 ⟨u, rfl, t7, hb7⟩
           rw [HR2.out] at t7
           obtain ⟨Az, mz, cz, Az', mz', cz', rfl⟩ := t7.at_.open_
           have T7 := Lib.hid t7
           have HVL : Hid (∀ x, vl.ownBlock = some x → x < w6.heap.size ∧ bx ≠ x) := Lib.hid (fun x hx => by
            obtain ⟨cells, h1, _⟩ := LL6.out
            have h2 := own_lt h1 hx
            have h3 := own_block_le (From.of_own h1) x hx
            exact ⟨h2, by omega⟩)
           have LL7 := Lib.hid (LL6.out.below hb7)
           have SM7 := Lib.hid (SM6.out.trans (Same.of_below (F := bx + 1) hb7))
           have BX7 := Lib.hid (BX6.out.below hb7)
           have P7 := Lib.hid (P6.out.below' hb7)
           have B7 := Lib.hid (B6.out.trans (hb7.mono B6.out.size))
           clear r0 r1 r2 x0 x1 x2 t7 hb7 LL6 SM6 BX6 P6 B6 XP6 TX6 TR TY
           obtain ⟨_, _, _, _, _, _, u0, u1, u2, y0, y1, y2, _⟩ := BX7.out.get
           go_wp2_with fail
           have BX8 := Lib.hid (BoxA.put BX7.out T7.out HVL.out)
           have LL8 := Lib.hid (LL7.out.same (Same.set3 w7 (show bx < Wm.heap.size by omega) 0 1 2 (.bool (isNeg (allS row om v n + sayS row om ((levL v n).take (i + 1))))) (.slice Az mz cz) (.slice Az' mz' cz')))
           have SM8 := Lib.hid (SM7.out.trans (Same.set3 w7 (show bx < bx + 1 by omega) 0 1 2 (.bool (isNeg (allS row om v n + sayS row om ((levL v n).take (i + 1))))) (.slice Az mz cz) (.slice Az' mz' cz')))
           have P8 := Lib.hid (P7.out.far3 (show w.heap.size ≠ bx by omega) 0 1 2 (.bool (isNeg (allS row om v n + sayS row om ((levL v n).take (i + 1))))) (.slice Az mz cz) (.slice Az' mz' cz'))
           have B8 := Lib.hid (below3 B7.out (show w.heap.size ≤ bx by omega) 0 1 2 (.bool (isNeg (allS row om v n + sayS row om ((levL v n).take (i + 1))))) (.slice Az mz cz) (.slice Az' mz' cz'))
           clear u0 u1 u2 y0 y1 y2 BX7 LL7 SM7 P7 B7
           obtain ⟨Wi, hWi⟩ : ∃ W, ((w7.setCell ⟨bx, 0, none⟩ (.bool (isNeg (allS row om v n + sayS row om ((levL v n).take (i + 1)))))).setCell ⟨bx, 1, none⟩ (.slice Az mz cz)).setCell ⟨bx, 2, none⟩ (.slice Az' mz' cz') = W := ⟨_, rfl⟩
           rw [hWi] at BX8 LL8 SM8 P8 B8 ⊢
           have si1 : Wm.heap.size ≤ Wi.heap.size := SM8.out.1
           clear hWi
           go_loopg [8, 12] v (fun gz s8 s12 wz => ∃ (q : Nat) (vl : Value), vl = s8 ∧ s12 = .int .i64 ((q : Int) + 1) ∧ q + gz = v ∧ Hid (LLOwn Wm.heap.size wz vl (((levL v n).take i).flatMap (nextL v) ++ (nextL v sl).take q)) ∧ Hid (BoxA wz bx (allS row om v n + sayS row om ((levL v n).take (i + 1))) vl) ∧ Hid (Below Wm.heap.size Wi wz))
           case atStart => exact ⟨0, _, rfl, rfl, by omega, Lib.hid (by rw [List.take_zero, List.append_nil]; exact LL8.out), BX8, Lib.hid (Below.refl _ _)⟩
           case round =>
            clear LL8 BX8
            obtain ⟨q, vl, rfl, rfl, hq, LL9, BX9, B9⟩ := hrel
            have P9 := Lib.hid (P8.out.below B9.out (by omega))
            have SM9 := Lib.hid (SM8.out.trans_below B9.out)
            obtain ⟨p0, p1, p2, p3, p4, p5, p6, p7⟩ := eight P9.out
            have si2 : Wi.heap.size ≤ wr.heap.size := B9.out.size
            rcases Nat.eq_zero_or_pos gk with hh3 | hh3
            ·subst hh3
             obtain rfl : q = v := by omega
             have t6 : decide ((q : Int) + 1 ≤ (q : Int)) = false := decide_eq_false (by omega)
             go_wp2_with fail
             go_roundg gq
             case measure => omega
             case rel => exact ⟨i + 1, _, rfl, rfl, by omega, Lib.hid (by
              have := LL9.out
              rwa [List.take_of_length_le (l := nextL q sl) (by simp [nextL]), ← next_take HSL.out] at this), SM9, Lib.hid BX9.out.box, P9, Lib.hid (B8.out.trans (B9.out.mono (by omega)))⟩
            ·obtain ⟨gz, rfl⟩ : ∃ g, gk = g + 1 := ⟨gk - 1, by omega⟩
             have t6 : decide ((q : Int) + 1 ≤ (v : Int)) = true := decide_eq_true (by omega)
             have q2 : IntKind.i64.wrap ((q : Int) + 1 + 1) = (q : Int) + 1 + 1 := IntWalk.i64_in _ (by omega)
             obtain ⟨b2, o2, c2, e2, hb2, ca, hci⟩ := LSV.out wr SM9.out i sl HSL.out
             cases e2
             obtain ⟨A2, k2, rfl, _, _, _⟩ := hci.open_
             rw [HLN.out] at hci ca
             have HI9 := Lib.hid hci
             obtain ⟨cells, hown, hel⟩ := LL9.out
             have HOW := Lib.hid hown
             have HEL := Lib.hid hel
             have hcl : cells.length = (((levL v n).take i).flatMap (nextL v) ++ (nextL v sl).take q).length := by have := hown.1; omega
             have HCL := Lib.hid hcl
             obtain ⟨ln, hln2⟩ : ∃ x, (((levL v n).take i).flatMap (nextL v) ++ (nextL v sl).take q).length = x := ⟨_, rfl⟩
             have hln3 : ln ≤ 1000 := by
              rw [← hln2, List.length_append, List.length_take, List.length_flatMap]
              have : ((((levL v n).take i).map fun x => (nextL v x).length).sum) ≤ 8 * 2 := by
               have h1 : ∀ l : List (List Int), (l.map fun x => (nextL v x).length).sum = l.length * v := by
                intro l
                induction l with
                | nil => simp
                | cons x l ih =>
                 rw [List.map_cons, List.sum_cons, ih, List.length_cons, Nat.succ_mul]
                 simp [nextL]
                 omega
               rw [h1, List.length_take]
               exact Nat.mul_le_mul (by omega) hv2
              have : (nextL v sl).length = v := by simp [nextL]
              omega
             rw [hln2] at HOW
             have HLN2 := Lib.hid hln2
             clear hci hown hel hcl hln2
             go_wp2_with (at_builtin; refine wpList_append_sl rfl (.const (.slice none 0 0)) (.tmp 79) 44 rfl wr.heap.size 3 i0 (.int .i64 0) 1 8 Tryz.underlying44 GI.out GZ.out.1 GZ.out.2.1 GZ.out.2.2 rfl (by decide) (.slice none 0 0) 0 [] rfl (World.ownsRow_nil ..) _ n (sl.map (Value.int .i64)) rfl (by have h6 := HI9.out; unfold IntsAt at h6; rwa [HLN.out] at h6) (ints_one sl) (by unfold maxLen; omega) (by omega) (Nat.le_refl _) ?_)
             intro v2 wA tA1 tA2 _
             (try rw [List.nil_append] at tA1)
             (try rw [Nat.zero_add] at tA1)
             have HOA := Lib.hid tA1
             have BA : Hid (Below wr.heap.size wr wA) := Lib.hid ((Below.refl _ _).grown tA2 (Nat.le_refl _) (by simp [Value.ownBlock]))
             have hsA : wr.heap.size ≤ wA.heap.size := BA.out.size
             clear tA1 tA2
             go_wp2_with (at_builtin; refine wpList_append_sl rfl (.tmp 80) (.tmp 82) 44 rfl wr.heap.size 3 i0 (.int .i64 0) 1 8 Tryz.underlying44 GI.out GZ.out.1 GZ.out.2.1 GZ.out.2.2 rfl (by decide) _ _ _ rfl (own_below HOA.out (Below.alloc (Below.refl _ _) (Nat.le_refl _) _)) _ 1 [.int .i64 ((q : Int) + 1)] rfl (Sl.one _ _ _) (by simp [Value.oneCell']) (by unfold maxLen; omega) (by omega) (by simp; omega) ?_)
             intro v3 wB tB1 tB2 _
             have HOB : Hid (wB.ownsRow wr.heap.size 3 1 v3 (n + 1) ((sl ++ [((q + 1 : Nat) : Int)]).map (Value.int .i64))) := Lib.hid (by
              rw [List.map_append]
              exact tB1)
             have BB : Hid (Below wr.heap.size wr wB) := Lib.hid ((BA.out.alloc hsA _).grown tB2 (by simp; omega) (own_block_le (From.of_own HOA.out)))
             have hsB : wr.heap.size ≤ wB.heap.size := BB.out.size
             obtain ⟨g3, cap3, rfl⟩ := own_open tB1 (by omega)
             clear tB1 tB2
             go_wp2_with (at_builtin; refine wpList_append_sl rfl (.tmp 75) (.tmp 84) 22 rfl Wm.heap.size 44 i1 (.slice none 0 0) 1 24 Tryz.underlying22 KI.out KZ.out.1 KZ.out.2.1 KZ.out.2.2 rfl (by decide) _ _ _ rfl (own_below (own_below HOW.out BB.out) (Below.alloc (Below.refl _ _) (Nat.le_refl _) _)) _ 1 [.slice (some ⟨g3, 0, none⟩) (n + 1) cap3] rfl (Sl.one _ _ _) (by simp [Value.oneCell']) (by unfold maxLen; omega) (by omega) (by simp; omega) ?_)
             intro v4 wC tC1 tC2 tC3
             have LLC : Hid (LLOwn Wm.heap.size wC v4 (((levL v n).take i).flatMap (nextL v) ++ (nextL v sl).take (q + 1))) := Lib.hid (by
              have hfr : From (.slice (some ⟨g3, 0, none⟩) (n + 1) cap3) wr.heap.size := From.of_own HOB.out
              rw [next_step v sl (by omega), ← List.append_assoc]
              refine LLOwn.push (w := wr) HEL.out HCL.out ((Same.of_below BB.out).trans (Same.of_below (below_alloc_self _ _))) ?_ (hfr.mono (by omega)) (fun b hb => hfr.off (own_lt HOW.out hb)) ?_ tC2 (tC3.elim Or.inl (fun e => Or.inr (by rw [e]; simp)))
              ·have h6 : IntsAt wB (.slice (some ⟨g3, 0, none⟩) (n + 1) cap3) (sl ++ [((q + 1 : Nat) : Int)]) := by
                unfold IntsAt
                rw [List.length_append, HLN.out]
                exact Sl.of_own HOB.out
               exact h6.below (below_alloc_self _ _)
              ·rw [HLN2.out]
               exact tC1)
             have BCC : Hid (Below Wm.heap.size Wi wC) := Lib.hid (((B9.out.trans (BB.out.mono (by omega))).alloc (by omega) _).grown tC2 (by simp; omega) (own_block_le (From.of_own HOW.out)))
             have BXC : Hid (BoxA wC bx (allS row om v n + sayS row om ((levL v n).take (i + 1))) v4) := Lib.hid (((BX9.out.below BB.out).below (below_alloc_self _ _)).push tC2 (tC3.elim Or.inl (fun e => Or.inr (by rw [e]; simp))))
             clear tC1 tC2 tC3
             go_wp2_with fail
             go_roundg gz
             case measure => omega
             case rel => exact ⟨q + 1, _, rfl, rfl, by omega, LLC, BXC, BCC⟩
     ·have t3 : decide (3 < most) = true := decide_eq_true (by omega)
      go_wp2_with fail
      refine (HK.out _).mono ?_
      rintro e wK ⟨rfl, hbK⟩
      have BK := Lib.hid (B2.out.trans (hbK.mono B2.out.size))
      clear hbK
      go_wp2_with fail
      go_ret
      exact ⟨rfl, BK.out⟩
    ·have t2 : decide (most < 0) = true := decide_eq_true (by omega)
     go_wp2_with fail
     refine (HK.out _).mono ?_
     rintro e wK ⟨rfl, hbK⟩
     have BK := Lib.hid (B2.out.trans (hbK.mono B2.out.size))
     clear hbK
     go_wp2_with fail
     go_ret
     exact ⟨rfl, BK.out⟩
   ·have t1 : decide ((2 : Int) < (v : Int)) = true := decide_eq_true (by omega)
    go_wp2_with fail
    refine (HK.out _).mono ?_
    rintro e wK ⟨rfl, hbK⟩
    have BK := Lib.hid (B2.out.trans (hbK.mono B2.out.size))
    clear hbK
    go_wp2_with fail
    go_ret
    exact ⟨rfl, BK.out⟩
  ·have n0 : (ce != 0) = true := by simpa using hc0
   clear hc0
   go_wp2_with fail
   refine (HK.out _).mono ?_
   rintro e wK ⟨rfl, hbK⟩
   have BK := Lib.hid (B2.out.trans (hbK.mono B2.out.size))
   clear hbK
   go_wp2_with fail
   go_ret
   exact ⟨rfl, BK.out⟩
end Go.Proofs.YtjebfdfkjlkifaaGreat
