/- Lemmas on the way: Nat10, Nat11, Frac1. -/
import Derived.Test.YtlhankdkhiilkaaGreatI05
import Derived.Test.YtlhankdkhiilkaaGreatI04
set_option linter.unusedSimpArgs false
set_option linter.unusedVariables false
set_option linter.unusedSectionVars false
set_option linter.unnecessarySimpa false
namespace Go.Proofs.YtlhankdkhiilkaaGreat
open Go.RowKit
theorem bitLenAux_le (f x : Nat) : Lib.bitLenAux f x ≤ f := by
 induction f generalizing x with
 | zero => simp [Lib.bitLenAux]
 | succ f ih =>
  simp only [Lib.bitLenAux]
  split
  ·omega
  ·have := ih (x / 2); omega
theorem bitLen_range {x : Nat} (h : 0 < x) (h' : x < 4294967296) : 1 ≤ Lib.bitLen x ∧ Lib.bitLen x ≤ 32 := by
 constructor
 ·unfold Lib.bitLen
  simp only [Lib.bitLenAux]
  rw [if_neg (by omega)]
  omega
 ·have e : Lib.bitLen x = Lib.bitLenAux 32 x := Lib.bitLenAux_fuel 32 x (by omega) 64 (by omega)
  rw [e]
  exact bitLenAux_le _ _

theorem leading (d : Nat) (h : 0 < d) (h' : d < 4294967296) : ∃ s : Nat, s ≤ 31 ∧ ∀ w, Calls Tryz.prog 142 #[.int .u32 (d : Int)] w fun e w' => e = .returned (.int .i64 (s : Int)) ∧ w' = w := by
 have hr := bitLen_range h h'
 refine ⟨32 - Lib.bitLen d, by omega, fun w => ?_⟩
 have := Tryz.bits_LeadingZeros32 (d : Int) w (by omega) (by omega)
 rw [Int.toNat_natCast, show (32 : Int) - (Lib.bitLen d : Int) = ((32 - Lib.bitLen d : Nat) : Int) by omega] at this
 exact this

set_option maxRecDepth 1000000 in
set_option maxHeartbeats 4000000 in
theorem div_long (w : World) (va : Value) (a k p : Nat) (B : Option Addr) (cb : Nat) (m : List Nat) (ha : NatAt w va a) (hb : DigAt w (.slice B m.length cb) m) (tm : Trim m) (hp : m.length = p) (hp2 : 2 ≤ p) (la : a < 2 ^ k) (hk : k ≤ 17592186044416) (h : val m ≤ a) :
  Calls Tryz.prog 106 #[va, .slice B p cb] w fun e w' => ∃ q r, e = .returned (.tuple #[q, r]) ∧ NatAt w' q (a / val m) ∧ NatAt w' r (a % val m) ∧ Below w.heap.size w w' ∧ From q w.heap.size := by
 have hbn : NatAt w (.slice B p cb) (val m) := ⟨m, hp ▸ hb, tm, rfl⟩
 have c := compare w va _ a (val m) ha hbn
 have hc := cmpN_ge h
 generalize cmpN a (val m) = cc at *
 have C := Lib.hid c
 clear c
 obtain ⟨_, B', cb', hA, hlc, hcm, hB⟩ := hb.open_
 cases hA
 rcases hB with hB | ⟨b, off, rfl, hblt, hcell⟩
 ·subst hB; simp at hp; omega
 rw [hp] at hlc
 obtain ⟨d, hd⟩ : ∃ d, m[p - 1]? = some d := ⟨_, List.getElem?_eq_getElem (by omega)⟩
 have hd0 : 0 < d := by
  rcases Nat.eq_zero_or_pos d with h0 | h0
  ·subst h0
   exfalso
   apply tm
   rw [List.getLast?_eq_getElem?, hp]
   exact hd
  ·exact h0
 have hd1 : d < 4294967296 := hb.2.get hd
 have hc0 := hcell (p - 1) d hd
 obtain ⟨s, hs, lead⟩ := leading d hd0 hd1
 have LEAD := Lib.hid lead
 have hp1 : ((p : Int) == 1) = false := by simp; omega
 have HA := Lib.hid ha
 have HB := Lib.hid hbn
 have hbk : val m < 2 ^ k := Nat.lt_of_le_of_lt h la
 have HLA := Lib.hid la
 have HLB := Lib.hid hbk
 have HLE := Lib.hid h
 have HDM := Lib.hid hd
 clear hb hbn hcell hd lead ha la hbk h hp
 go_enter Tryz.func106, Tryz.ntmps106
 go_wp2_with fail
 go_step3
 go_wp2_with (go_at_call 68; refine C.out.mono ?_; rintro e w' ⟨rfl, nd, rfl⟩)
 go_wp2_with (go_at_call 142; refine (LEAD.out _).mono ?_; rintro e w' ⟨rfl, rfl⟩)
 have ua : a * 2 ^ s < 2 ^ (k + 31) := by
  rw [Nat.pow_add]
  exact Nat.mul_lt_mul_of_lt_of_le HLA.out (Nat.pow_le_pow_right (by omega) hs) (Nat.pow_pos (by omega))
 have ub : val m * 2 ^ s < 2 ^ (k + 31) := by
  rw [Nat.pow_add]
  exact Nat.mul_lt_mul_of_lt_of_le HLB.out (Nat.pow_le_pow_right (by omega) hs) (Nat.pow_pos (by omega))
 have hUV : val m * 2 ^ s ≤ a * 2 ^ s := Nat.mul_le_mul_right _ HLE.out
 have hVp : 0 < val m * 2 ^ s := Nat.mul_pos (by
  rcases Nat.eq_zero_or_pos (val m) with h | h
  ·have := tm.val_zero h; subst this; have := HDM.out; simp at this
  ·exact h) (Nat.pow_pos (by omega))
 obtain ⟨U, hU⟩ : ∃ U, a * 2 ^ s = U := ⟨_, rfl⟩
 obtain ⟨V, hV⟩ : ∃ V, val m * 2 ^ s = V := ⟨_, rfl⟩
 rw [hU] at ua hUV
 rw [hV] at ub hUV hVp
 have UA := Lib.hid ua
 have UB := Lib.hid ub
 have HUV := Lib.hid hUV
 have HVP := Lib.hid hVp
 have HU := Lib.hid hU
 have HV := Lib.hid hV
 clear ua ub hUV hVp hU hV
 refine (shift _ va a k s (HA.out.drewN nd) HLA.out (by omega) hs).mono ?_
 rintro e w1 ⟨vu, rfl, hu1, hb1⟩
 rw [HU.out] at hu1
 have HU1 := Lib.hid hu1
 have HB1 := Lib.hid (below_of_drewN hb1)
 clear hu1 hb1
 go_wp2_with fail
 refine (shift _ _ (val m) k s (HB.out.below HB1.out) HLB.out (by omega) hs).mono ?_
 rintro e w2 ⟨vv, rfl, hv1, hb1⟩
 rw [HV.out] at hv1
 obtain ⟨lu, du, tu, hlu⟩ := HU1.out.below hb1
 obtain ⟨lv, dv, tv, hlv⟩ := hv1
 have hlen := length_le_of_val (m := lv) du.2 tv (by rw [hlu, hlv]; exact HUV.out)
 have lul := tu.length_le (k := k + 31) (by rw [hlu]; exact UA.out)
 have DU := Lib.hid du
 have NU := Lib.hid (show NatAt w2 vu U from ⟨lu, du, tu, hlu⟩)
 have NV := Lib.hid (show NatAt w2 vv V from ⟨lv, dv, tv, hlv⟩)
 obtain ⟨oku, AU, cu, rfl, hnu, hcu, hUu⟩ := du.open_
 obtain ⟨okv, AV, cv, rfl, hnv, hcv, hVv⟩ := dv.open_
 obtain ⟨nu, hnu'⟩ : ∃ nu, lu.length = nu := ⟨_, rfl⟩
 obtain ⟨n, hn'⟩ : ∃ n, lv.length = n := ⟨_, rfl⟩
 have hvne : lv ≠ [] := fun e => by subst e; have := HVP.out; rw [← hlv] at this; simp [val] at this
 have hnp : 0 < lv.length := List.length_pos_iff.2 hvne
 rcases hVv with hVv | ⟨b2, off2, rfl, hb2lt, hcell2⟩
 ·exact absurd hVv hvne
 obtain ⟨vt, hvt⟩ : ∃ vt, lv[n - 1]? = some vt := ⟨_, List.getElem?_eq_getElem (by omega)⟩
 have hvt0 : 0 < vt := by
  rcases Nat.eq_zero_or_pos vt with h0 | h0
  ·subst h0
   exfalso
   apply tv
   rw [List.getLast?_eq_getElem?, hn']
   exact hvt
  ·exact h0
 have hvt1 : vt < 4294967296 := okv.get hvt
 have hct := hcell2 (n - 1) vt hvt
 have hVge : vt * 4294967296 ^ (n - 1) ≤ V := by
  rw [← hlv]
  have e := val_take_succ lv (n - 1)
  rw [val_take_all (by omega), List.getD_eq_getElem?_getD, hvt] at e
  rw [e, Nat.mul_comm]
  exact Nat.le_add_left _ _
 rw [hnu'] at hlen lul hnu DU NU ⊢
 rw [hn'] at hlen hnv hnp NV ⊢
 have HUlt : Hid (U < V * 4294967296 ^ (nu - n + 1)) := Lib.hid (by
  have e1 := val_lt lu oku
  rw [hlu, hnu'] at e1
  have e2 := tv.ge hvne
  rw [hlv, hn'] at e2
  have e3 : 4294967296 ^ (n - 1) * 4294967296 ^ (nu - n + 1) ≤ V * 4294967296 ^ (nu - n + 1) := Nat.mul_le_mul_right _ e2
  rw [← Nat.pow_add, show n - 1 + (nu - n + 1) = nu by omega] at e3
  omega)
 have HVlt : Hid (V < 4294967296 ^ n) := Lib.hid (by rw [← hlv, ← hn']; exact val_lt lv okv)
 have HVG := Lib.hid hVge
 have HB2 := Lib.hid (HB1.out.trans (hb1.mono HB1.out.size))
 have HNU := Lib.hid hnu'
 clear hb1 du dv tu tv hlu hlv oku okv hUu hVge hvt hcell2 hnu' hn' hvne
 obtain ⟨i0, hi, hz0, hz1, hz2⟩ := info_parts infoU32
 obtain ⟨M, hM1, hM2⟩ : ∃ M : Nat, nu + 1 ≤ M + n ∧ M + n ≤ nu + 1 := ⟨nu + 1 - n, by omega, by omega⟩
 go_wp2_with (at_make; refine wpList_make_blk rfl _ _ 25 rfl 154 i0 (.int .u32 0) 4 Tryz.underlying25 hi hz0 hz1 hz2 rfl .i64 .i64 _ _ M rfl rfl (by omega) (by omega) (by omega) (by unfold maxLen; omega) ?_)
 intro w3 hblk hb3
 have cl : Calls Tryz.prog 67 #[.slice AU nu cu] w3 fun e w' => ∃ v', e = .returned v' ∧ NatAt w' v' U ∧ Below w3.heap.size w3 w' ∧ From v' w3.heap.size := by
  obtain ⟨l', d', t', rfl⟩ := NU.out.below hb3
  have := clone_natural w3 _ l'.length (l'.map dg) d'.1 (dg_one l') (by have := t'.length_le UA.out; omega)
  refine this.mono ?_
  rintro e w' ⟨v', rfl, h1, h2, base, hbase, hown⟩
  exact ⟨v', rfl, ⟨l', ⟨h1, d'.2⟩, t', rfl⟩, h2, (From.of_own hown).mono hbase⟩
 have CL := Lib.hid cl
 have HBK := Lib.hid (DB.of_blk (e := 154) (o := List.replicate M 0) (g := w2.heap.size) (w := w3) (by simpa [dg] using hblk))
 have HB3 := Lib.hid hb3
 have HCT := Lib.hid hct
 clear cl hblk hb3 hct
 go_wp2_with (go_at_call 67; refine CL.out.mono ?_; rintro e w4 ⟨vr0, rfl, hr4, hb4, hf4⟩)
 have HR4 := Lib.hid hr4
 have HF4 := Lib.hid (hf4.mono (B' := w2.heap.size + 1) (by have := HBK.out.lt; omega))
 have HB4 := Lib.hid (HB3.out.trans (hb4.mono HB3.out.size))
 have HBK4 := Lib.hid (HBK.out.below hb4)
 have HST : Hid (DivTo V U U (List.replicate M 0) M) := Lib.hid (DivTo.start (by rw [show M = nu - n + 1 by omega]; exact HUlt.out))
 clear hr4 hb4 hf4
 go_wp2_with fail
 go_step3
 go_wp2_with fail
 go_loopg [13, 14] M (fun g vr j wr => ∃ (q : Int) (R : Nat) (o : List Nat), j = .int .i64 q ∧ q + 1 = g ∧ g ≤ M ∧ (NatAt wr vr R ∧ From vr (w2.heap.size + 1)) ∧ DivTo V U R o g ∧ o.length = M ∧ DB wr w2.heap.size o ∧ Below w2.heap.size w2 wr)
 case atStart => exact ⟨_, U, List.replicate M 0, rfl, by omega, Nat.le_refl _, ⟨HR4.out, HF4.out⟩, HST.out, by simp, HBK4.out, HB4.out⟩
 case round =>
  obtain ⟨q, R, o, rfl, hq, hgM, ⟨hr, hfr⟩, hdiv, hol, hdb, hbel⟩ := hrel
  have HFR := Lib.hid hfr
  clear hfr
  have HR := Lib.hid hr
  have HDIV := Lib.hid hdiv
  have HOL := Lib.hid hol
  have HDB := Lib.hid hdb
  have HBEL := Lib.hid hbel
  have hsz := hbel.size
  clear hr hdiv hol hdb
  rcases Nat.eq_zero_or_pos gk with h0 | h0
  ·subst h0
   obtain rfl : q = -1 := by omega
   clear hq hbel
   have dn := HDIV.out.done
   have DD := Lib.hid (HDB.out.digAt HDIV.out.1 HOL.out (Nat.le_refl _) (by omega))
   have DN := Lib.hid dn
   have RK : Hid (R < 2 ^ (k + 31)) := Lib.hid (Nat.lt_of_le_of_lt (by rw [dn.2]; exact Nat.mod_le _ _) UA.out)
   clear dn
   go_wp2_with fail
   refine (trimmedF wr _ o DD.out (by rw [HOL.out]; omega)).mono ?_
   rintro e w5 ⟨vq, rfl, hq5, hb5, hf5⟩
   have HQ5 := Lib.hid hq5
   have HF5 := Lib.hid (hf5.mono (Nat.le_trans HB2.out.size hsz))
   have HR5 := Lib.hid (HR.out.below hb5)
   have HB5 := Lib.hid (HBEL.out.trans (hb5.mono hsz))
   clear hq5 hb5 hf5
   go_wp2_with fail
   refine (down w5 _ R (k + 31) s HR5.out RK.out (by omega) hs).mono ?_
   rintro e w6 ⟨vd, rfl, hd6, hb6⟩
   have HQ6 := Lib.hid (HQ5.out.below hb6)
   have HB6 := Lib.hid (HB5.out.trans (hb6.mono HB5.out.size))
   have HD6 := Lib.hid hd6
   clear hd6 hb6
   go_wp2_with fail
   try rw [Exit.noGoto_ret]
   go_ret2
   have e1 := DN.out
   rw [← HU.out, ← HV.out, (div_shift a (val m) s).1, (div_shift a (val m) s).2] at e1
   have e2 : R / 2 ^ s = a % val m := by rw [e1.2]; exact Nat.mul_div_cancel _ (Nat.pow_pos (by omega))
   rw [← e1.1, ← e2]
   exact ⟨_, _, rfl, HQ6.out, HD6.out, HB2.out.trans (HB6.out.mono HB2.out.size), HF5.out⟩
  ·obtain ⟨j, rfl⟩ : ∃ j, gk = j + 1 := ⟨gk - 1, by omega⟩
   obtain rfl : q = j := by omega
   clear hq h0
   obtain ⟨lr, dr, tr, hlr⟩ := HR.out
   obtain ⟨d1, hd1'⟩ : ∃ x, lr.getD (j + n) 0 = x := ⟨_, rfl⟩
   obtain ⟨d0, hd0'⟩ : ∃ x, lr.getD (j + n - 1) 0 = x := ⟨_, rfl⟩
   have b1 : d1 < 4294967296 := by rw [← hd1']; exact dr.2.getD _
   have b0 : d0 < 4294967296 := by rw [← hd0']; exact dr.2.getD _
   have c1 : ∀ W, W = wr → Calls Tryz.prog 144 #[u13, .int .i64 ((j : Int) + (n : Int))] W fun e w' => e = .returned (.int .u64 (d1 : Int)) ∧ W = w' := by
    intro W hW
    rw [hW]
    have := digit wr u13 lr ((j : Int) + (n : Int)) dr (by omega) (by omega)
    rw [if_neg (by omega), show ((j : Int) + (n : Int)).toNat = j + n by omega, hd1'] at this
    exact this.mono fun _ _ ⟨h1, h2⟩ => ⟨h1, h2.symm⟩
   have c0 : ∀ W, W = wr → Calls Tryz.prog 144 #[u13, .int .i64 ((j : Int) + (n : Int) - 1)] W fun e w' => e = .returned (.int .u64 (d0 : Int)) ∧ W = w' := by
    intro W hW
    rw [hW]
    have := digit wr u13 lr ((j : Int) + (n : Int) - 1) dr (by omega) (by omega)
    rw [if_neg (by omega), show ((j : Int) + (n : Int) - 1).toNat = j + n - 1 by omega, hd0'] at this
    exact this.mono fun _ _ ⟨h1, h2⟩ => ⟨h1, h2.symm⟩
   obtain ⟨T, hT⟩ : ∃ T, T = d1 * 4294967296 + d0 := ⟨_, rfl⟩
   have hTb : T < 18446744073709551616 := by omega
   have hTR : T = R / 4294967296 ^ (j + (n - 1)) := by
    rw [hT, ← hd1', ← hd0', ← hlr, show j + n = (j + (n - 1)) + 1 by omega, show j + (n - 1) + 1 - 1 = j + (n - 1) by omega]
    refine top_two dr.2 ?_
    rw [hlr]
    have h1 := HDIV.out.2.2.2.2
    have h2 : V * 4294967296 ^ (j + 1) < 4294967296 ^ n * 4294967296 ^ (j + 1) := Nat.mul_lt_mul_of_pos_right HVlt.out (Nat.pow_pos (by omega))
    rw [← Nat.pow_add, show n + (j + 1) = j + (n - 1) + 2 by omega] at h2
    omega
   have hG := guess_ok (V := V) (R := R) (j := j) (n := n - 1) (vt := vt) (top := T) HVG.out hvt0 HDIV.out.2.2.2.2 hTR
   have hor := or64 d1 d0 b1 b0
   rw [← hT] at hor
   obtain ⟨Q, hQ⟩ : ∃ Q, T / vt = Q := ⟨_, rfl⟩
   have hQb : Q ≤ T := by rw [← hQ]; exact Nat.div_le_self _ _
   have hdv : (T : Int) / (vt : Int) = (Q : Int) := by rw [← hQ, Int.natCast_ediv]
   rw [hQ] at hG
   have HG := Lib.hid hG
   have C1 := Lib.hid c1
   have C0 := Lib.hid c0
   have hctr := (hbel.cell (p := ⟨b2, off2 + (n - 1), none⟩) hb2lt).trans HCT.out
   have NVR := Lib.hid (NV.out.below hbel)
   clear hG c1 c0 hT hTR hlr tr dr hd1' hd0' hbel hQ
   go_wp2_with fail
   refine (C1.out _ rfl).mono ?_
   rintro e w' ⟨rfl, rfl⟩
   go_wp2_with fail
   refine (C0.out _ rfl).mono ?_
   rintro e w' ⟨rfl, rfl⟩
   go_wp2_with fail
   have RK : Hid (R < 2 ^ (k + 31)) := Lib.hid (by
    have h1 := HDIV.out.2.2.2.1
    have h2 := UA.out
    omega)
   have RJ := Lib.hid (show j ≤ 4398046511104 by omega)
   clear hor hdv hctr hTb hQb b1 b0
   obtain ⟨wo, rfl⟩ : ∃ wo : World, wo = wr := ⟨_, rfl⟩
   go_loopg [13, 16] (min Q 4294967295) (fun g2 vr gs wx => gs = .int .u64 (g2 : Int) ∧ g2 ≤ 4294967295 ∧ (NatAt wx vr R ∧ From vr (w2.heap.size + 1)) ∧ R < (g2 + 1) * (V * 4294967296 ^ j) ∧ Below wo.heap.size wo wx)
   case atStart => exact ⟨int_eq (by omega), by omega, ⟨HR.out, HFR.out⟩, HG.out, Below.refl _ _⟩
   case round =>
    obtain ⟨rfl, hg2, ⟨hrx, hfx⟩, hRg, hbx⟩ := hrel
    have HFX := Lib.hid hfx
    clear hfx
    have HRG := Lib.hid hRg
    have HBX := Lib.hid hbx
    have HRX := Lib.hid hrx
    have HDX := Lib.hid (HDB.out.below hbx)
    have NVX := Lib.hid (NVR.out.below hbx)
    have hszx := hbx.size
    have HBW := Lib.hid (HBEL.out.trans (hbx.mono hsz))
    clear C1 C0 CL HBK HB3 HCT HR4 HB4 HBK4 HST C HA HB HLA HLB HLE HDM LEAD hc0 hd0 hd1 hp1 hp2 hblt HB1 NU DU HUlt HVlt HVG HNU HUV HVP HU HV HU1 hc hi hz0 hz1 hz2 hvt0 hvt1 tm
    clear hRg hbx hrx
    rcases Nat.eq_zero_or_pos gk with h0 | h0
    ·subst h0
     have dv := HDIV.out.skip (by have := HRG.out; rw [Nat.zero_add, Nat.one_mul] at this; exact this)
     have DV := Lib.hid dv
     clear dv
     go_wp2_with fail
     go_roundg j
     case measure => omega
     case rel => exact ⟨(j : Int) - 1, R, o, rfl, by omega, by omega, ⟨HRX.out, HFX.out⟩, DV.out, HOL.out, HDX.out, HBW.out⟩
    ·have hne : ((gk : Int) != 0) = true := by simp; omega
     go_wp2_with fail
     refine (small wr gk (by omega)).mono ?_
     rintro e w5 ⟨v5, rfl, h5, hb5⟩
     have H5 := Lib.hid h5
     have NV5 := Lib.hid (NVX.out.below hb5)
     have BX5 := Lib.hid (HBX.out.trans (hb5.mono hszx))
     have BR5 := Lib.hid hb5
     clear h5 hb5
     go_wp2_with fail
     have gb : gk < 2 ^ 32 := by omega
     refine (mul w5 _ _ V gk (k + 31) 32 NV5.out H5.out UB.out gb (by omega) (by omega)).mono ?_
     rintro e w6 ⟨v6, rfl, h6, hb6⟩
     have H6 := Lib.hid h6
     have BX6 := Lib.hid (BX5.out.trans (hb6.mono BX5.out.size))
     have PB : Hid (V * gk < 2 ^ (k + 31 + 32)) := Lib.hid (by
      rw [Nat.pow_add]
      exact Nat.mul_lt_mul_of_lt_of_le UB.out (Nat.le_of_lt gb) (Nat.pow_pos (by omega)))
     have BR6 := Lib.hid (BR5.out.trans (hb6.mono BR5.out.size))
     clear h6 hb6 gb
     go_wp2_with fail
     refine (shifted w6 _ (V * gk) (k + 31 + 32) j H6.out PB.out (by omega) RJ.out).mono ?_
     rintro e w7 ⟨v7, rfl, h7, hb7⟩
     have H7 := Lib.hid h7
     have BX7 := Lib.hid (BX6.out.trans (hb7.mono BX6.out.size))
     clear h7
     have BR7 : Hid (Below wr.heap.size wr w7) := Lib.hid (BR6.out.trans (hb7.mono BR6.out.size))
     have R7 := Lib.hid (HRX.out.below BR7.out)
     clear hb7
     have c := compare w7 v7 _ _ R H7.out R7.out
     have RB : Hid (R < 2 ^ (k + 31)) := RK
     by_cases hle : V * gk * 4294967296 ^ j ≤ R
     ·have hcc : cmpN (V * gk * 4294967296 ^ j) R ≤ 0 := by
       unfold cmpN; split <;> (try split) <;> omega
      generalize cmpN (V * gk * 4294967296 ^ j) R = c2 at *
      have hdec : decide (0 < c2) = false := by rw [decide_eq_false_iff_not]; omega
      clear hcc
      have C2 := Lib.hid c
      have HLE2 := Lib.hid hle
      clear c hle
      go_wp2_with fail
      refine C2.out.mono ?_
      rintro e w' ⟨rfl, nd2, rfl⟩
      go_wp2_with fail
      refine (subF _ _ _ R _ (k + 31) (R7.out.drewN nd2) (H7.out.drewN nd2) RB.out HLE2.out (by omega)).mono ?_
      rintro e w8 ⟨v8, rfl, h8, hb8, hf8⟩
      have BX8 := Lib.hid (BX7.out.trans ((below_of_drewN hb8).mono BX7.out.size))
      have D8 := Lib.hid (HDB.out.below BX8.out)
      have H8 := Lib.hid (h8.setFar (p := ⟨w2.heap.size, j, none⟩) (hf8.mono (B' := w2.heap.size + 1) (by have := HDX.out.lt; have := BR7.out.size; show w2.heap.size + 1 ≤ w7.heap.size; omega)) (Nat.lt_succ_self _) (.int .u32 (gk : Int)))
      have HF8 := Lib.hid (hf8.mono (B' := w2.heap.size + 1) (by have := HDX.out.lt; have := BR7.out.size; show w2.heap.size + 1 ≤ w7.heap.size; omega))
      have HBW8 := Lib.hid (HBEL.out.trans (BX8.out.mono hsz))
      clear h8 hb8 hf8
      have dv := HDIV.out.step (q := gk) (by omega) HLE2.out HRG.out
      have DV := Lib.hid dv
      have hjo : j < o.length := by rw [HOL.out]; omega
      have HJO := Lib.hid hjo
      have hz := D8.out.cell hjo
      have hfz := D8.out.frozen j
      clear dv hjo
      go_wp2_with fail
      go_roundg j
      case measure => omega
      case rel => exact ⟨(j : Int) - 1, _, o.set j gk, rfl, by omega, by omega, ⟨H8.out, HF8.out⟩, DV.out, by rw [List.length_set]; exact HOL.out, D8.out.set HJO.out rfl, HBW8.out.setCell (p := ⟨w2.heap.size, j, none⟩) (Nat.le_refl _) _⟩
     ·have hcc : cmpN (V * gk * 4294967296 ^ j) R = 1 := cmpN_gt (by omega)
      rw [hcc] at c
      have C2 := Lib.hid c
      have HLE2 := Lib.hid hle
      clear c hle hcc
      go_wp2_with fail
      refine C2.out.mono ?_
      rintro e w' ⟨rfl, nd2, rfl⟩
      obtain ⟨g, rfl⟩ : ∃ g, gk = g + 1 := ⟨gk - 1, by omega⟩
      have RG : Hid (R < (g + 1) * (V * 4294967296 ^ j)) := Lib.hid (by
       have h1 := HLE2.out
       have h2 : (g + 1) * (V * 4294967296 ^ j) = V * (g + 1) * 4294967296 ^ j := by grind
       omega)
      go_wp2_with fail
      go_roundg g
      case measure => omega
      case rel => exact ⟨rfl, by omega, ⟨R7.out.drewN nd2, HFX.out⟩, RG.out, below_drewN BX7.out nd2⟩
theorem div (w : World) (va vb : Value) (a b k : Nat) (ha : NatAt w va a) (hb : NatAt w vb b) (la : a < 2 ^ k) (hk : k ≤ 17592186044416) (h0 : 0 < b) :
  Calls Tryz.prog 106 #[va, vb] w fun e w' => ∃ q r, e = .returned (.tuple #[q, r]) ∧ NatAt w' q (a / b) ∧ NatAt w' r (a % b) ∧ Below w.heap.size w w' ∧ From q w.heap.size := by
 rcases Nat.lt_or_ge a b with h | h
 ·exact div_lt w va vb a b k ha hb la (by omega) h
 obtain ⟨m, dm, tm, rfl⟩ := hb
 obtain ⟨_, A, c, rfl, _, _, _⟩ := dm.open_
 rcases Nat.lt_or_ge m.length 2 with h1 | h1
 ·match m, h1 with
  | [], _ => simp [val] at h0
  | [d], _ =>
   simp only [val, Nat.mul_zero, Nat.add_zero] at h h0 ⊢
   exact div_one w va a d k A c ha dm la (by omega) h0 h
 ·exact div_long w va a k m.length A c m ha dm tm rfl h1 la hk h

set_option maxRecDepth 1000000 in
set_option maxHeartbeats 1000000 in
theorem gcd (w : World) (va vb : Value) (a b k : Nat) (ha : NatAt w va a) (hb : NatAt w vb b) (la : a < 2 ^ k) (lb : b < 2 ^ k) (hk : k ≤ 17592186044416) :
  Calls Tryz.prog 105 #[va, vb] w fun e w' => ∃ v', e = .returned v' ∧ NatAt w' v' (Nat.gcd a b) ∧ Below w.heap.size w w' := by
 have HA := Lib.hid ha
 have HB := Lib.hid hb
 have LA := Lib.hid la
 have LB := Lib.hid lb
 clear ha hb la lb
 go_enter Tryz.func105, Tryz.ntmps105
 go_wp2_with fail
 go_loopg [0, 1] b (fun g va vb wr => ∃ x, NatAt wr va x ∧ NatAt wr vb g ∧ Nat.gcd x g = Nat.gcd a b ∧ x < 2 ^ k ∧ g < 2 ^ k ∧ Below w.heap.size w wr)
 case atStart => exact ⟨a, HA.out, HB.out, rfl, LA.out, LB.out, Below.refl _ _⟩
 case round =>
  obtain ⟨x, hx, hy, hg, lx, ly, hbel⟩ := hrel
  obtain ⟨m, dm, tm, hm⟩ := hy
  obtain ⟨_, A, c, rfl, hlc, hcm, _⟩ := dm.open_
  have HY := Lib.hid (show NatAt wr (.slice A m.length c) gk from ⟨m, dm, tm, hm⟩)
  have h0 := tm.eq_nil
  rw [hm] at h0
  have H0 := Lib.hid h0
  have HX := Lib.hid hx
  have HG := Lib.hid hg
  have LX := Lib.hid lx
  have LY := Lib.hid ly
  have HBEL := Lib.hid hbel
  clear hx dm tm hm hg lx ly hbel h0
  rcases Nat.eq_zero_or_pos gk with h | h
  ·subst h
   have hm : m = [] := H0.out.1 rfl
   subst hm
   go_wp2_with fail
   go_ret
   have hg := HG.out
   rw [Nat.gcd_zero_right] at hg
   rw [← hg]
   exact ⟨_, rfl, HX.out, HBEL.out⟩
  ·have hml : 0 < m.length := List.length_pos_iff.2 fun e => by have := H0.out.2 e; omega
   go_wp2_with (go_at_call 106; refine (div wr _ _ x gk k HX.out HY.out LX.out hk h).mono ?_; rintro e w1 ⟨q, r, rfl, hq, hr, hb1, _⟩)
   have HR := Lib.hid hr
   have HY1 := Lib.hid (HY.out.below hb1)
   have HB1 := Lib.hid (HBEL.out.trans (hb1.mono HBEL.out.size))
   clear hq hr hb1
   go_wp2_with fail
   have hlt := Nat.mod_lt x h
   go_roundg (x % gk)
   case measure => exact hlt
   case rel => exact ⟨gk, HY1.out, HR.out, by rw [← HG.out, Nat.gcd_comm x gk, Nat.gcd_rec gk x, Nat.gcd_comm], LY.out, Nat.lt_of_lt_of_le hlt (Nat.le_of_lt LY.out), HB1.out⟩
def Off (v : Value) (F : Nat) : Prop := ∀ ad n c, v = .slice (some ad) n c → 0 < n → ad.block ≠ F
theorem From.off {v : Value} {B F : Nat} (h : From v B) (hf : F < B) : Off v F := fun ad n c e _ => by have := h ad n c e; omega
theorem Sl.off {w : World} {sz : Nat} {v : Value} {n F : Nat} {xs : List Value} (h : Sl w sz v n xs) (hf : w.heap.size ≤ F) : Off v F := by
 obtain ⟨_, A, c, rfl, _, _, h5⟩ := h
 intro ad n' c' e hn
 cases e
 obtain ⟨b, off, e, hb, _⟩ := h5 hn
 cases e
 simp only
 omega
theorem NatAt.off {w : World} {v : Value} {n F : Nat} (h : NatAt w v n) (hf : w.heap.size ≤ F) : Off v F := by
 obtain ⟨l, d, _⟩ := h
 exact d.1.off hf
theorem Sl.setOff {w : World} {sz : Nat} {v : Value} {n : Nat} {xs : List Value} (h : Sl w sz v n xs) {p : Addr} (hf : Off v p.block) (u : Value) : Sl (w.setCell p u) sz v n xs := by
 obtain ⟨h0, A, c, h1, h2, h3, h5⟩ := h
 refine ⟨h0, A, c, h1, h2, h3, fun hn => ?_⟩
 obtain ⟨b, off, e, hlt, hc⟩ := h5 hn
 subst e
 have hb := hf _ _ _ h1 hn
 refine ⟨b, off, rfl, by simpa [World.setCell] using hlt, fun j x hx => ?_⟩
 rw [World.cell?_setCell_other w p _ u (fun e => hb (by rw [e]))]
 exact hc j x hx
theorem NatAt.setOff {w : World} {v : Value} {n : Nat} (h : NatAt w v n) {p : Addr} (hf : Off v p.block) (u : Value) : NatAt (w.setCell p u) v n := by
 obtain ⟨l, ⟨h1, h2⟩, h3⟩ := h
 exact ⟨l, ⟨h1.setOff hf u, h2⟩, h3⟩

def NumAt (w : World) (v : Value) (q : Rat) : Prop := ∃ vn vd, v = .agg #[.bool (isNeg q), vn, vd] ∧ NatAt w vn q.num.natAbs ∧ NatAt w vd q.den
theorem NumAt.below {w w' : World} {v : Value} {q : Rat} (h : NumAt w v q) (hb : Below w.heap.size w w') : NumAt w' v q := by
 obtain ⟨vn, vd, e, h1, h2⟩ := h
 exact ⟨vn, vd, e, h1.below hb, h2.below hb⟩

def NumNew (B : Nat) (w : World) (v : Value) (q : Rat) : Prop := ∃ vn vd, v = .agg #[.bool (isNeg q), vn, vd] ∧ NatAt w vn q.num.natAbs ∧ NatAt w vd q.den ∧ From vn B ∧ From vd B
theorem NumNew.at_ {B : Nat} {w : World} {v : Value} {q : Rat} (h : NumNew B w v q) : NumAt w v q := by
 obtain ⟨vn, vd, e, h1, h2, _⟩ := h
 exact ⟨vn, vd, e, h1, h2⟩
theorem NumNew.below {B : Nat} {w w' : World} {v : Value} {q : Rat} (h : NumNew B w v q) (hb : Below w.heap.size w w') : NumNew B w' v q := by
 obtain ⟨vn, vd, e, h1, h2, h3⟩ := h
 exact ⟨vn, vd, e, h1.below hb, h2.below hb, h3⟩
theorem NumNew.mono {B B' : Nat} {w : World} {v : Value} {q : Rat} (h : NumNew B w v q) (hb : B' ≤ B) : NumNew B' w v q := by
 obtain ⟨vn, vd, e, h1, h2, h3, h4⟩ := h
 exact ⟨vn, vd, e, h1, h2, h3.mono hb, h4.mono hb⟩

theorem NatAt.box3 {w : World} {v : Value} {n B : Nat} (h : NatAt w v n) (hf : From v (B + 1)) (u0 u1 u2 : Value) :
  NatAt (((w.setCell ⟨B, 0, none⟩ u0).setCell ⟨B, 1, none⟩ u1).setCell ⟨B, 2, none⟩ u2) v n :=
 ((h.setFar hf (p := ⟨B, 0, none⟩) (Nat.lt_succ_self _) u0).setFar hf (p := ⟨B, 1, none⟩) (Nat.lt_succ_self _) u1).setFar hf (p := ⟨B, 2, none⟩) (Nat.lt_succ_self _) u2
theorem cell_box3 {w : World} {B : Nat} {p : Addr} {x : Value} (h : w.cell? p = some x) (hp : p.block ≠ B) (u0 u1 u2 : Value) :
  (((w.setCell ⟨B, 0, none⟩ u0).setCell ⟨B, 1, none⟩ u1).setCell ⟨B, 2, none⟩ u2).cell? p = some x := by
 rw [World.cell?_setCell_other _ _ _ _ (fun e => hp (by rw [← e])), World.cell?_setCell_other _ _ _ _ (fun e => hp (by rw [← e])), World.cell?_setCell_other _ _ _ _ (fun e => hp (by rw [← e]))]
 exact h
theorem Blk.box3 {w : World} {B : Nat} {e : TypeId} {a b c : Value} (h : Blk w B e [a, b, c]) (u0 u1 u2 : Value) :
  Blk (((w.setCell ⟨B, 0, none⟩ u0).setCell ⟨B, 1, none⟩ u1).setCell ⟨B, 2, none⟩ u2) B e [u0, u1, u2] := ((h.set_ 0 u0).set_ 1 u1).set_ 2 u2
theorem Blk.box3far {w : World} {B g : Nat} {e : TypeId} {xs : List Value} (h : Blk w g e xs) (hg : g ≠ B) (u0 u1 u2 : Value) :
  Blk (((w.setCell ⟨B, 0, none⟩ u0).setCell ⟨B, 1, none⟩ u1).setCell ⟨B, 2, none⟩ u2) g e xs :=
 ((h.far (p := ⟨B, 0, none⟩) hg u0).far (p := ⟨B, 1, none⟩) hg u1).far (p := ⟨B, 2, none⟩) hg u2
theorem NatAt.box3off {w : World} {v : Value} {n B : Nat} (h : NatAt w v n) (hf : Off v B) (u0 u1 u2 : Value) :
  NatAt (((w.setCell ⟨B, 0, none⟩ u0).setCell ⟨B, 1, none⟩ u1).setCell ⟨B, 2, none⟩ u2) v n :=
 ((h.setOff (p := ⟨B, 0, none⟩) hf u0).setOff (p := ⟨B, 1, none⟩) hf u1).setOff (p := ⟨B, 2, none⟩) hf u2
theorem below_box3 {w w' : World} {B0 B : Nat} (h : Below B0 w w') (hb : B0 ≤ B) (u0 u1 u2 : Value) :
  Below B0 w (((w'.setCell ⟨B, 0, none⟩ u0).setCell ⟨B, 1, none⟩ u1).setCell ⟨B, 2, none⟩ u2) :=
 ((h.setCell (p := ⟨B, 0, none⟩) hb u0).setCell (p := ⟨B, 1, none⟩) hb u1).setCell (p := ⟨B, 2, none⟩) hb u2

theorem NatAt.len {w : World} {v : Value} {n : Nat} (h : NatAt w v n) : ∃ A m c, v = .slice A m c ∧ m ≤ 9223372036854775807 ∧ (0 < m ↔ 0 < n) := by
 obtain ⟨l, d, t, rfl⟩ := h
 obtain ⟨_, A, c, rfl, hlc, hcm, _⟩ := d.open_
 refine ⟨A, l.length, c, rfl, by omega, ?_⟩
 rw [List.length_pos_iff, Nat.pos_iff_ne_zero]
 exact (not_congr t.eq_nil).symm

theorem Blk.three {w : World} {g : Nat} {e : TypeId} {a b c : Value} (h : Blk w g e [a, b, c]) :
  w.cell? ⟨g, 0, none⟩ = some a ∧ w.cell? ⟨g, 1, none⟩ = some b ∧ w.cell? ⟨g, 2, none⟩ = some c ∧ w.frozen? ⟨g, 0, none⟩ = false ∧ w.frozen? ⟨g, 1, none⟩ = false ∧ w.frozen? ⟨g, 2, none⟩ = false :=
 ⟨h.cell 0, h.cell 1, h.cell 2, h.frozen 0, h.frozen 1, h.frozen 2⟩
theorem NumNew.open_ {B : Nat} {w : World} {v : Value} {q : Rat} (h : NumNew B w v q) : ∃ A m c A' m' c', v = .agg #[.bool (isNeg q), .slice A m c, .slice A' m' c'] ∧ NatAt w (.slice A m c) q.num.natAbs ∧ NatAt w (.slice A' m' c') q.den ∧ From (.slice A m c) B ∧ From (.slice A' m' c') B := by
 obtain ⟨vn, vd, rfl, h1, h2, h3, h4⟩ := h
 obtain ⟨A, m, c, rfl, _⟩ := h1.len
 obtain ⟨A', m', c', rfl, _⟩ := h2.len
 exact ⟨A, m, c, A', m', c', rfl, h1, h2, h3, h4⟩
theorem NumAt.open_ {w : World} {v : Value} {q : Rat} (h : NumAt w v q) : ∃ A m c A' m' c', v = .agg #[.bool (isNeg q), .slice A m c, .slice A' m' c'] ∧ m ≤ 9223372036854775807 ∧ m' ≤ 9223372036854775807 ∧ (0 < m ↔ 0 < q.num.natAbs) ∧ NatAt w (.slice A m c) q.num.natAbs ∧ NatAt w (.slice A' m' c') q.den := by
 obtain ⟨vn, vd, rfl, h1, h2⟩ := h
 obtain ⟨A, m, c, rfl, hm, hp⟩ := h1.len
 obtain ⟨A', m', c', rfl, hm', _⟩ := h2.len
 exact ⟨A, m, c, A', m', c', rfl, hm, hm', hp, h1, h2⟩
theorem NumNew.box3 {B g : Nat} {w : World} {q : Rat} {A A' : Option Addr} {m c m' c' : Nat} (h1 : NatAt w (.slice A m c) q.num.natAbs) (h2 : NatAt w (.slice A' m' c') q.den) (h3 : From (.slice A m c) B) (h4 : From (.slice A' m' c') B) (hg : g < B) (u0 u1 u2 : Value) :
  NumNew B (((w.setCell ⟨g, 0, none⟩ u0).setCell ⟨g, 1, none⟩ u1).setCell ⟨g, 2, none⟩ u2) (.agg #[.bool (isNeg q), .slice A m c, .slice A' m' c']) q :=
 ⟨_, _, rfl, h1.box3 (h3.mono hg) _ _ _, h2.box3 (h4.mono hg) _ _ _, h3, h4⟩

set_option maxRecDepth 1000000 in
set_option maxHeartbeats 1000000 in
theorem reduced (w : World) (neg : Bool) (vn vd : Value) (n d k : Nat) (hn : NatAt w vn n) (hd : NatAt w vd d) (ln : n < 2 ^ k) (ld : d < 2 ^ k) (hk : k ≤ 17592186044416) (h0 : 0 < d) :
  Calls Tryz.prog 66 #[.bool neg, vn, vd] w fun e w' => ∃ v', e = .returned v' ∧ NumNew w.heap.size w' v' (mkRat (sgn neg n) d) ∧ Below w.heap.size w w' := by
 have HN := Lib.hid hn
 have HD := Lib.hid hd
 have LN := Lib.hid ln
 have LD := Lib.hid ld
 obtain ⟨r1, r2⟩ := red neg n d h0
 have R1 := Lib.hid r1
 have R2 := Lib.hid r2
 have hg0 : 0 < Nat.gcd n d := Nat.gcd_pos_of_pos_right _ h0
 clear hn hd ln ld r1 r2
 generalize hg : Nat.gcd n d = g at *
 have HGE := Lib.hid hg
 clear hg
 have HW : Hid (∀ o, Below w.heap.size w (w.alloc o)) := Lib.hid (fun o => (Below.refl _ _).alloc (Nat.le_refl _) o)
 go_enter Tryz.func66, Tryz.ntmps66
 go_wp2_with fail
 refine (gcd _ vn vd n d k (HN.out.alloc _) (HD.out.alloc _) LN.out LD.out hk).mono ?_
 rintro e w1 ⟨vg, rfl, hg1, hb1⟩
 rw [HGE.out] at hg1
 have HG1 := Lib.hid hg1
 have hs1 : w.heap.size + 1 ≤ w1.heap.size := by have := hb1.size; simpa using this
 have HN1 := Lib.hid ((HN.out.alloc _).below hb1)
 have HD1 := Lib.hid ((HD.out.alloc _).below hb1)
 have HB1 := Lib.hid ((HW.out _).trans (hb1.mono (by simp)))
 have BX1 := Lib.hid ((Blk.new w 97 [.bool false, .slice none 0 0, .slice none 0 0]).below' hb1)
 clear hg1 hb1
 go_wp2_with fail
 refine (div w1 vn vg n g k HN1.out HG1.out LN.out hk hg0).mono ?_
 rintro e w2 ⟨vq, vr, rfl, hq2, _, hb2, hf2⟩
 have HQ2 := Lib.hid hq2
 have HB2 := Lib.hid (HB1.out.trans (hb2.mono (by omega)))
 have HG2 := Lib.hid (HG1.out.below hb2)
 have HD2 := Lib.hid (HD1.out.below hb2)
 have HF2 := Lib.hid (hf2.mono hs1)
 have BX2 := Lib.hid (BX1.out.below' hb2)
 have hs2 : w.heap.size + 1 ≤ w2.heap.size := by have := hb2.size; omega
 clear hq2 hb2 hf2
 go_wp2_with fail
 refine (div w2 vd vg d g k HD2.out HG2.out LD.out hk hg0).mono ?_
 rintro e w3 ⟨vq', vr', rfl, hq3, _, hb3, hf3⟩
 have HQ3 := Lib.hid hq3
 have HB3 := Lib.hid (HB2.out.trans (hb3.mono (by omega)))
 have HQ2' := Lib.hid (HQ2.out.below hb3)
 have HF3 := Lib.hid (hf3.mono hs2)
 have BX3 := Lib.hid (BX2.out.below' hb3)
 have hs3 : w.heap.size + 1 ≤ w3.heap.size := by have := hb3.size; omega
 clear hq3 hb3 hf3
 obtain ⟨A, m, c, rfl, hm, hmp⟩ := HQ2'.out.len
 obtain ⟨A', m', c', rfl, hm', _⟩ := HQ3.out.len
 have hb : isNeg (mkRat (sgn neg n) d) = (neg && decide (0 < m)) := by
  rw [isNeg_sgn R1.out]
  congr 1
  exact decide_eq_decide.2 hmp.symm
 have HBN := Lib.hid hb
 clear hmp hb
 have hc0 := BX3.out.cell 0
 have hc1 := BX3.out.cell 1
 have hc2 := BX3.out.cell 2
 have hz0 := BX3.out.frozen 0
 have hz1 := BX3.out.frozen 1
 have hz2 := BX3.out.frozen 2
 simp only [List.getElem?_cons_zero, List.getElem?_cons_succ] at hc0 hc1 hc2
 have fin : ∀ (b : Bool), b = (neg && decide (0 < m)) → NumNew w.heap.size (((w3.setCell ⟨w.heap.size, 0, none⟩ (.bool b)).setCell ⟨w.heap.size, 1, none⟩ (.slice A m c)).setCell ⟨w.heap.size, 2, none⟩ (.slice A' m' c')) (.agg #[.bool b, .slice A m c, .slice A' m' c']) (mkRat (sgn neg n) d) ∧
   Below w.heap.size w (((w3.setCell ⟨w.heap.size, 0, none⟩ (.bool b)).setCell ⟨w.heap.size, 1, none⟩ (.slice A m c)).setCell ⟨w.heap.size, 2, none⟩ (.slice A' m' c')) := by
  intro b hb
  refine ⟨⟨_, _, by rw [HBN.out, ← hb], ?_, ?_, HF2.out.mono (Nat.le_succ _), HF3.out.mono (Nat.le_succ _)⟩, below_box3 HB3.out (Nat.le_refl _) _ _ _⟩
  ·rw [R1.out, sgn_natAbs]
   exact HQ2'.out.box3 HF2.out _ _ _
  ·rw [R2.out]
   exact HQ3.out.box3 HF3.out _ _ _
 have FIN := Lib.hid fin
 clear fin
 cases neg
 ·go_wp2_with fail
  exact bodyPost_ret (v := .agg #[.bool false, .slice A m c, .slice A' m' c']) (by simp [results, Tryz.results66, go_sem, hc0, hc1, hc2]) rfl ⟨_, rfl, FIN.out false (by simp)⟩
 ·by_cases h : 0 < m
  ·go_wp2_with fail
   exact bodyPost_ret (v := .agg #[.bool true, .slice A m c, .slice A' m' c']) (by simp [results, Tryz.results66, go_sem, hc0, hc1, hc2]) rfl ⟨_, rfl, FIN.out true (by simp [h])⟩
  ·go_wp2_with fail
   exact bodyPost_ret (v := .agg #[.bool false, .slice A m c, .slice A' m' c']) (by simp [results, Tryz.results66, go_sem, hc0, hc1, hc2]) rfl ⟨_, rfl, FIN.out false (by simp [h])⟩
end Go.Proofs.YtlhankdkhiilkaaGreat
