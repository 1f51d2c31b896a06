/- Lemmas on the way: Gs1. -/
import Derived.Test.YtjebfdfkjlkifaaGreatE43
import Derived.Test.YtjebfdfkjlkifaaGreatE44
import Derived.Test.YtjebfdfkjlkifaaGreatE45
set_option linter.unusedSimpArgs false
set_option linter.unusedVariables false
set_option linter.unusedSectionVars false
set_option linter.unnecessarySimpa false
namespace Go.Proofs.YtjebfdfkjlkifaaGreat
open Go.RowKit
theorem sgnI_gt {q : Rat} (h : 0 < q) : 0 < sgnI q := by
 unfold sgnI
 split
 ·next e => exact absurd e (ne_pos h)
 ·split
  ·next h1 => exact absurd h (Rat.not_lt.2 (Rat.le_of_lt h1))
  ·omega
theorem thin_ok {V : Int} {gs : List Gr} {a : Raw} {rs : List Raw} (h : thinB V gs a rs = true) : smallB V gs = true ∧ rs.length ≤ 8 ∧ a.thin = true ∧ rs.all Raw.thin = true := by
 unfold thinB at h
 simp only [Bool.and_eq_true, decide_eq_true_eq] at h
 exact ⟨h.1, h.2.1, h.2.2.1, h.2.2.2⟩
theorem small_ok {V : Int} {gs : List Gr} (h : smallB V gs = true) : gs.length ≤ 60 ∧ V ≤ 8 := by
 unfold smallB at h
 simp only [Bool.and_eq_true, decide_eq_true_eq] at h
 exact h.1
theorem hist_of {O V : Int} {gs : List Gr} {k : Int} {a : Rat} {mix : List Rat} {hl : List Int} (h : checkE O V gs k a mix = 0) (hb : (((hl.length : Int) == O - 1) && inR 0 V hl) = true) : histE O V gs k a mix hl = 0 := by
 unfold histE
 rw [if_neg (by rw [h]; decide), if_pos (by simpa using hb)]
theorem LangAt.of {w : World} {lv : Value} {V : Int} {gs : List Gr} {s : Bool} {A A' : Option Addr} {m c m' c' : Nat} {mv : Value} {am : Raw} {rs : List Raw} (hg : GramsAt w lv gs) (ha : RawAt w (.agg #[.bool s, .slice A m c, .slice A' m' c']) am) (hm : RawsAt w mv rs) (h : thinB V gs am rs = true) : LangAt w lv gs s A A' m c m' c' am.q mv (rs.map Raw.q) :=
 ⟨hg, ha.frac (thin_ok h).2.2.1, hm.fracs (thin_ok h).2.2.2, by rw [List.length_map]; have := (thin_ok h).2.1; omega⟩

set_option maxRecDepth 1000000 in
set_option maxHeartbeats 16000000 in
theorem gramSumsG (hsort : SortOk) (w : World) (O V : Int) (Al : Option Addr) (nl cl : Nat) (gs : List Gr) (k : Int) (s : Bool) (A A' : Option Addr) (m c m' c' : Nat) (mv : Value) (am : Raw) (rs : List Raw) (hv : Value) (hl : List Int) (hg : GramsAt w (.slice Al nl cl) gs) (ha : RawAt w (.agg #[.bool s, .slice A m c, .slice A' m' c']) am) (hm : RawsAt w mv rs) (hh : IntsAt w hv hl) (hO : -9223372036854775808 ≤ O ∧ O ≤ 9223372036854775807) :
  Calls Tryz.prog 6 #[langV O V (.slice Al nl cl) k s A A' m c m' c' mv, hv] w fun e w' => e = .returned (.bool true) ∧ Below w.heap.size w w' := by
 obtain ⟨Am, cm, rfl, hmc, hcm, _⟩ := hm.open_
 obtain ⟨Ah, ch, rfl, hlc, hcm', _⟩ := hh.open_
 have HK := Lib.hid (knownS hsort)
 have HG := Lib.hid hg
 have HA := Lib.hid ha
 have HM := Lib.hid hm
 have HH := Lib.hid hh
 obtain ⟨ml, hml⟩ : ∃ n, rs.length = n := ⟨_, rfl⟩
 obtain ⟨nh, hnh⟩ : ∃ n, hl.length = n := ⟨_, rfl⟩
 have HTN : Hid (∀ w', Below w.heap.size w w' → Calls Tryz.prog 25 #[langV O V (.slice Al nl cl) k s A A' m c m' c' (.slice Am ml cm)] w' fun e w2 => e = .returned (.bool (thinB V gs am rs)) ∧ Below w'.heap.size w' w2) := Lib.hid (fun w' hb => by
  rw [← hml]
  exact thinG w' O V (.slice Al nl cl) gs k s A A' m c m' c' _ am rs (hg.below hb) (ha.below hb) (hm.below hb))
 have HLA : Hid (thinB V gs am rs = true → ∀ w', Below w.heap.size w w' → LangAt w' (.slice Al nl cl) gs s A A' m c m' c' am.q (.slice Am ml cm) (rs.map Raw.q)) := Lib.hid (fun ht w' hb => by
  rw [← hml]
  exact (LangAt.of hg ha hm ht).below hb)
 have HHA : Hid (∀ w', Below w.heap.size w w' → IntsAt w' (.slice Ah nh ch) hl) := Lib.hid (fun w' hb => by rw [← hnh]; exact hh.below hb)
 rw [hml] at hmc ⊢
 rw [hnh] at hlc ⊢
 have HNH := Lib.hid hnh
 obtain ⟨tb, htb⟩ : ∃ b, thinB V gs am rs = b := ⟨_, rfl⟩
 have HTB := Lib.hid htb
 clear hsort hg ha hm hh hml hnh htb HG HA HM HH
 unfold langV
 go_enter Tryz.func6, Tryz.ntmps6
 go_wp2_with fail
 obtain ⟨W, hW, P0, PB, Phs⟩ := box1 w 43 [.int .i64 O, .int .i64 V, .slice Al nl cl, .int .i64 k, .bool s, .slice A m c, .slice A' m' c', .slice Am ml cm]
 rw [← hW]
 clear hW
 obtain ⟨p0, p1, p2, p3, p4, p5, p6, p7⟩ := eight P0.out
 go_wp2_with fail
 refine (HTN.out W PB.out).mono ?_
 rintro e w1 ⟨rfl, hb1⟩
 rw [HTB.out]
 have P1 := Lib.hid (P0.out.below' hb1)
 have B1 := Lib.hid (PB.out.trans (hb1.mono PB.out.size))
 clear p0 p1 p2 p3 p4 p5 p6 p7 hb1 P0 PB
 obtain ⟨p0, p1, p2, p3, p4, p5, p6, p7⟩ := eight P1.out
 cases tb with
 | false =>
  go_wp2_with fail
  refine (HK.out _).mono ?_
  rintro e wK ⟨rfl, hbK⟩
  have BK := Lib.hid (B1.out.trans (hbK.mono B1.out.size))
  clear hbK
  go_wp2_with fail
  go_ret
  exact ⟨rfl, BK.out⟩
 | true =>
  have LA := Lib.hid (HLA.out HTB.out)
  have SM := Lib.hid (small_ok (thin_ok HTB.out).1)
  obtain ⟨a, hqa⟩ : ∃ q, am.q = q := ⟨_, rfl⟩
  obtain ⟨mix, hmix⟩ : ∃ l, rs.map Raw.q = l := ⟨_, rfl⟩
  rw [hqa, hmix] at LA
  clear hqa hmix
  go_wp2_with fail
  refine (refCheckG w1 O V (.slice Al nl cl) gs k s A A' m c m' c' (.slice Am ml cm) a mix (LA.out w1 B1.out)).mono ?_
  rintro e w2 ⟨rfl, hb2⟩
  obtain ⟨ce, hce⟩ : ∃ z, checkE O V gs k a mix = z := ⟨_, rfl⟩
  rw [hce]
  have HCE := Lib.hid hce
  have P2 := Lib.hid (P1.out.below' hb2)
  have B2 := Lib.hid (B1.out.trans (hb2.mono B1.out.size))
  clear p0 p1 p2 p3 p4 p5 p6 p7 hb2 P1 B1 hce
  obtain ⟨p0, p1, p2, p3, p4, p5, p6, p7⟩ := eight P2.out
  by_cases hc0 : ce = 0
  ·subst hc0
   have HSZ := sizes_ok (tableE_ok (check_ok HCE.out).1).2.1
   obtain ⟨o, rfl⟩ : ∃ o : Nat, O = o := ⟨O.toNat, by omega⟩
   obtain ⟨v, rfl⟩ : ∃ v : Nat, V = v := ⟨V.toNat, by omega⟩
   have hv8 : v ≤ 8 := by have := SM.out.2; omega
   go_wp2_with fail
   refine (historyR w2 o v (.slice Al nl cl) gs k s A A' m c m' c' Am ml cm _ hl (by omega) Al nl cl rfl (HHA.out w2 B2.out)).mono ?_
   rintro e w3 ⟨rfl, hb3⟩
   obtain ⟨hb, hhb⟩ : ∃ b, (((hl.length : Int) == (o : Int) - 1) && inR 0 v hl) = b := ⟨_, rfl⟩
   rw [hhb]
   have HHB := Lib.hid hhb
   have P3 := Lib.hid (P2.out.below' hb3)
   have B3 := Lib.hid (B2.out.trans (hb3.mono B2.out.size))
   clear p0 p1 p2 p3 p4 p5 p6 p7 hb3 P2 B2 hhb
   obtain ⟨p0, p1, p2, p3, p4, p5, p6, p7⟩ := eight P3.out
   cases hb with
   | false =>
    go_wp2_with fail
    refine (HK.out _).mono ?_
    rintro e wK ⟨rfl, hbK⟩
    have BK := Lib.hid (B3.out.trans (hbK.mono B3.out.size))
    clear hbK
    go_wp2_with fail
    go_ret
    exact ⟨rfl, BK.out⟩
   | true =>
    have HE := Lib.hid (hist_of HCE.out HHB.out)
    obtain ⟨qs, hqs⟩ : ∃ l, rowQ k o gs v a mix hl = l := ⟨_, rfl⟩
    have RA : Hid (qs.length = v + 1 ∧ sumQ qs = 1 ∧ ∀ q ∈ qs, 0 < q) := Lib.hid (by
     rw [← hqs]
     exact row_all (table_small (check_ok HCE.out).1 hv8) (check_ok HCE.out).2 hl)
    have HD : Hid (distr qs = true) := Lib.hid (distr_iff.2 ⟨fun q hq => Rat.le_of_lt (RA.out.2.2 q hq), RA.out.2.1⟩)
    have QB5 : Hid (∀ q ∈ qs, QB 5000000 q) := Lib.hid (by
     obtain ⟨T, rv, F, hw⟩ := way_ok w3 o v (.slice Al nl cl) gs k s A A' m c m' c' (.slice Am ml cm) a mix (LA.out w3 B3.out) HCE.out hv8
     rw [← hqs]
     exact hw.qb hl)
    have HQS := Lib.hid hqs
    clear hqs
    go_wp2_with fail
    refine (Go.Proofs.YtjebfdfkjlkifaaGreat.rowG w3 o v (.slice Al nl cl) gs k s A A' m c m' c' (.slice Am ml cm) a mix _ hl (LA.out w3 B3.out) (HHA.out w3 B3.out) HE.out hv8).mono ?_
    rw [HQS.out]
    rintro e w4 ⟨b4, rfl, hs4, hf4, hb4⟩
    have F4 := Lib.hid hf4
    have P4 := Lib.hid (P3.out.below' hb4)
    have B4 := Lib.hid (B3.out.trans (hb4.mono B3.out.size))
    clear p0 p1 p2 p3 p4 p5 p6 p7 hb4 P3 B3 hf4 hs4
    obtain ⟨p0, p1, p2, p3, p4, p5, p6, p7⟩ := eight P4.out
    have v1 : IntKind.i64.wrap ((v : Int) + 1) = (v : Int) + 1 := IntWalk.i64_in _ (by omega)
    have v2 : (((v : Int) + 1) != (v : Int) + 1) = false := by simp
    go_wp2_with fail
    refine (distributionF w4 5000000 _ qs (by
     have := (F4.out.cans (c := v + 1) (by rw [RA.out.1]; exact Nat.le_refl _) (by omega)).fracs QB5.out (by omega)
     rwa [RA.out.1] at this) (by omega) (by rw [RA.out.1]; omega)).mono ?_
    rintro e w5 ⟨rfl, hb5⟩
    rw [HD.out]
    have F5 := Lib.hid (F4.out.below hb5)
    have P5 := Lib.hid (P4.out.below' hb5)
    have B5 := Lib.hid (B4.out.trans (hb5.mono B4.out.size))
    clear p0 p1 p2 p3 p4 p5 p6 p7 hb5 P4 B4 F4
    go_wp2_with fail
    have HLN : Hid (qs.length = v + 1) := Lib.hid RA.out.1
    go_loopg [7, 8, 9] (v + 1) (fun gh i _ _ wz => ∃ (j : Nat), i = .int .i64 j ∧ j + gh = v + 1 ∧ Hid (FArc wz b4 qs) ∧ Hid (Blk wz w.heap.size 43 [.int .i64 o, .int .i64 v, .slice Al nl cl, .int .i64 k, .bool s, .slice A m c, .slice A' m' c', .slice Am ml cm]) ∧ Hid (Below w.heap.size w wz))
    case atStart => exact ⟨0, rfl, by omega, F5, P5, B5⟩
    case round =>
     clear F5 P5 B5
     obtain ⟨j, rfl, hj, F5, P5, B5⟩ := hrel
     rcases Nat.eq_zero_or_pos gk with hh | hh
     ·subst hh
      obtain rfl : j = v + 1 := by omega
      go_wp2_with fail
      refine (HK.out _).mono ?_
      rintro e wK ⟨rfl, hbK⟩
      have BK := Lib.hid (B5.out.trans (hbK.mono B5.out.size))
      clear hbK
      go_wp2_with fail
      go_ret
      exact ⟨rfl, BK.out⟩
     ·obtain ⟨gh, rfl⟩ : ∃ g, gk = g + 1 := ⟨gk - 1, by omega⟩
      obtain ⟨qx, hqx⟩ : ∃ q, qs[j]? = some q := ⟨_, List.getElem?_eq_getElem (by rw [HLN.out]; omega)⟩
      have HQX := Lib.hid hqx
      have HGD : Hid (qs.getD j 0 = qx) := Lib.hid (by rw [List.getD_eq_getElem?_getD, hqx]; rfl)
      have QX : Hid (QB 5000000 qx) := Lib.hid (QB5.out qx (List.mem_of_getElem? hqx))
      have hsg : 0 < sgnI qx := sgnI_gt (RA.out.2.2 qx (List.mem_of_getElem? hqx))
      obtain ⟨sg, hsg1⟩ : ∃ z, sgnI qx = z := ⟨_, rfl⟩
      rw [hsg1] at hsg
      have HSG := Lib.hid hsg1
      have d1 : decide (sg ≤ 0) = false := decide_eq_false (by omega)
      obtain ⟨p0, p1, p2, p3, p4, p5, p6, p7⟩ := eight P5.out
      have jlt : j < v + 1 := by omega
      have j1 : (0 : Int) ≤ (j : Int) := by omega
      have j2 : (j : Int) < (v : Int) + 1 := by omega
      clear hqx hsg1
      go_wp2_with fail
      refine (weightG wr o v j (.slice Al nl cl) gs k s A A' m c m' c' (.slice Am ml cm) a mix _ hl (LA.out wr B5.out) (HHA.out wr B5.out) HE.out hv8 jlt).mono ?_
      rw [HQS.out, HGD.out]
      rintro e w6 ⟨u, rfl, hu, hb6⟩
      obtain ⟨Ax, mx, cx, Ax', mx', cx', rfl⟩ := hu.open_
      have TU := Lib.hid hu
      have F6 := Lib.hid (F5.out.below hb6)
      have P6 := Lib.hid (P5.out.below' hb6)
      have B6 := Lib.hid (B5.out.trans (hb6.mono B5.out.size))
      clear p0 p1 p2 p3 p4 p5 p6 p7 hu hb6 F5 P5 B5 jlt
      go_upto_region 10 with fail
      obtain ⟨W7, hW7, G0, GB, Ghs⟩ := box1 w6 40 [.bool (isNeg qx), .slice Ax mx cx, .slice Ax' mx' cx']
      rw [← hW7]
      clear hW7
      obtain ⟨g0, g1, g2, _, _, _⟩ := G0.out.three
      have T7 := Lib.hid (TU.out.below GB.out)
      have F7 := Lib.hid (F6.out.below GB.out)
      have P7 := Lib.hid (P6.out.below' GB.out)
      have B7 := Lib.hid (B6.out.trans (GB.out.mono B6.out.size))
      obtain ⟨Ar, mr, cr, Ar', mr', cr', k0, k1, k2, _, _, _, tr⟩ := F7.out.get HQX.out
      have TR := Lib.hid tr
      have l0 : w6.heap.size < W7.heap.size := G0.out.lt
      have l1 : b4 < W7.heap.size := F7.out.lt
      have BB := Lib.hid (Below.refl W7.heap.size W7)
      clear tr TU F6 P6 B6
      have hS := And.intro (((Below.refl W7.heap.size W7).cell (p := ⟨w6.heap.size, 0, none⟩) l0).trans g0) (And.intro (((Below.refl W7.heap.size W7).cell (p := ⟨w6.heap.size, 1, none⟩) l0).trans g1) (And.intro (((Below.refl W7.heap.size W7).cell (p := ⟨w6.heap.size, 2, none⟩) l0).trans g2) (And.intro (((Below.refl W7.heap.size W7).cell (p := ⟨b4, j * 3, none⟩) l1).trans k0) (And.intro (((Below.refl W7.heap.size W7).cell (p := ⟨b4, j * 3 + 1, none⟩) l1).trans k1) (((Below.refl W7.heap.size W7).cell (p := ⟨b4, j * 3 + 2, none⟩) l1).trans k2)))))
      go_wp2_with fail
      go_region_held3 (fun w' => w'.cell? ⟨w6.heap.size, 0, none⟩ = some (.bool (isNeg qx)) ∧ w'.cell? ⟨w6.heap.size, 1, none⟩ = some (.slice Ax mx cx) ∧ w'.cell? ⟨w6.heap.size, 2, none⟩ = some (.slice Ax' mx' cx') ∧ w'.cell? ⟨b4, j * 3, none⟩ = some (.bool (isNeg qx)) ∧ w'.cell? ⟨b4, j * 3 + 1, none⟩ = some (.slice Ar mr cr) ∧ w'.cell? ⟨b4, j * 3 + 2, none⟩ = some (.slice Ar' mr' cr'))
       (first | assumption | exact hS | go_keep)
       (first
        | (go_at_call 40; refine (sameR _ _ _ qx qx (T7.out.below (below_drew_self _)) (TR.out.below (below_drew_self _))).mono ?_; rintro e wl ⟨rfl, hb'⟩; rw [show decide (qx = qx) = true from decide_eq_true rfl]; have hb := below_of_drew hb'; replace BB := Lib.hid hb; have hS := And.intro ((BB.out.cell (p := ⟨w6.heap.size, 0, none⟩) l0).trans g0) (And.intro ((BB.out.cell (p := ⟨w6.heap.size, 1, none⟩) l0).trans g1) (And.intro ((BB.out.cell (p := ⟨w6.heap.size, 2, none⟩) l0).trans g2) (And.intro ((BB.out.cell (p := ⟨b4, j * 3, none⟩) l1).trans k0) (And.intro ((BB.out.cell (p := ⟨b4, j * 3 + 1, none⟩) l1).trans k1) ((BB.out.cell (p := ⟨b4, j * 3 + 2, none⟩) l1).trans k2))))); clear hb hb')
        | (go_at_call 37; refine (signR _ _ qx 5000000 ((T7.out.below BB.out).frac QX.out (by omega)) (by omega)).mono ?_; rintro e wl2 ⟨rfl, hb⟩; rw [HSG.out]; replace BB := Lib.hid (BB.out.trans (hb.mono BB.out.size)); have hS := And.intro ((BB.out.cell (p := ⟨w6.heap.size, 0, none⟩) l0).trans g0) (And.intro ((BB.out.cell (p := ⟨w6.heap.size, 1, none⟩) l0).trans g1) (And.intro ((BB.out.cell (p := ⟨w6.heap.size, 2, none⟩) l0).trans g2) (And.intro ((BB.out.cell (p := ⟨b4, j * 3, none⟩) l1).trans k0) (And.intro ((BB.out.cell (p := ⟨b4, j * 3 + 1, none⟩) l1).trans k1) ((BB.out.cell (p := ⟨b4, j * 3 + 2, none⟩) l1).trans k2))))); clear hb))
      all_goals
       go_wp2_with fail
       go_roundg gh
       case measure => omega
       case rel => exact ⟨j + 1, rfl, by omega, Lib.hid (F7.out.below BB.out), Lib.hid (P7.out.below' BB.out), Lib.hid (B7.out.trans (BB.out.mono B7.out.size))⟩
  ·have n0 : (ce != 0) = true := by simpa using hc0
   clear hc0
   go_wp2_with fail
   refine (HK.out _).mono ?_
   rintro e wK ⟨rfl, hbK⟩
   have BK := Lib.hid (B2.out.trans (hbK.mono B2.out.size))
   clear hbK
   go_wp2_with fail
   go_ret
   exact ⟨rfl, BK.out⟩
end Go.Proofs.YtjebfdfkjlkifaaGreat
