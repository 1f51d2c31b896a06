/- Lemmas on the way: Go1. -/
import Derived.Test.YtjebfdfkjlkifaaGreatH48
set_option linter.unusedSimpArgs false
set_option linter.unusedVariables false
set_option linter.unusedSectionVars false
set_option linter.unnecessarySimpa false
namespace Go.Proofs.YtjebfdfkjlkifaaGreat
open Go.RowKit
theorem lists_3 {w : World} {g : Nat} {x y z : Value} {l m n : List Int} (h : Blk w g 44 [x, y, z]) (hx : IntsAt w x l) (hy : IntsAt w y m) (hz : IntsAt w z n) : ListsAt w (.slice (some ⟨g, 0, none⟩) 3 3) [l, m, n] := by
 have h1 := h.sl (sz := 1) (n := 3) (c := 3) (by simp) (Nat.le_refl _) (by unfold maxLen; omega)
 refine ⟨_, h1, fun i u hu => ?_⟩
 match i, hu with
 | 0, hu => cases hu; exact ⟨_, rfl, hx⟩
 | 1, hu => cases hu; exact ⟨_, rfl, hy⟩
 | 2, hu => cases hu; exact ⟨_, rfl, hz⟩
theorem spoke_in {v : Nat} {ls : List (List Int)} (h : spokeE v ls = 0) : ∀ l ∈ ls, inR 1 (v : Int) l = true := by
 unfold spokeE at h
 split at h
 ·cases h
 ·split at h
  ·cases h
  ·next h2 =>
   intro l hl
   cases hb : inR 1 (v : Int) l with
   | true => rfl
   | false => exact absurd (List.any_eq_true.2 ⟨l, hl, by rw [hb]; rfl⟩) h2
theorem sent_two {O : Int} {v : Nat} {gs : List Gr} {k : Int} {a : Rat} {mix : List Rat} {x y : List Int} (h : checkE O v gs k a mix = 0) (hx : inR 1 (v : Int) x = true) (hy : inR 1 (v : Int) y = true) (lx : x.length ≤ 3) (ly : y.length ≤ 3) : sentE O v gs k a mix [x, y] = 0 := by
 have h1 := (table_all (check_ok h).1).1
 unfold sentE
 rw [if_neg (by
  rintro (h3 | h3)
  ·omega
  ·unfold anyLong at h3
   simp at h3
   omega), if_neg (by rw [h]; decide), if_neg (by
  unfold anyOut
  rw [List.any_cons, List.any_cons, hx, hy]
  simp)]

set_option maxRecDepth 1000000 in
set_option maxHeartbeats 32000000 in
theorem gramOrderG (hsort : SortOk) (w : World) (O V : Int) (Al : Option Addr) (nl cl : Nat) (gs : List Gr) (k : Int) (s : Bool) (A A' : Option Addr) (m c m' c' : Nat) (mv : Value) (am : Raw) (rs : List Raw) (xv : Value) (xl : List Int) (yv : Value) (yl : List Int) (zv : Value) (zl : List Int) (hg : GramsAt w (.slice Al nl cl) gs) (ha : RawAt w (.agg #[.bool s, .slice A m c, .slice A' m' c']) am) (hm : RawsAt w mv rs) (hx : IntsAt w xv xl) (hy : IntsAt w yv yl) (hz : IntsAt w zv zl) (hO : -9223372036854775808 ≤ O ∧ O ≤ 9223372036854775807) :
  Calls Tryz.prog 11 #[langV O V (.slice Al nl cl) k s A A' m c m' c' mv, xv, yv, zv] w fun e w' => e = .returned (.bool true) ∧ Below w.heap.size w w' := by
 obtain ⟨Am, cm, rfl, hmc, hcm, _⟩ := hm.open_
 have HK := Lib.hid (knownS hsort)
 have HG := Lib.hid hg
 have HA := Lib.hid ha
 have HM := Lib.hid hm
 obtain ⟨ml, hml⟩ : ∃ n, rs.length = n := ⟨_, rfl⟩
 have HTN : Hid (∀ w', Below w.heap.size w w' → Calls Tryz.prog 25 #[langV O V (.slice Al nl cl) k s A A' m c m' c' (.slice Am ml cm)] w' fun e w2 => e = .returned (.bool (thinB V gs am rs)) ∧ Below w'.heap.size w' w2) := Lib.hid (fun w' hb => by
  rw [← hml]
  exact thinG w' O V (.slice Al nl cl) gs k s A A' m c m' c' _ am rs (hg.below hb) (ha.below hb) (hm.below hb))
 have HLA : Hid (thinB V gs am rs = true → ∀ w', Below w.heap.size w w' → LangAt w' (.slice Al nl cl) gs s A A' m c m' c' am.q (.slice Am ml cm) (rs.map Raw.q)) := Lib.hid (fun ht w' hb => by
  rw [← hml]
  exact (LangAt.of hg ha hm ht).below hb)
 rw [hml] at hmc ⊢
 obtain ⟨tb, htb⟩ : ∃ b, thinB V gs am rs = b := ⟨_, rfl⟩
 have HTB := Lib.hid htb
 obtain ⟨Ax, cx, rfl, hcx, hmx, _⟩ := hx.open_
 obtain ⟨nx, hnx⟩ : ∃ n, xl.length = n := ⟨_, rfl⟩
 have HX : Hid (∀ w', Below w.heap.size w w' → IntsAt w' (.slice Ax nx cx) xl) := Lib.hid (fun w' hb => by rw [← hnx]; exact hx.below hb)
 rw [hnx] at hcx ⊢
 have HNX := Lib.hid hnx
 obtain ⟨Ay, cy, rfl, hcy, hmy, _⟩ := hy.open_
 obtain ⟨ny, hny⟩ : ∃ n, yl.length = n := ⟨_, rfl⟩
 have HY : Hid (∀ w', Below w.heap.size w w' → IntsAt w' (.slice Ay ny cy) yl) := Lib.hid (fun w' hb => by rw [← hny]; exact hy.below hb)
 rw [hny] at hcy ⊢
 have HNY := Lib.hid hny
 obtain ⟨Az, cz, rfl, hcz, hmz, _⟩ := hz.open_
 obtain ⟨nz, hnz⟩ : ∃ n, zl.length = n := ⟨_, rfl⟩
 have HZ : Hid (∀ w', Below w.heap.size w w' → IntsAt w' (.slice Az nz cz) zl) := Lib.hid (fun w' hb => by rw [← hnz]; exact hz.below hb)
 rw [hnz] at hcz ⊢
 have HNZ := Lib.hid hnz
 clear hsort hg ha hm hml htb HG HA HM hx hy hz hnx hny hnz
 unfold langV
 go_enter Tryz.func11, Tryz.ntmps11
 go_wp2_with fail
 obtain ⟨W, hW, P0, PB, Phs⟩ := box1 w 43 [.int .i64 O, .int .i64 V, .slice Al nl cl, .int .i64 k, .bool s, .slice A m c, .slice A' m' c', .slice Am ml cm]
 rw [← hW]
 clear hW
 obtain ⟨p0, p1, p2, p3, p4, p5, p6, p7⟩ := eight P0.out
 go_wp2_with fail
 refine (HTN.out W PB.out).mono ?_
 rintro e w1 ⟨rfl, hb1⟩
 rw [HTB.out]
 have P1 := Lib.hid (P0.out.below' hb1)
 have B1 := Lib.hid (PB.out.trans (hb1.mono PB.out.size))
 clear p0 p1 p2 p3 p4 p5 p6 p7 hb1 P0 PB
 obtain ⟨p0, p1, p2, p3, p4, p5, p6, p7⟩ := eight P1.out
 cases tb with
 | false =>
  go_wp2_with fail
  refine (HK.out _).mono ?_
  rintro e wK ⟨rfl, hbK⟩
  have BK := Lib.hid (B1.out.trans (hbK.mono B1.out.size))
  clear hbK
  go_wp2_with fail
  go_ret
  exact ⟨rfl, BK.out⟩
 | true =>
  have LA := Lib.hid (HLA.out HTB.out)
  have SM := Lib.hid (small_ok (thin_ok HTB.out).1)
  obtain ⟨a, hqa⟩ : ∃ q, am.q = q := ⟨_, rfl⟩
  obtain ⟨mix, hmix⟩ : ∃ l, rs.map Raw.q = l := ⟨_, rfl⟩
  rw [hqa, hmix] at LA
  clear hqa hmix
  go_wp2_with fail
  refine (refCheckG w1 O V (.slice Al nl cl) gs k s A A' m c m' c' (.slice Am ml cm) a mix (LA.out w1 B1.out)).mono ?_
  rintro e w2 ⟨rfl, hb2⟩
  obtain ⟨ce, hce⟩ : ∃ z, checkE O V gs k a mix = z := ⟨_, rfl⟩
  rw [hce]
  have HCE := Lib.hid hce
  have P2 := Lib.hid (P1.out.below' hb2)
  have B2 := Lib.hid (B1.out.trans (hb2.mono B1.out.size))
  clear p0 p1 p2 p3 p4 p5 p6 p7 hb2 P1 B1 hce
  obtain ⟨p0, p1, p2, p3, p4, p5, p6, p7⟩ := eight P2.out
  by_cases hc0 : ce = 0
  ·subst hc0
   have HSZ := sizes_ok (tableE_ok (check_ok HCE.out).1).2.1
   obtain ⟨o, rfl⟩ : ∃ o : Nat, O = o := ⟨O.toNat, by omega⟩
   obtain ⟨v, rfl⟩ : ∃ v : Nat, V = v := ⟨V.toNat, by omega⟩
   have hv8 : v ≤ 8 := by have := SM.out.2; omega
   by_cases lx : nx ≤ 3
   ·have tx : decide ((3 : Int) < (nx : Int)) = false := decide_eq_false (by omega)
    by_cases ly : ny ≤ 3
    ·have ty : decide ((3 : Int) < (ny : Int)) = false := decide_eq_false (by omega)
     by_cases lz : nz ≤ 3
     ·have tz : decide ((3 : Int) < (nz : Int)) = false := decide_eq_false (by omega)
      go_wp2_with fail
      obtain ⟨W3, hW3, R0, RB, Rhs⟩ := box1 w2 44 [.slice Ax nx cx, .slice Ay ny cy, .slice Az nz cz]
      rw [← hW3]
      clear hW3
      have LS := Lib.hid (lists_3 R0.out (HX.out W3 (B2.out.trans (RB.out.mono B2.out.size))) (HY.out W3 (B2.out.trans (RB.out.mono B2.out.size))) (HZ.out W3 (B2.out.trans (RB.out.mono B2.out.size))))
      have P3 := Lib.hid (P2.out.below' RB.out)
      have B3 := Lib.hid (B2.out.trans (RB.out.mono B2.out.size))
      refine (spokenG W3 v _ _ LS.out).mono ?_
      rintro e w4 ⟨rfl, hb4⟩
      obtain ⟨se, hse⟩ : ∃ z, spokeE (v : Int) [xl, yl, zl] = z := ⟨_, rfl⟩
      rw [hse]
      have HSE := Lib.hid hse
      have P4 := Lib.hid (P3.out.below' hb4)
      have B4 := Lib.hid (B3.out.trans (hb4.mono B3.out.size))
      clear p0 p1 p2 p3 p4 p5 p6 p7 hb4 hse P2 B2 P3 B3 R0 RB Rhs LS
      obtain ⟨p0, p1, p2, p3, p4, p5, p6, p7⟩ := eight P4.out
      by_cases hs0 : se = 0
      ·subst hs0
       have IN := Lib.hid (spoke_in HSE.out)
       have HT := Lib.hid (table_small (check_ok HCE.out).1 hv8)
       have HVB := Lib.hid (check_ok HCE.out).2
       have PS : Hid (∀ l ∈ [xl, yl, zl], 0 < sayQ (rowQ k o gs v a mix) (o - 1) l) := Lib.hid (fun l hl => say_pos (V := v) (fun h => (row_all HT.out HVB.out h).2.2) (fun h => (row_all HT.out HVB.out h).1) (fun x hx => inR_all (IN.out l hl) x hx))
       obtain ⟨ab, hab⟩ : ∃ z, usualI (rowQ k o gs v a mix) (o - 1) xl yl = z := ⟨_, rfl⟩
       obtain ⟨ba, hba⟩ : ∃ z, usualI (rowQ k o gs v a mix) (o - 1) yl xl = z := ⟨_, rfl⟩
       obtain ⟨bc, hbc⟩ : ∃ z, usualI (rowQ k o gs v a mix) (o - 1) yl zl = z := ⟨_, rfl⟩
       obtain ⟨ac, hac⟩ : ∃ z, usualI (rowQ k o gs v a mix) (o - 1) xl zl = z := ⟨_, rfl⟩
       have hneg : ab = - ba := by rw [← hab, ← hba]; exact usual_neg _ _ _ _
       have hle : 0 ≤ ab → 0 ≤ bc → 0 ≤ ac := by
        rw [← hab, ← hbc, ← hac]
        exact usual_le (PS.out xl (by simp)) (PS.out yl (by simp)) (PS.out zl (by simp))
       have hlt : 0 < ab → 0 < bc → 0 < ac := by
        rw [← hab, ← hbc, ← hac]
        exact usual_lt (PS.out xl (by simp)) (PS.out yl (by simp)) (PS.out zl (by simp))
       have hrg : -1 ≤ ba ∧ ba ≤ 1 := by
        rw [← hba]
        unfold usualI sgnI
        split
        ·omega
        ·split <;> omega
       have HAB := Lib.hid hab
       have HBA := Lib.hid hba
       have HBC := Lib.hid hbc
       have HAC := Lib.hid hac
       have HLE := Lib.hid hle
       have HLT := Lib.hid hlt
       have u1 : IntKind.i64.wrap (-ba) = -ba := IntWalk.i64_in _ (by omega)
       have u2 : (ab != -ba) = false := by rw [hneg]; simp
       clear hab hba hbc hac hle hlt hneg hrg
       go_wp2_with fail
       refine (usualG w4 o v (.slice Al nl cl) gs k s A A' m c m' c' (.slice Am ml cm) a mix _ _ xl yl (LA.out w4 B4.out) (HX.out w4 B4.out) (HY.out w4 B4.out) (sent_two HCE.out (IN.out xl (by simp)) (IN.out yl (by simp)) (by have := HNX.out; omega) (by have := HNY.out; omega)) hv8 (by have := HNX.out; omega) (by have := HNY.out; omega)).mono ?_
       rintro e w5 ⟨rfl, hb5⟩
       rw [HAB.out]
       have P5 := Lib.hid (P4.out.below' hb5)
       have B5 := Lib.hid (B4.out.trans (hb5.mono B4.out.size))
       clear p0 p1 p2 p3 p4 p5 p6 p7 hb5 P4 B4
       obtain ⟨p0, p1, p2, p3, p4, p5, p6, p7⟩ := eight P5.out
       go_wp2_with fail
       refine (usualG w5 o v (.slice Al nl cl) gs k s A A' m c m' c' (.slice Am ml cm) a mix _ _ yl xl (LA.out w5 B5.out) (HY.out w5 B5.out) (HX.out w5 B5.out) (sent_two HCE.out (IN.out yl (by simp)) (IN.out xl (by simp)) (by have := HNY.out; omega) (by have := HNX.out; omega)) hv8 (by have := HNY.out; omega) (by have := HNX.out; omega)).mono ?_
       rintro e w6 ⟨rfl, hb6⟩
       rw [HBA.out]
       have P6 := Lib.hid (P5.out.below' hb6)
       have B6 := Lib.hid (B5.out.trans (hb6.mono B5.out.size))
       clear p0 p1 p2 p3 p4 p5 p6 p7 hb6 P5 B5
       obtain ⟨p0, p1, p2, p3, p4, p5, p6, p7⟩ := eight P6.out
       go_wp2_with fail
       refine (usualG w6 o v (.slice Al nl cl) gs k s A A' m c m' c' (.slice Am ml cm) a mix _ _ yl zl (LA.out w6 B6.out) (HY.out w6 B6.out) (HZ.out w6 B6.out) (sent_two HCE.out (IN.out yl (by simp)) (IN.out zl (by simp)) (by have := HNY.out; omega) (by have := HNZ.out; omega)) hv8 (by have := HNY.out; omega) (by have := HNZ.out; omega)).mono ?_
       rintro e w7 ⟨rfl, hb7⟩
       rw [HBC.out]
       have P7 := Lib.hid (P6.out.below' hb7)
       have B7 := Lib.hid (B6.out.trans (hb7.mono B6.out.size))
       clear p0 p1 p2 p3 p4 p5 p6 p7 hb7 P6 B6
       obtain ⟨p0, p1, p2, p3, p4, p5, p6, p7⟩ := eight P7.out
       go_wp2_with fail
       refine (usualG w7 o v (.slice Al nl cl) gs k s A A' m c m' c' (.slice Am ml cm) a mix _ _ xl zl (LA.out w7 B7.out) (HX.out w7 B7.out) (HZ.out w7 B7.out) (sent_two HCE.out (IN.out xl (by simp)) (IN.out zl (by simp)) (by have := HNX.out; omega) (by have := HNZ.out; omega)) hv8 (by have := HNX.out; omega) (by have := HNZ.out; omega)).mono ?_
       rintro e w8 ⟨rfl, hb8⟩
       rw [HAC.out]
       have P8 := Lib.hid (P7.out.below' hb8)
       have B8 := Lib.hid (B7.out.trans (hb8.mono B7.out.size))
       clear p0 p1 p2 p3 p4 p5 p6 p7 hb8 P7 B7
       obtain ⟨p0, p1, p2, p3, p4, p5, p6, p7⟩ := eight P8.out
       rcases Int.lt_trichotomy ab 0 with h1 | h1 | h1
       ·have e0 : decide (ab < 0) = true := decide_eq_true h1
        have e1 : decide (ab ≤ 0) = true := decide_eq_true (by omega)
        clear h1
        go_wp2_with fail
        refine (HK.out _).mono ?_
        rintro e wK ⟨rfl, hbK⟩
        have BK := Lib.hid (B8.out.trans (hbK.mono B8.out.size))
        clear hbK
        go_wp2_with fail
        go_ret
        exact ⟨rfl, BK.out⟩
       ·rcases Int.lt_or_le bc 0 with h2 | h2
        ·have e0 : decide (ab < 0) = false := decide_eq_false (by omega)
         have e1 : decide (ab ≤ 0) = true := decide_eq_true (by omega)
         have e2 : decide (bc < 0) = true := decide_eq_true h2
         clear h1 h2
         go_wp2_with fail
         refine (HK.out _).mono ?_
         rintro e wK ⟨rfl, hbK⟩
         have BK := Lib.hid (B8.out.trans (hbK.mono B8.out.size))
         clear hbK
         go_wp2_with fail
         go_ret
         exact ⟨rfl, BK.out⟩
        ·have h3 := HLE.out (by omega) h2
         have e0 : decide (ab < 0) = false := decide_eq_false (by omega)
         have e1 : decide (ab ≤ 0) = true := decide_eq_true (by omega)
         have e2 : decide (bc < 0) = false := decide_eq_false (by omega)
         have e3 : decide (0 ≤ ac) = true := decide_eq_true h3
         clear h1 h2 h3
         go_wp2_with fail
         refine (HK.out _).mono ?_
         rintro e wK ⟨rfl, hbK⟩
         have BK := Lib.hid (B8.out.trans (hbK.mono B8.out.size))
         clear hbK
         go_wp2_with fail
         go_ret
         exact ⟨rfl, BK.out⟩
       ·have e0 : decide (ab < 0) = false := decide_eq_false (by omega)
        have e1 : decide (ab ≤ 0) = false := decide_eq_false (by omega)
        rcases Int.lt_trichotomy bc 0 with h2 | h2 | h2
        ·have e2 : decide (bc < 0) = true := decide_eq_true h2
         have e3 : decide (bc ≤ 0) = true := decide_eq_true (by omega)
         clear h1 h2
         go_wp2_with fail
         refine (HK.out _).mono ?_
         rintro e wK ⟨rfl, hbK⟩
         have BK := Lib.hid (B8.out.trans (hbK.mono B8.out.size))
         clear hbK
         go_wp2_with fail
         go_ret
         exact ⟨rfl, BK.out⟩
        ·have h3 := HLE.out (by omega) (by omega)
         have e2 : decide (bc < 0) = false := decide_eq_false (by omega)
         have e3 : decide (bc ≤ 0) = true := decide_eq_true (by omega)
         have e4 : decide (0 ≤ ac) = true := decide_eq_true h3
         clear h1 h2 h3
         go_wp2_with fail
         refine (HK.out _).mono ?_
         rintro e wK ⟨rfl, hbK⟩
         have BK := Lib.hid (B8.out.trans (hbK.mono B8.out.size))
         clear hbK
         go_wp2_with fail
         go_ret
         exact ⟨rfl, BK.out⟩
        ·have h3 := HLT.out h1 h2
         have e2 : decide (bc < 0) = false := decide_eq_false (by omega)
         have e3 : decide (bc ≤ 0) = false := decide_eq_false (by omega)
         have e4 : decide (0 ≤ ac) = true := decide_eq_true (by omega)
         have e5 : decide (0 < ac) = true := decide_eq_true h3
         clear h1 h2 h3
         go_wp2_with fail
         refine (HK.out _).mono ?_
         rintro e wK ⟨rfl, hbK⟩
         have BK := Lib.hid (B8.out.trans (hbK.mono B8.out.size))
         clear hbK
         go_wp2_with fail
         go_ret
         exact ⟨rfl, BK.out⟩
      ·have s0 : (se != 0) = true := by simpa using hs0
       clear hs0
       go_wp2_with fail
       refine (HK.out _).mono ?_
       rintro e wK ⟨rfl, hbK⟩
       have BK := Lib.hid (B4.out.trans (hbK.mono B4.out.size))
       clear hbK
       go_wp2_with fail
       go_ret
       exact ⟨rfl, BK.out⟩
     ·have tz : decide ((3 : Int) < (nz : Int)) = true := decide_eq_true (by omega)
      go_wp2_with fail
      refine (HK.out _).mono ?_
      rintro e wK ⟨rfl, hbK⟩
      have BK := Lib.hid (B2.out.trans (hbK.mono B2.out.size))
      clear hbK
      go_wp2_with fail
      go_ret
      exact ⟨rfl, BK.out⟩
    ·have ty : decide ((3 : Int) < (ny : Int)) = true := decide_eq_true (by omega)
     go_wp2_with fail
     refine (HK.out _).mono ?_
     rintro e wK ⟨rfl, hbK⟩
     have BK := Lib.hid (B2.out.trans (hbK.mono B2.out.size))
     clear hbK
     go_wp2_with fail
     go_ret
     exact ⟨rfl, BK.out⟩
   ·have tx : decide ((3 : Int) < (nx : Int)) = true := decide_eq_true (by omega)
    go_wp2_with fail
    refine (HK.out _).mono ?_
    rintro e wK ⟨rfl, hbK⟩
    have BK := Lib.hid (B2.out.trans (hbK.mono B2.out.size))
    clear hbK
    go_wp2_with fail
    go_ret
    exact ⟨rfl, BK.out⟩
  ·have n0 : (ce != 0) = true := by simpa using hc0
   clear hc0
   go_wp2_with fail
   refine (HK.out _).mono ?_
   rintro e wK ⟨rfl, hbK⟩
   have BK := Lib.hid (B2.out.trans (hbK.mono B2.out.size))
   clear hbK
   go_wp2_with fail
   go_ret
   exact ⟨rfl, BK.out⟩
end Go.Proofs.YtjebfdfkjlkifaaGreat
