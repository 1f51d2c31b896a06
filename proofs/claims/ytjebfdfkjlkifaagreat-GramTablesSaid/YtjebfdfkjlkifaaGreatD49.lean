/- Lemmas on the way: Tu1, Rc1. -/
import Derived.Test.YtjebfdfkjlkifaaGreatD48
set_option linter.unusedSimpArgs false
set_option linter.unusedVariables false
set_option linter.unusedSectionVars false
set_option linter.unnecessarySimpa false
namespace Go.Proofs.YtjebfdfkjlkifaaGreat
open Go.RowKit
def mergeE (t u : Tb) : Int := if tableE t.o t.V t.gs ≠ 0 then tableE t.o t.V t.gs else if tableE u.o u.V u.gs ≠ 0 then tableE u.o u.V u.gs else
 if t.o = u.o ∧ t.V = u.V ∧ ¬ 1073741824 < mostL (putK (putK [] t.gs) u.gs) then 0 else 2
def lowE (t : Tb) : Int := if tableE t.o t.V t.gs ≠ 0 then tableE t.o t.V t.gs else if t.o = 1 ∨ 1073741824 < mostL (putK [] (lowL t.gs)) then 2 else 0
def TabIf (E : Int) (o V : Int) (gs : List Gr) (o' V' : Int) (gs' : List Gr) : Prop := (E = 0 ∧ o' = o ∧ V' = V ∧ gs' = gs) ∨ (E ≠ 0 ∧ o' = 0 ∧ V' = 0 ∧ gs' = [])
theorem tabs_E {t u : Tb} (ht : t.gs.length ≤ 60) (hu : u.gs.length ≤ 60) : tabsE [t, u] = if tableE t.o t.V t.gs ≠ 0 then tableE t.o t.V t.gs else tableE u.o u.V u.gs := by
 unfold tabsE
 rw [if_neg (by simp [longT]; omega)]
 unfold firstE firstE firstE
 by_cases h : tableE t.o t.V t.gs = 0 <;> by_cases h2 : tableE u.o u.V u.gs = 0 <;> simp [h, h2]
theorem mergeU (hsort : SortOk) (w : World) (t u : Tb) (ht : GramsAt w t.lv t.gs) (hu : GramsAt w u.lv u.gs) (lt : t.gs.length ≤ 60) (lu : u.gs.length ≤ 60) :
  Calls Tryz.prog 58 #[.agg #[.int .i64 t.o, .int .i64 t.V, t.lv], .agg #[.int .i64 u.o, .int .i64 u.V, u.lv]] w fun e w' => ∃ o' V' A c n gs', e = .returned (.tuple #[.agg #[.int .i64 o', .int .i64 V', .slice A n c], .int .i64 (mergeE t u)]) ∧ GramsAt w' (.slice A n c) gs' ∧ TabIf (mergeE t u) t.o t.V (putK (putK [] t.gs) u.gs) o' V' gs' ∧ Below w.heap.size w w' := by
 have hE := tabs_E lt lu
 by_cases h1 : tableE t.o t.V t.gs = 0
 ·rw [if_neg (fun hn => hn h1)] at hE
  by_cases h2 : tableE u.o u.V u.gs = 0
  ·rw [h2] at hE
   refine (mergeG hsort w t u ht hu hE (by omega)).mono ?_
   have ta := table_all h1
   obtain ⟨m, hm⟩ : ∃ m : Nat, t.o = (m : Int) := ⟨t.o.toNat, by omega⟩
   have hpos : ∀ h : t.o = u.o, ∀ g ∈ t.gs ++ u.gs, g.1.length = m ∧ 0 < g.2 := fun h g hg => by
    rcases List.mem_append.1 hg with hg | hg
    ·exact table_pos h1 hm g hg
    ·exact table_pos h2 (h ▸ hm) g hg
   rintro e w' ⟨hbw, ⟨h3, rfl⟩ | ⟨ho, hV, hsm, A, c, n, gs', rfl, hp, hs, hg⟩⟩
   ·have e2 : mergeE t u = 2 := by
     unfold mergeE
     rw [if_neg (fun hn => hn h1), if_neg (fun hn => hn h2), if_neg]
     rintro ⟨a, b, c⟩
     rcases h3 with h3 | h3
     ·exact h3 ⟨a, b⟩
     ·rw [putK_append] at c
      exact c ((big_same (hpos a)).1 h3)
    rw [e2]
    exact ⟨0, 0, none, 0, 0, [], rfl, grams_nil _, .inr ⟨by decide, rfl, rfl, rfl⟩, hbw⟩
   ·have e0 : mergeE t u = 0 := by
     unfold mergeE
     rw [if_neg (fun hn => hn h1), if_neg (fun hn => hn h2), if_pos]
     refine ⟨ho, hV, fun hb => ?_⟩
     rw [putK_append] at hb
     obtain ⟨e, he, hb⟩ := (big_same (hpos ho)).2 hb
     have := hsm e he
     omega
    rw [e0]
    exact ⟨t.o, t.V, A, c, n, gs', rfl, hg, .inl ⟨rfl, rfl, rfl, by rw [putK_append]; exact putK_same (hpos ho) hp hs⟩, hbw⟩
  ·have e2 : mergeE t u = tableE u.o u.V u.gs := by
    unfold mergeE
    rw [if_neg (fun hn => hn h1), if_pos h2]
   refine (mergeBad w t u ht hu _ hE h2).mono ?_
   rintro e w' ⟨rfl, hb⟩
   rw [e2]
   exact ⟨0, 0, none, 0, 0, [], rfl, grams_nil _, .inr ⟨h2, rfl, rfl, rfl⟩, hb⟩
 ·rw [if_pos h1] at hE
  have e2 : mergeE t u = tableE t.o t.V t.gs := by
   unfold mergeE
   rw [if_pos h1]
  refine (mergeBad w t u ht hu _ hE h1).mono ?_
  rintro e w' ⟨rfl, hb⟩
  rw [e2]
  exact ⟨0, 0, none, 0, 0, [], rfl, grams_nil _, .inr ⟨h1, rfl, rfl, rfl⟩, hb⟩
theorem lowerU (hsort : SortOk) (w : World) (t : Tb) (ht : GramsAt w t.lv t.gs) :
  Calls Tryz.prog 59 #[.agg #[.int .i64 t.o, .int .i64 t.V, t.lv]] w fun e w' => ∃ o' V' A c n gs', e = .returned (.tuple #[.agg #[.int .i64 o', .int .i64 V', .slice A n c], .int .i64 (lowE t)]) ∧ GramsAt w' (.slice A n c) gs' ∧ TabIf (lowE t) (t.o - 1) t.V (putK [] (lowL t.gs)) o' V' gs' ∧ Below w.heap.size w w' := by
 refine (lowerTG hsort w t ht).mono ?_
 rintro e w' ⟨hbw, ⟨h1, rfl⟩ | ⟨h1, h2, rfl⟩ | ⟨h1, h2, hsm, A, c, n, gs', rfl, hp, hs, hg⟩⟩
 ·have e2 : lowE t = tableE t.o t.V t.gs := if_pos h1
  rw [e2]
  exact ⟨0, 0, none, 0, 0, [], rfl, grams_nil _, .inr ⟨h1, rfl, rfl, rfl⟩, hbw⟩
 ·have ta := table_all h1
  have e2 : lowE t = 2 := by
   unfold lowE
   rw [if_neg (fun hn => hn h1), if_pos]
   rcases h2 with h2 | h2
   ·exact .inl h2
   ·by_cases ho : t.o = 1
    ·exact .inl ho
    ·obtain ⟨m, hm⟩ : ∃ m : Nat, t.o = ((m + 1 : Nat) : Int) := ⟨(t.o - 1).toNat, by omega⟩
     exact .inr ((big_same (n := m) (fun g hg => ⟨lowL_len (fun g hg => (table_pos h1 hm g hg).1) g hg, by obtain ⟨x, hx, rfl⟩ := List.mem_map.1 hg; exact (table_pos h1 hm x hx).2⟩)).1 h2)
  rw [e2]
  exact ⟨0, 0, none, 0, 0, [], rfl, grams_nil _, .inr ⟨by decide, rfl, rfl, rfl⟩, hbw⟩
 ·have ta := table_all h1
  obtain ⟨m, hm⟩ : ∃ m : Nat, t.o = ((m + 1 : Nat) : Int) := ⟨(t.o - 1).toNat, by omega⟩
  have hpos : ∀ g ∈ lowL t.gs, g.1.length = m ∧ 0 < g.2 := fun g hg => ⟨lowL_len (fun g hg => (table_pos h1 hm g hg).1) g hg, by obtain ⟨x, hx, rfl⟩ := List.mem_map.1 hg; exact (table_pos h1 hm x hx).2⟩
  have e0 : lowE t = 0 := by
   unfold lowE
   rw [if_neg (fun hn => hn h1), if_neg]
   rintro (h | h)
   ·exact h2 h
   ·obtain ⟨e, he, hb⟩ := (big_same hpos).2 h
    have := hsm e he
    omega
  rw [e0]
  exact ⟨t.o - 1, t.V, A, c, n, gs', rfl, hg, .inl ⟨rfl, rfl, rfl, putK_same hpos hp hs⟩, hbw⟩
theorem dropU (w : World) (t : Tb) (least : Int) (ht : GramsAt w t.lv t.gs) :
  Calls Tryz.prog 71 #[.agg #[.int .i64 t.o, .int .i64 t.V, t.lv], .int .i64 least] w fun e w' => ∃ o' V' A c n gs', e = .returned (.tuple #[.agg #[.int .i64 o', .int .i64 V', .slice A n c], .int .i64 (tableE t.o t.V t.gs)]) ∧ GramsAt w' (.slice A n c) gs' ∧ TabIf (tableE t.o t.V t.gs) t.o t.V (putK [] (dropL least t.gs)) o' V' gs' ∧ Below w.heap.size w w' := by
 refine (dropTG w t least ht).mono ?_
 rintro e w' ⟨hbw, ⟨h1, rfl⟩ | ⟨h1, A, c, n, rfl, hg⟩⟩
 ·exact ⟨0, 0, none, 0, 0, [], rfl, grams_nil _, .inr ⟨h1, rfl, rfl, rfl⟩, hbw⟩
 ·have ta := table_all h1
  obtain ⟨m, hm⟩ : ∃ m : Nat, t.o = (m : Int) := ⟨t.o.toNat, by omega⟩
  refine ⟨t.o, t.V, A, c, n, _, by rw [h1], hg, .inl ⟨h1, rfl, rfl, ?_⟩, hbw⟩
  exact (putK_id (n := m) (fun g hg => table_pos h1 hm g (dropL_mem hg)) (dropL_rises ta.2.2.2.2.2.2)).symm
set_option maxRecDepth 1000000 in
set_option maxHeartbeats 1000000 in
theorem fitsQ (w : World) (v : Value) (l : List Int) (hi : Int) (h : IntsAt w v l) :
  Calls Tryz.prog 88 #[v, .int .i64 hi] w fun e w' => e = .returned (.bool (inR 0 hi l)) ∧ w' = w := by
 obtain ⟨A, ca, rfl, hlc, hcm, hA⟩ := h.open_
 have HA := Lib.hid hA
 clear h hA
 obtain ⟨n, hn⟩ : ∃ n, l.length = n := ⟨_, rfl⟩
 rw [hn] at hlc ⊢
 have HN := Lib.hid hn
 clear hn
 go_enter Tryz.func88, Tryz.ntmps88
 go_wp2_with fail
 go_loopg [5] n (fun g i wr => ∃ (j : Nat), wr = w ∧ i = .int .i64 j ∧ j + g = n ∧ Hid (inR 0 hi l = inR 0 hi (l.drop j)))
 case atStart => exact ⟨0, rfl, rfl, by omega, Lib.hid rfl⟩
 case round =>
  obtain ⟨j, rfl, rfl, hj, HQ⟩ := hrel
  rcases Nat.eq_zero_or_pos gk with h | h
  ·obtain rfl : j = n := by omega
   have HT : Hid (inR 0 hi l = true) := Lib.hid (by rw [HQ.out, List.drop_eq_nil_of_le (by rw [HN.out]; exact Nat.le_refl _)]; rfl)
   go_wp2_with fail
   go_ret
   exact ⟨ret_bool HT.out.symm, rfl⟩
  ·obtain ⟨g, rfl⟩ : ∃ g, gk = g + 1 := ⟨gk - 1, by omega⟩
   obtain ⟨x, hx⟩ : ∃ x, l[j]? = some x := ⟨_, List.getElem?_eq_getElem (by rw [HN.out]; omega)⟩
   obtain ⟨ba, oa, rfl, _, hc⟩ := HA.out j x hx
   have ST := Lib.hid (HQ.out.trans (inR_step hx))
   clear hx
   by_cases h1 : 0 ≤ x
   ·by_cases h2 : x ≤ hi
    ·have d1 : decide (x < 0) = false := decide_eq_false (by omega)
     have d2 : decide (hi < x) = false := decide_eq_false (by omega)
     have HT : Hid (inR 0 hi l = inR 0 hi (l.drop (j + 1))) := Lib.hid (by rw [ST.out, decide_eq_true h1, decide_eq_true h2]; rfl)
     clear h1 h2
     go_wp2_with fail
     go_roundg g
     case measure => omega
     case rel => exact ⟨j + 1, rfl, rfl, by omega, HT⟩
    ·have d1 : decide (x < 0) = false := decide_eq_false (by omega)
     have d2 : decide (hi < x) = true := decide_eq_true (by omega)
     have HT : Hid (inR 0 hi l = false) := Lib.hid (by rw [ST.out, decide_eq_true h1, decide_eq_false h2]; rfl)
     clear h1 h2
     go_wp2_with fail
     go_ret
     exact ⟨ret_bool HT.out.symm, rfl⟩
   ·have d1 : decide (x < 0) = true := decide_eq_true (by omega)
    have HT : Hid (inR 0 hi l = false) := Lib.hid (by rw [ST.out, decide_eq_false h1]; rfl)
    clear h1
    go_wp2_with fail
    go_ret
    exact ⟨ret_bool HT.out.symm, rfl⟩

set_option maxRecDepth 1000000 in
set_option maxHeartbeats 1000000 in
theorem ordQ (w : World) (va vb : Value) (a b : List Int) (ha : IntsAt w va a) (hb : IntsAt w vb b) (hl : a.length ≤ b.length) :
  Calls Tryz.prog 83 #[va, vb] w fun e w' => e = .returned (.int .i64 (ordL a b)) ∧ ∃ m, w' = w.drewN m := by
 obtain ⟨A, ca, rfl, hlc, hcm, hA⟩ := ha.open_
 obtain ⟨B, cb, rfl, hmc, hcm', hB⟩ := hb.open_
 have HA := Lib.hid hA
 have HB := Lib.hid hB
 clear ha hb hA hB
 obtain ⟨n, hn⟩ : ∃ n, a.length = n := ⟨_, rfl⟩
 obtain ⟨p, hp⟩ : ∃ p, b.length = p := ⟨_, rfl⟩
 rw [hn] at hlc hl ⊢
 rw [hp] at hmc hl ⊢
 have HN := Lib.hid hn
 have HP := Lib.hid hp
 clear hn hp
 go_enter Tryz.func83, Tryz.ntmps83
 go_wp2_with fail
 go_loopg [5] n (fun g i wr => ∃ (j : Nat), (∃ d, wr = w.drewN d) ∧ i = .int .i64 j ∧ j + g = n ∧ Hid (a.take j = b.take j))
 case atStart => exact ⟨0, ⟨0, rfl⟩, rfl, by omega, Lib.hid rfl⟩
 case round =>
  obtain ⟨j, ⟨nd, rfl⟩, rfl, hj, HQ⟩ := hrel
  rcases Nat.eq_zero_or_pos gk with h | h
  ·obtain rfl : j = n := by omega
   have HT : Hid (ordL a b = 0) := Lib.hid (ordL_pre (by
    have := HQ.out
    rw [List.take_of_length_le (by rw [HN.out]; exact Nat.le_refl _)] at this
    rw [HN.out]; exact this))
   go_wp2_with fail
   go_ret
   exact ⟨ret_i64 HT.out.symm, ⟨_, by first | rfl | exact World.drewN_drewN _ _ _ | exact (congrArg (fun u => World.drewN u _) (World.drewN_drewN _ _ _)).trans (World.drewN_drewN _ _ _)⟩⟩
  ·obtain ⟨g, rfl⟩ : ∃ g, gk = g + 1 := ⟨gk - 1, by omega⟩
   obtain ⟨x, hx⟩ : ∃ x, a[j]? = some x := ⟨_, List.getElem?_eq_getElem (by rw [HN.out]; omega)⟩
   obtain ⟨y, hy⟩ : ∃ y, b[j]? = some y := ⟨_, List.getElem?_eq_getElem (by rw [HP.out]; omega)⟩
   obtain ⟨ba, oa, rfl, _, hc⟩ := HA.out j x hx
   obtain ⟨bb, ob, rfl, _, hc'⟩ := HB.out j y hy
   have HX := Lib.hid hx
   have HY := Lib.hid hy
   clear hx hy
   by_cases hxy : x = y
   ·subst hxy
    have hne : (x != x) = false := by simp
    go_wp2_with fail
    go_quiet (fail)
    go_wp2_with fail
    go_roundg g
    case measure => omega
    case rel => exact ⟨j + 1, ⟨_, rfl⟩, rfl, by omega, Lib.hid (by rw [take_succ_get _ HX.out, take_succ_get _ HY.out, HQ.out])⟩
   ·have hne : (x != y) = true := by simpa using hxy
    have HF := Lib.hid (ordL_at HQ.out HX.out HY.out hxy)
    clear hxy
    by_cases hlt : x < y
    ·have HF2 : Hid (ordL a b = -1) := Lib.hid (by rw [HF.out, if_pos hlt])
     have hd : decide (x < y) = true := decide_eq_true hlt
     clear hlt
     go_wp2_with fail
     go_quiet (fail)
     go_wp2_with fail
     go_quiet (fail)
     go_wp2_with fail
     go_ret
     exact ⟨ret_i64 HF2.out.symm, ⟨_, by first | rfl | exact World.drewN_drewN _ _ _ | exact (congrArg (fun u => World.drewN u _) (World.drewN_drewN _ _ _)).trans (World.drewN_drewN _ _ _)⟩⟩
    ·have HF2 : Hid (ordL a b = 1) := Lib.hid (by rw [HF.out, if_neg hlt])
     have hd : decide (x < y) = false := decide_eq_false hlt
     clear hlt
     go_wp2_with fail
     go_quiet (fail)
     go_wp2_with fail
     go_quiet (fail)
     go_wp2_with fail
     go_ret
     exact ⟨ret_i64 HF2.out.symm, ⟨_, by first | rfl | exact World.drewN_drewN _ _ _ | exact (congrArg (fun u => World.drewN u _) (World.drewN_drewN _ _ _)).trans (World.drewN_drewN _ _ _)⟩⟩


set_option maxRecDepth 1000000 in
set_option maxHeartbeats 16000000 in
theorem refCheckTableG (w : World) (O V : Int) (lv : Value) (gs : List Gr) (h : GramsAt w lv gs) :
  Calls Tryz.prog 68 #[.agg #[.int .i64 O, .int .i64 V, lv]] w fun e w' => e = .returned (.int .i64 (tableE O V gs)) ∧ Below w.heap.size w w' := by
 obtain ⟨A, c, rfl, hlc, hcm, hat⟩ := h.open_
 have HAT := Lib.hid hat
 clear h hat
 obtain ⟨n, hn⟩ : ∃ n, gs.length = n := ⟨_, rfl⟩
 rw [hn] at hlc ⊢
 have HN := Lib.hid hn
 clear hn
 by_cases hlong : 20000 < n
 ·have hd2 : decide ((20000 : Int) < (n : Int)) = true := decide_eq_true (by omega)
  have HE : Hid (tableE O V gs = 5) := Lib.hid (tableE_long (by rw [HN.out]; exact hlong))
  clear hlong
  go_enter Tryz.func68, Tryz.ntmps68
  go_wp2_with fail
  go_ret
  exact ⟨ret_i64 HE.out.symm, (Below.refl _ _).alloc (Nat.le_refl _) _⟩
 ·have hd2 : decide ((20000 : Int) < (n : Int)) = false := decide_eq_false (by omega)
  have HL : Hid (¬ 20000 < gs.length) := Lib.hid (by rw [HN.out]; exact hlong)
  clear hlong
  go_enter Tryz.func68, Tryz.ntmps68
  go_wp2_with fail
  obtain ⟨W, hW, P0, PB, Phs⟩ := box1 w 27 [.int .i64 O, .int .i64 V, .slice A n c]
  rw [← hW]
  clear hW
  refine (sizesG W O V).mono ?_
  rintro e w1 ⟨rfl, hb1⟩
  have P1 := Lib.hid (P0.out.below' hb1)
  have B1 := Lib.hid (PB.out.trans (hb1.mono (by omega)))
  clear hb1 P0 PB
  obtain ⟨p0, p1, p2, _, _, _⟩ := P1.out.three
  obtain ⟨sb, hsb⟩ : ∃ b, sizesB O V = b := ⟨_, rfl⟩
  rw [hsb]
  have HSB := Lib.hid hsb
  clear hsb
  cases sb
  ·have HE : Hid (tableE O V gs = 2) := Lib.hid (tableE_size HL.out HSB.out)
   go_wp2_with fail
   go_ret
   exact ⟨ret_i64 HE.out.symm, B1.out⟩
  ·clear hd2
   go_wp2_with fail
   go_loopg [3] n (fun gh i wz => ∃ (j : Nat), i = .int .i64 j ∧ j + gh = n ∧ Hid (∀ k, k < j → goodAt O V gs k = true) ∧ Hid (Blk wz w.heap.size 27 [.int .i64 O, .int .i64 V, .slice A n c]) ∧ Hid (Below w.heap.size w wz))
   case atStart => exact ⟨0, rfl, by omega, Lib.hid (fun k hk => by omega), P1, B1⟩
   case round =>
    clear p0 p1 p2 P1 B1
    obtain ⟨j, rfl, hj, HG, P1, B1⟩ := hrel
    obtain ⟨p0, p1, p2, _, _, _⟩ := P1.out.three
    have s2 : w.heap.size < wr.heap.size := P1.out.lt
    rcases Nat.eq_zero_or_pos gk with hh | hh
    ·subst hh
     obtain rfl : j = n := by omega
     have HE : Hid (tableE O V gs = 0) := Lib.hid (tableE_good HL.out HSB.out (fun i hi => HG.out i (by rw [HN.out] at hi; exact hi)))
     go_wp2_with fail
     go_ret
     exact ⟨ret_i64 HE.out.symm, B1.out⟩
    ·obtain ⟨gh, rfl⟩ : ∃ g, gk = g + 1 := ⟨gk - 1, by omega⟩
     obtain ⟨x, hx⟩ : ∃ x, gs[j]? = some x := ⟨_, List.getElem?_eq_getElem (by rw [HN.out]; omega)⟩
     obtain ⟨ba, oa, a0, rfl, hba, ea0, ea1, fa⟩ := HAT.out j x hx
     have d0 := (B1.out.cell (p := ⟨ba, oa + j * 2, none⟩) hba).trans ea0
     have d1 := (B1.out.cell (p := ⟨ba, oa + j * 2 + 1, none⟩) hba).trans ea1
     have FA := Lib.hid (fa.below B1.out)
     have HX := Lib.hid hx
     have hz3 : ba < wr.heap.size := by omega
     clear hx ea0 ea1
     obtain ⟨A1, k1, hA1⟩ := fa.len
     subst hA1
     clear fa
     have HBAD : Hid ((¬ (x.1.length : Int) = O ∨ inR 0 V x.1 = false ∨ x.2 < 1 ∨ 1073741824 < x.2 ∨ (0 < j ∧ ¬ ordL (gs.getD (j - 1) ([], 0)).1 x.1 < 0)) → tableE O V gs = 2) := Lib.hid (fun hc => tableE_bad HL.out (by rw [HN.out]; omega) (goodAt_false HX.out hc))
     obtain ⟨x1, x2⟩ := x
     simp only at d0 d1 FA HBAD
     obtain ⟨m, hm⟩ : ∃ m, x1.length = m := ⟨_, rfl⟩
     rw [hm] at d0
     have HM := Lib.hid hm
     rw [hm] at HBAD
     have FA2 : Hid (IntsAt wr (.slice A1 m k1) x1) := Lib.hid (by rw [← hm]; exact FA.out)
     clear hm FA
     go_wp2_with fail
     obtain ⟨W2, hW2, G0, GB, Ghs⟩ := box1 wr 51 [.slice A1 m k1, .int .i64 x2]
     rw [← hW2]
     clear hW2
     have P3 := Lib.hid (P1.out.below' GB.out)
     have BE := Lib.hid (B1.out.trans (GB.out.mono B1.out.size))
     have FA3 := Lib.hid (FA2.out.below GB.out)
     have FI : Hid (∀ W', IntsAt W' (.slice A1 m k1) x1 → Calls Tryz.prog 88 #[.slice A1 m k1, .int .i64 V] W' fun e w' => e = .returned (.bool (inR 0 V x1)) ∧ w' = W') := Lib.hid (fun W' h => fitsQ W' _ x1 V h)
     clear p0 p1 p2 d0 d1 P1 B1 FA2 GB
     obtain ⟨p0, p1, p2, _, _, _⟩ := P3.out.three
     have g0 := G0.out.cell 0
     have g1 := G0.out.cell 1
     simp only [List.getElem?_cons_zero, List.getElem?_cons_succ] at g0 g1
     obtain ⟨ib, hib⟩ : ∃ b, inR 0 V x1 = b := ⟨_, rfl⟩
     rw [hib] at FI
     have HIB := Lib.hid hib
     clear hib
     by_cases hml : (m : Int) = O
     ·have e1 : ((m : Int) != O) = false := by simpa using hml
      have HML := Lib.hid hml
      clear hml
      cases ib
      ·have HE := Lib.hid (HBAD.out (.inr (.inl HIB.out)))
       go_quiet ((go_at_call 88; exact Calls.quiet_of_same (FI.out _ (FA3.out.drewN _))))
       go_wp2_with fail
       go_ret
       exact ⟨ret_i64 HE.out.symm, below_drewN BE.out _⟩
      ·by_cases hx1 : x2 < 1
       ·have HE := Lib.hid (HBAD.out (.inr (.inr (.inl hx1))))
        have e2 : decide (x2 < 1) = true := decide_eq_true hx1
        clear hx1
        go_quiet ((go_at_call 88; exact Calls.quiet_of_same (FI.out _ (FA3.out.drewN _))))
        go_wp2_with fail
        go_ret
        exact ⟨ret_i64 HE.out.symm, below_drewN BE.out _⟩
       ·have e2 : decide (x2 < 1) = false := decide_eq_false hx1
        by_cases hx2 : 1073741824 < x2
        ·have HE := Lib.hid (HBAD.out (.inr (.inr (.inr (.inl hx2)))))
         have e3 : decide (1073741824 < x2) = true := decide_eq_true hx2
         clear hx1 hx2
         go_quiet ((go_at_call 88; exact Calls.quiet_of_same (FI.out _ (FA3.out.drewN _))))
         go_wp2_with fail
         go_ret
         exact ⟨ret_i64 HE.out.symm, below_drewN BE.out _⟩
        ·have e3 : decide (1073741824 < x2) = false := decide_eq_false hx2
         have HX12 := Lib.hid (And.intro hx1 hx2)
         clear hx1 hx2
         rcases Nat.eq_zero_or_pos j with hj0 | hj0
         ·subst hj0
          have HGT := Lib.hid (goodAt_true (O := O) (V := V) HX.out (by rw [HM.out]; exact HML.out) HIB.out (by have := HX12.out; simp only; omega) (by have := HX12.out; simp only; omega) (fun h => by omega))
          go_quiet ((go_at_call 88; exact Calls.quiet_of_same (FI.out _ (FA3.out.drewN _))))
          go_wp2_with fail
          go_roundg gh
          case measure => omega
          case rel => exact ⟨1, rfl, by omega, Lib.hid (fun k hk => by rw [show k = 0 by omega]; exact HGT.out), Lib.hid (P3.out.drewN _), Lib.hid (below_drewN BE.out _)⟩
         ·obtain ⟨i, rfl⟩ : ∃ i, j = i + 1 := ⟨j - 1, by omega⟩
          obtain ⟨y, hy⟩ : ∃ y, gs[i]? = some y := ⟨_, List.getElem?_eq_getElem (by rw [HN.out]; omega)⟩
          obtain ⟨bb, ob, b0, eb, hbb, eb0, eb1, fb⟩ := HAT.out i y hy
          cases eb
          have d0 := (BE.out.cell (p := ⟨ba, oa + i * 2, none⟩) hbb).trans eb0
          have HYL := Lib.hid (goodAt_len hy (HG.out i (by omega)))
          obtain ⟨A2, k2, hA2⟩ := fb.len
          subst hA2
          have FB := Lib.hid (fb.below BE.out)
          have HOL : Hid (ordL y.1 x1 = ordL (gs.getD (i + 1 - 1) ([], 0)).1 x1) := Lib.hid (by rw [show i + 1 - 1 = i by omega, getD_of hy])
          obtain ⟨cv, hcv⟩ : ∃ c, ordL y.1 x1 = c := ⟨_, rfl⟩
          rw [hcv] at HOL
          obtain ⟨p, hp⟩ : ∃ p, y.1.length = p := ⟨_, rfl⟩
          rw [hp] at d0 FB
          have CM : Hid (∀ W', IntsAt W' (.slice A2 p k2) y.1 → IntsAt W' (.slice A1 m k1) x1 → Calls Tryz.prog 83 #[.slice A2 p k2, .slice A1 m k1] W' fun e w' => e = .returned (.int .i64 cv) ∧ ∃ m, w' = W'.drewN m) := Lib.hid (fun W' h1 h2 => by
           rw [← hcv]
           exact ordQ W' _ _ _ _ h1 h2 (by have h1 := HYL.out; have h2 := HML.out; have h3 := HM.out; omega))
          have i1 : IntKind.i64.wrap ((i : Int) + 1 - 1) = (i : Int) := by rw [show (i : Int) + 1 - 1 = i by omega]; exact IntWalk.i64_in _ (by omega)
          have i2 : IntKind.i64.wrap (i : Int) = (i : Int) := IntWalk.i64_in _ (by omega)
          have j1 : (0 : Int) ≤ (i : Int) := by omega
          have j2 : (i : Int) < (n : Int) := by omega
          have j3 : decide ((0 : Int) < (i : Int) + 1) = true := decide_eq_true (by omega)
          have j4 : decide (0 < i + 1) = true := decide_eq_true (by omega)
          clear hy eb0 eb1 fb hcv hp
          by_cases hc : cv < 0
          ·have e5 : decide (0 ≤ cv) = false := decide_eq_false (by omega)
           have HGT := Lib.hid (goodAt_true (O := O) (V := V) HX.out (by rw [HM.out]; exact HML.out) HIB.out (by have := HX12.out; simp only; omega) (by have := HX12.out; simp only; omega) (fun _ => by rw [← HOL.out]; exact hc))
           clear hc
           go_quiet (first | (go_at_call 88; exact Calls.quiet_of_same (FI.out _ (FA3.out.drewN _))) | (go_at_call 83; exact Calls.quiet_of (CM.out _ (FB.out.drewN _) (FA3.out.drewN _))))
           go_wp2_with fail
           go_roundg gh
           case measure => omega
           case rel => exact ⟨i + 1 + 1, rfl, by omega, Lib.hid (fun k hk => by
            by_cases e : k = i + 1
            ·rw [e]; exact HGT.out
            ·exact HG.out k (by omega)), Lib.hid (P3.out.drewN _), Lib.hid (below_drewN BE.out _)⟩
          ·have e5 : decide (0 ≤ cv) = true := decide_eq_true (by omega)
           have HE := Lib.hid (HBAD.out (.inr (.inr (.inr (.inr ⟨by omega, by rw [← HOL.out]; omega⟩)))))
           clear hc
           go_quiet (first | (go_at_call 88; exact Calls.quiet_of_same (FI.out _ (FA3.out.drewN _))) | (go_at_call 83; exact Calls.quiet_of (CM.out _ (FB.out.drewN _) (FA3.out.drewN _))))
           go_wp2_with fail
           go_ret
           exact ⟨ret_i64 HE.out.symm, below_drewN BE.out _⟩
     ·have e1 : ((m : Int) != O) = true := by simpa using hml
      have HE := Lib.hid (HBAD.out (.inl hml))
      clear hml
      go_quiet (fail)
      go_wp2_with fail
      go_ret
      exact ⟨ret_i64 HE.out.symm, below_drewN BE.out _⟩
end Go.Proofs.YtjebfdfkjlkifaaGreat
