/- Lemmas on the way: Rc1, Rk1. -/
import Derived.Test.YtjebfdfkjlkifaaGreatC33
import Derived.Test.YtjebfdfkjlkifaaGreatE41
set_option linter.unusedSimpArgs false
set_option linter.unusedVariables false
set_option linter.unusedSectionVars false
set_option linter.unnecessarySimpa false
namespace Go.Proofs.YtjebfdfkjlkifaaGreat
open Go.RowKit
set_option maxRecDepth 1000000 in
set_option maxHeartbeats 1000000 in
theorem fitsQ (w : World) (v : Value) (l : List Int) (hi : Int) (h : IntsAt w v l) :
  Calls Tryz.prog 88 #[v, .int .i64 hi] w fun e w' => e = .returned (.bool (inR 0 hi l)) ∧ w' = w := by
 obtain ⟨A, ca, rfl, hlc, hcm, hA⟩ := h.open_
 have HA := Lib.hid hA
 clear h hA
 obtain ⟨n, hn⟩ : ∃ n, l.length = n := ⟨_, rfl⟩
 rw [hn] at hlc ⊢
 have HN := Lib.hid hn
 clear hn
 go_enter Tryz.func88, Tryz.ntmps88
 go_wp2_with fail
 go_loopg [5] n (fun g i wr => ∃ (j : Nat), wr = w ∧ i = .int .i64 j ∧ j + g = n ∧ Hid (inR 0 hi l = inR 0 hi (l.drop j)))
 case atStart => exact ⟨0, rfl, rfl, by omega, Lib.hid rfl⟩
 case round =>
  obtain ⟨j, rfl, rfl, hj, HQ⟩ := hrel
  rcases Nat.eq_zero_or_pos gk with h | h
  ·obtain rfl : j = n := by omega
   have HT : Hid (inR 0 hi l = true) := Lib.hid (by rw [HQ.out, List.drop_eq_nil_of_le (by rw [HN.out]; exact Nat.le_refl _)]; rfl)
   go_wp2_with fail
   go_ret
   exact ⟨ret_bool HT.out.symm, rfl⟩
  ·obtain ⟨g, rfl⟩ : ∃ g, gk = g + 1 := ⟨gk - 1, by omega⟩
   obtain ⟨x, hx⟩ : ∃ x, l[j]? = some x := ⟨_, List.getElem?_eq_getElem (by rw [HN.out]; omega)⟩
   obtain ⟨ba, oa, rfl, _, hc⟩ := HA.out j x hx
   have ST := Lib.hid (HQ.out.trans (inR_step hx))
   clear hx
   by_cases h1 : 0 ≤ x
   ·by_cases h2 : x ≤ hi
    ·have d1 : decide (x < 0) = false := decide_eq_false (by omega)
     have d2 : decide (hi < x) = false := decide_eq_false (by omega)
     have HT : Hid (inR 0 hi l = inR 0 hi (l.drop (j + 1))) := Lib.hid (by rw [ST.out, decide_eq_true h1, decide_eq_true h2]; rfl)
     clear h1 h2
     go_wp2_with fail
     go_roundg g
     case measure => omega
     case rel => exact ⟨j + 1, rfl, rfl, by omega, HT⟩
    ·have d1 : decide (x < 0) = false := decide_eq_false (by omega)
     have d2 : decide (hi < x) = true := decide_eq_true (by omega)
     have HT : Hid (inR 0 hi l = false) := Lib.hid (by rw [ST.out, decide_eq_true h1, decide_eq_false h2]; rfl)
     clear h1 h2
     go_wp2_with fail
     go_ret
     exact ⟨ret_bool HT.out.symm, rfl⟩
   ·have d1 : decide (x < 0) = true := decide_eq_true (by omega)
    have HT : Hid (inR 0 hi l = false) := Lib.hid (by rw [ST.out, decide_eq_false h1]; rfl)
    clear h1
    go_wp2_with fail
    go_ret
    exact ⟨ret_bool HT.out.symm, rfl⟩

set_option maxRecDepth 1000000 in
set_option maxHeartbeats 1000000 in
theorem ordQ (w : World) (va vb : Value) (a b : List Int) (ha : IntsAt w va a) (hb : IntsAt w vb b) (hl : a.length ≤ b.length) :
  Calls Tryz.prog 83 #[va, vb] w fun e w' => e = .returned (.int .i64 (ordL a b)) ∧ ∃ m, w' = w.drewN m := by
 obtain ⟨A, ca, rfl, hlc, hcm, hA⟩ := ha.open_
 obtain ⟨B, cb, rfl, hmc, hcm', hB⟩ := hb.open_
 have HA := Lib.hid hA
 have HB := Lib.hid hB
 clear ha hb hA hB
 obtain ⟨n, hn⟩ : ∃ n, a.length = n := ⟨_, rfl⟩
 obtain ⟨p, hp⟩ : ∃ p, b.length = p := ⟨_, rfl⟩
 rw [hn] at hlc hl ⊢
 rw [hp] at hmc hl ⊢
 have HN := Lib.hid hn
 have HP := Lib.hid hp
 clear hn hp
 go_enter Tryz.func83, Tryz.ntmps83
 go_wp2_with fail
 go_loopg [5] n (fun g i wr => ∃ (j : Nat), (∃ d, wr = w.drewN d) ∧ i = .int .i64 j ∧ j + g = n ∧ Hid (a.take j = b.take j))
 case atStart => exact ⟨0, ⟨0, rfl⟩, rfl, by omega, Lib.hid rfl⟩
 case round =>
  obtain ⟨j, ⟨nd, rfl⟩, rfl, hj, HQ⟩ := hrel
  rcases Nat.eq_zero_or_pos gk with h | h
  ·obtain rfl : j = n := by omega
   have HT : Hid (ordL a b = 0) := Lib.hid (ordL_pre (by
    have := HQ.out
    rw [List.take_of_length_le (by rw [HN.out]; exact Nat.le_refl _)] at this
    rw [HN.out]; exact this))
   go_wp2_with fail
   go_ret
   exact ⟨ret_i64 HT.out.symm, ⟨_, by first | rfl | exact World.drewN_drewN _ _ _ | exact (congrArg (fun u => World.drewN u _) (World.drewN_drewN _ _ _)).trans (World.drewN_drewN _ _ _)⟩⟩
  ·obtain ⟨g, rfl⟩ : ∃ g, gk = g + 1 := ⟨gk - 1, by omega⟩
   obtain ⟨x, hx⟩ : ∃ x, a[j]? = some x := ⟨_, List.getElem?_eq_getElem (by rw [HN.out]; omega)⟩
   obtain ⟨y, hy⟩ : ∃ y, b[j]? = some y := ⟨_, List.getElem?_eq_getElem (by rw [HP.out]; omega)⟩
   obtain ⟨ba, oa, rfl, _, hc⟩ := HA.out j x hx
   obtain ⟨bb, ob, rfl, _, hc'⟩ := HB.out j y hy
   have HX := Lib.hid hx
   have HY := Lib.hid hy
   clear hx hy
   by_cases hxy : x = y
   ·subst hxy
    have hne : (x != x) = false := by simp
    go_wp2_with fail
    go_quiet (fail)
    go_wp2_with fail
    go_roundg g
    case measure => omega
    case rel => exact ⟨j + 1, ⟨_, rfl⟩, rfl, by omega, Lib.hid (by rw [take_succ_get _ HX.out, take_succ_get _ HY.out, HQ.out])⟩
   ·have hne : (x != y) = true := by simpa using hxy
    have HF := Lib.hid (ordL_at HQ.out HX.out HY.out hxy)
    clear hxy
    by_cases hlt : x < y
    ·have HF2 : Hid (ordL a b = -1) := Lib.hid (by rw [HF.out, if_pos hlt])
     have hd : decide (x < y) = true := decide_eq_true hlt
     clear hlt
     go_wp2_with fail
     go_quiet (fail)
     go_wp2_with fail
     go_quiet (fail)
     go_wp2_with fail
     go_ret
     exact ⟨ret_i64 HF2.out.symm, ⟨_, by first | rfl | exact World.drewN_drewN _ _ _ | exact (congrArg (fun u => World.drewN u _) (World.drewN_drewN _ _ _)).trans (World.drewN_drewN _ _ _)⟩⟩
    ·have HF2 : Hid (ordL a b = 1) := Lib.hid (by rw [HF.out, if_neg hlt])
     have hd : decide (x < y) = false := decide_eq_false hlt
     clear hlt
     go_wp2_with fail
     go_quiet (fail)
     go_wp2_with fail
     go_quiet (fail)
     go_wp2_with fail
     go_ret
     exact ⟨ret_i64 HF2.out.symm, ⟨_, by first | rfl | exact World.drewN_drewN _ _ _ | exact (congrArg (fun u => World.drewN u _) (World.drewN_drewN _ _ _)).trans (World.drewN_drewN _ _ _)⟩⟩


set_option maxRecDepth 1000000 in
set_option maxHeartbeats 16000000 in
theorem refCheckTableG (w : World) (O V : Int) (lv : Value) (gs : List Gr) (h : GramsAt w lv gs) :
  Calls Tryz.prog 68 #[.agg #[.int .i64 O, .int .i64 V, lv]] w fun e w' => e = .returned (.int .i64 (tableE O V gs)) ∧ Below w.heap.size w w' := by
 obtain ⟨A, c, rfl, hlc, hcm, hat⟩ := h.open_
 have HAT := Lib.hid hat
 clear h hat
 obtain ⟨n, hn⟩ : ∃ n, gs.length = n := ⟨_, rfl⟩
 rw [hn] at hlc ⊢
 have HN := Lib.hid hn
 clear hn
 by_cases hlong : 20000 < n
 ·have hd2 : decide ((20000 : Int) < (n : Int)) = true := decide_eq_true (by omega)
  have HE : Hid (tableE O V gs = 5) := Lib.hid (tableE_long (by rw [HN.out]; exact hlong))
  clear hlong
  go_enter Tryz.func68, Tryz.ntmps68
  go_wp2_with fail
  go_ret
  exact ⟨ret_i64 HE.out.symm, (Below.refl _ _).alloc (Nat.le_refl _) _⟩
 ·have hd2 : decide ((20000 : Int) < (n : Int)) = false := decide_eq_false (by omega)
  have HL : Hid (¬ 20000 < gs.length) := Lib.hid (by rw [HN.out]; exact hlong)
  clear hlong
  go_enter Tryz.func68, Tryz.ntmps68
  go_wp2_with fail
  obtain ⟨W, hW, P0, PB, Phs⟩ := box1 w 27 [.int .i64 O, .int .i64 V, .slice A n c]
  rw [← hW]
  clear hW
  refine (sizesG W O V).mono ?_
  rintro e w1 ⟨rfl, hb1⟩
  have P1 := Lib.hid (P0.out.below' hb1)
  have B1 := Lib.hid (PB.out.trans (hb1.mono (by omega)))
  clear hb1 P0 PB
  obtain ⟨p0, p1, p2, _, _, _⟩ := P1.out.three
  obtain ⟨sb, hsb⟩ : ∃ b, sizesB O V = b := ⟨_, rfl⟩
  rw [hsb]
  have HSB := Lib.hid hsb
  clear hsb
  cases sb
  ·have HE : Hid (tableE O V gs = 2) := Lib.hid (tableE_size HL.out HSB.out)
   go_wp2_with fail
   go_ret
   exact ⟨ret_i64 HE.out.symm, B1.out⟩
  ·clear hd2
   go_wp2_with fail
   go_loopg [3] n (fun gh i wz => ∃ (j : Nat), i = .int .i64 j ∧ j + gh = n ∧ Hid (∀ k, k < j → goodAt O V gs k = true) ∧ Hid (Blk wz w.heap.size 27 [.int .i64 O, .int .i64 V, .slice A n c]) ∧ Hid (Below w.heap.size w wz))
   case atStart => exact ⟨0, rfl, by omega, Lib.hid (fun k hk => by omega), P1, B1⟩
   case round =>
    clear p0 p1 p2 P1 B1
    obtain ⟨j, rfl, hj, HG, P1, B1⟩ := hrel
    obtain ⟨p0, p1, p2, _, _, _⟩ := P1.out.three
    have s2 : w.heap.size < wr.heap.size := P1.out.lt
    rcases Nat.eq_zero_or_pos gk with hh | hh
    ·subst hh
     obtain rfl : j = n := by omega
     have HE : Hid (tableE O V gs = 0) := Lib.hid (tableE_good HL.out HSB.out (fun i hi => HG.out i (by rw [HN.out] at hi; exact hi)))
     go_wp2_with fail
     go_ret
     exact ⟨ret_i64 HE.out.symm, B1.out⟩
    ·obtain ⟨gh, rfl⟩ : ∃ g, gk = g + 1 := ⟨gk - 1, by omega⟩
     obtain ⟨x, hx⟩ : ∃ x, gs[j]? = some x := ⟨_, List.getElem?_eq_getElem (by rw [HN.out]; omega)⟩
     obtain ⟨ba, oa, a0, rfl, hba, ea0, ea1, fa⟩ := HAT.out j x hx
     have d0 := (B1.out.cell (p := ⟨ba, oa + j * 2, none⟩) hba).trans ea0
     have d1 := (B1.out.cell (p := ⟨ba, oa + j * 2 + 1, none⟩) hba).trans ea1
     have FA := Lib.hid (fa.below B1.out)
     have HX := Lib.hid hx
     have hz3 : ba < wr.heap.size := by omega
     clear hx ea0 ea1
     obtain ⟨A1, k1, hA1⟩ := fa.len
     subst hA1
     clear fa
     have HBAD : Hid ((¬ (x.1.length : Int) = O ∨ inR 0 V x.1 = false ∨ x.2 < 1 ∨ 1073741824 < x.2 ∨ (0 < j ∧ ¬ ordL (gs.getD (j - 1) ([], 0)).1 x.1 < 0)) → tableE O V gs = 2) := Lib.hid (fun hc => tableE_bad HL.out (by rw [HN.out]; omega) (goodAt_false HX.out hc))
     obtain ⟨x1, x2⟩ := x
     simp only at d0 d1 FA HBAD
     obtain ⟨m, hm⟩ : ∃ m, x1.length = m := ⟨_, rfl⟩
     rw [hm] at d0
     have HM := Lib.hid hm
     rw [hm] at HBAD
     have FA2 : Hid (IntsAt wr (.slice A1 m k1) x1) := Lib.hid (by rw [← hm]; exact FA.out)
     clear hm FA
     go_wp2_with fail
     obtain ⟨W2, hW2, G0, GB, Ghs⟩ := box1 wr 51 [.slice A1 m k1, .int .i64 x2]
     rw [← hW2]
     clear hW2
     have P3 := Lib.hid (P1.out.below' GB.out)
     have BE := Lib.hid (B1.out.trans (GB.out.mono B1.out.size))
     have FA3 := Lib.hid (FA2.out.below GB.out)
     have FI : Hid (∀ W', IntsAt W' (.slice A1 m k1) x1 → Calls Tryz.prog 88 #[.slice A1 m k1, .int .i64 V] W' fun e w' => e = .returned (.bool (inR 0 V x1)) ∧ w' = W') := Lib.hid (fun W' h => fitsQ W' _ x1 V h)
     clear p0 p1 p2 d0 d1 P1 B1 FA2 GB
     obtain ⟨p0, p1, p2, _, _, _⟩ := P3.out.three
     have g0 := G0.out.cell 0
     have g1 := G0.out.cell 1
     simp only [List.getElem?_cons_zero, List.getElem?_cons_succ] at g0 g1
     obtain ⟨ib, hib⟩ : ∃ b, inR 0 V x1 = b := ⟨_, rfl⟩
     rw [hib] at FI
     have HIB := Lib.hid hib
     clear hib
     by_cases hml : (m : Int) = O
     ·have e1 : ((m : Int) != O) = false := by simpa using hml
      have HML := Lib.hid hml
      clear hml
      cases ib
      ·have HE := Lib.hid (HBAD.out (.inr (.inl HIB.out)))
       go_quiet ((go_at_call 88; exact Calls.quiet_of_same (FI.out _ (FA3.out.drewN _))))
       go_wp2_with fail
       go_ret
       exact ⟨ret_i64 HE.out.symm, below_drewN BE.out _⟩
      ·by_cases hx1 : x2 < 1
       ·have HE := Lib.hid (HBAD.out (.inr (.inr (.inl hx1))))
        have e2 : decide (x2 < 1) = true := decide_eq_true hx1
        clear hx1
        go_quiet ((go_at_call 88; exact Calls.quiet_of_same (FI.out _ (FA3.out.drewN _))))
        go_wp2_with fail
        go_ret
        exact ⟨ret_i64 HE.out.symm, below_drewN BE.out _⟩
       ·have e2 : decide (x2 < 1) = false := decide_eq_false hx1
        by_cases hx2 : 1073741824 < x2
        ·have HE := Lib.hid (HBAD.out (.inr (.inr (.inr (.inl hx2)))))
         have e3 : decide (1073741824 < x2) = true := decide_eq_true hx2
         clear hx1 hx2
         go_quiet ((go_at_call 88; exact Calls.quiet_of_same (FI.out _ (FA3.out.drewN _))))
         go_wp2_with fail
         go_ret
         exact ⟨ret_i64 HE.out.symm, below_drewN BE.out _⟩
        ·have e3 : decide (1073741824 < x2) = false := decide_eq_false hx2
         have HX12 := Lib.hid (And.intro hx1 hx2)
         clear hx1 hx2
         rcases Nat.eq_zero_or_pos j with hj0 | hj0
         ·subst hj0
          have HGT := Lib.hid (goodAt_true (O := O) (V := V) HX.out (by rw [HM.out]; exact HML.out) HIB.out (by have := HX12.out; simp only; omega) (by have := HX12.out; simp only; omega) (fun h => by omega))
          go_quiet ((go_at_call 88; exact Calls.quiet_of_same (FI.out _ (FA3.out.drewN _))))
          go_wp2_with fail
          go_roundg gh
          case measure => omega
          case rel => exact ⟨1, rfl, by omega, Lib.hid (fun k hk => by rw [show k = 0 by omega]; exact HGT.out), Lib.hid (P3.out.drewN _), Lib.hid (below_drewN BE.out _)⟩
         ·obtain ⟨i, rfl⟩ : ∃ i, j = i + 1 := ⟨j - 1, by omega⟩
          obtain ⟨y, hy⟩ : ∃ y, gs[i]? = some y := ⟨_, List.getElem?_eq_getElem (by rw [HN.out]; omega)⟩
          obtain ⟨bb, ob, b0, eb, hbb, eb0, eb1, fb⟩ := HAT.out i y hy
          cases eb
          have d0 := (BE.out.cell (p := ⟨ba, oa + i * 2, none⟩) hbb).trans eb0
          have HYL := Lib.hid (goodAt_len hy (HG.out i (by omega)))
          obtain ⟨A2, k2, hA2⟩ := fb.len
          subst hA2
          have FB := Lib.hid (fb.below BE.out)
          have HOL : Hid (ordL y.1 x1 = ordL (gs.getD (i + 1 - 1) ([], 0)).1 x1) := Lib.hid (by rw [show i + 1 - 1 = i by omega, getD_of hy])
          obtain ⟨cv, hcv⟩ : ∃ c, ordL y.1 x1 = c := ⟨_, rfl⟩
          rw [hcv] at HOL
          obtain ⟨p, hp⟩ : ∃ p, y.1.length = p := ⟨_, rfl⟩
          rw [hp] at d0 FB
          have CM : Hid (∀ W', IntsAt W' (.slice A2 p k2) y.1 → IntsAt W' (.slice A1 m k1) x1 → Calls Tryz.prog 83 #[.slice A2 p k2, .slice A1 m k1] W' fun e w' => e = .returned (.int .i64 cv) ∧ ∃ m, w' = W'.drewN m) := Lib.hid (fun W' h1 h2 => by
           rw [← hcv]
           exact ordQ W' _ _ _ _ h1 h2 (by have h1 := HYL.out; have h2 := HML.out; have h3 := HM.out; omega))
          have i1 : IntKind.i64.wrap ((i : Int) + 1 - 1) = (i : Int) := by rw [show (i : Int) + 1 - 1 = i by omega]; exact IntWalk.i64_in _ (by omega)
          have i2 : IntKind.i64.wrap (i : Int) = (i : Int) := IntWalk.i64_in _ (by omega)
          have j1 : (0 : Int) ≤ (i : Int) := by omega
          have j2 : (i : Int) < (n : Int) := by omega
          have j3 : decide ((0 : Int) < (i : Int) + 1) = true := decide_eq_true (by omega)
          have j4 : decide (0 < i + 1) = true := decide_eq_true (by omega)
          clear hy eb0 eb1 fb hcv hp
          by_cases hc : cv < 0
          ·have e5 : decide (0 ≤ cv) = false := decide_eq_false (by omega)
           have HGT := Lib.hid (goodAt_true (O := O) (V := V) HX.out (by rw [HM.out]; exact HML.out) HIB.out (by have := HX12.out; simp only; omega) (by have := HX12.out; simp only; omega) (fun _ => by rw [← HOL.out]; exact hc))
           clear hc
           go_quiet (first | (go_at_call 88; exact Calls.quiet_of_same (FI.out _ (FA3.out.drewN _))) | (go_at_call 83; exact Calls.quiet_of (CM.out _ (FB.out.drewN _) (FA3.out.drewN _))))
           go_wp2_with fail
           go_roundg gh
           case measure => omega
           case rel => exact ⟨i + 1 + 1, rfl, by omega, Lib.hid (fun k hk => by
            by_cases e : k = i + 1
            ·rw [e]; exact HGT.out
            ·exact HG.out k (by omega)), Lib.hid (P3.out.drewN _), Lib.hid (below_drewN BE.out _)⟩
          ·have e5 : decide (0 ≤ cv) = true := decide_eq_true (by omega)
           have HE := Lib.hid (HBAD.out (.inr (.inr (.inr (.inr ⟨by omega, by rw [← HOL.out]; omega⟩)))))
           clear hc
           go_quiet (first | (go_at_call 88; exact Calls.quiet_of_same (FI.out _ (FA3.out.drewN _))) | (go_at_call 83; exact Calls.quiet_of (CM.out _ (FB.out.drewN _) (FA3.out.drewN _))))
           go_wp2_with fail
           go_ret
           exact ⟨ret_i64 HE.out.symm, below_drewN BE.out _⟩
     ·have e1 : ((m : Int) != O) = true := by simpa using hml
      have HE := Lib.hid (HBAD.out (.inl hml))
      clear hml
      go_quiet (fail)
      go_wp2_with fail
      go_ret
      exact ⟨ret_i64 HE.out.symm, below_drewN BE.out _⟩
set_option maxRecDepth 1000000 in
set_option maxHeartbeats 16000000 in
theorem refCheckG (w : World) (O V : Int) (lv : Value) (gs : List Gr) (k : Int) (s : Bool) (A A' : Option Addr) (m c m' c' : Nat) (mv : Value) (a : Rat) (mix : List Rat) (h : LangAt w lv gs s A A' m c m' c' a mv mix) :
  Calls Tryz.prog 26 #[langV O V lv k s A A' m c m' c' mv] w fun e w' => e = .returned (.int .i64 (checkE O V gs k a mix)) ∧ Below w.heap.size w w' := by
 obtain ⟨Al, cl, rfl, _, _, _⟩ := h.grams.open_
 obtain ⟨Am, cm, rfl, hmc, hmm, hat⟩ := h.mixes.open_
 have HL := Lib.hid h
 obtain ⟨ml, hml⟩ : ∃ n, mix.length = n := ⟨_, rfl⟩
 have HLM : Hid (FracsAt 64 w (.slice Am ml cm) mix) := Lib.hid (by rw [← hml]; exact h.mixes)
 have HSH := Lib.hid h.short
 have HAT := Lib.hid hat
 have QA := Lib.hid (h.amount.qb (by omega))
 rw [hml] at hmc ⊢
 have HML := Lib.hid hml
 have hms : ml ≤ 1000000 := by rw [← hml]; exact h.short
 clear h hml hat
 unfold langV
 go_enter Tryz.func26, Tryz.ntmps26
 go_wp2_with fail
 obtain ⟨W, hW, P0, PB, Phs⟩ := box1 w 43 [.int .i64 O, .int .i64 V, .slice Al gs.length cl, .int .i64 k, .bool s, .slice A m c, .slice A' m' c', .slice Am ml cm]
 rw [← hW]
 clear hW
 obtain ⟨p0, p1, p2, p3, p4, p5, p6, p7⟩ := eight P0.out
 go_wp2_with fail
 refine (refCheckTableG W O V _ gs (HL.out.grams.below PB.out)).mono ?_
 rintro e w1 ⟨rfl, hb1⟩
 have P1 := Lib.hid (P0.out.below' hb1)
 have B1 := Lib.hid (PB.out.trans (hb1.mono PB.out.size))
 clear p0 p1 p2 p3 p4 p5 p6 p7 hb1 P0 PB
 obtain ⟨p0, p1, p2, p3, p4, p5, p6, p7⟩ := eight P1.out
 obtain ⟨te, hte⟩ : ∃ z, tableE O V gs = z := ⟨_, rfl⟩
 rw [hte]
 have HTE := Lib.hid hte
 clear hte
 by_cases h0 : te = 0
 ·subst h0
  have HO := sizes_ok (tableE_ok HTE.out).2.1
  have HE0 : Hid (checkE O V gs k a mix = if validB k a mix O = true then 0 else 2) := Lib.hid (by unfold checkE; rw [HTE.out]; rfl)
  obtain ⟨sa, hsa⟩ : ∃ z, sgnI a = z := ⟨_, rfl⟩
  have HSA := Lib.hid hsa
  clear hsa
  by_cases hk1 : k = 1
  ·subst hk1
   by_cases hz : ml = 0
   ·have f1 : ((ml : Int) == 0) = true := by simpa using hz
    by_cases hs : 0 < sa
    ·have d1 : decide ((0 : Int) < sa) = true := decide_eq_true hs
     have HV : Hid (validB 1 a mix O = true) := Lib.hid (by unfold validB; rw [if_pos rfl, HSA.out, HML.out, d1, f1]; rfl)
     clear hz hs
     go_wp2_with fail
     refine (signR w1 _ a 64 (HL.out.amount.below B1.out) (by omega)).mono ?_
     rintro e w2 ⟨rfl, hb2⟩
     rw [HSA.out]
     have B2 := Lib.hid (B1.out.trans (hb2.mono B1.out.size))
     have P2 := Lib.hid (P1.out.below' hb2)
     clear p0 p1 p2 p3 p4 p5 p6 p7 hb2
     obtain ⟨p0, p1, p2, p3, p4, p5, p6, p7⟩ := eight P2.out
     have HE : Hid (checkE O V gs 1 a mix = 0) := Lib.hid (by rw [HE0.out, HV.out]; rfl)
     go_wp2_with fail
     go_ret
     exact ⟨ret_i64 HE.out.symm, B2.out⟩
    ·have d1 : decide ((0 : Int) < sa) = false := decide_eq_false hs
     have HV : Hid (validB 1 a mix O = false) := Lib.hid (by unfold validB; rw [if_pos rfl, HSA.out, d1]; rfl)
     clear hz hs
     go_wp2_with fail
     refine (signR w1 _ a 64 (HL.out.amount.below B1.out) (by omega)).mono ?_
     rintro e w2 ⟨rfl, hb2⟩
     rw [HSA.out]
     have B2 := Lib.hid (B1.out.trans (hb2.mono B1.out.size))
     have P2 := Lib.hid (P1.out.below' hb2)
     clear p0 p1 p2 p3 p4 p5 p6 p7 hb2
     obtain ⟨p0, p1, p2, p3, p4, p5, p6, p7⟩ := eight P2.out
     have HE : Hid (checkE O V gs 1 a mix = 2) := Lib.hid (by rw [HE0.out, HV.out]; rfl)
     go_wp2_with fail
     go_ret
     exact ⟨ret_i64 HE.out.symm, B2.out⟩
   ·have f1 : ((ml : Int) == 0) = false := by simpa using hz
    have HV : Hid (validB 1 a mix O = false) := Lib.hid (by unfold validB; rw [if_pos rfl, HML.out, f1, Bool.and_false])
    clear hz
    have HE : Hid (checkE O V gs 1 a mix = 2) := Lib.hid (by rw [HE0.out, HV.out]; rfl)
    go_wp2_with fail
    go_ret
    exact ⟨ret_i64 HE.out.symm, B1.out⟩
  ·have n1 : (k == 1) = false := by simpa using hk1
   by_cases hk2 : k = 2
   ·subst hk2
    clear n1 hk1
    have i1 : IntKind.i64.wrap (O + 1) = O + 1 := IntWalk.i64_in _ (by omega)
    by_cases hs : sa = 0
    ·have d1 : (sa == 0) = true := by simpa using hs
     clear hs
     go_wp2_with fail
     refine (signR w1 _ a 64 (HL.out.amount.below B1.out) (by omega)).mono ?_
     rintro e w2 ⟨rfl, hb2⟩
     rw [HSA.out]
     have B2 := Lib.hid (B1.out.trans (hb2.mono B1.out.size))
     have P2 := Lib.hid (P1.out.below' hb2)
     clear p0 p1 p2 p3 p4 p5 p6 p7 hb2
     obtain ⟨p0, p1, p2, p3, p4, p5, p6, p7⟩ := eight P2.out
     by_cases hz : (ml : Int) = O + 1
     ·have f1 : ((ml : Int) == O + 1) = true := by simpa using hz
      have hm1 : 1 < ml := by omega
      have f2 : (0 : Int) < (ml : Int) := by omega
      go_wp2_with fail
      refine (distributionR w2 64 _ mix (HLM.out.below B2.out) (by omega) (by rw [HML.out]; omega)).mono ?_
      rintro e w3 ⟨rfl, hb3⟩
      obtain ⟨db, hdb⟩ : ∃ z, distr mix = z := ⟨_, rfl⟩
      rw [hdb]
      have HDB := Lib.hid hdb
      clear hdb
      have B3 := Lib.hid (B2.out.trans (hb3.mono B2.out.size))
      have P3 := Lib.hid (P2.out.below' hb3)
      clear p0 p1 p2 p3 p4 p5 p6 p7 hb3
      obtain ⟨p0, p1, p2, p3, p4, p5, p6, p7⟩ := eight P3.out
      cases db with
      | false =>
       have HV : Hid (validB 2 a mix O = false) := Lib.hid (by unfold validB; rw [if_neg (by decide), if_pos rfl, HDB.out]; simp)
       have HE : Hid (checkE O V gs 2 a mix = 2) := Lib.hid (by rw [HE0.out, HV.out]; rfl)
       go_wp2_with fail
       go_ret
       exact ⟨ret_i64 HE.out.symm, B3.out⟩
      | true =>
       obtain ⟨x, hx⟩ : ∃ x, mix[0]? = some x := ⟨_, List.getElem?_eq_getElem (by rw [HML.out]; omega)⟩
       obtain ⟨_, _, ee, _, _, hat2⟩ := HLM.out.at_
       obtain ⟨bm, om, ng, An, nn, cn, Ad, nd, cd, he, hbm, e0, e1, e2, hf⟩ := hat2 0 x hx
       have hA : Am = some ⟨bm, om, none⟩ := by cases ee; exact he
       subst hA
       have HG : Hid (mix.getD 0 0 = x) := Lib.hid (by rw [List.getD_eq_getElem?_getD, hx]; rfl)
       simp only [Nat.zero_mul, Nat.add_zero] at e0 e1 e2
       have c0 := (B3.out.cell (p := ⟨bm, om, none⟩) hbm).trans e0
       have c1 := (B3.out.cell (p := ⟨bm, om + 1, none⟩) hbm).trans e1
       have c2 := (B3.out.cell (p := ⟨bm, om + 2, none⟩) hbm).trans e2
       have FX := Lib.hid hf
       clear hx ee hat2 he e0 e1 e2 hf
       go_wp2_with fail
       refine (signR w3 _ x 64 (FX.out.below B3.out) (by omega)).mono ?_
       rintro e w4 ⟨rfl, hb4⟩
       obtain ⟨sx, hsx⟩ : ∃ z, sgnI x = z := ⟨_, rfl⟩
       rw [hsx]
       have HSX := Lib.hid hsx
       clear hsx c0 c1 c2
       have B4 := Lib.hid (B3.out.trans (hb4.mono B3.out.size))
       have P4 := Lib.hid (P3.out.below' hb4)
       clear p0 p1 p2 p3 p4 p5 p6 p7 hb4
       obtain ⟨p0, p1, p2, p3, p4, p5, p6, p7⟩ := eight P4.out
       by_cases hc : 0 < sx
       ·have d2 : decide (0 < sx) = true := decide_eq_true hc
        have HV : Hid (validB 2 a mix O = true) := Lib.hid (by unfold validB; rw [if_neg (by decide), if_pos rfl, HSA.out, HML.out, HDB.out, HG.out, HSX.out, d1, f1, d2]; rfl)
        clear hc hz
        have HE : Hid (checkE O V gs 2 a mix = 0) := Lib.hid (by rw [HE0.out, HV.out]; rfl)
        go_wp2_with fail
        go_ret
        exact ⟨ret_i64 HE.out.symm, B4.out⟩
       ·have d2 : decide (0 < sx) = false := decide_eq_false hc
        have HV : Hid (validB 2 a mix O = false) := Lib.hid (by unfold validB; rw [if_neg (by decide), if_pos rfl, HG.out, HSX.out, d2]; simp)
        clear hc hz
        have HE : Hid (checkE O V gs 2 a mix = 2) := Lib.hid (by rw [HE0.out, HV.out]; rfl)
        go_wp2_with fail
        go_ret
        exact ⟨ret_i64 HE.out.symm, B4.out⟩
     ·have f1 : ((ml : Int) == O + 1) = false := by simpa using hz
      have HV : Hid (validB 2 a mix O = false) := Lib.hid (by unfold validB; rw [if_neg (by decide), if_pos rfl, HML.out, f1]; simp)
      clear hz
      have HE : Hid (checkE O V gs 2 a mix = 2) := Lib.hid (by rw [HE0.out, HV.out]; rfl)
      go_wp2_with fail
      go_ret
      exact ⟨ret_i64 HE.out.symm, B2.out⟩
    ·have d1 : (sa == 0) = false := by simpa using hs
     have HV : Hid (validB 2 a mix O = false) := Lib.hid (by unfold validB; rw [if_neg (by decide), if_pos rfl, HSA.out, d1]; rfl)
     clear hs
     go_wp2_with fail
     refine (signR w1 _ a 64 (HL.out.amount.below B1.out) (by omega)).mono ?_
     rintro e w2 ⟨rfl, hb2⟩
     rw [HSA.out]
     have B2 := Lib.hid (B1.out.trans (hb2.mono B1.out.size))
     have P2 := Lib.hid (P1.out.below' hb2)
     clear p0 p1 p2 p3 p4 p5 p6 p7 hb2
     obtain ⟨p0, p1, p2, p3, p4, p5, p6, p7⟩ := eight P2.out
     have HE : Hid (checkE O V gs 2 a mix = 2) := Lib.hid (by rw [HE0.out, HV.out]; rfl)
     go_wp2_with fail
     go_ret
     exact ⟨ret_i64 HE.out.symm, B2.out⟩
   ·have n2 : (k == 2) = false := by simpa using hk2
    by_cases hk3 : k = 3
    ·subst hk3
     clear n1 n2 hk1 hk2
     by_cases hz : ml = 0
     ·have f1 : ((ml : Int) == 0) = true := by simpa using hz
      have BB := Lib.hid (Below.refl w1.heap.size w1)
      have hS := And.intro p4 (And.intro p5 p6)
      obtain ⟨sc, hsc⟩ : ∃ z, sgnI (a - ((1 : Nat) : Rat)) = z := ⟨_, rfl⟩
      have HSC : Hid (sgnI (a - ((1 : Nat) : Rat)) = sc) := Lib.hid hsc
      have HSC1 : Hid (sgnI (a - 1) = sc) := Lib.hid hsc
      clear hsc
      by_cases hs : 0 < sa
      ·have d1 : decide ((0 : Int) < sa) = true := decide_eq_true hs
       by_cases hc : sc < 0
       ·have d2 : decide (sc < 0) = true := decide_eq_true hc
        have HV : Hid (validB 3 a mix O = true) := Lib.hid (by unfold validB; rw [if_neg (by decide), if_neg (by decide), if_pos rfl, HSC1.out, HSA.out, HML.out, decide_eq_false (show ¬ 0 ≤ sc by omega), d1, f1]; rfl)
        have HE : Hid (checkE O V gs 3 a mix = 0) := Lib.hid (by rw [HE0.out, HV.out]; rfl)
        clear hc hz hs
        go_wp2_with fail
        go_region_held3 (fun w' => w'.cell? ⟨w.heap.size, 4, none⟩ = some (.bool s) ∧ w'.cell? ⟨w.heap.size, 5, none⟩ = some (.slice A m c) ∧ w'.cell? ⟨w.heap.size, 6, none⟩ = some (.slice A' m' c'))
         (first | assumption | go_keep)
         (first
          | (go_at_call 37; refine (signR _ _ a 64 (HL.out.amount.below B1.out |>.below (by first | exact BB.out | exact BB.out.trans (below_drew_self _) | exact BB.out.trans ((below_drew_self _).mono BB.out.size))) (by omega)).mono ?_; rintro e wl ⟨rfl, hb⟩; rw [HSA.out]; have hb0 := hb; (first | replace hb := below_new_drew hb | replace hb := below_new hb | replace hb := below_of_drew hb | skip); replace BB := Lib.hid (BB.out.trans (hb.mono BB.out.size)); clear hb0; have hS := And.intro ((P1.out.below' BB.out).cell 4) (And.intro ((P1.out.below' BB.out).cell 5) ((P1.out.below' BB.out).cell 6)); clear hb)
          | (go_at_call 33; refine (ofR _ 1 (by omega)).mono ?_; rintro e wl ⟨u, rfl, t3, hb⟩; have hb0 := hb; (first | replace hb := below_new_drew hb | replace hb := below_new hb | replace hb := below_of_drew hb | skip); replace BB := Lib.hid (BB.out.trans (hb.mono BB.out.size)); clear hb0; obtain ⟨Au, mu, cu, Au', mu', cu', rfl⟩ := t3.at_.open_; have T3 := Lib.hid (t3.at_.frac (k := 64) (qb_nat (n := 1) (k := 64) (by omega) (by omega)) (by omega)); have hS := And.intro ((P1.out.below' BB.out).cell 4) (And.intro ((P1.out.below' BB.out).cell 5) ((P1.out.below' BB.out).cell 6)); clear hb t3)
          | (go_at_call 30; refine (cmpR _ _ _ a ((1 : Nat) : Rat) 64 (HL.out.amount.below B1.out |>.below (by first | exact BB.out | exact BB.out.trans ((below_drew_self _).mono BB.out.size))) ?_ (by omega) (by omega)).mono ?_; (first | exact T3.out | exact T3.out.below (below_drew_self _) | exact T3.out.below (below_alloc_self _ _) | exact T3.out.below (below_alloc_drew _ _)); rintro e wl ⟨rfl, hb⟩; rw [HSC.out]; have hb0 := hb; (first | replace hb := below_new_drew hb | replace hb := below_new hb | replace hb := below_of_drew hb | skip); replace BB := Lib.hid (BB.out.trans (hb.mono BB.out.size)); clear hb0; have hS := And.intro ((P1.out.below' BB.out).cell 4) (And.intro ((P1.out.below' BB.out).cell 5) ((P1.out.below' BB.out).cell 6)); clear hb))
        all_goals
         go_wp2_with fail
         go_ret
         exact ⟨ret_i64 HE.out.symm, B1.out.trans (BB.out.mono B1.out.size)⟩
       ·have d2 : decide (sc < 0) = false := decide_eq_false hc
        have HV : Hid (validB 3 a mix O = false) := Lib.hid (by unfold validB; rw [if_neg (by decide), if_neg (by decide), if_pos rfl, HSC1.out, decide_eq_true (show 0 ≤ sc by omega)]; rfl)
        have HE : Hid (checkE O V gs 3 a mix = 2) := Lib.hid (by rw [HE0.out, HV.out]; rfl)
        clear hc hz hs
        go_wp2_with fail
        go_region_held3 (fun w' => w'.cell? ⟨w.heap.size, 4, none⟩ = some (.bool s) ∧ w'.cell? ⟨w.heap.size, 5, none⟩ = some (.slice A m c) ∧ w'.cell? ⟨w.heap.size, 6, none⟩ = some (.slice A' m' c'))
         (first | assumption | go_keep)
         (first
          | (go_at_call 37; refine (signR _ _ a 64 (HL.out.amount.below B1.out |>.below (by first | exact BB.out | exact BB.out.trans (below_drew_self _) | exact BB.out.trans ((below_drew_self _).mono BB.out.size))) (by omega)).mono ?_; rintro e wl ⟨rfl, hb⟩; rw [HSA.out]; have hb0 := hb; (first | replace hb := below_new_drew hb | replace hb := below_new hb | replace hb := below_of_drew hb | skip); replace BB := Lib.hid (BB.out.trans (hb.mono BB.out.size)); clear hb0; have hS := And.intro ((P1.out.below' BB.out).cell 4) (And.intro ((P1.out.below' BB.out).cell 5) ((P1.out.below' BB.out).cell 6)); clear hb)
          | (go_at_call 33; refine (ofR _ 1 (by omega)).mono ?_; rintro e wl ⟨u, rfl, t3, hb⟩; have hb0 := hb; (first | replace hb := below_new_drew hb | replace hb := below_new hb | replace hb := below_of_drew hb | skip); replace BB := Lib.hid (BB.out.trans (hb.mono BB.out.size)); clear hb0; obtain ⟨Au, mu, cu, Au', mu', cu', rfl⟩ := t3.at_.open_; have T3 := Lib.hid (t3.at_.frac (k := 64) (qb_nat (n := 1) (k := 64) (by omega) (by omega)) (by omega)); have hS := And.intro ((P1.out.below' BB.out).cell 4) (And.intro ((P1.out.below' BB.out).cell 5) ((P1.out.below' BB.out).cell 6)); clear hb t3)
          | (go_at_call 30; refine (cmpR _ _ _ a ((1 : Nat) : Rat) 64 (HL.out.amount.below B1.out |>.below (by first | exact BB.out | exact BB.out.trans ((below_drew_self _).mono BB.out.size))) ?_ (by omega) (by omega)).mono ?_; (first | exact T3.out | exact T3.out.below (below_drew_self _) | exact T3.out.below (below_alloc_self _ _) | exact T3.out.below (below_alloc_drew _ _)); rintro e wl ⟨rfl, hb⟩; rw [HSC.out]; have hb0 := hb; (first | replace hb := below_new_drew hb | replace hb := below_new hb | replace hb := below_of_drew hb | skip); replace BB := Lib.hid (BB.out.trans (hb.mono BB.out.size)); clear hb0; have hS := And.intro ((P1.out.below' BB.out).cell 4) (And.intro ((P1.out.below' BB.out).cell 5) ((P1.out.below' BB.out).cell 6)); clear hb))
        all_goals
         go_wp2_with fail
         go_ret
         exact ⟨ret_i64 HE.out.symm, B1.out.trans (BB.out.mono B1.out.size)⟩
      ·have d1 : decide ((0 : Int) < sa) = false := decide_eq_false hs
       have HV : Hid (validB 3 a mix O = false) := Lib.hid (by unfold validB; rw [if_neg (by decide), if_neg (by decide), if_pos rfl, HSA.out, d1]; simp)
       have HE : Hid (checkE O V gs 3 a mix = 2) := Lib.hid (by rw [HE0.out, HV.out]; rfl)
       clear hz hs
       have HSET : Hid (∀ w', Below w1.heap.size w1 w' → Below w1.heap.size w1 w' ∧ w'.cell? ⟨w.heap.size, 4, none⟩ = some (.bool s) ∧ w'.cell? ⟨w.heap.size, 5, none⟩ = some (.slice A m c) ∧ w'.cell? ⟨w.heap.size, 6, none⟩ = some (.slice A' m' c')) := Lib.hid (fun w' hb => ⟨hb, (P1.out.below' hb).cell 4, (P1.out.below' hb).cell 5, (P1.out.below' hb).cell 6⟩)
       clear hS
       have hS := HSET.out w1.drew (below_drew_self w1)
       go_wp2_with fail
       refine wp_region_held_drew (S := (fun w' => Below w1.heap.size w1 w' ∧ w'.cell? ⟨w.heap.size, 4, none⟩ = some (.bool s) ∧ w'.cell? ⟨w.heap.size, 5, none⟩ = some (.slice A m c) ∧ w'.cell? ⟨w.heap.size, 6, none⟩ = some (.slice A' m' c'))) (by kernel_rfl) hS (fun hHeld => ?_)
       clear hS
       refine wpAnyH_take (i := 0) (v := ?_) rfl (by kernel_rfl) (by kernel_rfl) (by kernel_rfl) (fun _ _ _ h => h) (Or.inl ⟨by rfl, ?_⟩) (by assumption) ?_
       rotate_left
       ·(intro w' hSw; (try dsimp only at hSw); go_simp <;> with_reducible rfl)
       simp only [List.getElem_toArray, List.getElem_cons_succ, List.getElem_cons_zero, Act.put, List.setIfInBounds_toArray, List.set_cons_zero, List.set_cons_succ]
       refine wpAnyH_take (i := 1) (v := ?_) rfl (by kernel_rfl) (by kernel_rfl) (by kernel_rfl) (fun _ _ _ h => h) (Or.inl ⟨by rfl, ?_⟩) (by assumption) ?_
       rotate_left
       ·(intro w' hSw; (try dsimp only at hSw); go_simp <;> with_reducible rfl)
       simp only [List.getElem_toArray, List.getElem_cons_succ, List.getElem_cons_zero, Act.put, List.setIfInBounds_toArray, List.set_cons_zero, List.set_cons_succ]
       refine wpAnyH_take (i := 2) (v := ?_) rfl (by kernel_rfl) (by kernel_rfl) (by kernel_rfl) (fun _ _ _ h => h) (Or.inl ⟨by rfl, ?_⟩) (by assumption) ?_
       rotate_left
       ·(intro w' hSw; (try dsimp only at hSw); go_simp <;> with_reducible rfl)
       simp only [List.getElem_toArray, List.getElem_cons_succ, List.getElem_cons_zero, Act.put, List.setIfInBounds_toArray, List.set_cons_zero, List.set_cons_succ]
       refine wpAnyH_take (i := 3) (v := ?_) rfl (by kernel_rfl) (by kernel_rfl) (by kernel_rfl) (fun _ _ _ h => h) (Or.inl ⟨by rfl, ?_⟩) (by assumption) ?_
       rotate_left
       ·(intro w' hSw; (try dsimp only at hSw); go_simp <;> with_reducible rfl)
       simp only [List.getElem_toArray, List.getElem_cons_succ, List.getElem_cons_zero, Act.put, List.setIfInBounds_toArray, List.set_cons_zero, List.set_cons_succ]
       refine wpAnyH_ready (rs := [4]) (by kernel_rfl) (by simp) ?_
       refine AllReadyH.cons rfl (fun K hK => ?_) AllReadyH.nil
       go_simp
       refine (signR _ _ a 64 ((HL.out.amount.below B1.out).below hHeld.1) (by omega)).mono ?_
       rintro e wl ⟨rfl, hb⟩
       rw [HSA.out]
       have hS := HSET.out wl (hHeld.1.trans (hb.mono hHeld.1.size))
       clear hb hHeld
       try go_simp
       refine hK.out _ _ hS (fun hHeld => ?_)
       clear hK K hS
       try simp only [List.getElem_toArray, List.getElem_cons_succ, List.getElem_cons_zero, Act.put, List.setIfInBounds_toArray, List.set_cons_zero, List.set_cons_succ]
       refine wpAnyH_take (i := 5) (v := ?_) rfl (by kernel_rfl) (by kernel_rfl) (by kernel_rfl) (fun _ _ _ h => h) (Or.inl ⟨by rfl, ?_⟩) (by assumption) ?_
       rotate_left
       ·(intro w' hSw; (try dsimp only at hSw); go_simp <;> with_reducible rfl)
       simp only [List.getElem_toArray, List.getElem_cons_succ, List.getElem_cons_zero, Act.put, List.setIfInBounds_toArray, List.set_cons_zero, List.set_cons_succ]
       refine wpAnyH_take (i := 6) (v := ?_) rfl (by kernel_rfl) (by kernel_rfl) (by kernel_rfl) (fun _ _ _ h => h) (Or.inl ⟨by rfl, ?_⟩) (by assumption) ?_
       rotate_left
       ·(intro w' hSw; (try dsimp only at hSw); go_simp <;> with_reducible rfl)
       simp only [List.getElem_toArray, List.getElem_cons_succ, List.getElem_cons_zero, Act.put, List.setIfInBounds_toArray, List.set_cons_zero, List.set_cons_succ]
       refine wpAnyH_take (i := 7) (v := ?_) rfl (by kernel_rfl) (by kernel_rfl) (by kernel_rfl) (fun _ _ _ h => h) (Or.inl ⟨by rfl, ?_⟩) (by assumption) ?_
       rotate_left
       ·(intro w' hSw; (try dsimp only at hSw); go_simp <;> with_reducible rfl)
       simp only [List.getElem_toArray, List.getElem_cons_succ, List.getElem_cons_zero, Act.put, List.setIfInBounds_toArray, List.set_cons_zero, List.set_cons_succ]
       refine wpAnyH_take (i := 8) (v := undef) rfl (by kernel_rfl) (by kernel_rfl) (by kernel_rfl) (fun _ _ _ h => h) (Or.inr ⟨by rfl, rfl⟩) (by assumption) ?_
       simp only [List.getElem_toArray, List.getElem_cons_succ, List.getElem_cons_zero, Act.put, List.setIfInBounds_toArray, List.set_cons_zero, List.set_cons_succ]
       refine wpAnyH_take (i := 9) (v := undef) rfl (by kernel_rfl) (by kernel_rfl) (by kernel_rfl) (fun _ _ _ h => h) (Or.inr ⟨by rfl, rfl⟩) (by assumption) ?_
       simp only [List.getElem_toArray, List.getElem_cons_succ, List.getElem_cons_zero, Act.put, List.setIfInBounds_toArray, List.set_cons_zero, List.set_cons_succ]
       refine wpAnyH_take (i := 10) (v := undef) rfl (by kernel_rfl) (by kernel_rfl) (by kernel_rfl) (fun _ _ _ h => h) (Or.inr ⟨by rfl, rfl⟩) (by assumption) ?_
       simp only [List.getElem_toArray, List.getElem_cons_succ, List.getElem_cons_zero, Act.put, List.setIfInBounds_toArray, List.set_cons_zero, List.set_cons_succ]
       refine wpAnyH_take (i := 11) (v := undef) rfl (by kernel_rfl) (by kernel_rfl) (by kernel_rfl) (fun _ _ _ h => h) (Or.inr ⟨by rfl, rfl⟩) (by assumption) ?_
       simp only [List.getElem_toArray, List.getElem_cons_succ, List.getElem_cons_zero, Act.put, List.setIfInBounds_toArray, List.set_cons_zero, List.set_cons_succ]
       refine wpAnyH_take (i := 12) (v := undef) rfl (by kernel_rfl) (by kernel_rfl) (by kernel_rfl) (fun _ _ _ h => h) (Or.inr ⟨by rfl, rfl⟩) (by assumption) ?_
       simp only [List.getElem_toArray, List.getElem_cons_succ, List.getElem_cons_zero, Act.put, List.setIfInBounds_toArray, List.set_cons_zero, List.set_cons_succ]
       refine wpAnyH_take (i := 13) (v := ?_) rfl (by kernel_rfl) (by kernel_rfl) (by kernel_rfl) (fun _ _ _ h => h) (Or.inl ⟨by rfl, ?_⟩) (by assumption) ?_
       rotate_left
       ·(intro w' hSw; (try dsimp only at hSw); go_simp <;> with_reducible rfl)
       simp only [List.getElem_toArray, List.getElem_cons_succ, List.getElem_cons_zero, Act.put, List.setIfInBounds_toArray, List.set_cons_zero, List.set_cons_succ]
       refine wpAnyH_take (i := 14) (v := ?_) rfl (by kernel_rfl) (by kernel_rfl) (by kernel_rfl) (fun _ _ _ h => h) (Or.inl ⟨by rfl, ?_⟩) (by assumption) ?_
       rotate_left
       ·(intro w' hSw; (try dsimp only at hSw); go_simp <;> with_reducible rfl)
       simp only [List.getElem_toArray, List.getElem_cons_succ, List.getElem_cons_zero, Act.put, List.setIfInBounds_toArray, List.set_cons_zero, List.set_cons_succ]
       refine wpAnyH_done (by kernel_rfl) ?_ _
       have hEND := B1.out.trans (hHeld.1.mono B1.out.size)
       clear hHeld
       go_wp2_with fail
       go_ret
       exact ⟨ret_i64 HE.out.symm, hEND⟩
     ·have f1 : ((ml : Int) == 0) = false := by simpa using hz
      have HV : Hid (validB 3 a mix O = false) := Lib.hid (by unfold validB; rw [if_neg (by decide), if_neg (by decide), if_pos rfl, HML.out, f1]; simp)
      have HE : Hid (checkE O V gs 3 a mix = 2) := Lib.hid (by rw [HE0.out, HV.out]; rfl)
      clear hz
      go_wp2_with fail
      go_quiet (fail)
      go_wp2_with fail
      go_ret
      exact ⟨ret_i64 HE.out.symm, below_drewN B1.out _⟩
    ·have n3 : (k == 3) = false := by simpa using hk3
     by_cases hk4 : k = 4
     ·subst hk4
      clear n1 n2 n3 hk1 hk2 hk3
      by_cases hz : ml = 0
      ·have f1 : ((ml : Int) == 0) = true := by simpa using hz
       by_cases hs : sa = 0
       ·have d1 : (sa == 0) = true := by simpa using hs
        have HV : Hid (validB 4 a mix O = true) := Lib.hid (by unfold validB; rw [if_neg (by decide), if_neg (by decide), if_neg (by decide), if_pos rfl, HSA.out, HML.out, d1, f1]; rfl)
        clear hz hs
        go_wp2_with fail
        refine (signR w1 _ a 64 (HL.out.amount.below B1.out) (by omega)).mono ?_
        rintro e w2 ⟨rfl, hb2⟩
        rw [HSA.out]
        have B2 := Lib.hid (B1.out.trans (hb2.mono B1.out.size))
        have P2 := Lib.hid (P1.out.below' hb2)
        clear p0 p1 p2 p3 p4 p5 p6 p7 hb2
        obtain ⟨p0, p1, p2, p3, p4, p5, p6, p7⟩ := eight P2.out
        have HE : Hid (checkE O V gs 4 a mix = 0) := Lib.hid (by rw [HE0.out, HV.out]; rfl)
        go_wp2_with fail
        go_ret
        exact ⟨ret_i64 HE.out.symm, B2.out⟩
       ·have d1 : (sa == 0) = false := by simpa using hs
        have HV : Hid (validB 4 a mix O = false) := Lib.hid (by unfold validB; rw [if_neg (by decide), if_neg (by decide), if_neg (by decide), if_pos rfl, HSA.out, d1]; rfl)
        clear hz hs
        go_wp2_with fail
        refine (signR w1 _ a 64 (HL.out.amount.below B1.out) (by omega)).mono ?_
        rintro e w2 ⟨rfl, hb2⟩
        rw [HSA.out]
        have B2 := Lib.hid (B1.out.trans (hb2.mono B1.out.size))
        have P2 := Lib.hid (P1.out.below' hb2)
        clear p0 p1 p2 p3 p4 p5 p6 p7 hb2
        obtain ⟨p0, p1, p2, p3, p4, p5, p6, p7⟩ := eight P2.out
        have HE : Hid (checkE O V gs 4 a mix = 2) := Lib.hid (by rw [HE0.out, HV.out]; rfl)
        go_wp2_with fail
        go_ret
        exact ⟨ret_i64 HE.out.symm, B2.out⟩
      ·have f1 : ((ml : Int) == 0) = false := by simpa using hz
       have HV : Hid (validB 4 a mix O = false) := Lib.hid (by unfold validB; rw [if_neg (by decide), if_neg (by decide), if_neg (by decide), if_pos rfl, HML.out, f1, Bool.and_false])
       clear hz
       have HE : Hid (checkE O V gs 4 a mix = 2) := Lib.hid (by rw [HE0.out, HV.out]; rfl)
       go_wp2_with fail
       go_ret
       exact ⟨ret_i64 HE.out.symm, B1.out⟩
     ·have n4 : (k == 4) = false := by simpa using hk4
      have HV : Hid (validB k a mix O = false) := Lib.hid (by unfold validB; rw [if_neg hk1, if_neg hk2, if_neg hk3, if_neg hk4])
      clear hk1 hk2 hk3 hk4
      obtain ⟨fb, hfb⟩ : ∃ b, ((ml : Int) == 0) = b := ⟨_, rfl⟩
      cases fb
      all_goals
       have HE : Hid (checkE O V gs k a mix = 2) := Lib.hid (by rw [HE0.out, HV.out]; rfl)
       go_wp2_with fail
       go_ret
       exact ⟨ret_i64 HE.out.symm, B1.out⟩
 ·have e1 : (te != 0) = true := by simpa using h0
  have HE : Hid (checkE O V gs k a mix = te) := Lib.hid (by unfold checkE; rw [HTE.out, if_pos h0])
  clear h0
  go_wp2_with fail
  go_ret
  exact ⟨ret_i64 HE.out.symm, B1.out⟩
end Go.Proofs.YtjebfdfkjlkifaaGreat
