/- Lemmas on the way: Ct1, Va1. -/
import Derived.Test.YtlhankdkhiilkaaGreatI26
set_option linter.unusedSimpArgs false
set_option linter.unusedVariables false
set_option linter.unusedSectionVars false
set_option linter.unnecessarySimpa false
namespace Go.Proofs.YtlhankdkhiilkaaGreat
open Go.RowKit
def goodAt (O V : Int) (gs : List Gr) (i : Nat) : Bool :=
 decide (((gs.getD i ([], 0)).1.length : Int) = O) && inR 0 V (gs.getD i ([], 0)).1 && decide (1 ≤ (gs.getD i ([], 0)).2) && decide ((gs.getD i ([], 0)).2 ≤ 1073741824) &&
  (decide (i = 0) || decide (ordL (gs.getD (i - 1) ([], 0)).1 (gs.getD i ([], 0)).1 < 0))
def tableE (O V : Int) (gs : List Gr) : Int := if 20000 < gs.length then 5 else if sizesB O V = true ∧ (List.range gs.length).all (goodAt O V gs) = true then 0 else 2
theorem tableE_long {O V : Int} {gs : List Gr} (h : 20000 < gs.length) : tableE O V gs = 5 := if_pos h
theorem tableE_size {O V : Int} {gs : List Gr} (h : ¬ 20000 < gs.length) (hs : sizesB O V = false) : tableE O V gs = 2 := by
 unfold tableE
 rw [if_neg h, if_neg]
 intro hc
 rw [hs] at hc
 cases hc.1
theorem tableE_bad {O V : Int} {gs : List Gr} {i : Nat} (h : ¬ 20000 < gs.length) (hi : i < gs.length) (hb : goodAt O V gs i = false) : tableE O V gs = 2 := by
 unfold tableE
 rw [if_neg h, if_neg]
 intro hc
 have := List.all_eq_true.1 hc.2 i (List.mem_range.2 hi)
 rw [hb] at this
 cases this
theorem tableE_good {O V : Int} {gs : List Gr} (h : ¬ 20000 < gs.length) (hs : sizesB O V = true) (hb : ∀ i, i < gs.length → goodAt O V gs i = true) : tableE O V gs = 0 := by
 unfold tableE
 rw [if_neg h, if_pos ⟨hs, List.all_eq_true.2 fun i hi => hb i (List.mem_range.1 hi)⟩]
theorem getD_of {gs : List Gr} {i : Nat} {g : Gr} (h : gs[i]? = some g) : gs.getD i ([], 0) = g := by rw [List.getD_eq_getElem?_getD, h]; rfl
theorem goodAt_false {O V : Int} {gs : List Gr} {i : Nat} {g : Gr} (hg : gs[i]? = some g) (h : ¬ (g.1.length : Int) = O ∨ inR 0 V g.1 = false ∨ g.2 < 1 ∨ 1073741824 < g.2 ∨ (0 < i ∧ ¬ ordL (gs.getD (i - 1) ([], 0)).1 g.1 < 0)) : goodAt O V gs i = false := by
 unfold goodAt
 rw [getD_of hg]
 rcases h with h | h | h | h | ⟨h, h'⟩
 ·rw [decide_eq_false h]; rfl
 ·rw [h, Bool.and_false]; rfl
 ·rw [decide_eq_false (show ¬ 1 ≤ g.2 by omega), Bool.and_false]; rfl
 ·rw [decide_eq_false (show ¬ g.2 ≤ 1073741824 by omega), Bool.and_false]; rfl
 ·rw [decide_eq_false (show ¬ i = 0 by omega), decide_eq_false h', Bool.or_self, Bool.and_false]
theorem goodAt_true {O V : Int} {gs : List Gr} {i : Nat} {g : Gr} (hg : gs[i]? = some g) (h1 : (g.1.length : Int) = O) (h2 : inR 0 V g.1 = true) (h3 : ¬ g.2 < 1) (h4 : ¬ 1073741824 < g.2) (h5 : 0 < i → ordL (gs.getD (i - 1) ([], 0)).1 g.1 < 0) : goodAt O V gs i = true := by
 unfold goodAt
 rw [getD_of hg, decide_eq_true h1, h2, decide_eq_true (show 1 ≤ g.2 by omega), decide_eq_true (show g.2 ≤ 1073741824 by omega)]
 rcases Nat.eq_zero_or_pos i with h | h
 ·rw [decide_eq_true h]; rfl
 ·rw [decide_eq_true (h5 h), Bool.or_true]; rfl
theorem goodAt_len {O V : Int} {gs : List Gr} {i : Nat} {g : Gr} (hg : gs[i]? = some g) (h : goodAt O V gs i = true) : (g.1.length : Int) = O := by
 unfold goodAt at h
 rw [getD_of hg] at h
 simp only [Bool.and_eq_true, decide_eq_true_eq] at h
 exact h.1.1.1.1

set_option maxRecDepth 1000000 in
set_option maxHeartbeats 16000000 in
theorem checkTableG (w : World) (O V : Int) (lv : Value) (gs : List Gr) (h : GramsAt w lv gs) :
  Calls Tryz.prog 158 #[.agg #[.int .i64 O, .int .i64 V, lv]] w fun e w' => e = .returned (.int .i64 (tableE O V gs)) ∧ Below w.heap.size w w' := by
 obtain ⟨A, c, rfl, hlc, hcm, hat⟩ := h.open_
 have HAT := Lib.hid hat
 clear h hat
 obtain ⟨n, hn⟩ : ∃ n, gs.length = n := ⟨_, rfl⟩
 rw [hn] at hlc ⊢
 have HN := Lib.hid hn
 clear hn
 by_cases hlong : 20000 < n
 ·have hd : decide (20000 < n) = true := decide_eq_true hlong
  have hd2 : decide ((20000 : Int) < (n : Int)) = true := decide_eq_true (by omega)
  have HE : Hid (tableE O V gs = 5) := Lib.hid (tableE_long (by rw [HN.out]; exact hlong))
  clear hlong
  go_enter Tryz.func158, Tryz.ntmps158
  go_wp2_with fail
  go_ret
  exact ⟨ret_i64 HE.out.symm, (Below.refl _ _).alloc (Nat.le_refl _) _⟩
 ·have hd : decide (20000 < n) = false := decide_eq_false hlong
  have hd2 : decide ((20000 : Int) < (n : Int)) = false := decide_eq_false (by omega)
  have HL : Hid (¬ 20000 < gs.length) := Lib.hid (by rw [HN.out]; exact hlong)
  clear hlong
  go_enter Tryz.func158, Tryz.ntmps158
  go_wp2_with fail
  obtain ⟨W, hW, P0, PB, Phs⟩ := box1 w 65 [.int .i64 O, .int .i64 V, .slice A n c]
  rw [← hW]
  clear hW
  obtain ⟨p0, p1, p2, _, _, _⟩ := P0.out.three
  go_wp2_with fail
  refine (sizedG W O V).mono ?_
  rintro e w1 ⟨rfl, hb1⟩
  have P1 := Lib.hid (P0.out.below' hb1)
  have B1 := Lib.hid (PB.out.trans (hb1.mono (by omega)))
  clear p0 p1 p2 hb1 P0 PB
  obtain ⟨p0, p1, p2, _, _, _⟩ := P1.out.three
  obtain ⟨sb, hsb⟩ : ∃ b, sizesB O V = b := ⟨_, rfl⟩
  rw [hsb]
  have HSB := Lib.hid hsb
  clear hsb
  cases sb
  ·have HE : Hid (tableE O V gs = 2) := Lib.hid (tableE_size HL.out HSB.out)
   go_wp2_with fail
   go_ret
   exact ⟨ret_i64 HE.out.symm, B1.out⟩
  ·clear hd hd2
   go_wp2_with fail
   have s1 : w.heap.size < w1.heap.size := P1.out.lt
   go_loopg [3, 4, 18] n (fun gh _ _ i wz => ∃ (j : Nat), i = .int .i64 j ∧ j + gh = n ∧ Hid (∀ k, k < j → goodAt O V gs k = true) ∧ Hid (Blk wz w.heap.size 65 [.int .i64 O, .int .i64 V, .slice A n c]) ∧ Hid (Below w.heap.size w wz))
   case atStart => exact ⟨0, rfl, by omega, Lib.hid (fun k hk => by omega), P1, B1⟩
   case round =>
    clear p0 p1 p2 P1 B1
    obtain ⟨j, rfl, hj, HG, P1, B1⟩ := hrel
    obtain ⟨p0, p1, p2, _, _, _⟩ := P1.out.three
    have s2 : w.heap.size < wr.heap.size := P1.out.lt
    have s3 : w.heap.size ≤ wr.heap.size := by omega
    rcases Nat.eq_zero_or_pos gk with hh | hh
    ·subst hh
     obtain rfl : j = n := by omega
     have HE : Hid (tableE O V gs = 0) := Lib.hid (tableE_good HL.out HSB.out (fun i hi => HG.out i (by rw [HN.out] at hi; exact hi)))
     go_wp2_with fail
     go_ret
     exact ⟨ret_i64 HE.out.symm, B1.out⟩
    ·obtain ⟨gh, rfl⟩ : ∃ g, gk = g + 1 := ⟨gk - 1, by omega⟩
     obtain ⟨x, hx⟩ : ∃ x, gs[j]? = some x := ⟨_, List.getElem?_eq_getElem (by rw [HN.out]; omega)⟩
     obtain ⟨ba, oa, a0, rfl, hba, ea0, ea1, fa⟩ := HAT.out j x hx
     have d0 := (B1.out.cell (p := ⟨ba, oa + j * 2, none⟩) hba).trans ea0
     have d1 := (B1.out.cell (p := ⟨ba, oa + j * 2 + 1, none⟩) hba).trans ea1
     have FA := Lib.hid (fa.below B1.out)
     have HX := Lib.hid hx
     have hz3 : ba < wr.heap.size := by omega
     clear hx ea0 ea1
     obtain ⟨A1, k1, hA1⟩ := fa.len
     subst hA1
     clear fa
     have HBAD : Hid ((¬ (x.1.length : Int) = O ∨ inR 0 V x.1 = false ∨ x.2 < 1 ∨ 1073741824 < x.2 ∨ (0 < j ∧ ¬ ordL (gs.getD (j - 1) ([], 0)).1 x.1 < 0)) → tableE O V gs = 2) := Lib.hid (fun hc => tableE_bad HL.out (by rw [HN.out]; omega) (goodAt_false HX.out hc))
     obtain ⟨x1, x2⟩ := x
     simp only at d0 d1 FA HBAD
     obtain ⟨m, hm⟩ : ∃ m, x1.length = m := ⟨_, rfl⟩
     rw [hm] at d0
     have HM := Lib.hid hm
     rw [hm] at HBAD
     clear hm
     by_cases hml : (m : Int) = O
     ·have e1 : ((m : Int) != O) = false := by simpa using hml
      have HML := Lib.hid hml
      clear hml
      go_wp2_with fail
      obtain ⟨W2, hW2, G0, GB, Ghs⟩ := box1 wr 213 [.slice A1 m k1, .int .i64 x2]
      rw [← hW2]
      clear hW2
      refine (withinG W2 _ x1 0 V (by rw [HM.out] at FA; exact FA.out.below GB.out)).mono ?_
      rintro e w3 ⟨rfl, hb3⟩
      have G3 := Lib.hid (G0.out.below' hb3)
      have P3 := Lib.hid ((P1.out.below' GB.out).below' hb3)
      have BE := Lib.hid (B1.out.trans ((GB.out.trans (hb3.mono GB.out.size)).mono B1.out.size))
      have BR3 := Lib.hid (GB.out.trans (hb3.mono GB.out.size))
      clear d0 d1 p0 p1 p2 hb3 G0 GB P1 B1
      obtain ⟨p0, p1, p2, _, _, _⟩ := P3.out.three
      have g0 := G3.out.cell 0
      have g1 := G3.out.cell 1
      simp only [List.getElem?_cons_zero, List.getElem?_cons_succ] at g0 g1
      obtain ⟨ib, hib⟩ : ∃ b, inR 0 V x1 = b := ⟨_, rfl⟩
      rw [hib]
      have HIB := Lib.hid hib
      clear hib
      cases ib
      ·have HE := Lib.hid (HBAD.out (.inr (.inl HIB.out)))
       go_wp2_with fail
       go_ret
       exact ⟨ret_i64 HE.out.symm, BE.out⟩
      ·by_cases hx1 : x2 < 1
       ·have HE := Lib.hid (HBAD.out (.inr (.inr (.inl hx1))))
        have e2 : decide (x2 < 1) = true := decide_eq_true hx1
        clear hx1
        go_wp2_with fail
        go_ret
        exact ⟨ret_i64 HE.out.symm, BE.out⟩
       ·have e2 : decide (x2 < 1) = false := decide_eq_false hx1
        by_cases hx2 : 1073741824 < x2
        ·have HE := Lib.hid (HBAD.out (.inr (.inr (.inr (.inl hx2)))))
         have e3 : decide (1073741824 < x2) = true := decide_eq_true hx2
         clear hx1 hx2
         go_wp2_with fail
         go_ret
         exact ⟨ret_i64 HE.out.symm, BE.out⟩
        ·have e3 : decide (1073741824 < x2) = false := decide_eq_false hx2
         have HX12 := Lib.hid (And.intro hx1 hx2)
         clear hx1 hx2
         go_wp2_with fail
         clear e2 e3
         rcases Nat.eq_zero_or_pos j with hj0 | hj0
         ·subst hj0
          have HGT := Lib.hid (goodAt_true (O := O) (V := V) HX.out (by rw [HM.out]; exact HML.out) HIB.out (by have := HX12.out; simp only; omega) (by have := HX12.out; simp only; omega) (fun h => by omega))
          go_quiet (fail)
          go_wp2_with fail
          go_roundg gh
          case measure => omega
          case rel => exact ⟨1, rfl, by omega, Lib.hid (fun k hk => by rw [show k = 0 by omega]; exact HGT.out), Lib.hid (P3.out.drewN _), Lib.hid (below_drewN BE.out _)⟩
         ·obtain ⟨i, rfl⟩ : ∃ i, j = i + 1 := ⟨j - 1, by omega⟩
          obtain ⟨y, hy⟩ : ∃ y, gs[i]? = some y := ⟨_, List.getElem?_eq_getElem (by rw [HN.out]; omega)⟩
          obtain ⟨bb, ob, b0, eb, hbb, eb0, eb1, fb⟩ := HAT.out i y hy
          cases eb
          have d0 := (BE.out.cell (p := ⟨ba, oa + i * 2, none⟩) hbb).trans eb0
          have HYL := Lib.hid (goodAt_len hy (HG.out i (by omega)))
          obtain ⟨A2, k2, hA2⟩ := fb.len
          subst hA2
          have FB := Lib.hid (fb.below BE.out)
          have FA3 : Hid (IntsAt w3 (.slice A1 m k1) x1) := Lib.hid (by rw [← HM.out]; exact FA.out.below BR3.out)
          have HOL : Hid (cmpL y.1 x1 = ordL (gs.getD (i + 1 - 1) ([], 0)).1 x1) := Lib.hid (by
           rw [show i + 1 - 1 = i by omega, getD_of hy]
           exact cmpL_ord (by have h1 := HYL.out; have h2 := HML.out; have h3 := HM.out; omega))
          obtain ⟨cv, hcv⟩ : ∃ c, cmpL y.1 x1 = c := ⟨_, rfl⟩
          rw [hcv] at HOL
          obtain ⟨p, hp⟩ : ∃ p, y.1.length = p := ⟨_, rfl⟩
          rw [hp] at d0 FB
          have CM : Hid (∀ W', IntsAt W' (.slice A2 p k2) y.1 → IntsAt W' (.slice A1 m k1) x1 → Calls Tryz.prog 98 #[.slice A2 p k2, .slice A1 m k1] W' fun e w' => e = .returned (.int .i64 cv) ∧ w' = W') := Lib.hid (fun W' h1 h2 => by
           rw [← hcv]
           exact (cmpG W' _ _ _ _ h1 h2).mono (fun e w' ⟨a, b⟩ => ⟨a, b.symm⟩))
          have i1 : IntKind.i64.wrap ((i : Int) + 1 - 1) = (i : Int) := by rw [show (i : Int) + 1 - 1 = i by omega]; exact IntWalk.i64_in _ (by omega)
          have i2 : IntKind.i64.wrap (i : Int) = (i : Int) := IntWalk.i64_in _ (by omega)
          have j1 : (0 : Int) ≤ (i : Int) := by omega
          have j2 : (i : Int) < (n : Int) := by omega
          have j3 : decide ((0 : Int) < (i : Int) + 1) = true := decide_eq_true (by omega)
          have j4 : decide (0 < i + 1) = true := decide_eq_true (by omega)
          clear hy eb0 eb1 fb hcv hp
          by_cases hc : cv < 0
          ·have e5 : decide (0 ≤ cv) = false := decide_eq_false (by omega)
           have HGT := Lib.hid (goodAt_true (O := O) (V := V) HX.out (by rw [HM.out]; exact HML.out) HIB.out (by have := HX12.out; simp only; omega) (by have := HX12.out; simp only; omega) (fun _ => by rw [← HOL.out]; exact hc))
           clear hc
           go_quiet ((go_at_call 98; exact Calls.quiet_of_same (CM.out _ (FB.out.drewN _) (FA3.out.drewN _))))
           go_wp2_with fail
           go_roundg gh
           case measure => omega
           case rel => exact ⟨i + 1 + 1, rfl, by omega, Lib.hid (fun k hk => by
            by_cases e : k = i + 1
            ·rw [e]; exact HGT.out
            ·exact HG.out k (by omega)), Lib.hid (P3.out.drewN _), Lib.hid (below_drewN BE.out _)⟩
          ·have e5 : decide (0 ≤ cv) = true := decide_eq_true (by omega)
           have HE := Lib.hid (HBAD.out (.inr (.inr (.inr (.inr ⟨by omega, by rw [← HOL.out]; omega⟩)))))
           clear hc
           go_quiet ((go_at_call 98; exact Calls.quiet_of_same (CM.out _ (FB.out.drewN _) (FA3.out.drewN _))))
           go_wp2_with fail
           go_ret
           exact ⟨ret_i64 HE.out.symm, below_drewN BE.out _⟩
     ·have e1 : ((m : Int) != O) = true := by simpa using hml
      have HE := Lib.hid (HBAD.out (.inl hml))
      have BE := Lib.hid (B1.out.trans ((below_alloc_self wr (.cells #[.slice A1 m k1, .int .i64 x2] 213)).mono B1.out.size))
      clear hml
      go_wp2_with fail
      go_ret
      exact ⟨ret_i64 HE.out.symm, BE.out⟩
def validB (k : Int) (a : Rat) (mix : List Rat) (O : Int) : Bool :=
 if k = 1 then decide (0 < sgnI a) && ((mix.length : Int) == 0)
 else if k = 2 then (sgnI a == 0) && ((mix.length : Int) == O + 1) && distr mix && decide (0 < sgnI (mix.getD 0 0))
 else if k = 3 then !decide (0 ≤ sgnI (a - 1)) && (decide (0 < sgnI a) && ((mix.length : Int) == 0))
 else if k = 4 then (sgnI a == 0) && ((mix.length : Int) == 0) else false

theorem eight {w : World} {g : Nat} {e : TypeId} {a0 a1 a2 a3 a4 a5 a6 a7 : Value} (h : Blk w g e [a0, a1, a2, a3, a4, a5, a6, a7]) :
  w.cell? ⟨g, 0, none⟩ = some a0 ∧ w.cell? ⟨g, 1, none⟩ = some a1 ∧ w.cell? ⟨g, 2, none⟩ = some a2 ∧ w.cell? ⟨g, 3, none⟩ = some a3 ∧ w.cell? ⟨g, 4, none⟩ = some a4 ∧ w.cell? ⟨g, 5, none⟩ = some a5 ∧ w.cell? ⟨g, 6, none⟩ = some a6 ∧ w.cell? ⟨g, 7, none⟩ = some a7 :=
 ⟨h.cell 0, h.cell 1, h.cell 2, h.cell 3, h.cell 4, h.cell 5, h.cell 6, h.cell 7⟩

def langV (O V : Int) (lv : Value) (k : Int) (s : Bool) (A A' : Option Addr) (m c m' c' : Nat) (mv : Value) : Value := .agg #[.int .i64 O, .int .i64 V, lv, .int .i64 k, .bool s, .slice A m c, .slice A' m' c', mv]

theorem FracsAt.open_ {k : Nat} {w : World} {v : Value} {qs : List Rat} (h : FracsAt k w v qs) : ∃ A c, v = .slice A qs.length c ∧ qs.length ≤ c ∧ c ≤ 9223372036854775807 ∧
  ∀ j q, qs[j]? = some q → ∃ b off c0 c1 c2, A = some ⟨b, off, none⟩ ∧ b < w.heap.size ∧ w.cell? ⟨b, off + j * 3, none⟩ = some c0 ∧ w.cell? ⟨b, off + j * 3 + 1, none⟩ = some c1 ∧ w.cell? ⟨b, off + j * 3 + 2, none⟩ = some c2 ∧ FracAt k w (.agg #[c0, c1, c2]) q := by
 obtain ⟨cells, h1, h2⟩ := h
 obtain ⟨h0, A, c, rfl, hc, hm, h5⟩ := h1
 refine ⟨A, c, rfl, hc, by unfold maxLen at hm; omega, fun j x hx => ?_⟩
 have hj := (List.getElem?_eq_some_iff.1 hx).1
 obtain ⟨b, off, e, hlt, hcell⟩ := h5 (by omega)
 obtain ⟨c0, c1, c2, e0, e1, e2, hf⟩ := h2 j x hx
 exact ⟨b, off, c0, c1, c2, e, hlt, hcell _ _ e0, by have := hcell _ _ e1; rwa [← Nat.add_assoc] at this, by have := hcell _ _ e2; rwa [← Nat.add_assoc] at this, hf⟩

set_option maxRecDepth 1000000 in
set_option maxHeartbeats 16000000 in
theorem validG (w : World) (O V : Int) (lv : Value) (k : Int) (s : Bool) (A A' : Option Addr) (m c m' c' : Nat) (mv : Value) (a : Rat) (mix : List Rat) (ha : FracAt 64 w (.agg #[.bool s, .slice A m c, .slice A' m' c']) a) (hm : FracsAt 64 w mv mix) (hl : mix.length ≤ 1000000) (hO : 1 ≤ O ∧ O ≤ 4) (Al : Option Addr) (nl cl : Nat) (hlv : lv = .slice Al nl cl) :
  Calls Tryz.prog 159 #[langV O V lv k s A A' m c m' c' mv] w fun e w' => e = .returned (.bool (validB k a mix O)) ∧ Below w.heap.size w w' := by
 subst hlv
 obtain ⟨Am, cm, rfl, hmc, hcm, hat⟩ := hm.open_
 have HM := Lib.hid hm
 have HA := Lib.hid ha
 have HAT := Lib.hid hat
 have QA := Lib.hid (ha.qb (by omega))
 clear hm ha hat
 obtain ⟨ml, hml⟩ : ∃ n, mix.length = n := ⟨_, rfl⟩
 have HMF : Hid (FracsAt 64 w (.slice Am ml cm) mix) := Lib.hid (by rw [← hml]; exact HM.out)
 rw [hml] at hmc hl ⊢
 have HML := Lib.hid hml
 clear hml HM
 unfold langV
 go_enter Tryz.func159, Tryz.ntmps159
 go_wp2_with fail
 obtain ⟨W, hW, P0, PB, Phs⟩ := box1 w 69 [.int .i64 O, .int .i64 V, .slice Al nl cl, .int .i64 k, .bool s, .slice A m c, .slice A' m' c', .slice Am ml cm]
 rw [← hW]
 clear hW
 obtain ⟨p0, p1, p2, p3, p4, p5, p6, p7⟩ := eight P0.out
 refine (ofI W 1 (by omega) (by omega)).mono ?_
 rintro e w1 ⟨u1, rfl, t1, hb1⟩
 obtain ⟨un, hun⟩ : ∃ x : Rat, ((1 : Int) : Rat) = x := ⟨_, rfl⟩
 rw [hun] at t1
 have HUN : Hid (un = 1) := Lib.hid (by rw [← hun]; rfl)
 clear hun
 obtain ⟨Ao, mo, co, Ao', mo', co', rfl⟩ := t1.at_.open_
 have T1 := Lib.hid t1
 have P1 := Lib.hid (P0.out.below' hb1)
 have B1 := Lib.hid (PB.out.trans (hb1.mono PB.out.size))
 clear p0 p1 p2 p3 p4 p5 p6 p7 t1 hb1 P0 PB
 obtain ⟨p0, p1, p2, p3, p4, p5, p6, p7⟩ := eight P1.out
 have s1 : w.heap.size < w1.heap.size := P1.out.lt
 go_wp2_with fail
 obtain ⟨W2, hW2, G0, GB, Ghs⟩ := box1 w1 27 [.bool (isNeg un), .slice Ao mo co, .slice Ao' mo' co']
 rw [← hW2]
 clear hW2
 refine (signF W2 _ a 64 ((HA.out.below B1.out).below GB.out) (by omega) (by omega)).mono ?_
 rintro e w3 ⟨rfl, hb3⟩
 have G3 : Hid (BoxC w3 w1.heap.size un) := Lib.hid ((BoxC.of G0.out (T1.out.at_.below GB.out)).below hb3)
 have P3 := Lib.hid ((P1.out.below' GB.out).below' hb3)
 have B3 := Lib.hid ((B1.out.trans (GB.out.mono B1.out.size)).trans (hb3.mono (by have := B1.out.size; omega)))
 obtain ⟨sg, hsg⟩ : ∃ z, sgnI a = z := ⟨_, rfl⟩
 rw [hsg]
 have HSG := Lib.hid hsg
 clear p0 p1 p2 p3 p4 p5 p6 p7 hb3 G0 GB B1 P1 hsg
 obtain ⟨p0, p1, p2, p3, p4, p5, p6, p7⟩ := eight P3.out
 by_cases h1 : k = 1
 ·subst h1
  obtain ⟨b1, hb1⟩ : ∃ b, decide (0 < sg) = b := ⟨_, rfl⟩
  obtain ⟨b2, hb2⟩ : ∃ b, ((ml : Int) == 0) = b := ⟨_, rfl⟩
  have HE : Hid (validB 1 a mix O = (b1 && b2)) := Lib.hid (by
   unfold validB
   rw [if_pos rfl, HSG.out, HML.out, hb1, hb2])
  cases b1 <;> cases b2
  all_goals
   go_wp2_with fail
   go_ret
   exact ⟨ret_bool HE.out.symm, B3.out⟩
 ·have n1 : (k == 1) = false := by simpa using h1
  by_cases h2 : k = 2
  ·subst h2
   clear n1 h1
   obtain ⟨b1, hb1⟩ : ∃ b, (sg == 0) = b := ⟨_, rfl⟩
   obtain ⟨b2, hb2⟩ : ∃ b, ((ml : Int) == O + 1) = b := ⟨_, rfl⟩
   obtain ⟨b3, hb3⟩ : ∃ b, distr mix = b := ⟨_, rfl⟩
   obtain ⟨s0, hs0⟩ : ∃ z, sgnI (mix.getD 0 0) = z := ⟨_, rfl⟩
   have HE : Hid (validB 2 a mix O = (b1 && b2 && b3 && decide (0 < s0))) := Lib.hid (by
    unfold validB
    rw [if_neg (by decide), if_pos rfl, HSG.out, HML.out, hb1, hb2, hb3, hs0])
   have HB3 := Lib.hid hb3
   have HS0 := Lib.hid hs0
   clear hb3 hs0
   cases b1
   ·simp only [Bool.false_and] at HE
    go_wp2_with fail
    go_ret
    exact ⟨ret_bool HE.out.symm, B3.out⟩
   ·cases b2
    ·simp only [Bool.false_and, Bool.and_false] at HE
     go_wp2_with fail
     go_ret
     exact ⟨ret_bool HE.out.symm, B3.out⟩
    ·have hpos : 0 < ml := by
      have : (ml : Int) = O + 1 := by simpa using hb2
      omega
     obtain ⟨x, hx⟩ : ∃ x, mix[0]? = some x := ⟨_, List.getElem?_eq_getElem (by rw [HML.out]; exact hpos)⟩
     obtain ⟨bm, om, c0, c1, c2, rfl, hbm, e0, e1, e2, hf⟩ := HAT.out 0 x hx
     have HX : Hid (sgnI x = s0) := Lib.hid (by rw [← HS0.out, List.getD_eq_getElem?_getD, hx]; rfl)
     have HF := Lib.hid hf
     clear hx hf
     rw [Nat.zero_mul, Nat.add_zero] at e0 e1 e2
     rw [Nat.add_zero] at e1 e2
     obtain ⟨sx, A1, n1, k1, A2, n2, k2, rfl, rfl, rfl⟩ := HF.out.cells3
     go_wp2_with fail
     refine (distributionF w3 64 _ mix (HMF.out.below B3.out) (by omega) (by rw [HML.out]; omega)).mono ?_
     rintro e w4 ⟨rfl, hb4⟩
     rw [HB3.out]
     have P4 := Lib.hid (P3.out.below' hb4)
     have B4 := Lib.hid (B3.out.trans (hb4.mono B3.out.size))
     have f0 := (B4.out.cell (p := ⟨bm, om, none⟩) hbm).trans e0
     have f1 := (B4.out.cell (p := ⟨bm, om + 1, none⟩) hbm).trans e1
     have f2 := (B4.out.cell (p := ⟨bm, om + 2, none⟩) hbm).trans e2
     clear p0 p1 p2 p3 p4 p5 p6 p7 hb4 P3 e0 e1 e2
     obtain ⟨p0, p1, p2, p3, p4, p5, p6, p7⟩ := eight P4.out
     cases b3
     ·simp only [Bool.false_and, Bool.and_false] at HE
      go_wp2_with fail
      go_ret
      exact ⟨ret_bool HE.out.symm, B4.out⟩
     ·simp only [Bool.true_and] at HE
      go_wp2_with fail
      refine (signF w4 _ x 64 (HF.out.below B4.out) (by omega) (by omega)).mono ?_
      rintro e w5 ⟨rfl, hb5⟩
      rw [HX.out]
      have B5 := Lib.hid (B4.out.trans (hb5.mono B4.out.size))
      clear hb5
      go_wp2_with fail
      go_ret
      exact ⟨ret_bool HE.out.symm, B5.out⟩
  ·have n2 : (k == 2) = false := by simpa using h2
   by_cases h3 : k = 3
   ·subst h3
    clear n1 n2 h1 h2
    obtain ⟨Ax, mx, cx, Ax', mx', cx', x0, x1, x2, _, _, _, tx⟩ := G3.out.get
    have TX := Lib.hid (tx.frac (k := 64) ((by rw [HUN.out]; exact qb_nat (n := 1) (k := 64) (by omega) (by omega))) (by omega))
    clear tx
    obtain ⟨cv, hcv⟩ : ∃ z, sgnI (a - un) = z := ⟨_, rfl⟩
    obtain ⟨b0, hb0⟩ : ∃ b, decide (0 ≤ cv) = b := ⟨_, rfl⟩
    obtain ⟨b1, hb1⟩ : ∃ b, decide (0 < sg) = b := ⟨_, rfl⟩
    obtain ⟨b2, hb2⟩ : ∃ b, ((ml : Int) == 0) = b := ⟨_, rfl⟩
    have HE : Hid (validB 3 a mix O = (!b0 && (b1 && b2))) := Lib.hid (by
     unfold validB
     rw [if_neg (by decide), if_neg (by decide), if_pos rfl, HSG.out, HML.out, ← HUN.out, hcv, hb0, hb1, hb2])
    have HCV := Lib.hid hcv
    clear hcv
    go_wp2_with fail
    refine (cmpF w3 _ _ a un 64 (HA.out.below B3.out) TX.out (by omega) (by omega)).mono ?_
    rintro e w4 ⟨rfl, hb4⟩
    rw [HCV.out]
    have P4 := Lib.hid (P3.out.below' hb4)
    have B4 := Lib.hid (B3.out.trans (hb4.mono B3.out.size))
    clear p0 p1 p2 p3 p4 p5 p6 p7 x0 x1 x2 hb4 P3
    obtain ⟨p0, p1, p2, p3, p4, p5, p6, p7⟩ := eight P4.out
    cases b0
    ·cases b1 <;> cases b2
     all_goals
      go_wp2_with fail
      go_ret
      exact ⟨ret_bool HE.out.symm, B4.out⟩
    ·simp only [Bool.not_true, Bool.false_and] at HE
     go_wp2_with fail
     go_ret
     exact ⟨ret_bool HE.out.symm, B4.out⟩
   ·have n3 : (k == 3) = false := by simpa using h3
    by_cases h4 : k = 4
    ·subst h4
     clear n1 n2 n3 h1 h2 h3
     obtain ⟨b1, hb1⟩ : ∃ b, (sg == 0) = b := ⟨_, rfl⟩
     obtain ⟨b2, hb2⟩ : ∃ b, ((ml : Int) == 0) = b := ⟨_, rfl⟩
     have HE : Hid (validB 4 a mix O = (b1 && b2)) := Lib.hid (by
      unfold validB
      rw [if_neg (by decide), if_neg (by decide), if_neg (by decide), if_pos rfl, HSG.out, HML.out, hb1, hb2])
     cases b1 <;> cases b2
     all_goals
      go_wp2_with fail
      go_ret
      exact ⟨ret_bool HE.out.symm, B3.out⟩
    ·have n4 : (k == 4) = false := by simpa using h4
     have HE : Hid (validB k a mix O = false) := Lib.hid (by
      unfold validB
      rw [if_neg h1, if_neg h2, if_neg h3, if_neg h4])
     clear h1 h2 h3 h4
     go_wp2_with fail
     go_ret
     exact ⟨ret_bool HE.out.symm, B3.out⟩
end Go.Proofs.YtlhankdkhiilkaaGreat
