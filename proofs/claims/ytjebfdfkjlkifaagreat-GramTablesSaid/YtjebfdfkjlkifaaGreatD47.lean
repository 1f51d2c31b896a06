/- Lemmas on the way: Pl2, Pl3. -/
import Derived.Test.YtjebfdfkjlkifaaGreatD46
set_option linter.unusedSimpArgs false
set_option linter.unusedVariables false
set_option linter.unusedSectionVars false
set_option linter.unnecessarySimpa false
namespace Go.Proofs.YtjebfdfkjlkifaaGreat
open Go.RowKit
theorem GoodP.mono {n K K' : Nat} {gs : List Gr} (h : GoodP n K gs) (hk : K ≤ K') : GoodP n K' gs := ⟨Nat.le_trans h.1 hk, fun g hg => by have := h.2 g hg; exact ⟨this.1, this.2.1, by omega⟩⟩

set_option maxRecDepth 1000000 in
set_option maxHeartbeats 8000000 in
theorem mergeR (w : World) (O V O' V' : Int) (A B : Option Addr) (c d L M n : Nat) (ga gb : List Gr) (ha : GramsAt w (.slice A L c) ga) (hb : GramsAt w (.slice B M d) gb) (hL : ga.length = L) (hM : gb.length = M) (hga : ∀ g ∈ ga, g.1.length = n ∧ 0 ≤ g.2 ∧ g.2 ≤ 1073741824) (hgb : ∀ g ∈ gb, g.1.length = n ∧ 0 ≤ g.2 ∧ g.2 ≤ 1073741824) (hl : L ≤ 400) (hm : M ≤ 400) (hn : n ≤ 1000) :
  Calls Tryz.prog 70 #[.agg #[.int .i64 O, .int .i64 V, .slice A L c], .agg #[.int .i64 O', .int .i64 V', .slice B M d]] w fun e w' => ∃ lv, e = .returned (.agg #[.int .i64 O, .int .i64 V, lv]) ∧ GramsAt w' lv (putK (putK [] ga) gb) ∧ GoodP n (L + M) (putK (putK [] ga) gb) ∧ Below w.heap.size w w' := by
 obtain ⟨_, _, e, hlc, hcm, hat⟩ := hb.open_
 injection e with e1 e2 e3
 subst e1
 have HAT := Lib.hid hat
 have HA := Lib.hid ha
 have HGA := Lib.hid hga
 have HG := Lib.hid hgb
 have HLA := Lib.hid hL
 have HL := Lib.hid hM
 rw [hM] at hlc
 clear ha hb hat hga hgb hL hM e2 e3
 go_enter Tryz.func70, Tryz.ntmps70
 go_wp2_with fail
 obtain ⟨W, hW, P0, P1, P2, PB, Phs⟩ := box3 w 27 [.int .i64 O, .int .i64 V, .slice A L c] 27 [.int .i64 O', .int .i64 V', .slice B M d] 27 [.int .i64 0, .int .i64 0, .slice none 0 0]
 rw [← hW]
 clear hW
 refine (copiedG W O V A c L n ga (HA.out.below PB.out) HLA.out HGA.out (by omega) hn).mono ?_
 rintro e w1 ⟨lv, rfl, hgo, hgp, hb1⟩
 have HO1 := Lib.hid (hgo.mono (base' := w.heap.size + 3) Phs)
 have HP1 := Lib.hid hgp
 have X0 := Lib.hid (P1.out.below' hb1)
 have X1 := Lib.hid (P2.out.below' hb1)
 have B1 := Lib.hid (PB.out.trans (hb1.mono (by omega)))
 have hw1 : w.heap.size + 3 ≤ w1.heap.size := by have := hb1.size; omega
 obtain ⟨A1, c1, rfl⟩ := hgo.len
 obtain ⟨T0, hT0⟩ : ∃ T0, T0 = putK [] ga := ⟨_, rfl⟩
 have HT0 := Lib.hid hT0
 rw [← hT0] at HO1 HP1 ⊢
 clear hgo hgp hb1 P0 P1 P2 PB hT0
 obtain ⟨L1, hL1⟩ : ∃ L1, T0.length = L1 := ⟨_, rfl⟩
 rw [hL1] at HO1 ⊢
 clear hL1
 go_wp2_with fail
 obtain ⟨W2, hW2, Q0, QB, Qhs⟩ := box1 w1 27 [.int .i64 O, .int .i64 V, .slice A1 L1 c1]
 rw [← hW2]
 clear hW2
 have HO2 := Lib.hid (HO1.out.below QB.out)
 have Y1 := Lib.hid (X0.out.below' QB.out)
 have Y2 := Lib.hid (X1.out.below' QB.out)
 have B2 := Lib.hid (B1.out.trans (QB.out.mono B1.out.size))
 obtain ⟨ob, hob⟩ : ∃ ob, ob = w1.heap.size := ⟨_, rfl⟩
 rw [← hob] at Q0 hw1 ⊢
 clear HO1 X0 X1 B1 QB Qhs hob
 go_loopg [6] M (fun gh i wr => ∃ (j : Nat) (lv : Value), i = .int .i64 j ∧ j + gh = M ∧ Hid (GoodP n (L + j) (putK T0 (gb.take j))) ∧ Hid (GOwn (w.heap.size + 3) wr lv (putK T0 (gb.take j))) ∧ Hid (Blk wr ob 27 [.int .i64 O, .int .i64 V, lv]) ∧
   Hid (Blk wr (w.heap.size + 1 + 1) 27 [.int .i64 0, .int .i64 0, .slice none 0 0]) ∧ Hid (Blk wr (w.heap.size + 1) 27 [.int .i64 O', .int .i64 V', .slice B M d]) ∧ Hid (Below w.heap.size w wr))
 case atStart => exact ⟨0, .slice A1 L1 c1, rfl, by omega, Lib.hid (by simpa [putK] using HP1.out), Lib.hid (by simpa [putK] using HO2.out), Q0, Y2, Y1, B2⟩
 case round =>
  clear HP1 HO2 Q0 Y1 Y2 B2
  obtain ⟨j, lv, rfl, hj, HGP, HO, H2, H1, H0, BEL⟩ := hrel
  have hwz : w.heap.size + 3 ≤ wr.heap.size := by have := H2.out.lt; omega
  obtain ⟨Ao, co, rfl⟩ := HO.out.len
  obtain ⟨Lo, hLo⟩ : ∃ Lo, (putK T0 (gb.take j)).length = Lo := ⟨_, rfl⟩
  rw [hLo] at HO H2
  clear hLo
  rcases Nat.eq_zero_or_pos gk with h | h
  ·obtain rfl : j = M := by omega
   have HE : Hid (gb.take j = gb) := Lib.hid (List.take_of_length_le (by rw [HL.out]; exact Nat.le_refl _))
   obtain ⟨r0, r1, r2, z0, z1, z2⟩ := H1.out.three
   obtain ⟨o0, o1, o2, _, _, _⟩ := H2.out.three
   obtain ⟨q0, q1, q2, _, _, _⟩ := H0.out.three
   go_wp2_with fail
   refine bodyPost_ret (v := .agg #[.int .i64 O, .int .i64 V, .slice Ao Lo co]) (by simp [results, Tryz.results70, go_sem, r0, r1, r2]) rfl ⟨_, rfl, ?_, ?_, below_box3 BEL.out (by omega) _ _ _⟩
   ·have := (((HO.out.setFar (p := ⟨w.heap.size + 1 + 1, 0, none⟩) (by show w.heap.size + 1 + 1 < w.heap.size + 3; omega) (.int .i64 O)).setFar (p := ⟨w.heap.size + 1 + 1, 1, none⟩) (by show w.heap.size + 1 + 1 < w.heap.size + 3; omega) (.int .i64 V)).setFar (p := ⟨w.heap.size + 1 + 1, 2, none⟩) (by show w.heap.size + 1 + 1 < w.heap.size + 3; omega) (.slice Ao Lo co)).at_
    rwa [HE.out, HT0.out] at this
   ·have := HGP.out
    rwa [HE.out, HT0.out] at this
  ·obtain ⟨gh, rfl⟩ : ∃ g, gk = g + 1 := ⟨gk - 1, by omega⟩
   obtain ⟨x, hx⟩ : ∃ x, gb[j]? = some x := ⟨_, List.getElem?_eq_getElem (by rw [HL.out]; omega)⟩
   obtain ⟨ba, oa, c0, rfl, hba, e0, e1, hi⟩ := HAT.out j x hx
   have d0 := (BEL.out.cell (p := ⟨ba, oa + j * 2, none⟩) hba).trans e0
   have d1 := (BEL.out.cell (p := ⟨ba, oa + j * 2 + 1, none⟩) hba).trans e1
   have HGX := Lib.hid (HG.out x (List.mem_of_getElem? hx))
   have HX := Lib.hid (putK_snoc T0 (gb.take j) x)
   have HX2 := Lib.hid (take_succ_get _ hx)
   have HI := Lib.hid (hi.below BEL.out)
   obtain ⟨o0, o1, o2, z0, z1, z2⟩ := H2.out.three
   obtain ⟨q0, q1, q2, _, _, _⟩ := H0.out.three
   obtain ⟨N, hN⟩ : ∃ N, x.2 = N := ⟨_, rfl⟩
   have HNE := Lib.hid hN
   rw [hN] at d1 HX HGX
   clear hx hi e0 e1 hN
   go_wp2_with fail
   have hS : wr.drew.cell? ⟨w.heap.size + 1, 2, none⟩ = some (.slice (some ⟨ba, oa, none⟩) M d) ∧ wr.drew.cell? ⟨ba, oa + j * 2, none⟩ = some c0 ∧ wr.drew.cell? ⟨ba, oa + j * 2 + 1, none⟩ = some (.int .i64 N) := ⟨q2, d0, d1⟩
   have HS0 := Lib.hid hS
   clear o0 o1 q0 q1 q2 z0 z1 z2 hS
   refine wp_region_held_drew (S := fun w' => w'.cell? ⟨w.heap.size + 1, 2, none⟩ = some (.slice (some ⟨ba, oa, none⟩) M d) ∧ w'.cell? ⟨ba, oa + j * 2, none⟩ = some (c0) ∧ w'.cell? ⟨ba, oa + j * 2 + 1, none⟩ = some (.int .i64 N)) (by kernel_rfl) HS0.out (fun hHeld => ?_)
   refine wpAnyH_take (i := 0) (v := ?_) rfl (by kernel_rfl) (by kernel_rfl) (by kernel_rfl) (fun _ _ _ h => h) (Or.inl ⟨by rfl, ?_⟩) (by assumption) ?_
   rotate_left
   ·(intro w' hSw; (try dsimp only at hSw); go_simp <;> with_reducible rfl)
   simp only [List.getElem_toArray, List.getElem_cons_succ, List.getElem_cons_zero, Act.put, List.setIfInBounds_toArray, List.set_cons_zero, List.set_cons_succ]
   refine wpAnyH_take (i := 2) (v := ?_) rfl (by kernel_rfl) (by kernel_rfl) (by kernel_rfl) (fun _ _ _ h => h) (Or.inl ⟨by rfl, ?_⟩) (by assumption) ?_
   rotate_left
   ·(intro w' hSw; (try dsimp only at hSw); go_simp <;> with_reducible rfl)
   simp only [List.getElem_toArray, List.getElem_cons_succ, List.getElem_cons_zero, Act.put, List.setIfInBounds_toArray, List.set_cons_zero, List.set_cons_succ]
   refine wpAnyH_take (i := 3) (v := ?_) rfl (by kernel_rfl) (by kernel_rfl) (by kernel_rfl) (fun _ _ _ h => h) (Or.inl ⟨by rfl, ?_⟩) (by assumption) ?_
   rotate_left
   ·(intro w' hSw; (try dsimp only at hSw); go_simp <;> with_reducible rfl)
   simp only [List.getElem_toArray, List.getElem_cons_succ, List.getElem_cons_zero, Act.put, List.setIfInBounds_toArray, List.set_cons_zero, List.set_cons_succ]
   refine wpAnyH_take (i := 4) (v := ?_) rfl (by kernel_rfl) (by kernel_rfl) (by kernel_rfl) (fun _ _ _ h => h) (Or.inl ⟨by rfl, ?_⟩) (by assumption) ?_
   rotate_left
   ·(intro w' hSw; (try dsimp only at hSw); go_simp <;> with_reducible rfl)
   simp only [List.getElem_toArray, List.getElem_cons_succ, List.getElem_cons_zero, Act.put, List.setIfInBounds_toArray, List.set_cons_zero, List.set_cons_succ]
   refine wpAnyH_take (i := 5) (v := ?_) rfl (by kernel_rfl) (by kernel_rfl) (by kernel_rfl) (fun _ _ _ h => h) (Or.inl ⟨by rfl, ?_⟩) (by assumption) ?_
   rotate_left
   ·(intro w' hSw; (try dsimp only at hSw); go_simp <;> with_reducible rfl)
   simp only [List.getElem_toArray, List.getElem_cons_succ, List.getElem_cons_zero, Act.put, List.setIfInBounds_toArray, List.set_cons_zero, List.set_cons_succ]
   refine wpAnyH_take (i := 6) (v := ?_) rfl (by kernel_rfl) (by kernel_rfl) (by kernel_rfl) (fun _ _ _ h => h) (Or.inl ⟨by rfl, ?_⟩) (by assumption) ?_
   rotate_left
   ·(intro w' hSw; (try dsimp only at hSw); go_simp <;> with_reducible rfl)
   simp only [List.getElem_toArray, List.getElem_cons_succ, List.getElem_cons_zero, Act.put, List.setIfInBounds_toArray, List.set_cons_zero, List.set_cons_succ]
   refine wpAnyH_take (i := 7) (v := ?_) rfl (by kernel_rfl) (by kernel_rfl) (by kernel_rfl) (fun _ _ _ h => h) (Or.inl ⟨by rfl, ?_⟩) (by assumption) ?_
   rotate_left
   ·(intro w' hSw; (try dsimp only at hSw); go_simp <;> with_reducible rfl)
   simp only [List.getElem_toArray, List.getElem_cons_succ, List.getElem_cons_zero, Act.put, List.setIfInBounds_toArray, List.set_cons_zero, List.set_cons_succ]
   refine wpAnyH_take (i := 8) (v := ?_) rfl (by kernel_rfl) (by kernel_rfl) (by kernel_rfl) (fun _ _ _ h => h) (Or.inl ⟨by rfl, ?_⟩) (by assumption) ?_
   rotate_left
   ·(intro w' hSw; (try dsimp only at hSw); go_simp <;> with_reducible rfl)
   simp only [List.getElem_toArray, List.getElem_cons_succ, List.getElem_cons_zero, Act.put, List.setIfInBounds_toArray, List.set_cons_zero, List.set_cons_succ]
   refine wpAnyH_take (i := 9) (v := ?_) rfl (by kernel_rfl) (by kernel_rfl) (by kernel_rfl) (fun _ _ _ h => h) (Or.inl ⟨by rfl, ?_⟩) (by assumption) ?_
   rotate_left
   ·(intro w' hSw; (try dsimp only at hSw); go_simp <;> with_reducible rfl)
   simp only [List.getElem_toArray, List.getElem_cons_succ, List.getElem_cons_zero, Act.put, List.setIfInBounds_toArray, List.set_cons_zero, List.set_cons_succ]
   refine wpAnyH_take (i := 10) (v := ?_) rfl (by kernel_rfl) (by kernel_rfl) (by kernel_rfl) (fun _ _ _ h => h) (Or.inl ⟨by rfl, ?_⟩) (by assumption) ?_
   rotate_left
   ·(intro w' hSw; (try dsimp only at hSw); go_simp <;> with_reducible rfl)
   simp only [List.getElem_toArray, List.getElem_cons_succ, List.getElem_cons_zero, Act.put, List.setIfInBounds_toArray, List.set_cons_zero, List.set_cons_succ]
   refine wpAnyH_take (i := 11) (v := ?_) rfl (by kernel_rfl) (by kernel_rfl) (by kernel_rfl) (fun _ _ _ h => h) (Or.inl ⟨by rfl, ?_⟩) (by assumption) ?_
   rotate_left
   ·(intro w' hSw; (try dsimp only at hSw); go_simp <;> with_reducible rfl)
   simp only [List.getElem_toArray, List.getElem_cons_succ, List.getElem_cons_zero, Act.put, List.setIfInBounds_toArray, List.set_cons_zero, List.set_cons_succ]
   refine wpAnyH_take (i := 12) (v := ?_) rfl (by kernel_rfl) (by kernel_rfl) (by kernel_rfl) (fun _ _ _ h => h) (Or.inl ⟨by rfl, ?_⟩) (by assumption) ?_
   rotate_left
   ·(intro w' hSw; (try dsimp only at hSw); go_simp <;> with_reducible rfl)
   simp only [List.getElem_toArray, List.getElem_cons_succ, List.getElem_cons_zero, Act.put, List.setIfInBounds_toArray, List.set_cons_zero, List.set_cons_succ]
   refine wpAnyH_take (i := 13) (v := ?_) rfl (by kernel_rfl) (by kernel_rfl) (by kernel_rfl) (fun _ _ _ h => h) (Or.inl ⟨by rfl, ?_⟩) (by assumption) ?_
   rotate_left
   ·(intro w' hSw; (try dsimp only at hSw); go_simp <;> with_reducible rfl)
   simp only [List.getElem_toArray, List.getElem_cons_succ, List.getElem_cons_zero, Act.put, List.setIfInBounds_toArray, List.set_cons_zero, List.set_cons_succ]
   refine wpAnyH_ready (rs := [1]) (by kernel_rfl) (by simp) ?_
   refine AllReadyH.cons rfl (fun K hK => ?_) AllReadyH.nil
   have o2' : wr.drew.cell? ⟨ob, 2, none⟩ = some (.slice Ao Lo co) := o2
   go_simp
   refine hK.out _ _ HS0.out (fun hHeld => ?_)
   clear hK K o2' o2
   try simp only [List.getElem_toArray, List.getElem_cons_succ, List.getElem_cons_zero, Act.put, List.setIfInBounds_toArray, List.set_cons_zero, List.set_cons_succ]
   refine wpAnyH_ready (rs := [14]) (by kernel_rfl) (by simp) ?_
   refine AllReadyH.cons rfl (fun K hK => ?_) AllReadyH.nil
   go_simp
   refine (putG (w.heap.size + 3) wr.drew _ (c0) _ (x.1) N (HO.out.below (below_drew_self _)) (HI.out.below (below_drew_self _)) (fun g hg => by rw [(HGP.out.2 g hg).1, HGX.out.1]) (by have := HGX.out.2; omega) (fun g hg => by have := HGP.out.2 g hg; omega) (by have := HGP.out.1; omega) (by rw [HGX.out.1]; omega) (by show w.heap.size + 3 ≤ wr.heap.size; exact hwz)).mono ?_
   rintro e w5 ⟨lv5, rfl, t5, hg5, hx5⟩
   obtain ⟨A5, c5, rfl⟩ := t5.len
   have O5 := Lib.hid t5
   have Y2 := Lib.hid (H2.out.drew.grown hg5 (HO.out.ne_box H2.out))
   have Y1 := Lib.hid (H1.out.drew.grown hg5 (HO.out.ne_box H1.out))
   have Y0 := Lib.hid (H0.out.drew.grown hg5 (HO.out.ne_box H0.out))
   have B5 := Lib.hid (below_of_drew' ((Below.refl (w.heap.size + 3) wr.drew).grown hg5 (by show w.heap.size + 3 ≤ wr.heap.size; exact hwz) (own_block_le HO.out.from_)))
   have HS5 := Lib.hid (And.intro (Y0.out.cell 2) (And.intro ((B5.out.cell (p := ⟨ba, oa + j * 2, none⟩) (by show ba < w.heap.size + 3; omega)).trans d0) ((B5.out.cell (p := ⟨ba, oa + j * 2 + 1, none⟩) (by show ba < w.heap.size + 3; omega)).trans d1)))
   clear t5 hg5 hx5 hHeld HS0
   try go_simp
   refine hK.out _ _ HS5.out (fun hHeld => ?_)
   clear hK K
   try simp only [List.getElem_toArray, List.getElem_cons_succ, List.getElem_cons_zero, Act.put, List.setIfInBounds_toArray, List.set_cons_zero, List.set_cons_succ]
   refine wpAnyH_take (i := 15) (v := ?_) rfl (by kernel_rfl) (by kernel_rfl) (by kernel_rfl) (fun _ _ _ h => h) (Or.inl ⟨by rfl, ?_⟩) (by assumption) ?_
   rotate_left
   ·(intro w' hSw; (try dsimp only at hSw); go_simp <;> with_reducible rfl)
   simp only [List.getElem_toArray, List.getElem_cons_succ, List.getElem_cons_zero, Act.put, List.setIfInBounds_toArray, List.set_cons_zero, List.set_cons_succ]
   refine wpAnyH_ready (rs := [16]) (by kernel_rfl) (by simp) ?_
   refine AllReadyH.cons rfl (fun K hK => ?_) AllReadyH.nil
   obtain ⟨o0, o1, o2, z0, z1, z2⟩ := Y2.out.three
   go_simp
   have HS6 := Lib.hid (And.intro ((Y0.out.far (p := ⟨ob, 2, none⟩) (by show w.heap.size + 1 ≠ ob; omega) (.slice A5 (putL (putK T0 (gb.take j)) x.1 N).length c5)).cell 2) (And.intro ((World.cell?_setCell_far w5 ⟨ob, 2, none⟩ ⟨ba, oa + j * 2, none⟩ (.slice A5 (putL (putK T0 (gb.take j)) x.1 N).length c5) (by show ob ≠ ba; omega)).trans HS5.out.2.1) ((World.cell?_setCell_far w5 ⟨ob, 2, none⟩ ⟨ba, oa + j * 2 + 1, none⟩ (.slice A5 (putL (putK T0 (gb.take j)) x.1 N).length c5) (by show ob ≠ ba; omega)).trans HS5.out.2.2)))
   refine hK.out _ _ HS6.out (fun hHeld => ?_)
   clear hK K hHeld HS6 HS5 o0 o1 o2 z0 z1 z2
   try simp only [List.getElem_toArray, List.getElem_cons_succ, List.getElem_cons_zero, Act.put, List.setIfInBounds_toArray, List.set_cons_zero, List.set_cons_succ]
   refine wpAnyH_done (by kernel_rfl) ?_ _
   go_wp2_with fail
   go_roundg gh
   case measure => omega
   case rel => exact ⟨j + 1, _, rfl, by omega, Lib.hid (by rw [HX2.out, putK_snoc, ← Nat.add_assoc]; exact HGP.out.put HGX.out.1 (by rw [HNE.out]; exact HGX.out.2)), Lib.hid (by rw [HX2.out, HX.out]; exact O5.out.setBox Y2.out _), Lib.hid (Y2.out.set_ 2 _), Lib.hid (Y1.out.far (p := ⟨ob, 2, none⟩) (by show w.heap.size + 1 + 1 ≠ ob; omega) _), Lib.hid (Y0.out.far (p := ⟨ob, 2, none⟩) (by show w.heap.size + 1 ≠ ob; omega) _), Lib.hid ((BEL.out.trans (B5.out.mono (by omega))).setCell (p := ⟨ob, 2, none⟩) (by show w.heap.size ≤ ob; omega) _)⟩
set_option maxRecDepth 1000000 in
set_option maxHeartbeats 8000000 in
theorem lowR6 (w : World) (O V : Int) (A : Option Addr) (c L n : Nat) (gs : List Gr) (h : GramsAt w (.slice A L c) gs) (hL : gs.length = L) (hg : ∀ g ∈ gs, g.1.length = n + 1 ∧ 0 ≤ g.2 ∧ g.2 ≤ 1073741824) (hl : L ≤ 500) (hn : n ≤ 1000) (hO : 1 ≤ O ∧ O ≤ 1000) :
  Calls Tryz.prog 73 #[.agg #[.int .i64 O, .int .i64 V, .slice A L c]] w fun e w' => ∃ lv, e = .returned (.agg #[.int .i64 (O - 1), .int .i64 V, lv]) ∧ GramsAt w' lv (putK [] (lowL gs)) ∧ GoodP n L (putK [] (lowL gs)) ∧ Below w.heap.size w w' := by
 obtain ⟨_, _, e, hlc, hcm, hat⟩ := h.open_
 injection e with e1 e2 e3
 subst e1
 have HAT := Lib.hid hat
 have HG := Lib.hid hg
 have HL := Lib.hid hL
 rw [hL] at hlc
 have hwO : IntKind.i64.wrap (O - 1) = O - 1 := IntWalk.i64_in _ (by omega)
 clear h hat hg hL e2 e3
 go_enter Tryz.func73, Tryz.ntmps73
 go_wp2_with fail
 obtain ⟨W, hW, P0, P1, P2, PB, Phs⟩ := box3 w 27 [.int .i64 O, .int .i64 V, .slice A L c] 27 [.int .i64 0, .int .i64 0, .slice none 0 0] 27 [.int .i64 (O - 1), .int .i64 V, .slice none 0 0]
 rw [← hW]
 clear hW
 go_loopg [4] L (fun gh i wr => ∃ (j : Nat) (lv : Value), i = .int .i64 j ∧ j + gh = L ∧ Hid (GoodP n j (putK [] (lowL (gs.take j)))) ∧ Hid (GOwn (w.heap.size + 3) wr lv (putK [] (lowL (gs.take j)))) ∧ Hid (Blk wr (w.heap.size + 1 + 1) 27 [.int .i64 (O - 1), .int .i64 V, lv]) ∧
   Hid (Blk wr (w.heap.size + 1) 27 [.int .i64 0, .int .i64 0, .slice none 0 0]) ∧ Hid (Blk wr w.heap.size 27 [.int .i64 O, .int .i64 V, .slice A L c]) ∧ Hid (Below w.heap.size w wr))
 case atStart => exact ⟨0, .slice none 0 0, rfl, by omega, Lib.hid (GoodP.nil_ n), Lib.hid (GOwn.nil_ _ _), P2, P1, P0, PB⟩
 case round =>
  clear P0 P1 P2 PB
  obtain ⟨j, lv, rfl, hj, HGP, HO, H2, H1, H0, BEL⟩ := hrel
  have hwz : w.heap.size + 3 ≤ wr.heap.size := by have := H2.out.lt; omega
  obtain ⟨Ao, co, rfl⟩ := HO.out.len
  obtain ⟨Lo, hLo⟩ : ∃ Lo, (putK [] (lowL (gs.take j))).length = Lo := ⟨_, rfl⟩
  rw [hLo] at HO H2
  clear hLo
  rcases Nat.eq_zero_or_pos gk with h | h
  ·obtain rfl : j = L := by omega
   have HE : Hid (gs.take j = gs) := Lib.hid (List.take_of_length_le (by rw [HL.out]; exact Nat.le_refl _))
   obtain ⟨r0, r1, r2, z0, z1, z2⟩ := H1.out.three
   obtain ⟨o0, o1, o2, _, _, _⟩ := H2.out.three
   obtain ⟨q0, q1, q2, _, _, _⟩ := H0.out.three
   go_wp2_with fail
   refine bodyPost_ret (v := .agg #[.int .i64 (O - 1), .int .i64 V, .slice Ao Lo co]) (by simp [results, Tryz.results73, go_sem, r0, r1, r2]) rfl ⟨_, rfl, ?_, ?_, below_box3 BEL.out (by omega) _ _ _⟩
   ·have := (((HO.out.setFar (p := ⟨w.heap.size + 1, 0, none⟩) (by show w.heap.size + 1 < w.heap.size + 3; omega) (.int .i64 (O - 1))).setFar (p := ⟨w.heap.size + 1, 1, none⟩) (by show w.heap.size + 1 < w.heap.size + 3; omega) (.int .i64 V)).setFar (p := ⟨w.heap.size + 1, 2, none⟩) (by show w.heap.size + 1 < w.heap.size + 3; omega) (.slice Ao Lo co)).at_
    rwa [HE.out] at this
   ·have := HGP.out
    rwa [HE.out] at this
  ·obtain ⟨gh, rfl⟩ : ∃ g, gk = g + 1 := ⟨gk - 1, by omega⟩
   obtain ⟨x, hx⟩ : ∃ x, gs[j]? = some x := ⟨_, List.getElem?_eq_getElem (by rw [HL.out]; omega)⟩
   obtain ⟨ba, oa, c0, rfl, hba, e0, e1, hi⟩ := HAT.out j x hx
   have d0' := (BEL.out.cell (p := ⟨ba, oa + j * 2, none⟩) hba).trans e0
   have d1 := (BEL.out.cell (p := ⟨ba, oa + j * 2 + 1, none⟩) hba).trans e1
   have hgx := HG.out x (List.mem_of_getElem? hx)
   have HGX : Hid ((x.1.drop 1).length = n ∧ 0 ≤ x.2 ∧ x.2 ≤ 1073741824) := Lib.hid ⟨by rw [List.length_drop]; omega, hgx.2⟩
   have HX : Hid (putK [] (lowL (gs.take j ++ [x])) = putL (putK [] (lowL (gs.take j))) (x.1.drop 1) x.2) := Lib.hid (by
    unfold lowL
    rw [List.map_append]
    exact putK_snoc [] _ (x.1.drop 1, x.2))
   have HX2 := Lib.hid (take_succ_get _ hx)
   have HIT := Lib.hid (hi.below BEL.out)
   obtain ⟨o0, o1, o2, z0, z1, z2⟩ := H2.out.three
   obtain ⟨q0, q1, q2, _, _, _⟩ := H0.out.three
   obtain ⟨N, hN⟩ : ∃ N, x.2 = N := ⟨_, rfl⟩
   have HNE := Lib.hid hN
   rw [hN] at d1 HX HGX
   obtain ⟨Ax, cx, rfl, hcx, hcxm, hatx⟩ := hi.open_
   have hxl : x.1.length = n + 1 := hgx.1
   obtain ⟨y, hy⟩ : ∃ y, x.1[0]? = some y := ⟨_, List.getElem?_eq_getElem (by omega)⟩
   obtain ⟨bx, ox, rfl, _, _⟩ := hatx 0 y hy
   rw [hxl] at hcx d0' HIT
   have HTL : Hid (IntsAt wr (if cx = 1 then (.slice (some ⟨bx, ox, none⟩) n 0) else (.slice (some ⟨bx, ox + 1, none⟩) n (cx - 1))) (x.1.drop 1)) := Lib.hid (by
    have hdl : (x.1.drop 1).length = n := by rw [List.length_drop]; omega
    by_cases hc : cx = 1
    ·rw [if_pos hc]
     unfold IntsAt
     rw [hdl, List.eq_nil_of_length_eq_zero (show (x.1.drop 1).length = 0 by omega)]
     exact Sl.none' _ _ _ _ _ _ (by omega) (by omega) (by unfold maxLen; omega)
    ·rw [if_neg hc]
     unfold IntsAt
     have hi2 : Sl wr 1 (.slice (some ⟨bx, ox, none⟩) (n + 1) cx) (n + 1) (x.1.map (Value.int .i64)) := by have := HIT.out; unfold IntsAt at this; rwa [hxl] at this
     have := Sl.tail (k := 1) hi2 (by omega)
     rw [hdl, List.map_drop]
     simpa using this)
   obtain ⟨c0, hc0⟩ : ∃ c0, c0 = Value.slice (some ⟨bx, ox, none⟩) (n + 1) cx := ⟨_, rfl⟩
   have d0 := d0'
   have hn1 : (1 : Int) ≤ (n : Int) + 1 := by omega
   generalize x.1.drop 1 = ks at HGX HX HTL
   clear hx hi e0 e1 hN hgx hatx hy hxl d0' hc0 c0
   go_wp2_with fail
   by_cases hcc : cx = 1
   ·have hn0 : n = 0 := by omega
    rw [if_pos hcc] at HTL
    subst hcc
    subst hn0
    have hS : wr.drew.cell? ⟨w.heap.size, 2, none⟩ = some (.slice (some ⟨ba, oa, none⟩) L c) ∧ wr.drew.cell? ⟨ba, oa + j * 2, none⟩ = some (.slice (some ⟨bx, ox, none⟩) (0 + 1) 1) ∧ wr.drew.cell? ⟨ba, oa + j * 2 + 1, none⟩ = some (.int .i64 N) := ⟨q2, d0, d1⟩
    have HS0 := Lib.hid hS
    clear o0 o1 q0 q1 q2 z0 z1 z2 hS
    refine wp_region_held_drew (S := fun w' => w'.cell? ⟨w.heap.size, 2, none⟩ = some (.slice (some ⟨ba, oa, none⟩) L c) ∧ w'.cell? ⟨ba, oa + j * 2, none⟩ = some (.slice (some ⟨bx, ox, none⟩) (0 + 1) 1) ∧ w'.cell? ⟨ba, oa + j * 2 + 1, none⟩ = some (.int .i64 N)) (by kernel_rfl) HS0.out (fun hHeld => ?_)
    refine wpAnyH_take (i := 0) (v := ?_) rfl (by kernel_rfl) (by kernel_rfl) (by kernel_rfl) (fun _ _ _ h => h) (Or.inl ⟨by rfl, ?_⟩) (by assumption) ?_
    rotate_left
    ·(intro w' hSw; (try dsimp only at hSw); go_simp <;> with_reducible rfl)
    simp only [List.getElem_toArray, List.getElem_cons_succ, List.getElem_cons_zero, Act.put, List.setIfInBounds_toArray, List.set_cons_zero, List.set_cons_succ]
    refine wpAnyH_take (i := 2) (v := ?_) rfl (by kernel_rfl) (by kernel_rfl) (by kernel_rfl) (fun _ _ _ h => h) (Or.inl ⟨by rfl, ?_⟩) (by assumption) ?_
    rotate_left
    ·(intro w' hSw; (try dsimp only at hSw); go_simp <;> with_reducible rfl)
    simp only [List.getElem_toArray, List.getElem_cons_succ, List.getElem_cons_zero, Act.put, List.setIfInBounds_toArray, List.set_cons_zero, List.set_cons_succ]
    refine wpAnyH_take (i := 3) (v := ?_) rfl (by kernel_rfl) (by kernel_rfl) (by kernel_rfl) (fun _ _ _ h => h) (Or.inl ⟨by rfl, ?_⟩) (by assumption) ?_
    rotate_left
    ·(intro w' hSw; (try dsimp only at hSw); go_simp <;> with_reducible rfl)
    simp only [List.getElem_toArray, List.getElem_cons_succ, List.getElem_cons_zero, Act.put, List.setIfInBounds_toArray, List.set_cons_zero, List.set_cons_succ]
    refine wpAnyH_take (i := 4) (v := ?_) rfl (by kernel_rfl) (by kernel_rfl) (by kernel_rfl) (fun _ _ _ h => h) (Or.inl ⟨by rfl, ?_⟩) (by assumption) ?_
    rotate_left
    ·(intro w' hSw; (try dsimp only at hSw); go_simp <;> with_reducible rfl)
    simp only [List.getElem_toArray, List.getElem_cons_succ, List.getElem_cons_zero, Act.put, List.setIfInBounds_toArray, List.set_cons_zero, List.set_cons_succ]
    refine wpAnyH_take (i := 5) (v := ?_) rfl (by kernel_rfl) (by kernel_rfl) (by kernel_rfl) (fun _ _ _ h => h) (Or.inl ⟨by rfl, ?_⟩) (by assumption) ?_
    rotate_left
    ·(intro w' hSw; (try dsimp only at hSw); go_simp <;> with_reducible rfl)
    simp only [List.getElem_toArray, List.getElem_cons_succ, List.getElem_cons_zero, Act.put, List.setIfInBounds_toArray, List.set_cons_zero, List.set_cons_succ]
    refine wpAnyH_take (i := 6) (v := ?_) rfl (by kernel_rfl) (by kernel_rfl) (by kernel_rfl) (fun _ _ _ h => h) (Or.inl ⟨by rfl, ?_⟩) (by assumption) ?_
    rotate_left
    ·(intro w' hSw; (try dsimp only at hSw); go_simp <;> with_reducible rfl)
    simp only [List.getElem_toArray, List.getElem_cons_succ, List.getElem_cons_zero, Act.put, List.setIfInBounds_toArray, List.set_cons_zero, List.set_cons_succ]
    refine wpAnyH_take (i := 7) (v := ?_) rfl (by kernel_rfl) (by kernel_rfl) (by kernel_rfl) (fun _ _ _ h => h) (Or.inl ⟨by rfl, ?_⟩) (by assumption) ?_
    rotate_left
    ·(intro w' hSw; (try dsimp only at hSw); go_simp <;> with_reducible rfl)
    simp only [List.getElem_toArray, List.getElem_cons_succ, List.getElem_cons_zero, Act.put, List.setIfInBounds_toArray, List.set_cons_zero, List.set_cons_succ]
    refine wpAnyH_take (i := 8) (v := ?_) rfl (by kernel_rfl) (by kernel_rfl) (by kernel_rfl) (fun _ _ _ h => h) (Or.inl ⟨by rfl, ?_⟩) (by assumption) ?_
    rotate_left
    ·(intro w' hSw; (try dsimp only at hSw); go_simp <;> with_reducible rfl)
    simp only [List.getElem_toArray, List.getElem_cons_succ, List.getElem_cons_zero, Act.put, List.setIfInBounds_toArray, List.set_cons_zero, List.set_cons_succ]
    refine wpAnyH_take (i := 9) (v := ?_) rfl (by kernel_rfl) (by kernel_rfl) (by kernel_rfl) (fun _ _ _ h => h) (Or.inl ⟨by rfl, ?_⟩) (by assumption) ?_
    rotate_left
    ·(intro w' hSw; (try dsimp only at hSw); go_simp <;> with_reducible rfl)
    simp only [List.getElem_toArray, List.getElem_cons_succ, List.getElem_cons_zero, Act.put, List.setIfInBounds_toArray, List.set_cons_zero, List.set_cons_succ]
    refine wpAnyH_take (i := 10) (v := ?_) rfl (by kernel_rfl) (by kernel_rfl) (by kernel_rfl) (fun _ _ _ h => h) (Or.inl ⟨by rfl, ?_⟩) (by assumption) ?_
    rotate_left
    ·(intro w' hSw; (try dsimp only at hSw); go_simp <;> with_reducible rfl)
    simp only [List.getElem_toArray, List.getElem_cons_succ, List.getElem_cons_zero, Act.put, List.setIfInBounds_toArray, List.set_cons_zero, List.set_cons_succ]
    refine wpAnyH_take (i := 11) (v := ?_) rfl (by kernel_rfl) (by kernel_rfl) (by kernel_rfl) (fun _ _ _ h => h) (Or.inl ⟨by rfl, ?_⟩) (by assumption) ?_
    rotate_left
    ·(intro w' hSw; (try dsimp only at hSw); go_simp <;> with_reducible rfl)
    simp only [List.getElem_toArray, List.getElem_cons_succ, List.getElem_cons_zero, Act.put, List.setIfInBounds_toArray, List.set_cons_zero, List.set_cons_succ]
    refine wpAnyH_take (i := 12) (v := ?_) rfl (by kernel_rfl) (by kernel_rfl) (by kernel_rfl) (fun _ _ _ h => h) (Or.inl ⟨by rfl, ?_⟩) (by assumption) ?_
    rotate_left
    ·(intro w' hSw; (try dsimp only at hSw); go_simp <;> with_reducible rfl)
    simp only [List.getElem_toArray, List.getElem_cons_succ, List.getElem_cons_zero, Act.put, List.setIfInBounds_toArray, List.set_cons_zero, List.set_cons_succ]
    refine wpAnyH_take (i := 13) (v := ?_) rfl (by kernel_rfl) (by kernel_rfl) (by kernel_rfl) (fun _ _ _ h => h) (Or.inl ⟨by rfl, ?_⟩) (by assumption) ?_
    rotate_left
    ·(intro w' hSw; (try dsimp only at hSw); go_simp <;> with_reducible rfl)
    simp only [List.getElem_toArray, List.getElem_cons_succ, List.getElem_cons_zero, Act.put, List.setIfInBounds_toArray, List.set_cons_zero, List.set_cons_succ]
    refine wpAnyH_take (i := 14) (v := ?_) rfl (by kernel_rfl) (by kernel_rfl) (by kernel_rfl) (fun _ _ _ h => h) (Or.inl ⟨by rfl, ?_⟩) (by assumption) ?_
    rotate_left
    ·(intro w' hSw; (try dsimp only at hSw); go_simp <;> with_reducible rfl)
    simp only [List.getElem_toArray, List.getElem_cons_succ, List.getElem_cons_zero, Act.put, List.setIfInBounds_toArray, List.set_cons_zero, List.set_cons_succ]
    refine wpAnyH_ready (rs := [1]) (by kernel_rfl) (by simp) ?_
    refine AllReadyH.cons rfl (fun K hK => ?_) AllReadyH.nil
    have o2' : wr.drew.cell? ⟨w.heap.size + 1 + 1, 2, none⟩ = some (.slice Ao Lo co) := o2
    go_simp
    refine hK.out _ _ HS0.out (fun hHeld => ?_)
    clear hK K o2' o2
    try simp only [List.getElem_toArray, List.getElem_cons_succ, List.getElem_cons_zero, Act.put, List.setIfInBounds_toArray, List.set_cons_zero, List.set_cons_succ]
    refine wpAnyH_ready (rs := [15]) (by kernel_rfl) (by simp) ?_
    refine AllReadyH.cons rfl (fun K hK => ?_) AllReadyH.nil
    go_simp
    refine (putG (w.heap.size + 3) wr.drew _ (.slice (some ⟨bx, ox, none⟩) 0 0) _ (ks) N (HO.out.below (below_drew_self _)) (HTL.out.below (below_drew_self _)) (fun g hg => by rw [(HGP.out.2 g hg).1, HGX.out.1]) (by have := HGX.out.2; omega) (fun g hg => by have := HGP.out.2 g hg; omega) (by have := HGP.out.1; omega) (by rw [HGX.out.1]; omega) (by show w.heap.size + 3 ≤ wr.heap.size; exact hwz)).mono ?_
    rintro e w5 ⟨lv5, rfl, t5, hg5, hx5⟩
    obtain ⟨A5, c5, rfl⟩ := t5.len
    have O5 := Lib.hid t5
    have Y2 := Lib.hid (H2.out.drew.grown hg5 (HO.out.ne_box H2.out))
    have Y1 := Lib.hid (H1.out.drew.grown hg5 (HO.out.ne_box H1.out))
    have Y0 := Lib.hid (H0.out.drew.grown hg5 (HO.out.ne_box H0.out))
    have B5 := Lib.hid (below_of_drew' ((Below.refl (w.heap.size + 3) wr.drew).grown hg5 (by show w.heap.size + 3 ≤ wr.heap.size; exact hwz) (own_block_le HO.out.from_)))
    have HS5 := Lib.hid (And.intro (Y0.out.cell 2) (And.intro ((B5.out.cell (p := ⟨ba, oa + j * 2, none⟩) (by show ba < w.heap.size + 3; omega)).trans d0) ((B5.out.cell (p := ⟨ba, oa + j * 2 + 1, none⟩) (by show ba < w.heap.size + 3; omega)).trans d1)))
    clear t5 hg5 hx5 hHeld HS0
    try go_simp
    refine hK.out _ _ HS5.out (fun hHeld => ?_)
    clear hK K
    try simp only [List.getElem_toArray, List.getElem_cons_succ, List.getElem_cons_zero, Act.put, List.setIfInBounds_toArray, List.set_cons_zero, List.set_cons_succ]
    refine wpAnyH_take (i := 16) (v := ?_) rfl (by kernel_rfl) (by kernel_rfl) (by kernel_rfl) (fun _ _ _ h => h) (Or.inl ⟨by rfl, ?_⟩) (by assumption) ?_
    rotate_left
    ·(intro w' hSw; (try dsimp only at hSw); go_simp <;> with_reducible rfl)
    simp only [List.getElem_toArray, List.getElem_cons_succ, List.getElem_cons_zero, Act.put, List.setIfInBounds_toArray, List.set_cons_zero, List.set_cons_succ]
    refine wpAnyH_ready (rs := [17]) (by kernel_rfl) (by simp) ?_
    refine AllReadyH.cons rfl (fun K hK => ?_) AllReadyH.nil
    obtain ⟨o0, o1, o2, z0, z1, z2⟩ := Y2.out.three
    go_simp
    have HS6 := Lib.hid (And.intro ((Y0.out.far (p := ⟨w.heap.size + 1 + 1, 2, none⟩) (by show w.heap.size ≠ w.heap.size + 1 + 1; omega) (.slice A5 (putL (putK [] (lowL (gs.take j))) ks N).length c5)).cell 2) (And.intro ((World.cell?_setCell_far w5 ⟨w.heap.size + 1 + 1, 2, none⟩ ⟨ba, oa + j * 2, none⟩ (.slice A5 (putL (putK [] (lowL (gs.take j))) ks N).length c5) (by show w.heap.size + 1 + 1 ≠ ba; omega)).trans HS5.out.2.1) ((World.cell?_setCell_far w5 ⟨w.heap.size + 1 + 1, 2, none⟩ ⟨ba, oa + j * 2 + 1, none⟩ (.slice A5 (putL (putK [] (lowL (gs.take j))) ks N).length c5) (by show w.heap.size + 1 + 1 ≠ ba; omega)).trans HS5.out.2.2)))
    refine hK.out _ _ HS6.out (fun hHeld => ?_)
    clear hK K hHeld HS6 HS5 o0 o1 o2 z0 z1 z2
    try simp only [List.getElem_toArray, List.getElem_cons_succ, List.getElem_cons_zero, Act.put, List.setIfInBounds_toArray, List.set_cons_zero, List.set_cons_succ]
    refine wpAnyH_done (by kernel_rfl) ?_ _
    go_wp2_with fail
    go_roundg gh
    case measure => omega
    case rel => exact ⟨j + 1, _, rfl, by omega, Lib.hid (by rw [HX2.out, HX.out]; exact HGP.out.put HGX.out.1 HGX.out.2), Lib.hid (by rw [HX2.out, HX.out]; exact O5.out.setFar (p := ⟨w.heap.size + 1 + 1, 2, none⟩) (by show w.heap.size + 1 + 1 < w.heap.size + 3; omega) _), Lib.hid (Y2.out.set_ 2 _), Lib.hid (Y1.out.far (p := ⟨w.heap.size + 1 + 1, 2, none⟩) (by show w.heap.size + 1 ≠ w.heap.size + 1 + 1; omega) _), Lib.hid (Y0.out.far (p := ⟨w.heap.size + 1 + 1, 2, none⟩) (by show w.heap.size ≠ w.heap.size + 1 + 1; omega) _), Lib.hid ((BEL.out.trans (B5.out.mono (by omega))).setCell (p := ⟨w.heap.size + 1 + 1, 2, none⟩) (by show w.heap.size ≤ w.heap.size + 1 + 1; omega) _)⟩
   ·rw [if_neg hcc] at HTL
    have hS : wr.drew.cell? ⟨w.heap.size, 2, none⟩ = some (.slice (some ⟨ba, oa, none⟩) L c) ∧ wr.drew.cell? ⟨ba, oa + j * 2, none⟩ = some (.slice (some ⟨bx, ox, none⟩) (n + 1) cx) ∧ wr.drew.cell? ⟨ba, oa + j * 2 + 1, none⟩ = some (.int .i64 N) := ⟨q2, d0, d1⟩
    have HS0 := Lib.hid hS
    clear o0 o1 q0 q1 q2 z0 z1 z2 hS
    refine wp_region_held_drew (S := fun w' => w'.cell? ⟨w.heap.size, 2, none⟩ = some (.slice (some ⟨ba, oa, none⟩) L c) ∧ w'.cell? ⟨ba, oa + j * 2, none⟩ = some (.slice (some ⟨bx, ox, none⟩) (n + 1) cx) ∧ w'.cell? ⟨ba, oa + j * 2 + 1, none⟩ = some (.int .i64 N)) (by kernel_rfl) HS0.out (fun hHeld => ?_)
    refine wpAnyH_take (i := 0) (v := ?_) rfl (by kernel_rfl) (by kernel_rfl) (by kernel_rfl) (fun _ _ _ h => h) (Or.inl ⟨by rfl, ?_⟩) (by assumption) ?_
    rotate_left
    ·(intro w' hSw; (try dsimp only at hSw); go_simp <;> with_reducible rfl)
    simp only [List.getElem_toArray, List.getElem_cons_succ, List.getElem_cons_zero, Act.put, List.setIfInBounds_toArray, List.set_cons_zero, List.set_cons_succ]
    refine wpAnyH_take (i := 2) (v := ?_) rfl (by kernel_rfl) (by kernel_rfl) (by kernel_rfl) (fun _ _ _ h => h) (Or.inl ⟨by rfl, ?_⟩) (by assumption) ?_
    rotate_left
    ·(intro w' hSw; (try dsimp only at hSw); go_simp <;> with_reducible rfl)
    simp only [List.getElem_toArray, List.getElem_cons_succ, List.getElem_cons_zero, Act.put, List.setIfInBounds_toArray, List.set_cons_zero, List.set_cons_succ]
    refine wpAnyH_take (i := 3) (v := ?_) rfl (by kernel_rfl) (by kernel_rfl) (by kernel_rfl) (fun _ _ _ h => h) (Or.inl ⟨by rfl, ?_⟩) (by assumption) ?_
    rotate_left
    ·(intro w' hSw; (try dsimp only at hSw); go_simp <;> with_reducible rfl)
    simp only [List.getElem_toArray, List.getElem_cons_succ, List.getElem_cons_zero, Act.put, List.setIfInBounds_toArray, List.set_cons_zero, List.set_cons_succ]
    refine wpAnyH_take (i := 4) (v := ?_) rfl (by kernel_rfl) (by kernel_rfl) (by kernel_rfl) (fun _ _ _ h => h) (Or.inl ⟨by rfl, ?_⟩) (by assumption) ?_
    rotate_left
    ·(intro w' hSw; (try dsimp only at hSw); go_simp <;> with_reducible rfl)
    simp only [List.getElem_toArray, List.getElem_cons_succ, List.getElem_cons_zero, Act.put, List.setIfInBounds_toArray, List.set_cons_zero, List.set_cons_succ]
    refine wpAnyH_take (i := 5) (v := ?_) rfl (by kernel_rfl) (by kernel_rfl) (by kernel_rfl) (fun _ _ _ h => h) (Or.inl ⟨by rfl, ?_⟩) (by assumption) ?_
    rotate_left
    ·(intro w' hSw; (try dsimp only at hSw); go_simp <;> with_reducible rfl)
    simp only [List.getElem_toArray, List.getElem_cons_succ, List.getElem_cons_zero, Act.put, List.setIfInBounds_toArray, List.set_cons_zero, List.set_cons_succ]
    refine wpAnyH_take (i := 6) (v := ?_) rfl (by kernel_rfl) (by kernel_rfl) (by kernel_rfl) (fun _ _ _ h => h) (Or.inl ⟨by rfl, ?_⟩) (by assumption) ?_
    rotate_left
    ·(intro w' hSw; (try dsimp only at hSw); go_simp <;> with_reducible rfl)
    simp only [List.getElem_toArray, List.getElem_cons_succ, List.getElem_cons_zero, Act.put, List.setIfInBounds_toArray, List.set_cons_zero, List.set_cons_succ]
    refine wpAnyH_take (i := 7) (v := ?_) rfl (by kernel_rfl) (by kernel_rfl) (by kernel_rfl) (fun _ _ _ h => h) (Or.inl ⟨by rfl, ?_⟩) (by assumption) ?_
    rotate_left
    ·(intro w' hSw; (try dsimp only at hSw); go_simp <;> with_reducible rfl)
    simp only [List.getElem_toArray, List.getElem_cons_succ, List.getElem_cons_zero, Act.put, List.setIfInBounds_toArray, List.set_cons_zero, List.set_cons_succ]
    refine wpAnyH_take (i := 8) (v := ?_) rfl (by kernel_rfl) (by kernel_rfl) (by kernel_rfl) (fun _ _ _ h => h) (Or.inl ⟨by rfl, ?_⟩) (by assumption) ?_
    rotate_left
    ·(intro w' hSw; (try dsimp only at hSw); go_simp <;> with_reducible rfl)
    simp only [List.getElem_toArray, List.getElem_cons_succ, List.getElem_cons_zero, Act.put, List.setIfInBounds_toArray, List.set_cons_zero, List.set_cons_succ]
    refine wpAnyH_take (i := 9) (v := ?_) rfl (by kernel_rfl) (by kernel_rfl) (by kernel_rfl) (fun _ _ _ h => h) (Or.inl ⟨by rfl, ?_⟩) (by assumption) ?_
    rotate_left
    ·(intro w' hSw; (try dsimp only at hSw); go_simp <;> with_reducible rfl)
    simp only [List.getElem_toArray, List.getElem_cons_succ, List.getElem_cons_zero, Act.put, List.setIfInBounds_toArray, List.set_cons_zero, List.set_cons_succ]
    refine wpAnyH_take (i := 10) (v := ?_) rfl (by kernel_rfl) (by kernel_rfl) (by kernel_rfl) (fun _ _ _ h => h) (Or.inl ⟨by rfl, ?_⟩) (by assumption) ?_
    rotate_left
    ·(intro w' hSw; (try dsimp only at hSw); go_simp <;> with_reducible rfl)
    simp only [List.getElem_toArray, List.getElem_cons_succ, List.getElem_cons_zero, Act.put, List.setIfInBounds_toArray, List.set_cons_zero, List.set_cons_succ]
    refine wpAnyH_take (i := 11) (v := ?_) rfl (by kernel_rfl) (by kernel_rfl) (by kernel_rfl) (fun _ _ _ h => h) (Or.inl ⟨by rfl, ?_⟩) (by assumption) ?_
    rotate_left
    ·(intro w' hSw; (try dsimp only at hSw); go_simp <;> with_reducible rfl)
    simp only [List.getElem_toArray, List.getElem_cons_succ, List.getElem_cons_zero, Act.put, List.setIfInBounds_toArray, List.set_cons_zero, List.set_cons_succ]
    refine wpAnyH_take (i := 12) (v := ?_) rfl (by kernel_rfl) (by kernel_rfl) (by kernel_rfl) (fun _ _ _ h => h) (Or.inl ⟨by rfl, ?_⟩) (by assumption) ?_
    rotate_left
    ·(intro w' hSw; (try dsimp only at hSw); go_simp <;> with_reducible rfl)
    simp only [List.getElem_toArray, List.getElem_cons_succ, List.getElem_cons_zero, Act.put, List.setIfInBounds_toArray, List.set_cons_zero, List.set_cons_succ]
    refine wpAnyH_take (i := 13) (v := ?_) rfl (by kernel_rfl) (by kernel_rfl) (by kernel_rfl) (fun _ _ _ h => h) (Or.inl ⟨by rfl, ?_⟩) (by assumption) ?_
    rotate_left
    ·(intro w' hSw; (try dsimp only at hSw); go_simp <;> with_reducible rfl)
    simp only [List.getElem_toArray, List.getElem_cons_succ, List.getElem_cons_zero, Act.put, List.setIfInBounds_toArray, List.set_cons_zero, List.set_cons_succ]
    refine wpAnyH_take (i := 14) (v := ?_) rfl (by kernel_rfl) (by kernel_rfl) (by kernel_rfl) (fun _ _ _ h => h) (Or.inl ⟨by rfl, ?_⟩) (by assumption) ?_
    rotate_left
    ·(intro w' hSw; (try dsimp only at hSw); go_simp <;> with_reducible rfl)
    simp only [List.getElem_toArray, List.getElem_cons_succ, List.getElem_cons_zero, Act.put, List.setIfInBounds_toArray, List.set_cons_zero, List.set_cons_succ]
    refine wpAnyH_ready (rs := [1]) (by kernel_rfl) (by simp) ?_
    refine AllReadyH.cons rfl (fun K hK => ?_) AllReadyH.nil
    have o2' : wr.drew.cell? ⟨w.heap.size + 1 + 1, 2, none⟩ = some (.slice Ao Lo co) := o2
    go_simp
    refine hK.out _ _ HS0.out (fun hHeld => ?_)
    clear hK K o2' o2
    try simp only [List.getElem_toArray, List.getElem_cons_succ, List.getElem_cons_zero, Act.put, List.setIfInBounds_toArray, List.set_cons_zero, List.set_cons_succ]
    refine wpAnyH_ready (rs := [15]) (by kernel_rfl) (by simp) ?_
    refine AllReadyH.cons rfl (fun K hK => ?_) AllReadyH.nil
    go_simp
    refine (putG (w.heap.size + 3) wr.drew _ (.slice (some ⟨bx, ox + 1, none⟩) n (cx - 1)) _ (ks) N (HO.out.below (below_drew_self _)) (HTL.out.below (below_drew_self _)) (fun g hg => by rw [(HGP.out.2 g hg).1, HGX.out.1]) (by have := HGX.out.2; omega) (fun g hg => by have := HGP.out.2 g hg; omega) (by have := HGP.out.1; omega) (by rw [HGX.out.1]; omega) (by show w.heap.size + 3 ≤ wr.heap.size; exact hwz)).mono ?_
    rintro e w5 ⟨lv5, rfl, t5, hg5, hx5⟩
    obtain ⟨A5, c5, rfl⟩ := t5.len
    have O5 := Lib.hid t5
    have Y2 := Lib.hid (H2.out.drew.grown hg5 (HO.out.ne_box H2.out))
    have Y1 := Lib.hid (H1.out.drew.grown hg5 (HO.out.ne_box H1.out))
    have Y0 := Lib.hid (H0.out.drew.grown hg5 (HO.out.ne_box H0.out))
    have B5 := Lib.hid (below_of_drew' ((Below.refl (w.heap.size + 3) wr.drew).grown hg5 (by show w.heap.size + 3 ≤ wr.heap.size; exact hwz) (own_block_le HO.out.from_)))
    have HS5 := Lib.hid (And.intro (Y0.out.cell 2) (And.intro ((B5.out.cell (p := ⟨ba, oa + j * 2, none⟩) (by show ba < w.heap.size + 3; omega)).trans d0) ((B5.out.cell (p := ⟨ba, oa + j * 2 + 1, none⟩) (by show ba < w.heap.size + 3; omega)).trans d1)))
    clear t5 hg5 hx5 hHeld HS0
    try go_simp
    refine hK.out _ _ HS5.out (fun hHeld => ?_)
    clear hK K
    try simp only [List.getElem_toArray, List.getElem_cons_succ, List.getElem_cons_zero, Act.put, List.setIfInBounds_toArray, List.set_cons_zero, List.set_cons_succ]
    refine wpAnyH_take (i := 16) (v := ?_) rfl (by kernel_rfl) (by kernel_rfl) (by kernel_rfl) (fun _ _ _ h => h) (Or.inl ⟨by rfl, ?_⟩) (by assumption) ?_
    rotate_left
    ·(intro w' hSw; (try dsimp only at hSw); go_simp <;> with_reducible rfl)
    simp only [List.getElem_toArray, List.getElem_cons_succ, List.getElem_cons_zero, Act.put, List.setIfInBounds_toArray, List.set_cons_zero, List.set_cons_succ]
    refine wpAnyH_ready (rs := [17]) (by kernel_rfl) (by simp) ?_
    refine AllReadyH.cons rfl (fun K hK => ?_) AllReadyH.nil
    obtain ⟨o0, o1, o2, z0, z1, z2⟩ := Y2.out.three
    go_simp
    have HS6 := Lib.hid (And.intro ((Y0.out.far (p := ⟨w.heap.size + 1 + 1, 2, none⟩) (by show w.heap.size ≠ w.heap.size + 1 + 1; omega) (.slice A5 (putL (putK [] (lowL (gs.take j))) ks N).length c5)).cell 2) (And.intro ((World.cell?_setCell_far w5 ⟨w.heap.size + 1 + 1, 2, none⟩ ⟨ba, oa + j * 2, none⟩ (.slice A5 (putL (putK [] (lowL (gs.take j))) ks N).length c5) (by show w.heap.size + 1 + 1 ≠ ba; omega)).trans HS5.out.2.1) ((World.cell?_setCell_far w5 ⟨w.heap.size + 1 + 1, 2, none⟩ ⟨ba, oa + j * 2 + 1, none⟩ (.slice A5 (putL (putK [] (lowL (gs.take j))) ks N).length c5) (by show w.heap.size + 1 + 1 ≠ ba; omega)).trans HS5.out.2.2)))
    refine hK.out _ _ HS6.out (fun hHeld => ?_)
    clear hK K hHeld HS6 HS5 o0 o1 o2 z0 z1 z2
    try simp only [List.getElem_toArray, List.getElem_cons_succ, List.getElem_cons_zero, Act.put, List.setIfInBounds_toArray, List.set_cons_zero, List.set_cons_succ]
    refine wpAnyH_done (by kernel_rfl) ?_ _
    go_wp2_with fail
    go_roundg gh
    case measure => omega
    case rel => exact ⟨j + 1, _, rfl, by omega, Lib.hid (by rw [HX2.out, HX.out]; exact HGP.out.put HGX.out.1 HGX.out.2), Lib.hid (by rw [HX2.out, HX.out]; exact O5.out.setFar (p := ⟨w.heap.size + 1 + 1, 2, none⟩) (by show w.heap.size + 1 + 1 < w.heap.size + 3; omega) _), Lib.hid (Y2.out.set_ 2 _), Lib.hid (Y1.out.far (p := ⟨w.heap.size + 1 + 1, 2, none⟩) (by show w.heap.size + 1 ≠ w.heap.size + 1 + 1; omega) _), Lib.hid (Y0.out.far (p := ⟨w.heap.size + 1 + 1, 2, none⟩) (by show w.heap.size ≠ w.heap.size + 1 + 1; omega) _), Lib.hid ((BEL.out.trans (B5.out.mono (by omega))).setCell (p := ⟨w.heap.size + 1 + 1, 2, none⟩) (by show w.heap.size ≤ w.heap.size + 1 + 1; omega) _)⟩
def dropL (least : Int) (gs : List Gr) : List Gr := gs.filter fun g => decide (least ≤ g.2)
theorem dropL_snoc (least : Int) (gs : List Gr) (x : Gr) : dropL least (gs ++ [x]) = dropL least gs ++ (if least ≤ x.2 then [x] else []) := by
 unfold dropL
 rw [List.filter_append]
 by_cases h : least ≤ x.2
 ·rw [if_pos h]; simp [h]
 ·rw [if_neg h]; simp [h]
set_option maxRecDepth 1000000 in
set_option maxHeartbeats 8000000 in
theorem dropR (w : World) (O V least : Int) (A : Option Addr) (c L n : Nat) (gs : List Gr) (h : GramsAt w (.slice A L c) gs) (hL : gs.length = L) (hg : ∀ g ∈ gs, g.1.length = n ∧ 0 ≤ g.2 ∧ g.2 ≤ 1073741824) (hl : L ≤ 500) (hn : n ≤ 1000) :
  Calls Tryz.prog 72 #[.agg #[.int .i64 O, .int .i64 V, .slice A L c], .int .i64 least] w fun e w' => ∃ lv, e = .returned (.agg #[.int .i64 O, .int .i64 V, lv]) ∧ GramsAt w' lv (putK [] (dropL least gs)) ∧ Below w.heap.size w w' := by
 obtain ⟨_, _, e, hlc, hcm, hat⟩ := h.open_
 injection e with e1 e2 e3
 subst e1
 have HAT := Lib.hid hat
 have HG := Lib.hid hg
 have HL := Lib.hid hL
 rw [hL] at hlc
 clear h hat hg hL e2 e3
 go_enter Tryz.func72, Tryz.ntmps72
 go_wp2_with fail
 obtain ⟨W, hW, P0, P1, P2, PB, Phs⟩ := box3 w 27 [.int .i64 O, .int .i64 V, .slice A L c] 27 [.int .i64 0, .int .i64 0, .slice none 0 0] 27 [.int .i64 O, .int .i64 V, .slice none 0 0]
 rw [← hW]
 clear hW
 go_loopg [6] L (fun gh i wr => ∃ (j : Nat) (lv : Value), i = .int .i64 j ∧ j + gh = L ∧ Hid (GoodP n j (putK [] (dropL least (gs.take j)))) ∧ Hid (GOwn (w.heap.size + 3) wr lv (putK [] (dropL least (gs.take j)))) ∧ Hid (Blk wr (w.heap.size + 1 + 1) 27 [.int .i64 O, .int .i64 V, lv]) ∧
   Hid (Blk wr (w.heap.size + 1) 27 [.int .i64 0, .int .i64 0, .slice none 0 0]) ∧ Hid (Blk wr w.heap.size 27 [.int .i64 O, .int .i64 V, .slice A L c]) ∧ Hid (Below w.heap.size w wr))
 case atStart => exact ⟨0, .slice none 0 0, rfl, by omega, Lib.hid (GoodP.nil_ n), Lib.hid (GOwn.nil_ _ _), P2, P1, P0, PB⟩
 case round =>
  clear P0 P1 P2 PB
  obtain ⟨j, lv, rfl, hj, HGP, HO, H2, H1, H0, BEL⟩ := hrel
  have hwz : w.heap.size + 3 ≤ wr.heap.size := by have := H2.out.lt; omega
  obtain ⟨Ao, co, rfl⟩ := HO.out.len
  obtain ⟨Lo, hLo⟩ : ∃ Lo, (putK [] (dropL least (gs.take j))).length = Lo := ⟨_, rfl⟩
  rw [hLo] at HO H2
  clear hLo
  rcases Nat.eq_zero_or_pos gk with h | h
  ·obtain rfl : j = L := by omega
   have HE : Hid (gs.take j = gs) := Lib.hid (List.take_of_length_le (by rw [HL.out]; exact Nat.le_refl _))
   obtain ⟨r0, r1, r2, z0, z1, z2⟩ := H1.out.three
   obtain ⟨o0, o1, o2, _, _, _⟩ := H2.out.three
   obtain ⟨q0, q1, q2, _, _, _⟩ := H0.out.three
   go_wp2_with fail
   refine bodyPost_ret (v := .agg #[.int .i64 O, .int .i64 V, .slice Ao Lo co]) (by simp [results, Tryz.results72, go_sem, r0, r1, r2]) rfl ⟨_, rfl, ?_, below_box3 BEL.out (by omega) _ _ _⟩
   have := (((HO.out.setFar (p := ⟨w.heap.size + 1, 0, none⟩) (by show w.heap.size + 1 < w.heap.size + 3; omega) (.int .i64 O)).setFar (p := ⟨w.heap.size + 1, 1, none⟩) (by show w.heap.size + 1 < w.heap.size + 3; omega) (.int .i64 V)).setFar (p := ⟨w.heap.size + 1, 2, none⟩) (by show w.heap.size + 1 < w.heap.size + 3; omega) (.slice Ao Lo co)).at_
   rwa [HE.out] at this
  ·obtain ⟨gh, rfl⟩ : ∃ g, gk = g + 1 := ⟨gk - 1, by omega⟩
   obtain ⟨x, hx⟩ : ∃ x, gs[j]? = some x := ⟨_, List.getElem?_eq_getElem (by rw [HL.out]; omega)⟩
   obtain ⟨ba, oa, c0, rfl, hba, e0, e1, hi⟩ := HAT.out j x hx
   have d0 := (BEL.out.cell (p := ⟨ba, oa + j * 2, none⟩) hba).trans e0
   have d1 := (BEL.out.cell (p := ⟨ba, oa + j * 2 + 1, none⟩) hba).trans e1
   have HGX := Lib.hid (HG.out x (List.mem_of_getElem? hx))
   have HX2 := Lib.hid (take_succ_get _ hx)
   have HI := Lib.hid (hi.below BEL.out)
   obtain ⟨o0, o1, o2, z0, z1, z2⟩ := H2.out.three
   obtain ⟨q0, q1, q2, _, _, _⟩ := H0.out.three
   have hds := dropL_snoc least (gs.take j) x
   obtain ⟨N, hN⟩ : ∃ N, x.2 = N := ⟨_, rfl⟩
   have HNE := Lib.hid hN
   rw [hN] at d1 HGX hds
   by_cases hle : least ≤ N
   ·have dl : decide (least ≤ N) = true := decide_eq_true hle
    rw [if_pos hle] at hds
    have HX : Hid (putK [] (dropL least (gs.take (j + 1))) = putL (putK [] (dropL least (gs.take j))) x.1 N) := Lib.hid (by rw [HX2.out, hds, putK_snoc, hN])
    clear hx hi e0 e1 hN hds hle
    go_wp2_with fail
    have hS : wr.drew.cell? ⟨w.heap.size, 2, none⟩ = some (.slice (some ⟨ba, oa, none⟩) L c) ∧ wr.drew.cell? ⟨ba, oa + j * 2, none⟩ = some c0 ∧ wr.drew.cell? ⟨ba, oa + j * 2 + 1, none⟩ = some (.int .i64 N) := ⟨q2, d0, d1⟩
    have HS0 := Lib.hid hS
    clear o0 o1 q0 q1 q2 z0 z1 z2 hS
    refine wp_region_held_drew (S := fun w' => w'.cell? ⟨w.heap.size, 2, none⟩ = some (.slice (some ⟨ba, oa, none⟩) L c) ∧ w'.cell? ⟨ba, oa + j * 2, none⟩ = some (c0) ∧ w'.cell? ⟨ba, oa + j * 2 + 1, none⟩ = some (.int .i64 N)) (by kernel_rfl) HS0.out (fun hHeld => ?_)
    refine wpAnyH_take (i := 0) (v := ?_) rfl (by kernel_rfl) (by kernel_rfl) (by kernel_rfl) (fun _ _ _ h => h) (Or.inl ⟨by rfl, ?_⟩) (by assumption) ?_
    rotate_left
    ·(intro w' hSw; (try dsimp only at hSw); go_simp <;> with_reducible rfl)
    simp only [List.getElem_toArray, List.getElem_cons_succ, List.getElem_cons_zero, Act.put, List.setIfInBounds_toArray, List.set_cons_zero, List.set_cons_succ]
    refine wpAnyH_take (i := 2) (v := ?_) rfl (by kernel_rfl) (by kernel_rfl) (by kernel_rfl) (fun _ _ _ h => h) (Or.inl ⟨by rfl, ?_⟩) (by assumption) ?_
    rotate_left
    ·(intro w' hSw; (try dsimp only at hSw); go_simp <;> with_reducible rfl)
    simp only [List.getElem_toArray, List.getElem_cons_succ, List.getElem_cons_zero, Act.put, List.setIfInBounds_toArray, List.set_cons_zero, List.set_cons_succ]
    refine wpAnyH_take (i := 3) (v := ?_) rfl (by kernel_rfl) (by kernel_rfl) (by kernel_rfl) (fun _ _ _ h => h) (Or.inl ⟨by rfl, ?_⟩) (by assumption) ?_
    rotate_left
    ·(intro w' hSw; (try dsimp only at hSw); go_simp <;> with_reducible rfl)
    simp only [List.getElem_toArray, List.getElem_cons_succ, List.getElem_cons_zero, Act.put, List.setIfInBounds_toArray, List.set_cons_zero, List.set_cons_succ]
    refine wpAnyH_take (i := 4) (v := ?_) rfl (by kernel_rfl) (by kernel_rfl) (by kernel_rfl) (fun _ _ _ h => h) (Or.inl ⟨by rfl, ?_⟩) (by assumption) ?_
    rotate_left
    ·(intro w' hSw; (try dsimp only at hSw); go_simp <;> with_reducible rfl)
    simp only [List.getElem_toArray, List.getElem_cons_succ, List.getElem_cons_zero, Act.put, List.setIfInBounds_toArray, List.set_cons_zero, List.set_cons_succ]
    refine wpAnyH_take (i := 5) (v := ?_) rfl (by kernel_rfl) (by kernel_rfl) (by kernel_rfl) (fun _ _ _ h => h) (Or.inl ⟨by rfl, ?_⟩) (by assumption) ?_
    rotate_left
    ·(intro w' hSw; (try dsimp only at hSw); go_simp <;> with_reducible rfl)
    simp only [List.getElem_toArray, List.getElem_cons_succ, List.getElem_cons_zero, Act.put, List.setIfInBounds_toArray, List.set_cons_zero, List.set_cons_succ]
    refine wpAnyH_take (i := 6) (v := ?_) rfl (by kernel_rfl) (by kernel_rfl) (by kernel_rfl) (fun _ _ _ h => h) (Or.inl ⟨by rfl, ?_⟩) (by assumption) ?_
    rotate_left
    ·(intro w' hSw; (try dsimp only at hSw); go_simp <;> with_reducible rfl)
    simp only [List.getElem_toArray, List.getElem_cons_succ, List.getElem_cons_zero, Act.put, List.setIfInBounds_toArray, List.set_cons_zero, List.set_cons_succ]
    refine wpAnyH_take (i := 7) (v := ?_) rfl (by kernel_rfl) (by kernel_rfl) (by kernel_rfl) (fun _ _ _ h => h) (Or.inl ⟨by rfl, ?_⟩) (by assumption) ?_
    rotate_left
    ·(intro w' hSw; (try dsimp only at hSw); go_simp <;> with_reducible rfl)
    simp only [List.getElem_toArray, List.getElem_cons_succ, List.getElem_cons_zero, Act.put, List.setIfInBounds_toArray, List.set_cons_zero, List.set_cons_succ]
    refine wpAnyH_take (i := 8) (v := ?_) rfl (by kernel_rfl) (by kernel_rfl) (by kernel_rfl) (fun _ _ _ h => h) (Or.inl ⟨by rfl, ?_⟩) (by assumption) ?_
    rotate_left
    ·(intro w' hSw; (try dsimp only at hSw); go_simp <;> with_reducible rfl)
    simp only [List.getElem_toArray, List.getElem_cons_succ, List.getElem_cons_zero, Act.put, List.setIfInBounds_toArray, List.set_cons_zero, List.set_cons_succ]
    refine wpAnyH_take (i := 9) (v := ?_) rfl (by kernel_rfl) (by kernel_rfl) (by kernel_rfl) (fun _ _ _ h => h) (Or.inl ⟨by rfl, ?_⟩) (by assumption) ?_
    rotate_left
    ·(intro w' hSw; (try dsimp only at hSw); go_simp <;> with_reducible rfl)
    simp only [List.getElem_toArray, List.getElem_cons_succ, List.getElem_cons_zero, Act.put, List.setIfInBounds_toArray, List.set_cons_zero, List.set_cons_succ]
    refine wpAnyH_take (i := 10) (v := ?_) rfl (by kernel_rfl) (by kernel_rfl) (by kernel_rfl) (fun _ _ _ h => h) (Or.inl ⟨by rfl, ?_⟩) (by assumption) ?_
    rotate_left
    ·(intro w' hSw; (try dsimp only at hSw); go_simp <;> with_reducible rfl)
    simp only [List.getElem_toArray, List.getElem_cons_succ, List.getElem_cons_zero, Act.put, List.setIfInBounds_toArray, List.set_cons_zero, List.set_cons_succ]
    refine wpAnyH_take (i := 11) (v := ?_) rfl (by kernel_rfl) (by kernel_rfl) (by kernel_rfl) (fun _ _ _ h => h) (Or.inl ⟨by rfl, ?_⟩) (by assumption) ?_
    rotate_left
    ·(intro w' hSw; (try dsimp only at hSw); go_simp <;> with_reducible rfl)
    simp only [List.getElem_toArray, List.getElem_cons_succ, List.getElem_cons_zero, Act.put, List.setIfInBounds_toArray, List.set_cons_zero, List.set_cons_succ]
    refine wpAnyH_take (i := 12) (v := ?_) rfl (by kernel_rfl) (by kernel_rfl) (by kernel_rfl) (fun _ _ _ h => h) (Or.inl ⟨by rfl, ?_⟩) (by assumption) ?_
    rotate_left
    ·(intro w' hSw; (try dsimp only at hSw); go_simp <;> with_reducible rfl)
    simp only [List.getElem_toArray, List.getElem_cons_succ, List.getElem_cons_zero, Act.put, List.setIfInBounds_toArray, List.set_cons_zero, List.set_cons_succ]
    refine wpAnyH_take (i := 13) (v := ?_) rfl (by kernel_rfl) (by kernel_rfl) (by kernel_rfl) (fun _ _ _ h => h) (Or.inl ⟨by rfl, ?_⟩) (by assumption) ?_
    rotate_left
    ·(intro w' hSw; (try dsimp only at hSw); go_simp <;> with_reducible rfl)
    simp only [List.getElem_toArray, List.getElem_cons_succ, List.getElem_cons_zero, Act.put, List.setIfInBounds_toArray, List.set_cons_zero, List.set_cons_succ]
    refine wpAnyH_ready (rs := [1]) (by kernel_rfl) (by simp) ?_
    refine AllReadyH.cons rfl (fun K hK => ?_) AllReadyH.nil
    have o2' : wr.drew.cell? ⟨w.heap.size + 1 + 1, 2, none⟩ = some (.slice Ao Lo co) := o2
    go_simp
    refine hK.out _ _ HS0.out (fun hHeld => ?_)
    clear hK K o2' o2
    try simp only [List.getElem_toArray, List.getElem_cons_succ, List.getElem_cons_zero, Act.put, List.setIfInBounds_toArray, List.set_cons_zero, List.set_cons_succ]
    refine wpAnyH_ready (rs := [14]) (by kernel_rfl) (by simp) ?_
    refine AllReadyH.cons rfl (fun K hK => ?_) AllReadyH.nil
    go_simp
    refine (putG (w.heap.size + 3) wr.drew _ (c0) _ (x.1) N (HO.out.below (below_drew_self _)) (HI.out.below (below_drew_self _)) (fun g hg => by rw [(HGP.out.2 g hg).1, HGX.out.1]) (by have := HGX.out.2; omega) (fun g hg => by have := HGP.out.2 g hg; omega) (by have := HGP.out.1; omega) (by rw [HGX.out.1]; omega) (by show w.heap.size + 3 ≤ wr.heap.size; exact hwz)).mono ?_
    rintro e w5 ⟨lv5, rfl, t5, hg5, hx5⟩
    obtain ⟨A5, c5, rfl⟩ := t5.len
    have O5 := Lib.hid t5
    have Y2 := Lib.hid (H2.out.drew.grown hg5 (HO.out.ne_box H2.out))
    have Y1 := Lib.hid (H1.out.drew.grown hg5 (HO.out.ne_box H1.out))
    have Y0 := Lib.hid (H0.out.drew.grown hg5 (HO.out.ne_box H0.out))
    have B5 := Lib.hid (below_of_drew' ((Below.refl (w.heap.size + 3) wr.drew).grown hg5 (by show w.heap.size + 3 ≤ wr.heap.size; exact hwz) (own_block_le HO.out.from_)))
    have HS5 := Lib.hid (And.intro (Y0.out.cell 2) (And.intro ((B5.out.cell (p := ⟨ba, oa + j * 2, none⟩) (by show ba < w.heap.size + 3; omega)).trans d0) ((B5.out.cell (p := ⟨ba, oa + j * 2 + 1, none⟩) (by show ba < w.heap.size + 3; omega)).trans d1)))
    clear t5 hg5 hx5 hHeld HS0
    try go_simp
    refine hK.out _ _ HS5.out (fun hHeld => ?_)
    clear hK K
    try simp only [List.getElem_toArray, List.getElem_cons_succ, List.getElem_cons_zero, Act.put, List.setIfInBounds_toArray, List.set_cons_zero, List.set_cons_succ]
    refine wpAnyH_take (i := 15) (v := ?_) rfl (by kernel_rfl) (by kernel_rfl) (by kernel_rfl) (fun _ _ _ h => h) (Or.inl ⟨by rfl, ?_⟩) (by assumption) ?_
    rotate_left
    ·(intro w' hSw; (try dsimp only at hSw); go_simp <;> with_reducible rfl)
    simp only [List.getElem_toArray, List.getElem_cons_succ, List.getElem_cons_zero, Act.put, List.setIfInBounds_toArray, List.set_cons_zero, List.set_cons_succ]
    refine wpAnyH_ready (rs := [16]) (by kernel_rfl) (by simp) ?_
    refine AllReadyH.cons rfl (fun K hK => ?_) AllReadyH.nil
    obtain ⟨o0, o1, o2, z0, z1, z2⟩ := Y2.out.three
    go_simp
    have HS6 := Lib.hid (And.intro ((Y0.out.far (p := ⟨w.heap.size + 1 + 1, 2, none⟩) (by show w.heap.size ≠ w.heap.size + 1 + 1; omega) (.slice A5 (putL (putK [] (dropL least (gs.take j))) x.1 N).length c5)).cell 2) (And.intro ((World.cell?_setCell_far w5 ⟨w.heap.size + 1 + 1, 2, none⟩ ⟨ba, oa + j * 2, none⟩ (.slice A5 (putL (putK [] (dropL least (gs.take j))) x.1 N).length c5) (by show w.heap.size + 1 + 1 ≠ ba; omega)).trans HS5.out.2.1) ((World.cell?_setCell_far w5 ⟨w.heap.size + 1 + 1, 2, none⟩ ⟨ba, oa + j * 2 + 1, none⟩ (.slice A5 (putL (putK [] (dropL least (gs.take j))) x.1 N).length c5) (by show w.heap.size + 1 + 1 ≠ ba; omega)).trans HS5.out.2.2)))
    refine hK.out _ _ HS6.out (fun hHeld => ?_)
    clear hK K hHeld HS6 HS5 o0 o1 o2 z0 z1 z2
    try simp only [List.getElem_toArray, List.getElem_cons_succ, List.getElem_cons_zero, Act.put, List.setIfInBounds_toArray, List.set_cons_zero, List.set_cons_succ]
    refine wpAnyH_done (by kernel_rfl) ?_ _
    go_wp2_with fail
    go_roundg gh
    case measure => omega
    case rel => exact ⟨j + 1, _, rfl, by omega, Lib.hid (by rw [HX.out]; exact HGP.out.put HGX.out.1 HGX.out.2), Lib.hid (by rw [HX.out]; exact O5.out.setFar (p := ⟨w.heap.size + 1 + 1, 2, none⟩) (by show w.heap.size + 1 + 1 < w.heap.size + 3; omega) _), Lib.hid (Y2.out.set_ 2 _), Lib.hid (Y1.out.far (p := ⟨w.heap.size + 1 + 1, 2, none⟩) (by show w.heap.size + 1 ≠ w.heap.size + 1 + 1; omega) _), Lib.hid (Y0.out.far (p := ⟨w.heap.size + 1 + 1, 2, none⟩) (by show w.heap.size ≠ w.heap.size + 1 + 1; omega) _), Lib.hid ((BEL.out.trans (B5.out.mono (by omega))).setCell (p := ⟨w.heap.size + 1 + 1, 2, none⟩) (by show w.heap.size ≤ w.heap.size + 1 + 1; omega) _)⟩
   ·have dl : decide (least ≤ N) = false := decide_eq_false hle
    rw [if_neg hle, List.append_nil] at hds
    have HX : Hid (dropL least (gs.take (j + 1)) = dropL least (gs.take j)) := Lib.hid (by rw [HX2.out, hds])
    clear hx hi e0 e1 hN hds hle
    go_wp2_with fail
    go_roundg gh
    case measure => omega
    case rel => exact ⟨j + 1, _, rfl, by omega, Lib.hid (by rw [HX.out]; exact HGP.out.mono (by omega)), Lib.hid (by rw [HX.out]; exact HO.out), H2, H1, H0, BEL⟩

def smallB (V : Int) (gs : List Gr) : Bool := decide (gs.length ≤ 60) && decide (V ≤ 8) && gs.all fun g => decide (g.1.length ≤ 10)
set_option maxRecDepth 1000000 in
set_option maxHeartbeats 8000000 in
theorem smallG (w : World) (O V : Int) (A : Option Addr) (c L : Nat) (gs : List Gr) (h : GramsAt w (.slice A L c) gs) (hL : gs.length = L) :
  Calls Tryz.prog 67 #[.agg #[.int .i64 O, .int .i64 V, .slice A L c]] w fun e w' => e = .returned (.bool (smallB V gs)) ∧ Below w.heap.size w w' := by
 obtain ⟨_, _, e, hlc, hcm, hat⟩ := h.open_
 injection e with e1 e2 e3
 subst e1
 have HAT := Lib.hid hat
 have HL := Lib.hid hL
 rw [hL] at hlc
 clear h hat hL e2 e3
 by_cases h1 : L ≤ 60
 ·have d1 : decide ((60 : Int) < (L : Int)) = false := decide_eq_false (by omega)
  by_cases h2 : V ≤ 8
  ·have d2 : decide ((8 : Int) < V) = false := decide_eq_false (by omega)
   have HS : Hid (smallB V gs = (gs.drop 0).all fun g => decide (g.1.length ≤ 10)) := Lib.hid (by unfold smallB; rw [HL.out, decide_eq_true h1, decide_eq_true h2]; rfl)
   go_enter Tryz.func67, Tryz.ntmps67
   go_wp2_with fail
   obtain ⟨W, hW, P0, PB, Phs⟩ := box1 w 27 [.int .i64 O, .int .i64 V, .slice A L c]
   rw [← hW]
   clear hW
   go_loopg [3] L (fun g i wr => ∃ (j : Nat), wr = W ∧ i = .int .i64 j ∧ j + g = L ∧ Hid (smallB V gs = (gs.drop j).all fun g => decide (g.1.length ≤ 10)))
   case atStart => exact ⟨0, rfl, rfl, by omega, HS⟩
   case round =>
    obtain ⟨j, rfl, rfl, hj, HQ⟩ := hrel
    obtain ⟨p0, p1, p2, _, _, _⟩ := P0.out.three
    rcases Nat.eq_zero_or_pos gk with h | h
    ·obtain rfl : j = L := by omega
     have HT : Hid (smallB V gs = true) := Lib.hid (by rw [HQ.out, List.drop_eq_nil_of_le (by rw [HL.out]; exact Nat.le_refl _)]; rfl)
     go_wp2_with fail
     go_ret
     exact ⟨ret_bool HT.out.symm, PB.out⟩
    ·obtain ⟨g, rfl⟩ : ∃ g, gk = g + 1 := ⟨gk - 1, by omega⟩
     obtain ⟨x, hx⟩ : ∃ x, gs[j]? = some x := ⟨_, List.getElem?_eq_getElem (by rw [HL.out]; omega)⟩
     obtain ⟨ba, oa, c0, rfl, hba, e0, _, hi⟩ := HAT.out j x hx
     obtain ⟨Ai, ci, rfl, _, _, _⟩ := hi.open_
     have d0 := (PB.out.cell (p := ⟨ba, oa + j * 2, none⟩) hba).trans e0
     have ST := Lib.hid (HQ.out.trans (all_step hx))
     obtain ⟨p, hp⟩ : ∃ p, x.1.length = p := ⟨_, rfl⟩
     rw [hp] at ST d0
     clear hx hi e0 hp
     by_cases h3 : p ≤ 10
     ·have d3 : decide ((10 : Int) < (p : Int)) = false := decide_eq_false (by omega)
      have HT : Hid (smallB V gs = (gs.drop (j + 1)).all fun g => decide (g.1.length ≤ 10)) := Lib.hid (by rw [ST.out, decide_eq_true h3]; rfl)
      clear h3
      go_wp2_with fail
      go_roundg g
      case measure => omega
      case rel => exact ⟨j + 1, rfl, rfl, by omega, HT⟩
     ·have d3 : decide ((10 : Int) < (p : Int)) = true := decide_eq_true (by omega)
      have HT : Hid (smallB V gs = false) := Lib.hid (by rw [ST.out, decide_eq_false h3]; rfl)
      clear h3
      go_wp2_with fail
      go_ret
      exact ⟨ret_bool HT.out.symm, PB.out⟩
  ·have d2 : decide ((8 : Int) < V) = true := decide_eq_true (by omega)
   have HT : Hid (smallB V gs = false) := Lib.hid (by unfold smallB; rw [decide_eq_false h2, Bool.and_false]; rfl)
   clear h2
   go_enter Tryz.func67, Tryz.ntmps67
   go_wp2_with fail
   go_ret
   exact ⟨ret_bool HT.out.symm, (Below.refl _ w).alloc (Nat.le_refl _) _⟩
 ·have d1 : decide ((60 : Int) < (L : Int)) = true := decide_eq_true (by omega)
  have HT : Hid (smallB V gs = false) := Lib.hid (by unfold smallB; rw [HL.out, decide_eq_false h1]; rfl)
  clear h1
  go_enter Tryz.func67, Tryz.ntmps67
  go_wp2_with fail
  go_ret
  exact ⟨ret_bool HT.out.symm, (Below.refl _ w).alloc (Nat.le_refl _) _⟩

def mostL (gs : List Gr) : Int := gs.foldl (fun a g => max a g.2) 0
set_option maxRecDepth 1000000 in
set_option maxHeartbeats 8000000 in
theorem greatestR (w : World) (O V : Int) (A : Option Addr) (c L : Nat) (gs : List Gr) (h : GramsAt w (.slice A L c) gs) (hL : gs.length = L) :
  Calls Tryz.prog 69 #[.agg #[.int .i64 O, .int .i64 V, .slice A L c]] w fun e w' => e = .returned (.int .i64 (mostL gs)) ∧ Below w.heap.size w w' := by
 obtain ⟨_, _, e, hlc, hcm, hat⟩ := h.open_
 injection e with e1 e2 e3
 subst e1
 have HAT := Lib.hid hat
 have HL := Lib.hid hL
 rw [hL] at hlc
 clear h hat hL e2 e3
 go_enter Tryz.func69, Tryz.ntmps69
 go_wp2_with fail
 obtain ⟨W, hW, P0, PB, Phs⟩ := box1 w 27 [.int .i64 O, .int .i64 V, .slice A L c]
 rw [← hW]
 clear hW
 go_loopg [3, 4] L (fun g s i wr => ∃ (j : Nat) (sj : Int), wr = W ∧ s = .int .i64 sj ∧ i = .int .i64 j ∧ j + g = L ∧ Hid (sj = mostL (gs.take j)))
 case atStart => exact ⟨0, 0, rfl, rfl, rfl, by omega, Lib.hid rfl⟩
 case round =>
  obtain ⟨j, sj, rfl, rfl, rfl, hj, HQ⟩ := hrel
  obtain ⟨p0, p1, p2, _, _, _⟩ := P0.out.three
  rcases Nat.eq_zero_or_pos gk with h | h
  ·obtain rfl : j = L := by omega
   have HT : Hid (sj = mostL gs) := Lib.hid (by rw [HQ.out, List.take_of_length_le (by rw [HL.out]; exact Nat.le_refl _)])
   go_wp2_with fail
   go_ret
   exact ⟨by rw [← HT.out]; rfl, PB.out⟩
  ·obtain ⟨g, rfl⟩ : ∃ g, gk = g + 1 := ⟨gk - 1, by omega⟩
   obtain ⟨x, hx⟩ : ∃ x, gs[j]? = some x := ⟨_, List.getElem?_eq_getElem (by rw [HL.out]; omega)⟩
   obtain ⟨ba, oa, c0, rfl, hba, _, e1, _⟩ := HAT.out j x hx
   have d1 := (PB.out.cell (p := ⟨ba, oa + j * 2 + 1, none⟩) hba).trans e1
   have HT : Hid (max sj x.2 = mostL (gs.take (j + 1))) := Lib.hid (by
    rw [take_succ_get _ hx, HQ.out]
    unfold mostL
    rw [List.foldl_append]
    rfl)
   clear hx e1
   go_wp2_with fail
   go_roundg g
   case measure => omega
   case rel => exact ⟨j + 1, _, rfl, rfl, rfl, by omega, HT⟩
end Go.Proofs.YtjebfdfkjlkifaaGreat
