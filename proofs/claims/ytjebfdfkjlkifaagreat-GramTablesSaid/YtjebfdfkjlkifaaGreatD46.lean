/- Lemmas on the way: Pl1. -/
import Derived.Test.YtjebfdfkjlkifaaGreatD45
set_option linter.unusedSimpArgs false
set_option linter.unusedVariables false
set_option linter.unusedSectionVars false
set_option linter.unnecessarySimpa false
namespace Go.Proofs.YtjebfdfkjlkifaaGreat
open Go.RowKit
def putK (t l : List Gr) : List Gr := l.foldl (fun t e => putL t e.1 e.2) t
theorem putK_snoc (t l : List Gr) (e : Gr) : putK t (l ++ [e]) = putL (putK t l) e.1 e.2 := by simp [putK]
theorem IntsAt.setSl {w : World} {v : Value} {l : List Int} (h : IntsAt w v l) {p : Addr} {A : Option Addr} {n c : Nat} (hp : w.cell? p = some (.slice A n c)) (u : Value) : IntsAt (w.setCell p u) v l := by
 obtain ⟨q0, A', c', rfl, q2, q3, q5⟩ := h
 refine ⟨q0, A', c', rfl, q2, q3, fun hn => ?_⟩
 obtain ⟨b, off, e, hlt, hc⟩ := q5 hn
 refine ⟨b, off, e, by simpa [World.setCell] using hlt, fun j x hx => ?_⟩
 have h1 := hc j x hx
 have hne : p ≠ ⟨b, off + j, none⟩ := by
  rintro rfl
  rw [h1] at hp
  obtain ⟨i, rfl⟩ : ∃ i, x = .int .i64 i := by
   rw [List.getElem?_map] at hx
   cases hl : l[j]? with
   | none => rw [hl] at hx; cases hx
   | some i => rw [hl] at hx; cases hx; exact ⟨i, rfl⟩
  cases hp
 rw [World.cell?_setCell_other w p _ u hne]; exact h1
theorem GOwn.setBox {base : Nat} {w : World} {v : Value} {gs : List Gr} (h : GOwn base w v gs) {ob : Nat} {x y : Value} {A : Option Addr} {n c : Nat} (hb : Blk w ob 27 [x, y, .slice A n c]) (u : Value) : GOwn base (w.setCell ⟨ob, 2, none⟩ u) v gs := by
 obtain ⟨cells, ⟨h0, h1⟩, h2⟩ := h
 refine ⟨cells, ⟨h0, ?_⟩, fun i g hg => ?_⟩
 ·rcases h1 with h1 | ⟨g, cap, cur, hv, hg, hh, hr⟩
  ·exact .inl h1
  ·refine .inr ⟨g, cap, cur, hv, hg, (Below.heap_setCell w ⟨ob, 2, none⟩ u g (fun e => ?_)).trans hh, hr⟩
   simp only at e
   subst e
   unfold Blk at hb
   rw [hh] at hb
   simp at hb
 ·obtain ⟨c0, e0, e1, e2, e3, e4⟩ := h2 i g hg
  exact ⟨c0, e0, e1, e2.setSl (hb.cell 2) u, e3, e4⟩
theorem GOwn.ne_box {base : Nat} {w : World} {v : Value} {gs : List Gr} (h : GOwn base w v gs) {ob : Nat} {xs : List Value} (hb : Blk w ob 27 xs) : some ob ≠ v.ownBlock := by
 obtain ⟨cells, ⟨h0, h1⟩, h2⟩ := h
 intro e
 rcases h1 with ⟨rfl, _⟩ | ⟨g, cap, cur, rfl, hg, hh, hr⟩
 ·cases e
 ·cases e
  unfold Blk at hb
  rw [hh] at hb
  simp at hb
def GoodP (n K : Nat) (gs : List Gr) : Prop := gs.length ≤ K ∧ ∀ g ∈ gs, g.1.length = n ∧ 0 ≤ g.2 ∧ g.2 ≤ (K : Int) * 1073741824
theorem GoodP.nil_ (n : Nat) : GoodP n 0 [] := ⟨by simp, by simp⟩
theorem GoodP.put {n K : Nat} {gs : List Gr} {ws : List Int} {x : Int} (h : GoodP n K gs) (hw : ws.length = n) (hx : 0 ≤ x ∧ x ≤ 1073741824) : GoodP n (K + 1) (putL gs ws x) := by
 refine ⟨by have := putL_length gs ws x; have := h.1; omega, fun g hg => ?_⟩
 rcases putL_mem hg with h' | rfl | ⟨y, hy, rfl⟩
 ·have := h.2 g h'; exact ⟨this.1, this.2.1, by omega⟩
 ·exact ⟨hw, hx.1, by show x ≤ _; omega⟩
 ·have := h.2 y hy; exact ⟨this.1, by show 0 ≤ y.2 + x; omega, by show y.2 + x ≤ _; omega⟩

set_option maxRecDepth 1000000 in
set_option maxHeartbeats 8000000 in
theorem copiedG (w : World) (O V : Int) (A : Option Addr) (c L n : Nat) (gs : List Gr) (h : GramsAt w (.slice A L c) gs) (hL : gs.length = L) (hg : ∀ g ∈ gs, g.1.length = n ∧ 0 ≤ g.2 ∧ g.2 ≤ 1073741824) (hl : L ≤ 500) (hn : n ≤ 1000) :
  Calls Tryz.prog 131 #[.agg #[.int .i64 O, .int .i64 V, .slice A L c]] w fun e w' => ∃ lv, e = .returned (.agg #[.int .i64 O, .int .i64 V, lv]) ∧ GOwn w.heap.size w' lv (putK [] gs) ∧ GoodP n L (putK [] gs) ∧ Below w.heap.size w w' := by
 obtain ⟨_, _, e, hlc, hcm, hat⟩ := h.open_
 injection e with e1 e2 e3
 subst e1
 have HAT := Lib.hid hat
 have HG := Lib.hid hg
 have HL := Lib.hid hL
 rw [hL] at hlc
 clear h hat hg hL e2 e3
 go_enter Tryz.func131, Tryz.ntmps131
 go_wp2_with fail
 obtain ⟨W, hW, P0, P1, P2, PB, Phs⟩ := box3 w 27 [.int .i64 O, .int .i64 V, .slice A L c] 27 [.int .i64 0, .int .i64 0, .slice none 0 0] 27 [.int .i64 O, .int .i64 V, .slice none 0 0]
 rw [← hW]
 clear hW
 go_loopg [4] L (fun gh i wr => ∃ (j : Nat) (lv : Value), i = .int .i64 j ∧ j + gh = L ∧ Hid (GoodP n j (putK [] (gs.take j))) ∧ Hid (GOwn (w.heap.size + 3) wr lv (putK [] (gs.take j))) ∧ Hid (Blk wr (w.heap.size + 1 + 1) 27 [.int .i64 O, .int .i64 V, lv]) ∧
   Hid (Blk wr (w.heap.size + 1) 27 [.int .i64 0, .int .i64 0, .slice none 0 0]) ∧ Hid (Blk wr w.heap.size 27 [.int .i64 O, .int .i64 V, .slice A L c]) ∧ Hid (Below w.heap.size w wr))
 case atStart => exact ⟨0, .slice none 0 0, rfl, by omega, Lib.hid (GoodP.nil_ n), Lib.hid (GOwn.nil_ _ _), P2, P1, P0, PB⟩
 case round =>
  clear P0 P1 P2 PB
  obtain ⟨j, lv, rfl, hj, HGP, HO, H2, H1, H0, BEL⟩ := hrel
  have hwz : w.heap.size + 3 ≤ wr.heap.size := by have := H2.out.lt; omega
  obtain ⟨Ao, co, rfl⟩ := HO.out.len
  obtain ⟨Lo, hLo⟩ : ∃ Lo, (putK [] (gs.take j)).length = Lo := ⟨_, rfl⟩
  rw [hLo] at HO H2
  clear hLo
  rcases Nat.eq_zero_or_pos gk with h | h
  ·obtain rfl : j = L := by omega
   have HE : Hid (gs.take j = gs) := Lib.hid (List.take_of_length_le (by rw [HL.out]; exact Nat.le_refl _))
   obtain ⟨r0, r1, r2, z0, z1, z2⟩ := H1.out.three
   obtain ⟨o0, o1, o2, _, _, _⟩ := H2.out.three
   obtain ⟨q0, q1, q2, _, _, _⟩ := H0.out.three
   go_wp2_with fail
   refine bodyPost_ret (v := .agg #[.int .i64 O, .int .i64 V, .slice Ao Lo co]) (by simp [results, Tryz.results131, go_sem, r0, r1, r2]) rfl ⟨_, rfl, ?_, ?_, below_box3 BEL.out (by omega) _ _ _⟩
   ·have := (((HO.out.setFar (p := ⟨w.heap.size + 1, 0, none⟩) (by show w.heap.size + 1 < w.heap.size + 3; omega) (.int .i64 O)).setFar (p := ⟨w.heap.size + 1, 1, none⟩) (by show w.heap.size + 1 < w.heap.size + 3; omega) (.int .i64 V)).setFar (p := ⟨w.heap.size + 1, 2, none⟩) (by show w.heap.size + 1 < w.heap.size + 3; omega) (.slice Ao Lo co)).mono (show w.heap.size ≤ w.heap.size + 3 by omega)
    rwa [HE.out] at this
   ·have := HGP.out
    rwa [HE.out] at this
  ·obtain ⟨gh, rfl⟩ : ∃ g, gk = g + 1 := ⟨gk - 1, by omega⟩
   obtain ⟨x, hx⟩ : ∃ x, gs[j]? = some x := ⟨_, List.getElem?_eq_getElem (by rw [HL.out]; omega)⟩
   obtain ⟨ba, oa, c0, rfl, hba, e0, e1, hi⟩ := HAT.out j x hx
   have d0 := (BEL.out.cell (p := ⟨ba, oa + j * 2, none⟩) hba).trans e0
   have d1 := (BEL.out.cell (p := ⟨ba, oa + j * 2 + 1, none⟩) hba).trans e1
   have hgx := HG.out x (List.mem_of_getElem? hx)
   have HGX := Lib.hid hgx
   have HX := Lib.hid (putK_snoc [] (gs.take j) x)
   have HX2 := Lib.hid (take_succ_get _ hx)
   have HI := Lib.hid (hi.below BEL.out)
   obtain ⟨o0, o1, o2, z0, z1, z2⟩ := H2.out.three
   obtain ⟨q0, q1, q2, _, _, _⟩ := H0.out.three
   obtain ⟨N, hN⟩ : ∃ N, x.2 = N := ⟨_, rfl⟩
   have HNE := Lib.hid hN
   rw [hN] at d1 HX HGX hgx
   clear hx hi e0 e1 hN
   go_wp2_with fail
   have hS : wr.drew.cell? ⟨w.heap.size, 2, none⟩ = some (.slice (some ⟨ba, oa, none⟩) L c) ∧ wr.drew.cell? ⟨ba, oa + j * 2, none⟩ = some c0 ∧ wr.drew.cell? ⟨ba, oa + j * 2 + 1, none⟩ = some (.int .i64 N) := ⟨q2, d0, d1⟩
   have HS0 := Lib.hid hS
   clear o0 o1 q0 q1 q2 z0 z1 z2 hS
   refine wp_region_held_drew (S := fun w' => w'.cell? ⟨w.heap.size, 2, none⟩ = some (.slice (some ⟨ba, oa, none⟩) L c) ∧ w'.cell? ⟨ba, oa + j * 2, none⟩ = some c0 ∧ w'.cell? ⟨ba, oa + j * 2 + 1, none⟩ = some (.int .i64 N)) (by kernel_rfl) HS0.out (fun hHeld => ?_)
   refine wpAnyH_take (i := 0) (v := ?_) rfl (by kernel_rfl) (by kernel_rfl) (by kernel_rfl) (fun _ _ _ h => h) (Or.inl ⟨by rfl, ?_⟩) (by assumption) ?_
   rotate_left
   ·(intro w' hSw; (try dsimp only at hSw); go_simp <;> with_reducible rfl)
   simp only [List.getElem_toArray, List.getElem_cons_succ, List.getElem_cons_zero, Act.put, List.setIfInBounds_toArray, List.set_cons_zero, List.set_cons_succ]
   refine wpAnyH_take (i := 2) (v := ?_) rfl (by kernel_rfl) (by kernel_rfl) (by kernel_rfl) (fun _ _ _ h => h) (Or.inl ⟨by rfl, ?_⟩) (by assumption) ?_
   rotate_left
   ·(intro w' hSw; (try dsimp only at hSw); go_simp <;> with_reducible rfl)
   simp only [List.getElem_toArray, List.getElem_cons_succ, List.getElem_cons_zero, Act.put, List.setIfInBounds_toArray, List.set_cons_zero, List.set_cons_succ]
   refine wpAnyH_take (i := 3) (v := ?_) rfl (by kernel_rfl) (by kernel_rfl) (by kernel_rfl) (fun _ _ _ h => h) (Or.inl ⟨by rfl, ?_⟩) (by assumption) ?_
   rotate_left
   ·(intro w' hSw; (try dsimp only at hSw); go_simp <;> with_reducible rfl)
   simp only [List.getElem_toArray, List.getElem_cons_succ, List.getElem_cons_zero, Act.put, List.setIfInBounds_toArray, List.set_cons_zero, List.set_cons_succ]
   refine wpAnyH_take (i := 4) (v := ?_) rfl (by kernel_rfl) (by kernel_rfl) (by kernel_rfl) (fun _ _ _ h => h) (Or.inl ⟨by rfl, ?_⟩) (by assumption) ?_
   rotate_left
   ·(intro w' hSw; (try dsimp only at hSw); go_simp <;> with_reducible rfl)
   simp only [List.getElem_toArray, List.getElem_cons_succ, List.getElem_cons_zero, Act.put, List.setIfInBounds_toArray, List.set_cons_zero, List.set_cons_succ]
   refine wpAnyH_take (i := 5) (v := ?_) rfl (by kernel_rfl) (by kernel_rfl) (by kernel_rfl) (fun _ _ _ h => h) (Or.inl ⟨by rfl, ?_⟩) (by assumption) ?_
   rotate_left
   ·(intro w' hSw; (try dsimp only at hSw); go_simp <;> with_reducible rfl)
   simp only [List.getElem_toArray, List.getElem_cons_succ, List.getElem_cons_zero, Act.put, List.setIfInBounds_toArray, List.set_cons_zero, List.set_cons_succ]
   refine wpAnyH_take (i := 6) (v := ?_) rfl (by kernel_rfl) (by kernel_rfl) (by kernel_rfl) (fun _ _ _ h => h) (Or.inl ⟨by rfl, ?_⟩) (by assumption) ?_
   rotate_left
   ·(intro w' hSw; (try dsimp only at hSw); go_simp <;> with_reducible rfl)
   simp only [List.getElem_toArray, List.getElem_cons_succ, List.getElem_cons_zero, Act.put, List.setIfInBounds_toArray, List.set_cons_zero, List.set_cons_succ]
   refine wpAnyH_take (i := 7) (v := ?_) rfl (by kernel_rfl) (by kernel_rfl) (by kernel_rfl) (fun _ _ _ h => h) (Or.inl ⟨by rfl, ?_⟩) (by assumption) ?_
   rotate_left
   ·(intro w' hSw; (try dsimp only at hSw); go_simp <;> with_reducible rfl)
   simp only [List.getElem_toArray, List.getElem_cons_succ, List.getElem_cons_zero, Act.put, List.setIfInBounds_toArray, List.set_cons_zero, List.set_cons_succ]
   refine wpAnyH_take (i := 8) (v := ?_) rfl (by kernel_rfl) (by kernel_rfl) (by kernel_rfl) (fun _ _ _ h => h) (Or.inl ⟨by rfl, ?_⟩) (by assumption) ?_
   rotate_left
   ·(intro w' hSw; (try dsimp only at hSw); go_simp <;> with_reducible rfl)
   simp only [List.getElem_toArray, List.getElem_cons_succ, List.getElem_cons_zero, Act.put, List.setIfInBounds_toArray, List.set_cons_zero, List.set_cons_succ]
   refine wpAnyH_take (i := 9) (v := ?_) rfl (by kernel_rfl) (by kernel_rfl) (by kernel_rfl) (fun _ _ _ h => h) (Or.inl ⟨by rfl, ?_⟩) (by assumption) ?_
   rotate_left
   ·(intro w' hSw; (try dsimp only at hSw); go_simp <;> with_reducible rfl)
   simp only [List.getElem_toArray, List.getElem_cons_succ, List.getElem_cons_zero, Act.put, List.setIfInBounds_toArray, List.set_cons_zero, List.set_cons_succ]
   refine wpAnyH_take (i := 10) (v := ?_) rfl (by kernel_rfl) (by kernel_rfl) (by kernel_rfl) (fun _ _ _ h => h) (Or.inl ⟨by rfl, ?_⟩) (by assumption) ?_
   rotate_left
   ·(intro w' hSw; (try dsimp only at hSw); go_simp <;> with_reducible rfl)
   simp only [List.getElem_toArray, List.getElem_cons_succ, List.getElem_cons_zero, Act.put, List.setIfInBounds_toArray, List.set_cons_zero, List.set_cons_succ]
   refine wpAnyH_take (i := 11) (v := ?_) rfl (by kernel_rfl) (by kernel_rfl) (by kernel_rfl) (fun _ _ _ h => h) (Or.inl ⟨by rfl, ?_⟩) (by assumption) ?_
   rotate_left
   ·(intro w' hSw; (try dsimp only at hSw); go_simp <;> with_reducible rfl)
   simp only [List.getElem_toArray, List.getElem_cons_succ, List.getElem_cons_zero, Act.put, List.setIfInBounds_toArray, List.set_cons_zero, List.set_cons_succ]
   refine wpAnyH_take (i := 12) (v := ?_) rfl (by kernel_rfl) (by kernel_rfl) (by kernel_rfl) (fun _ _ _ h => h) (Or.inl ⟨by rfl, ?_⟩) (by assumption) ?_
   rotate_left
   ·(intro w' hSw; (try dsimp only at hSw); go_simp <;> with_reducible rfl)
   simp only [List.getElem_toArray, List.getElem_cons_succ, List.getElem_cons_zero, Act.put, List.setIfInBounds_toArray, List.set_cons_zero, List.set_cons_succ]
   refine wpAnyH_take (i := 13) (v := ?_) rfl (by kernel_rfl) (by kernel_rfl) (by kernel_rfl) (fun _ _ _ h => h) (Or.inl ⟨by rfl, ?_⟩) (by assumption) ?_
   rotate_left
   ·(intro w' hSw; (try dsimp only at hSw); go_simp <;> with_reducible rfl)
   simp only [List.getElem_toArray, List.getElem_cons_succ, List.getElem_cons_zero, Act.put, List.setIfInBounds_toArray, List.set_cons_zero, List.set_cons_succ]
   refine wpAnyH_ready (rs := [1]) (by kernel_rfl) (by simp) ?_
   refine AllReadyH.cons rfl (fun K hK => ?_) AllReadyH.nil
   have o2' : wr.drew.cell? ⟨w.heap.size + 1 + 1, 2, none⟩ = some (.slice Ao Lo co) := o2
   go_simp
   refine hK.out _ _ HS0.out (fun hHeld => ?_)
   clear hK K o2' o2
   try simp only [List.getElem_toArray, List.getElem_cons_succ, List.getElem_cons_zero, Act.put, List.setIfInBounds_toArray, List.set_cons_zero, List.set_cons_succ]
   refine wpAnyH_ready (rs := [14]) (by kernel_rfl) (by simp) ?_
   refine AllReadyH.cons rfl (fun K hK => ?_) AllReadyH.nil
   go_simp
   refine (putG (w.heap.size + 3) wr.drew _ c0 _ x.1 N (HO.out.below (below_drew_self _)) (HI.out.below (below_drew_self _)) (fun g hg => by rw [(HGP.out.2 g hg).1, HGX.out.1]) (by have := HGX.out.2; omega) (fun g hg => by have := HGP.out.2 g hg; omega) (by have := HGP.out.1; omega) (by rw [HGX.out.1]; omega) (by show w.heap.size + 3 ≤ wr.heap.size; exact hwz)).mono ?_
   rintro e w5 ⟨lv5, rfl, t5, hg5, hx5⟩
   obtain ⟨A5, c5, rfl⟩ := t5.len
   have O5 := Lib.hid t5
   have Y2 := Lib.hid (H2.out.drew.grown hg5 (HO.out.ne_box H2.out))
   have Y1 := Lib.hid (H1.out.drew.grown hg5 (HO.out.ne_box H1.out))
   have Y0 := Lib.hid (H0.out.drew.grown hg5 (HO.out.ne_box H0.out))
   have B5 := Lib.hid (below_of_drew' ((Below.refl (w.heap.size + 3) wr.drew).grown hg5 (by show w.heap.size + 3 ≤ wr.heap.size; exact hwz) (own_block_le HO.out.from_)))
   have HS5 := Lib.hid (And.intro (Y0.out.cell 2) (And.intro ((B5.out.cell (p := ⟨ba, oa + j * 2, none⟩) (by show ba < w.heap.size + 3; omega)).trans d0) ((B5.out.cell (p := ⟨ba, oa + j * 2 + 1, none⟩) (by show ba < w.heap.size + 3; omega)).trans d1)))
   clear t5 hg5 hx5 hHeld HS0
   try go_simp
   refine hK.out _ _ HS5.out (fun hHeld => ?_)
   clear hK K
   try simp only [List.getElem_toArray, List.getElem_cons_succ, List.getElem_cons_zero, Act.put, List.setIfInBounds_toArray, List.set_cons_zero, List.set_cons_succ]
   refine wpAnyH_take (i := 15) (v := ?_) rfl (by kernel_rfl) (by kernel_rfl) (by kernel_rfl) (fun _ _ _ h => h) (Or.inl ⟨by rfl, ?_⟩) (by assumption) ?_
   rotate_left
   ·(intro w' hSw; (try dsimp only at hSw); go_simp <;> with_reducible rfl)
   simp only [List.getElem_toArray, List.getElem_cons_succ, List.getElem_cons_zero, Act.put, List.setIfInBounds_toArray, List.set_cons_zero, List.set_cons_succ]
   refine wpAnyH_ready (rs := [16]) (by kernel_rfl) (by simp) ?_
   refine AllReadyH.cons rfl (fun K hK => ?_) AllReadyH.nil
   obtain ⟨o0, o1, o2, z0, z1, z2⟩ := Y2.out.three
   go_simp
   have HS6 := Lib.hid (And.intro ((Y0.out.far (p := ⟨w.heap.size + 1 + 1, 2, none⟩) (by show w.heap.size ≠ w.heap.size + 1 + 1; omega) (.slice A5 (putL (putK [] (gs.take j)) x.1 N).length c5)).cell 2) (And.intro ((World.cell?_setCell_far w5 ⟨w.heap.size + 1 + 1, 2, none⟩ ⟨ba, oa + j * 2, none⟩ (.slice A5 (putL (putK [] (gs.take j)) x.1 N).length c5) (by show w.heap.size + 1 + 1 ≠ ba; omega)).trans HS5.out.2.1) ((World.cell?_setCell_far w5 ⟨w.heap.size + 1 + 1, 2, none⟩ ⟨ba, oa + j * 2 + 1, none⟩ (.slice A5 (putL (putK [] (gs.take j)) x.1 N).length c5) (by show w.heap.size + 1 + 1 ≠ ba; omega)).trans HS5.out.2.2)))
   refine hK.out _ _ HS6.out (fun hHeld => ?_)
   clear hK K hHeld HS6 HS5 o0 o1 o2 z0 z1 z2
   try simp only [List.getElem_toArray, List.getElem_cons_succ, List.getElem_cons_zero, Act.put, List.setIfInBounds_toArray, List.set_cons_zero, List.set_cons_succ]
   refine wpAnyH_done (by kernel_rfl) ?_ _
   go_wp2_with fail
   go_roundg gh
   case measure => omega
   case rel => exact ⟨j + 1, _, rfl, by omega, Lib.hid (by rw [HX2.out, putK_snoc]; exact HGP.out.put HGX.out.1 (by rw [HNE.out]; exact HGX.out.2)), Lib.hid (by rw [HX2.out, HX.out]; exact O5.out.setFar (p := ⟨w.heap.size + 1 + 1, 2, none⟩) (by show w.heap.size + 1 + 1 < w.heap.size + 3; omega) _), Lib.hid (Y2.out.set_ 2 _), Lib.hid (Y1.out.far (p := ⟨w.heap.size + 1 + 1, 2, none⟩) (by show w.heap.size + 1 ≠ w.heap.size + 1 + 1; omega) _), Lib.hid (Y0.out.far (p := ⟨w.heap.size + 1 + 1, 2, none⟩) (by show w.heap.size ≠ w.heap.size + 1 + 1; omega) _), Lib.hid ((BEL.out.trans (B5.out.mono (by omega))).setCell (p := ⟨w.heap.size + 1 + 1, 2, none⟩) (by show w.heap.size ≤ w.heap.size + 1 + 1; omega) _)⟩
end Go.Proofs.YtjebfdfkjlkifaaGreat
