/- Lemmas on the way: TbP, Dr1. -/
import Derived.Test.YtjebfdfkjlkifaaGreatD47
set_option linter.unusedSimpArgs false
set_option linter.unusedVariables false
set_option linter.unusedSectionVars false
set_option linter.unnecessarySimpa false
namespace Go.Proofs.YtjebfdfkjlkifaaGreat
open Go.RowKit
theorem putK_acc {n : Nat} : ∀ (l t : List Gr) (T : List Int → Int), (∀ g ∈ l, g.1.length = n ∧ 0 < g.2) → Rises t → (∀ g ∈ t, g.1.length = n) → Cnt t T →
  Rises (putK t l) ∧ (∀ g ∈ putK t l, g.1.length = n) ∧ Cnt (putK t l) (fun k => T k + tot 0 l k) := by
 intro l
 induction l with
 | nil => intro t T _ hr hl hc; exact ⟨hr, hl, hc.congr (fun k => by show T k = T k + 0; omega)⟩
 | cons e l ih =>
  intro t T h hr hl hc
  obtain ⟨a, b⟩ := e
  have hab := h (a, b) List.mem_cons_self
  obtain ⟨g1, g2, g3⟩ := ih (putL t a b) _ (fun x hx => h x (List.mem_cons_of_mem _ hx)) (putL_rises hr hl hab.1) (putL_len hl hab.1) (hc.putL hr hl hab.1 hab.2)
  refine ⟨g1, g2, g3.congr (fun k => ?_)⟩
  show T k + (if k = a then b else 0) + tot 0 l k = T k + tot 0 ((a, b) :: l) k
  rw [tot0_cons]
  by_cases hk : k = a
  ·rw [if_pos hk, if_pos hk.symm]; omega
  ·rw [if_neg hk, if_neg (fun e => hk e.symm)]; omega
theorem putK_cnt {n : Nat} {l : List Gr} (h : ∀ g ∈ l, g.1.length = n ∧ 0 < g.2) : Rises (putK [] l) ∧ (∀ g ∈ putK [] l, g.1.length = n) ∧ Cnt (putK [] l) (tot 0 l) := by
 obtain ⟨g1, g2, g3⟩ := putK_acc l [] (fun _ => 0) h List.Pairwise.nil (fun g hg => by cases hg) Cnt.nil
 exact ⟨g1, g2, g3.congr (fun k => by omega)⟩
theorem putK_append (a b : List Gr) : putK (putK [] a) b = putK [] (a ++ b) := by unfold putK; rw [List.foldl_append]
theorem putK_same {n : Nat} {l gs : List Gr} (h : ∀ g ∈ l, g.1.length = n ∧ 0 < g.2) (hp : gs.Perm (accT l)) (hs : SortedG gs) : gs = putK [] l := by
 obtain ⟨g1, g2, g3⟩ := putK_cnt h
 exact sorted_cnt (hp.trans ((acc_tot (fun g hg => (h g hg).2)).perm_of g3)) hs g1 g2 g3
theorem putK_id {n : Nat} {gs : List Gr} (h : ∀ g ∈ gs, g.1.length = n ∧ 0 < g.2) (hr : Rises gs) : putK [] gs = gs := by
 obtain ⟨g1, g2, g3⟩ := putK_cnt h
 have hc : Cnt gs (tot 0 gs) := ⟨hr.nodup, fun k => (tot0_nodup hr.nodup k).symm, fun e he => (h e he).2⟩
 exact (sorted_cnt (hc.perm_of g3) (hr.sorted (fun g hg => (h g hg).1)) g1 g2 g3).symm
theorem dropL_rises {least : Int} {gs : List Gr} (h : Rises gs) : Rises (dropL least gs) := List.Pairwise.filter _ h
theorem dropL_mem {least : Int} {gs : List Gr} {g : Gr} (h : g ∈ dropL least gs) : g ∈ gs := (List.mem_filter.1 h).1
theorem most_step (gs : List Gr) : ∀ a : Int, a ≤ gs.foldl (fun a g => max a g.2) a ∧ (∀ g ∈ gs, g.2 ≤ gs.foldl (fun a g => max a g.2) a) ∧ (gs.foldl (fun a g => max a g.2) a = a ∨ ∃ g ∈ gs, gs.foldl (fun a g => max a g.2) a = g.2) := by
 induction gs with
 | nil => intro a; exact ⟨Int.le_refl _, fun g hg => (by cases hg), .inl rfl⟩
 | cons x gs ih =>
  intro a
  obtain ⟨h1, h2, h3⟩ := ih (max a x.2)
  refine ⟨?_, fun g hg => ?_, ?_⟩
  ·show a ≤ gs.foldl _ (max a x.2); omega
  ·show g.2 ≤ gs.foldl _ (max a x.2)
   rcases List.mem_cons.1 hg with rfl | hg
   ·omega
   ·exact h2 g hg
  ·show gs.foldl _ (max a x.2) = a ∨ _
   rcases h3 with h3 | ⟨g, hg, h3⟩
   ·by_cases hm : x.2 ≤ a
    ·left; rw [h3]; omega
    ·right; exact ⟨x, List.mem_cons_self, by show gs.foldl _ (max a x.2) = _; rw [h3]; omega⟩
   ·right; exact ⟨g, List.mem_cons_of_mem _ hg, h3⟩
theorem mostL_gt (gs : List Gr) {M : Int} (hM : 0 ≤ M) : M < mostL gs ↔ ∃ g ∈ gs, M < g.2 := by
 obtain ⟨h1, h2, h3⟩ := most_step gs 0
 constructor
 ·intro h
  unfold mostL at h
  rcases h3 with h3 | ⟨g, hg, h3⟩
  ·omega
  ·exact ⟨g, hg, by omega⟩
 ·rintro ⟨g, hg, h⟩
  have := h2 g hg
  unfold mostL
  omega
theorem big_same {n : Nat} {l : List Gr} (h : ∀ g ∈ l, g.1.length = n ∧ 0 < g.2) : (∃ e ∈ accT l, 1073741824 < e.2) ↔ 1073741824 < mostL (putK [] l) := by
 obtain ⟨g1, g2, g3⟩ := putK_cnt h
 have hp := (acc_tot (fun g hg => (h g hg).2)).perm_of g3
 rw [mostL_gt _ (by omega)]
 exact ⟨fun ⟨e, he, hb⟩ => ⟨e, hp.subset he, hb⟩, fun ⟨e, he, hb⟩ => ⟨e, hp.symm.subset he, hb⟩⟩
theorem table_pos {O V : Int} {gs : List Gr} {n : Nat} (h : tableE O V gs = 0) (hO : O = n) : ∀ g ∈ gs, g.1.length = n ∧ 0 < g.2 := by
 obtain ⟨_, _, _, _, _, h5, _⟩ := table_all h
 intro g hg
 obtain ⟨a, _, c, _⟩ := h5 g hg
 exact ⟨by omega, by omega⟩
section
section
attribute [local go_sem] nilInts
set_option maxRecDepth 1000000 in
set_option maxHeartbeats 400000 in
theorem cloneI (w : World) (v : Value) (n : Nat) (xs : List Value) (hs : Sl w 1 v n xs) (h1 : ∀ u ∈ xs, u.oneCell' = true) (hn : n ≤ 17592186044416) :
  Calls Tryz.prog 113 #[v] w fun e w' => ∃ v', e = .returned v' ∧ Sl w' 1 v' n xs ∧ Below w.heap.size w w' ∧ ∃ base, w.heap.size ≤ base ∧ w'.ownsRow base 3 1 v' n xs := by
 obtain ⟨h0, A, c, rfl, hnc, hcm, hA⟩ := id hs
 obtain ⟨i0, hi, hz0, hz1, hz2⟩ := info_parts infoInt
 have HS := Lib.hid hs
 clear hs
 have HA := Lib.hid hA
 clear hA
 have H0 := Lib.hid h0
 clear h0
 cases A with
 | none =>
  have hn0 : n = 0 := by
   rcases Nat.eq_zero_or_pos n with h | h
   ·exact h
   ·obtain ⟨_, _, he, _⟩ := HA.out h
    cases he
  subst hn0
  go_enter Tryz.func113, Tryz.ntmps113
  go_wp2
  go_ret
  obtain rfl : xs = [] := List.eq_nil_of_length_eq_zero (by simpa using H0.out)
  exact ⟨_, rfl, Sl.nil_ _ _, Below.refl _ _, _, Nat.le_refl _, World.ownsRow_nil _ _ _ _⟩
 | some ad =>
  go_enter Tryz.func113, Tryz.ntmps113
  go_wp2_with (at_builtin; refine wpList_append_sl rfl _ _ 44 rfl w.heap.size 3 i0 (.int .i64 0) 1 8 Tryz.underlying44 hi hz0 hz1 hz2 rfl (by decide) _ _ _ rfl (World.ownsRow_made w #[] 0 (Nat.le_refl _) (Nat.zero_le _) rfl) _ n xs rfl (HS.out.alloc _) h1 ?c1 ?c2 ?c3 ?_)
  case c1 => unfold maxLen; omega
  case c2 => omega
  case c3 => simp
  intro v' w1 hown hgrow _
  go_wp2
  go_ret
  exact ⟨v', rfl, by simpa using Sl.of_own hown, ((Below.refl _ w).alloc (Nat.le_refl _) _).grown hgrow (by simp) (by intro k hk; simp [Value.ownBlock] at hk; omega), _, Nat.le_refl _, by simpa using hown⟩
end

def DropP (w : World) (t : Tb) (least : Int) (e : Ending) (w' : World) : Prop := Below w.heap.size w w' ∧
 ((tableE t.o t.V t.gs ≠ 0 ∧ e = .returned (.tuple #[.agg #[.int .i64 0, .int .i64 0, .slice none 0 0], .int .i64 (tableE t.o t.V t.gs)])) ∨
  (tableE t.o t.V t.gs = 0 ∧ ∃ A c n, e = .returned (.tuple #[.agg #[.int .i64 t.o, .int .i64 t.V, .slice A n c], .int .i64 0]) ∧ GramsAt w' (.slice A n c) (dropL least t.gs)))

set_option maxRecDepth 1000000 in
set_option maxHeartbeats 16000000 in
theorem dropTG (w : World) (t : Tb) (least : Int) (ht : GramsAt w t.lv t.gs) :
  Calls Tryz.prog 71 #[.agg #[.int .i64 t.o, .int .i64 t.V, t.lv], .int .i64 least] w (DropP w t least) := by
 obtain ⟨o, V, A, c, gs⟩ := t
 simp only [Tb.lv] at ht ⊢
 have HT := Lib.hid ht
 obtain ⟨_, _, e, hlc, hcm, hat⟩ := ht.open_
 injection e with e1 e2 e3
 subst e1
 have HAT := Lib.hid hat
 obtain ⟨L, hL⟩ : ∃ L, gs.length = L := ⟨_, rfl⟩
 have HL := Lib.hid hL
 rw [hL] at HT hlc ⊢
 clear ht hat hL e2 e3
 obtain ⟨te, hte⟩ : ∃ te, tableE o V gs = te := ⟨_, rfl⟩
 have HTE := Lib.hid hte
 clear hte
 obtain ⟨j0, hjj, hz0, hz1, hz2⟩ := info_parts infoGram
 by_cases hz : te = 0
 ·subst hz
  have HGN : Hid (∀ g ∈ gs, NiceG g) := Lib.hid (table_nice HTE.out)
  have HL2 : L ≤ 20000 := by have := (table_all HTE.out).1; rw [HL.out] at this; exact this
  go_enter Tryz.func71, Tryz.ntmps71
  go_wp2_with fail
  obtain ⟨W, hW, P0, P1, PB, Phs⟩ := box2 w 27 [.int .i64 o, .int .i64 V, .slice A L c] 27 [.int .i64 0, .int .i64 0, .slice none 0 0]
  rw [← hW]
  clear hW
  refine (checkTableG _ o V _ gs (HT.out.below PB.out)).mono ?_
  rintro e w1 ⟨rfl, hb1⟩
  rw [HTE.out]
  have B1 := Lib.hid (PB.out.trans (hb1.mono (by omega)))
  have Q0 := Lib.hid (P0.out.below' hb1)
  have Q1 := Lib.hid (P1.out.below' hb1)
  have z0 : w.heap.size < w1.heap.size := Q0.out.lt
  have z1 : w.heap.size + 1 < w1.heap.size := Q1.out.lt
  clear hb1 P0 P1 PB
  obtain ⟨p0, p1, p2, _, _, _⟩ := Q0.out.three
  go_wp2_with fail
  obtain ⟨W2, hW2, D0, DB, Dhs⟩ := box1 w1 27 [.int .i64 o, .int .i64 V, .slice none 0 0]
  rw [← hW2]
  clear hW2
  have R0 := Lib.hid (Q0.out.below' DB.out)
  have R1 := Lib.hid (Q1.out.below' DB.out)
  have B2 := Lib.hid (B1.out.trans (DB.out.mono B1.out.size))
  obtain ⟨ob, hob⟩ : ∃ ob, ob = w1.heap.size := ⟨_, rfl⟩
  rw [← hob] at D0 z0 z1 ⊢
  clear B1 Q0 Q1 DB Dhs hob p0 p1 p2
  go_loopg [24] L (fun gh i wr => ∃ (j : Nat) (lv : Value), i = .int .i64 j ∧ j + gh = L ∧ Hid (GOwn (ob + 1) wr lv (dropL least (gs.take j))) ∧ Hid (∃ A c, lv = .slice A (dropL least (gs.take j)).length c) ∧ Hid (Blk wr ob 27 [.int .i64 o, .int .i64 V, lv]) ∧
   Hid (Blk wr (w.heap.size + 1) 27 [.int .i64 0, .int .i64 0, .slice none 0 0]) ∧ Hid (Blk wr w.heap.size 27 [.int .i64 o, .int .i64 V, .slice A L c]) ∧ Hid (Below w.heap.size w wr))
  case atStart => exact ⟨0, .slice none 0 0, rfl, by omega, Lib.hid (GOwn.nil_ _ _), Lib.hid ⟨none, 0, rfl⟩, D0, R1, R0, B2⟩
  case round =>
   clear D0 R1 R0 B2
   obtain ⟨j, lv, rfl, hj, HO, HLV, H2, H1, H0, BEL⟩ := hrel
   have hwz : ob < wr.heap.size := H2.out.lt
   obtain ⟨Ao, co, rfl⟩ := HLV.out
   obtain ⟨Lo, hLo⟩ : ∃ Lo, (dropL least (gs.take j)).length = Lo := ⟨_, rfl⟩
   have HLO := Lib.hid hLo
   have hLob : Lo ≤ 20000 := by
    have h1 : (dropL least (gs.take j)).length ≤ (gs.take j).length := List.length_filter_le _ _
    have h2 := List.length_take_le' j gs
    have h3 := HL.out
    omega
   rw [hLo] at HO H2
   clear hLo HLV
   rcases Nat.eq_zero_or_pos gk with h | h
   ·obtain rfl : j = L := by omega
    have HE : Hid (gs.take j = gs) := Lib.hid (List.take_of_length_le (by rw [HL.out]; exact Nat.le_refl _))
    obtain ⟨r0, r1, r2, z0', z1', z2'⟩ := H1.out.three
    obtain ⟨o0, o1, o2, _, _, _⟩ := H2.out.three
    go_wp2_with fail
    refine bodyPost_ret (v := .tuple #[.agg #[.int .i64 o, .int .i64 V, .slice Ao Lo co], .int .i64 0]) (by simp [results, Tryz.results71, go_sem, r0, r1, r2]) rfl ⟨below_box3 BEL.out (by omega) _ _ _, .inr ⟨HTE.out, Ao, co, Lo, rfl, ?_⟩⟩
    have := (((HO.out.setFar (p := ⟨w.heap.size + 1, 0, none⟩) (by show w.heap.size + 1 < ob + 1; omega) (.int .i64 o)).setFar (p := ⟨w.heap.size + 1, 1, none⟩) (by show w.heap.size + 1 < ob + 1; omega) (.int .i64 V)).setFar (p := ⟨w.heap.size + 1, 2, none⟩) (by show w.heap.size + 1 < ob + 1; omega) (.slice Ao Lo co)).at_
    rwa [HE.out] at this
   ·obtain ⟨gh, rfl⟩ : ∃ g, gk = g + 1 := ⟨gk - 1, by omega⟩
    obtain ⟨x, hx⟩ : ∃ x, gs[j]? = some x := ⟨_, List.getElem?_eq_getElem (by rw [HL.out]; omega)⟩
    obtain ⟨ba, oa, c0, rfl, hba, e0, e1, hi⟩ := HAT.out j x hx
    have d0 := (BEL.out.cell (p := ⟨ba, oa + j * 2, none⟩) hba).trans e0
    have d1 := (BEL.out.cell (p := ⟨ba, oa + j * 2 + 1, none⟩) hba).trans e1
    have HNG := Lib.hid (HGN.out x (List.mem_of_getElem? hx))
    have hds := dropL_snoc least (gs.take j) x
    rw [← take_succ_get _ hx] at hds
    have HI0 := Lib.hid (hi.below BEL.out)
    obtain ⟨Ai, ci, rfl, _, _, _⟩ := hi.open_
    obtain ⟨x1, N⟩ := x
    simp only at d0 d1 HNG HI0 hds
    obtain ⟨lx, hlx⟩ : ∃ lx, x1.length = lx := ⟨_, rfl⟩
    have HLX := Lib.hid hlx
    have hlx4 : lx ≤ 4 := by have := HNG.out.1; simp only at this; omega
    rw [hlx] at d0
    have HI1 : Hid (Sl wr 1 (.slice Ai lx ci) lx (x1.map (Value.int .i64))) := Lib.hid (by have := HI0.out; unfold IntsAt at this; rwa [hlx] at this)
    clear hx hi e0 e1 HI0 hlx
    by_cases hle : least ≤ N
    ·have dl : decide (least ≤ N) = true := decide_eq_true hle
     rw [if_pos hle] at hds
     have HX := Lib.hid hds
     clear hds hle
     go_upto_region 9 with fail
     obtain ⟨W4, hW4, G0, GB4, hs4⟩ := box1 wr 51 [.slice Ai lx ci, .int .i64 N]
     rw [← hW4]
     clear hW4
     obtain ⟨gb, hgb⟩ : ∃ gb, gb = wr.heap.size := ⟨_, rfl⟩
     rw [← hgb] at G0 ⊢
     have HLT0 : Hid (∀ b, (Value.slice Ao Lo co).ownBlock = some b → b < gb) := Lib.hid (fun b hb => by rw [hgb]; exact own_block_lt HO.out hb)
     replace HO := Lib.hid (HO.out.below GB4.out)
     have HI := Lib.hid (HI1.out.below GB4.out)
     replace H2 := Lib.hid (H2.out.below' GB4.out)
     replace H1 := Lib.hid (H1.out.below' GB4.out)
     replace H0 := Lib.hid (H0.out.below' GB4.out)
     have BE := Lib.hid (BEL.out.trans (GB4.out.mono BEL.out.size))
     have o2 := H2.out.cell 2
     simp only [List.getElem?_cons_zero, List.getElem?_cons_succ] at o2
     have hgb1 : ob < gb ∧ gb < W4.heap.size := by omega
     have HSI : Hid (W4.drew.cell? ⟨gb, 0, none⟩ = some (.slice Ai lx ci) ∧ W4.drew.cell? ⟨gb, 1, none⟩ = some (.int .i64 N)) := Lib.hid (And.intro (G0.out.cell 0) (G0.out.cell 1))
     clear d0 d1 HI1 BEL GB4 hgb
     refine wp_region_held_drew (S := fun w' => w'.cell? ⟨gb, 0, none⟩ = some (.slice Ai lx ci) ∧ w'.cell? ⟨gb, 1, none⟩ = some (.int .i64 N)) (by kernel_rfl) HSI.out (fun hHeld => ?_)
     refine wpAnyH_take (i := 0) (v := ?_) rfl (by kernel_rfl) (by kernel_rfl) (by kernel_rfl) (fun _ _ _ h => h) (Or.inl ⟨by rfl, ?_⟩) (by assumption) ?_
     rotate_left
     ·(intro w' hSw; (try dsimp only at hSw); go_simp <;> with_reducible rfl)
     simp only [List.getElem_toArray, List.getElem_cons_succ, List.getElem_cons_zero, Act.put, List.setIfInBounds_toArray, List.set_cons_zero, List.set_cons_succ]
     refine wpAnyH_take (i := 2) (v := ?_) rfl (by kernel_rfl) (by kernel_rfl) (by kernel_rfl) (fun _ _ _ h => h) (Or.inl ⟨by rfl, ?_⟩) (by assumption) ?_
     rotate_left
     ·(intro w' hSw; (try dsimp only at hSw); go_simp <;> with_reducible rfl)
     simp only [List.getElem_toArray, List.getElem_cons_succ, List.getElem_cons_zero, Act.put, List.setIfInBounds_toArray, List.set_cons_zero, List.set_cons_succ]
     refine wpAnyH_take (i := 3) (v := ?_) rfl (by kernel_rfl) (by kernel_rfl) (by kernel_rfl) (fun _ _ _ h => h) (Or.inl ⟨by rfl, ?_⟩) (by assumption) ?_
     rotate_left
     ·(intro w' hSw; (try dsimp only at hSw); go_simp <;> with_reducible rfl)
     simp only [List.getElem_toArray, List.getElem_cons_succ, List.getElem_cons_zero, Act.put, List.setIfInBounds_toArray, List.set_cons_zero, List.set_cons_succ]
     refine wpAnyH_take (i := 5) (v := ?_) rfl (by kernel_rfl) (by kernel_rfl) (by kernel_rfl) (fun _ _ _ h => h) (Or.inl ⟨by rfl, ?_⟩) (by assumption) ?_
     rotate_left
     ·(intro w' hSw; (try dsimp only at hSw); go_simp <;> with_reducible rfl)
     simp only [List.getElem_toArray, List.getElem_cons_succ, List.getElem_cons_zero, Act.put, List.setIfInBounds_toArray, List.set_cons_zero, List.set_cons_succ]
     refine wpAnyH_take (i := 6) (v := ?_) rfl (by kernel_rfl) (by kernel_rfl) (by kernel_rfl) (fun _ _ _ h => h) (Or.inl ⟨by rfl, ?_⟩) (by assumption) ?_
     rotate_left
     ·(intro w' hSw; (try dsimp only at hSw); go_simp <;> with_reducible rfl)
     simp only [List.getElem_toArray, List.getElem_cons_succ, List.getElem_cons_zero, Act.put, List.setIfInBounds_toArray, List.set_cons_zero, List.set_cons_succ]
     refine wpAnyH_ready (rs := [1, 4]) (by kernel_rfl) (by simp) ?_
     refine AllReadyH.cons rfl (fun K hK => ?_) (AllReadyH.cons rfl (fun K hK => ?_) AllReadyH.nil)
     ·skip
      have o2' : W4.drew.cell? ⟨ob, 2, none⟩ = some (.slice Ao Lo co) := o2
      go_simp
      refine hK.out _ _ HSI.out (fun hHeld => ?_)
      clear hK K o2'
      try simp only [List.getElem_toArray, List.getElem_cons_succ, List.getElem_cons_zero, Act.put, List.setIfInBounds_toArray, List.set_cons_zero, List.set_cons_succ]
      refine wpAnyH_ready (rs := [4]) (by kernel_rfl) (by simp) ?_
      refine AllReadyH.cons rfl (fun K hK => ?_) AllReadyH.nil
      go_simp
      refine (cloneI W4.drew _ lx (x1.map (Value.int .i64)) (HI.out.below (below_drew_self _)) (ints_one x1) (by omega)).mono ?_
      rintro e w5 ⟨v5, rfl, hsl, hb5, bse, hbs, hown⟩
      obtain ⟨A5, c5, hv5⟩ : ∃ A c, v5 = .slice A lx c := by obtain ⟨_, A, c, e, _⟩ := hsl; exact ⟨A, c, e⟩
      subst hv5
      have HI5 : Hid (IntsAt w5 (.slice A5 lx c5) x1) := Lib.hid (by unfold IntsAt; rw [HLX.out]; exact hsl)
      have HF5 : Hid (From (.slice A5 lx c5) W4.heap.size) := Lib.hid ((From.of_own hown).mono hbs)
      have B5 := Lib.hid (below_of_drew hb5)
      have Y2 := Lib.hid (H2.out.below' B5.out)
      have Y1 := Lib.hid (H1.out.below' B5.out)
      have Y0 := Lib.hid (H0.out.below' B5.out)
      have HO5 := Lib.hid (HO.out.below B5.out)
      have HS5 := Lib.hid (And.intro ((G0.out.below' B5.out).cell 0) ((G0.out.below' B5.out).cell 1))
      clear hsl hb5 bse hbs hown hHeld
      try go_simp
      refine hK.out _ _ HS5.out (fun hHeld => ?_)
      clear hK K
      try simp only [List.getElem_toArray, List.getElem_cons_succ, List.getElem_cons_zero, Act.put, List.setIfInBounds_toArray, List.set_cons_zero, List.set_cons_succ]
      refine wpAnyH_take (i := 7) (v := ?_) rfl (by kernel_rfl) (by kernel_rfl) (by kernel_rfl) (fun _ _ _ h => h) (Or.inl ⟨by rfl, ?_⟩) (by assumption) ?_
      rotate_left
      ·(intro w' hSw; (try dsimp only at hSw); go_simp <;> with_reducible rfl)
      simp only [List.getElem_toArray, List.getElem_cons_succ, List.getElem_cons_zero, Act.put, List.setIfInBounds_toArray, List.set_cons_zero, List.set_cons_succ]
      refine wpAnyH_ready (rs := [8]) (by kernel_rfl) (by simp) ?_
      refine AllReadyH.cons rfl (fun K hK => ?_) AllReadyH.nil
      go_simp
      have hw5 : W4.heap.size ≤ w5.heap.size := B5.out.size
      obtain ⟨W6, hW6, N6, NB6, hs6⟩ := box1 w5 51 [.slice A5 lx c5, .int .i64 N]
      rw [← hW6]
      clear hW6
      have HS6 := Lib.hid (And.intro (((G0.out.below' B5.out).below' NB6.out).cell 0) (((G0.out.below' B5.out).below' NB6.out).cell 1))
      refine hK.out _ _ HS6.out (fun hHeld => ?_)
      clear hK K hHeld
      try simp only [List.getElem_toArray, List.getElem_cons_succ, List.getElem_cons_zero, Act.put, List.setIfInBounds_toArray, List.set_cons_zero, List.set_cons_succ]
      refine wpAnyH_ready (rs := [9]) (by kernel_rfl) (by simp) ?_
      refine AllReadyH.cons rfl (fun K hK => ?_) AllReadyH.nil
      have HO6 := Lib.hid (HO5.out.below NB6.out)
      obtain ⟨cells, hc1, hc2⟩ := id HO6.out
      have HC1 := Lib.hid hc1
      have HC2 := Lib.hid hc2
      rw [HLO.out] at hc1
      have HC1' := Lib.hid hc1
      clear hc1 hc2
      refine step_append_sl rfl (Operand.tmp 33) (Operand.tmp 40) 25 rfl (ob + 1) 51 j0 (.agg #[.slice none 0 0, .int .i64 0]) 2 32 Tryz.underlying25 hjj hz0 hz1 hz2 rfl (by decide) (.slice Ao Lo co) Lo cells rfl HC1'.out (.slice (some ⟨w5.heap.size, 0, none⟩) 1 1) 1 [.slice A5 lx c5, .int .i64 N] rfl (by have := N6.out.sl (sz := 2) (n := 1) (c := 1) (by simp) (Nat.le_refl _) (by unfold maxLen; omega); simpa using this) (by simp [Value.oneCell']) (by unfold maxLen; omega) (by omega) (by omega) ?_
      intro v3 w7 u1 u2 u3
      obtain ⟨g7, cap7, rfl⟩ := own_open u1 (by omega)
      have hnk : ∀ q, (Value.slice Ao Lo co).ownBlock = some q → ob + 1 ≤ q := own_block_le (From.of_own HC1'.out)
      have HLT : Hid (∀ b, (Value.slice Ao Lo co).ownBlock = some b → b < W4.heap.size) := Lib.hid (fun b hb => own_block_lt HO.out hb)
      have LG : Hid (GOwn (ob + 1) w7 (.slice (some ⟨g7, 0, none⟩) (Lo + 1) cap7) (dropL least (gs.take j) ++ [(x1, N)])) := Lib.hid (by
       refine gown_push HC2.out (by rw [HC1.out.1]) (HI5.out.below NB6.out) (HF5.out.mono (by omega)) (fun ad n c0 e => ?_) (by rw [HLO.out]; exact u1) u2 u3
       exact HF5.out.off (Nat.lt_of_lt_of_le (HLT.out ad.block (by rw [e]; rfl)) (Nat.le_refl _)))
      have K2 := Lib.hid ((Y2.out.below' NB6.out).grown u2 (fun e => by have := hnk _ e.symm; omega))
      have K1 := Lib.hid ((Y1.out.below' NB6.out).grown u2 (fun e => by have := hnk _ e.symm; omega))
      have K0 := Lib.hid ((Y0.out.below' NB6.out).grown u2 (fun e => by have := hnk _ e.symm; omega))
      have BK := Lib.hid (((BE.out.trans (B5.out.mono BE.out.size)).trans (NB6.out.mono (by omega))).grown u2 (by omega) (fun q e => by have := hnk _ e; omega))
      have HS7 := Lib.hid (And.intro ((((G0.out.below' B5.out).below' NB6.out).grown u2 (fun e => by have := HLT0.out _ e.symm; omega)).cell 0) ((((G0.out.below' B5.out).below' NB6.out).grown u2 (fun e => by have := HLT0.out _ e.symm; omega)).cell 1))
      clear u1 u2 u3
      try go_simp
      refine hK.out _ _ HS7.out (fun hHeld => ?_)
      clear hK K hHeld
      try simp only [List.getElem_toArray, List.getElem_cons_succ, List.getElem_cons_zero, Act.put, List.setIfInBounds_toArray, List.set_cons_zero, List.set_cons_succ]
      refine wpAnyH_take (i := 10) (v := ?_) rfl (by kernel_rfl) (by kernel_rfl) (by kernel_rfl) (fun _ _ _ h => h) (Or.inl ⟨by rfl, ?_⟩) (by assumption) ?_
      rotate_left
      ·(intro w' hSw; (try dsimp only at hSw); go_simp <;> with_reducible rfl)
      simp only [List.getElem_toArray, List.getElem_cons_succ, List.getElem_cons_zero, Act.put, List.setIfInBounds_toArray, List.set_cons_zero, List.set_cons_succ]
      refine wpAnyH_ready (rs := [11]) (by kernel_rfl) (by simp) ?_
      refine AllReadyH.cons rfl (fun K hK => ?_) AllReadyH.nil
      obtain ⟨o0, o1, o2, z0, z1, z2⟩ := K2.out.three
      go_simp
      have HS8 := Lib.hid (And.intro ((World.cell?_setCell_far w7 ⟨ob, 2, none⟩ ⟨gb, 0, none⟩ (.slice (some ⟨g7, 0, none⟩) (Lo + 1) cap7) (by show ob ≠ gb; omega)).trans HS7.out.1) ((World.cell?_setCell_far w7 ⟨ob, 2, none⟩ ⟨gb, 1, none⟩ (.slice (some ⟨g7, 0, none⟩) (Lo + 1) cap7) (by show ob ≠ gb; omega)).trans HS7.out.2))
      refine hK.out _ _ HS8.out (fun hHeld => ?_)
      clear hK K hHeld HS5 HS6 HS7 HS8 o0 o1 o2 z0 z1 z2
      try simp only [List.getElem_toArray, List.getElem_cons_succ, List.getElem_cons_zero, Act.put, List.setIfInBounds_toArray, List.set_cons_zero, List.set_cons_succ]
      refine wpAnyH_done (by kernel_rfl) ?_ _
      go_wp2_with fail
      go_roundg gh
      case measure => omega
      case rel => exact ⟨j + 1, _, rfl, by omega, Lib.hid (by rw [HX.out]; exact LG.out.far (p := ⟨ob, 2, none⟩) (by show ob < ob + 1; omega) _), Lib.hid (by rw [HX.out]; simp [HLO.out]), Lib.hid (K2.out.set_ 2 _), Lib.hid (K1.out.far (p := ⟨ob, 2, none⟩) (by show w.heap.size + 1 ≠ ob; omega) _), Lib.hid (K0.out.far (p := ⟨ob, 2, none⟩) (by show w.heap.size ≠ ob; omega) _), Lib.hid (BK.out.setCell (p := ⟨ob, 2, none⟩) (by show w.heap.size ≤ ob; omega) _)⟩
     ·skip
      go_simp
      refine (cloneI W4.drew _ lx (x1.map (Value.int .i64)) (HI.out.below (below_drew_self _)) (ints_one x1) (by omega)).mono ?_
      rintro e w5 ⟨v5, rfl, hsl, hb5, bse, hbs, hown⟩
      obtain ⟨A5, c5, hv5⟩ : ∃ A c, v5 = .slice A lx c := by obtain ⟨_, A, c, e, _⟩ := hsl; exact ⟨A, c, e⟩
      subst hv5
      have HI5 : Hid (IntsAt w5 (.slice A5 lx c5) x1) := Lib.hid (by unfold IntsAt; rw [HLX.out]; exact hsl)
      have HF5 : Hid (From (.slice A5 lx c5) W4.heap.size) := Lib.hid ((From.of_own hown).mono hbs)
      have B5 := Lib.hid (below_of_drew hb5)
      have Y2 := Lib.hid (H2.out.below' B5.out)
      have Y1 := Lib.hid (H1.out.below' B5.out)
      have Y0 := Lib.hid (H0.out.below' B5.out)
      have HO5 := Lib.hid (HO.out.below B5.out)
      have HS5 := Lib.hid (And.intro ((G0.out.below' B5.out).cell 0) ((G0.out.below' B5.out).cell 1))
      clear hsl hb5 bse hbs hown hHeld
      try go_simp
      refine hK.out _ _ HS5.out (fun hHeld => ?_)
      clear hK K
      try simp only [List.getElem_toArray, List.getElem_cons_succ, List.getElem_cons_zero, Act.put, List.setIfInBounds_toArray, List.set_cons_zero, List.set_cons_succ]
      refine wpAnyH_take (i := 7) (v := ?_) rfl (by kernel_rfl) (by kernel_rfl) (by kernel_rfl) (fun _ _ _ h => h) (Or.inl ⟨by rfl, ?_⟩) (by assumption) ?_
      rotate_left
      ·(intro w' hSw; (try dsimp only at hSw); go_simp <;> with_reducible rfl)
      simp only [List.getElem_toArray, List.getElem_cons_succ, List.getElem_cons_zero, Act.put, List.setIfInBounds_toArray, List.set_cons_zero, List.set_cons_succ]
      refine wpAnyH_ready (rs := [1, 8]) (by kernel_rfl) (by simp) ?_
      refine AllReadyH.cons rfl (fun K hK => ?_) (AllReadyH.cons rfl (fun K hK => ?_) AllReadyH.nil)
      ·skip
       have o2' : w5.cell? ⟨ob, 2, none⟩ = some (.slice Ao Lo co) := (Y2.out.cell 2)
       go_simp
       refine hK.out _ _ HS5.out (fun hHeld => ?_)
       clear hK K o2'
       try simp only [List.getElem_toArray, List.getElem_cons_succ, List.getElem_cons_zero, Act.put, List.setIfInBounds_toArray, List.set_cons_zero, List.set_cons_succ]
       refine wpAnyH_ready (rs := [8]) (by kernel_rfl) (by simp) ?_
       refine AllReadyH.cons rfl (fun K hK => ?_) AllReadyH.nil
       go_simp
       have hw5 : W4.heap.size ≤ w5.heap.size := B5.out.size
       obtain ⟨W6, hW6, N6, NB6, hs6⟩ := box1 w5 51 [.slice A5 lx c5, .int .i64 N]
       rw [← hW6]
       clear hW6
       have HS6 := Lib.hid (And.intro (((G0.out.below' B5.out).below' NB6.out).cell 0) (((G0.out.below' B5.out).below' NB6.out).cell 1))
       refine hK.out _ _ HS6.out (fun hHeld => ?_)
       clear hK K hHeld
       try simp only [List.getElem_toArray, List.getElem_cons_succ, List.getElem_cons_zero, Act.put, List.setIfInBounds_toArray, List.set_cons_zero, List.set_cons_succ]
       refine wpAnyH_ready (rs := [9]) (by kernel_rfl) (by simp) ?_
       refine AllReadyH.cons rfl (fun K hK => ?_) AllReadyH.nil
       have HO6 := Lib.hid (HO5.out.below NB6.out)
       obtain ⟨cells, hc1, hc2⟩ := id HO6.out
       have HC1 := Lib.hid hc1
       have HC2 := Lib.hid hc2
       rw [HLO.out] at hc1
       have HC1' := Lib.hid hc1
       clear hc1 hc2
       refine step_append_sl rfl (Operand.tmp 33) (Operand.tmp 40) 25 rfl (ob + 1) 51 j0 (.agg #[.slice none 0 0, .int .i64 0]) 2 32 Tryz.underlying25 hjj hz0 hz1 hz2 rfl (by decide) (.slice Ao Lo co) Lo cells rfl HC1'.out (.slice (some ⟨w5.heap.size, 0, none⟩) 1 1) 1 [.slice A5 lx c5, .int .i64 N] rfl (by have := N6.out.sl (sz := 2) (n := 1) (c := 1) (by simp) (Nat.le_refl _) (by unfold maxLen; omega); simpa using this) (by simp [Value.oneCell']) (by unfold maxLen; omega) (by omega) (by omega) ?_
       intro v3 w7 u1 u2 u3
       obtain ⟨g7, cap7, rfl⟩ := own_open u1 (by omega)
       have hnk : ∀ q, (Value.slice Ao Lo co).ownBlock = some q → ob + 1 ≤ q := own_block_le (From.of_own HC1'.out)
       have HLT : Hid (∀ b, (Value.slice Ao Lo co).ownBlock = some b → b < W4.heap.size) := Lib.hid (fun b hb => own_block_lt HO.out hb)
       have LG : Hid (GOwn (ob + 1) w7 (.slice (some ⟨g7, 0, none⟩) (Lo + 1) cap7) (dropL least (gs.take j) ++ [(x1, N)])) := Lib.hid (by
        refine gown_push HC2.out (by rw [HC1.out.1]) (HI5.out.below NB6.out) (HF5.out.mono (by omega)) (fun ad n c0 e => ?_) (by rw [HLO.out]; exact u1) u2 u3
        exact HF5.out.off (Nat.lt_of_lt_of_le (HLT.out ad.block (by rw [e]; rfl)) (Nat.le_refl _)))
       have K2 := Lib.hid ((Y2.out.below' NB6.out).grown u2 (fun e => by have := hnk _ e.symm; omega))
       have K1 := Lib.hid ((Y1.out.below' NB6.out).grown u2 (fun e => by have := hnk _ e.symm; omega))
       have K0 := Lib.hid ((Y0.out.below' NB6.out).grown u2 (fun e => by have := hnk _ e.symm; omega))
       have BK := Lib.hid (((BE.out.trans (B5.out.mono BE.out.size)).trans (NB6.out.mono (by omega))).grown u2 (by omega) (fun q e => by have := hnk _ e; omega))
       have HS7 := Lib.hid (And.intro ((((G0.out.below' B5.out).below' NB6.out).grown u2 (fun e => by have := HLT0.out _ e.symm; omega)).cell 0) ((((G0.out.below' B5.out).below' NB6.out).grown u2 (fun e => by have := HLT0.out _ e.symm; omega)).cell 1))
       clear u1 u2 u3
       try go_simp
       refine hK.out _ _ HS7.out (fun hHeld => ?_)
       clear hK K hHeld
       try simp only [List.getElem_toArray, List.getElem_cons_succ, List.getElem_cons_zero, Act.put, List.setIfInBounds_toArray, List.set_cons_zero, List.set_cons_succ]
       refine wpAnyH_take (i := 10) (v := ?_) rfl (by kernel_rfl) (by kernel_rfl) (by kernel_rfl) (fun _ _ _ h => h) (Or.inl ⟨by rfl, ?_⟩) (by assumption) ?_
       rotate_left
       ·(intro w' hSw; (try dsimp only at hSw); go_simp <;> with_reducible rfl)
       simp only [List.getElem_toArray, List.getElem_cons_succ, List.getElem_cons_zero, Act.put, List.setIfInBounds_toArray, List.set_cons_zero, List.set_cons_succ]
       refine wpAnyH_ready (rs := [11]) (by kernel_rfl) (by simp) ?_
       refine AllReadyH.cons rfl (fun K hK => ?_) AllReadyH.nil
       obtain ⟨o0, o1, o2, z0, z1, z2⟩ := K2.out.three
       go_simp
       have HS8 := Lib.hid (And.intro ((World.cell?_setCell_far w7 ⟨ob, 2, none⟩ ⟨gb, 0, none⟩ (.slice (some ⟨g7, 0, none⟩) (Lo + 1) cap7) (by show ob ≠ gb; omega)).trans HS7.out.1) ((World.cell?_setCell_far w7 ⟨ob, 2, none⟩ ⟨gb, 1, none⟩ (.slice (some ⟨g7, 0, none⟩) (Lo + 1) cap7) (by show ob ≠ gb; omega)).trans HS7.out.2))
       refine hK.out _ _ HS8.out (fun hHeld => ?_)
       clear hK K hHeld HS5 HS6 HS7 HS8 o0 o1 o2 z0 z1 z2
       try simp only [List.getElem_toArray, List.getElem_cons_succ, List.getElem_cons_zero, Act.put, List.setIfInBounds_toArray, List.set_cons_zero, List.set_cons_succ]
       refine wpAnyH_done (by kernel_rfl) ?_ _
       go_wp2_with fail
       go_roundg gh
       case measure => omega
       case rel => exact ⟨j + 1, _, rfl, by omega, Lib.hid (by rw [HX.out]; exact LG.out.far (p := ⟨ob, 2, none⟩) (by show ob < ob + 1; omega) _), Lib.hid (by rw [HX.out]; simp [HLO.out]), Lib.hid (K2.out.set_ 2 _), Lib.hid (K1.out.far (p := ⟨ob, 2, none⟩) (by show w.heap.size + 1 ≠ ob; omega) _), Lib.hid (K0.out.far (p := ⟨ob, 2, none⟩) (by show w.heap.size ≠ ob; omega) _), Lib.hid (BK.out.setCell (p := ⟨ob, 2, none⟩) (by show w.heap.size ≤ ob; omega) _)⟩
      ·skip
       go_simp
       have hw5 : W4.heap.size ≤ w5.heap.size := B5.out.size
       obtain ⟨W6, hW6, N6, NB6, hs6⟩ := box1 w5 51 [.slice A5 lx c5, .int .i64 N]
       rw [← hW6]
       clear hW6
       have HS6 := Lib.hid (And.intro (((G0.out.below' B5.out).below' NB6.out).cell 0) (((G0.out.below' B5.out).below' NB6.out).cell 1))
       refine hK.out _ _ HS6.out (fun hHeld => ?_)
       clear hK K hHeld
       try simp only [List.getElem_toArray, List.getElem_cons_succ, List.getElem_cons_zero, Act.put, List.setIfInBounds_toArray, List.set_cons_zero, List.set_cons_succ]
       refine wpAnyH_ready (rs := [1]) (by kernel_rfl) (by simp) ?_
       refine AllReadyH.cons rfl (fun K hK => ?_) AllReadyH.nil
       have o2' : W6.cell? ⟨ob, 2, none⟩ = some (.slice Ao Lo co) := ((Y2.out.below' NB6.out).cell 2)
       go_simp
       refine hK.out _ _ HS6.out (fun hHeld => ?_)
       clear hK K o2'
       try simp only [List.getElem_toArray, List.getElem_cons_succ, List.getElem_cons_zero, Act.put, List.setIfInBounds_toArray, List.set_cons_zero, List.set_cons_succ]
       refine wpAnyH_ready (rs := [9]) (by kernel_rfl) (by simp) ?_
       refine AllReadyH.cons rfl (fun K hK => ?_) AllReadyH.nil
       have HO6 := Lib.hid (HO5.out.below NB6.out)
       obtain ⟨cells, hc1, hc2⟩ := id HO6.out
       have HC1 := Lib.hid hc1
       have HC2 := Lib.hid hc2
       rw [HLO.out] at hc1
       have HC1' := Lib.hid hc1
       clear hc1 hc2
       refine step_append_sl rfl (Operand.tmp 33) (Operand.tmp 40) 25 rfl (ob + 1) 51 j0 (.agg #[.slice none 0 0, .int .i64 0]) 2 32 Tryz.underlying25 hjj hz0 hz1 hz2 rfl (by decide) (.slice Ao Lo co) Lo cells rfl HC1'.out (.slice (some ⟨w5.heap.size, 0, none⟩) 1 1) 1 [.slice A5 lx c5, .int .i64 N] rfl (by have := N6.out.sl (sz := 2) (n := 1) (c := 1) (by simp) (Nat.le_refl _) (by unfold maxLen; omega); simpa using this) (by simp [Value.oneCell']) (by unfold maxLen; omega) (by omega) (by omega) ?_
       intro v3 w7 u1 u2 u3
       obtain ⟨g7, cap7, rfl⟩ := own_open u1 (by omega)
       have hnk : ∀ q, (Value.slice Ao Lo co).ownBlock = some q → ob + 1 ≤ q := own_block_le (From.of_own HC1'.out)
       have HLT : Hid (∀ b, (Value.slice Ao Lo co).ownBlock = some b → b < W4.heap.size) := Lib.hid (fun b hb => own_block_lt HO.out hb)
       have LG : Hid (GOwn (ob + 1) w7 (.slice (some ⟨g7, 0, none⟩) (Lo + 1) cap7) (dropL least (gs.take j) ++ [(x1, N)])) := Lib.hid (by
        refine gown_push HC2.out (by rw [HC1.out.1]) (HI5.out.below NB6.out) (HF5.out.mono (by omega)) (fun ad n c0 e => ?_) (by rw [HLO.out]; exact u1) u2 u3
        exact HF5.out.off (Nat.lt_of_lt_of_le (HLT.out ad.block (by rw [e]; rfl)) (Nat.le_refl _)))
       have K2 := Lib.hid ((Y2.out.below' NB6.out).grown u2 (fun e => by have := hnk _ e.symm; omega))
       have K1 := Lib.hid ((Y1.out.below' NB6.out).grown u2 (fun e => by have := hnk _ e.symm; omega))
       have K0 := Lib.hid ((Y0.out.below' NB6.out).grown u2 (fun e => by have := hnk _ e.symm; omega))
       have BK := Lib.hid (((BE.out.trans (B5.out.mono BE.out.size)).trans (NB6.out.mono (by omega))).grown u2 (by omega) (fun q e => by have := hnk _ e; omega))
       have HS7 := Lib.hid (And.intro ((((G0.out.below' B5.out).below' NB6.out).grown u2 (fun e => by have := HLT0.out _ e.symm; omega)).cell 0) ((((G0.out.below' B5.out).below' NB6.out).grown u2 (fun e => by have := HLT0.out _ e.symm; omega)).cell 1))
       clear u1 u2 u3
       try go_simp
       refine hK.out _ _ HS7.out (fun hHeld => ?_)
       clear hK K hHeld
       try simp only [List.getElem_toArray, List.getElem_cons_succ, List.getElem_cons_zero, Act.put, List.setIfInBounds_toArray, List.set_cons_zero, List.set_cons_succ]
       refine wpAnyH_take (i := 10) (v := ?_) rfl (by kernel_rfl) (by kernel_rfl) (by kernel_rfl) (fun _ _ _ h => h) (Or.inl ⟨by rfl, ?_⟩) (by assumption) ?_
       rotate_left
       ·(intro w' hSw; (try dsimp only at hSw); go_simp <;> with_reducible rfl)
       simp only [List.getElem_toArray, List.getElem_cons_succ, List.getElem_cons_zero, Act.put, List.setIfInBounds_toArray, List.set_cons_zero, List.set_cons_succ]
       refine wpAnyH_ready (rs := [11]) (by kernel_rfl) (by simp) ?_
       refine AllReadyH.cons rfl (fun K hK => ?_) AllReadyH.nil
       obtain ⟨o0, o1, o2, z0, z1, z2⟩ := K2.out.three
       go_simp
       have HS8 := Lib.hid (And.intro ((World.cell?_setCell_far w7 ⟨ob, 2, none⟩ ⟨gb, 0, none⟩ (.slice (some ⟨g7, 0, none⟩) (Lo + 1) cap7) (by show ob ≠ gb; omega)).trans HS7.out.1) ((World.cell?_setCell_far w7 ⟨ob, 2, none⟩ ⟨gb, 1, none⟩ (.slice (some ⟨g7, 0, none⟩) (Lo + 1) cap7) (by show ob ≠ gb; omega)).trans HS7.out.2))
       refine hK.out _ _ HS8.out (fun hHeld => ?_)
       clear hK K hHeld HS5 HS6 HS7 HS8 o0 o1 o2 z0 z1 z2
       try simp only [List.getElem_toArray, List.getElem_cons_succ, List.getElem_cons_zero, Act.put, List.setIfInBounds_toArray, List.set_cons_zero, List.set_cons_succ]
       refine wpAnyH_done (by kernel_rfl) ?_ _
       go_wp2_with fail
       go_roundg gh
       case measure => omega
       case rel => exact ⟨j + 1, _, rfl, by omega, Lib.hid (by rw [HX.out]; exact LG.out.far (p := ⟨ob, 2, none⟩) (by show ob < ob + 1; omega) _), Lib.hid (by rw [HX.out]; simp [HLO.out]), Lib.hid (K2.out.set_ 2 _), Lib.hid (K1.out.far (p := ⟨ob, 2, none⟩) (by show w.heap.size + 1 ≠ ob; omega) _), Lib.hid (K0.out.far (p := ⟨ob, 2, none⟩) (by show w.heap.size ≠ ob; omega) _), Lib.hid (BK.out.setCell (p := ⟨ob, 2, none⟩) (by show w.heap.size ≤ ob; omega) _)⟩
    ·have dl : decide (least ≤ N) = false := decide_eq_false hle
     rw [if_neg hle, List.append_nil] at hds
     have HX := Lib.hid hds
     clear hds hle
     go_wp2_with fail
     go_roundg gh
     case measure => omega
     case rel => exact ⟨j + 1, .slice Ao Lo co, rfl, by omega, Lib.hid (by rw [HX.out]; exact HO.out.below (below_alloc_self _ _)), Lib.hid (by rw [HX.out, HLO.out]; exact ⟨_, _, rfl⟩), Lib.hid (H2.out.below' (below_alloc_self _ _)), Lib.hid (H1.out.below' (below_alloc_self _ _)), Lib.hid (H0.out.below' (below_alloc_self _ _)), Lib.hid (BEL.out.trans ((below_alloc_self _ _).mono BEL.out.size))⟩
 ·have dz : (te != 0) = true := by simpa using hz
  have HZ := Lib.hid hz
  clear hz
  go_enter Tryz.func71, Tryz.ntmps71
  go_wp2_with fail
  obtain ⟨W, hW, P0, P1, PB, Phs⟩ := box2 w 27 [.int .i64 o, .int .i64 V, .slice A L c] 27 [.int .i64 0, .int .i64 0, .slice none 0 0]
  rw [← hW]
  clear hW
  refine (checkTableG _ o V _ gs (HT.out.below PB.out)).mono ?_
  rintro e w1 ⟨rfl, hb1⟩
  rw [HTE.out]
  have B1 := Lib.hid (PB.out.trans (hb1.mono (by omega)))
  have Q1 := Lib.hid (P1.out.below' hb1)
  clear hb1 P0 P1 PB
  obtain ⟨r0, r1, r2, f0, f1, f2⟩ := Q1.out.three
  go_wp2_with fail
  refine bodyPost_ret (v := .tuple #[.agg #[.int .i64 0, .int .i64 0, .slice none 0 0], .int .i64 te]) (by simp [results, Tryz.results71, go_sem, r0, r1, r2]) rfl ⟨below_box3 B1.out (by omega) _ _ _, .inl ⟨by show tableE o V gs ≠ 0; rw [HTE.out]; exact HZ.out, by show _ = Ending.returned (.tuple #[_, .int .i64 (tableE o V gs)]); rw [HTE.out]⟩⟩
end
end Go.Proofs.YtjebfdfkjlkifaaGreat
