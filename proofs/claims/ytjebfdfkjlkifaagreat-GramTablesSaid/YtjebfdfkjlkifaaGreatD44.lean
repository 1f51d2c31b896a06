/- Lemmas on the way: Mg1. -/
import Derived.Test.YtjebfdfkjlkifaaGreatD43
import Derived.Test.YtjebfdfkjlkifaaGreatD42
set_option linter.unusedSimpArgs false
set_option linter.unusedVariables false
set_option linter.unusedSectionVars false
set_option linter.unnecessarySimpa false
namespace Go.Proofs.YtjebfdfkjlkifaaGreat
open Go.RowKit
theorem tabs_two {w : World} {g : Nat} {e : TypeId} {t u : Tb} (h : Blk w g e [.int .i64 t.o, .int .i64 t.V, t.lv, .int .i64 u.o, .int .i64 u.V, u.lv]) (ht : GramsAt w t.lv t.gs) (hu : GramsAt w u.lv u.gs) : TabsAt w (.slice (some ⟨g, 0, none⟩) 2 2) [t, u] := by
 refine ⟨_, h.sl (sz := 3) (n := 2) (c := 2) (by simp) (Nat.le_refl _) (by unfold maxLen; omega), fun i x hx => ?_⟩
 match i, hx with
 | 0, hx => cases hx; exact ⟨rfl, rfl, rfl, ht⟩
 | 1, hx => cases hx; exact ⟨rfl, rfl, rfl, hu⟩

set_option maxRecDepth 1000000 in
set_option maxHeartbeats 4000000 in
theorem mergeBad (w : World) (t u : Tb) (ht : GramsAt w t.lv t.gs) (hu : GramsAt w u.lv u.gs) (E : Int) (hE : tabsE [t, u] = E) (hz : E ≠ 0) :
  Calls Tryz.prog 58 #[.agg #[.int .i64 t.o, .int .i64 t.V, t.lv], .agg #[.int .i64 u.o, .int .i64 u.V, u.lv]] w fun e w' => e = .returned (.tuple #[.agg #[.int .i64 0, .int .i64 0, .slice none 0 0], .int .i64 E]) ∧ Below w.heap.size w w' := by
 have HE := Lib.hid hE
 have HT := Lib.hid ht
 have HU := Lib.hid hu
 have dz : (E != 0) = true := by simpa using hz
 clear hE ht hu hz
 go_enter Tryz.func58, Tryz.ntmps58
 go_wp2_with fail
 obtain ⟨W, hW, P0, P1, P2, P3, PB, Phs⟩ := box4 w 27 [.int .i64 t.o, .int .i64 t.V, t.lv] 27 [.int .i64 u.o, .int .i64 u.V, u.lv] 27 [.int .i64 0, .int .i64 0, .slice none 0 0] 27 [.int .i64 t.o, .int .i64 t.V, t.lv, .int .i64 u.o, .int .i64 u.V, u.lv]
 rw [← hW]
 clear hW
 refine (checkTablesG W _ [t, u] (tabs_two P3.out (HT.out.below PB.out) (HU.out.below PB.out))).mono ?_
 rintro e w1 ⟨rfl, hb1⟩
 rw [HE.out]
 have B1 := Lib.hid (PB.out.trans (hb1.mono PB.out.size))
 have R1 := Lib.hid (P2.out.below' hb1)
 clear hb1 P0 P1 P3 PB
 obtain ⟨p0, p1, p2, f0, f1, f2⟩ := R1.out.three
 go_wp2_with fail
 clear p0 p1 p2 f0 f1 f2
 obtain ⟨W7, hW7⟩ : ∃ W7, W7 = ((w1.setCell ⟨w.heap.size + 1 + 1, 0, none⟩ (.int .i64 0)).setCell ⟨w.heap.size + 1 + 1, 1, none⟩ (.int .i64 0)).setCell ⟨w.heap.size + 1 + 1, 2, none⟩ (.slice none 0 0) := ⟨_, rfl⟩
 have X7 : Blk W7 (w.heap.size + 1 + 1) 27 [.int .i64 0, .int .i64 0, .slice none 0 0] := by
  rw [hW7]
  exact ((R1.out.set_ 0 _).set_ 1 _).set_ 2 _
 have Y7 : Below w.heap.size w W7 := by rw [hW7]; exact below3 B1.out (by omega) _ _ _ _ _ _
 rw [← hW7]
 clear hW7
 have r0 := X7.cell 0
 have r1 := X7.cell 1
 have r2 := X7.cell 2
 simp only [List.getElem?_cons_zero, List.getElem?_cons_succ] at r0 r1 r2
 refine bodyPost_ret (v := .tuple #[.agg #[.int .i64 0, .int .i64 0, .slice none 0 0], .int .i64 E]) (by simp [results, Tryz.results58, go_sem, r0, r1, r2]) rfl ⟨rfl, Y7⟩

def allG (ts : List Tb) : List Gr := ts.flatMap Tb.gs
def MergeP (w : World) (t u : Tb) (e : Ending) (w' : World) : Prop := Below w.heap.size w w' ∧
 (((¬ (t.o = u.o ∧ t.V = u.V) ∨ ∃ e ∈ accT (t.gs ++ u.gs), 1073741824 < e.2) ∧ e = .returned (.tuple #[.agg #[.int .i64 0, .int .i64 0, .slice none 0 0], .int .i64 2])) ∨
  (t.o = u.o ∧ t.V = u.V ∧ (∀ e ∈ accT (t.gs ++ u.gs), e.2 ≤ 1073741824) ∧ ∃ A c n gs', e = .returned (.tuple #[.agg #[.int .i64 t.o, .int .i64 t.V, .slice A n c], .int .i64 0]) ∧ gs'.Perm (accT (t.gs ++ u.gs)) ∧ SortedG gs' ∧ GramsAt w' (.slice A n c) gs'))
theorem firstE_zero {ts : List Tb} (h : firstE ts = 0) : ∀ t ∈ ts, tableE t.o t.V t.gs = 0 := by
 induction ts with
 | nil => intro t ht; cases ht
 | cons t ts ih =>
  unfold firstE at h
  by_cases hz : tableE t.o t.V t.gs = 0
  ·rw [if_pos hz] at h
   intro x hx
   rcases List.mem_cons.1 hx with rfl | hx
   ·exact hz
   ·exact ih h x hx
  ·rw [if_neg hz] at h
   exact absurd h hz
theorem tabsE_zero {ts : List Tb} (h : tabsE ts = 0) : ∀ t ∈ ts, tableE t.o t.V t.gs = 0 := by
 unfold tabsE at h
 by_cases hl : ts.any longT = true
 ·rw [if_pos hl] at h; cases h
 ·rw [if_neg hl] at h; exact firstE_zero h
def NiceG (g : Gr) : Prop := g.1.length ≤ 4 ∧ (∀ x ∈ g.1, 0 ≤ x ∧ x ≤ 2000) ∧ 1 ≤ g.2 ∧ g.2 ≤ 1073741824
theorem table_nice {O V : Int} {gs : List Gr} (h : tableE O V gs = 0) : ∀ g ∈ gs, NiceG g := by
 obtain ⟨_, h1, h2, h3, h4, h5, _⟩ := table_all h
 intro g hg
 obtain ⟨a, b, c, d⟩ := h5 g hg
 exact ⟨by omega, fun x hx => by have := b x hx; omega, c, d⟩
theorem NiceG.key {g : Gr} (h : NiceG g) : NiceK g.1 := ⟨h.1, fun x hx => by have := h.2.1 x hx; omega⟩

theorem acc_niceG {l : List Gr} (h : ∀ g ∈ l, NiceG g) : NiceM ((l.length : Int) * 1073741824) (accT l) := by
 have key : ∀ (l m : List Gr) (n : Nat), (∀ g ∈ l, NiceG g) → NiceM ((n : Int) * 1073741824) m → NiceM (((n + l.length : Nat) : Int) * 1073741824) (l.foldl addT m) := by
  intro l
  induction l with
  | nil => intro m n _ hm; simpa using hm
  | cons e l ih =>
   intro m n h hm
   have h2 := h e List.mem_cons_self
   obtain ⟨k, c⟩ := e
   have h4 := hm.add (a := 1073741824) (by omega) h2.key (c := c) ⟨by have := h2.2.2.1; simp only at this; omega, h2.2.2.2⟩
   rw [show (n : Int) * 1073741824 + 1073741824 = ((n + 1 : Nat) : Int) * 1073741824 by omega] at h4
   have h5 := ih (addT m (k, c)) (n + 1) (fun x hx => h x (List.mem_cons_of_mem _ hx)) h4
   rw [List.foldl_cons, List.length_cons, show n + (l.length + 1) = n + 1 + l.length by omega]
   exact h5
 have := key l [] 0 h (fun e he => by cases he)
 rwa [Nat.zero_add] at this
theorem acc_len {n : Nat} {l : List Gr} (h : ∀ g ∈ l, g.1.length = n) : ∀ e ∈ accT l, e.1.length = n := by
 intro e he
 rcases accT_keys l [] e he with h1 | h1
 ·cases h1
 ·obtain ⟨g, hg, e1⟩ := List.mem_map.1 h1
  rw [← e1]
  exact h g hg
theorem acc_count (l : List Gr) : (accT l).length ≤ l.length := by
 have := accT_length l []
 simpa [accT] using this
theorem allG_take {ts : List Tb} {j : Nat} {x : Tb} (h : ts[j]? = some x) : allG (ts.take (j + 1)) = allG (ts.take j) ++ x.gs := by
 unfold allG
 rw [take_succ_get _ h, List.flatMap_append]
 simp
theorem allG_sub {ts : List Tb} {j : Nat} {x : Tb} (h : ts[j]? = some x) (k : Nat) : ∀ g ∈ allG (ts.take j) ++ x.gs.take k, g ∈ allG ts := by
 intro g hg
 unfold allG at hg ⊢
 rcases List.mem_append.1 hg with hg | hg
 ·obtain ⟨t, ht, hg⟩ := List.mem_flatMap.1 hg
  exact List.mem_flatMap.2 ⟨t, List.mem_of_mem_take ht, hg⟩
 ·exact List.mem_flatMap.2 ⟨x, List.mem_of_getElem? h, List.mem_of_mem_take hg⟩
theorem allG_part {ts : List Tb} {j : Nat} {x : Tb} (h : ts[j]? = some x) (k : Nat) : (allG (ts.take j) ++ x.gs.take k).length ≤ (allG ts).length := by
 have h1 : (allG (ts.take (j + 1))).length ≤ (allG ts).length := by
  have e : ts = ts.take (j + 1) ++ ts.drop (j + 1) := (List.take_append_drop _ _).symm
  conv => rhs; rw [e]; unfold allG; rw [List.flatMap_append, List.length_append]
  unfold allG
  omega
 rw [allG_take h] at h1
 rw [List.length_append] at h1 ⊢
 have := List.length_take_le' k x.gs
 omega

set_option maxRecDepth 1000000 in
set_option maxHeartbeats 16000000 in
theorem mergeG (hsort : SortOk) (w : World) (t u : Tb) (ht : GramsAt w t.lv t.gs) (hu : GramsAt w u.lv u.gs) (hE : tabsE [t, u] = 0) (hlen : t.gs.length + u.gs.length ≤ 20000) :
  Calls Tryz.prog 58 #[.agg #[.int .i64 t.o, .int .i64 t.V, t.lv], .agg #[.int .i64 u.o, .int .i64 u.V, u.lv]] w (MergeP w t u) := by
 have HE := Lib.hid hE
 have HT := Lib.hid ht
 have HU := Lib.hid hu
 have HSO := Lib.hid hsort
 have HALL : Hid (∀ x ∈ [t, u], GramsAt w x.lv x.gs ∧ tableE x.o x.V x.gs = 0) := Lib.hid (fun x hx => ⟨by
  rcases List.mem_cons.1 hx with rfl | hx
  ·exact ht
  ·rw [List.mem_singleton.1 hx]; exact hu, tabsE_zero hE x hx⟩)
 have HLEN : Hid ((allG [t, u]).length ≤ 20000) := Lib.hid (by simpa [allG] using hlen)
 clear hE ht hu hsort hlen
 have hmm := @run_makeMap Tryz.prog
 go_enter Tryz.func58, Tryz.ntmps58
 go_wp2_with fail
 obtain ⟨W, hW, P0, P1, P2, P3, PB, Phs⟩ := box4 w 27 [.int .i64 t.o, .int .i64 t.V, t.lv] 27 [.int .i64 u.o, .int .i64 u.V, u.lv] 27 [.int .i64 0, .int .i64 0, .slice none 0 0] 27 [.int .i64 t.o, .int .i64 t.V, t.lv, .int .i64 u.o, .int .i64 u.V, u.lv]
 rw [← hW]
 clear hW
 refine (checkTablesG W _ [t, u] (tabs_two P3.out (HT.out.below PB.out) (HU.out.below PB.out))).mono ?_
 rintro e w1 ⟨rfl, hb1⟩
 rw [HE.out]
 have B1 := Lib.hid (PB.out.trans (hb1.mono PB.out.size))
 have Q0 := Lib.hid (P0.out.below' hb1)
 have Q1 := Lib.hid (P1.out.below' hb1)
 have Q2 := Lib.hid (P2.out.below' hb1)
 clear hb1 P0 P1 P2 P3 PB
 obtain ⟨p0, p1, p2, _, _, _⟩ := Q0.out.three
 obtain ⟨q0, q1, q2, _, _, _⟩ := Q1.out.three
 have z0 : w.heap.size < w1.heap.size := Q0.out.lt
 have z1 : w.heap.size + 1 < w1.heap.size := Q1.out.lt
 have z2 : w.heap.size + 1 + 1 < w1.heap.size := Q2.out.lt
 go_wp2_with fail
 obtain ⟨W2, hW2⟩ : ∃ W2, W2 = (w1.alloc (.map #[] 0)).alloc (.cells #[.int .i64 t.o, .int .i64 t.V, t.lv, .int .i64 u.o, .int .i64 u.V, u.lv] 27) := ⟨_, rfl⟩
 have M0 : Hid (TMap keyV (Value.int .i64) W2 120 w1.heap.size ([] : List Gr)) := Lib.hid (by
  rw [hW2]
  exact (TMap.made w1 keyV (Value.int .i64) 120).below ((Below.refl _ _).alloc (Nat.le_refl _) _))
 have D0 : Hid (Blk W2 (w1.heap.size + 1) 27 [.int .i64 t.o, .int .i64 t.V, t.lv, .int .i64 u.o, .int .i64 u.V, u.lv]) := Lib.hid (by
  rw [hW2]
  have := Blk.new (w1.alloc (.map #[] 0)) 27 [.int .i64 t.o, .int .i64 t.V, t.lv, .int .i64 u.o, .int .i64 u.V, u.lv]
  rwa [World.size_alloc] at this)
 have B12 : Hid (Below w1.heap.size w1 W2) := Lib.hid (by rw [hW2]; exact ((Below.refl _ w1).alloc (Nat.le_refl _) _).alloc (by simp) _)
 rw [← hW2]
 clear hW2 p0 p1 p2 q0 q1 q2 Phs
 go_loopg [25] 2 (fun gh i wr => ∃ (j : Nat), i = .int .i64 j ∧ j + gh = 2 ∧ Hid (TMap keyV (Value.int .i64) wr 120 w1.heap.size (accT (allG ([t, u].take j)))) ∧ Hid (Below w1.heap.size w1 wr) ∧ Hid (Blk wr (w1.heap.size + 1) 27 [.int .i64 t.o, .int .i64 t.V, t.lv, .int .i64 u.o, .int .i64 u.V, u.lv]))
 case atStart => exact ⟨0, rfl, by omega, Lib.hid (by simpa [allG, accT] using M0.out), B12, D0⟩
 case round =>
  clear M0 B12 D0
  obtain ⟨j, rfl, hj, HM, BEL, HD⟩ := hrel
  have BW := Lib.hid (B1.out.trans (BEL.out.mono B1.out.size))
  have hsz : w1.heap.size + 1 < wr.heap.size := HD.out.lt
  have TA := Lib.hid (tabs_two HD.out (HT.out.below BW.out) (HU.out.below BW.out))
  rcases Nat.eq_zero_or_pos gk with h | h
  ·obtain rfl : j = 2 := by omega
   have HTM : Hid (TMap keyV (Value.int .i64) wr 120 w1.heap.size (accT (t.gs ++ u.gs))) := Lib.hid (by
    have := HM.out
    rwa [show accT (allG ([t, u].take 2)) = accT (t.gs ++ u.gs) by simp [allG]] at this)
   have Z0 := Lib.hid (Q0.out.below' BEL.out)
   have Z1 := Lib.hid (Q1.out.below' BEL.out)
   have Z2 := Lib.hid (Q2.out.below' BEL.out)
   obtain ⟨p0, p1, p2, _, _, _⟩ := Z0.out.three
   obtain ⟨q0, q1, q2, _, _, _⟩ := Z1.out.three
   clear HM TA HD
   by_cases hso : t.o = u.o ∧ t.V = u.V
   ·obtain ⟨ho, hv⟩ := hso
    have b1 : (t.o != u.o) = false := by simpa using ho
    have b2 : (t.V != u.V) = false := by simpa using hv
    have HOV := Lib.hid (And.intro ho hv)
    have hta := table_all (HALL.out t List.mem_cons_self).2
    obtain ⟨mo, hmo⟩ : ∃ mo : Nat, ((mo + 1 : Nat) : Int) = t.o := ⟨(t.o - 1).toNat, by omega⟩
    have hmo3 : mo ≤ 3 := by omega
    have HCN : Hid (∀ e ∈ accT (t.gs ++ u.gs), e.1.length = mo + 1 ∧ NiceK e.1 ∧ 0 ≤ e.2) := Lib.hid (fun e he => by
     have hl := acc_len (n := mo + 1) (l := t.gs ++ u.gs) (fun g hg => by
      rcases List.mem_append.1 hg with hg | hg
      ·have := (table_all (HALL.out t List.mem_cons_self).2).2.2.2.2.2.1 g hg; omega
      ·have := (table_all (HALL.out u (by simp)).2).2.2.2.2.2.1 g hg; omega) e he
     have hn := acc_niceG (l := t.gs ++ u.gs) (fun g hg => by
      rcases List.mem_append.1 hg with hg | hg
      ·exact table_nice (HALL.out t List.mem_cons_self).2 g hg
      ·exact table_nice (HALL.out u (by simp)).2 g hg) e he
     exact ⟨hl, hn.1, hn.2.1⟩)
    have HCL : Hid ((accT (t.gs ++ u.gs)).length ≤ 20000) := Lib.hid (Nat.le_trans (acc_count _) (by have := HLEN.out; simpa [allG] using this))
    by_cases hbig : ∃ e ∈ accT (t.gs ++ u.gs), 1073741824 < e.2
    ·have HPO : Hid (¬ (t.o = u.o ∧ t.V = u.V) ∨ ∃ e ∈ accT (t.gs ++ u.gs), 1073741824 < e.2) := Lib.hid (.inr hbig)
     have CG := collectErrG wr mo t.V w1.heap.size _ HTM.out hmo3 HCN.out HCL.out hbig
     rw [hmo] at CG
     have HCG := Lib.hid CG
     clear CG hbig ho hv hta hmo
     go_wp2_with fail
     refine HCG.out.mono ?_
     rintro e w6 ⟨rfl, hb6⟩
     have Z6 := Lib.hid (Z2.out.below' hb6)
     have B6 := Lib.hid (BW.out.trans (hb6.mono BW.out.size))
     clear hb6 p0 p1 p2 q0 q1 q2
     obtain ⟨r0, r1, r2, f0, f1, f2⟩ := Z6.out.three
     go_wp2_with fail
     clear r0 r1 r2 f0 f1 f2
     obtain ⟨W7, hW7⟩ : ∃ W7, W7 = ((w6.setCell ⟨w.heap.size + 1 + 1, 0, none⟩ (.int .i64 0)).setCell ⟨w.heap.size + 1 + 1, 1, none⟩ (.int .i64 0)).setCell ⟨w.heap.size + 1 + 1, 2, none⟩ (.slice none 0 0) := ⟨_, rfl⟩
     have X7 : Blk W7 (w.heap.size + 1 + 1) 27 [.int .i64 0, .int .i64 0, .slice none 0 0] := by
      rw [hW7]
      exact ((Z6.out.set_ 0 _).set_ 1 _).set_ 2 _
     have Y7 : Below w.heap.size w W7 := by rw [hW7]; exact below3 B6.out (by omega) _ _ _ _ _ _
     rw [← hW7]
     clear hW7
     have r0 := X7.cell 0
     have r1 := X7.cell 1
     have r2 := X7.cell 2
     simp only [List.getElem?_cons_zero, List.getElem?_cons_succ] at r0 r1 r2
     refine bodyPost_ret (v := .tuple #[.agg #[.int .i64 0, .int .i64 0, .slice none 0 0], .int .i64 2]) (by simp [results, Tryz.results58, go_sem, r0, r1, r2]) rfl ⟨Y7, .inl ⟨HPO.out, rfl⟩⟩
    ·have HSM : Hid (∀ e ∈ accT (t.gs ++ u.gs), e.2 ≤ 1073741824) := Lib.hid (fun e he => by
      by_cases h : e.2 ≤ 1073741824
      ·exact h
      ·exact absurd ⟨e, he, by omega⟩ hbig)
     have CG := collectG wr mo t.V w1.heap.size _ HTM.out hmo3 (fun e he => ⟨(HCN.out e he).1, (HCN.out e he).2.1, (HCN.out e he).2.2, HSM.out e he⟩) HCL.out HSO.out
     rw [hmo] at CG
     have HCG := Lib.hid CG
     clear CG hbig ho hv hta hmo
     go_wp2_with fail
     refine HCG.out.mono ?_
     rintro e w6 ⟨Ar, cr, gs', rfl, hpr, hsr, hgo, hb6⟩
     have Z6 := Lib.hid (Z2.out.below' hb6)
     have B6 := Lib.hid (BW.out.trans (hb6.mono BW.out.size))
     have hgf := hgo
     have HGF := Lib.hid (And.intro hpr (And.intro hsr hgo))
     have hzw : w.heap.size + 1 + 1 < wr.heap.size := Z2.out.lt
     generalize (accT (t.gs ++ u.gs)).length = nr at *
     clear hb6 p0 p1 p2 q0 q1 q2 hgo hgf hpr hsr
     obtain ⟨r0, r1, r2, f0, f1, f2⟩ := Z6.out.three
     go_wp2_with fail
     clear r0 r1 r2 f0 f1 f2
     obtain ⟨W7, hW7⟩ : ∃ W7, W7 = ((w6.setCell ⟨w.heap.size + 1 + 1, 0, none⟩ (.int .i64 t.o)).setCell ⟨w.heap.size + 1 + 1, 1, none⟩ (.int .i64 t.V)).setCell ⟨w.heap.size + 1 + 1, 2, none⟩ (.slice Ar nr cr) := ⟨_, rfl⟩
     have X7 : Blk W7 (w.heap.size + 1 + 1) 27 [.int .i64 t.o, .int .i64 t.V, .slice Ar nr cr] := by
      rw [hW7]
      exact ((Z6.out.set_ 0 _).set_ 1 _).set_ 2 _
     have Y7 : Below w.heap.size w W7 := by rw [hW7]; exact below3 B6.out (by omega) _ _ _ _ _ _
     have G7 : GramsAt W7 (.slice Ar nr cr) gs' := by
      rw [hW7]
      exact (((HGF.out.2.2.far (p := ⟨w.heap.size + 1 + 1, 0, none⟩) hzw _).far (p := ⟨w.heap.size + 1 + 1, 1, none⟩) hzw _).far (p := ⟨w.heap.size + 1 + 1, 2, none⟩) hzw _).at_
     rw [← hW7]
     clear hW7
     have r0 := X7.cell 0
     have r1 := X7.cell 1
     have r2 := X7.cell 2
     simp only [List.getElem?_cons_zero, List.getElem?_cons_succ] at r0 r1 r2
     refine bodyPost_ret (v := .tuple #[.agg #[.int .i64 t.o, .int .i64 t.V, .slice Ar nr cr], .int .i64 0]) (by simp [results, Tryz.results58, go_sem, r0, r1, r2]) rfl ⟨Y7, .inr ⟨HOV.out.1, HOV.out.2, HSM.out, Ar, cr, nr, gs', rfl, HGF.out.1, HGF.out.2.1, G7⟩⟩
   ·have HPO : Hid (¬ (t.o = u.o ∧ t.V = u.V) ∨ ∃ e ∈ accT (t.gs ++ u.gs), 1073741824 < e.2) := Lib.hid (.inl hso)
    by_cases ho : t.o = u.o
    ·have b1 : (t.o != u.o) = false := by simpa using ho
     have b2 : (t.V != u.V) = true := by simpa using fun h => hso ⟨ho, h⟩
     clear hso ho
     obtain ⟨r0, r1, r2, f0, f1, f2⟩ := Z2.out.three
     go_wp2_with fail
     clear r0 r1 r2 f0 f1 f2
     obtain ⟨W7, hW7⟩ : ∃ W7, W7 = ((wr.setCell ⟨w.heap.size + 1 + 1, 0, none⟩ (.int .i64 0)).setCell ⟨w.heap.size + 1 + 1, 1, none⟩ (.int .i64 0)).setCell ⟨w.heap.size + 1 + 1, 2, none⟩ (.slice none 0 0) := ⟨_, rfl⟩
     have X7 : Blk W7 (w.heap.size + 1 + 1) 27 [.int .i64 0, .int .i64 0, .slice none 0 0] := by
      rw [hW7]
      exact ((Z2.out.set_ 0 _).set_ 1 _).set_ 2 _
     have Y7 : Below w.heap.size w W7 := by rw [hW7]; exact below3 BW.out (by omega) _ _ _ _ _ _
     rw [← hW7]
     clear hW7
     have r0 := X7.cell 0
     have r1 := X7.cell 1
     have r2 := X7.cell 2
     simp only [List.getElem?_cons_zero, List.getElem?_cons_succ] at r0 r1 r2
     refine bodyPost_ret (v := .tuple #[.agg #[.int .i64 0, .int .i64 0, .slice none 0 0], .int .i64 2]) (by simp [results, Tryz.results58, go_sem, r0, r1, r2]) rfl ⟨Y7, .inl ⟨HPO.out, rfl⟩⟩
    ·have b1 : (t.o != u.o) = true := by simpa using ho
     clear hso ho
     obtain ⟨r0, r1, r2, f0, f1, f2⟩ := Z2.out.three
     go_wp2_with fail
     clear r0 r1 r2 f0 f1 f2
     obtain ⟨W7, hW7⟩ : ∃ W7, W7 = ((wr.setCell ⟨w.heap.size + 1 + 1, 0, none⟩ (.int .i64 0)).setCell ⟨w.heap.size + 1 + 1, 1, none⟩ (.int .i64 0)).setCell ⟨w.heap.size + 1 + 1, 2, none⟩ (.slice none 0 0) := ⟨_, rfl⟩
     have X7 : Blk W7 (w.heap.size + 1 + 1) 27 [.int .i64 0, .int .i64 0, .slice none 0 0] := by
      rw [hW7]
      exact ((Z2.out.set_ 0 _).set_ 1 _).set_ 2 _
     have Y7 : Below w.heap.size w W7 := by rw [hW7]; exact below3 BW.out (by omega) _ _ _ _ _ _
     rw [← hW7]
     clear hW7
     have r0 := X7.cell 0
     have r1 := X7.cell 1
     have r2 := X7.cell 2
     simp only [List.getElem?_cons_zero, List.getElem?_cons_succ] at r0 r1 r2
     refine bodyPost_ret (v := .tuple #[.agg #[.int .i64 0, .int .i64 0, .slice none 0 0], .int .i64 2]) (by simp [results, Tryz.results58, go_sem, r0, r1, r2]) rfl ⟨Y7, .inl ⟨HPO.out, rfl⟩⟩
  ·obtain ⟨gh, rfl⟩ : ∃ g, gk = g + 1 := ⟨gk - 1, by omega⟩
   obtain ⟨x, hx⟩ : ∃ x, [t, u][j]? = some x := ⟨_, List.getElem?_eq_getElem (by simp; omega)⟩
   obtain ⟨_, _, e, _, _, hat⟩ := TA.out.open_
   cases e
   obtain ⟨_, _, e, _, e0, e1, e2, _⟩ := hat j x hx
   cases e
   simp only [Nat.zero_add] at e0 e1 e2
   have HX := Lib.hid hx
   have hxall := HALL.out x (List.mem_of_getElem? hx)
   have HTB := Lib.hid (allG_take hx)
   have HSUB := Lib.hid (fun k g hg => allG_sub hx k g hg)
   have HPART := Lib.hid (fun k => allG_part hx k)
   clear hat hx
   obtain ⟨ox, Vx, Ax, cx, gx⟩ := x
   simp only [Tb.lv] at e0 e1 e2 hxall
   obtain ⟨_, _, e, hcx, hcxm, hatx⟩ := hxall.1.open_
   cases e
   have HATX := Lib.hid hatx
   clear hatx hxall
   obtain ⟨L, hL⟩ : ∃ L, gx.length = L := ⟨_, rfl⟩
   have HL := Lib.hid hL
   rw [hL] at e2 hcx
   clear hL
   go_wp2_with fail
   obtain ⟨wo, hwo⟩ : ∃ wo, wo = wr := ⟨_, rfl⟩
   have HM0 : Hid (TMap keyV (Value.int .i64) (wr.alloc (.cells #[.int .i64 ox, .int .i64 Vx, .slice Ax L cx] 27)) 120 w1.heap.size (accT (allG ([t, u].take j) ++ gx.take 0))) := Lib.hid (by
    rw [List.take_zero, List.append_nil]
    exact HM.out.below (below_alloc_self _ _))
   have BL0 : Hid (Below w1.heap.size w1 (wr.alloc (.cells #[.int .i64 ox, .int .i64 Vx, .slice Ax L cx] 27))) := Lib.hid (BEL.out.alloc (by omega) _)
   have HD0 := Lib.hid (HD.out.below' (below_alloc_self wr (.cells #[.int .i64 ox, .int .i64 Vx, .slice Ax L cx] 27)))
   clear HM BEL HD BW TA e0 e1 e2
   obtain ⟨W3, hW3⟩ : ∃ W3, W3 = wr.alloc (.cells #[.int .i64 ox, .int .i64 Vx, .slice Ax L cx] 27) := ⟨_, rfl⟩
   rw [← hW3] at HM0 BL0 HD0 ⊢
   clear hW3 hwo hsz
   clear wo
   go_loopg [32] L (fun g2 i2 wr => ∃ (k : Nat), i2 = .int .i64 k ∧ k + g2 = L ∧ Hid (TMap keyV (Value.int .i64) wr 120 w1.heap.size (accT (allG ([t, u].take j) ++ gx.take k))) ∧ Hid (Below w1.heap.size w1 wr) ∧ Hid (Blk wr (w1.heap.size + 1) 27 [.int .i64 t.o, .int .i64 t.V, t.lv, .int .i64 u.o, .int .i64 u.V, u.lv]))
   case atStart => exact ⟨0, rfl, by omega, HM0, BL0, HD0⟩
   case round =>
    clear HM0 BL0 HD0
    obtain ⟨k, rfl, hk, HM, BEL, HD⟩ := hrel
    have BW := Lib.hid (B1.out.trans (BEL.out.mono B1.out.size))
    have hsz : w1.heap.size + 1 < wr.heap.size := HD.out.lt
    rcases Nat.eq_zero_or_pos gk with h | h
    ·obtain rfl : k = L := by omega
     have HE2 : Hid (accT (allG ([t, u].take j) ++ gx.take k) = accT (allG ([t, u].take (j + 1)))) := Lib.hid (by rw [HTB.out, List.take_of_length_le (l := gx) (by rw [HL.out]; exact Nat.le_refl _)])
     go_wp2_with fail
     go_roundg gh
     case measure => omega
     case rel => exact ⟨j + 1, rfl, by omega, Lib.hid (by rw [← HE2.out]; exact HM.out), BEL, HD⟩
    ·obtain ⟨g2, rfl⟩ : ∃ g, gk = g + 1 := ⟨gk - 1, by omega⟩
     obtain ⟨g, hg⟩ : ∃ g, gx[k]? = some g := ⟨_, List.getElem?_eq_getElem (by rw [HL.out]; omega)⟩
     obtain ⟨ba, oa, c0, rfl, hba, e0, e1, hi⟩ := HATX.out k g hg
     have d0 := (BW.out.cell (p := ⟨ba, oa + k * 2, none⟩) hba).trans e0
     have d1 := (BW.out.cell (p := ⟨ba, oa + k * 2 + 1, none⟩) hba).trans e1
     have HNG : Hid (NiceG g) := Lib.hid (by
      have hm := HSUB.out (k + 1) g (by rw [take_succ_get _ hg]; simp)
      obtain ⟨x, hx, hgx⟩ := List.mem_flatMap.1 hm
      exact table_nice (HALL.out x hx).2 g hgx)
     have HNK := Lib.hid HNG.out.key
     have HNI : Hid (NiceM (20000 * 1073741824) (accT (allG ([t, u].take j) ++ gx.take k))) := Lib.hid (fun e he => by
      obtain ⟨h1, h2, h3⟩ := acc_niceG (l := allG ([t, u].take j) ++ gx.take k) (fun g hg => by
       obtain ⟨x, hx, hgx⟩ := List.mem_flatMap.1 (HSUB.out k g hg)
       exact table_nice (HALL.out x hx).2 g hgx) e he
      have h4 := HPART.out k
      have h5 := HLEN.out
      exact ⟨h1, h2, by omega⟩)
     have HKK : Hid (accT (allG ([t, u].take j) ++ gx.take (k + 1)) = addT (accT (allG ([t, u].take j) ++ gx.take k)) (g.1, g.2)) := Lib.hid (by rw [take_succ_get _ hg, ← List.append_assoc, accT_snoc])
     obtain ⟨A1, c1, rfl, hc1, hc1m, _⟩ := hi.open_
     have HI := Lib.hid (hi.below BW.out)
     clear e0 e1 hi hg
     obtain ⟨ks, N⟩ := g
     simp only at d0 d1 HNG HNK HI HKK hc1
     have hbd := HNG.out.2.2
     simp only at hbd
     generalize accT (allG ([t, u].take j) ++ gx.take k) = m at *
     obtain ⟨v, hv⟩ : ∃ v, (lookT m ks).getD 0 = v := ⟨_, rfl⟩
     have hvb := HNI.out.look (by omega) ks
     rw [hv] at hvb
     have HV := Lib.hid hv
     obtain ⟨lk, hlk⟩ : ∃ lk, ks.length = lk := ⟨_, rfl⟩
     rw [hlk] at d0 hc1
     have HI2 : Hid (IntsAt wr (.slice A1 lk c1) ks) := Lib.hid (by rw [← hlk]; exact HI.out)
     clear hv hlk HI
     go_wp2_with fail
     obtain ⟨W4, hW4, G0, GB, Ghs⟩ := box1 wr 51 [.slice A1 lk c1, .int .i64 N]
     rw [← hW4]
     clear hW4
     have g0 := G0.out.cell 0
     have g1 := G0.out.cell 1
     simp only [List.getElem?_cons_zero, List.getElem?_cons_succ] at g0 g1
     have hwrap : IntKind.i64.wrap (v + N) = v + N := IntWalk.i64_in _ (by omega)
     have hB1 : w1.heap.size ≤ wr.heap.size := by omega
     go_region_with (first
      | (go_at_call 81; refine (keyedG _ _ _ (HI2.out.below (GB.out.trans (below_drew_self _))) HNK.out.1 (fun z hz => by have := HNK.out.2 z hz; omega)).mono ?_; rintro e w2 ⟨rfl, hb2'⟩; have hb2 := below_of_drew hb2'; have HM2 : TMap keyV (Value.int .i64) w2 120 w1.heap.size m := HM.out.below (bcomp GB.out hb2); have inj : ∀ e ∈ m, keyV e.1 = keyV ks → e.1 = ks := fun e he h => (HNI.out e he).1.inj HNK.out h; have hlook := HM2.look keyLaw Tryz.underlying115 (zeroInt w2) HNK.out.good inj; obtain ⟨jj, w3, hent, hmid, hg3, hlook3⟩ := HM2.entry keyLaw Tryz.underlying115 zeroInt HNK.out.good inj; rw [elim_getD, HV.out] at hlook hent hlook3; obtain ⟨w4, hst, hT4, hg4⟩ := hmid.store (t := 115) (v + N); have GB2 := G0.out.below' hb2; have g12 := GB2.cell 1; have g13 := (GB2.grown hg3 (by simp; omega)).cell 1; simp only [List.getElem?_cons_zero, List.getElem?_cons_succ] at g12 g13; have T4 := Lib.hid hT4; have B4 := Lib.hid (grown_trans (bcomp GB.out hb2) hg3 hg4 (Nat.le_refl w1.heap.size) (Nat.le_refl w1.heap.size) hB1); have HD4 := Lib.hid (((HD.out.below' (bcomp GB.out hb2)).grown hg3 (by simp)).grown hg4 (by simp)); clear HM2 inj hmid hg3 hg4 GB2 hT4 hb2 hb2'))
     all_goals
      go_wp2_with fail
      go_roundg g2
      case measure => omega
      case rel => exact ⟨k + 1, rfl, by omega, Lib.hid (by rw [HKK.out]; unfold addT; simp only; rw [HV.out]; exact T4.out), Lib.hid (BEL.out.trans B4.out), HD4⟩
end Go.Proofs.YtjebfdfkjlkifaaGreat
