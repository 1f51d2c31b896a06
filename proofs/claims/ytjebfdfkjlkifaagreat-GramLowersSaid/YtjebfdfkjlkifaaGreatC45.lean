/- Lemmas on the way: Lt1, LoQ. -/
import Derived.Test.YtjebfdfkjlkifaaGreatC44
set_option linter.unusedSimpArgs false
set_option linter.unusedVariables false
set_option linter.unusedSectionVars false
set_option linter.unnecessarySimpa false
namespace Go.Proofs.YtjebfdfkjlkifaaGreat
open Go.RowKit
def lowL (gs : List Gr) : List Gr := gs.map fun g => (g.1.drop 1, g.2)
theorem lowL_nice {gs : List Gr} (h : ∀ g ∈ gs, NiceG g) : ∀ g ∈ lowL gs, NiceG g := by
 intro g hg
 obtain ⟨x, hx, rfl⟩ := List.mem_map.1 hg
 have := h x hx
 exact ⟨by show (x.1.drop 1).length ≤ 4; rw [List.length_drop]; have := this.1; omega, fun z hz => this.2.1 z (List.mem_of_mem_drop hz), this.2.2⟩
theorem lowL_len {n : Nat} {gs : List Gr} (h : ∀ g ∈ gs, g.1.length = n + 1) : ∀ g ∈ lowL gs, g.1.length = n := by
 intro g hg
 obtain ⟨x, hx, rfl⟩ := List.mem_map.1 hg
 have := h x hx
 show (x.1.drop 1).length = n
 rw [List.length_drop]
 omega
def LowerP (w : World) (t : Tb) (e : Ending) (w' : World) : Prop := Below w.heap.size w w' ∧
 ((tableE t.o t.V t.gs ≠ 0 ∧ e = .returned (.tuple #[.agg #[.int .i64 0, .int .i64 0, .slice none 0 0], .int .i64 (tableE t.o t.V t.gs)])) ∨
  (tableE t.o t.V t.gs = 0 ∧ (t.o = 1 ∨ ∃ e ∈ accT (lowL t.gs), 1073741824 < e.2) ∧ e = .returned (.tuple #[.agg #[.int .i64 0, .int .i64 0, .slice none 0 0], .int .i64 2])) ∨
  (tableE t.o t.V t.gs = 0 ∧ t.o ≠ 1 ∧ (∀ e ∈ accT (lowL t.gs), e.2 ≤ 1073741824) ∧ ∃ A c n gs', e = .returned (.tuple #[.agg #[.int .i64 (t.o - 1), .int .i64 t.V, .slice A n c], .int .i64 0]) ∧ gs'.Perm (accT (lowL t.gs)) ∧ SortedG gs' ∧ GramsAt w' (.slice A n c) gs'))

set_option maxRecDepth 1000000 in
set_option maxHeartbeats 16000000 in
theorem lowerTG (hsort : SortOk) (w : World) (t : Tb) (ht : GramsAt w t.lv t.gs) :
  Calls Tryz.prog 59 #[.agg #[.int .i64 t.o, .int .i64 t.V, t.lv]] w (LowerP w t) := by
 obtain ⟨o, V, A, c, gs⟩ := t
 simp only [Tb.lv] at ht ⊢
 have HT := Lib.hid ht
 have HSO := Lib.hid hsort
 clear ht hsort
 obtain ⟨L, hL⟩ : ∃ L, gs.length = L := ⟨_, rfl⟩
 have HL := Lib.hid hL
 rw [hL] at HT ⊢
 clear hL
 obtain ⟨te, hte⟩ : ∃ te, tableE o V gs = te := ⟨_, rfl⟩
 have HTE := Lib.hid hte
 clear hte
 by_cases hz : te = 0
 ·subst hz
  have hta := table_all HTE.out
  by_cases ho : o = 1
  ·have d1 : (o == 1) = true := by simpa using ho
   have HPO : Hid (o = 1 ∨ ∃ e ∈ accT (lowL gs), 1073741824 < e.2) := Lib.hid (.inl ho)
   clear hta ho
   go_enter Tryz.func59, Tryz.ntmps59
   go_wp2_with fail
   obtain ⟨W, hW, P0, P1, PB, Phs⟩ := box2 w 27 [.int .i64 o, .int .i64 V, .slice A L c] 27 [.int .i64 0, .int .i64 0, .slice none 0 0]
   rw [← hW]
   clear hW
   refine (checkTableG _ o V _ gs (HT.out.below PB.out)).mono ?_
   rintro e w1 ⟨rfl, hb1⟩
   rw [HTE.out]
   have B1 := Lib.hid (PB.out.trans (hb1.mono (by omega)))
   have Q0 := Lib.hid (P0.out.below' hb1)
   have Q1 := Lib.hid (P1.out.below' hb1)
   have z0 : w.heap.size < w1.heap.size := Q0.out.lt
   have z1 : w.heap.size + 1 < w1.heap.size := Q1.out.lt
   clear hb1 P0 P1 PB
   obtain ⟨p0, p1, p2, _, _, _⟩ := Q0.out.three
   obtain ⟨r0, r1, r2, f0, f1, f2⟩ := Q1.out.three
   go_wp2_with fail
   clear r0 r1 r2 f0 f1 f2
   obtain ⟨W7, hW7⟩ : ∃ W7, W7 = ((w1.setCell ⟨w.heap.size + 1, 0, none⟩ (.int .i64 0)).setCell ⟨w.heap.size + 1, 1, none⟩ (.int .i64 0)).setCell ⟨w.heap.size + 1, 2, none⟩ (.slice none 0 0) := ⟨_, rfl⟩
   have X7 : Blk W7 (w.heap.size + 1) 27 [.int .i64 0, .int .i64 0, .slice none 0 0] := by
    rw [hW7]
    exact ((Q1.out.set_ 0 _).set_ 1 _).set_ 2 _
   have Y7 : Below w.heap.size w W7 := by rw [hW7]; exact below3 B1.out (by omega) _ _ _ _ _ _
   rw [← hW7]
   clear hW7
   have r0 := X7.cell 0
   have r1 := X7.cell 1
   have r2 := X7.cell 2
   simp only [List.getElem?_cons_zero, List.getElem?_cons_succ] at r0 r1 r2
   refine bodyPost_ret (v := .tuple #[.agg #[.int .i64 0, .int .i64 0, .slice none 0 0], .int .i64 2]) (by simp [results, Tryz.results59, go_sem, r0, r1, r2]) rfl ⟨Y7, .inr (.inl ⟨HTE.out, HPO.out, rfl⟩)⟩
  ·have d1 : (o == 1) = false := by simpa using ho
   have HO1 := Lib.hid ho
   obtain ⟨mo, hmo⟩ : ∃ mo : Nat, ((mo + 1 : Nat) : Int) = o - 1 := ⟨(o - 2).toNat, by omega⟩
   have hmo3 : mo ≤ 3 := by omega
   have HGN : Hid (∀ g ∈ gs, NiceG g) := Lib.hid (table_nice HTE.out)
   have HGL : Hid (∀ g ∈ gs, g.1.length = mo + 1 + 1) := Lib.hid (fun g hg => by have := hta.2.2.2.2.2.1 g hg; omega)
   have HLE : Hid (gs.length ≤ 20000) := Lib.hid hta.1
   have HCN : Hid (∀ e ∈ accT (lowL gs), e.1.length = mo + 1 ∧ NiceK e.1 ∧ 0 ≤ e.2) := Lib.hid (fun e he => by
    have hn := acc_niceG (lowL_nice HGN.out) e he
    exact ⟨acc_len (lowL_len HGL.out) e he, hn.1, hn.2.1⟩)
   have HCL : Hid ((accT (lowL gs)).length ≤ 20000) := Lib.hid (Nat.le_trans (acc_count _) (by unfold lowL; rw [List.length_map]; exact HLE.out))
   have hw1 : IntKind.i64.wrap (o - 1) = o - 1 := IntWalk.i64_in _ (by omega)
   have HLW : Hid (∀ W, GramsAt W (.slice A L c) gs → Calls Tryz.prog 129 #[.agg #[.int .i64 o, .int .i64 V, .slice A L c]] W fun e w' => ∃ b, e = .returned (.map (some b)) ∧ TMap keyV (Value.int .i64) w' 120 b (accT (lowL gs)) ∧ W.heap.size ≤ b ∧ Below W.heap.size W w') := Lib.hid (fun W hW => lowerG W o V _ gs (mo + 1) hW (fun g hg => by
    have h1 := HGN.out g hg
    have h2 := HGL.out g hg
    exact ⟨h2, by have := h1.1; omega, fun x hx => by have := h1.2.1 x hx; omega, by have := h1.2.2; omega, h1.2.2.2⟩) HLE.out)
   by_cases hbig : ∃ e ∈ accT (lowL gs), 1073741824 < e.2
   ·have HPO : Hid (o = 1 ∨ ∃ e ∈ accT (lowL gs), 1073741824 < e.2) := Lib.hid (.inr hbig)
    have HCG : Hid (∀ W b, TMap keyV (Value.int .i64) W 120 b (accT (lowL gs)) → Calls Tryz.prog 82 #[.int .i64 (o - 1), .int .i64 V, .map (some b)] W fun e w' => e = .returned (.tuple #[.agg #[.int .i64 0, .int .i64 0, .slice none 0 0], .int .i64 2]) ∧ Below W.heap.size W w') := Lib.hid (fun W b hm => by
     have := collectErrG W mo V b _ hm hmo3 HCN.out HCL.out hbig
     rwa [hmo] at this)
    clear hbig ho hta hmo
    go_enter Tryz.func59, Tryz.ntmps59
    go_wp2_with fail
    obtain ⟨W, hW, P0, P1, PB, Phs⟩ := box2 w 27 [.int .i64 o, .int .i64 V, .slice A L c] 27 [.int .i64 0, .int .i64 0, .slice none 0 0]
    rw [← hW]
    clear hW
    refine (checkTableG _ o V _ gs (HT.out.below PB.out)).mono ?_
    rintro e w1 ⟨rfl, hb1⟩
    rw [HTE.out]
    have B1 := Lib.hid (PB.out.trans (hb1.mono (by omega)))
    have Q0 := Lib.hid (P0.out.below' hb1)
    have Q1 := Lib.hid (P1.out.below' hb1)
    have z0 : w.heap.size < w1.heap.size := Q0.out.lt
    have z1 : w.heap.size + 1 < w1.heap.size := Q1.out.lt
    clear hb1 P0 P1 PB
    obtain ⟨p0, p1, p2, _, _, _⟩ := Q0.out.three
    have hS := And.intro p0 (And.intro p1 p2)
    have BB := Lib.hid (Below.refl w1.heap.size w1)
    have HT1 := Lib.hid (HT.out.below B1.out)
    go_upto_region 6 with fail
    go_region_held3 (fun w' => w'.cell? ⟨w.heap.size, 0, none⟩ = some (.int .i64 o) ∧ w'.cell? ⟨w.heap.size, 1, none⟩ = some (.int .i64 V) ∧ w'.cell? ⟨w.heap.size, 2, none⟩ = some (.slice A L c)) (first | assumption | go_keep)
     (first
      | (go_at_call 129; refine (HLW.out _ ?_).mono ?_; (first | exact HT1.out | exact HT1.out.below (below_drew_self _) | exact HT1.out.below (below_alloc_self _ _) | exact HT1.out.below (below_alloc_drew _ _)); rintro e wl ⟨b, rfl, hm, _, hb⟩; (first | replace hb := below_new_drew hb | replace hb := below_new hb | replace hb := below_of_drew hb | skip); replace BB := Lib.hid (BB.out.trans (hb.mono BB.out.size)); have HM := Lib.hid hm; obtain ⟨y0, y1, y2, _, _, _⟩ := (Q0.out.below' BB.out).three; have hS := And.intro y0 (And.intro y1 y2); clear hb hm y0 y1 y2)
      | (go_at_call 82; refine (HCG.out _ _ ?_).mono ?_; (first | exact HM.out | exact HM.out.below (below_drew_self _) | exact HM.out.below (below_alloc_self _ _) | exact HM.out.below (below_alloc_drew _ _)); rintro e wl ⟨rfl, hb⟩; (first | replace hb := below_new_drew hb | replace hb := below_new hb | replace hb := below_of_drew hb | skip); replace BB := Lib.hid (BB.out.trans (hb.mono BB.out.size)); obtain ⟨y0, y1, y2, _, _, _⟩ := (Q0.out.below' BB.out).three; have hS := And.intro y0 (And.intro y1 y2); obtain ⟨r0, r1, r2, f0, f1, f2⟩ := (Q1.out.below' BB.out).three; clear hb y0 y1 y2))
    obtain ⟨W7, hW7⟩ : ∃ W7, W7 = ((wl.setCell ⟨w.heap.size + 1, 0, none⟩ (.int .i64 0)).setCell ⟨w.heap.size + 1, 1, none⟩ (.int .i64 0)).setCell ⟨w.heap.size + 1, 2, none⟩ (.slice none 0 0) := ⟨_, rfl⟩
    have X7 : Blk W7 (w.heap.size + 1) 27 [.int .i64 0, .int .i64 0, .slice none 0 0] := by
     rw [hW7]
     exact (((Q1.out.below' BB.out).set_ 0 _).set_ 1 _).set_ 2 _
    have Y7 : Below w.heap.size w W7 := by rw [hW7]; exact below3 (B1.out.trans (BB.out.mono B1.out.size)) (by omega) _ _ _ _ _ _
    rw [← hW7]
    clear hW7 r0 r1 r2 f0 f1 f2
    have r0 := X7.cell 0
    have r1 := X7.cell 1
    have r2 := X7.cell 2
    simp only [List.getElem?_cons_zero, List.getElem?_cons_succ] at r0 r1 r2
    go_wp2_with fail
    refine bodyPost_ret (v := .tuple #[.agg #[.int .i64 0, .int .i64 0, .slice none 0 0], .int .i64 2]) (by simp [results, Tryz.results59, go_sem, r0, r1, r2]) rfl ⟨Y7, .inr (.inl ⟨HTE.out, HPO.out, rfl⟩)⟩
   ·have HSM : Hid (∀ e ∈ accT (lowL gs), e.2 ≤ 1073741824) := Lib.hid (fun e he => by
     by_cases h : e.2 ≤ 1073741824
     ·exact h
     ·exact absurd ⟨e, he, by omega⟩ hbig)
    have HCG : Hid (∀ W b, TMap keyV (Value.int .i64) W 120 b (accT (lowL gs)) → Calls Tryz.prog 82 #[.int .i64 (o - 1), .int .i64 V, .map (some b)] W fun e w' => ∃ A c n gs', e = .returned (.tuple #[.agg #[.int .i64 (o - 1), .int .i64 V, .slice A n c], .int .i64 0]) ∧ gs'.Perm (accT (lowL gs)) ∧ SortedG gs' ∧ GOwn W.heap.size w' (.slice A n c) gs' ∧ Below W.heap.size W w') := Lib.hid (fun W b hm => by
     have := collectG W mo V b _ hm hmo3 (fun e he => ⟨(HCN.out e he).1, (HCN.out e he).2.1, (HCN.out e he).2.2, HSM.out e he⟩) HCL.out HSO.out
     rw [hmo] at this
     refine this.mono ?_
     rintro e w' ⟨A, c, gs', h1, h2⟩
     exact ⟨A, c, _, gs', h1, h2⟩)
    clear hbig ho hta hmo
    go_enter Tryz.func59, Tryz.ntmps59
    go_wp2_with fail
    obtain ⟨W, hW, P0, P1, PB, Phs⟩ := box2 w 27 [.int .i64 o, .int .i64 V, .slice A L c] 27 [.int .i64 0, .int .i64 0, .slice none 0 0]
    rw [← hW]
    clear hW
    refine (checkTableG _ o V _ gs (HT.out.below PB.out)).mono ?_
    rintro e w1 ⟨rfl, hb1⟩
    rw [HTE.out]
    have B1 := Lib.hid (PB.out.trans (hb1.mono (by omega)))
    have Q0 := Lib.hid (P0.out.below' hb1)
    have Q1 := Lib.hid (P1.out.below' hb1)
    have z0 : w.heap.size < w1.heap.size := Q0.out.lt
    have z1 : w.heap.size + 1 < w1.heap.size := Q1.out.lt
    clear hb1 P0 P1 PB
    obtain ⟨p0, p1, p2, _, _, _⟩ := Q0.out.three
    have hS := And.intro p0 (And.intro p1 p2)
    have BB := Lib.hid (Below.refl w1.heap.size w1)
    have HT1 := Lib.hid (HT.out.below B1.out)
    go_upto_region 6 with fail
    go_region_held3 (fun w' => w'.cell? ⟨w.heap.size, 0, none⟩ = some (.int .i64 o) ∧ w'.cell? ⟨w.heap.size, 1, none⟩ = some (.int .i64 V) ∧ w'.cell? ⟨w.heap.size, 2, none⟩ = some (.slice A L c)) (first | assumption | go_keep)
     (first
      | (go_at_call 129; refine (HLW.out _ ?_).mono ?_; (first | exact HT1.out | exact HT1.out.below (below_drew_self _) | exact HT1.out.below (below_alloc_self _ _) | exact HT1.out.below (below_alloc_drew _ _)); rintro e wl ⟨b, rfl, hm, _, hb⟩; (first | replace hb := below_new_drew hb | replace hb := below_new hb | replace hb := below_of_drew hb | skip); replace BB := Lib.hid (BB.out.trans (hb.mono BB.out.size)); have HM := Lib.hid hm; obtain ⟨y0, y1, y2, _, _, _⟩ := (Q0.out.below' BB.out).three; have hS := And.intro y0 (And.intro y1 y2); clear hb hm y0 y1 y2)
      | (go_at_call 82; refine (HCG.out _ _ ?_).mono ?_; (first | exact HM.out | exact HM.out.below (below_drew_self _) | exact HM.out.below (below_alloc_self _ _) | exact HM.out.below (below_alloc_drew _ _)); rintro e wl ⟨Ar, cr, nr, gs', rfl, hp, hs, hg, hb⟩; have HGF := Lib.hid (And.intro hp (And.intro hs (hg.mono (base' := w1.heap.size) BB.out.size))); clear hp hs hg; (first | replace hb := below_new_drew hb | replace hb := below_new hb | replace hb := below_of_drew hb | skip); replace BB := Lib.hid (BB.out.trans (hb.mono BB.out.size)); obtain ⟨y0, y1, y2, _, _, _⟩ := (Q0.out.below' BB.out).three; have hS := And.intro y0 (And.intro y1 y2); obtain ⟨r0, r1, r2, f0, f1, f2⟩ := (Q1.out.below' BB.out).three; clear hb y0 y1 y2))
    obtain ⟨W7, hW7⟩ : ∃ W7, W7 = ((wl.setCell ⟨w.heap.size + 1, 0, none⟩ (.int .i64 (o - 1))).setCell ⟨w.heap.size + 1, 1, none⟩ (.int .i64 V)).setCell ⟨w.heap.size + 1, 2, none⟩ (.slice Ar nr cr) := ⟨_, rfl⟩
    have X7 : Blk W7 (w.heap.size + 1) 27 [.int .i64 (o - 1), .int .i64 V, .slice Ar nr cr] := by
     rw [hW7]
     exact (((Q1.out.below' BB.out).set_ 0 _).set_ 1 _).set_ 2 _
    have Y7 : Below w.heap.size w W7 := by rw [hW7]; exact below3 (B1.out.trans (BB.out.mono B1.out.size)) (by omega) _ _ _ _ _ _
    have G7 : GramsAt W7 (.slice Ar nr cr) gs' := by
     rw [hW7]
     exact (((HGF.out.2.2.far (p := ⟨w.heap.size + 1, 0, none⟩) z1 _).far (p := ⟨w.heap.size + 1, 1, none⟩) z1 _).far (p := ⟨w.heap.size + 1, 2, none⟩) z1 _).at_
    rw [← hW7]
    clear hW7 r0 r1 r2 f0 f1 f2
    have r0 := X7.cell 0
    have r1 := X7.cell 1
    have r2 := X7.cell 2
    simp only [List.getElem?_cons_zero, List.getElem?_cons_succ] at r0 r1 r2
    go_wp2_with fail
    refine bodyPost_ret (v := .tuple #[.agg #[.int .i64 (o - 1), .int .i64 V, .slice Ar nr cr], .int .i64 0]) (by simp [results, Tryz.results59, go_sem, r0, r1, r2]) rfl ⟨Y7, .inr (.inr ⟨HTE.out, HO1.out, HSM.out, Ar, cr, nr, gs', rfl, HGF.out.1, HGF.out.2.1, G7⟩)⟩
 ·have dz : (te != 0) = true := by simpa using hz
  have HZ := Lib.hid hz
  clear hz
  go_enter Tryz.func59, Tryz.ntmps59
  go_wp2_with fail
  obtain ⟨W, hW, P0, P1, PB, Phs⟩ := box2 w 27 [.int .i64 o, .int .i64 V, .slice A L c] 27 [.int .i64 0, .int .i64 0, .slice none 0 0]
  rw [← hW]
  clear hW
  refine (checkTableG _ o V _ gs (HT.out.below PB.out)).mono ?_
  rintro e w1 ⟨rfl, hb1⟩
  rw [HTE.out]
  have B1 := Lib.hid (PB.out.trans (hb1.mono (by omega)))
  have Q0 := Lib.hid (P0.out.below' hb1)
  have Q1 := Lib.hid (P1.out.below' hb1)
  have z0 : w.heap.size < w1.heap.size := Q0.out.lt
  have z1 : w.heap.size + 1 < w1.heap.size := Q1.out.lt
  clear hb1 P0 P1 PB
  obtain ⟨r0, r1, r2, f0, f1, f2⟩ := Q1.out.three
  go_wp2_with fail
  clear r0 r1 r2 f0 f1 f2
  obtain ⟨W7, hW7⟩ : ∃ W7, W7 = ((w1.setCell ⟨w.heap.size + 1, 0, none⟩ (.int .i64 0)).setCell ⟨w.heap.size + 1, 1, none⟩ (.int .i64 0)).setCell ⟨w.heap.size + 1, 2, none⟩ (.slice none 0 0) := ⟨_, rfl⟩
  have X7 : Blk W7 (w.heap.size + 1) 27 [.int .i64 0, .int .i64 0, .slice none 0 0] := by
   rw [hW7]
   exact ((Q1.out.set_ 0 _).set_ 1 _).set_ 2 _
  have Y7 : Below w.heap.size w W7 := by rw [hW7]; exact below3 B1.out (by omega) _ _ _ _ _ _
  rw [← hW7]
  clear hW7
  have r0 := X7.cell 0
  have r1 := X7.cell 1
  have r2 := X7.cell 2
  simp only [List.getElem?_cons_zero, List.getElem?_cons_succ] at r0 r1 r2
  refine bodyPost_ret (v := .tuple #[.agg #[.int .i64 0, .int .i64 0, .slice none 0 0], .int .i64 te]) (by simp [results, Tryz.results59, go_sem, r0, r1, r2]) rfl ⟨Y7, .inl ⟨by show tableE o V gs ≠ 0; rw [HTE.out]; exact HZ.out, by show _ = Ending.returned (.tuple #[_, .int .i64 (tableE o V gs)]); rw [HTE.out]⟩⟩
theorem tot0_cons (e : Gr) (m : List Gr) (k : List Int) : tot 0 (e :: m) k = (if e.1 = k then e.2 else 0) + tot 0 m k := by
 unfold tot
 rw [totP_cons]
 simp
theorem tot0_none {m : List Gr} {k : List Int} (h : ∀ e ∈ m, e.1 ≠ k) : tot 0 m k = 0 := by
 induction m with
 | nil => rfl
 | cons e m ih =>
  rw [tot0_cons, if_neg (h e List.mem_cons_self), ih (fun x hx => h x (List.mem_cons_of_mem _ hx))]
  rfl
theorem tot0_nodup {m : List Gr} (h : (m.map Prod.fst).Nodup) (k : List Int) : tot 0 m k = (lookT m k).getD 0 := by
 induction m with
 | nil => rfl
 | cons e m ih =>
  rw [List.map_cons, List.nodup_cons] at h
  rw [tot0_cons, look_cons]
  by_cases hk : e.1 = k
  ·rw [if_pos hk, if_pos hk, tot0_none (fun x hx e1 => h.1 (List.mem_map.2 ⟨x, hx, by rw [e1, hk]⟩))]
   simp
  ·rw [if_neg hk, if_neg hk, ih h.2]
   omega
theorem Cnt.tot0 {m : List Gr} {T : List Int → Int} (h : Cnt m T) (k : List Int) : tot 0 m k = T k := (tot0_nodup h.1 k).trans (h.2.1 k)
theorem tot_append (d : Nat) (a b : List Gr) (k : List Int) : tot d (a ++ b) k = tot d a k + tot d b k := by
 induction a with
 | nil => rw [List.nil_append, show tot d [] k = 0 from rfl]; omega
 | cons e a ih =>
  unfold tot at ih ⊢
  rw [List.cons_append, totP_cons, totP_cons, ih]
  omega
theorem acc_tot {l : List Gr} (h : ∀ g ∈ l, 0 < g.2) : Cnt (accT l) (tot 0 l) := by
 have key : ∀ (l m : List Gr) (T : List Int → Int), (∀ g ∈ l, 0 < g.2) → Cnt m T → Cnt (l.foldl addT m) (fun k => T k + tot 0 l k) := by
  intro l
  induction l with
  | nil => intro m T _ hm; exact hm.congr (fun k => by show T k = T k + 0; omega)
  | cons e l ih =>
   intro m T h hm
   obtain ⟨a, b⟩ := e
   refine (ih (addT m (a, b)) _ (fun x hx => h x (List.mem_cons_of_mem _ hx)) (hm.add (h (a, b) List.mem_cons_self))).congr (fun k => ?_)
   show T k + (if k = a then b else 0) + tot 0 l k = T k + tot 0 ((a, b) :: l) k
   rw [tot0_cons]
   by_cases hk : k = a
   ·rw [if_pos hk, if_pos hk.symm]; omega
   ·rw [if_neg hk, if_neg (fun e => hk e.symm)]; omega
 exact (key l [] (fun _ => 0) h Cnt.nil).congr (fun k => by omega)
theorem ones_pos {m : Nat} {ls : List (List Int)} : ∀ g ∈ onesL m ls, 0 < g.2 := by
 intro g hg
 unfold onesL at hg
 obtain ⟨x, _, rfl⟩ := List.mem_map.1 hg
 exact Int.zero_lt_one
theorem count_cnt (m : Nat) (ls : List (List Int)) : Cnt (countL m ls) (tot 0 (onesL m ls)) := by
 obtain ⟨_, _, T, h3, h4⟩ := count_acc m ls
 have h5 := acc_tot (l := onesL m ls) ones_pos
 exact h3.congr (fun k => ((h4.tot0 k).symm).trans (h5.tot0 k))
theorem ones_split (m : Nat) (ls : List (List Int)) (c : Nat) (k : List Int) : tot 0 (onesL m ls) k = tot 0 (onesL m (ls.take c)) k + tot 0 (onesL m (ls.drop c)) k := by
 rw [← tot_append]
 unfold onesL
 rw [← List.map_append, ← List.flatMap_append, List.take_append_drop]
theorem merge_cnt {m : Nat} {ls : List (List Int)} (a b : List Gr) (h : ∀ k, tot 0 a k + tot 0 b k = tot 0 (onesL m ls) k) (ha : ∀ g ∈ a, 0 < g.2) (hb : ∀ g ∈ b, 0 < g.2) : Cnt (accT (a ++ b)) (tot 0 (onesL m ls)) := by
 refine (acc_tot (l := a ++ b) (fun g hg => ?_)).congr (fun k => (tot_append 0 a b k).trans (h k))
 rcases List.mem_append.1 hg with hg | hg
 ·exact ha g hg
 ·exact hb g hg
theorem half_cnt (m : Nat) (ls : List (List Int)) (c : Nat) : Cnt (accT (countL m (ls.take c) ++ countL m (ls.drop c))) (tot 0 (onesL m ls)) ∧ Cnt (accT (countL m (ls.drop c) ++ countL m (ls.take c))) (tot 0 (onesL m ls)) := by
 have h1 := count_cnt m (ls.take c)
 have h2 := count_cnt m (ls.drop c)
 exact ⟨merge_cnt _ _ (fun k => by rw [h1.tot0, h2.tot0, ← ones_split]) h1.2.2 h2.2.2, merge_cnt _ _ (fun k => by rw [h1.tot0, h2.tot0, ones_split m ls c]; omega) h2.2.2 h1.2.2⟩
theorem cnt_same {m : Nat} {ls : List (List Int)} {gs l : List Gr} (hc : Cnt l (tot 0 (onesL m ls))) (hp : gs.Perm l) (hs : SortedG gs) : gs = countL m ls := by
 obtain ⟨h1, h2, _⟩ := count_acc m ls
 have h3 := count_cnt m ls
 exact sorted_cnt (hp.trans (hc.perm_of h3)) hs h1 h2 h3
theorem count_le {m : Nat} {ls : List (List Int)} (h : ∀ l ∈ ls, l.length ≤ 500) (hn : ls.length ≤ 8) : (countL m ls).length ≤ 4008 ∧ ∀ g ∈ countL m ls, g.2 ≤ 4008 := by
 have hG := good_all (ls.flatMap (gramsL m)) [] 0 (GoodL.nil_ m) gramsAll_len
 have hc := gramsAll_count (m := m) h hn
 exact ⟨Nat.le_trans hG.1 (by omega), fun g hg => by have := hG.2 g hg; omega⟩
theorem cnt_small {m : Nat} {ls : List (List Int)} {l : List Gr} (hc : Cnt l (tot 0 (onesL m ls))) (h : ∀ l ∈ ls, l.length ≤ 500) (hn : ls.length ≤ 8) : ¬ ∃ e ∈ l, 1073741824 < e.2 := by
 rintro ⟨e, he, hb⟩
 have := (count_le (m := m) h hn).2 e ((hc.perm_of (count_cnt m ls)).subset he)
 omega
theorem tot_map1 (l : List Gr) (k : List Int) : tot 0 (lowL l) k = tot 1 l k := by
 induction l with
 | nil => rfl
 | cons e l ih =>
  unfold lowL at ih ⊢
  rw [List.map_cons, tot0_cons, ih]
  unfold tot
  rw [totP_cons]
  simp
theorem grams_low (m : Nat) (s : List Int) : (gramsL (m + 1) s).map (fun g => g.drop 1) = gramsL m s := by
 unfold gramsL
 rw [List.map_map]
 refine List.map_congr_left (fun i _ => ?_)
 show (((fullL (m + 1) s).drop i).take (m + 1 + 1)).drop 1 = _
 rw [List.drop_take, List.drop_drop, show m + 1 + 1 - 1 = m + 1 by omega, show fullL (m + 1) s = 0 :: fullL m s by unfold fullL; rw [List.replicate_succ]; rfl, List.drop_succ_cons]
theorem ones_low (m : Nat) (ls : List (List Int)) : lowL (onesL (m + 1) ls) = onesL m ls := by
 unfold lowL onesL
 rw [List.map_map]
 induction ls with
 | nil => rfl
 | cons l ls ih =>
  rw [List.flatMap_cons, List.flatMap_cons, List.map_append, List.map_append, ih, ← grams_low m l, List.map_map]
  rfl
theorem low_cnt (m : Nat) (ls : List (List Int)) : Cnt (accT (lowL (countL (m + 1) ls))) (tot 0 (onesL m ls)) := by
 have h1 := count_cnt (m + 1) ls
 refine (acc_tot (l := lowL (countL (m + 1) ls)) (fun g hg => ?_)).congr (fun k => ?_)
 ·obtain ⟨x, hx, rfl⟩ := List.mem_map.1 hg
  exact h1.2.2 x hx
 ·rw [tot_map1, ← ones_low m ls, tot_map1]
  exact tot_below (d := 0) h1 ones_pos k
def sumN (gs : List Gr) : Int := totP (fun _ => true) gs
theorem sumN_cons (g : Gr) (gs : List Gr) : sumN (g :: gs) = g.2 + sumN gs := by unfold sumN; rw [totP_cons]; rfl
theorem sumN_put (gs : List Gr) (ws : List Int) (n : Int) : sumN (putL gs ws n) = sumN gs + n := by
 induction gs with
 | nil => unfold putL; rw [sumN_cons]; show n + sumN [] = sumN [] + n; omega
 | cons g gs ih =>
  unfold putL
  split
  ·rw [sumN_cons, sumN_cons, ih]; omega
  ·split
   ·rw [sumN_cons, sumN_cons]; show g.2 + n + _ = _; omega
   ·rw [sumN_cons]; show n + _ = _; omega
theorem sumN_all : ∀ (l : List (List Int)) (t : List Gr), sumN (putAll t l) = sumN t + l.length := by
 intro l
 induction l with
 | nil => intro t; show sumN t = sumN t + 0; omega
 | cons g l ih =>
  intro t
  have h := ih (putL t g 1)
  rw [sumN_put] at h
  rw [List.length_cons]
  refine Eq.trans h ?_
  omega
def lenS (ls : List (List Int)) : Nat := (ls.map fun l => l.length + 1).sum
theorem grams_count (m : Nat) (ls : List (List Int)) : (ls.flatMap (gramsL m)).length = lenS ls := by
 unfold lenS
 induction ls with
 | nil => rfl
 | cons l ls ih => rw [List.flatMap_cons, List.length_append, gramsL_length, ih]; rfl
theorem sum_count (m : Nat) (ls : List (List Int)) : sumN (countL m ls) = lenS ls := by
 unfold countL
 rw [sumN_all, grams_count]
 show (0 : Int) + _ = _
 omega
theorem sumN_take {gs : List Gr} {j : Nat} {g : Gr} (h : gs[j]? = some g) : sumN (gs.take (j + 1)) = sumN (gs.take j) + g.2 := by
 rw [take_succ_get _ h]
 unfold sumN
 rw [totP_snoc]
 rfl
theorem lenS_take {ls : List (List Int)} {j : Nat} {l : List Int} (h : ls[j]? = some l) : lenS (ls.take (j + 1)) = lenS (ls.take j) + (l.length + 1) := by
 rw [take_succ_get _ h]
 unfold lenS
 rw [List.map_append, List.sum_append]
 simp
theorem lenS_le {ls : List (List Int)} (h : ∀ l ∈ ls, l.length ≤ 500) (hn : ls.length ≤ 8) : lenS ls ≤ 4008 := by
 rw [← grams_count 0 ls]
 exact gramsAll_count h hn
theorem sumN_append (a b : List Gr) : sumN (a ++ b) = sumN a + sumN b := by
 induction a with
 | nil => rw [List.nil_append, show sumN [] = 0 from rfl]; omega
 | cons g a ih => rw [List.cons_append, sumN_cons, sumN_cons, ih]; omega
theorem sumN_nonneg {gs : List Gr} (h : ∀ g ∈ gs, 0 < g.2) : 0 ≤ sumN gs := totP_nonneg (fun g hg => by have := h g hg; omega)
theorem sumN_part {gs : List Gr} (h : ∀ g ∈ gs, 0 < g.2) (j : Nat) : 0 ≤ sumN (gs.take j) ∧ sumN (gs.take j) ≤ sumN gs := by
 have h1 := sumN_nonneg (gs := gs.take j) (fun g hg => h g (List.mem_of_mem_take hg))
 have h2 := sumN_nonneg (gs := gs.drop j) (fun g hg => h g (List.mem_of_mem_drop hg))
 have h3 := sumN_append (gs.take j) (gs.drop j)
 rw [List.take_append_drop] at h3
 omega
theorem lenS_part (ls : List (List Int)) (j : Nat) : lenS (ls.take j) ≤ lenS ls := by
 have : lenS ls = lenS (ls.take j) + lenS (ls.drop j) := by
  unfold lenS
  rw [← List.sum_append, ← List.map_append, List.take_append_drop]
 omega
end Go.Proofs.YtjebfdfkjlkifaaGreat
