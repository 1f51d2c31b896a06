/- Lemmas on the way: Lt1, LoQ. -/
import Derived.Test.YtjebfdfkjlkifaaGreatD44
set_option linter.unusedSimpArgs false
set_option linter.unusedVariables false
set_option linter.unusedSectionVars false
set_option linter.unnecessarySimpa false
namespace Go.Proofs.YtjebfdfkjlkifaaGreat
open Go.RowKit
def lowL (gs : List Gr) : List Gr := gs.map fun g => (g.1.drop 1, g.2)
theorem lowL_nice {gs : List Gr} (h : ∀ g ∈ gs, NiceG g) : ∀ g ∈ lowL gs, NiceG g := by
 intro g hg
 obtain ⟨x, hx, rfl⟩ := List.mem_map.1 hg
 have := h x hx
 exact ⟨by show (x.1.drop 1).length ≤ 4; rw [List.length_drop]; have := this.1; omega, fun z hz => this.2.1 z (List.mem_of_mem_drop hz), this.2.2⟩
theorem lowL_len {n : Nat} {gs : List Gr} (h : ∀ g ∈ gs, g.1.length = n + 1) : ∀ g ∈ lowL gs, g.1.length = n := by
 intro g hg
 obtain ⟨x, hx, rfl⟩ := List.mem_map.1 hg
 have := h x hx
 show (x.1.drop 1).length = n
 rw [List.length_drop]
 omega
def LowerP (w : World) (t : Tb) (e : Ending) (w' : World) : Prop := Below w.heap.size w w' ∧
 ((tableE t.o t.V t.gs ≠ 0 ∧ e = .returned (.tuple #[.agg #[.int .i64 0, .int .i64 0, .slice none 0 0], .int .i64 (tableE t.o t.V t.gs)])) ∨
  (tableE t.o t.V t.gs = 0 ∧ (t.o = 1 ∨ ∃ e ∈ accT (lowL t.gs), 1073741824 < e.2) ∧ e = .returned (.tuple #[.agg #[.int .i64 0, .int .i64 0, .slice none 0 0], .int .i64 2])) ∨
  (tableE t.o t.V t.gs = 0 ∧ t.o ≠ 1 ∧ (∀ e ∈ accT (lowL t.gs), e.2 ≤ 1073741824) ∧ ∃ A c n gs', e = .returned (.tuple #[.agg #[.int .i64 (t.o - 1), .int .i64 t.V, .slice A n c], .int .i64 0]) ∧ gs'.Perm (accT (lowL t.gs)) ∧ SortedG gs' ∧ GramsAt w' (.slice A n c) gs'))

set_option maxRecDepth 1000000 in
set_option maxHeartbeats 16000000 in
theorem lowerTG (hsort : SortOk) (w : World) (t : Tb) (ht : GramsAt w t.lv t.gs) :
  Calls Tryz.prog 59 #[.agg #[.int .i64 t.o, .int .i64 t.V, t.lv]] w (LowerP w t) := by
 obtain ⟨o, V, A, c, gs⟩ := t
 simp only [Tb.lv] at ht ⊢
 have HT := Lib.hid ht
 have HSO := Lib.hid hsort
 clear ht hsort
 obtain ⟨L, hL⟩ : ∃ L, gs.length = L := ⟨_, rfl⟩
 have HL := Lib.hid hL
 rw [hL] at HT ⊢
 clear hL
 obtain ⟨te, hte⟩ : ∃ te, tableE o V gs = te := ⟨_, rfl⟩
 have HTE := Lib.hid hte
 clear hte
 by_cases hz : te = 0
 ·subst hz
  have hta := table_all HTE.out
  by_cases ho : o = 1
  ·have d1 : (o == 1) = true := by simpa using ho
   have HPO : Hid (o = 1 ∨ ∃ e ∈ accT (lowL gs), 1073741824 < e.2) := Lib.hid (.inl ho)
   clear hta ho
   go_enter Tryz.func59, Tryz.ntmps59
   go_wp2_with fail
   obtain ⟨W, hW, P0, P1, PB, Phs⟩ := box2 w 27 [.int .i64 o, .int .i64 V, .slice A L c] 27 [.int .i64 0, .int .i64 0, .slice none 0 0]
   rw [← hW]
   clear hW
   refine (checkTableG _ o V _ gs (HT.out.below PB.out)).mono ?_
   rintro e w1 ⟨rfl, hb1⟩
   rw [HTE.out]
   have B1 := Lib.hid (PB.out.trans (hb1.mono (by omega)))
   have Q0 := Lib.hid (P0.out.below' hb1)
   have Q1 := Lib.hid (P1.out.below' hb1)
   have z0 : w.heap.size < w1.heap.size := Q0.out.lt
   have z1 : w.heap.size + 1 < w1.heap.size := Q1.out.lt
   clear hb1 P0 P1 PB
   obtain ⟨p0, p1, p2, _, _, _⟩ := Q0.out.three
   obtain ⟨r0, r1, r2, f0, f1, f2⟩ := Q1.out.three
   go_wp2_with fail
   clear r0 r1 r2 f0 f1 f2
   obtain ⟨W7, hW7⟩ : ∃ W7, W7 = ((w1.setCell ⟨w.heap.size + 1, 0, none⟩ (.int .i64 0)).setCell ⟨w.heap.size + 1, 1, none⟩ (.int .i64 0)).setCell ⟨w.heap.size + 1, 2, none⟩ (.slice none 0 0) := ⟨_, rfl⟩
   have X7 : Blk W7 (w.heap.size + 1) 27 [.int .i64 0, .int .i64 0, .slice none 0 0] := by
    rw [hW7]
    exact ((Q1.out.set_ 0 _).set_ 1 _).set_ 2 _
   have Y7 : Below w.heap.size w W7 := by rw [hW7]; exact below3 B1.out (by omega) _ _ _ _ _ _
   rw [← hW7]
   clear hW7
   have r0 := X7.cell 0
   have r1 := X7.cell 1
   have r2 := X7.cell 2
   simp only [List.getElem?_cons_zero, List.getElem?_cons_succ] at r0 r1 r2
   refine bodyPost_ret (v := .tuple #[.agg #[.int .i64 0, .int .i64 0, .slice none 0 0], .int .i64 2]) (by simp [results, Tryz.results59, go_sem, r0, r1, r2]) rfl ⟨Y7, .inr (.inl ⟨HTE.out, HPO.out, rfl⟩)⟩
  ·have d1 : (o == 1) = false := by simpa using ho
   have HO1 := Lib.hid ho
   obtain ⟨mo, hmo⟩ : ∃ mo : Nat, ((mo + 1 : Nat) : Int) = o - 1 := ⟨(o - 2).toNat, by omega⟩
   have hmo3 : mo ≤ 3 := by omega
   have HGN : Hid (∀ g ∈ gs, NiceG g) := Lib.hid (table_nice HTE.out)
   have HGL : Hid (∀ g ∈ gs, g.1.length = mo + 1 + 1) := Lib.hid (fun g hg => by have := hta.2.2.2.2.2.1 g hg; omega)
   have HLE : Hid (gs.length ≤ 20000) := Lib.hid hta.1
   have HCN : Hid (∀ e ∈ accT (lowL gs), e.1.length = mo + 1 ∧ NiceK e.1 ∧ 0 ≤ e.2) := Lib.hid (fun e he => by
    have hn := acc_niceG (lowL_nice HGN.out) e he
    exact ⟨acc_len (lowL_len HGL.out) e he, hn.1, hn.2.1⟩)
   have HCL : Hid ((accT (lowL gs)).length ≤ 20000) := Lib.hid (Nat.le_trans (acc_count _) (by unfold lowL; rw [List.length_map]; exact HLE.out))
   have hw1 : IntKind.i64.wrap (o - 1) = o - 1 := IntWalk.i64_in _ (by omega)
   have HLW : Hid (∀ W, GramsAt W (.slice A L c) gs → Calls Tryz.prog 129 #[.agg #[.int .i64 o, .int .i64 V, .slice A L c]] W fun e w' => ∃ b, e = .returned (.map (some b)) ∧ TMap keyV (Value.int .i64) w' 120 b (accT (lowL gs)) ∧ W.heap.size ≤ b ∧ Below W.heap.size W w') := Lib.hid (fun W hW => lowerG W o V _ gs (mo + 1) hW (fun g hg => by
    have h1 := HGN.out g hg
    have h2 := HGL.out g hg
    exact ⟨h2, by have := h1.1; omega, fun x hx => by have := h1.2.1 x hx; omega, by have := h1.2.2; omega, h1.2.2.2⟩) HLE.out)
   by_cases hbig : ∃ e ∈ accT (lowL gs), 1073741824 < e.2
   ·have HPO : Hid (o = 1 ∨ ∃ e ∈ accT (lowL gs), 1073741824 < e.2) := Lib.hid (.inr hbig)
    have HCG : Hid (∀ W b, TMap keyV (Value.int .i64) W 120 b (accT (lowL gs)) → Calls Tryz.prog 82 #[.int .i64 (o - 1), .int .i64 V, .map (some b)] W fun e w' => e = .returned (.tuple #[.agg #[.int .i64 0, .int .i64 0, .slice none 0 0], .int .i64 2]) ∧ Below W.heap.size W w') := Lib.hid (fun W b hm => by
     have := collectErrG W mo V b _ hm hmo3 HCN.out HCL.out hbig
     rwa [hmo] at this)
    clear hbig ho hta hmo
    go_enter Tryz.func59, Tryz.ntmps59
    go_wp2_with fail
    obtain ⟨W, hW, P0, P1, PB, Phs⟩ := box2 w 27 [.int .i64 o, .int .i64 V, .slice A L c] 27 [.int .i64 0, .int .i64 0, .slice none 0 0]
    rw [← hW]
    clear hW
    refine (checkTableG _ o V _ gs (HT.out.below PB.out)).mono ?_
    rintro e w1 ⟨rfl, hb1⟩
    rw [HTE.out]
    have B1 := Lib.hid (PB.out.trans (hb1.mono (by omega)))
    have Q0 := Lib.hid (P0.out.below' hb1)
    have Q1 := Lib.hid (P1.out.below' hb1)
    have z0 : w.heap.size < w1.heap.size := Q0.out.lt
    have z1 : w.heap.size + 1 < w1.heap.size := Q1.out.lt
    clear hb1 P0 P1 PB
    obtain ⟨p0, p1, p2, _, _, _⟩ := Q0.out.three
    have hS := And.intro p0 (And.intro p1 p2)
    have BB := Lib.hid (Below.refl w1.heap.size w1)
    have HT1 := Lib.hid (HT.out.below B1.out)
    go_upto_region 6 with fail
    go_region_held3 (fun w' => w'.cell? ⟨w.heap.size, 0, none⟩ = some (.int .i64 o) ∧ w'.cell? ⟨w.heap.size, 1, none⟩ = some (.int .i64 V) ∧ w'.cell? ⟨w.heap.size, 2, none⟩ = some (.slice A L c)) (first | assumption | go_keep)
     (first
      | (go_at_call 129; refine (HLW.out _ ?_).mono ?_; (first | exact HT1.out | exact HT1.out.below (below_drew_self _) | exact HT1.out.below (below_alloc_self _ _) | exact HT1.out.below (below_alloc_drew _ _)); rintro e wl ⟨b, rfl, hm, _, hb⟩; (first | replace hb := below_new_drew hb | replace hb := below_new hb | replace hb := below_of_drew hb | skip); replace BB := Lib.hid (BB.out.trans (hb.mono BB.out.size)); have HM := Lib.hid hm; obtain ⟨y0, y1, y2, _, _, _⟩ := (Q0.out.below' BB.out).three; have hS := And.intro y0 (And.intro y1 y2); clear hb hm y0 y1 y2)
      | (go_at_call 82; refine (HCG.out _ _ ?_).mono ?_; (first | exact HM.out | exact HM.out.below (below_drew_self _) | exact HM.out.below (below_alloc_self _ _) | exact HM.out.below (below_alloc_drew _ _)); rintro e wl ⟨rfl, hb⟩; (first | replace hb := below_new_drew hb | replace hb := below_new hb | replace hb := below_of_drew hb | skip); replace BB := Lib.hid (BB.out.trans (hb.mono BB.out.size)); obtain ⟨y0, y1, y2, _, _, _⟩ := (Q0.out.below' BB.out).three; have hS := And.intro y0 (And.intro y1 y2); obtain ⟨r0, r1, r2, f0, f1, f2⟩ := (Q1.out.below' BB.out).three; clear hb y0 y1 y2))
    obtain ⟨W7, hW7⟩ : ∃ W7, W7 = ((wl.setCell ⟨w.heap.size + 1, 0, none⟩ (.int .i64 0)).setCell ⟨w.heap.size + 1, 1, none⟩ (.int .i64 0)).setCell ⟨w.heap.size + 1, 2, none⟩ (.slice none 0 0) := ⟨_, rfl⟩
    have X7 : Blk W7 (w.heap.size + 1) 27 [.int .i64 0, .int .i64 0, .slice none 0 0] := by
     rw [hW7]
     exact (((Q1.out.below' BB.out).set_ 0 _).set_ 1 _).set_ 2 _
    have Y7 : Below w.heap.size w W7 := by rw [hW7]; exact below3 (B1.out.trans (BB.out.mono B1.out.size)) (by omega) _ _ _ _ _ _
    rw [← hW7]
    clear hW7 r0 r1 r2 f0 f1 f2
    have r0 := X7.cell 0
    have r1 := X7.cell 1
    have r2 := X7.cell 2
    simp only [List.getElem?_cons_zero, List.getElem?_cons_succ] at r0 r1 r2
    go_wp2_with fail
    refine bodyPost_ret (v := .tuple #[.agg #[.int .i64 0, .int .i64 0, .slice none 0 0], .int .i64 2]) (by simp [results, Tryz.results59, go_sem, r0, r1, r2]) rfl ⟨Y7, .inr (.inl ⟨HTE.out, HPO.out, rfl⟩)⟩
   ·have HSM : Hid (∀ e ∈ accT (lowL gs), e.2 ≤ 1073741824) := Lib.hid (fun e he => by
     by_cases h : e.2 ≤ 1073741824
     ·exact h
     ·exact absurd ⟨e, he, by omega⟩ hbig)
    have HCG : Hid (∀ W b, TMap keyV (Value.int .i64) W 120 b (accT (lowL gs)) → Calls Tryz.prog 82 #[.int .i64 (o - 1), .int .i64 V, .map (some b)] W fun e w' => ∃ A c n gs', e = .returned (.tuple #[.agg #[.int .i64 (o - 1), .int .i64 V, .slice A n c], .int .i64 0]) ∧ gs'.Perm (accT (lowL gs)) ∧ SortedG gs' ∧ GOwn W.heap.size w' (.slice A n c) gs' ∧ Below W.heap.size W w') := Lib.hid (fun W b hm => by
     have := collectG W mo V b _ hm hmo3 (fun e he => ⟨(HCN.out e he).1, (HCN.out e he).2.1, (HCN.out e he).2.2, HSM.out e he⟩) HCL.out HSO.out
     rw [hmo] at this
     refine this.mono ?_
     rintro e w' ⟨A, c, gs', h1, h2⟩
     exact ⟨A, c, _, gs', h1, h2⟩)
    clear hbig ho hta hmo
    go_enter Tryz.func59, Tryz.ntmps59
    go_wp2_with fail
    obtain ⟨W, hW, P0, P1, PB, Phs⟩ := box2 w 27 [.int .i64 o, .int .i64 V, .slice A L c] 27 [.int .i64 0, .int .i64 0, .slice none 0 0]
    rw [← hW]
    clear hW
    refine (checkTableG _ o V _ gs (HT.out.below PB.out)).mono ?_
    rintro e w1 ⟨rfl, hb1⟩
    rw [HTE.out]
    have B1 := Lib.hid (PB.out.trans (hb1.mono (by omega)))
    have Q0 := Lib.hid (P0.out.below' hb1)
    have Q1 := Lib.hid (P1.out.below' hb1)
    have z0 : w.heap.size < w1.heap.size := Q0.out.lt
    have z1 : w.heap.size + 1 < w1.heap.size := Q1.out.lt
    clear hb1 P0 P1 PB
    obtain ⟨p0, p1, p2, _, _, _⟩ := Q0.out.three
    have hS := And.intro p0 (And.intro p1 p2)
    have BB := Lib.hid (Below.refl w1.heap.size w1)
    have HT1 := Lib.hid (HT.out.below B1.out)
    go_upto_region 6 with fail
    go_region_held3 (fun w' => w'.cell? ⟨w.heap.size, 0, none⟩ = some (.int .i64 o) ∧ w'.cell? ⟨w.heap.size, 1, none⟩ = some (.int .i64 V) ∧ w'.cell? ⟨w.heap.size, 2, none⟩ = some (.slice A L c)) (first | assumption | go_keep)
     (first
      | (go_at_call 129; refine (HLW.out _ ?_).mono ?_; (first | exact HT1.out | exact HT1.out.below (below_drew_self _) | exact HT1.out.below (below_alloc_self _ _) | exact HT1.out.below (below_alloc_drew _ _)); rintro e wl ⟨b, rfl, hm, _, hb⟩; (first | replace hb := below_new_drew hb | replace hb := below_new hb | replace hb := below_of_drew hb | skip); replace BB := Lib.hid (BB.out.trans (hb.mono BB.out.size)); have HM := Lib.hid hm; obtain ⟨y0, y1, y2, _, _, _⟩ := (Q0.out.below' BB.out).three; have hS := And.intro y0 (And.intro y1 y2); clear hb hm y0 y1 y2)
      | (go_at_call 82; refine (HCG.out _ _ ?_).mono ?_; (first | exact HM.out | exact HM.out.below (below_drew_self _) | exact HM.out.below (below_alloc_self _ _) | exact HM.out.below (below_alloc_drew _ _)); rintro e wl ⟨Ar, cr, nr, gs', rfl, hp, hs, hg, hb⟩; have HGF := Lib.hid (And.intro hp (And.intro hs (hg.mono (base' := w1.heap.size) BB.out.size))); clear hp hs hg; (first | replace hb := below_new_drew hb | replace hb := below_new hb | replace hb := below_of_drew hb | skip); replace BB := Lib.hid (BB.out.trans (hb.mono BB.out.size)); obtain ⟨y0, y1, y2, _, _, _⟩ := (Q0.out.below' BB.out).three; have hS := And.intro y0 (And.intro y1 y2); obtain ⟨r0, r1, r2, f0, f1, f2⟩ := (Q1.out.below' BB.out).three; clear hb y0 y1 y2))
    obtain ⟨W7, hW7⟩ : ∃ W7, W7 = ((wl.setCell ⟨w.heap.size + 1, 0, none⟩ (.int .i64 (o - 1))).setCell ⟨w.heap.size + 1, 1, none⟩ (.int .i64 V)).setCell ⟨w.heap.size + 1, 2, none⟩ (.slice Ar nr cr) := ⟨_, rfl⟩
    have X7 : Blk W7 (w.heap.size + 1) 27 [.int .i64 (o - 1), .int .i64 V, .slice Ar nr cr] := by
     rw [hW7]
     exact (((Q1.out.below' BB.out).set_ 0 _).set_ 1 _).set_ 2 _
    have Y7 : Below w.heap.size w W7 := by rw [hW7]; exact below3 (B1.out.trans (BB.out.mono B1.out.size)) (by omega) _ _ _ _ _ _
    have G7 : GramsAt W7 (.slice Ar nr cr) gs' := by
     rw [hW7]
     exact (((HGF.out.2.2.far (p := ⟨w.heap.size + 1, 0, none⟩) z1 _).far (p := ⟨w.heap.size + 1, 1, none⟩) z1 _).far (p := ⟨w.heap.size + 1, 2, none⟩) z1 _).at_
    rw [← hW7]
    clear hW7 r0 r1 r2 f0 f1 f2
    have r0 := X7.cell 0
    have r1 := X7.cell 1
    have r2 := X7.cell 2
    simp only [List.getElem?_cons_zero, List.getElem?_cons_succ] at r0 r1 r2
    go_wp2_with fail
    refine bodyPost_ret (v := .tuple #[.agg #[.int .i64 (o - 1), .int .i64 V, .slice Ar nr cr], .int .i64 0]) (by simp [results, Tryz.results59, go_sem, r0, r1, r2]) rfl ⟨Y7, .inr (.inr ⟨HTE.out, HO1.out, HSM.out, Ar, cr, nr, gs', rfl, HGF.out.1, HGF.out.2.1, G7⟩)⟩
 ·have dz : (te != 0) = true := by simpa using hz
  have HZ := Lib.hid hz
  clear hz
  go_enter Tryz.func59, Tryz.ntmps59
  go_wp2_with fail
  obtain ⟨W, hW, P0, P1, PB, Phs⟩ := box2 w 27 [.int .i64 o, .int .i64 V, .slice A L c] 27 [.int .i64 0, .int .i64 0, .slice none 0 0]
  rw [← hW]
  clear hW
  refine (checkTableG _ o V _ gs (HT.out.below PB.out)).mono ?_
  rintro e w1 ⟨rfl, hb1⟩
  rw [HTE.out]
  have B1 := Lib.hid (PB.out.trans (hb1.mono (by omega)))
  have Q0 := Lib.hid (P0.out.below' hb1)
  have Q1 := Lib.hid (P1.out.below' hb1)
  have z0 : w.heap.size < w1.heap.size := Q0.out.lt
  have z1 : w.heap.size + 1 < w1.heap.size := Q1.out.lt
  clear hb1 P0 P1 PB
  obtain ⟨r0, r1, r2, f0, f1, f2⟩ := Q1.out.three
  go_wp2_with fail
  clear r0 r1 r2 f0 f1 f2
  obtain ⟨W7, hW7⟩ : ∃ W7, W7 = ((w1.setCell ⟨w.heap.size + 1, 0, none⟩ (.int .i64 0)).setCell ⟨w.heap.size + 1, 1, none⟩ (.int .i64 0)).setCell ⟨w.heap.size + 1, 2, none⟩ (.slice none 0 0) := ⟨_, rfl⟩
  have X7 : Blk W7 (w.heap.size + 1) 27 [.int .i64 0, .int .i64 0, .slice none 0 0] := by
   rw [hW7]
   exact ((Q1.out.set_ 0 _).set_ 1 _).set_ 2 _
  have Y7 : Below w.heap.size w W7 := by rw [hW7]; exact below3 B1.out (by omega) _ _ _ _ _ _
  rw [← hW7]
  clear hW7
  have r0 := X7.cell 0
  have r1 := X7.cell 1
  have r2 := X7.cell 2
  simp only [List.getElem?_cons_zero, List.getElem?_cons_succ] at r0 r1 r2
  refine bodyPost_ret (v := .tuple #[.agg #[.int .i64 0, .int .i64 0, .slice none 0 0], .int .i64 te]) (by simp [results, Tryz.results59, go_sem, r0, r1, r2]) rfl ⟨Y7, .inl ⟨by show tableE o V gs ≠ 0; rw [HTE.out]; exact HZ.out, by show _ = Ending.returned (.tuple #[_, .int .i64 (tableE o V gs)]); rw [HTE.out]⟩⟩
theorem tot0_cons (e : Gr) (m : List Gr) (k : List Int) : tot 0 (e :: m) k = (if e.1 = k then e.2 else 0) + tot 0 m k := by
 unfold tot
 rw [totP_cons]
 simp
theorem tot0_none {m : List Gr} {k : List Int} (h : ∀ e ∈ m, e.1 ≠ k) : tot 0 m k = 0 := by
 induction m with
 | nil => rfl
 | cons e m ih =>
  rw [tot0_cons, if_neg (h e List.mem_cons_self), ih (fun x hx => h x (List.mem_cons_of_mem _ hx))]
  rfl
theorem tot0_nodup {m : List Gr} (h : (m.map Prod.fst).Nodup) (k : List Int) : tot 0 m k = (lookT m k).getD 0 := by
 induction m with
 | nil => rfl
 | cons e m ih =>
  rw [List.map_cons, List.nodup_cons] at h
  rw [tot0_cons, look_cons]
  by_cases hk : e.1 = k
  ·rw [if_pos hk, if_pos hk, tot0_none (fun x hx e1 => h.1 (List.mem_map.2 ⟨x, hx, by rw [e1, hk]⟩))]
   simp
  ·rw [if_neg hk, if_neg hk, ih h.2]
   omega
theorem acc_tot {l : List Gr} (h : ∀ g ∈ l, 0 < g.2) : Cnt (accT l) (tot 0 l) := by
 have key : ∀ (l m : List Gr) (T : List Int → Int), (∀ g ∈ l, 0 < g.2) → Cnt m T → Cnt (l.foldl addT m) (fun k => T k + tot 0 l k) := by
  intro l
  induction l with
  | nil => intro m T _ hm; exact hm.congr (fun k => by show T k = T k + 0; omega)
  | cons e l ih =>
   intro m T h hm
   obtain ⟨a, b⟩ := e
   refine (ih (addT m (a, b)) _ (fun x hx => h x (List.mem_cons_of_mem _ hx)) (hm.add (h (a, b) List.mem_cons_self))).congr (fun k => ?_)
   show T k + (if k = a then b else 0) + tot 0 l k = T k + tot 0 ((a, b) :: l) k
   rw [tot0_cons]
   by_cases hk : k = a
   ·rw [if_pos hk, if_pos hk.symm]; omega
   ·rw [if_neg hk, if_neg (fun e => hk e.symm)]; omega
 exact (key l [] (fun _ => 0) h Cnt.nil).congr (fun k => by omega)
end Go.Proofs.YtjebfdfkjlkifaaGreat
