/- Lemmas on the way: Tb1, Ce2. -/
import Derived.Test.YtjebfdfkjlkifaaGreatC37
set_option linter.unusedSimpArgs false
set_option linter.unusedVariables false
set_option linter.unusedSectionVars false
set_option linter.unnecessarySimpa false
namespace Go.Proofs.YtjebfdfkjlkifaaGreat
open Go.RowKit
structure Tb where
 o : Int
 V : Int
 A : Option Addr
 c : Nat
 gs : List Gr
abbrev Tb.lv (t : Tb) : Value := .slice t.A t.gs.length t.c
def TabsAt (w : World) (v : Value) (ts : List Tb) : Prop := ∃ cells, Sl w 3 v ts.length cells ∧ ∀ (i : Nat) t, ts[i]? = some t → cells[i * 3]? = some (.int .i64 t.o) ∧ cells[i * 3 + 1]? = some (.int .i64 t.V) ∧ cells[i * 3 + 2]? = some t.lv ∧ GramsAt w t.lv t.gs
theorem TabsAt.below {w w' : World} {v : Value} {ts : List Tb} (h : TabsAt w v ts) (hb : Below w.heap.size w w') : TabsAt w' v ts := by
 obtain ⟨cells, h1, h2⟩ := h
 refine ⟨cells, h1.below hb, fun i t ht => ?_⟩
 obtain ⟨e0, e1, e2, e3⟩ := h2 i t ht
 exact ⟨e0, e1, e2, e3.below hb⟩
theorem TabsAt.open_ {w : World} {v : Value} {ts : List Tb} (h : TabsAt w v ts) : ∃ A c, v = .slice A ts.length c ∧ ts.length ≤ c ∧ c ≤ 9223372036854775807 ∧
  ∀ (j : Nat) t, ts[j]? = some t → ∃ b off, A = some ⟨b, off, none⟩ ∧ b < w.heap.size ∧ w.cell? ⟨b, off + j * 3, none⟩ = some (.int .i64 t.o) ∧ w.cell? ⟨b, off + j * 3 + 1, none⟩ = some (.int .i64 t.V) ∧ w.cell? ⟨b, off + j * 3 + 2, none⟩ = some t.lv ∧ GramsAt w t.lv t.gs := by
 obtain ⟨cells, h1, h2⟩ := h
 obtain ⟨h0, A, c, rfl, hc, hm, h5⟩ := h1
 refine ⟨A, c, rfl, hc, by unfold maxLen at hm; omega, fun j x hx => ?_⟩
 have hj := (List.getElem?_eq_some_iff.1 hx).1
 obtain ⟨b, off, e, hlt, hcell⟩ := h5 (by omega)
 obtain ⟨e0, e1, e2, hf⟩ := h2 j x hx
 exact ⟨b, off, e, hlt, hcell _ _ e0, by have := hcell _ _ e1; rwa [← Nat.add_assoc] at this, by have := hcell _ _ e2; rwa [← Nat.add_assoc] at this, hf⟩

def longT (t : Tb) : Bool := decide (20000 < t.gs.length)
set_option maxRecDepth 1000000 in
set_option maxHeartbeats 1000000 in
theorem longTG (w : World) (t : Tb) : Calls Tryz.prog 159 #[.agg #[.int .i64 t.o, .int .i64 t.V, t.lv]] w fun e w' => e = .returned (.bool (longT t)) ∧ Below w.heap.size w w' := by
 obtain ⟨o, V, A, c, gs⟩ := t
 unfold Tb.lv longT
 simp only
 generalize gs.length = n
 cases hd : decide (20000 < n) with
 | true =>
  have d1 : decide ((20000 : Int) < (n : Int)) = true := decide_eq_true (by have := of_decide_eq_true hd; omega)
  clear hd
  go_enter Tryz.func159, Tryz.ntmps159
  go_wp2_with fail
  go_ret
  exact ⟨rfl, (Below.refl _ w).alloc (Nat.le_refl _) _⟩
 | false =>
  have d1 : decide ((20000 : Int) < (n : Int)) = false := decide_eq_false (by have := of_decide_eq_false hd; omega)
  clear hd
  go_enter Tryz.func159, Tryz.ntmps159
  go_wp2_with fail
  go_ret
  exact ⟨rfl, (Below.refl _ w).alloc (Nat.le_refl _) _⟩

set_option maxRecDepth 1000000 in
set_option maxHeartbeats 1000000 in
theorem indexTabs (w : World) (v : Value) (l : List Tb) (h : TabsAt w v l) (hn : l.length ≤ 9223372036854775807) :
  Calls Tryz.prog 176 #[v, .func (.func 159) #[] #[]] w fun e w' => e = .returned (.int .i64 (firstI longT l 0)) ∧ Below w.heap.size w w' := by
 obtain ⟨A, c, rfl, hlc, hcm, hat⟩ := h.open_
 have HAT := Lib.hid hat
 clear h hat
 obtain ⟨n, hn'⟩ : ∃ n, l.length = n := ⟨_, rfl⟩
 have HLN := Lib.hid hn'
 rw [hn'] at hlc hn ⊢
 clear hn'
 have hF : ∀ (W : World) (args : Array Value), (callFunc 159 args).run Tryz.prog W = .ok (.enter 159 args) W := fun _ _ => by kernel_rfl
 go_enter Tryz.func176, Tryz.ntmps176
 go_wp2_with fail
 go_loopg [5, 8] n (fun g _ i wr => ∃ (j : Nat), i = .int .i64 j ∧ j + g = n ∧ Hid (firstI longT l 0 = firstI longT (l.drop j) j) ∧ Hid (Below w.heap.size w wr))
 case atStart => exact ⟨0, rfl, by omega, Lib.hid rfl, Lib.hid (Below.refl _ _)⟩
 case round =>
  obtain ⟨j, rfl, hj, HQ, BEL⟩ := hrel
  have hsz : w.heap.size ≤ wr.heap.size := BEL.out.size
  rcases Nat.eq_zero_or_pos gk with h | h
  ·obtain rfl : j = n := by omega
   have HR : Hid (firstI longT l 0 = -1) := Lib.hid (by rw [HQ.out, List.drop_eq_nil_of_le (by rw [HLN.out]; exact Nat.le_refl _)]; rfl)
   go_wp2_with fail
   go_ret
   exact ⟨ret_i64 HR.out.symm, BEL.out⟩
  ·obtain ⟨g, rfl⟩ : ∃ g, gk = g + 1 := ⟨gk - 1, by omega⟩
   obtain ⟨x, hx⟩ : ∃ x, l[j]? = some x := ⟨_, List.getElem?_eq_getElem (by rw [HLN.out]; omega)⟩
   obtain ⟨ba, oa, rfl, hba, e0, e1, e2, _⟩ := HAT.out j x hx
   have d0 := (BEL.out.cell (p := ⟨ba, oa + j * 3, none⟩) hba).trans e0
   have d1 := (BEL.out.cell (p := ⟨ba, oa + j * 3 + 1, none⟩) hba).trans e1
   have d2 := (BEL.out.cell (p := ⟨ba, oa + j * 3 + 2, none⟩) hba).trans e2
   clear e0 e1 e2
   have DR := Lib.hid (firstI_drop longT hx)
   have HX := Lib.hid hx
   clear hx
   have hlt : (j : Int) < (n : Int) := by omega
   have NC := longTG wr x
   cases hd : longT x with
   | true =>
    rw [hd] at NC
    have HR : Hid (firstI longT l 0 = j) := Lib.hid (by rw [HQ.out, DR.out, hd, if_pos rfl])
    clear hd
    go_wp2_with fail
    refine NC.mono ?_
    rintro e w1 ⟨rfl, hb1⟩
    have B1 := Lib.hid hb1
    clear hb1
    go_wp2_with fail
    go_ret
    exact ⟨ret_i64 HR.out.symm, BEL.out.trans (B1.out.mono hsz)⟩
   | false =>
    rw [hd] at NC
    have HR : Hid (firstI longT l 0 = firstI longT (l.drop (j + 1)) (j + 1)) := Lib.hid (by rw [HQ.out, DR.out, hd]; rfl)
    clear hd
    go_wp2_with fail
    refine NC.mono ?_
    rintro e w1 ⟨rfl, hb1⟩
    have B1 := Lib.hid hb1
    clear hb1
    go_wp2_with fail
    go_roundg g
    case measure => omega
    case rel => exact ⟨j + 1, rfl, by omega, HR, Lib.hid (BEL.out.trans (B1.out.mono hsz))⟩

set_option maxRecDepth 1000000 in
set_option maxHeartbeats 1000000 in
theorem containsTabs (w : World) (v : Value) (l : List Tb) (h : TabsAt w v l) (hn : l.length ≤ 9223372036854775807) :
  Calls Tryz.prog 158 #[v, .func (.func 159) #[] #[]] w fun e w' => e = .returned (.bool (l.any longT)) ∧ Below w.heap.size w w' := by
 have IC := Lib.hid (indexTabs w v l h hn)
 have HA := Lib.hid (firstI_any longT l 0)
 obtain ⟨A, c, rfl, hlc, hcm, _⟩ := h.open_
 clear h
 generalize firstI longT l 0 = r at *
 go_enter Tryz.func158, Tryz.ntmps158
 go_wp2_with fail
 refine IC.out.mono ?_
 rintro e w1 ⟨rfl, hb1⟩
 have B1 := Lib.hid hb1
 clear hb1
 go_wp2_with fail
 go_ret
 exact ⟨ret_bool (by rw [← HA.out]), B1.out⟩

def firstE : List Tb → Int
 | [] => 0
 | t :: ts => if tableE t.o t.V t.gs = 0 then firstE ts else tableE t.o t.V t.gs
def tabsE (ts : List Tb) : Int := if ts.any longT = true then 5 else firstE ts
theorem firstE_drop {l : List Tb} {j : Nat} {x : Tb} (h : l[j]? = some x) : firstE (l.drop j) = if tableE x.o x.V x.gs = 0 then firstE (l.drop (j + 1)) else tableE x.o x.V x.gs := by
 have hj : j < l.length := (List.getElem?_eq_some_iff.1 h).1
 rw [List.drop_eq_getElem_cons hj]
 have : l[j] = x := by rw [List.getElem?_eq_getElem hj] at h; injection h
 rw [this]; rfl

set_option maxRecDepth 1000000 in
set_option maxHeartbeats 4000000 in
theorem checkTablesG (w : World) (v : Value) (l : List Tb) (h : TabsAt w v l) :
  Calls Tryz.prog 128 #[v] w fun e w' => e = .returned (.int .i64 (tabsE l)) ∧ Below w.heap.size w w' := by
 obtain ⟨A, c, rfl, hlc, hcm, hat⟩ := h.open_
 have HTA := Lib.hid h
 have HAT := Lib.hid hat
 clear h hat
 obtain ⟨n, hn'⟩ : ∃ n, l.length = n := ⟨_, rfl⟩
 have HLN := Lib.hid hn'
 rw [hn'] at hlc HTA ⊢
 clear hn'
 have CT := Lib.hid (containsTabs w _ l HTA.out (by rw [HLN.out]; omega))
 cases hlo : l.any longT with
 | true =>
  rw [hlo] at CT
  have HR : Hid (tabsE l = 5) := Lib.hid (if_pos hlo)
  clear hlo
  go_enter Tryz.func128, Tryz.ntmps128
  go_wp2_with fail
  refine CT.out.mono ?_
  rintro e w1 ⟨rfl, hb1⟩
  have B1 := Lib.hid hb1
  clear hb1 CT
  go_wp2_with fail
  go_ret
  exact ⟨ret_i64 HR.out.symm, B1.out⟩
 | false =>
  rw [hlo] at CT
  have HR0 : Hid (tabsE l = firstE (l.drop 0)) := Lib.hid (by unfold tabsE; rw [if_neg (by rw [hlo]; simp)]; rfl)
  clear hlo
  go_enter Tryz.func128, Tryz.ntmps128
  go_wp2_with fail
  refine CT.out.mono ?_
  rintro e w1 ⟨rfl, hb1⟩
  have B1 := Lib.hid hb1
  clear hb1 CT
  go_wp2_with fail
  go_loopg [4, 5, 10] n (fun g _ _ i wr => ∃ (j : Nat), i = .int .i64 j ∧ j + g = n ∧ Hid (tabsE l = firstE (l.drop j)) ∧ Hid (Below w.heap.size w wr))
  case atStart => exact ⟨0, rfl, by omega, HR0, B1⟩
  case round =>
   clear HR0
   obtain ⟨j, rfl, hj, HQ, BEL⟩ := hrel
   have hsz : w.heap.size ≤ wr.heap.size := BEL.out.size
   rcases Nat.eq_zero_or_pos gk with h | h
   ·obtain rfl : j = n := by omega
    have HR : Hid (tabsE l = 0) := Lib.hid (by rw [HQ.out, List.drop_eq_nil_of_le (by rw [HLN.out]; exact Nat.le_refl _)]; rfl)
    go_wp2_with fail
    go_ret
    exact ⟨ret_i64 HR.out.symm, BEL.out⟩
   ·obtain ⟨g, rfl⟩ : ∃ g, gk = g + 1 := ⟨gk - 1, by omega⟩
    obtain ⟨x, hx⟩ : ∃ x, l[j]? = some x := ⟨_, List.getElem?_eq_getElem (by rw [HLN.out]; omega)⟩
    obtain ⟨ba, oa, rfl, hba, e0, e1, e2, hgx⟩ := HAT.out j x hx
    have d0 := (BEL.out.cell (p := ⟨ba, oa + j * 3, none⟩) hba).trans e0
    have d1 := (BEL.out.cell (p := ⟨ba, oa + j * 3 + 1, none⟩) hba).trans e1
    have d2 := (BEL.out.cell (p := ⟨ba, oa + j * 3 + 2, none⟩) hba).trans e2
    have HGX := Lib.hid (hgx.below BEL.out)
    have DR := Lib.hid (firstE_drop hx)
    clear e0 e1 e2 hx hgx
    obtain ⟨ox, Vx, Ax, cx, gx⟩ := x
    simp only at d0 d1 DR
    simp only [Tb.lv] at d2 HGX
    obtain ⟨L, hL⟩ : ∃ L, gx.length = L := ⟨_, rfl⟩
    rw [hL] at d2 HGX
    clear hL
    obtain ⟨te, hte⟩ : ∃ te, tableE ox Vx gx = te := ⟨_, rfl⟩
    rw [hte] at DR
    have HTE := Lib.hid hte
    clear hte
    by_cases hz : te = 0
    ·subst hz
     have HR : Hid (tabsE l = firstE (l.drop (j + 1))) := Lib.hid (by rw [HQ.out, DR.out, if_pos rfl])
     go_wp2_with fail
     obtain ⟨W2, hW2, G0, GB, Ghs⟩ := box1 wr 27 [.int .i64 ox, .int .i64 Vx, .slice Ax L cx]
     rw [← hW2]
     clear hW2
     refine (checkTableG _ ox Vx _ gx (HGX.out.below GB.out)).mono ?_
     rintro e w2 ⟨rfl, hb2⟩
     rw [HTE.out]
     have B2 := Lib.hid (BEL.out.trans ((GB.out.trans (hb2.mono (by have := GB.out.size; omega))).mono hsz))
     clear hb2
     go_wp2_with fail
     go_roundg g
     case measure => omega
     case rel => exact ⟨j + 1, rfl, by omega, HR, B2⟩
    ·have HR : Hid (tabsE l = te) := Lib.hid (by rw [HQ.out, DR.out, if_neg hz])
     have dz : (te != 0) = true := by simpa using hz
     go_wp2_with fail
     obtain ⟨W2, hW2, G0, GB, Ghs⟩ := box1 wr 27 [.int .i64 ox, .int .i64 Vx, .slice Ax L cx]
     rw [← hW2]
     clear hW2
     refine (checkTableG _ ox Vx _ gx (HGX.out.below GB.out)).mono ?_
     rintro e w2 ⟨rfl, hb2⟩
     rw [HTE.out]
     have B2 := Lib.hid (BEL.out.trans ((GB.out.trans (hb2.mono (by have := GB.out.size; omega))).mono hsz))
     clear hb2
     go_wp2_with fail
     go_ret
     exact ⟨ret_i64 HR.out.symm, B2.out⟩
set_option maxRecDepth 1000000 in
set_option maxHeartbeats 16000000 in
theorem collectErrG (w : World) (mo : Nat) (V : Int) (bm : Nat) (m : List (List Int × Int)) (hm : TMap keyV (Value.int .i64) w 120 bm m) (hmo : mo ≤ 3) (hn : ∀ e ∈ m, e.1.length = mo + 1 ∧ NiceK e.1 ∧ 0 ≤ e.2) (hl : m.length ≤ 20000)
  (hex : ∃ e ∈ m, 1073741824 < e.2) :
  Calls Tryz.prog 82 #[.int .i64 ((mo + 1 : Nat) : Int), .int .i64 V, .map (some bm)] w fun e w' => e = .returned (.tuple #[.agg #[.int .i64 0, .int .i64 0, .slice none 0 0], .int .i64 2]) ∧ Below w.heap.size w w' := by
 obtain ⟨O, hO⟩ : ∃ O : Int, ((mo + 1 : Nat) : Int) = O := ⟨_, rfl⟩
 rw [hO]
 have q0 : (0 : Int) ≤ O := by omega
 have q1 : O ≤ 4 := by omega
 have HO := Lib.hid hO
 clear hO
 have HM := Lib.hid hm
 have HN := Lib.hid hn
 have HEX := Lib.hid hex
 obtain ⟨p, hp⟩ : ∃ p, m.length = p := ⟨_, rfl⟩
 rw [hp] at hl
 have HP := Lib.hid hp
 have d1 : decide ((20000 : Int) < (p : Int)) = false := decide_eq_false (by omega)
 have hbm : bm < w.heap.size := by
  have := hm.1
  exact (Array.getElem?_eq_some_iff.1 this).1
 clear hm hn hex hp
 have hlen : ∀ (o : Obj), (Builtin.len_ #[115] 3 #[.map (some bm)]).run Tryz.prog (w.alloc o) = .ok (.int .i64 (p : Int)) (w.alloc o) := fun o => by
  have h1 := MapAt.len (P := Tryz.prog) (t := 115) (HM.out.below ((Below.refl _ w).alloc (Nat.le_refl _) o)) Tryz.underlying115 3
  rw [show (encM keyV (Value.int .i64) m).length = p by simpa [encM] using HP.out] at h1
  exact h1
 go_enter Tryz.func82, Tryz.ntmps82
 go_upto_region 4 with fail
 obtain ⟨W2, hW2, P0, P1, PB, Phs⟩ := box2 w 27 [.int .i64 0, .int .i64 0, .slice none 0 0] 27 [.int .i64 O, .int .i64 V, .slice none 0 0]
 rw [← hW2]
 clear hW2
 clear hlen
 have M2 := Lib.hid (HM.out.below PB.out)
 go_wp2_with (refine wpList_range_k rfl _ _ rfl 120 3 Tryz.underlying115 bm _ rfl M2.out ?_)
 intro w4 hm4 hi4 hb4 hs4
 have I4 : Hid (IterAt w4 W2.heap.size bm m.length []) := Lib.hid (by simpa [encM] using hi4)
 have Q0 := Lib.hid (P0.out.below' hb4)
 have Q1 := Lib.hid (P1.out.below' hb4)
 have B4 := Lib.hid (PB.out.trans (hb4.mono PB.out.size))
 clear hm4 hi4 hb4 M2
 go_wp2_with fail
 go_loopg [9, 10, 11, 13] p (fun gh _ _ _ _ wz => ∃ (vis : List Nat) (A : Option Addr) (c : Nat), vis.length + gh = p ∧ Hid (∀ x ∈ visS m vis, x.2 ≤ 1073741824) ∧ Hid (vis.Nodup ∧ ∀ i ∈ vis, i < m.length) ∧ Hid (IterAt wz W2.heap.size bm m.length vis) ∧ Hid (GOwn (W2.heap.size + 1) wz (.slice A vis.length c) (visS m vis)) ∧
  Hid (Blk wz (w.heap.size + 1) 27 [.int .i64 O, .int .i64 V, .slice A vis.length c]) ∧ Hid (Blk wz w.heap.size 27 [.int .i64 0, .int .i64 0, .slice none 0 0]) ∧ Hid (Below w.heap.size w wz) ∧ W2.heap.size + 1 ≤ wz.heap.size)
 case atStart => exact ⟨[], none, 0, by simp, Lib.hid (fun x hx => by simp [visS] at hx), Lib.hid ⟨List.nodup_nil, fun i hi => by cases hi⟩, I4, Lib.hid (GOwn.nil_ _ _), Q1, Q0, B4, by omega⟩
 case round =>
  clear I4 Q0 Q1 B4 hs4
  obtain ⟨vis, A, c, hvl, SML, VIS, I4, LS, Q1, Q0, B4, hsz⟩ := hrel
  have M4 := Lib.hid (HM.out.below B4.out)
  have I5 : Hid (IterAt wr W2.heap.size bm (encM keyV (Value.int .i64) m).length vis) := Lib.hid (by simpa [encM] using I4.out)
  go_wp2_with (refine wpList_next_k rfl _ rfl 120 bm W2.heap.size (encM keyV (Value.int .i64) m) vis rfl M4.out I5.out ?done ?more)
  case done =>
   intro hdone
   have HPM : Hid ((visS m vis).Perm m) := Lib.hid (visS_perm VIS.out.1 VIS.out.2 (fun j hj => hdone j (by simpa [encM] using hj)))
   exfalso
   obtain ⟨e, he, hbig⟩ := HEX.out
   have h1 := SML.out e (HPM.out.symm.subset he)
   omega
  case more =>
   intro i xk xv w5 hx hiv hm5 hi5 hent hg5 hs5
   rw [encM_get] at hx
   obtain ⟨e, he, rfl, rfl⟩ : ∃ e, m[i]? = some e ∧ keyV e.1 = xk ∧ Value.int .i64 e.2 = xv := by
    cases h : m[i]? with
    | none => rw [h] at hx; cases hx
    | some e => rw [h] at hx; simp only [Option.map_some, Option.some.injEq, Prod.mk.injEq] at hx; exact ⟨e, rfl, hx.1, hx.2⟩
   clear hx
   have hne := HN.out e (List.mem_of_getElem? he)
   have HNE := Lib.hid hne
   have hil := (List.getElem?_eq_some_iff.1 he).1
   have VIS5 : Hid ((vis ++ [i]).Nodup ∧ ∀ k ∈ vis ++ [i], k < m.length) := Lib.hid ⟨List.nodup_append.2 ⟨VIS.out.1, by simp, fun a ha b hb e => by simp at hb; subst hb; subst e; exact hiv ha⟩, fun k hk => by rcases List.mem_append.1 hk with hk | hk; exact VIS.out.2 k hk; rw [List.mem_singleton.1 hk]; exact hil⟩
   have hgk : 0 < gk := by have := nodup_lt VIS5.out.1 VIS5.out.2; rw [List.length_append, List.length_singleton, HP.out] at this; omega
   have HSN := Lib.hid (visS_snoc m vis he)
   have hs5' : W2.heap.size + 1 ≤ w5.heap.size := by omega
   have J5 : Hid (IterAt w5 W2.heap.size bm m.length (vis ++ [i])) := Lib.hid (by simpa [encM] using hi5)
   have C5 : Hid (Calm wr w5) := Lib.hid (Calm.of_grown hg5 (fun r e => by cases e; exact ⟨_, I4.out, rfl⟩))
   have L5 : Hid (GOwn (W2.heap.size + 1) w5 (.slice A vis.length c) (visS m vis)) := Lib.hid (LS.out.calm C5.out)
   have R1 := Lib.hid (Q1.out.calm C5.out)
   have R0 := Lib.hid (Q0.out.calm C5.out)
   have B5 : Hid (Below w.heap.size w w5) := Lib.hid (B4.out.grown hg5 B4.out.size (fun k e => by cases e; omega))
   clear hm5 hi5 hg5 he hne I5 I4 hs5 LS Q1 Q0 B4 M4 C5
   obtain ⟨ks, cn⟩ := e
   simp only at hent HNE
   obtain ⟨a0, a1, a2, a3, hks⟩ := four (keyL_length (by rw [HNE.out.1]; omega : ks.length ≤ 4))
   have hkv : keyV ks = .agg #[.int .i64 a0, .int .i64 a1, .int .i64 a2, .int .i64 a3] := by unfold keyV; rw [hks]; rfl
   rw [hkv] at hent ⊢
   have HKS := Lib.hid hks
   clear hkv hks
   have HCN := Lib.hid HNE.out.2.2
   by_cases hbig : 1073741824 < cn
   ·have d2 : decide ((1073741824 : Int) < cn) = true := decide_eq_true hbig
    have r0 := R0.out.cell 0
    have r1 := R0.out.cell 1
    have r2 := R0.out.cell 2
    have f0 : ∀ o, (w5.alloc o).frozen? ⟨w.heap.size, 0, none⟩ = false := fun o => (R0.out.below' (below_alloc_self w5 o)).frozen 0
    have f1 : ∀ o u, ((w5.setCell ⟨w.heap.size, 0, none⟩ u).alloc o).frozen? ⟨w.heap.size, 1, none⟩ = false := fun o u => ((R0.out.set_ 0 u).below' (below_alloc_self _ o)).frozen 1
    have f2 : ∀ o u u', (((w5.setCell ⟨w.heap.size, 0, none⟩ u).setCell ⟨w.heap.size, 1, none⟩ u').alloc o).frozen? ⟨w.heap.size, 2, none⟩ = false := fun o u u' => (((R0.out.set_ 0 u).set_ 1 u').below' (below_alloc_self _ o)).frozen 2
    have hw5 : w.heap.size < w5.heap.size := R0.out.lt
    simp only [List.getElem?_cons_zero, List.getElem?_cons_succ] at r0 r1 r2
    clear hbig
    go_wp2_with fail
    obtain ⟨W7, hW7⟩ : ∃ W7, W7 = ((((w5.setCell ⟨w.heap.size, 0, none⟩ (.int .i64 0)).setCell ⟨w.heap.size, 1, none⟩ (.int .i64 0)).setCell ⟨w.heap.size, 2, none⟩ (.slice none 0 0)).alloc (.cells #[.int .i64 a0, .int .i64 a1, .int .i64 a2, .int .i64 a3] 120)) := ⟨_, rfl⟩
    have X7 : Blk W7 w.heap.size 27 [.int .i64 0, .int .i64 0, .slice none 0 0] := by
     rw [hW7]
     exact (((R0.out.set_ 0 _).set_ 1 _).set_ 2 _).below' (below_alloc_self _ _)
    have Y7 : Below w.heap.size w W7 := by rw [hW7]; exact (below3 B5.out (Nat.le_refl _) _ _ _ _ _ _).alloc (by simp only [World.setCell]; simp; omega) _
    rw [← hW7]
    clear hW7 r0 r1 r2 f0 f1 f2
    have r0 := X7.cell 0
    have r1 := X7.cell 1
    have r2 := X7.cell 2
    simp only [List.getElem?_cons_zero, List.getElem?_cons_succ] at r0 r1 r2
    refine bodyPost_ret (v := .tuple #[.agg #[.int .i64 0, .int .i64 0, .slice none 0 0], .int .i64 2]) (by simp [results, Tryz.results82, go_sem, r0, r1, r2]) rfl ⟨rfl, Y7⟩
   ·have d2 : decide ((1073741824 : Int) < cn) = false := decide_eq_false hbig
    have SM2 : Hid (∀ x ∈ visS m (vis ++ [i]), x.2 ≤ 1073741824) := Lib.hid (by
     rw [HSN.out]
     intro x hx
     rcases List.mem_append.1 hx with h | h
     ·exact SML.out x h
     ·rw [List.mem_singleton.1 h]
      show cn ≤ _
      omega)
    clear hbig
    obtain ⟨wo, rfl⟩ : ∃ wo, wo = wr := ⟨_, rfl⟩
    obtain ⟨go, rfl⟩ : ∃ go, go = gk := ⟨_, rfl⟩
    obtain ⟨i0, gi, gz0, gz1, gz2⟩ := info_parts infoInt
    obtain ⟨j0, hj, hz0, hz1, hz2⟩ := info_parts infoGram
    go_wp2_with fail
    obtain ⟨W6, hW6, G0, G1, GB, Ghs⟩ := box2 w5 120 [.int .i64 a0, .int .i64 a1, .int .i64 a2, .int .i64 a3] 51 [.slice none 0 0, .int .i64 cn]
    rw [← hW6]
    clear hW6
    go_loopg [13, 36] (mo + 1) (fun g2 _ s36 wz => ∃ (k : Nat) (A' : Option Addr) (c' : Nat), s36 = .int .i64 k ∧ k + g2 = mo + 1 ∧ Hid (wz.ownsRow W6.heap.size 3 1 (.slice A' k c') k ((ks.take k).map (Value.int .i64))) ∧ Hid (Blk wz (w5.heap.size + 1) 51 [.slice A' k c', .int .i64 cn]) ∧ Hid (Blk wz w5.heap.size 120 [.int .i64 a0, .int .i64 a1, .int .i64 a2, .int .i64 a3]) ∧ Hid (Below w5.heap.size w5 wz) ∧ W6.heap.size ≤ wz.heap.size)
    case atStart => exact ⟨0, none, 0, rfl, by omega, Lib.hid (World.ownsRow_nil ..), G1, G0, GB, Nat.le_refl _⟩
    case round =>
     clear G1 G0 GB
     obtain ⟨k, A', c', rfl, hk, OW, G1, G0, B6, hs6⟩ := hrel
     have g0 := G1.out.cell 0
     have g1 := G1.out.cell 1
     simp only [List.getElem?_cons_zero, List.getElem?_cons_succ] at g0 g1
     by_cases hlt : k < mo + 1
     ·have d3 : decide ((k : Int) < O) = true := decide_eq_true (by have := HO.out; omega)
      obtain ⟨x, hx⟩ : ∃ x, ks.getD k 0 = x := ⟨_, rfl⟩
      have cK : wr.cell? ⟨w5.heap.size, k, none⟩ = some (.int .i64 (x + 1)) := by
       rw [G0.out.cell k]
       have h1 := keyL_at (l := ks) (d := k) (by rw [HNE.out.1]; exact hlt)
       rw [HKS.out, hx] at h1
       have h2 := congrArg (Option.map (Value.int .i64)) h1
       rw [← List.getElem?_map] at h2
       exact h2
      have hxb := HNE.out.2.1.2 x (by rw [← hx, List.getD_eq_getElem?_getD, List.getElem?_eq_getElem (by rw [HNE.out.1]; exact hlt)]; exact List.getElem_mem _)
      have HTK : Hid ((ks.take (k + 1)).map (Value.int .i64) = (ks.take k).map (Value.int .i64) ++ [.int .i64 x]) := Lib.hid (by
       rw [List.take_succ_eq_append_getElem (by rw [HNE.out.1]; exact hlt), List.map_append, ← hx, List.getD_eq_getElem?_getD, List.getElem?_eq_getElem (by rw [HNE.out.1]; exact hlt)]
       rfl)
      have i1 : IntKind.i64.wrap (x + 1 - 1) = x := by rw [show x + 1 - 1 = x by omega]; exact IntWalk.i64_in _ (by omega)
      have i2 : IntKind.i64.wrap x = x := IntWalk.i64_in _ (by omega)
      have i3 : IntKind.i64.wrap ((k : Int) + 1) = (k : Int) + 1 := IntWalk.i64_in _ (by omega)
      have k1 : (0 : Int) ≤ (k : Int) := by omega
      have k2 : (k : Int) < O := by have := HO.out; omega
      clear hx
      go_wp2_with (at_builtin; refine wpList_append_sl rfl (.tmp 41) (.tmp 44) 44 rfl W6.heap.size 3 i0 (.int .i64 0) 1 8 Tryz.underlying44 gi gz0 gz1 gz2 rfl (by decide) _ _ _ rfl (own_below OW.out (Below.alloc (Below.refl _ _) (Nat.le_refl _) _)) _ 1 [.int .i64 x] rfl (Sl.one _ _ _) (by simp [Value.oneCell']) (by unfold maxLen; omega) (by omega) (by simp; omega) ?_)
      intro v3 w3 t1 t2 _
      obtain ⟨g, cap, rfl⟩ := own_open t1 (by omega)
      have hnk : ∀ q, (Value.slice A' k c').ownBlock = some q → W6.heap.size ≤ q := own_block_le (From.of_own OW.out)
      have OW3 : Hid (w3.ownsRow W6.heap.size 3 1 (.slice (some ⟨g, 0, none⟩) (k + 1) cap) (k + 1) ((ks.take (k + 1)).map (Value.int .i64))) := Lib.hid (by rw [HTK.out, List.map_take]; exact t1)
      have G13 := Lib.hid ((G1.out.alloc (.cells #[.int .i64 x] 3)).grown t2 (fun e => by have := hnk _ e.symm; omega))
      have G03 := Lib.hid ((G0.out.alloc (.cells #[.int .i64 x] 3)).grown t2 (fun e => by have := hnk _ e.symm; omega))
      have B63 := Lib.hid ((B6.out.alloc (by omega) (.cells #[.int .i64 x] 3)).grown t2 (by simp; omega) (fun q e => by have := hnk _ e; omega))
      have hs63 : W6.heap.size ≤ w3.heap.size := by have := t2.size; simp at this; omega
      have c3 := G13.out.cell 0
      have f3 := G13.out.frozen 0
      simp only [List.getElem?_cons_zero] at c3
      clear t1 t2 cK g0 g1 hnk
      go_wp2_with fail
      go_roundg (mo + 1 - (k + 1))
      case measure => omega
      case rel => exact ⟨k + 1, some ⟨g, 0, none⟩, cap, rfl, by omega, Lib.hid (own_far OW3.out (show w5.heap.size + 1 < _ by omega) _), Lib.hid (G13.out.set_ 0 _), Lib.hid (G03.out.far (show w5.heap.size ≠ w5.heap.size + 1 by omega) _), Lib.hid (B63.out.setCell (p := ⟨w5.heap.size + 1, 0, none⟩) (show w5.heap.size ≤ w5.heap.size + 1 by omega) _), by simpa [World.setCell] using hs63⟩
     ·have d3 : decide ((k : Int) < O) = false := decide_eq_false (by have := HO.out; omega)
      have HKE : Hid (k = mo + 1) := Lib.hid (by omega)
      have d4 : decide ((k : Int) < max O 0) = false := by rw [Int.max_eq_left q0]; exact d3
      have R1w := Lib.hid (R1.out.below' B6.out)
      have R0w := Lib.hid (R0.out.below' B6.out)
      have J5w := Lib.hid (J5.out.below B6.out)
      have L5w := Lib.hid (L5.out.below B6.out)
      have BWw := Lib.hid (B5.out.trans (B6.out.mono B5.out.size))
      have t2 := R1w.out.cell 2
      simp only [List.getElem?_cons_zero, List.getElem?_cons_succ] at t2
      have hks : ks.take k = ks := List.take_of_length_le (by rw [HNE.out.1, HKE.out]; exact Nat.le_refl _)
      have HW : Hid (IntsAt wr (.slice A' k c') ks ∧ From (.slice A' k c') W6.heap.size ∧ ∀ b, (Value.slice A vis.length c).ownBlock = some b → b < w5.heap.size) := Lib.hid ⟨by
       have h1 := Sl.of_own OW.out
       rw [hks] at h1
       unfold IntsAt
       rw [HNE.out.1, ← HKE.out]
       exact h1, From.of_own OW.out, fun b hb => own_block_lt L5.out hb⟩
      clear hks
      obtain ⟨cells, hc1, hc2⟩ := L5w.out.below (below_alloc_self wr (.cells #[.slice A' k c', .int .i64 cn] 51))
      rw [show (visS m vis).length = vis.length by simp [visS]] at hc1
      have HC1 := Lib.hid hc1
      have HC2 := Lib.hid hc2
      have hvl2 : vis.length + 1 ≤ 20000 := by omega
      clear hc1 hc2
      go_wp2_with (at_builtin; refine wpList_append_sl rfl (.tmp 49) (.tmp 51) 25 rfl (W2.heap.size + 1) 51 j0 (.agg #[.slice none 0 0, .int .i64 0]) 2 32 Tryz.underlying25 hj hz0 hz1 hz2 rfl (by decide) _ _ _ rfl HC1.out _ 1 [.slice A' k c', .int .i64 cn] rfl (Sl.two _ _ _ _) (by simp [Value.oneCell']) (by unfold maxLen; omega) (by omega) (by simp; omega) ?_)
      intro v3 w3 u1 u2 u3
      obtain ⟨g, cap, rfl⟩ := own_open u1 (by omega)
      have hnk : ∀ q, (Value.slice A vis.length c).ownBlock = some q → W2.heap.size + 1 ≤ q := own_block_le (From.of_own HC1.out)
      have hvs : (visS m vis).length = vis.length := by simp [visS]
      have LG : Hid (GOwn (W2.heap.size + 1) w3 (.slice (some ⟨g, 0, none⟩) (vis.length + 1) cap) (visS m (vis ++ [i]))) := Lib.hid (by
       rw [HSN.out]
       refine gown_push HC2.out (by rw [HC1.out.1, hvs]) (HW.out.1.below (below_alloc_self wr _)) (HW.out.2.1.mono (by omega)) (fun ad n c0 e => ?_) (by rw [hvs]; exact u1) u2 (by rw [World.size_alloc]; exact u3)
       exact HW.out.2.1.off (Nat.lt_of_lt_of_le (HW.out.2.2 ad.block (by rw [e]; rfl)) (by omega)))
      have R13 := Lib.hid ((R1w.out.alloc (.cells #[.slice A' k c', .int .i64 cn] 51)).grown u2 (fun e => by have := hnk _ e.symm; omega))
      have R03 := Lib.hid ((R0w.out.alloc (.cells #[.slice A' k c', .int .i64 cn] 51)).grown u2 (fun e => by have := hnk _ e.symm; omega))
      have J53 := Lib.hid ((J5w.out.below (below_alloc_self wr (.cells #[.slice A' k c', .int .i64 cn] 51))).kept u2 (fun e => by have := hnk _ e.symm; omega))
      have B53 := Lib.hid ((BWw.out.alloc (by omega) (.cells #[.slice A' k c', .int .i64 cn] 51)).grown u2 (by simp; omega) (fun q e => by have := hnk _ e; omega))
      have hs3 : W2.heap.size + 1 ≤ w3.heap.size := by have := u2.size; simp at this; omega
      have c3 := R13.out.cell 2
      have f3 := R13.out.frozen 2
      simp only [List.getElem?_cons_zero, List.getElem?_cons_succ] at c3
      have VL : Hid ((vis ++ [i]).length = vis.length + 1) := Lib.hid (by simp)
      clear u1 u2 u3 hnk hvs t2 g0 g1
      go_wp2_with fail
      go_roundg (go - 1)
      case measure => omega
      case rel => exact ⟨vis ++ [i], some ⟨g, 0, none⟩, cap, by rw [VL.out]; omega, SM2, VIS5, J53.out.far (p := ⟨w.heap.size + 1, 2, none⟩) (show W2.heap.size ≠ w.heap.size + 1 by omega) _, Lib.hid (by rw [VL.out]; exact LG.out.far (p := ⟨w.heap.size + 1, 2, none⟩) (show w.heap.size + 1 < _ by omega) _), Lib.hid (by rw [VL.out]; exact R13.out.set_ 2 _), Lib.hid (R03.out.far (p := ⟨w.heap.size + 1, 2, none⟩) (show w.heap.size ≠ w.heap.size + 1 by omega) _), Lib.hid (B53.out.setCell (p := ⟨w.heap.size + 1, 2, none⟩) (show w.heap.size ≤ w.heap.size + 1 by omega) _), by simpa [World.setCell] using hs3⟩
end Go.Proofs.YtjebfdfkjlkifaaGreat
