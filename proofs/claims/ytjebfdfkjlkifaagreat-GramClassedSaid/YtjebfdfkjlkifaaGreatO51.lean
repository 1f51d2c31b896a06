/- Lemmas. -/
import Derived.Test.YtjebfdfkjlkifaaGreatO50
set_option linter.all false
set_option maxRecDepth 1000000
set_option maxHeartbeats 32000000
namespace Go.Proofs.YtjebfdfkjlkifaaGreat
open Go.RowKit
def SumsM (L : List (Int × FV)) (cs : List Int) (qs : List Rat) (j : Nat) : Prop := (∀ z, lookF L z = clsN cs qs z j) /\ (∀ i, i < j -> ∃ e ∈ L, e.1 = cs.getD i 0) /\ ∀ e ∈ L, ∃ i, i < j /\ cs.getD i 0 = e.1
theorem SumsM.nil_ (cs : List Int) (qs : List Rat) : SumsM [] cs qs 0 := ⟨fun _ => rfl, fun i h => by omega, fun e h => by cases h⟩
theorem putT_has {V : Type} (L : List (Int × V)) (z : Int) (v : V) : ∃ e ∈ dJ L z v, e.1 = z := by
 have h := kM L z v z
 rw [if_pos rfl] at h
 exact ⟨(z, v), br h, rfl⟩
theorem putT_keeps {V : Type} {L : List (Int × V)} {y z : Int} (v : V) (h : ∃ e ∈ L, e.1 = y) : ∃ e ∈ dJ L z v, e.1 = y := by
 by_cases hyz : y = z
 ·subst hyz
  exact putT_has L y v
 obtain ⟨e, he, rfl⟩ := h
 unfold dJ
 split
 ·exact ⟨e, List.mem_map.2 ⟨e, he, by rw [if_neg hyz]⟩, rfl⟩
 exact ⟨e, List.mem_append_left _ he, rfl⟩
theorem SumsM.put {L : List (Int × FV)} {cs : List Int} {qs : List Rat} {j : Nat} {c : Int} {q : Rat} (h : SumsM L cs qs j) (hc : cs.getD j 0 = c) (hq : qs.getD j 0 = q) (v : Value) : SumsM (dJ L c (v, lookF L c + q)) cs qs (j + 1) := by
 obtain ⟨h1, h2, h3⟩ := h
 refine ⟨fun z => ?_, fun i hi => ?_, fun e he => ?_⟩
 ·rw [lookF_put]
  show _ = (if cs.getD j 0 = z then clsN cs qs z j + qs.getD j 0 else clsN cs qs z j)
  rw [hc, hq]
  by_cases hz : z = c
  ·subst hz
   rw [if_pos rfl, if_pos rfl, h1]
  rw [if_neg hz, if_neg (fun e => hz e.symm), h1]
 ·rcases Nat.lt_or_ge i j with h | h
  ·exact putT_keeps _ (h2 i h)
  obtain rfl : i = j := by omega
  rw [hc]
  exact putT_has _ _ _
 rcases fm he with he | rfl
 ·obtain ⟨i, h4, h5⟩ := h3 e he
  exact ⟨i, by omega, h5⟩
 exact ⟨j, by omega, hc⟩
theorem SumsM.entry {L : List (Int × FV)} {cs : List Int} {qs : List Rat} {j : Nat} (h : SumsM L cs qs j) (hn : (L.map Prod.fst).Nodup) {e : Int × FV} (he : e ∈ L) : e.2.2 = clsN cs qs e.1 j := by
 obtain ⟨i, hi⟩ := List.mem_iff_getElem?.1 he
 have h1 := jF hn (j := i) (k := e.1) (v := e.2) hi
 rw [<- h.1 e.1]
 unfold lookF
 rw [h1]
 rfl
theorem SumsM.all_one {L : List (Int × FV)} {cs : List Int} {qs : List Rat} (h : SumsM L cs qs cs.length) (hn : (L.map Prod.fst).Nodup) : (∀ e ∈ L, e.2.2 = 1) ↔ ∀ j, j < cs.length -> clsN cs qs (cs.getD j 0) cs.length = 1 := by
 constructor
 ·intro ha j hj
  obtain ⟨e, he, h1⟩ := h.2.1 j hj
  rw [<- h1, <- h.entry hn he]
  exact ha e he
 intro ha e he
 obtain ⟨i, hi, h1⟩ := h.2.2 e he
 rw [h.entry hn he, <- h1]
 exact ha i hi
def clsE (cs : List Int) (qs : List Rat) : Int := if clsB cs qs = true then 0 else 2
theorem ret_i {a b : Int} (h : a = b) : Ending.returned (.int .i64 a) = .returned (.int .i64 b) := by rw [h]
theorem clsE_bad {cs : List Int} {qs : List Rat} (h : clsB cs qs = false) : clsE cs qs = 2 := by
 unfold clsE
 rw [h]
 rfl
theorem clsB_iff {cs : List Int} {qs : List Rat} : clsB cs qs = true ↔ 1 <= cs.length /\ qs.length = cs.length /\ inR 1 2000 cs = true /\ (∀ j, j < cs.length -> ¬ aU (qs.getD j 0) < 0) /\ ∀ j, j < cs.length -> clsN cs qs (cs.getD j 0) cs.length = 1 := by
 unfold clsB
 simp only [Bool.and_eq_true, decide_eq_true_eq, List.all_eq_true, List.mem_range]
 unfold clsOk
 simp only [Bool.and_eq_true, decide_eq_true_eq, Bool.not_eq_true', decide_eq_false_iff_not]
 have hin : inR 1 2000 cs = true ↔ ∀ j, j < cs.length -> 1 <= cs.getD j 0 /\ cs.getD j 0 <= 2000 := by
  rw [inR_iff]
  constructor
  ·intro h j hj
   rw [gD, eG hj]
   exact h _ (List.getElem_mem _)
  intro h x hx
  obtain ⟨j, hj, rfl⟩ := List.getElem_of_mem hx
  have := h j hj
  rw [gD, eG hj] at this
  exact this
 rw [hin]
 constructor
 ·rintro ⟨h1, h2, h3⟩
  exact ⟨h1, h2, fun j hj => ⟨(h3 j hj).1, (h3 j hj).2.1⟩, fun j hj => (h3 j hj).2.2.1, fun j hj => (h3 j hj).2.2.2⟩
 rintro ⟨h1, h2, h3, h4, h5⟩
 exact ⟨h1, h2, fun j hj => ⟨(h3 j hj).1, (h3 j hj).2, h4 j hj, h5 j hj⟩⟩
theorem clsE_not {cs : List Int} {qs : List Rat} (h : ¬ (1 <= cs.length /\ qs.length = cs.length /\ inR 1 2000 cs = true /\ (∀ j, j < cs.length -> ¬ aU (qs.getD j 0) < 0) /\ ∀ j, j < cs.length -> clsN cs qs (cs.getD j 0) cs.length = 1)) : clsE cs qs = 2 :=
 clsE_bad (by
  cases hb : clsB cs qs with
  | false => rfl
  | true => exact absurd (clsB_iff.1 hb) h)
theorem zeroFr (w : World) : (zeroValue 40).run Tryz.prog w = .ok (.agg #[.bool false, .slice none 0 0, .slice none 0 0]) w := by kernel_rfl

theorem checkClG (w : World) (ov iv : Value) (cs : List Int) (qs : List Rat) (ho : IntsAt w ov cs) (hi : FracsAt 64 w iv qs) (hc12 : cs.length <= 12) (hq12 : qs.length <= 12) :
  Calls Tryz.prog 62 #[.agg #[ov, iv]] w fun e w' => e = .returned (.int .i64 (clsE cs qs)) /\ Below w.heap.size w w' := by
 have HO := aH ho
 obtain ⟨Ao, co, rfl, hoc, hom, hat⟩ := ho.open_
 obtain ⟨Ai, ci, rfl, hic, him, hit⟩ := hi.at_
 obtain ⟨no, hno⟩ : ∃ n, cs.length = n := ⟨_, rfl⟩
 obtain ⟨ni, hni⟩ : ∃ n, qs.length = n := ⟨_, rfl⟩
 rw [hno] at hoc hc12 HO ⊢
 rw [hni] at hic hq12 ⊢
 have HAT := aH hat
 have HIT := aH hit
 have HNO := aH hno
 have HNI := aH hni
 have QI : Hd (∀ q ∈ qs, QB 64 q) := aH (fun q hq => by
  obtain ⟨j, hj⟩ := List.mem_iff_getElem?.1 hq
  obtain ⟨_, _, _, _, _, _, _, _, _, _, _, _, _, _, hf⟩ := hit j q hj
  exact hf.qb (by omega))
 obtain ⟨ke, hke⟩ : ∃ b, clsE cs qs = b := ⟨_, rfl⟩
 have HKE := aH hke
 rw [hke]
 clear ho hi hat hit hno hni hke
 have hmm := @run_makeMap Tryz.prog
 go_enter Tryz.func62, Tryz.ntmps62
 go_upto_region 1 with fail
 obtain ⟨W, hW, P0, PB, Phs⟩ := aA w 94 [.slice Ao no co, .slice Ai ni ci]
 rw [<- hW]
 clear hW
 obtain ⟨q0, q1⟩ := two_at P0.o
 rcases zP no with hz | hz
 ·subst hz
  have HF : Hd (ke = 2) := aH (by rw [<- HKE.o]; exact clsE_not (fun h => by have := h.1; have := HNO.o; omega))
  go_wp2_with fail
  go_ret
  exact ⟨ret_i HF.o.symm, PB.o⟩
 have d1 : decide ((no : Int) < 1) = false := dF (by omega)
 have d1' : decide (no < 1) = false := dF (by omega)
 have d2 : decide ((2000 : Int) < (no : Int)) = false := dF (by omega)
 have d2' : decide (2000 < no) = false := dF (by omega)
 by_cases hne : ni = no
 ·subst hne
  have d3 : ((ni : Int) != (ni : Int)) = false := by simp
  obtain ⟨x0, hx0⟩ : ∃ x, cs[0]? = some x := ⟨_, eG (by rw [HNO.o]; exact hz)⟩
  obtain ⟨bo, oo, rfl, _, _⟩ := HAT.o 0 x0 hx0
  obtain ⟨y0, hy0⟩ : ∃ x, qs[0]? = some x := ⟨_, eG (by rw [HNI.o]; exact hz)⟩
  obtain ⟨bi, oi, _, _, _, _, _, _, _, rfl, _⟩ := HIT.o 0 y0 hy0
  obtain ⟨no, rfl⟩ : ∃ n, n = ni := ⟨_, rfl⟩
  clear hx0 hy0
  go_wp2_with fail
  refine (gU W _ cs 1 2000 (HO.o.below PB.o)).mono ?_
  rintro e w1 ⟨rfl, hb1⟩
  obtain ⟨wb, hwb⟩ : ∃ b, inR 1 2000 cs = b := ⟨_, rfl⟩
  rw [hwb]
  have HWB := aH hwb
  have P1 := aH (P0.o.below' hb1)
  have B1 := aH (PB.o.trans (hb1.mono PB.o.size))
  clear hb1 hwb P0 PB q0 q1
  obtain ⟨q0, q1⟩ := two_at P1.o
  cases wb with
  | false =>
   have HF : Hd (ke = 2) := aH (by rw [<- HKE.o]; exact clsE_not (fun h => by have h1 := h.2.2.1; rw [HWB.o] at h1; cases h1))
   go_wp2_with fail
   go_ret
   exact ⟨ret_i HF.o.symm, B1.o⟩
  | true =>
   go_upto_region 5 with fail
   obtain ⟨W2, hW2⟩ : ∃ W, W = w1.alloc (.map #[] 0) := ⟨_, rfl⟩
   have M0 : Hd (FMap W2 w1.heap.size []) := aH (by
    rw [hW2]
    exact ⟨MapAt.made Tryz.prog w1 3, fun e he => by cases he⟩)
   have P2 : Hd (Blk W2 w.heap.size 94 [.slice (some ⟨bo, oo, none⟩) no co, .slice (some ⟨bi, oi, none⟩) no ci]) := aH (by rw [hW2]; exact P1.o.below' (bA _ _))
   have B2 : Hd (Below w.heap.size w W2) := aH (by rw [hW2]; exact B1.o.alloc B1.o.size _)
   rw [<- hW2]
   have sM : w.heap.size < w1.heap.size := P1.o.lt
   obtain ⟨bm, hbm⟩ : ∃ b, w1.heap.size = b := ⟨_, rfl⟩
   rw [hbm] at M0 sM ⊢
   clear hW2 hbm P1 B1 q0 q1
   obtain ⟨q0, q1⟩ := two_at P2.o
   go_wp2_with fail
   go_loopg [35, 5, 6] no (fun g i _ _ wz => ∃ (j : Nat) (L : List (Int × FV)), i = .int .i64 j /\ j + g = no /\ Hd (FMap wz bm L) /\ Hd (SumsM L cs qs j) /\ Hd (∀ k, k < j -> 0 <= aU (qs.getD k 0)) /\ Hd (Blk wz w.heap.size 94 [.slice (some ⟨bo, oo, none⟩) no co, .slice (some ⟨bi, oi, none⟩) no ci]) /\ Hd (Below w.heap.size w wz))
   case atStart => exact ⟨0, [], rfl, by omega, M0, aH (SumsM.nil_ cs qs), aH (fun k h => by omega), P2, B2⟩
   clear M0 P2 B2 q0 q1
   obtain ⟨w4, rfl⟩ : ∃ x, x = wr := ⟨_, rfl⟩
   obtain ⟨j, L, rfl, hj, FM, SM, SG, PE, BE⟩ := hrel
   obtain ⟨q0, q1⟩ := two_at PE.o
   rcases zP gk with h | h
   ·subst h
    obtain rfl : j = no := by omega
    have MO := aH (SumsM.all_one (by rw [HNO.o]; exact SM.o : SumsM L cs qs cs.length) FM.o.1.nodup)
    obtain ⟨p, hp⟩ : ∃ p, L.length = p := ⟨_, rfl⟩
    have HP := aH hp
    have QL : Hd (∀ e ∈ L, QB 800 e.2.2) := aH (fun e he => by rw [SM.o.entry FM.o.1.nodup he]; exact (clsN_qb e.1 QI.o j).mono (by omega))
    have HTR : Hd ((∀ e ∈ L, e.2.2 = 1) ↔ ke = 0) := aH (by
     rw [MO.o, <- HKE.o]
     have hh : clsB cs qs = true ↔ ∀ k, k < cs.length -> clsN cs qs (cs.getD k 0) cs.length = 1 := by
      rw [clsB_iff]
      exact ⟨fun h => h.2.2.2.2, fun h => ⟨by rw [HNO.o]; omega, by rw [HNI.o, HNO.o], HWB.o, fun k hk => by have := SG.o k (by rw [<- HNO.o]; exact hk); omega, h⟩⟩
     rw [<- hh]
     unfold clsE
     cases clsB cs qs <;> simp)
    have M2 : Hd (MapAt Tryz.prog w4 3 bm (cR (Value.int .i64) Prod.fst L)) := aH FM.o.1
    have sM4 := FM.o.lt
    clear hp MO SG SM
    go_wp2_with (refine eJ rfl _ _ rfl 3 40 Tryz.underlying161 bm _ rfl M2.o ?_)
    intro w5 hm5 hi5 hb5 hs5
    have I5 : Hd (IterAt w5 w4.heap.size bm L.length []) := aH (by simpa [cR] using hi5)
    have F5 := aH (FM.o.below hb5)
    have B5 := aH (BE.o.trans (hb5.mono BE.o.size))
    have s5 : w4.heap.size < w5.heap.size := by omega
    obtain ⟨ri, hri⟩ : ∃ b, w4.heap.size = b := ⟨_, rfl⟩
    rw [hri] at I5 s5 ⊢
    have sR : w.heap.size < ri := by rw [<- hri]; exact PE.o.lt
    have sR2 : bm ≠ ri := by omega
    clear hm5 hi5 hb5 hs5 M2 FM BE PE hri q0 q1 sM4
    go_wp2_with fail
    go_loopg [8] p (fun gh _ wz => ∃ (vis : List Nat), vis.length + gh = p /\ Hd (∀ i ∈ vis, ∀ e, L[i]? = some e -> e.2.2 = 1) /\ Hd (vis.Nodup /\ ∀ i ∈ vis, i < L.length) /\ Hd (IterAt wz ri bm L.length vis) /\ Hd (FMap wz bm L) /\ Hd (Below w.heap.size w wz) /\ ri < wz.heap.size)
    case atStart => exact ⟨[], by simp, aH (fun i h => by cases h), aH ⟨List.nodup_nil, fun i hi => by cases hi⟩, I5, F5, B5, s5⟩
    clear I5 F5 B5 s5
    obtain ⟨w6, rfl⟩ : ∃ x, x = wr := ⟨_, rfl⟩
    obtain ⟨vis, hvl, ONE, VIS, I6, F6, B6, s6⟩ := hrel
    have M6 : Hd (MapAt Tryz.prog w6 3 bm (cR (Value.int .i64) Prod.fst L)) := aH F6.o.1
    have I6' : Hd (IterAt w6 ri bm (cR (Value.int .i64) Prod.fst L).length vis) := aH (by simpa [cR] using I6.o)
    go_wp2_with (refine fe rfl _ rfl 3 bm ri (cR (Value.int .i64) Prod.fst L) vis rfl M6.o I6'.o ?done ?more)
    case done =>
     intro hdone
     have HF : Hd (ke = 0) := aH (HTR.o.1 (fun e he => by
      obtain ⟨i, hi⟩ := List.mem_iff_getElem?.1 he
      exact ONE.o i (hdone i (by have := (sI.1 hi).1; simpa [cR] using this)) e hi))
     clear hdone
     go_wp2_with fail
     go_ret
     exact ⟨ret_i HF.o.symm, B6.o⟩
    case more =>
     intro i xk xv w7 hx hiv hm7 hi7 hent hg7 hs7
     rw [fq] at hx
     obtain ⟨e, he, rfl, rfl⟩ : ∃ e, L[i]? = some e /\ Value.int .i64 e.1 = xk /\ e.2.1 = xv := by
      cases h : L[i]? with
      | none => rw [h] at hx; cases hx
      | some e => rw [h] at hx; simp only [Option.map_some, Option.some.injEq, Prod.mk.injEq] at hx; exact ⟨e, rfl, hx.1, hx.2⟩
     obtain ⟨z, v, q⟩ := e
     have hil := (sI.1 he).1
     have VIS7 : Hd ((vis ++ [i]).Nodup /\ ∀ k ∈ vis ++ [i], k < L.length) := aH ⟨List.nodup_append.2 ⟨VIS.o.1, by simp, fun a ha b hb e => by simp at hb; subst hb; subst e; exact hiv ha⟩, fun k hk => by rcases List.mem_append.1 hk with hk | hk; exact VIS.o.2 k hk; rw [List.mem_singleton.1 hk]; exact hil⟩
     have hgk : 0 < gk := by have := jB VIS7.o.1 VIS7.o.2; rw [List.length_append, List.length_singleton, HP.o] at this; omega
     have F7 : Hd (FMap w7 bm L) := aH ⟨hm7, fun e he => (F6.o.2 e he).calm (Calm.of_grown hg7 (fun r e => by cases e; exact ⟨_, I6.o, rfl⟩))⟩
     have J7 : Hd (IterAt w7 ri bm L.length (vis ++ [i])) := aH (by simpa [cR] using hi7)
     have B7 : Hd (Below w.heap.size w w7) := aH (B6.o.grown hg7 B6.o.size (fun k e => by cases e; omega))
     have s7 : ri < w7.heap.size := by omega
     have HE := aH he
     have CV := F7.o.2 (z, v, q) (mG he)
     have QV : Hd (QB 800 q) := aH (QL.o (z, v, q) (mG he))
     simp only at CV hent
     obtain ⟨Av, mv, cv, Av', mv', cv', rfl⟩ := CV.open_
     have TV := aH CV
     clear hx hiv hm7 hi7 hg7 hs7 he CV I6 I6' M6 F6 B6 s6 VIS
     go_upto_region 15 with fail
     obtain ⟨W8, hW8, R0, RB, Rhs⟩ := aA w7 40 [.bool (ae q), .slice Av mv cv, .slice Av' mv' cv']
     rw [<- hW8]
     clear hW8
     have B8 := aH (B7.o.trans (RB.o.mono B7.o.size))
     have F8 := aH (F7.o.below RB.o)
     have J8 := aH (J7.o.below RB.o)
     have s8 : ri < W8.heap.size := Nat.lt_of_lt_of_le s7 RB.o.size
     have TR := aH ((TV.o.below RB.o).frac (k := 2000) (QV.o.mono (by omega)) (by omega))
     obtain ⟨r0, r1, r2, _, _, _⟩ := R0.o.three
     have sB := R0.o.lt
     obtain ⟨bx, hbx⟩ : ∃ z, w7.heap.size = z := ⟨_, rfl⟩
     rw [hbx] at r0 r1 r2 sB ⊢
     clear hbx RB R0 Rhs B7 F7 J7 s7 TV hent
     obtain ⟨q1r, hq1⟩ : ∃ y : Rat, ((1 : Int) : Rat) = y := ⟨_, rfl⟩
     have Q1R : Hd (QB 64 q1r) := aH (by rw [<- hq1]; exact dA (by omega) (by omega))
     obtain ⟨sg, hsg⟩ : ∃ z, aU (q - q1r) = z := ⟨_, rfl⟩
     have HSG := aH hsg
     have HE2 : Hd (sg = 0 ↔ q = 1) := aH (by rw [<- hsg, <- hq1]; exact sgn_one)
     have HQ1 := aH hq1
     have BB := aH (Below.refl W8.heap.size W8)
     have hS := aI r0 (aI r1 r2)
     have HSET : Hd (∀ w', Below W8.heap.size W8 w' -> (fun w' => w'.cell? ⟨bx, 0, none⟩ = some (.bool (ae q)) /\ w'.cell? ⟨bx, 1, none⟩ = some (.slice Av mv cv) /\ w'.cell? ⟨bx, 2, none⟩ = some (.slice Av' mv' cv')) w') := aH (fun w' hb => ⟨(hb.cell (p := ⟨bx, 0, none⟩) sB).trans r0, (hb.cell (p := ⟨bx, 1, none⟩) sB).trans r1, (hb.cell (p := ⟨bx, 2, none⟩) sB).trans r2⟩)
     clear hq1 hsg
     go_cut [68] (fun t wc => t = .bool (sg != 0) /\ Hd (Below W8.heap.size W8 wc))
     case first =>
      go_region_held3 (fun w' => w'.cell? ⟨bx, 0, none⟩ = some (.bool (ae q)) /\ w'.cell? ⟨bx, 1, none⟩ = some (.slice Av mv cv) /\ w'.cell? ⟨bx, 2, none⟩ = some (.slice Av' mv' cv'))
       (first | assumption | exact hS | go_keep)
       (first
        | (go_at_call 110; refine (ofI _ 1 (by omega) (by omega)).mono ?_; rintro e wl ⟨u, rfl, t, hb⟩; rw [HQ1.o] at t; (try replace hb := bO hb); replace BB := aH (BB.o.trans (hb.mono BB.o.size)); have T1 := aH (t.at_.frac (k := 2000) (Q1R.o.mono (by omega)) (by omega)); have hS := HSET.o _ BB.o; clear t hb)
        | (go_at_call 108; refine (vX _ _ _ q q1r 2000 (by first | exact TR.o.below BB.o | exact (TR.o.below BB.o).below (bS _)) (by first | exact T1.o | exact T1.o.below (bS _)) (by omega) (by omega)).mono ?_; rintro e wl ⟨rfl, hb⟩; rw [HSG.o]; (try replace hb := bO hb); replace BB := aH (BB.o.trans (hb.mono BB.o.size)); have hS := HSET.o _ BB.o; clear hb))
      all_goals
       go_wp2_with fail
       go_meet
       exact ⟨rfl, BB⟩
     obtain ⟨rfl, hcc⟩ := hcut
     have BR := aH (B8.o.trans (hcc.o.mono B8.o.size))
     have FR := aH (F8.o.below hcc.o)
     have JR := aH (J8.o.below hcc.o)
     have sR' : ri < wc.heap.size := Nat.lt_of_lt_of_le s8 hcc.o.size
     have VL : Hd ((vis ++ [i]).length = vis.length + 1) := aH (by simp)
     clear r0 r1 r2 hS HSET BB B8 F8 J8 hcc
     cases hz : (sg != 0) with
     | true =>
      have HF : Hd (ke = 2) := aH (by
       have h1 : ¬ ke = 0 := fun h => by
        have := HTR.o.2 h (z, _, q) (mG HE.o)
        have h2 := HE2.o.2 this
        subst h2
        cases hz
       rw [<- HKE.o] at h1 ⊢
       unfold clsE at h1 ⊢
       split at h1
       ·exact absurd rfl h1
       next h => rw [if_neg h])
      clear hz
      go_wp2_with fail
      go_ret
      exact ⟨ret_i HF.o.symm, BR.o⟩
     | false =>
      have ONE2 : Hd (∀ k ∈ vis ++ [i], ∀ e, L[k]? = some e -> e.2.2 = 1) := aH (fun k hk e he => by
       rcases List.mem_append.1 hk with hk | hk
       ·exact ONE.o k hk e he
       rw [List.mem_singleton.1 hk, HE.o] at he
       cases he
       exact HE2.o.1 (by simpa using hz))
      clear hz
      go_wp2_with fail
      go_roundg (gk - 1)
      case measure => omega
      case rel => exact ⟨vis ++ [i], by rw [VL.o]; omega, ONE2, VIS7, JR, FR, BR, sR'⟩
   obtain ⟨g, rfl⟩ : ∃ g, gk = g + 1 := ⟨gk - 1, by omega⟩
   obtain ⟨x, hx⟩ : ∃ x, cs[j]? = some x := ⟨_, eG (by rw [HNO.o]; omega)⟩
   obtain ⟨q, hq⟩ : ∃ x, qs[j]? = some x := ⟨_, eG (by rw [HNI.o]; omega)⟩
   obtain ⟨_, _, e5, hbm', e0⟩ := HAT.o j x hx
   cases e5
   obtain ⟨_, _, ng, An, nn, cn, Ad, nd, cd, e6, hbi, f0, f1, f2, hfx⟩ := HIT.o j q hq
   cases e6
   have HX : Hd (cs.getD j 0 = x) := aH (by rw [gD, hx]; rfl)
   have HQG : Hd (qs.getD j 0 = q) := aH (by rw [gD, hq]; rfl)
   have c9 := (BE.o.cell (p := ⟨bo, oo + j, none⟩) hbm').trans e0
   have c0 := (BE.o.cell (p := ⟨bi, oi + j * 3, none⟩) hbi).trans f0
   have c1 := (BE.o.cell (p := ⟨bi, oi + j * 3 + 1, none⟩) hbi).trans f1
   have c2 := (BE.o.cell (p := ⟨bi, oi + j * 3 + 2, none⟩) hbi).trans f2
   have q3 : (0 : Int) <= (j : Int) := by omega
   have q4 : (j : Int) < (no : Int) := by omega
   have j9 : IntKind.i64.wrap ((j : Int) + 1) = (j : Int) + 1 := iI _ (by omega)
   have HFX := aH (hfx.below BE.o)
   have hxr := inR_iff.1 HWB.o x (mG hx)
   have QO : Hd (QB 800 (lookF L x)) := aH (by rw [SM.o.1]; exact (clsN_qb x QI.o j).mono (by omega))
   have QX : Hd (QB 64 q) := aH (QI.o q (mG hq))
   have sz4 : bo < w4.heap.size := Nat.lt_of_lt_of_le hbm' BE.o.size
   have E0 := aH e0
   have sM4 : bm < w4.heap.size := FM.o.lt
   clear hx hq e0 f0 f1 f2 hfx
   go_upto_region 8 with fail
   obtain ⟨W5, hW5, G0, GB, Ghs⟩ := aA w4 40 [.bool ng, .slice An nn cn, .slice Ad nd cd]
   rw [<- hW5]
   clear hW5
   obtain ⟨r0, r1, r2, _, _, _⟩ := G0.o.three
   go_wp2_with fail
   refine (jk W5 _ q 64 (HFX.o.below GB.o) (by omega) (by omega)).mono ?_
   rintro e w6 ⟨rfl, hb6⟩
   obtain ⟨sq, hsq⟩ : ∃ z, aU q = z := ⟨_, rfl⟩
   rw [hsq]
   have HSQ := aH hsq
   have C6 : Hd (Below w4.heap.size w4 w6) := aH (GB.o.trans (hb6.mono GB.o.size))
   have G6 := aH (G0.o.below' hb6)
   have P6 := aH (PE.o.below' C6.o)
   have B6 := aH (BE.o.trans (C6.o.mono BE.o.size))
   have M6 := aH (FM.o.below C6.o)
   have F6 := aH (HFX.o.below C6.o)
   have c9' := (C6.o.cell (p := ⟨bo, oo + j, none⟩) sz4).trans c9
   clear hb6 hsq r0 r1 r2 c9 c0 c1 c2 q0 q1 G0 GB PE BE FM HFX
   by_cases h3 : sq < 0
   ·have d7 : decide (sq < 0) = true := dT h3
    have HF : Hd (ke = 2) := aH (by rw [<- HKE.o]; exact clsE_not (fun h => h.2.2.2.1 j (by rw [HNO.o]; omega) (by rw [HQG.o, HSQ.o]; exact h3)))
    clear h3
    go_wp2_with fail
    go_ret
    exact ⟨ret_i HF.o.symm, B6.o⟩
   have d7 : decide (sq < 0) = false := dF h3
   have SG2 : Hd (∀ k, k < j + 1 -> 0 <= aU (qs.getD k 0)) := aH (fun k hk => by
    rcases Nat.lt_or_ge k j with h | h
    ·exact SG.o k h
    obtain rfl : k = j := by omega
    rw [HQG.o, HSQ.o]
    omega)
   clear h3
   obtain ⟨q0, q1⟩ := two_at P6.o
   obtain ⟨r0, r1, r2, _, _, _⟩ := G6.o.three
   have hkg := m5 (x := x) (by omega) (by omega)
   have hinj : ∀ e ∈ L, Value.int .i64 e.1 = Value.int .i64 x -> e.1 = x := fun e _ h => by injection h
   have hlook := M6.o.1.drew.look oG Tryz.underlying161 (zeroFr _) hkg hinj
   obtain ⟨v0, hv0⟩ : ∃ v, (aC L x).elim (.agg #[.bool false, .slice none 0 0, .slice none 0 0]) Prod.fst = v := ⟨_, rfl⟩
   rw [hv0] at hlook
   have V0 : Hd (FracAt 2000 w6.drew v0 (lookF L x)) := aH (by
    have := M6.o.at_ x
    rw [hv0] at this
    exact (this.frac (QO.o.mono (by omega)) (by omega)).below (bS _))
   have V1 : Hd (FracAt 2000 w6.drew (.agg #[.bool ng, .slice An nn cn, .slice Ad nd cd]) q) := aH ((F6.o.mono (by omega)).below (bS _))
   clear hv0
   have sP : w.heap.size < w6.heap.size := P6.o.lt
   clear hxr
   go_wp2_with fail
   have sM6 := M6.o.lt
   have HS0 := aH (aI (show w6.drew.cell? ⟨w.heap.size, 0, none⟩ = _ from q0) (aI (show w6.drew.cell? ⟨bo, oo + j, none⟩ = _ from c9') (aI (show w6.drew.cell? ⟨w4.heap.size, 0, none⟩ = _ from r0) (aI (show w6.drew.cell? ⟨w4.heap.size, 1, none⟩ = _ from r1) (show w6.drew.cell? ⟨w4.heap.size, 2, none⟩ = _ from r2)))))
   clear q0 q1 r0 r1 r2
   refine wp_region_held_drew (S := fun w' => w'.cell? ⟨w.heap.size, 0, none⟩ = some (.slice (some ⟨bo, oo, none⟩) no co) /\ w'.cell? ⟨bo, oo + j, none⟩ = some (.int .i64 x) /\ w'.cell? ⟨w4.heap.size, 0, none⟩ = some (.bool ng) /\ w'.cell? ⟨w4.heap.size, 1, none⟩ = some (.slice An nn cn) /\ w'.cell? ⟨w4.heap.size, 2, none⟩ = some (.slice Ad nd cd)) (by kernel_rfl) HS0.o (fun hHeld => ?_)
   refine tjj 0 ?_ rfl (by kernel_rfl) rfl ‹_› ?_ (fun _ _ _ h => h) (tjj 1 ?_ rfl (by kernel_rfl) rfl ‹_› ?_ (fun _ _ _ h => h) (tjj 2 ?_ rfl (by kernel_rfl) rfl ‹_› ?_ (fun _ _ _ h => h) (tjj 3 ?_ rfl (by kernel_rfl) rfl ‹_› ?_ (fun _ _ _ h => h) (tjj 4 ?_ rfl (by kernel_rfl) rfl ‹_› ?_ (fun _ _ _ h => h) (tjj 5 ?_ rfl (by kernel_rfl) rfl ‹_› ?_ (fun _ _ _ h => h) (tjj 6 ?_ rfl (by kernel_rfl) rfl ‹_› ?_ (fun _ _ _ h => h) (tjj 7 ?_ rfl (by kernel_rfl) rfl ‹_› ?_ (fun _ _ _ h => h) (tjj 8 ?_ rfl (by kernel_rfl) rfl ‹_› ?_ (fun _ _ _ h => h) (tjj 9 ?_ rfl (by kernel_rfl) rfl ‹_› ?_ (fun _ _ _ h => h) (tjj 10 ?_ rfl (by kernel_rfl) rfl ‹_› ?_ (fun _ _ _ h => h) (tjj 11 ?_ rfl (by kernel_rfl) rfl ‹_› ?_ (fun _ _ _ h => h) (tjj 13 ?_ rfl (by kernel_rfl) rfl ‹_› ?_ (fun _ _ _ h => h) ?_))))))))))))
   iterate 13 (rotate_left; · (intro w' hSw; (try dsimp only at hSw); (try go_frame); go_simp <;> with_reducible rfl))
   go_frame
   refine wpAnyH_ready (rs := [12]) (by kernel_rfl) (by simp) ?_
   refine AllReadyH.cons rfl (fun K hK => ?_) AllReadyH.nil
   go_simp
   refine hK.out _ _ HS0.o (fun hHeld => ?_)
   clear hK K hlook
   try go_frame
   refine wpAnyH_ready (rs := [14]) (by kernel_rfl) (by simp) ?_
   refine AllReadyH.cons rfl (fun K hK => ?_) AllReadyH.nil
   go_simp
   refine (l8 _ v0 _ (lookF L x) q 2000 V0.o V1.o (by omega) (by omega)).mono ?_
   rintro e wl ⟨u, rfl, t, hb⟩
   have hb' := bO hb
   have M7 : Hd (FMap wl bm L) := aH (M6.o.below hb')
   obtain ⟨w7, hup, hT, hG⟩ := M7.o.1.update (t := 161) oG Tryz.underlying161 hkg hinj (u, lookF L x + q)
   have HT := aH hT
   have HG := aH hG
   have T7 := aH t.at_
   have B7 := aH hb'
   have P7 := aH ((P6.o.below' B7.o).grown HG.o (fun e => by injection e; omega))
   have G7 := aH ((G6.o.below' B7.o).grown HG.o (fun e => by injection e; omega))
   have D7 := aH ((B6.o.trans (B7.o.mono B6.o.size)).grown HG.o (Nat.le_trans B6.o.size B7.o.size) (fun k e => by cases e; omega))
   have HS1 := aH (aI ((P6.o.below' B7.o).cell 0) (aI ((B7.o.cell (p := ⟨bo, oo + j, none⟩) (by show bo < _; omega)).trans c9') (aI ((G6.o.below' B7.o).cell 0) (aI ((G6.o.below' B7.o).cell 1) ((G6.o.below' B7.o).cell 2)))))
   have HS2 := aH (aI (P7.o.cell 0) (aI ((D7.o.cell (p := ⟨bo, oo + j, none⟩) hbm').trans E0.o) (aI (G7.o.cell 0) (aI (G7.o.cell 1) (G7.o.cell 2)))))
   clear t hb hb' hT hG
   try go_simp
   refine hK.out _ _ HS1.o (fun hHeld => ?_)
   clear hK K
   try go_frame
   refine wpAnyH_ready (rs := [15]) (by kernel_rfl) (by simp) ?_
   refine AllReadyH.cons rfl (fun K hK => ?_) AllReadyH.nil
   go_simp
   refine hK.out _ _ HS2.o (fun hHeld => ?_)
   clear hK K hHeld hup
   try go_frame
   refine wpAnyH_done (by kernel_rfl) ?_ _
   go_wp2_with fail
   go_roundg g
   case measure => omega
   case rel => exact ⟨j + 1, dJ L x (u, lookF L x + q), rfl, by omega, aH (M7.o.put T7.o HG.o HT.o), aH (SM.o.put HX.o HQG.o u), SG2, P7, D7⟩
 have d3 : ((ni : Int) != (no : Int)) = true := by simpa using fun h => hne (by omega)
 have HF : Hd (ke = 2) := aH (by rw [<- HKE.o]; exact clsE_not (fun h => hne (by have := h.2.1; rw [HNO.o, HNI.o] at this; exact this))) 
 go_wp2_with fail
 go_ret
 exact ⟨ret_i HF.o.symm, PB.o⟩
end Go.Proofs.YtjebfdfkjlkifaaGreat
