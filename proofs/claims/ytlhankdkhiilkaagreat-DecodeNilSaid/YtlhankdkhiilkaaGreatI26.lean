/- Lemmas on the way: Sn1, Ov1, Fl1, FArc, Sn2. -/
import Derived.Test.YtlhankdkhiilkaaGreatI25
import Derived.Test.YtlhankdkhiilkaaGreatI24
import Derived.Maps.OwnSet
import Derived.Deep.DrawnRows
set_option linter.unusedSimpArgs false
set_option linter.unusedVariables false
set_option linter.unusedSectionVars false
set_option linter.unnecessarySimpa false
namespace Go.Proofs.YtlhankdkhiilkaaGreat
open Go.RowKit
def SeenAt (w : World) (mv : Value) (L : List (Int × Int)) : Prop := (mv = .map none ∧ L = []) ∨ ∃ b, mv = .map (some b) ∧ TMap (Value.int .i64) (Value.int .i64) w 3 b L
theorem SeenAt.below {w w' : World} {mv : Value} {L : List (Int × Int)} (h : SeenAt w mv L) (hb : Below w.heap.size w w') : SeenAt w' mv L := by
 rcases h with ⟨h1, h2⟩ | ⟨b, h1, h2⟩
 ·exact .inl ⟨h1, h2⟩
 ·exact .inr ⟨b, h1, h2.below hb⟩

theorem LevO.none_ {w : World} {b base n : Nat} {S : List (List Int × Int)} {outer : List (List Int × Nat)} (h : LevO w b base n S outer) {T : List Int → Int} (hC : Cnt S T) {hs : List Int} (hl : hs.length = n - 1) (hn : lookT outer hs = none) : CntI [] (fun x => T (hs ++ [x])) := by
 refine cntI_nil fun x => ?_
 by_cases h0 : T (hs ++ [x]) = 0
 ·exact h0
 ·exfalso
  have h1 := h.2.2.2.2.2.1 _ (hC.mem h0)
  simp only at h1
  rw [← hl, List.take_left] at h1
  obtain ⟨e, he, he2⟩ := List.mem_map.1 h1
  have h2 := nodup_at h.1.nodup he
  rw [he2, hn] at h2
  cases h2
theorem sumI_snoc (L : List (Int × Int)) (e : Int × Int) : sumI (L ++ [e]) = sumI L + e.2 := by
 unfold sumI
 rw [List.map_append, List.sum_append]
 simp
def visI (L : List (Int × Int)) (vis : List Nat) : List (Int × Int) := vis.map fun i => L.getD i (0, 0)
theorem visI_snoc (L : List (Int × Int)) (vis : List Nat) {j : Nat} {e : Int × Int} (h : L[j]? = some e) : visI L (vis ++ [j]) = visI L vis ++ [e] := by
 unfold visI
 rw [List.map_append, List.map_singleton, List.getD_eq_getElem?_getD, h]
 rfl
theorem visI_perm {L : List (Int × Int)} {vis : List Nat} (hn : vis.Nodup) (hv : ∀ i ∈ vis, i < L.length) (hall : ∀ j, j < L.length → j ∈ vis) : (visI L vis).Perm L := by
 have hp : vis.Perm (List.range L.length) := (List.perm_ext_iff_of_nodup hn List.nodup_range).2 (fun a => ⟨fun h => List.mem_range.2 (hv a h), fun h => hall a (List.mem_range.1 h)⟩)
 have h1 := hp.map (fun i => L.getD i (0, 0))
 have h2 : (List.range L.length).map (fun i => L.getD i (0, 0)) = L := by
  apply List.ext_getElem?
  intro i
  rw [List.getElem?_map]
  by_cases hi : i < L.length
  ·rw [List.getElem?_range hi, List.getElem?_eq_getElem hi]
   simp [List.getD_eq_getElem?_getD, hi]
  ·rw [List.getElem?_eq_none_iff.2 (by simpa using hi), List.getElem?_eq_none_iff.2 (by omega)]
   rfl
 rw [h2] at h1
 exact h1

set_option maxRecDepth 1000000 in
set_option maxHeartbeats 4000000 in
theorem seenG (w : World) (O n : Nat) (b : Nat) (wd : Int) (hv : Value) (gs : List Gr) (h : List Int) (hL : LvsAt w b O 0 gs) (hn : 1 ≤ n ∧ n ≤ O) (hO : O ≤ 4) (hi : IntsAt w hv h) (hl : h.length = n - 1) (hk : NiceK h) :
  Calls Tryz.prog 205 #[.agg #[.slice (some ⟨b, 0, none⟩) (O + 1) (O + 1), .int .i64 wd], .int .i64 n, hv] w fun e w' => ∃ mv L, e = .returned (.tuple #[mv, .int .i64 (sumI L)]) ∧ SeenAt w' mv L ∧ CntI L (fun x => tot (O - n) gs (h ++ [x])) ∧ (sumI L ≤ 429496729600000000 ∧ ∀ e ∈ L, e.2 ≤ 21474836480000) ∧ Below w.heap.size w w' := by
 obtain ⟨xs, hx1, hx2, hx3⟩ := hL
 obtain ⟨bj, base, S, e, hlv, hS, hC, hSl⟩ := hx3 n (by omega) hn.2
 have c0 : w.cell? ⟨b, n, none⟩ = some (.map (some bj)) := (hx1.cell n).trans e
 have hb : b < w.heap.size := hx1.lt
 have j1 : (0 : Int) ≤ (n : Int) := by omega
 have j2 : (n : Int) < (O : Int) + 1 := by omega
 obtain ⟨outer, hlo⟩ := hlv
 have HLO := Lib.hid hlo
 have HS := Lib.hid hS
 have HC := Lib.hid hC
 have HI := Lib.hid hi
 have HK := Lib.hid hk
 clear hx1 hx2 hx3 e hlo hS hC hi hk
 go_enter Tryz.func205, Tryz.ntmps205
 go_wp2_with fail
 obtain ⟨W, hW, P0, PB, Phs⟩ := box1 w 224 [.slice (some ⟨b, 0, none⟩) (O + 1) (O + 1), .int .i64 wd]
 rw [← hW]
 clear hW
 have p0 := P0.out.cell 0
 have p1 := P0.out.cell 1
 simp only [List.getElem?_cons_zero, List.getElem?_cons_succ] at p0 p1
 have c1 := (PB.out.cell (p := ⟨b, n, none⟩) hb).trans c0
 go_upto_region 1 with fail
 go_cut [8] (fun mv wc => mv = (lookT outer h).elim (.map none) bmap ∧ Hid (Below w.heap.size w wc))
 case first =>
  go_region_with (first
   | (go_at_call 171; refine (keyedG _ _ _ (HI.out.below (PB.out.trans (below_drew_self _))) HK.out.1 (fun z hz => by have := HK.out.2 z hz; omega)).mono ?_; rintro e w2 ⟨rfl, hb2'⟩; have hb2 := below_of_drew hb2'; have B2 := Lib.hid (bcomp PB.out hb2); have hlook := (HLO.out.below B2.out).look HK.out; have c2 := (B2.out.cell (p := ⟨b, n, none⟩) hb).trans c0; have q0 := (P0.out.below' hb2).cell 0; have q1 := (P0.out.below' hb2).cell 1; simp only [List.getElem?_cons_zero, List.getElem?_cons_succ] at q0 q1; clear hb2 hb2'))
  all_goals
   go_wp2_with fail
   go_meet
   exact ⟨rfl, B2⟩
 case rest =>
  obtain ⟨rfl, B2⟩ := hcut
  have O2 := Lib.hid (HLO.out.below B2.out)
  cases hlk : lookT outer h with
  | none =>
   have HE := Lib.hid (HLO.out.none_ HC.out hl hlk)
   simp only [Option.elim_none]
   clear hlk p0 p1 c1
   have hrn := run_range_nil (P := Tryz.prog) wc 257 3 3 Tryz.underlying257
   go_wp2_with fail
   go_loopg [9, 11] 0 (fun _ s9 _ wz => s9 = .int .i64 0 ∧ Hid (wz.heap[wc.heap.size]? = some (.mapIter none 0 #[] 0)) ∧ Hid (Below w.heap.size w wz))
   case atStart => exact ⟨rfl, Lib.hid (World.alloc_heap_new _ _), Lib.hid (B2.out.trans (((Below.refl _ wc).alloc (Nat.le_refl _) _).mono B2.out.size))⟩
   case round =>
    obtain ⟨rfl, I3, B3⟩ := hrel
    have hnx := run_next_nil (P := Tryz.prog) 0 I3.out
    go_wp2_with fail
    go_ret2
    exact ⟨_, [], rfl, .inl ⟨rfl, rfl⟩, HE.out, ⟨by simp [sumI], fun e he => by cases he⟩, B3.out⟩
  | some bi =>
   have hm := lookT_mem hlk
   have HT := Lib.hid (O2.out.2.2.2.2.1 _ hm)
   have HCI := Lib.hid (innerL_cnt (h := h) HS.out HC.out (by omega) hl)
   have HLE : Hid ((innerL n S h).length ≤ 20000 ∧ ∀ e ∈ innerL n S h, 0 < e.2 ∧ e.2 ≤ 21474836480000) := Lib.hid ⟨by
    unfold innerL
    rw [List.length_map]
    exact Nat.le_trans (List.length_filter_le _ _) hSl, fun e he => by
     have h1 := HS.out.2 _ (innerL_mem HS.out (by omega) (x := e.1) (c := e.2) he)
     exact h1.2.2⟩
   simp only [Option.elim_some, bmap]
   generalize innerL n S h = L at *
   clear hlk p0 p1 c1 hm hSl
   have s2 : w.heap.size ≤ wc.heap.size := B2.out.size
   go_wp2_with (refine wpList_range_k rfl _ _ rfl 3 3 Tryz.underlying257 bi _ rfl HT.out ?_)
   intro w4 hm4 hi4 hb4 hs4
   have I4 : Hid (IterAt w4 wc.heap.size bi L.length []) := Lib.hid (by simpa [encM] using hi4)
   have M4 : Hid (TMap (Value.int .i64) (Value.int .i64) w4 3 bi L) := Lib.hid hm4
   have B4 : Hid (Below w.heap.size w w4) := Lib.hid (B2.out.trans (hb4.mono s2))
   clear hm4 hi4 hb4 hs4
   go_wp2_with fail
   go_loopg [9, 11] L.length (fun gh s9 _ wz => ∃ vis : List Nat, s9 = .int .i64 (sumI (visI L vis)) ∧ vis.length + gh = L.length ∧ Hid (vis.Nodup ∧ ∀ i ∈ vis, i < L.length) ∧ Hid (0 ≤ sumI (visI L vis) ∧ sumI (visI L vis) ≤ vis.length * 21474836480000) ∧ Hid (IterAt wz wc.heap.size bi L.length vis) ∧ Hid (TMap (Value.int .i64) (Value.int .i64) wz 3 bi L) ∧ Hid (Below w.heap.size w wz))
   case atStart => exact ⟨[], rfl, by simp, Lib.hid ⟨List.nodup_nil, fun i hi => by cases hi⟩, Lib.hid ⟨by simp [visI, sumI], by simp [visI, sumI]⟩, I4, M4, B4⟩
   case round =>
    clear I4 M4 B4
    obtain ⟨vis, rfl, hvl, VIS, SB, I4, M4, B4⟩ := hrel
    have I5 : Hid (IterAt wr wc.heap.size bi (encM (Value.int .i64) (Value.int .i64) L).length vis) := Lib.hid (by simpa [encM] using I4.out)
    go_wp2_with (refine wpList_next_k rfl _ rfl 3 bi wc.heap.size (encM (Value.int .i64) (Value.int .i64) L) vis rfl M4.out I5.out ?done ?more)
    case done =>
     intro hdone
     have HPM := Lib.hid (visI_perm VIS.out.1 VIS.out.2 (fun j hj => hdone j (by simpa [encM] using hj)))
     have HSE : Hid (sumI (visI L vis) = sumI L) := Lib.hid (by unfold sumI; exact sum_perm (HPM.out.map _))
     clear hdone I5
     rw [HSE.out]
     go_wp2_with fail
     go_ret2
     exact ⟨_, L, rfl, .inr ⟨bi, rfl, M4.out⟩, HCI.out, ⟨by have h1 := SB.out.2; rw [HSE.out] at h1; have h2 := HLE.out.1; omega, fun e he => (HLE.out.2 e he).2⟩, B4.out⟩
    case more =>
     intro i xk xv w5 hx hiv hm5 hi5 hent hg5 hs5
     rw [encM_get] at hx
     obtain ⟨e, he, rfl, rfl⟩ : ∃ e, L[i]? = some e ∧ Value.int .i64 e.1 = xk ∧ Value.int .i64 e.2 = xv := by
      cases h : L[i]? with
      | none => rw [h] at hx; cases hx
      | some e => rw [h] at hx; simp only [Option.map_some, Option.some.injEq, Prod.mk.injEq] at hx; exact ⟨e, rfl, hx.1, hx.2⟩
     have hil := (List.getElem?_eq_some_iff.1 he).1
     have heb := HLE.out.2 e (List.mem_of_getElem? he)
     have VIS5 : Hid ((vis ++ [i]).Nodup ∧ ∀ k ∈ vis ++ [i], k < L.length) := Lib.hid ⟨List.nodup_append.2 ⟨VIS.out.1, by simp, fun a ha b hb e => by simp at hb; subst hb; subst e; exact hiv ha⟩, fun k hk => by rcases List.mem_append.1 hk with hk | hk; exact VIS.out.2 k hk; rw [List.mem_singleton.1 hk]; exact hil⟩
     have hgk : 0 < gk := by have := nodup_lt VIS5.out.1 VIS5.out.2; rw [List.length_append, List.length_singleton] at this; omega
     have HSN : Hid (sumI (visI L (vis ++ [i])) = sumI (visI L vis) + e.2) := Lib.hid (by rw [visI_snoc L vis he, sumI_snoc])
     have J5 : Hid (IterAt w5 wc.heap.size bi L.length (vis ++ [i])) := Lib.hid (by simpa [encM] using hi5)
     have M5 : Hid (TMap (Value.int .i64) (Value.int .i64) w5 3 bi L) := Lib.hid hm5
     have B5 : Hid (Below w.heap.size w w5) := Lib.hid (B4.out.grown hg5 B4.out.size (fun k e => by cases e; exact s2))
     have hsb := SB.out
     have hl2 : vis.length < 20000 := by have := HLE.out.1; omega
     obtain ⟨u, hu⟩ : ∃ u, sumI (visI L vis) = u := ⟨_, rfl⟩
     rw [hu] at hsb HSN ⊢
     clear hx hm5 hi5 hg5 hs5 he hu SB I5 I4 M4
     obtain ⟨ex, ec⟩ := e
     simp only at hent heb HSN
     have hb1 : u + ec ≤ 9223372036854775807 := by omega
     have hb2 : -9223372036854775808 ≤ u + ec := by omega
     go_wp2_with fail
     go_roundg (gk - 1)
     case measure => omega
     case rel => exact ⟨vis ++ [i], by rw [HSN.out], by rw [List.length_append, List.length_singleton]; omega, VIS5, Lib.hid (by rw [HSN.out, List.length_append, List.length_singleton]; omega), J5, M5, B5⟩
set_option maxRecDepth 1000000 in
set_option maxHeartbeats 4000000 in
theorem overG (w : World) (v v' : Value) (q r : Rat) (k : Nat) (h : FracAt k w v q) (h' : FracAt k w v' r) (h0 : 0 < k) (hk : k ≤ 549755813888) (hr : r ≠ 0) :
  Calls Tryz.prog 210 #[v, v'] w fun e w' => ∃ u, e = .returned u ∧ CanNew w.heap.size w' u (q / r) ∧ Below w.heap.size w w' := by
 have H1 := Lib.hid h
 have H2 := Lib.hid h'
 have HR := Lib.hid hr
 obtain ⟨s, vn, vd, rfl⟩ := h.shape
 obtain ⟨t, vn', vd', rfl⟩ := h'.shape
 clear h h' hr
 go_enter Tryz.func210, Tryz.ntmps210
 go_wp2_with fail
 obtain ⟨W, hW, P0, P1, P2, PB, Phs⟩ := box3 w 27 [.bool s, vn, vd] 27 [.bool t, vn', vd'] 27 [.bool false, .slice none 0 0, .slice none 0 0]
 rw [← hW]
 clear hW
 obtain ⟨p0, p1, p2, _, _, _⟩ := P0.out.three
 obtain ⟨q0, q1, q2, _, _, _⟩ := P1.out.three
 go_wp2_with fail
 refine (divF W _ _ q r k (H1.out.below PB.out) (H2.out.below PB.out) h0 hk HR.out).mono ?_
 rintro e w1 ⟨u, rfl, t1, hb1⟩
 obtain ⟨A, m, c, A', m', c', rfl, ta, tb, tc, td⟩ := t1.open_
 have T1 := Lib.hid t1
 have P2' := Lib.hid (P2.out.below' hb1)
 have B1 := Lib.hid (PB.out.trans (hb1.mono (by omega)))
 have s1 : w.heap.size + 3 ≤ w1.heap.size := Nat.le_trans Phs hb1.size
 have TA := Lib.hid ta
 have TB := Lib.hid tb
 have TC := Lib.hid tc
 have TD := Lib.hid td
 clear p0 p1 p2 q0 q1 q2 ta tb tc td t1 hb1
 go_upto_region 2 with fail
 obtain ⟨W2, hW2, G0, GB, Ghs⟩ := box1 w1 27 [.bool (isNeg (q / r)), .slice A m c, .slice A' m' c']
 rw [← hW2]
 clear hW2
 obtain ⟨g0, g1, g2, _, _, _⟩ := G0.out.three
 obtain ⟨r0, r1, r2, z0, z1, z2⟩ := (P2'.out.below' GB.out).three
 have B2 := Lib.hid (B1.out.trans (GB.out.mono (by omega)))
 have UA := Lib.hid (TA.out.below GB.out)
 have UB := Lib.hid (TB.out.below GB.out)
 go_wp2_with fail
 refine bodyPost_ret (v := .agg #[.bool (isNeg (q / r)), .slice A m c, .slice A' m' c']) (by simp [results, Tryz.results210, go_sem, r0, r1, r2]) rfl ⟨_, rfl, ?_, below_box3 B2.out (by omega) _ _ _⟩
 exact (CanNew.box3 UA.out UB.out TC.out TD.out (by omega) _ _ _).mono (by omega)
section
open Go.RowKit
end
section
theorem NatAt.offBlk {w : World} {v : Value} {n b : Nat} {e : TypeId} {xs : List Value} (h : NatAt w v n) (hb : Blk w b e xs) (hx : ∀ x ∈ xs, NoDig x) : Off v b := by
 obtain ⟨l, h1, _⟩ := h
 exact h1.offBlk hb hx
theorem CanAt.putBlk {w : World} {v : Value} {q : Rat} {g : Nat} {e : TypeId} {xs : List Value} (h : CanAt w v q) (hb : Blk w g e xs) (hx : ∀ x ∈ xs, NoDig x) (i : Nat) (u : Value) : CanAt (w.setCell ⟨g, i, none⟩ u) v q := by
 obtain ⟨vn, vd, e, h1, h2⟩ := h
 exact ⟨vn, vd, e, h1.setOff (p := ⟨g, i, none⟩) (h1.offBlk hb hx) u, h2.setOff (p := ⟨g, i, none⟩) (h2.offBlk hb hx) u⟩
theorem CanAt.put3 {w : World} {v : Value} {q : Rat} {b : Nat} {e : TypeId} {xs : List Value} (h : CanAt w v q) (hb : Blk w b e xs) (hx : ∀ x ∈ xs, NoDig x) (i j k : Nat) (s : Bool) (A A' : Option Addr) (m c m' c' : Nat) :
  CanAt (((w.setCell ⟨b, i, none⟩ (.bool s)).setCell ⟨b, j, none⟩ (.slice A m c)).setCell ⟨b, k, none⟩ (.slice A' m' c')) v q :=
 ((h.putBlk hb hx i _).putBlk (hb.set_ _ _) (noDig_set hx _ (show NoDig (.bool s) from trivial)) j _).putBlk ((hb.set_ _ _).set_ _ _) (noDig_set (noDig_set hx _ (show NoDig (.bool s) from trivial)) _ (show NoDig (.slice A m c) from trivial)) k _
theorem CanAt.open_ {w : World} {v : Value} {q : Rat} (h : CanAt w v q) : ∃ A m c A' m' c', v = .agg #[.bool (isNeg q), .slice A m c, .slice A' m' c'] := by
 obtain ⟨vn, vd, rfl, h1, h2⟩ := h
 obtain ⟨_, ⟨⟨_, A, c, rfl, _⟩, _⟩, _⟩ := h1
 obtain ⟨_, ⟨⟨_, A', c', rfl, _⟩, _⟩, _⟩ := h2
 exact ⟨_, _, _, _, _, _, rfl⟩

def FArc (w : World) (b : Nat) (qs : List Rat) : Prop := ∃ xs, Blk w b 27 xs ∧ xs.length = qs.length * 3 ∧ (∀ x ∈ xs, NoDig x) ∧
 ∀ (i : Nat) (q : Rat), qs[i]? = some q → ∃ A m c A' m' c', xs[i * 3]? = some (.bool (isNeg q)) ∧ xs[i * 3 + 1]? = some (.slice A m c) ∧ xs[i * 3 + 2]? = some (.slice A' m' c') ∧ CanAt w (.agg #[.bool (isNeg q), .slice A m c, .slice A' m' c']) q
section
variable {w w' : World} {b : Nat} {qs : List Rat}
theorem FArr.arc {base : Nat} (h : FArr base w b qs) : FArc w b qs := by
 obtain ⟨_, xs, h1, h2, h3⟩ := h
 refine ⟨xs, h1, h2, fun x hx => ?_, fun i q hq => ?_⟩
 ·obtain ⟨j, hj⟩ := List.mem_iff_getElem?.1 hx
  have hjl := (List.getElem?_eq_some_iff.1 hj).1
  obtain ⟨q, hq⟩ : ∃ q, qs[j / 3]? = some q := ⟨_, List.getElem?_eq_getElem (by omega)⟩
  obtain ⟨A, m, c, A', m', c', e0, e1, e2, _⟩ := h3 _ q hq
  have hm : j = j / 3 * 3 ∨ j = j / 3 * 3 + 1 ∨ j = j / 3 * 3 + 2 := by omega
  rcases hm with e | e | e
  ·rw [e, e0] at hj; cases hj; trivial
  ·rw [e, e1] at hj; cases hj; trivial
  ·rw [e, e2] at hj; cases hj; trivial
 ·obtain ⟨A, m, c, A', m', c', e0, e1, e2, e3⟩ := h3 i q hq
  exact ⟨A, m, c, A', m', c', e0, e1, e2, e3.at_⟩
theorem FArc.lt (h : FArc w b qs) : b < w.heap.size := by
 obtain ⟨xs, hb, _⟩ := h
 exact hb.lt
theorem FArc.below (h : FArc w b qs) (hb : Below w.heap.size w w') : FArc w' b qs := by
 obtain ⟨xs, h1, h2, hx, h3⟩ := h
 refine ⟨xs, h1.below' hb, h2, hx, fun i q hq => ?_⟩
 obtain ⟨A, m, c, A', m', c', e0, e1, e2, e3⟩ := h3 i q hq
 exact ⟨A, m, c, A', m', c', e0, e1, e2, e3.below hb⟩
theorem FArc.get (h : FArc w b qs) {i : Nat} {q : Rat} (hq : qs[i]? = some q) : ∃ A m c A' m' c', w.cell? ⟨b, i * 3, none⟩ = some (.bool (isNeg q)) ∧ w.cell? ⟨b, i * 3 + 1, none⟩ = some (.slice A m c) ∧ w.cell? ⟨b, i * 3 + 2, none⟩ = some (.slice A' m' c') ∧
  w.frozen? ⟨b, i * 3, none⟩ = false ∧ w.frozen? ⟨b, i * 3 + 1, none⟩ = false ∧ w.frozen? ⟨b, i * 3 + 2, none⟩ = false ∧ CanAt w (.agg #[.bool (isNeg q), .slice A m c, .slice A' m' c']) q := by
 obtain ⟨xs, h1, _, _, h3⟩ := h
 obtain ⟨A, m, c, A', m', c', e0, e1, e2, e3⟩ := h3 i q hq
 exact ⟨A, m, c, A', m', c', (h1.cell _).trans e0, (h1.cell _).trans e1, (h1.cell _).trans e2, h1.frozen _, h1.frozen _, h1.frozen _, e3⟩
theorem FArc.keeps (h : FArc w b qs) {v : Value} {q : Rat} (hv : CanAt w v q) (i j k : Nat) (s : Bool) (A A' : Option Addr) (m c m' c' : Nat) :
  CanAt (((w.setCell ⟨b, i, none⟩ (.bool s)).setCell ⟨b, j, none⟩ (.slice A m c)).setCell ⟨b, k, none⟩ (.slice A' m' c')) v q := by
 obtain ⟨xs, h1, _, hx, _⟩ := h
 exact hv.put3 h1 hx i j k s A A' m c m' c'
theorem FArc.blk (h : FArc w b qs) : ∃ xs, Blk w b 27 xs ∧ ∀ x ∈ xs, NoDig x := by
 obtain ⟨xs, h1, _, hx, _⟩ := h
 exact ⟨xs, h1, hx⟩
theorem FArc.far1 (h : FArc w b qs) {g : Nat} {e : TypeId} {xs : List Value} (hb : Blk w g e xs) (hx : ∀ x ∈ xs, NoDig x) (hne : b ≠ g) (i : Nat) (u : Value) : FArc (w.setCell ⟨g, i, none⟩ u) b qs := by
 obtain ⟨ys, g1, g2, gx, g3⟩ := h
 refine ⟨ys, g1.far (p := ⟨g, i, none⟩) hne u, g2, gx, fun j r hr => ?_⟩
 obtain ⟨A1, m1, c1, A1', m1', c1', e0, e1, e2, e3⟩ := g3 j r hr
 exact ⟨A1, m1, c1, A1', m1', c1', e0, e1, e2, e3.putBlk hb hx _ _⟩
theorem FArc.far {g : Nat} {rs : List Rat} (h : FArc w b qs) (hg : FArc w g rs) (hne : b ≠ g) (i j k : Nat) (s : Bool) (A A' : Option Addr) (m c m' c' : Nat) :
  FArc (((w.setCell ⟨g, i, none⟩ (.bool s)).setCell ⟨g, j, none⟩ (.slice A m c)).setCell ⟨g, k, none⟩ (.slice A' m' c')) b qs := by
 obtain ⟨xs, h1, hx⟩ := hg.blk
 exact ((h.far1 h1 hx hne i _).far1 (h1.set_ _ _) (noDig_set hx _ (show NoDig (.bool s) from trivial)) hne j _).far1 ((h1.set_ _ _).set_ _ _) (noDig_set (noDig_set hx _ (show NoDig (.bool s) from trivial)) _ (show NoDig (.slice A m c) from trivial)) hne k _
theorem FArc.put (h : FArc w b qs) {i : Nat} (hi : i < qs.length) {q : Rat} {s : Bool} {A A' : Option Addr} {m c m' c' : Nat} (hs : s = isNeg q) (hq : CanAt w (.agg #[.bool s, .slice A m c, .slice A' m' c']) q) :
  FArc (((w.setCell ⟨b, i * 3, none⟩ (.bool s)).setCell ⟨b, i * 3 + 1, none⟩ (.slice A m c)).setCell ⟨b, i * 3 + 2, none⟩ (.slice A' m' c')) b (qs.set i q) := by
 subst hs
 obtain ⟨xs, h1, h2, hx, h3⟩ := h
 have hset := ((h1.set_ (i * 3) (.bool (isNeg q))).set_ (i * 3 + 1) (.slice A m c)).set_ (i * 3 + 2) (.slice A' m' c')
 have nd := noDig_set (noDig_set (noDig_set hx (i * 3) (show NoDig (.bool (isNeg q)) from trivial)) (i * 3 + 1) (show NoDig (.slice A m c) from trivial)) (i * 3 + 2) (show NoDig (.slice A' m' c') from trivial)
 have keep : ∀ {v r}, CanAt w v r → CanAt (((w.setCell ⟨b, i * 3, none⟩ (.bool (isNeg q))).setCell ⟨b, i * 3 + 1, none⟩ (.slice A m c)).setCell ⟨b, i * 3 + 2, none⟩ (.slice A' m' c')) v r := fun h => h.put3 h1 hx _ _ _ _ _ _ _ _ _ _
 refine ⟨_, hset, by simpa using h2, nd, fun j r hr => ?_⟩
 by_cases hj : i = j
 ·subst hj
  rw [List.getElem?_set_self hi] at hr
  cases hr
  refine ⟨A, m, c, A', m', c', ?_, ?_, ?_, keep hq⟩
  ·rw [List.getElem?_set_ne (by omega), List.getElem?_set_ne (by omega), List.getElem?_set_self (by omega)]
  ·rw [List.getElem?_set_ne (by omega), List.getElem?_set_self (by simp; omega)]
  ·rw [List.getElem?_set_self (by simp; omega)]
 ·rw [List.getElem?_set_ne hj] at hr
  obtain ⟨A1, m1, c1, A1', m1', c1', e0, e1, e2, e3⟩ := h3 j r hr
  refine ⟨A1, m1, c1, A1', m1', c1', ?_, ?_, ?_, keep e3⟩
  ·rw [List.getElem?_set_ne (by omega), List.getElem?_set_ne (by omega), List.getElem?_set_ne (by omega)]; exact e0
  ·rw [List.getElem?_set_ne (by omega), List.getElem?_set_ne (by omega), List.getElem?_set_ne (by omega)]; exact e1
  ·rw [List.getElem?_set_ne (by omega), List.getElem?_set_ne (by omega), List.getElem?_set_ne (by omega)]; exact e2
end

def BoxC (w : World) (b : Nat) (q : Rat) : Prop := FArc w b [q]
section
variable {w w' : World} {b : Nat} {q : Rat}
theorem BoxC.below (h : BoxC w b q) (hb : Below w.heap.size w w') : BoxC w' b q := FArc.below h hb
theorem BoxC.lt (h : BoxC w b q) : b < w.heap.size := FArc.lt h
theorem BoxC.get (h : BoxC w b q) : ∃ A m c A' m' c', w.cell? ⟨b, 0, none⟩ = some (.bool (isNeg q)) ∧ w.cell? ⟨b, 1, none⟩ = some (.slice A m c) ∧ w.cell? ⟨b, 2, none⟩ = some (.slice A' m' c') ∧
  w.frozen? ⟨b, 0, none⟩ = false ∧ w.frozen? ⟨b, 1, none⟩ = false ∧ w.frozen? ⟨b, 2, none⟩ = false ∧ CanAt w (.agg #[.bool (isNeg q), .slice A m c, .slice A' m' c']) q := by
 have := FArc.get h (i := 0) (q := q) rfl
 simpa using this
theorem BoxC.put (h : BoxC w b q) {r : Rat} {s : Bool} {A A' : Option Addr} {m c m' c' : Nat} (hs : s = isNeg r) (hr : CanAt w (.agg #[.bool s, .slice A m c, .slice A' m' c']) r) :
  BoxC (((w.setCell ⟨b, 0, none⟩ (.bool s)).setCell ⟨b, 1, none⟩ (.slice A m c)).setCell ⟨b, 2, none⟩ (.slice A' m' c')) b r := by
 have := FArc.put h (i := 0) (by simp) hs hr
 unfold BoxC
 simpa using this
theorem BoxC.of {A A' : Option Addr} {m c m' c' : Nat} (h : Blk w b 27 [.bool (isNeg q), .slice A m c, .slice A' m' c']) (hq : CanAt w (.agg #[.bool (isNeg q), .slice A m c, .slice A' m' c']) q) : BoxC w b q := by
 refine ⟨_, h, rfl, ?_, fun i r hr => ?_⟩
 ·intro x hx
  simp only [List.mem_cons, List.not_mem_nil, or_false] at hx
  rcases hx with rfl | rfl | rfl <;> trivial
 ·cases i with
  | succ i => simp at hr
  | zero =>
   cases hr
   exact ⟨A, m, c, A', m', c', rfl, rfl, rfl, hq⟩
theorem BoxC.new {A A' : Option Addr} {m c m' c' : Nat} (hq : CanAt w (.agg #[.bool (isNeg q), .slice A m c, .slice A' m' c']) q) : BoxC (w.alloc (.cells #[.bool (isNeg q), .slice A m c, .slice A' m' c'] 27)) w.heap.size q := by
 refine ⟨_, Blk.new w 27 [.bool (isNeg q), .slice A m c, .slice A' m' c'], rfl, ?_, fun i r hr => ?_⟩
 ·intro x hx
  simp only [List.mem_cons, List.not_mem_nil, or_false] at hx
  rcases hx with rfl | rfl | rfl <;> trivial
 ·cases i with
  | succ i => simp at hr
  | zero =>
   cases hr
   exact ⟨A, m, c, A', m', c', rfl, rfl, rfl, hq.below ((Below.refl _ w).alloc (Nat.le_refl _) _)⟩
theorem BoxC.zero (w : World) : BoxC (w.alloc (.cells #[.bool false, .slice none 0 0, .slice none 0 0] 27)) w.heap.size 0 := BoxC.new (w := w) (q := 0) ((CanNew.zero_ 0 w).at_)
end
theorem cell3 {w : World} {B g o : Nat} {x : Value} (h : w.cell? ⟨g, o, none⟩ = some x) (hp : g ≠ B) (i j k : Nat) (u0 u1 u2 : Value) : (((w.setCell ⟨B, i, none⟩ u0).setCell ⟨B, j, none⟩ u1).setCell ⟨B, k, none⟩ u2).cell? ⟨g, o, none⟩ = some x := by
 have e : ∀ (w : World) (i : Nat) (u : Value), (w.setCell ⟨B, i, none⟩ u).cell? ⟨g, o, none⟩ = w.cell? ⟨g, o, none⟩ := fun w i u => by
  unfold World.cell?
  rw [show (w.setCell ⟨B, i, none⟩ u).heap[(⟨g, o, none⟩ : Addr).block]? = w.heap[(⟨g, o, none⟩ : Addr).block]? from Below.heap_setCell w ⟨B, i, none⟩ u g hp]
 rw [e, e, e, h]
theorem row_step (f : Nat → Rat) (j g : Nat) {x : Rat} (hx : x = f j) : ((List.range j).map f ++ List.replicate (g + 1) 0).set j x = (List.range (j + 1)).map f ++ List.replicate g 0 := by
 subst hx
 rw [List.set_append_right _ _ (by simp), List.length_map, List.length_range, Nat.sub_self, List.replicate_succ, List.set_cons_zero, List.range_succ, List.map_append, List.append_assoc]
 rfl
theorem row_at (f : Nat → Rat) (j g : Nat) : ((List.range j).map f ++ List.replicate (g + 1) (0 : Rat))[j]? = some 0 := by
 rw [List.getElem?_append_right (by simp), List.length_map, List.length_range, Nat.sub_self]
 rfl
theorem below3 {w w' : World} {B0 B : Nat} (h : Below B0 w w') (hb : B0 ≤ B) (i j k : Nat) (u0 u1 u2 : Value) : Below B0 w (((w'.setCell ⟨B, i, none⟩ u0).setCell ⟨B, j, none⟩ u1).setCell ⟨B, k, none⟩ u2) :=
 ((h.setCell (p := ⟨B, i, none⟩) hb _).setCell (p := ⟨B, j, none⟩) hb _).setCell (p := ⟨B, k, none⟩) hb _
theorem FArc.keepsF {w : World} {b : Nat} {qs : List Rat} (h : FArc w b qs) {n : Nat} {x y z : Value} {q : Rat} (hv : FracAt n w (.agg #[x, y, z]) q) (i j k : Nat) (s : Bool) (A A' : Option Addr) (m c m' c' : Nat) :
  FracAt n (((w.setCell ⟨b, i, none⟩ (.bool s)).setCell ⟨b, j, none⟩ (.slice A m c)).setCell ⟨b, k, none⟩ (.slice A' m' c')) (.agg #[x, y, z]) q := by
 obtain ⟨xs, h1, hx⟩ := h.blk
 exact ((hv.setBlk h1 hx i _).setBlk (h1.set_ _ _) (noDig_set hx _ (show NoDig (.bool s) from trivial)) j _).setBlk ((h1.set_ _ _).set_ _ _) (noDig_set (noDig_set hx _ (show NoDig (.bool s) from trivial)) _ (show NoDig (.slice A m c) from trivial)) k _
theorem SeenAt.far3 {w : World} {g : Nat} {rs : List Rat} {mv : Value} {L : List (Int × Int)} (h : SeenAt w mv L) (hg : FArc w g rs) (i j k : Nat) (u0 u1 u2 : Value) : SeenAt (((w.setCell ⟨g, i, none⟩ u0).setCell ⟨g, j, none⟩ u1).setCell ⟨g, k, none⟩ u2) mv L := by
 obtain ⟨xs, h1, hx⟩ := hg.blk
 rcases h with ⟨e1, e2⟩ | ⟨b, e1, hm⟩
 ·exact .inl ⟨e1, e2⟩
 ·have hne : b ≠ g := by
   intro e
   subst e
   have h2 := hm.1
   unfold Blk at h1
   rw [h1] at h2
   cases h2
  exact .inr ⟨b, e1, ((hm.far (p := ⟨g, i, none⟩) hne _).far (p := ⟨g, j, none⟩) hne _).far (p := ⟨g, k, none⟩) hne _⟩
theorem Blk.far3 {w : World} {g B : Nat} {e : TypeId} {xs : List Value} (h : Blk w g e xs) (hne : g ≠ B) (i j k : Nat) (u0 u1 u2 : Value) : Blk (((w.setCell ⟨B, i, none⟩ u0).setCell ⟨B, j, none⟩ u1).setCell ⟨B, k, none⟩ u2) g e xs :=
 ((h.far (p := ⟨B, i, none⟩) hne _).far (p := ⟨B, j, none⟩) hne _).far (p := ⟨B, k, none⟩) hne _
end
theorem SeenAt.look {w : World} {mv : Value} {L : List (Int × Int)} {C : Int → Int} (h : SeenAt w mv L) (hC : CntI L C) {x : Int} (hx : 0 ≤ x ∧ x ≤ 1000000) :
  (Instr.lookup 257 mv (.int .i64 x) false).run Tryz.prog w = .ok (.int .i64 (C x)) w := by
 have hg := int_good (x := x) (by omega) (by omega)
 rcases h with ⟨rfl, rfl⟩ | ⟨b, rfl, hm⟩
 ·obtain ⟨kl, hkl⟩ := hg
  have h1 := Maps.look_nil (w := w) false intLaw (show Tryz.prog.underlying 257 = some (.map 3 3) from Tryz.underlying257) (zeroInt w) hkl
  rw [h1, ← hC.2.1 x]
  rfl
 ·have h1 := TMap.look (e := 3) (k := x) hm intLaw (show Tryz.prog.underlying 257 = some (.map 3 3) from Tryz.underlying257) (zeroInt w) hg (fun y _ he => by injection he)
  rw [h1, ← hC.2.1 x]
  cases lookT L x <;> rfl
theorem SeenAt.len {w : World} {mv : Value} {L : List (Int × Int)} (h : SeenAt w mv L) (ty : TypeId) : (Builtin.len_ #[257] ty #[mv]).run Tryz.prog w = .ok (.int .i64 (L.length : Int)) w := by
 rcases h with ⟨rfl, rfl⟩ | ⟨b, rfl, hm⟩
 ·exact Maps.len_nil (show Tryz.prog.underlying 257 = some (.map 3 3) from Tryz.underlying257) ty
 ·have h1 := MapAt.len hm (show Tryz.prog.underlying 257 = some (.map 3 3) from Tryz.underlying257) ty
  rw [h1]
  simp [encM]
theorem SeenAt.drew {w : World} {mv : Value} {L : List (Int × Int)} (h : SeenAt w mv L) : SeenAt w.drew mv L := h

theorem key_le {gs : List (List Int × Int)} {d v : Nat} {h : List Int} {L : List (Int × Int)} (hg : ∀ g ∈ gs, 0 < g.2) (hw : ∀ g ∈ gs, ∀ x ∈ g.1, x ≤ (v : Int)) (hC : CntI L (fun x => tot d gs (h ++ [x]))) : ∀ e ∈ L, e.1 ≤ (v : Int) := by
 intro e he
 have h1 := nodup_at hC.1 he
 have h2 := hC.2.1 e.1
 rw [h1] at h2
 have h3 : e.2 = tot d gs (h ++ [e.1]) := h2
 have h4 := (hC.2.2 e he).1
 rw [h3] at h4
 obtain ⟨g, hg1, hg2⟩ := (totP_pos hg).1 h4
 have h5 : g.1.drop d = h ++ [e.1] := by simpa using hg2
 exact hw g hg1 _ (List.mem_of_mem_drop (i := d) (by rw [h5]; simp))

theorem below_new {w w' : World} {o : Obj} (h : Below (w.alloc o).heap.size (w.alloc o) w') : Below w.heap.size w w' := ((Below.refl _ w).alloc (Nat.le_refl _) o).trans (h.mono (by simp))
theorem below_new_drew {w w' : World} {o : Obj} (h : Below (w.alloc o).drew.heap.size (w.alloc o).drew w') : Below w.heap.size w w' := below_new (below_of_drew h)
theorem below_alloc_self (w : World) (o : Obj) : Below w.heap.size w (w.alloc o) := (Below.refl _ w).alloc (Nat.le_refl _) o
theorem below_alloc_drew (w : World) (o : Obj) : Below w.heap.size w (w.alloc o).drew := (below_alloc_self w o).trans ⟨rfl, rfl, rfl, Nat.le_refl _, fun _ _ => rfl⟩
theorem ofI (w : World) (z : Int) (h0 : 0 ≤ z) (h1 : z < 9223372036854775808) :
  Calls Tryz.prog 83 #[.int .i64 z] w fun e w' => ∃ v', e = .returned v' ∧ CanNew w.heap.size w' v' (z : Rat) ∧ Below w.heap.size w w' := by
 obtain ⟨n, rfl⟩ := Int.eq_ofNat_of_zero_le h0
 have := ofN w n (by omega)
 rwa [show ((n : Int) : Rat) = (n : Rat) from Rat.intCast_natCast n]
end Go.Proofs.YtlhankdkhiilkaaGreat
