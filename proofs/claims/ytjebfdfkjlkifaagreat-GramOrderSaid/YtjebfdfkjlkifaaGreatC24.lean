/- Lemmas on the way: Gg5. -/
import Derived.Test.YtjebfdfkjlkifaaGreatC23
set_option linter.unusedSimpArgs false
set_option linter.unusedVariables false
set_option linter.unusedSectionVars false
set_option linter.unnecessarySimpa false
namespace Go.Proofs.YtjebfdfkjlkifaaGreat
open Go.RowKit
theorem infoFracs : (Tryz.prog.info? 41).map (fun i => (i.zero, i.size, i.bytes)) = some (some (.slice none 0 0), 1, 24) := by kernel_rfl

set_option maxRecDepth 1000000 in
set_option maxHeartbeats 4000000 in
theorem followsG (w : World) (Ln : Nat) (V : Int) (v sv : Value) (rs : List Rule) (sl : List Int) (k K : Nat) (F : Nat) (caps : Array Value) (join : Rat → Rat → Rat) (h : RulesAt k w v rs) (hs : IntsAt w sv sl) (hsl : sl.length ≤ 500) (hL : Ln ≤ 60)
  (hrs : ∀ r ∈ rs, 0 ≤ r.f ∧ r.f < Ln ∧ 0 ≤ r.t ∧ r.t < Ln) (hF : ∀ (W : World) (args : Array Value), (callFunc F args).run Tryz.prog W = .ok (.enter F args) W)
  (hj : ∀ W a b qa qb, Below w.heap.size w W → FracAt K W a qa → FracAt K W b qb → QB K (join qa qb) → Calls Tryz.prog F (#[a, b] ++ caps) W fun e w' => ∃ u, e = .returned u ∧ FracAt K w' u (join qa qb) ∧ Below W.heap.size W w')
  (h0 : 0 < k) (hk : k ≤ K) (hK : K ≤ 500000000000) (hq : ∀ g, g ≤ sl.length → ∀ i, ∀ x ∈ rowL join Ln (rs.take i) sl (match g with | 0 => [] | g + 1 => outL join Ln rs sl g) (sl.length - g), QB K x)
  (hq2 : ∀ g, g ≤ sl.length → ∀ r ∈ rs, ∀ q, stepQ sl (match g with | 0 => [] | g + 1 => outL join Ln rs sl g) (sl.length - g) r = some q → QB K q) :
  Calls Tryz.prog 119 #[.agg #[.int .i64 Ln, .int .i64 V, v], sv, .func (.func F) #[] caps] w fun e w' => ∃ b rb m, e = .returned (.slice (some ⟨b, 0, none⟩) m m) ∧ w'.cell? ⟨b, 0, none⟩ = some (.slice (some ⟨rb, 0, none⟩) Ln Ln) ∧ FArk K w' rb (outL join Ln rs sl sl.length) ∧ b < w'.heap.size ∧ m = sl.length + 1 ∧ Below w.heap.size w w' := by
 obtain ⟨A, c, rfl, hlc, hcm, hat⟩ := h.open_
 have HR := Lib.hid h
 have HI := Lib.hid hs
 obtain ⟨SA, sc, rfl, hsc, hscm, _⟩ := hs.open_
 obtain ⟨n, hn⟩ : ∃ n, rs.length = n := ⟨_, rfl⟩
 obtain ⟨p, hp⟩ : ∃ p, sl.length = p := ⟨_, rfl⟩
 have HN := Lib.hid hn
 have HP := Lib.hid hp
 have HJ := Lib.hid hj
 have HQ := Lib.hid hq
 have HRS := Lib.hid hrs
 have HQ2 := Lib.hid hq2
 have HAT := Lib.hid hat
 have HFF := Lib.hid hF
 rw [hn] at hlc HR ⊢
 rw [hp] at hsc hsl HI ⊢
 clear h hs hj hq hq2 hrs hat hn hp hF
 obtain ⟨i1, ki, kz0, kz1, kz2⟩ := info_parts infoFracs
 have i8 : IntKind.i64.wrap ((p : Int) + 1) = (p : Int) + 1 := IntWalk.i64_in _ (by omega)
 go_enter Tryz.func119, Tryz.ntmps119
 go_wp2_with (at_make; refine wpList_make_blk rfl _ _ 150 rfl 41 i1 (.slice none 0 0) 24 Tryz.underlying150 ki kz0 kz1 kz2 rfl .i64 .i64 _ _ (p + 1) rfl rfl (by omega) (by omega) (by omega) (by unfold maxLen; omega) ?_)
 obtain ⟨W, hW, P0, PB, Phs⟩ := box1 w 73 [.int .i64 Ln, .int .i64 V, .slice A n c]
 rw [← hW]
 clear hW
 intro w1 hblk hb1
 have R1 : Hid (RowsAt K w1 (w.heap.size + 1) Ln p (p + 1) []) := Lib.hid ⟨_, hblk, by simp, fun x hx => by rw [List.eq_of_mem_replicate hx]; trivial, fun h => by omega⟩
 have B1 := Lib.hid (PB.out.trans (hb1.mono (by omega)))
 have P1 := Lib.hid (P0.out.below hb1 (by omega))
 clear hblk hb1
 go_wp2_with fail
 go_loopg [8] (p + 1) (fun g i wr => i = .int .i64 ((g : Int) - 1) ∧ g ≤ p + 1 ∧ Hid (∃ row, RowsAt K wr (w.heap.size + 1) Ln p g row ∧ row = (match p + 1 - g with | 0 => [] | d + 1 => outL join Ln rs sl d)) ∧ Hid (Blk wr w.heap.size 73 [.int .i64 Ln, .int .i64 V, .slice A n c]) ∧ Hid (Below w.heap.size w wr))
 case atStart => exact ⟨by simp, by omega, Lib.hid ⟨[], R1.out, by rw [Nat.sub_self]⟩, P1, B1⟩
 case round =>
  clear R1 B1 P1 PB P0
  obtain ⟨rfl, hg, ROW, P1, BEL⟩ := hrel
  have hwz : w.heap.size ≤ wr.heap.size := BEL.out.size
  rcases Nat.eq_zero_or_pos gk with h | h
  ·subst h
   have b0 : decide (((0 : Nat) : Int) - 1 ≥ 0) = false := decide_eq_false (by omega)
   go_wp2_with fail
   go_ret
   obtain ⟨row, hrow, hr⟩ := ROW.out
   obtain ⟨xs, g1, g2, g3, g4⟩ := hrow
   obtain ⟨rb, e, hl, hf⟩ := g4 (by omega)
   refine ⟨w.heap.size + 1, rb, p + 1, rfl, (g1.cell 0).trans e, ?_, g1.lt, rfl, BEL.out⟩
   rw [hr] at hf
   exact hf
  ·obtain ⟨t, rfl⟩ : ∃ t, gk = t + 1 := ⟨gk - 1, by omega⟩
   have et : (((t + 1 : Nat) : Int) - 1) = (t : Int) := by omega
   rw [et]
   have b0 : decide ((0 : Int) ≤ (t : Int)) = true := decide_eq_true (by omega)
   obtain ⟨p0, p1, p2, _, _, _⟩ := P1.out.three
   go_wp2_with (at_make; refine wpList_make_fracs rfl _ _ rfl Ln Ln rfl rfl rfl (by omega) ?_)
   intro w2 hfa hb2
   obtain ⟨row, hrow, hr⟩ := ROW.out
   have hbw : w.heap.size + 1 < wr.heap.size := by obtain ⟨xs, g1, _⟩ := hrow; exact g1.lt
   have IN := Lib.hid (InAt.start hrow hfa hb2 (show t ≤ p by omega) (by omega) (by omega))
   have HROW : Hid (row = (match p - t with | 0 => [] | d + 1 => outL join Ln rs sl d)) := Lib.hid (by rw [hr, show p + 1 - (t + 1) = p - t by omega])
   have HTG : Hid (t = sl.length - (p - t) ∧ p - t ≤ sl.length) := Lib.hid (by rw [HP.out]; omega)
   have B2 := Lib.hid ((BEL.out.trans (hb2.mono hwz)).setCell (p := ⟨w.heap.size + 1, t, none⟩) (show w.heap.size ≤ w.heap.size + 1 by omega) (.slice (some ⟨wr.heap.size, 0, none⟩) Ln Ln))
   have P2 := Lib.hid ((P1.out.below' hb2).far (p := ⟨w.heap.size + 1, t, none⟩) (show w.heap.size ≠ w.heap.size + 1 by omega) (.slice (some ⟨wr.heap.size, 0, none⟩) Ln Ln))
   have z0 : w2.frozen? ⟨w.heap.size + 1, t, none⟩ = false := by obtain ⟨xs, g1, _⟩ := hrow; exact (g1.below' hb2).frozen t
   have P2' := Lib.hid (P1.out.below' hb2)
   obtain ⟨u0, c0⟩ : ∃ u, w2.cell? ⟨w.heap.size + 1, t, none⟩ = some u := by obtain ⟨xs, g1, g2, _⟩ := hrow; exact ⟨xs[t]'(by omega), ((g1.below' hb2).cell t).trans (List.getElem?_eq_getElem _)⟩
   have j0 : (0 : Int) ≤ (t : Int) := by omega
   have j1 : (t : Int) < ((p + 1 : Nat) : Int) := by omega
   have j1' : (t : Int) < (p : Int) + 1 := by omega
   clear hfa hb2 hrow hr ROW p0 p1 p2
   obtain ⟨p0, p1, p2, _, _, _⟩ := P2'.out.three
   go_wp2_with fail
   obtain ⟨wo, hwo⟩ : ∃ wo, wo = wr := ⟨_, rfl⟩
   subst hwo
   go_loopg [9, 10, 11, 12, 32] n (fun gh _ _ _ _ i wz => ∃ (j : Nat), i = .int .i64 j ∧ j + gh = n ∧ Hid (InAt K wz (w.heap.size + 1) wo.heap.size Ln p t row (rowL join Ln (rs.take j) sl row t)) ∧ Hid (Blk wz w.heap.size 73 [.int .i64 Ln, .int .i64 V, .slice A n c]) ∧ Hid (Below w.heap.size w wz))
   case atStart => exact ⟨0, rfl, by omega, Lib.hid (by simpa [rowL] using IN.out), P2, B2⟩
   case round =>
    clear IN B2 P2 P2' z0 c0 p0 p1 p2 BEL P1
    obtain ⟨j, rfl, hj, IN, P1, BEL⟩ := hrel
    obtain ⟨p0, p1, p2, _, _, _⟩ := P1.out.three
    rcases Nat.eq_zero_or_pos gk with h' | h'
    ·obtain rfl : j = n := by omega
     have HE : Hid (rs.take j = rs) := Lib.hid (List.take_of_length_le (by rw [HN.out]; exact Nat.le_refl _))
     have HT : Hid (RowsAt K wr (w.heap.size + 1) Ln p t (outL join Ln rs sl (p - t))) := Lib.hid (by
      have h1 := IN.out.done
      rw [HE.out] at h1
      have h2 := HROW.out
      have h3 := HTG.out.1
      generalize p - t = d at h2 h3 ⊢
      cases d with
      | zero => simp only at h2; rw [h2] at h1; rw [h3] at h1 ⊢; exact h1
      | succ d => simp only at h2; rw [h2] at h1; rw [h3] at h1 ⊢; exact h1)
     clear IN
     go_wp2_with fail
     go_roundg t
     case measure => omega
     case rel => exact ⟨rfl, by omega, Lib.hid ⟨_, HT.out, by rw [show p + 1 - t = (p - t) + 1 by omega]⟩, P1, BEL⟩
    ·obtain ⟨r, hr⟩ : ∃ r, rs[j]? = some r := ⟨_, List.getElem?_eq_getElem (by rw [HN.out]; omega)⟩
     have hlt : (j : Int) < (n : Int) := by omega
     have HMEM := Lib.hid (List.mem_of_getElem? hr)
     have HX := Lib.hid hr
     have HSQ : Hid (∀ q, stepQ sl row t r = some q → QB K q) := Lib.hid (by
      intro q hq
      have h2 := HROW.out
      have h3 := HTG.out
      have h4 := HQ2.out (p - t) h3.2 r HMEM.out q
      rw [← h3.1, ← h2] at h4
      exact h4 hq)
     have HRB : Hid (∃ rb, t + 1 ≤ p → (wr.cell? ⟨w.heap.size + 1, t + 1, none⟩ = some (.slice (some ⟨rb, 0, none⟩) Ln Ln) ∧ FArk K wr rb row)) := Lib.hid (by
      obtain ⟨xs, h1, h2, h3, h4, h5, h6, h7⟩ := IN.out
      by_cases ht : t + 1 ≤ p
      ·obtain ⟨rb, e, _, _, hf⟩ := h7 ht
       exact ⟨rb, fun _ => ⟨(h1.cell _).trans e, hf⟩⟩
      ·exact ⟨0, fun h => absurd h ht⟩)
     have HRL : Hid (t + 1 ≤ p → row.length = Ln) := Lib.hid (by
      intro ht
      rw [HROW.out, show p - t = (p - t - 1) + 1 by omega]
      exact outL_length _ _ _ _ _)
     have HBW := Lib.hid (IN.out.cell)
     obtain ⟨ba, oa, s0, An, nn, cn, Ad, nd, cd, rfl, hba, d0, _⟩ := HAT.out j r HX.out
     have D0 := Lib.hid d0
     clear d0
     obtain ⟨FF, hFF⟩ : ∃ FF : Nat, r.f = FF := ⟨r.f.toNat, by have := (HRS.out r HMEM.out).1; omega⟩
     have HFN := Lib.hid hFF
     have HFL : Hid (FF < Ln) := Lib.hid (by have := (HRS.out r HMEM.out).2.1; omega)
     obtain ⟨rb, hrb⟩ := HRB.out
     have hrb' := Lib.hid hrb
     clear hr hrb HRB hFF
     go_wp2_with fail
     refine (stepG wr Ln V _ _ rs sl (w.heap.size + 1) rb (p + 1) Ln t j k K K row r (HR.out.below BEL.out) (HI.out.below BEL.out) HX.out (by rw [HP.out]; omega) (by rw [HP.out]; omega) (fun _ h => by
      have ht : t + 1 ≤ p := by have := (List.getElem?_eq_some_iff.1 h).1; rw [HP.out] at this; omega
      obtain ⟨e1, e2⟩ := hrb'.out ht
      obtain ⟨f1, f2, f3, f4⟩ := HRS.out r HMEM.out
      exact ⟨e1, HBW.out.2.2, by omega, by omega, e2, HRL.out ht, hL, f3, f4⟩) h0 hk hK hk (by omega) HSQ.out).mono ?_
     rintro e w3 ⟨sg, A3, m3, c3, A3', m3', c3', hb3, ⟨q, ho, rfl, hf3⟩ | ⟨ho, rfl⟩⟩
     ·have B3 := Lib.hid hb3
      have HO := Lib.hid ho
      have F3 := Lib.hid hf3
      have IN3 := Lib.hid (IN.out.below hb3)
      have P3 := Lib.hid (P1.out.below' hb3)
      have hs3 : wr.heap.size ≤ w3.heap.size := hb3.size
      clear hb3 ho hf3 p0 p1 p2
      obtain ⟨p0, p1, p2, _, _, _⟩ := P3.out.three
      have d0 : w3.cell? ⟨ba, oa + j * 6, none⟩ = some (.int .i64 (FF : Int)) := by
       have := (BEL.out.trans (B3.out.mono BEL.out.size)).cell (p := ⟨ba, oa + j * 6, none⟩) hba
       rw [this, D0.out, HFN.out]
      have k0 : (0 : Int) ≤ (j : Int) := by omega
      have q0 : w.heap.size < w3.heap.size := P3.out.lt
      have q1 : ba < w3.heap.size := by omega
      go_wp2_with fail
      obtain ⟨W3, hW3, G0, GB, Ghs⟩ := box1 w3 40 [.bool sg, .slice A3 m3 c3, .slice A3' m3' c3']
      rw [← hW3]
      clear hW3
      obtain ⟨r0, r1, r2, _, _, _⟩ := G0.out.three
      have IN4 := Lib.hid (IN3.out.below GB.out)
      have c1 := IN4.out.cell.1
      have HOLD : Hid (∃ old, (rowL join Ln (rs.take j) sl row t)[FF]? = some old) := Lib.hid ⟨_, List.getElem?_eq_getElem (by rw [rowL_length]; exact HFL.out)⟩
      obtain ⟨old, hold⟩ := HOLD.out
      obtain ⟨xs, _, _, _, _, _, hfk, _⟩ := IN4.out
      obtain ⟨sO, AO, mO, cO, AO', mO', cO', y0, y1, y2, z0, z1, z2, hfo⟩ := hfk.get hold
      have FO := Lib.hid hfo
      have HOL := Lib.hid hold
      have j2 : (0 : Int) ≤ (FF : Int) := by omega
      have j3 : (FF : Int) < (Ln : Int) := by have := HFL.out; omega
      clear hfk hfo hold
      have hF := HFF.out
      have HQJ : Hid (QB K (join old q)) := Lib.hid (by
       have h3 := HTG.out
       have h2 := HROW.out
       refine HQ.out (p - t) h3.2 (j + 1) _ ?_
       rw [← h3.1, ← h2, take_succ_get _ HX.out, rowL_snoc]
       unfold rowStep
       rw [HO.out]
       simp only
       rw [HFN.out, Int.toNat_natCast, List.getD_eq_getElem?_getD, HOL.out]
       exact List.mem_of_getElem? (List.getElem?_set_self (by rw [rowL_length]; exact HFL.out)))
      have HS : Hid (rowL join Ln (rs.take (j + 1)) sl row t = (rowL join Ln (rs.take j) sl row t).set FF (join old q)) := Lib.hid (by
       rw [take_succ_get _ HX.out, rowL_snoc]
       unfold rowStep
       rw [HO.out]
       simp only
       rw [HFN.out, Int.toNat_natCast, List.getD_eq_getElem?_getD, HOL.out]
       rfl)
      have B4 := Lib.hid (BEL.out.trans ((bcomp B3.out GB.out).mono BEL.out.size))
      go_region_with (first
       | (refine (HJ.out _ _ _ old q B4.out.drew (FO.out.below (below_drew_self _)) ((F3.out.below GB.out).below (below_drew_self _)) HQJ.out).mono ?_; rintro e w5 ⟨u, rfl, t5, hb5'⟩; have B5 := Lib.hid (below_of_drew hb5'); obtain ⟨s5, vn5, vd5, rfl⟩ := t5.shape; obtain ⟨sJ, AJ, mJ, cJ, AJ', mJ', cJ', hq1, rfl, rfl⟩ := t5.cells3; clear hq1; have T5 := Lib.hid t5; have IN5 := Lib.hid (IN4.out.below B5.out); have c1' := IN5.out.cell.1; obtain ⟨xs5, _, _, _, _, _, hfk5, _⟩ := IN5.out; obtain ⟨_, _, _, _, _, _, _, v0, v1, v2, n0, n1, n2, _⟩ := hfk5.get HOL.out; clear hfk5 t5 hb5'))
      all_goals
       go_wp2_with fail
       go_roundg (gk - 1)
       case measure => omega
       case rel =>
        exact ⟨j + 1, rfl, by omega, Lib.hid (by rw [HS.out]; exact IN5.out.put (by rw [rowL_length]; exact HFL.out) T5.out), Lib.hid ((((P3.out.below' GB.out).below' B5.out).far (show w.heap.size ≠ wo.heap.size by omega) _ |>.far (show w.heap.size ≠ wo.heap.size by omega) _).far (show w.heap.size ≠ wo.heap.size by omega) _), Lib.hid (((((B4.out.trans (B5.out.mono (by omega))).setCell (show w.heap.size ≤ wo.heap.size by omega) _).setCell (show w.heap.size ≤ wo.heap.size by omega) _)).setCell (show w.heap.size ≤ wo.heap.size by omega) _)⟩
     ·have HS : Hid (rowL join Ln (rs.take (j + 1)) sl row t = rowL join Ln (rs.take j) sl row t) := Lib.hid (by
       rw [take_succ_get _ HX.out, rowL_snoc]
       unfold rowStep
       rw [ho])
      have B3 := Lib.hid hb3
      have IN3 := Lib.hid (IN.out.below hb3)
      have P3 := Lib.hid (P1.out.below' hb3)
      have hs3 : wr.heap.size ≤ w3.heap.size := hb3.size
      clear hb3 ho p0 p1 p2
      obtain ⟨p0, p1, p2, _, _, _⟩ := P3.out.three
      go_wp2_with fail
      obtain ⟨W3, hW3, G0, GB, Ghs⟩ := box1 w3 40 [.bool sg, .slice A3 m3 c3, .slice A3' m3' c3']
      rw [← hW3]
      clear hW3
      go_roundg (gk - 1)
      case measure => omega
      case rel => exact ⟨j + 1, rfl, by omega, Lib.hid (by rw [HS.out]; exact IN3.out.below GB.out), Lib.hid (P3.out.below' GB.out), Lib.hid (BEL.out.trans ((bcomp B3.out GB.out).mono BEL.out.size))⟩
end Go.Proofs.YtjebfdfkjlkifaaGreat
