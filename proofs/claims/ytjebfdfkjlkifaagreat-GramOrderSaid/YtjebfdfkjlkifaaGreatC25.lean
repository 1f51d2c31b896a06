/- Lemmas on the way: Gg2. -/
import Derived.Test.YtjebfdfkjlkifaaGreatC22
set_option linter.unusedSimpArgs false
set_option linter.unusedVariables false
set_option linter.unusedSectionVars false
set_option linter.unnecessarySimpa false
namespace Go.Proofs.YtjebfdfkjlkifaaGreat
open Go.RowKit
theorem checkG_bad {L V : Int} {rs : List Rule} {x : Rule} (hl : ¬ 500 < rs.length) (hx : x ∈ rs) (h : ¬ (0 ≤ x.f ∧ x.f < L ∧ 0 ≤ x.t ∧ x.t < L ∧ 0 ≤ x.w ∧ x.w ≤ V ∧ (x.w = 0 → x.t = 0) ∧ 0 ≤ x.q)) : checkG L V rs = 2 := by
 unfold checkG
 rw [if_neg hl, if_neg]
 rintro ⟨_, _, _, _, h5, _⟩
 have := List.all_eq_true.1 h5 x hx
 unfold ruleB at this
 exact h (of_decide_eq_true this)
theorem checkG_size {L V : Int} {rs : List Rule} (hl : ¬ 500 < rs.length) (h : ¬ (1 ≤ L ∧ L ≤ 60 ∧ 1 ≤ V ∧ V ≤ 2000)) : checkG L V rs = 2 := by
 unfold checkG
 rw [if_neg hl, if_neg]
 rintro ⟨h1, h2, h3, h4, _⟩
 exact h ⟨h1, h2, h3, h4⟩
theorem checkG_end {L : Nat} {V : Int} {rs : List Rule} (hl : ¬ 500 < rs.length) (h1 : 1 ≤ (L : Int)) (h2 : (L : Int) ≤ 60) (h3 : 1 ≤ V) (h4 : V ≤ 2000) (h5 : rs.all (ruleB L V) = true) :
  checkG L V rs = if (sumsL L rs).any (fun q => !decide (q = 1)) = true then 2 else 0 := by
 unfold checkG
 rw [if_neg hl, Int.toNat_natCast]
 have e : (sumsL L rs).all (fun q => decide (q = 1)) = !(sumsL L rs).any (fun q => !decide (q = 1)) := by
  rw [List.not_any_eq_all_not]
  simp
 rw [e]
 cases (sumsL L rs).any (fun q => !decide (q = 1)) <;> simp [h1, h2, h3, h4, h5]
theorem sums_step {k K : Nat} {s : List Rat} {i : Nat} {q : Rat} (h : ∀ x ∈ s, QB K x) (hq : QB k q) (hk : 0 < K) (hi : i < s.length) : ∀ x ∈ addAt s i q, QB (K + k + 1) x := by
 intro x hx
 unfold addAt at hx
 rcases List.mem_or_eq_of_mem_set hx with hx | rfl
 ·exact (h x hx).mono (by omega)
 ·have : s.getD i 0 ∈ s := by
   rw [List.getD_eq_getElem?_getD, List.getElem?_eq_getElem hi]
   exact List.getElem_mem hi
  exact (h _ this).add hq

set_option maxRecDepth 1000000 in
set_option maxHeartbeats 20000000 in
theorem checkGrammarG (w : World) (L V : Int) (v : Value) (rs : List Rule) (k : Nat) (h : RulesAt k w v rs) (h0 : 0 < k) (hk : k ≤ 1000000) :
  Calls Tryz.prog 51 #[.agg #[.int .i64 L, .int .i64 V, v]] w fun e w' => e = .returned (.int .i64 (checkG L V rs)) ∧ Below w.heap.size w w' := by
 obtain ⟨A, c, rfl, hlc, hcm, hat⟩ := h.open_
 have HAT := Lib.hid hat
 clear h hat
 obtain ⟨n, hn⟩ : ∃ n, rs.length = n := ⟨_, rfl⟩
 rw [hn] at hlc ⊢
 have HN := Lib.hid hn
 by_cases h5 : 500 < n
 ·have HB : Hid (checkG L V rs = 5) := Lib.hid (by unfold checkG; rw [if_pos (by omega)])
  have b5 : decide ((500 : Int) < (n : Int)) = true := decide_eq_true (by omega)
  clear hn
  go_enter Tryz.func51, Tryz.ntmps51
  go_wp2_with fail
  obtain ⟨W, hW, P0, PB, Phs⟩ := box1 w 73 [.int .i64 L, .int .i64 V, .slice A n c]
  rw [← hW]
  clear hW
  obtain ⟨p0, p1, p2, _, _, _⟩ := P0.out.three
  go_wp2_with fail
  go_ret
  exact ⟨ret_i64 HB.out.symm, PB.out⟩
 have HL5 : Hid (¬ 500 < rs.length) := Lib.hid (by omega)
 have b5 : decide ((500 : Int) < (n : Int)) = false := decide_eq_false (by omega)
 clear hn
 by_cases d0 : L < 1
 ·have y0 : decide (L < 1) = true := decide_eq_true d0
  have HB : Hid (checkG L V rs = 2) := Lib.hid (checkG_size HL5.out (by rintro ⟨g1, g2, g3, g4⟩; omega))
  clear d0
  go_enter Tryz.func51, Tryz.ntmps51
  go_wp2_with fail
  obtain ⟨W, hW, P0, PB, Phs⟩ := box1 w 73 [.int .i64 L, .int .i64 V, .slice A n c]
  rw [← hW]
  clear hW
  obtain ⟨p0, p1, p2, _, _, _⟩ := P0.out.three
  go_wp2_with fail
  go_ret
  exact ⟨ret_i64 HB.out.symm, PB.out⟩
 have y0 : decide (L < 1) = false := decide_eq_false d0
 by_cases d1 : 60 < L
 ·have y1 : decide (60 < L) = true := decide_eq_true d1
  have HB : Hid (checkG L V rs = 2) := Lib.hid (checkG_size HL5.out (by rintro ⟨g1, g2, g3, g4⟩; omega))
  clear d1
  go_enter Tryz.func51, Tryz.ntmps51
  go_wp2_with fail
  obtain ⟨W, hW, P0, PB, Phs⟩ := box1 w 73 [.int .i64 L, .int .i64 V, .slice A n c]
  rw [← hW]
  clear hW
  obtain ⟨p0, p1, p2, _, _, _⟩ := P0.out.three
  go_wp2_with fail
  go_ret
  exact ⟨ret_i64 HB.out.symm, PB.out⟩
 have y1 : decide (60 < L) = false := decide_eq_false d1
 by_cases d2 : V < 1
 ·have y2 : decide (V < 1) = true := decide_eq_true d2
  have HB : Hid (checkG L V rs = 2) := Lib.hid (checkG_size HL5.out (by rintro ⟨g1, g2, g3, g4⟩; omega))
  clear d2
  go_enter Tryz.func51, Tryz.ntmps51
  go_wp2_with fail
  obtain ⟨W, hW, P0, PB, Phs⟩ := box1 w 73 [.int .i64 L, .int .i64 V, .slice A n c]
  rw [← hW]
  clear hW
  obtain ⟨p0, p1, p2, _, _, _⟩ := P0.out.three
  go_wp2_with fail
  go_ret
  exact ⟨ret_i64 HB.out.symm, PB.out⟩
 have y2 : decide (V < 1) = false := decide_eq_false d2
 by_cases d3 : 2000 < V
 ·have y3 : decide (2000 < V) = true := decide_eq_true d3
  have HB : Hid (checkG L V rs = 2) := Lib.hid (checkG_size HL5.out (by rintro ⟨g1, g2, g3, g4⟩; omega))
  clear d3
  go_enter Tryz.func51, Tryz.ntmps51
  go_wp2_with fail
  obtain ⟨W, hW, P0, PB, Phs⟩ := box1 w 73 [.int .i64 L, .int .i64 V, .slice A n c]
  rw [← hW]
  clear hW
  obtain ⟨p0, p1, p2, _, _, _⟩ := P0.out.three
  go_wp2_with fail
  go_ret
  exact ⟨ret_i64 HB.out.symm, PB.out⟩
 have y3 : decide (2000 < V) = false := decide_eq_false d3
 obtain ⟨Ln, rfl⟩ : ∃ Ln : Nat, L = Ln := ⟨L.toNat, by omega⟩
 have d0' : 1 ≤ (Ln : Int) := by omega
 have d1' : (Ln : Int) ≤ 60 := by omega
 have d2' : 1 ≤ V := by omega
 have d3' : V ≤ 2000 := by omega
 go_enter Tryz.func51, Tryz.ntmps51
 go_wp2_with (at_make; refine wpList_make_fracs rfl _ _ rfl Ln Ln rfl rfl rfl (by omega) ?_)
 obtain ⟨W, hW, P0, PB, Phs⟩ := box1 w 73 [.int .i64 Ln, .int .i64 V, .slice A n c]
 rw [← hW]
 clear hW
 obtain ⟨p0, p1, p2, _, _, _⟩ := P0.out.three
 intro w1 hfa hb1
 have FA := Lib.hid hfa
 have B1 := Lib.hid (PB.out.trans (hb1.mono (by omega)))
 have P1 := Lib.hid (P0.out.below hb1 (by omega))
 have hW1 : w.heap.size + 1 < w1.heap.size := hfa.lt
 clear hfa hb1 p0 p1 p2
 obtain ⟨p0, p1, p2, _, _, _⟩ := P1.out.three
 go_wp2_with fail
 go_loopg [34] n (fun gh i wr => ∃ (j : Nat), i = .int .i64 j ∧ j + gh = n ∧ Hid ((rs.take j).all (ruleB Ln V) = true) ∧ Hid (FArr (w.heap.size + 1 + 1) wr (w.heap.size + 1) (sumsL Ln (rs.take j))) ∧ Hid (∀ x ∈ sumsL Ln (rs.take j), QB ((j + 1) * (2 * k)) x) ∧ Hid (Blk wr w.heap.size 73 [.int .i64 Ln, .int .i64 V, .slice A n c]) ∧ Hid (Below w.heap.size w wr))
 case atStart => exact ⟨0, rfl, by omega, Lib.hid rfl, Lib.hid (by simpa [sumsL] using FA.out), Lib.hid (fun x hx => by
  have : x = 0 := by
   have hx' : x ∈ List.replicate Ln (0 : Rat) := by simpa [sumsL] using hx
   exact List.eq_of_mem_replicate hx'
  rw [this]
  exact qb_nat (n := 0) (Nat.pow_pos (by omega)) (by omega)), P1, B1⟩
 case round =>
  clear p0 p1 p2 FA B1 P1
  obtain ⟨j, rfl, hj, HOK, FA, HQB, P1, BEL⟩ := hrel
  have hwz : w.heap.size ≤ wr.heap.size := BEL.out.size
  have hWr : w.heap.size + 1 < wr.heap.size := FA.out.lt
  obtain ⟨p0, p1, p2, _, _, _⟩ := P1.out.three
  rcases Nat.eq_zero_or_pos gk with h | h
  ·obtain rfl : j = n := by omega
   have HE : Hid (rs.take j = rs) := Lib.hid (List.take_of_length_le (by rw [HN.out]; exact Nat.le_refl _))
   have hjk : (j + 1) * (2 * k) ≤ 501 * 2000000 := Nat.mul_le_mul (by omega) (by omega)
   have hjk2 : 1 * (2 * k) ≤ (j + 1) * (2 * k) := Nat.mul_le_mul_right _ (by omega)
   have CAN : Hid (CansAt wr (.slice (some ⟨w.heap.size + 1, 0, none⟩) Ln Ln) (sumsL Ln rs)) := Lib.hid (by
    have := FA.out.cans (c := Ln) (by rw [sumsL_length]; exact Nat.le_refl _) (by omega)
    rwa [sumsL_length, HE.out] at this)
   have CF := containsFr ((j + 1) * (2 * k)) wr (.slice (some ⟨w.heap.size + 1, 0, none⟩) Ln Ln) (sumsL Ln rs) 122 #[] (fun q => !decide (q = 1)) (CAN.out.fracs (by have := HQB.out; rwa [HE.out] at this) (by omega)) (by rw [sumsL_length]; omega) (fun _ _ => by kernel_rfl)
    (fun W x a _ _ hf => notOne W a x _ hf (by omega) (by omega))
   have HB := Lib.hid (checkG_end (L := Ln) (V := V) (rs := rs) HL5.out d0' d1' d2' d3' (by have := HOK.out; rwa [HE.out] at this))
   obtain ⟨r, hr⟩ : ∃ r, (sumsL Ln rs).any (fun q => !decide (q = 1)) = r := ⟨_, rfl⟩
   rw [hr] at CF HB
   clear hjk hjk2 hr
   cases r
   ·go_wp2_with fail
    refine CF.mono ?_
    rintro e w5 ⟨rfl, hb5⟩
    have B5 := Lib.hid (BEL.out.trans (hb5.mono hwz))
    clear hb5
    go_wp2_with fail
    go_ret
    exact ⟨ret_i64 (by have := HB.out; simpa using this.symm), B5.out⟩
   ·go_wp2_with fail
    refine CF.mono ?_
    rintro e w5 ⟨rfl, hb5⟩
    have B5 := Lib.hid (BEL.out.trans (hb5.mono hwz))
    clear hb5
    go_wp2_with fail
    go_ret
    exact ⟨ret_i64 (by have := HB.out; simpa using this.symm), B5.out⟩
  ·obtain ⟨gh, rfl⟩ : ∃ g, gk = g + 1 := ⟨gk - 1, by omega⟩
   obtain ⟨x, hx⟩ : ∃ x, rs[j]? = some x := ⟨_, List.getElem?_eq_getElem (by rw [HN.out]; omega)⟩
   obtain ⟨f, wd, t, q⟩ := x
   obtain ⟨ba, oa, s, An, nn, cn, Ad, nd, cd, rfl, hba, e0, e1, e2, e3, e4, e5, hfr⟩ := HAT.out j _ hx
   simp only at e0 e1 e2 hfr
   have e0' := (BEL.out.cell (p := ⟨ba, oa + j * 6, none⟩) hba).trans e0
   have e1' := (BEL.out.cell (p := ⟨ba, oa + j * 6 + 1, none⟩) hba).trans e1
   have e2' := (BEL.out.cell (p := ⟨ba, oa + j * 6 + 2, none⟩) hba).trans e2
   have e3' := (BEL.out.cell (p := ⟨ba, oa + j * 6 + 3, none⟩) hba).trans e3
   have e4' := (BEL.out.cell (p := ⟨ba, oa + j * 6 + 4, none⟩) hba).trans e4
   have e5' := (BEL.out.cell (p := ⟨ba, oa + j * 6 + 5, none⟩) hba).trans e5
   have FR := Lib.hid (hfr.below BEL.out)
   have HX := Lib.hid hx
   clear hx e0 e1 e2 e3 e4 e5 hfr
   have e0 := e0'
   have e1 := e1'
   have e2 := e2'
   have e3 := e3'
   have e4 := e4'
   have e5 := e5'
   clear e0' e1' e2' e3' e4' e5'
   have hpw : w.heap.size < wr.heap.size := by omega
   by_cases c6 : f < 0
   ·have b6 : decide (f < 0) = true := decide_eq_true c6
    have HB : Hid (checkG Ln V rs = 2) := Lib.hid (checkG_bad HL5.out (List.mem_of_getElem? HX.out) (by simp only; rintro ⟨g1, g2, g3, g4, g5, g6, g7, g8⟩; omega))
    clear c6
    go_wp2_with fail
    go_ret
    exact ⟨ret_i64 HB.out.symm, (BEL.out.alloc hwz _)⟩
   ·have b6 : decide (f < 0) = false := decide_eq_false c6
    by_cases c5 : (Ln : Int) ≤ f
    ·have b5 : decide ((Ln : Int) ≤ f) = true := decide_eq_true c5
     have HB : Hid (checkG Ln V rs = 2) := Lib.hid (checkG_bad HL5.out (List.mem_of_getElem? HX.out) (by simp only; rintro ⟨g1, g2, g3, g4, g5, g6, g7, g8⟩; omega))
     clear c5
     go_wp2_with fail
     go_ret
     exact ⟨ret_i64 HB.out.symm, (BEL.out.alloc hwz _)⟩
    ·have b5 : decide ((Ln : Int) ≤ f) = false := decide_eq_false c5
     by_cases c4 : t < 0
     ·have b4 : decide (t < 0) = true := decide_eq_true c4
      have HB : Hid (checkG Ln V rs = 2) := Lib.hid (checkG_bad HL5.out (List.mem_of_getElem? HX.out) (by simp only; rintro ⟨g1, g2, g3, g4, g5, g6, g7, g8⟩; omega))
      clear c4
      go_wp2_with fail
      go_ret
      exact ⟨ret_i64 HB.out.symm, (BEL.out.alloc hwz _)⟩
     ·have b4 : decide (t < 0) = false := decide_eq_false c4
      by_cases c3 : (Ln : Int) ≤ t
      ·have b3 : decide ((Ln : Int) ≤ t) = true := decide_eq_true c3
       have HB : Hid (checkG Ln V rs = 2) := Lib.hid (checkG_bad HL5.out (List.mem_of_getElem? HX.out) (by simp only; rintro ⟨g1, g2, g3, g4, g5, g6, g7, g8⟩; omega))
       clear c3
       go_wp2_with fail
       go_ret
       exact ⟨ret_i64 HB.out.symm, (BEL.out.alloc hwz _)⟩
      ·have b3 : decide ((Ln : Int) ≤ t) = false := decide_eq_false c3
       by_cases c2 : wd < 0
       ·have b2 : decide (wd < 0) = true := decide_eq_true c2
        have HB : Hid (checkG Ln V rs = 2) := Lib.hid (checkG_bad HL5.out (List.mem_of_getElem? HX.out) (by simp only; rintro ⟨g1, g2, g3, g4, g5, g6, g7, g8⟩; omega))
        clear c2
        go_wp2_with fail
        go_ret
        exact ⟨ret_i64 HB.out.symm, (BEL.out.alloc hwz _)⟩
       ·have b2 : decide (wd < 0) = false := decide_eq_false c2
        by_cases c1 : V < wd
        ·have b1 : decide (V < wd) = true := decide_eq_true c1
         have HB : Hid (checkG Ln V rs = 2) := Lib.hid (checkG_bad HL5.out (List.mem_of_getElem? HX.out) (by simp only; rintro ⟨g1, g2, g3, g4, g5, g6, g7, g8⟩; omega))
         clear c1
         go_wp2_with fail
         go_ret
         exact ⟨ret_i64 HB.out.symm, (BEL.out.alloc hwz _)⟩
        ·have b1 : decide (V < wd) = false := decide_eq_false c1
         by_cases c8 : wd = 0
         ·have b8 : (wd == 0) = true := by simpa using c8
          by_cases c9 : t = 0
          ·have b9 : (t != 0) = false := by simpa using c9
           have HR8 : Hid (wd = 0 → t = 0) := Lib.hid (by first | exact fun _ => c9 | exact fun e => absurd e c8)
           try clear c9
           clear c8
           by_cases c0 : 0 ≤ q
           ·have HR : Hid (ruleB Ln V ⟨f, wd, t, q⟩ = true) := Lib.hid (decide_eq_true ⟨by simp only; omega, by simp only; omega, by simp only; omega, by simp only; omega, by simp only; omega, by simp only; omega, HR8.out, c0⟩)
            obtain ⟨z, hz, hz0⟩ : ∃ z, sgnI q = z ∧ decide (z < 0) = false := ⟨_, rfl, decide_eq_false (fun e => (sgnI_neg q).1 e c0)⟩
            have HZ := Lib.hid hz
            clear hz
            go_wp2_with fail
            obtain ⟨W1, hW1, G0, GB, Ghs⟩ := box1 wr 111 [.int .i64 f, .int .i64 wd, .int .i64 t, .bool s, .slice An nn cn, .slice Ad nd cd]
            rw [← hW1]
            clear hW1
            have g0 := G0.out.cell 0
            have g1 := G0.out.cell 1
            have g2 := G0.out.cell 2
            have g3 := G0.out.cell 3
            have g4 := G0.out.cell 4
            have g5 := G0.out.cell 5
            simp only [List.getElem?_cons_zero, List.getElem?_cons_succ] at g0 g1 g2 g3 g4 g5
            clear e0 e1 e2 e3 e4 e5 p0 p1 p2
            obtain ⟨p0, p1, p2, _, _, _⟩ := (P1.out.below' GB.out).three
            have SC := signF W1 _ q k (FR.out.below GB.out) h0 (by omega)
            rw [HZ.out] at SC
            refine SC.mono ?_
            rintro e w2 ⟨rfl, hb2⟩
            have B2 := Lib.hid (bcomp GB.out hb2)
            have G2 := Lib.hid (G0.out.below' hb2)
            have s2 : wr.heap.size + 1 ≤ w2.heap.size := Nat.le_trans Ghs hb2.size
            clear hb2
            obtain ⟨F, rfl⟩ : ∃ F : Nat, f = F := ⟨f.toNat, by omega⟩
            have hFL : F < (sumsL Ln (rs.take j)).length := by rw [sumsL_length]; omega
            obtain ⟨old, hold⟩ : ∃ old, (sumsL Ln (rs.take j))[F]? = some old := ⟨_, List.getElem?_eq_getElem hFL⟩
            have HOLD := Lib.hid hold
            have HFL := Lib.hid hFL
            have QO := Lib.hid (HQB.out _ (List.mem_of_getElem? hold))
            have FA2 := Lib.hid (FA.out.below B2.out)
            obtain ⟨oA, om, oc, oA', om', oc', a0, a1, a2, z0, z1, z2, hcan⟩ := FA2.out.get hold
            have CA := Lib.hid hcan
            have hjk : (j + 1) * (2 * k) ≤ 501 * 2000000 := Nat.mul_le_mul (by omega) (by omega)
            have hjk2 : 1 * (2 * k) ≤ (j + 1) * (2 * k) := Nat.mul_le_mul_right _ (by omega)
            have HJK := Lib.hid (And.intro hjk hjk2)
            have FR2 := Lib.hid (FR.out.below B2.out)
            have P2 := Lib.hid (P1.out.below' B2.out)
            have QQ := Lib.hid (FR.out.qb h0)
            clear g0 g1 g2 g3 g4 g5 p0 p1 p2 hold hFL hcan hjk hjk2
            have g0 := G2.out.cell 0
            have g3 := G2.out.cell 3
            have g4 := G2.out.cell 4
            have g5 := G2.out.cell 5
            simp only [List.getElem?_cons_zero, List.getElem?_cons_succ] at g0 g3 g4 g5
            have i1 : (0 : Int) ≤ (F : Int) := by omega
            have i2 : (F : Int) < (Ln : Int) := by omega
            go_wp2_with fail
            go_region_with (first
             | (go_at_call 120; refine (addF _ _ _ old q ((j + 1) * (2 * k)) ((CA.out.at_.frac QO.out (by have := HJK.out; omega)).below (below_drew_self _)) ((FR2.out.mono (by have := HJK.out; omega)).below (below_drew_self _)) (by have := HJK.out; omega) (by have := HJK.out; omega)).mono ?_; rintro e w3 ⟨v3, rfl, t3, hb3'⟩; have hb3 := below_of_drew hb3'; obtain ⟨A3, m3, c3, A3', m3', c3', rfl, _⟩ := t3.open_; have T3 := Lib.hid (t3.mono (show w.heap.size + 1 + 1 ≤ w2.drew.heap.size by show w.heap.size + 1 + 1 ≤ w2.heap.size; omega)); have B3 := Lib.hid (bcomp B2.out hb3); have FA3 := Lib.hid (FA2.out.below hb3); have P3 := Lib.hid (P2.out.below' hb3); have gg0 : w3.cell? ⟨wr.heap.size, 0, none⟩ = some (.int .i64 (F : Int)) := (G2.out.below' hb3).cell 0; obtain ⟨_, _, _, _, _, _, r0, r1, r2, y0, y1, y2, _⟩ := FA3.out.get HOLD.out; clear t3 hb3 hb3'))
            all_goals
             go_wp2_with fail
             go_roundg gh
             case measure => omega
             case rel =>
              have HS : sumsL Ln (rs.take (j + 1)) = (sumsL Ln (rs.take j)).set F (old + q) := by
               rw [take_succ_get _ HX.out, sumsL_snoc]
               unfold addAt
               simp only [Int.toNat_natCast]
               rw [List.getD_eq_getElem?_getD, HOLD.out]
               rfl
              refine ⟨j + 1, rfl, by omega, Lib.hid (by rw [take_succ_get _ HX.out, List.all_append, HOK.out]; simpa using HR.out), Lib.hid (by rw [HS]; exact FA3.out.put HFL.out rfl T3.out), Lib.hid (fun x hx => ?_), Lib.hid (((P3.out.far (p := ⟨w.heap.size + 1, F * 3, none⟩) (by show w.heap.size ≠ w.heap.size + 1; omega) _).far (p := ⟨w.heap.size + 1, F * 3 + 1, none⟩) (by show w.heap.size ≠ w.heap.size + 1; omega) _).far (p := ⟨w.heap.size + 1, F * 3 + 2, none⟩) (by show w.heap.size ≠ w.heap.size + 1; omega) _),
               Lib.hid ((((BEL.out.trans (B3.out.mono hwz)).setCell (p := ⟨w.heap.size + 1, F * 3, none⟩) (by show w.heap.size ≤ w.heap.size + 1; omega) _).setCell (p := ⟨w.heap.size + 1, F * 3 + 1, none⟩) (by show w.heap.size ≤ w.heap.size + 1; omega) _).setCell (p := ⟨w.heap.size + 1, F * 3 + 2, none⟩) (by show w.heap.size ≤ w.heap.size + 1; omega) _)⟩
              rw [take_succ_get _ HX.out, sumsL_snoc] at hx
              have := sums_step HQB.out QQ.out (by have := HJK.out; omega) (by simpa using HFL.out) x hx
              exact this.mono (by rw [show j + 1 + 1 = (j + 1) + 1 from rfl, Nat.add_mul (j + 1) 1, Nat.one_mul]; omega)
           ·obtain ⟨z, hz, hz0⟩ : ∃ z, sgnI q = z ∧ decide (z < 0) = true := ⟨_, rfl, decide_eq_true ((sgnI_neg q).2 c0)⟩
            have HZ := Lib.hid hz
            have HB : Hid (checkG Ln V rs = 2) := Lib.hid (checkG_bad HL5.out (List.mem_of_getElem? HX.out) (by simp only; rintro ⟨g1, g2, g3, g4, g5, g6, g7, g8⟩; exact c0 g8))
            clear hz c0
            go_wp2_with fail
            obtain ⟨W1, hW1, G0, GB, Ghs⟩ := box1 wr 111 [.int .i64 f, .int .i64 wd, .int .i64 t, .bool s, .slice An nn cn, .slice Ad nd cd]
            rw [← hW1]
            clear hW1
            have g0 := G0.out.cell 0
            have g1 := G0.out.cell 1
            have g2 := G0.out.cell 2
            have g3 := G0.out.cell 3
            have g4 := G0.out.cell 4
            have g5 := G0.out.cell 5
            simp only [List.getElem?_cons_zero, List.getElem?_cons_succ] at g0 g1 g2 g3 g4 g5
            clear e0 e1 e2 e3 e4 e5 p0 p1 p2
            obtain ⟨p0, p1, p2, _, _, _⟩ := (P1.out.below' GB.out).three
            have SC := signF W1 _ q k (FR.out.below GB.out) h0 (by omega)
            rw [HZ.out] at SC
            refine SC.mono ?_
            rintro e w2 ⟨rfl, hb2⟩
            have B2 := Lib.hid (bcomp GB.out hb2)
            clear hb2
            go_wp2_with fail
            go_ret
            exact ⟨ret_i64 HB.out.symm, BEL.out.trans (B2.out.mono hwz)⟩
          ·have b9 : (t != 0) = true := by simpa using c9
           have HB : Hid (checkG Ln V rs = 2) := Lib.hid (checkG_bad HL5.out (List.mem_of_getElem? HX.out) (by simp only; rintro ⟨g1, g2, g3, g4, g5, g6, g7, g8⟩; exact c9 (g7 c8)))
           clear c9
           go_wp2_with fail
           go_ret
           exact ⟨ret_i64 HB.out.symm, (BEL.out.alloc hwz _)⟩
         ·have b8 : (wd == 0) = false := by simpa using c8
          have HR8 : Hid (wd = 0 → t = 0) := Lib.hid (by first | exact fun _ => c9 | exact fun e => absurd e c8)
          try clear c9
          clear c8
          by_cases c0 : 0 ≤ q
          ·have HR : Hid (ruleB Ln V ⟨f, wd, t, q⟩ = true) := Lib.hid (decide_eq_true ⟨by simp only; omega, by simp only; omega, by simp only; omega, by simp only; omega, by simp only; omega, by simp only; omega, HR8.out, c0⟩)
           obtain ⟨z, hz, hz0⟩ : ∃ z, sgnI q = z ∧ decide (z < 0) = false := ⟨_, rfl, decide_eq_false (fun e => (sgnI_neg q).1 e c0)⟩
           have HZ := Lib.hid hz
           clear hz
           go_wp2_with fail
           obtain ⟨W1, hW1, G0, GB, Ghs⟩ := box1 wr 111 [.int .i64 f, .int .i64 wd, .int .i64 t, .bool s, .slice An nn cn, .slice Ad nd cd]
           rw [← hW1]
           clear hW1
           have g0 := G0.out.cell 0
           have g1 := G0.out.cell 1
           have g2 := G0.out.cell 2
           have g3 := G0.out.cell 3
           have g4 := G0.out.cell 4
           have g5 := G0.out.cell 5
           simp only [List.getElem?_cons_zero, List.getElem?_cons_succ] at g0 g1 g2 g3 g4 g5
           clear e0 e1 e2 e3 e4 e5 p0 p1 p2
           obtain ⟨p0, p1, p2, _, _, _⟩ := (P1.out.below' GB.out).three
           have SC := signF W1 _ q k (FR.out.below GB.out) h0 (by omega)
           rw [HZ.out] at SC
           refine SC.mono ?_
           rintro e w2 ⟨rfl, hb2⟩
           have B2 := Lib.hid (bcomp GB.out hb2)
           have G2 := Lib.hid (G0.out.below' hb2)
           have s2 : wr.heap.size + 1 ≤ w2.heap.size := Nat.le_trans Ghs hb2.size
           clear hb2
           obtain ⟨F, rfl⟩ : ∃ F : Nat, f = F := ⟨f.toNat, by omega⟩
           have hFL : F < (sumsL Ln (rs.take j)).length := by rw [sumsL_length]; omega
           obtain ⟨old, hold⟩ : ∃ old, (sumsL Ln (rs.take j))[F]? = some old := ⟨_, List.getElem?_eq_getElem hFL⟩
           have HOLD := Lib.hid hold
           have HFL := Lib.hid hFL
           have QO := Lib.hid (HQB.out _ (List.mem_of_getElem? hold))
           have FA2 := Lib.hid (FA.out.below B2.out)
           obtain ⟨oA, om, oc, oA', om', oc', a0, a1, a2, z0, z1, z2, hcan⟩ := FA2.out.get hold
           have CA := Lib.hid hcan
           have hjk : (j + 1) * (2 * k) ≤ 501 * 2000000 := Nat.mul_le_mul (by omega) (by omega)
           have hjk2 : 1 * (2 * k) ≤ (j + 1) * (2 * k) := Nat.mul_le_mul_right _ (by omega)
           have HJK := Lib.hid (And.intro hjk hjk2)
           have FR2 := Lib.hid (FR.out.below B2.out)
           have P2 := Lib.hid (P1.out.below' B2.out)
           have QQ := Lib.hid (FR.out.qb h0)
           clear g0 g1 g2 g3 g4 g5 p0 p1 p2 hold hFL hcan hjk hjk2
           have g0 := G2.out.cell 0
           have g3 := G2.out.cell 3
           have g4 := G2.out.cell 4
           have g5 := G2.out.cell 5
           simp only [List.getElem?_cons_zero, List.getElem?_cons_succ] at g0 g3 g4 g5
           have i1 : (0 : Int) ≤ (F : Int) := by omega
           have i2 : (F : Int) < (Ln : Int) := by omega
           go_wp2_with fail
           go_region_with (first
            | (go_at_call 120; refine (addF _ _ _ old q ((j + 1) * (2 * k)) ((CA.out.at_.frac QO.out (by have := HJK.out; omega)).below (below_drew_self _)) ((FR2.out.mono (by have := HJK.out; omega)).below (below_drew_self _)) (by have := HJK.out; omega) (by have := HJK.out; omega)).mono ?_; rintro e w3 ⟨v3, rfl, t3, hb3'⟩; have hb3 := below_of_drew hb3'; obtain ⟨A3, m3, c3, A3', m3', c3', rfl, _⟩ := t3.open_; have T3 := Lib.hid (t3.mono (show w.heap.size + 1 + 1 ≤ w2.drew.heap.size by show w.heap.size + 1 + 1 ≤ w2.heap.size; omega)); have B3 := Lib.hid (bcomp B2.out hb3); have FA3 := Lib.hid (FA2.out.below hb3); have P3 := Lib.hid (P2.out.below' hb3); have gg0 : w3.cell? ⟨wr.heap.size, 0, none⟩ = some (.int .i64 (F : Int)) := (G2.out.below' hb3).cell 0; obtain ⟨_, _, _, _, _, _, r0, r1, r2, y0, y1, y2, _⟩ := FA3.out.get HOLD.out; clear t3 hb3 hb3'))
           all_goals
            go_wp2_with fail
            go_roundg gh
            case measure => omega
            case rel =>
             have HS : sumsL Ln (rs.take (j + 1)) = (sumsL Ln (rs.take j)).set F (old + q) := by
              rw [take_succ_get _ HX.out, sumsL_snoc]
              unfold addAt
              simp only [Int.toNat_natCast]
              rw [List.getD_eq_getElem?_getD, HOLD.out]
              rfl
             refine ⟨j + 1, rfl, by omega, Lib.hid (by rw [take_succ_get _ HX.out, List.all_append, HOK.out]; simpa using HR.out), Lib.hid (by rw [HS]; exact FA3.out.put HFL.out rfl T3.out), Lib.hid (fun x hx => ?_), Lib.hid (((P3.out.far (p := ⟨w.heap.size + 1, F * 3, none⟩) (by show w.heap.size ≠ w.heap.size + 1; omega) _).far (p := ⟨w.heap.size + 1, F * 3 + 1, none⟩) (by show w.heap.size ≠ w.heap.size + 1; omega) _).far (p := ⟨w.heap.size + 1, F * 3 + 2, none⟩) (by show w.heap.size ≠ w.heap.size + 1; omega) _),
              Lib.hid ((((BEL.out.trans (B3.out.mono hwz)).setCell (p := ⟨w.heap.size + 1, F * 3, none⟩) (by show w.heap.size ≤ w.heap.size + 1; omega) _).setCell (p := ⟨w.heap.size + 1, F * 3 + 1, none⟩) (by show w.heap.size ≤ w.heap.size + 1; omega) _).setCell (p := ⟨w.heap.size + 1, F * 3 + 2, none⟩) (by show w.heap.size ≤ w.heap.size + 1; omega) _)⟩
             rw [take_succ_get _ HX.out, sumsL_snoc] at hx
             have := sums_step HQB.out QQ.out (by have := HJK.out; omega) (by simpa using HFL.out) x hx
             exact this.mono (by rw [show j + 1 + 1 = (j + 1) + 1 from rfl, Nat.add_mul (j + 1) 1, Nat.one_mul]; omega)
          ·obtain ⟨z, hz, hz0⟩ : ∃ z, sgnI q = z ∧ decide (z < 0) = true := ⟨_, rfl, decide_eq_true ((sgnI_neg q).2 c0)⟩
           have HZ := Lib.hid hz
           have HB : Hid (checkG Ln V rs = 2) := Lib.hid (checkG_bad HL5.out (List.mem_of_getElem? HX.out) (by simp only; rintro ⟨g1, g2, g3, g4, g5, g6, g7, g8⟩; exact c0 g8))
           clear hz c0
           go_wp2_with fail
           obtain ⟨W1, hW1, G0, GB, Ghs⟩ := box1 wr 111 [.int .i64 f, .int .i64 wd, .int .i64 t, .bool s, .slice An nn cn, .slice Ad nd cd]
           rw [← hW1]
           clear hW1
           have g0 := G0.out.cell 0
           have g1 := G0.out.cell 1
           have g2 := G0.out.cell 2
           have g3 := G0.out.cell 3
           have g4 := G0.out.cell 4
           have g5 := G0.out.cell 5
           simp only [List.getElem?_cons_zero, List.getElem?_cons_succ] at g0 g1 g2 g3 g4 g5
           clear e0 e1 e2 e3 e4 e5 p0 p1 p2
           obtain ⟨p0, p1, p2, _, _, _⟩ := (P1.out.below' GB.out).three
           have SC := signF W1 _ q k (FR.out.below GB.out) h0 (by omega)
           rw [HZ.out] at SC
           refine SC.mono ?_
           rintro e w2 ⟨rfl, hb2⟩
           have B2 := Lib.hid (bcomp GB.out hb2)
           clear hb2
           go_wp2_with fail
           go_ret
           exact ⟨ret_i64 HB.out.symm, BEL.out.trans (B2.out.mono hwz)⟩
end Go.Proofs.YtjebfdfkjlkifaaGreat
