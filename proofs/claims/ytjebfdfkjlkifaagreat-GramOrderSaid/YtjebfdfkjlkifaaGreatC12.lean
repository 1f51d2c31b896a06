/- Lemmas on the way: Ref13. -/
import Derived.Test.YtjebfdfkjlkifaaGreatC11
set_option linter.unusedSimpArgs false
set_option linter.unusedVariables false
set_option linter.unusedSectionVars false
set_option linter.unnecessarySimpa false
namespace Go.Proofs.YtjebfdfkjlkifaaGreat
open Go.RowKit
theorem wpList_dup_nat {w : World} {ops : Array Oper} {rest : List Oper} {o : Oper} {a : Act} {Q : Exit → Act → World → Prop} (hgd : o.guard = none) (s x : Operand)
  (ho : o.op = .call { callee := .builtin .append, args := #[s, x], argTypes := #[38, 38] }) (hs : a.eval s = .slice none 0 0) (y : Value) (hx : a.eval x = y) (n k : Nat) (hn : NatAt w y n) (ln : n < 2 ^ k) (hk : k ≤ 70368744177664)
  (h : ∀ A m c w', NatAt w' (.slice A m c) n → From (.slice A m c) w.heap.size → Below w.heap.size w w' → wpList Tryz.prog ops Q rest (a.put o.dst (.slice A m c)) w') : wpList Tryz.prog ops Q (o :: rest) a w := by
 obtain ⟨i0, hi, hz0, hz1, hz2⟩ := info_parts infoU32
 obtain ⟨l, d, t, rfl⟩ := hn
 have ll := t.length_le ln
 refine wpList_append_sl hgd s x 38 ho w.heap.size 181 i0 (.int .u32 0) 1 4 Tryz.underlying38 hi hz0 hz1 hz2 rfl (by decide) _ 0 [] hs (World.ownsRow_nil ..) y l.length (l.map dg) hx d.1 (dg_one l) (by unfold maxLen; omega) (by omega) (Nat.le_refl _) ?_
 intro v' w' hown hgr _
 have hf := From.of_own hown
 have hN : NatAt w' v' (val l) := ⟨l, ⟨by have := Sl.of_own hown; simpa using this, d.2⟩, t, rfl⟩
 obtain ⟨A, m, c, rfl, _⟩ := hN.len
 exact h A m c w' hN hf ((Below.refl _ w).grown hgr (Nat.le_refl _) (by simp [Value.ownBlock]))

theorem oneT {w : World} {v : Value} (h : NatAt w v 1) : Calls Tryz.prog 141 #[v] w fun e w' => w' = w ∧ e = .returned (.bool true) := oneR w v 1 h
theorem oneF {w : World} {v : Value} {a : Nat} (h : NatAt w v a) (h1 : a ≠ 1) : Calls Tryz.prog 141 #[v] w fun e w' => w' = w ∧ e = .returned (.bool false) := by
 have := oneR w v a h
 rwa [decide_eq_false h1] at this

theorem CanNew.of_parts {B : Nat} {w : World} {neg : Bool} {vn vd : Value} {n d : Nat} (n0 : 0 < n) (d0 : 0 < d) (h1 : NatAt w vn (n / Nat.gcd n d)) (h2 : NatAt w vd (if d / Nat.gcd n d = 1 then 0 else d / Nat.gcd n d)) (h3 : From vn B) (h4 : From vd B) :
  CanNew B w (.agg #[.bool neg, vn, vd]) (mkRat (sgn neg n) d) := by
 obtain ⟨r1, r2⟩ := red neg n d d0
 have hg : 0 < n / Nat.gcd n d := Nat.div_pos (Nat.gcd_le_left _ n0) (Nat.gcd_pos_of_pos_left _ n0)
 refine ⟨vn, vd, ?_, ?_, ?_, h3, h4⟩
 ·rw [isNeg_sgn r1, decide_eq_true hg, Bool.and_true]
 ·rw [r1, sgn_natAbs]; exact h1
 ·rw [r2]; exact h2

theorem CanNew.zero (B : Nat) (w : World) (neg : Bool) (d : Nat) : CanNew B w (.agg #[.bool false, .slice none 0 0, .slice none 0 0]) (mkRat (sgn neg 0) d) := by
 have e : mkRat (sgn neg 0) d = 0 := by cases neg <;> simp [sgn]
 rw [e]
 exact ⟨_, _, by simp [isNeg], NatAt.nil_ _, by simpa using NatAt.nil_ _, From.nil_ _, From.nil_ _⟩

set_option maxRecDepth 1000000 in
set_option maxHeartbeats 1000000 in
theorem make1R (w : World) (neg : Bool) (vn vd : Value) (ln ld : List Nat) (k : Nat) (hn : DigAt w vn ln) (hd : DigAt w vd ld) (qn : val ln < 2 ^ k) (qd : val ld < 2 ^ k) (h0 : 0 < k) (hk : k ≤ 17592186044416) :
  Calls Tryz.prog 94 #[.bool neg, vn, vd] w fun e w' => ∃ v', e = .returned v' ∧ CanNew w.heap.size w' v' (fracVal neg (val ln) (val ld)) ∧ Below w.heap.size w w' := by
 have H1 := Lib.hid hn
 have H2 := Lib.hid hd
 clear hn hd
 obtain ⟨n, hN⟩ : ∃ n, val ln = n := ⟨_, rfl⟩
 obtain ⟨d0, hD0⟩ : ∃ d, val ld = d := ⟨_, rfl⟩
 rw [hN, hD0]
 rw [hN] at qn
 rw [hD0] at qd
 have HN := Lib.hid hN
 have HD0 := Lib.hid hD0
 clear hN hD0
 unfold fracVal
 obtain ⟨d, hD⟩ : ∃ d, (if d0 = 0 then 1 else d0) = d := ⟨_, rfl⟩
 rw [hD]
 have QN := Lib.hid qn
 have QD : Hid (d < 2 ^ k) := Lib.hid (by rw [← hD]; split; exact Nat.one_lt_two_pow (by omega); exact qd)
 have hd0 : 0 < d := by rw [← hD]; split <;> omega
 have HD := Lib.hid hD
 clear qn qd hD
 go_enter Tryz.func94, Tryz.ntmps94
 go_wp2_with fail
 obtain ⟨W, hW, P0, PB, Phs⟩ := box1 w 40 [.bool false, .slice none 0 0, .slice none 0 0]
 rw [← hW]
 clear hW
 refine (trimR W vn ln (H1.out.below PB.out)).mono ?_
 rintro e w1 ⟨hw1, v1, rfl, t1, _, _⟩
 cases hw1
 have T1 : Hid (NatAt W v1 n) := Lib.hid (HN.out ▸ t1)
 clear t1
 go_wp2_with fail
 refine (trimR W vd ld (H2.out.below PB.out)).mono ?_
 rintro e w1 ⟨hw1, v2, rfl, t1, _, _⟩
 cases hw1
 have T2 : Hid (NatAt W v2 d0) := Lib.hid (HD0.out ▸ t1)
 clear t1
 obtain ⟨A1, m1, c1, rfl, hm1, hp1⟩ := T1.out.len
 obtain ⟨A2, m2, c2, rfl, hm2, hp2⟩ := T2.out.len
 obtain ⟨r0, r1, r2, z0, z1, z2⟩ := P0.out.three
 rcases Nat.eq_zero_or_pos n with hz | hn0
 ·subst hz
  obtain rfl : m1 = 0 := by omega
  go_wp2_with fail
  refine bodyPost_ret (v := .agg #[.bool false, .slice none 0 0, .slice none 0 0]) (by simp [results, Tryz.results94, go_sem, r0, r1, r2]) rfl ⟨_, rfl, CanNew.zero _ _ _ _, below_box3 PB.out (Nat.le_refl _) _ _ _⟩
 have hm0 : ((m1 : Int) == 0) = false := by simp; omega
 clear r0 r1 r2 z0 z1 z2
 rcases Nat.eq_zero_or_pos d0 with hz | hz
 ·have HZ := Lib.hid hz
  clear hz
  obtain rfl : m2 = 0 := by have := HZ.out; omega
  have HD1 : Hid (d = 1) := Lib.hid (by rw [← HD.out, if_pos HZ.out])
  go_wp2_with fail
  have T2' : Hid (NatAt (W.alloc (.cells #[.int .u32 1] 181)) (.slice (some ⟨W.heap.size, 0, none⟩) 1 1) d) := Lib.hid (by rw [HD1.out]; exact NatAt.digit1 W 181 1 (by omega) (by omega))
  obtain ⟨v2, hv2⟩ : ∃ v2, v2 = Value.slice (some ⟨W.heap.size, 0, none⟩) 1 1 := ⟨_, rfl⟩
  obtain ⟨W1, hW1⟩ : ∃ W1, W1 = W.alloc (.cells #[.int .u32 1] 181) := ⟨_, rfl⟩
  rw [← hW1, ← hv2] at T2'
  rw [← hW1, ← hv2, show W.heap.size + 1 = W1.heap.size by rw [hW1, World.size_alloc]]
  have TT2 := T2'
  have TT1 : Hid (NatAt W1 (.slice A1 m1 c1) n) := Lib.hid (by rw [hW1]; exact T1.out.alloc _)
  have BB : Hid (Below w.heap.size w W1) := Lib.hid (by rw [hW1]; exact PB.out.alloc (by omega) _)
  have R0 : Hid (Blk W1 w.heap.size 40 [.bool false, .slice none 0 0, .slice none 0 0]) := Lib.hid (by rw [hW1]; exact P0.out.alloc _)
  clear hW1 hv2 T2' HD1
  have hsz : w.heap.size < W1.heap.size := R0.out.lt
  have G1 : Hid (NatAt (W1.alloc (.cells #[.int .u32 1] 181)) (.slice (some ⟨W1.heap.size, 0, none⟩) 1 1) 1) := Lib.hid (NatAt.digit1 W1 181 1 (by omega) (by omega))
  have QG : Hid (Nat.gcd n d < 2 ^ k) := Lib.hid (Nat.lt_of_le_of_lt (Nat.gcd_le_left d hn0) QN.out)
  rcases Nat.lt_or_ge 1 d with hd1 | hd1
  ·go_wp2_with fail
   refine (oneF (TT2.out.alloc _) (by omega)).mono ?_
   rintro e w2 ⟨hw2, rfl⟩
   cases hw2
   rcases Nat.lt_or_ge 1 n with hn1 | hn1
   ·go_wp2_with fail
    refine (oneF (TT1.out.alloc _) (by omega)).mono ?_
    rintro e w2 ⟨hw2, rfl⟩
    cases hw2
    go_wp2_with fail
    refine (gcdR _ _ _ n d k (TT1.out.alloc _) (TT2.out.alloc _) QN.out QD.out (by omega) (by omega) (by omega)).mono ?_
    rintro e w2 ⟨vg, rfl, t1, hb⟩
    have VG := Lib.hid t1
    have BA : Hid (Below W1.heap.size W1 w2) := Lib.hid (((Below.refl _ W1).alloc (Nat.le_refl _) _).trans (hb.mono (by simp)))
    have BB2 := Lib.hid (BB.out.trans (BA.out.mono (by omega)))
    have TA1 := Lib.hid (TT1.out.below BA.out)
    have TA2 := Lib.hid (TT2.out.below BA.out)
    have RA := Lib.hid (R0.out.below' BA.out)
    clear t1 hb BA TT1 TT2 R0 BB G1
    have hsz2 : w.heap.size < w2.heap.size := RA.out.lt
    by_cases hg : Nat.gcd n d = 1
    ·have HGG := Lib.hid hg
     clear hg
     have VG1 : Hid (NatAt w2 vg 1) := Lib.hid (HGG.out ▸ VG.out)
     go_wp2_with fail
     refine (oneT VG1.out).mono ?_
     rintro e w3 ⟨hw3, rfl⟩
     cases hw3
     have U1 : Hid (NatAt w2 (.slice A1 m1 c1) (n / Nat.gcd n d)) := Lib.hid (by rw [HGG.out, Nat.div_one]; exact TA1.out)
     have U2 : Hid (NatAt w2 v2 (d / Nat.gcd n d)) := Lib.hid (by rw [HGG.out, Nat.div_one]; exact TA2.out)
     have UB := BB2
     have UR := RA
     obtain ⟨Wf, hWf⟩ : ∃ Wf, Wf = w2 := ⟨_, rfl⟩
     rw [← hWf] at U1 U2 UB UR ⊢
     clear hWf
     have hszf : w.heap.size < Wf.heap.size := UR.out.lt
     have UQ : Hid (n / Nat.gcd n d < 2 ^ k) := Lib.hid (Nat.lt_of_le_of_lt (Nat.div_le_self _ _) QN.out)
     have UQ2 : Hid (d / Nat.gcd n d < 2 ^ k) := Lib.hid (Nat.lt_of_le_of_lt (Nat.div_le_self _ _) QD.out)
     go_wp2_with (at_builtin; refine wpList_dup_nat rfl _ _ rfl rfl _ rfl _ k U1.out UQ.out (by omega) ?_)
     intro An mn cn wn n1 n2 n3
     have N1 := Lib.hid n1
     have N2 := Lib.hid n2
     have UB2 := Lib.hid (UB.out.trans (n3.mono (by omega)))
     have UR2 := Lib.hid (UR.out.below' n3)
     have V2 := Lib.hid (U2.out.below n3)
     have hszn : Wf.heap.size ≤ wn.heap.size := n3.size
     clear n1 n2 n3
     go_wp2_with fail
     obtain ⟨wb, hwb, O0, OB, Ohs⟩ := box1 wn 40 [.bool neg, .slice An mn cn, .slice none 0 0]
     rw [← hwb]
     clear hwb
     have N3 := Lib.hid (N1.out.below OB.out)
     have V3 := Lib.hid (V2.out.below OB.out)
     have UR3 := Lib.hid (UR2.out.below' OB.out)
     have UB3 := Lib.hid (UB2.out.trans (OB.out.mono (by omega)))
     have hO : wn.heap.size ≠ w.heap.size := by omega
     have hF := N2.out.mono (show w.heap.size + 1 ≤ Wf.heap.size by omega)
     have HF := Lib.hid hF
     clear hF
     by_cases hd2 : d / Nat.gcd n d = 1
     ·have V4 : Hid (NatAt wb v2 1) := Lib.hid (by rw [← hd2]; exact V3.out)
      have HD2 := Lib.hid hd2
      clear hd2
      obtain ⟨r0, r1, r2, z0, z1, z2⟩ := UR3.out.three
      obtain ⟨o0, o1, o2, y0, y1, y2⟩ := O0.out.three
      refine (oneT V4.out).mono ?_
      rintro e w5 ⟨hw5, rfl⟩
      cases hw5
      go_wp2_with fail
      refine bodyPost_ret (v := .agg #[.bool neg, .slice An mn cn, .slice none 0 0]) (by simp [results, Tryz.results94, go_sem, r0, r1, r2]) rfl ⟨_, rfl, CanNew.of_parts hn0 hd0 (N3.out.box3 HF.out _ _ _) (by rw [if_pos HD2.out]; exact NatAt.nil_ _) (HF.out.mono (by omega)) (From.nil_ _), below_box3 UB3.out (Nat.le_refl _) _ _ _⟩
     ·have HD2 := Lib.hid hd2
      clear hd2
      refine (oneF V3.out HD2.out).mono ?_
      rintro e w5 ⟨hw5, rfl⟩
      cases hw5
      obtain ⟨o0, o1, o2, y0, y1, y2⟩ := O0.out.three
      go_wp2_with (at_builtin; refine wpList_dup_nat rfl _ _ rfl rfl _ rfl _ k V3.out UQ2.out (by omega) ?_)
      intro Ad md cd wd n1 n2 n3
      have M1 := Lib.hid n1
      have M2 := Lib.hid n2
      have N4 := Lib.hid (N3.out.below n3)
      have UB4 := Lib.hid (UB3.out.trans (n3.mono (by omega)))
      have UR4 := Lib.hid (UR3.out.below' n3)
      have O4 := Lib.hid (O0.out.below' n3)
      clear n1 n2 n3 o0 o1 o2 y0 y1 y2
      have hOs : wn.heap.size < wb.heap.size := O0.out.lt
      obtain ⟨r0, r1, r2, z0, z1, z2⟩ := UR4.out.three
      obtain ⟨o0, o1, o2, y0, y1, y2⟩ := O4.out.three
      go_wp2_with fail
      refine bodyPost_ret (v := .agg #[.bool neg, .slice An mn cn, .slice Ad md cd]) (by simp [results, Tryz.results94, go_sem, r0, r1, r2]) rfl ⟨_, rfl, CanNew.of_parts hn0 hd0 ?_ ?_ (HF.out.mono (by omega)) (M2.out.mono (by omega)), below_box3 (UB4.out.setCell (p := ⟨wn.heap.size, 2, none⟩) (by show w.heap.size ≤ wn.heap.size; omega) _) (Nat.le_refl _) _ _ _⟩
      ·exact (N4.out.setOff (p := ⟨wn.heap.size, 2, none⟩) (N1.out.off (Nat.le_refl _)) _).box3 HF.out _ _ _
      ·rw [if_neg HD2.out]
       exact (M1.out.setFar (p := ⟨wn.heap.size, 2, none⟩) M2.out hOs _).box3 (M2.out.mono (by omega)) _ _ _
    ·have HGG := Lib.hid hg
     clear hg
     have HG0 : Hid (0 < Nat.gcd n d) := Lib.hid (Nat.gcd_pos_of_pos_left _ hn0)
     go_wp2_with fail
     refine (oneF VG.out HGG.out).mono ?_
     rintro e w3 ⟨hw3, rfl⟩
     cases hw3
     go_wp2_with fail
     refine (divideR w2 _ vg n (Nat.gcd n d) k TA1.out VG.out QN.out QG.out hk HG0.out).mono ?_
     rintro e w3 ⟨vq, vr, rfl, q1, _, q3, _, _⟩
     have Q1 := Lib.hid q1
     have B3 := Lib.hid (BB2.out.trans (q3.mono (by omega)))
     have VG3 := Lib.hid (VG.out.below q3)
     have TA3 := Lib.hid (TA2.out.below q3)
     have RA3 := Lib.hid (RA.out.below' q3)
     have hs3 := q3.size
     clear q1 q3
     go_wp2_with fail
     refine (divideR w3 _ vg d (Nat.gcd n d) k TA3.out VG3.out QD.out QG.out hk HG0.out).mono ?_
     rintro e Wf ⟨v2, vr2, rfl, q1, _, q3, _, _⟩
     have U1 := Lib.hid (Q1.out.below q3)
     have U2 := Lib.hid q1
     have UB := Lib.hid (B3.out.trans (q3.mono (by omega)))
     have UR := Lib.hid (RA3.out.below' q3)
     clear q1 q3 TA1 TA2 RA VG VG3 TA3 RA3 Q1 B3 BB2
     have hszf : w.heap.size < Wf.heap.size := UR.out.lt
     have UQ : Hid (n / Nat.gcd n d < 2 ^ k) := Lib.hid (Nat.lt_of_le_of_lt (Nat.div_le_self _ _) QN.out)
     have UQ2 : Hid (d / Nat.gcd n d < 2 ^ k) := Lib.hid (Nat.lt_of_le_of_lt (Nat.div_le_self _ _) QD.out)
     go_wp2_with (at_builtin; refine wpList_dup_nat rfl _ _ rfl rfl _ rfl _ k U1.out UQ.out (by omega) ?_)
     intro An mn cn wn n1 n2 n3
     have N1 := Lib.hid n1
     have N2 := Lib.hid n2
     have UB2 := Lib.hid (UB.out.trans (n3.mono (by omega)))
     have UR2 := Lib.hid (UR.out.below' n3)
     have V2 := Lib.hid (U2.out.below n3)
     have hszn : Wf.heap.size ≤ wn.heap.size := n3.size
     clear n1 n2 n3
     go_wp2_with fail
     obtain ⟨wb, hwb, O0, OB, Ohs⟩ := box1 wn 40 [.bool neg, .slice An mn cn, .slice none 0 0]
     rw [← hwb]
     clear hwb
     have N3 := Lib.hid (N1.out.below OB.out)
     have V3 := Lib.hid (V2.out.below OB.out)
     have UR3 := Lib.hid (UR2.out.below' OB.out)
     have UB3 := Lib.hid (UB2.out.trans (OB.out.mono (by omega)))
     have hO : wn.heap.size ≠ w.heap.size := by omega
     have hF := N2.out.mono (show w.heap.size + 1 ≤ Wf.heap.size by omega)
     have HF := Lib.hid hF
     clear hF
     by_cases hd2 : d / Nat.gcd n d = 1
     ·have V4 : Hid (NatAt wb v2 1) := Lib.hid (by rw [← hd2]; exact V3.out)
      have HD2 := Lib.hid hd2
      clear hd2
      obtain ⟨r0, r1, r2, z0, z1, z2⟩ := UR3.out.three
      obtain ⟨o0, o1, o2, y0, y1, y2⟩ := O0.out.three
      refine (oneT V4.out).mono ?_
      rintro e w5 ⟨hw5, rfl⟩
      cases hw5
      go_wp2_with fail
      refine bodyPost_ret (v := .agg #[.bool neg, .slice An mn cn, .slice none 0 0]) (by simp [results, Tryz.results94, go_sem, r0, r1, r2]) rfl ⟨_, rfl, CanNew.of_parts hn0 hd0 (N3.out.box3 HF.out _ _ _) (by rw [if_pos HD2.out]; exact NatAt.nil_ _) (HF.out.mono (by omega)) (From.nil_ _), below_box3 UB3.out (Nat.le_refl _) _ _ _⟩
     ·have HD2 := Lib.hid hd2
      clear hd2
      refine (oneF V3.out HD2.out).mono ?_
      rintro e w5 ⟨hw5, rfl⟩
      cases hw5
      obtain ⟨o0, o1, o2, y0, y1, y2⟩ := O0.out.three
      go_wp2_with (at_builtin; refine wpList_dup_nat rfl _ _ rfl rfl _ rfl _ k V3.out UQ2.out (by omega) ?_)
      intro Ad md cd wd n1 n2 n3
      have M1 := Lib.hid n1
      have M2 := Lib.hid n2
      have N4 := Lib.hid (N3.out.below n3)
      have UB4 := Lib.hid (UB3.out.trans (n3.mono (by omega)))
      have UR4 := Lib.hid (UR3.out.below' n3)
      have O4 := Lib.hid (O0.out.below' n3)
      clear n1 n2 n3 o0 o1 o2 y0 y1 y2
      have hOs : wn.heap.size < wb.heap.size := O0.out.lt
      obtain ⟨r0, r1, r2, z0, z1, z2⟩ := UR4.out.three
      obtain ⟨o0, o1, o2, y0, y1, y2⟩ := O4.out.three
      go_wp2_with fail
      refine bodyPost_ret (v := .agg #[.bool neg, .slice An mn cn, .slice Ad md cd]) (by simp [results, Tryz.results94, go_sem, r0, r1, r2]) rfl ⟨_, rfl, CanNew.of_parts hn0 hd0 ?_ ?_ (HF.out.mono (by omega)) (M2.out.mono (by omega)), below_box3 (UB4.out.setCell (p := ⟨wn.heap.size, 2, none⟩) (by show w.heap.size ≤ wn.heap.size; omega) _) (Nat.le_refl _) _ _ _⟩
      ·exact (N4.out.setOff (p := ⟨wn.heap.size, 2, none⟩) (N1.out.off (Nat.le_refl _)) _).box3 HF.out _ _ _
      ·rw [if_neg HD2.out]
       exact (M1.out.setFar (p := ⟨wn.heap.size, 2, none⟩) M2.out hOs _).box3 (M2.out.mono (by omega)) _ _ _
   ·have HN1 : Hid (n = 1) := Lib.hid (by omega)
    have HGG : Hid (Nat.gcd n d = 1) := Lib.hid (by rw [HN1.out]; exact Nat.gcd_one_left d)
    have TN1 : Hid (NatAt W1 (.slice A1 m1 c1) 1) := Lib.hid (HN1.out ▸ TT1.out)
    clear hn1
    go_wp2_with fail
    refine (oneT (TN1.out.alloc _)).mono ?_
    rintro e w2 ⟨hw2, rfl⟩
    cases hw2
    go_wp2_with fail
    refine (oneT G1.out).mono ?_
    rintro e w2 ⟨hw2, rfl⟩
    cases hw2
    obtain ⟨Wf, hWf⟩ : ∃ Wf, Wf = W1.alloc (.cells #[.int .u32 1] 181) := ⟨_, rfl⟩
    have U1 : Hid (NatAt Wf (.slice A1 m1 c1) (n / Nat.gcd n d)) := Lib.hid (by rw [HGG.out, Nat.div_one, hWf]; exact TT1.out.alloc _)
    have U2 : Hid (NatAt Wf v2 (d / Nat.gcd n d)) := Lib.hid (by rw [HGG.out, Nat.div_one, hWf]; exact TT2.out.alloc _)
    have UB : Hid (Below w.heap.size w Wf) := Lib.hid (by rw [hWf]; exact BB.out.alloc (by omega) _)
    have UR : Hid (Blk Wf w.heap.size 40 [.bool false, .slice none 0 0, .slice none 0 0]) := Lib.hid (by rw [hWf]; exact R0.out.alloc _)
    rw [← hWf]
    clear hWf TT1 TT2 R0 BB G1
    have hszf : w.heap.size < Wf.heap.size := UR.out.lt
    have UQ : Hid (n / Nat.gcd n d < 2 ^ k) := Lib.hid (Nat.lt_of_le_of_lt (Nat.div_le_self _ _) QN.out)
    have UQ2 : Hid (d / Nat.gcd n d < 2 ^ k) := Lib.hid (Nat.lt_of_le_of_lt (Nat.div_le_self _ _) QD.out)
    go_wp2_with (at_builtin; refine wpList_dup_nat rfl _ _ rfl rfl _ rfl _ k U1.out UQ.out (by omega) ?_)
    intro An mn cn wn n1 n2 n3
    have N1 := Lib.hid n1
    have N2 := Lib.hid n2
    have UB2 := Lib.hid (UB.out.trans (n3.mono (by omega)))
    have UR2 := Lib.hid (UR.out.below' n3)
    have V2 := Lib.hid (U2.out.below n3)
    have hszn : Wf.heap.size ≤ wn.heap.size := n3.size
    clear n1 n2 n3
    go_wp2_with fail
    obtain ⟨wb, hwb, O0, OB, Ohs⟩ := box1 wn 40 [.bool neg, .slice An mn cn, .slice none 0 0]
    rw [← hwb]
    clear hwb
    have N3 := Lib.hid (N1.out.below OB.out)
    have V3 := Lib.hid (V2.out.below OB.out)
    have UR3 := Lib.hid (UR2.out.below' OB.out)
    have UB3 := Lib.hid (UB2.out.trans (OB.out.mono (by omega)))
    have hO : wn.heap.size ≠ w.heap.size := by omega
    have hF := N2.out.mono (show w.heap.size + 1 ≤ Wf.heap.size by omega)
    have HF := Lib.hid hF
    clear hF
    by_cases hd2 : d / Nat.gcd n d = 1
    ·have V4 : Hid (NatAt wb v2 1) := Lib.hid (by rw [← hd2]; exact V3.out)
     have HD2 := Lib.hid hd2
     clear hd2
     obtain ⟨r0, r1, r2, z0, z1, z2⟩ := UR3.out.three
     obtain ⟨o0, o1, o2, y0, y1, y2⟩ := O0.out.three
     refine (oneT V4.out).mono ?_
     rintro e w5 ⟨hw5, rfl⟩
     cases hw5
     go_wp2_with fail
     refine bodyPost_ret (v := .agg #[.bool neg, .slice An mn cn, .slice none 0 0]) (by simp [results, Tryz.results94, go_sem, r0, r1, r2]) rfl ⟨_, rfl, CanNew.of_parts hn0 hd0 (N3.out.box3 HF.out _ _ _) (by rw [if_pos HD2.out]; exact NatAt.nil_ _) (HF.out.mono (by omega)) (From.nil_ _), below_box3 UB3.out (Nat.le_refl _) _ _ _⟩
    ·have HD2 := Lib.hid hd2
     clear hd2
     refine (oneF V3.out HD2.out).mono ?_
     rintro e w5 ⟨hw5, rfl⟩
     cases hw5
     obtain ⟨o0, o1, o2, y0, y1, y2⟩ := O0.out.three
     go_wp2_with (at_builtin; refine wpList_dup_nat rfl _ _ rfl rfl _ rfl _ k V3.out UQ2.out (by omega) ?_)
     intro Ad md cd wd n1 n2 n3
     have M1 := Lib.hid n1
     have M2 := Lib.hid n2
     have N4 := Lib.hid (N3.out.below n3)
     have UB4 := Lib.hid (UB3.out.trans (n3.mono (by omega)))
     have UR4 := Lib.hid (UR3.out.below' n3)
     have O4 := Lib.hid (O0.out.below' n3)
     clear n1 n2 n3 o0 o1 o2 y0 y1 y2
     have hOs : wn.heap.size < wb.heap.size := O0.out.lt
     obtain ⟨r0, r1, r2, z0, z1, z2⟩ := UR4.out.three
     obtain ⟨o0, o1, o2, y0, y1, y2⟩ := O4.out.three
     go_wp2_with fail
     refine bodyPost_ret (v := .agg #[.bool neg, .slice An mn cn, .slice Ad md cd]) (by simp [results, Tryz.results94, go_sem, r0, r1, r2]) rfl ⟨_, rfl, CanNew.of_parts hn0 hd0 ?_ ?_ (HF.out.mono (by omega)) (M2.out.mono (by omega)), below_box3 (UB4.out.setCell (p := ⟨wn.heap.size, 2, none⟩) (by show w.heap.size ≤ wn.heap.size; omega) _) (Nat.le_refl _) _ _ _⟩
     ·exact (N4.out.setOff (p := ⟨wn.heap.size, 2, none⟩) (N1.out.off (Nat.le_refl _)) _).box3 HF.out _ _ _
     ·rw [if_neg HD2.out]
      exact (M1.out.setFar (p := ⟨wn.heap.size, 2, none⟩) M2.out hOs _).box3 (M2.out.mono (by omega)) _ _ _
  ·have HG : Hid (Nat.gcd n d = 1 ∧ d = 1) := Lib.hid (by rw [show d = 1 by omega]; exact ⟨Nat.gcd_one_right n, rfl⟩)
   have TD : Hid (NatAt W1 v2 1) := Lib.hid (HG.out.2 ▸ TT2.out)
   have HGG : Hid (Nat.gcd n d = 1) := Lib.hid HG.out.1
   go_wp2_with fail
   refine (oneT (TD.out.alloc _)).mono ?_
   rintro e w2 ⟨hw2, rfl⟩
   cases hw2
   clear TD HG hd1
   go_wp2_with fail
   refine (oneT G1.out).mono ?_
   rintro e w2 ⟨hw2, rfl⟩
   cases hw2
   obtain ⟨Wf, hWf⟩ : ∃ Wf, Wf = W1.alloc (.cells #[.int .u32 1] 181) := ⟨_, rfl⟩
   have U1 : Hid (NatAt Wf (.slice A1 m1 c1) (n / Nat.gcd n d)) := Lib.hid (by rw [HGG.out, Nat.div_one, hWf]; exact TT1.out.alloc _)
   have U2 : Hid (NatAt Wf v2 (d / Nat.gcd n d)) := Lib.hid (by rw [HGG.out, Nat.div_one, hWf]; exact TT2.out.alloc _)
   have UB : Hid (Below w.heap.size w Wf) := Lib.hid (by rw [hWf]; exact BB.out.alloc (by omega) _)
   have UR : Hid (Blk Wf w.heap.size 40 [.bool false, .slice none 0 0, .slice none 0 0]) := Lib.hid (by rw [hWf]; exact R0.out.alloc _)
   rw [← hWf]
   clear hWf TT1 TT2 R0 BB G1
   have hszf : w.heap.size < Wf.heap.size := UR.out.lt
   have UQ : Hid (n / Nat.gcd n d < 2 ^ k) := Lib.hid (Nat.lt_of_le_of_lt (Nat.div_le_self _ _) QN.out)
   have UQ2 : Hid (d / Nat.gcd n d < 2 ^ k) := Lib.hid (Nat.lt_of_le_of_lt (Nat.div_le_self _ _) QD.out)
   go_wp2_with (at_builtin; refine wpList_dup_nat rfl _ _ rfl rfl _ rfl _ k U1.out UQ.out (by omega) ?_)
   intro An mn cn wn n1 n2 n3
   have N1 := Lib.hid n1
   have N2 := Lib.hid n2
   have UB2 := Lib.hid (UB.out.trans (n3.mono (by omega)))
   have UR2 := Lib.hid (UR.out.below' n3)
   have V2 := Lib.hid (U2.out.below n3)
   have hszn : Wf.heap.size ≤ wn.heap.size := n3.size
   clear n1 n2 n3
   go_wp2_with fail
   obtain ⟨wb, hwb, O0, OB, Ohs⟩ := box1 wn 40 [.bool neg, .slice An mn cn, .slice none 0 0]
   rw [← hwb]
   clear hwb
   have N3 := Lib.hid (N1.out.below OB.out)
   have V3 := Lib.hid (V2.out.below OB.out)
   have UR3 := Lib.hid (UR2.out.below' OB.out)
   have UB3 := Lib.hid (UB2.out.trans (OB.out.mono (by omega)))
   have hO : wn.heap.size ≠ w.heap.size := by omega
   have hF := N2.out.mono (show w.heap.size + 1 ≤ Wf.heap.size by omega)
   have HF := Lib.hid hF
   clear hF
   by_cases hd2 : d / Nat.gcd n d = 1
   ·have V4 : Hid (NatAt wb v2 1) := Lib.hid (by rw [← hd2]; exact V3.out)
    have HD2 := Lib.hid hd2
    clear hd2
    obtain ⟨r0, r1, r2, z0, z1, z2⟩ := UR3.out.three
    obtain ⟨o0, o1, o2, y0, y1, y2⟩ := O0.out.three
    refine (oneT V4.out).mono ?_
    rintro e w5 ⟨hw5, rfl⟩
    cases hw5
    go_wp2_with fail
    refine bodyPost_ret (v := .agg #[.bool neg, .slice An mn cn, .slice none 0 0]) (by simp [results, Tryz.results94, go_sem, r0, r1, r2]) rfl ⟨_, rfl, CanNew.of_parts hn0 hd0 (N3.out.box3 HF.out _ _ _) (by rw [if_pos HD2.out]; exact NatAt.nil_ _) (HF.out.mono (by omega)) (From.nil_ _), below_box3 UB3.out (Nat.le_refl _) _ _ _⟩
   ·have HD2 := Lib.hid hd2
    clear hd2
    refine (oneF V3.out HD2.out).mono ?_
    rintro e w5 ⟨hw5, rfl⟩
    cases hw5
    obtain ⟨o0, o1, o2, y0, y1, y2⟩ := O0.out.three
    go_wp2_with (at_builtin; refine wpList_dup_nat rfl _ _ rfl rfl _ rfl _ k V3.out UQ2.out (by omega) ?_)
    intro Ad md cd wd n1 n2 n3
    have M1 := Lib.hid n1
    have M2 := Lib.hid n2
    have N4 := Lib.hid (N3.out.below n3)
    have UB4 := Lib.hid (UB3.out.trans (n3.mono (by omega)))
    have UR4 := Lib.hid (UR3.out.below' n3)
    have O4 := Lib.hid (O0.out.below' n3)
    clear n1 n2 n3 o0 o1 o2 y0 y1 y2
    have hOs : wn.heap.size < wb.heap.size := O0.out.lt
    obtain ⟨r0, r1, r2, z0, z1, z2⟩ := UR4.out.three
    obtain ⟨o0, o1, o2, y0, y1, y2⟩ := O4.out.three
    go_wp2_with fail
    refine bodyPost_ret (v := .agg #[.bool neg, .slice An mn cn, .slice Ad md cd]) (by simp [results, Tryz.results94, go_sem, r0, r1, r2]) rfl ⟨_, rfl, CanNew.of_parts hn0 hd0 ?_ ?_ (HF.out.mono (by omega)) (M2.out.mono (by omega)), below_box3 (UB4.out.setCell (p := ⟨wn.heap.size, 2, none⟩) (by show w.heap.size ≤ wn.heap.size; omega) _) (Nat.le_refl _) _ _ _⟩
    ·exact (N4.out.setOff (p := ⟨wn.heap.size, 2, none⟩) (N1.out.off (Nat.le_refl _)) _).box3 HF.out _ _ _
    ·rw [if_neg HD2.out]
     exact (M1.out.setFar (p := ⟨wn.heap.size, 2, none⟩) M2.out hOs _).box3 (M2.out.mono (by omega)) _ _ _
 ·have HZ := Lib.hid hz
  clear hz
  have hm3 : ((m2 : Int) == 0) = false := by have := HZ.out; simp; omega
  have TT2 : Hid (NatAt W (.slice A2 m2 c2) d) := Lib.hid (by rw [← HD.out, if_neg (by have := HZ.out; omega)]; exact T2.out)
  have TT1 := T1
  have BB := PB
  have R0 := P0
  go_wp2_with fail
  obtain ⟨W1, rfl⟩ : ∃ W1, W1 = W := ⟨_, rfl⟩
  obtain ⟨v2, hv2⟩ : ∃ v2, v2 = Value.slice A2 m2 c2 := ⟨_, rfl⟩
  rw [← hv2] at TT2
  rw [← hv2]
  clear hv2
  have hsz : w.heap.size < W1.heap.size := R0.out.lt
  have G1 : Hid (NatAt (W1.alloc (.cells #[.int .u32 1] 181)) (.slice (some ⟨W1.heap.size, 0, none⟩) 1 1) 1) := Lib.hid (NatAt.digit1 W1 181 1 (by omega) (by omega))
  have QG : Hid (Nat.gcd n d < 2 ^ k) := Lib.hid (Nat.lt_of_le_of_lt (Nat.gcd_le_left d hn0) QN.out)
  rcases Nat.lt_or_ge 1 d with hd1 | hd1
  ·go_wp2_with fail
   refine (oneF (TT2.out.alloc _) (by omega)).mono ?_
   rintro e w2 ⟨hw2, rfl⟩
   cases hw2
   rcases Nat.lt_or_ge 1 n with hn1 | hn1
   ·go_wp2_with fail
    refine (oneF (TT1.out.alloc _) (by omega)).mono ?_
    rintro e w2 ⟨hw2, rfl⟩
    cases hw2
    go_wp2_with fail
    refine (gcdR _ _ _ n d k (TT1.out.alloc _) (TT2.out.alloc _) QN.out QD.out (by omega) (by omega) (by omega)).mono ?_
    rintro e w2 ⟨vg, rfl, t1, hb⟩
    have VG := Lib.hid t1
    have BA : Hid (Below W1.heap.size W1 w2) := Lib.hid (((Below.refl _ W1).alloc (Nat.le_refl _) _).trans (hb.mono (by simp)))
    have BB2 := Lib.hid (BB.out.trans (BA.out.mono (by omega)))
    have TA1 := Lib.hid (TT1.out.below BA.out)
    have TA2 := Lib.hid (TT2.out.below BA.out)
    have RA := Lib.hid (R0.out.below' BA.out)
    clear t1 hb BA TT1 TT2 R0 BB G1
    have hsz2 : w.heap.size < w2.heap.size := RA.out.lt
    by_cases hg : Nat.gcd n d = 1
    ·have HGG := Lib.hid hg
     clear hg
     have VG1 : Hid (NatAt w2 vg 1) := Lib.hid (HGG.out ▸ VG.out)
     go_wp2_with fail
     refine (oneT VG1.out).mono ?_
     rintro e w3 ⟨hw3, rfl⟩
     cases hw3
     have U1 : Hid (NatAt w2 (.slice A1 m1 c1) (n / Nat.gcd n d)) := Lib.hid (by rw [HGG.out, Nat.div_one]; exact TA1.out)
     have U2 : Hid (NatAt w2 v2 (d / Nat.gcd n d)) := Lib.hid (by rw [HGG.out, Nat.div_one]; exact TA2.out)
     have UB := BB2
     have UR := RA
     obtain ⟨Wf, hWf⟩ : ∃ Wf, Wf = w2 := ⟨_, rfl⟩
     rw [← hWf] at U1 U2 UB UR ⊢
     clear hWf
     have hszf : w.heap.size < Wf.heap.size := UR.out.lt
     have UQ : Hid (n / Nat.gcd n d < 2 ^ k) := Lib.hid (Nat.lt_of_le_of_lt (Nat.div_le_self _ _) QN.out)
     have UQ2 : Hid (d / Nat.gcd n d < 2 ^ k) := Lib.hid (Nat.lt_of_le_of_lt (Nat.div_le_self _ _) QD.out)
     go_wp2_with (at_builtin; refine wpList_dup_nat rfl _ _ rfl rfl _ rfl _ k U1.out UQ.out (by omega) ?_)
     intro An mn cn wn n1 n2 n3
     have N1 := Lib.hid n1
     have N2 := Lib.hid n2
     have UB2 := Lib.hid (UB.out.trans (n3.mono (by omega)))
     have UR2 := Lib.hid (UR.out.below' n3)
     have V2 := Lib.hid (U2.out.below n3)
     have hszn : Wf.heap.size ≤ wn.heap.size := n3.size
     clear n1 n2 n3
     go_wp2_with fail
     obtain ⟨wb, hwb, O0, OB, Ohs⟩ := box1 wn 40 [.bool neg, .slice An mn cn, .slice none 0 0]
     rw [← hwb]
     clear hwb
     have N3 := Lib.hid (N1.out.below OB.out)
     have V3 := Lib.hid (V2.out.below OB.out)
     have UR3 := Lib.hid (UR2.out.below' OB.out)
     have UB3 := Lib.hid (UB2.out.trans (OB.out.mono (by omega)))
     have hO : wn.heap.size ≠ w.heap.size := by omega
     have hF := N2.out.mono (show w.heap.size + 1 ≤ Wf.heap.size by omega)
     have HF := Lib.hid hF
     clear hF
     by_cases hd2 : d / Nat.gcd n d = 1
     ·have V4 : Hid (NatAt wb v2 1) := Lib.hid (by rw [← hd2]; exact V3.out)
      have HD2 := Lib.hid hd2
      clear hd2
      obtain ⟨r0, r1, r2, z0, z1, z2⟩ := UR3.out.three
      obtain ⟨o0, o1, o2, y0, y1, y2⟩ := O0.out.three
      refine (oneT V4.out).mono ?_
      rintro e w5 ⟨hw5, rfl⟩
      cases hw5
      go_wp2_with fail
      refine bodyPost_ret (v := .agg #[.bool neg, .slice An mn cn, .slice none 0 0]) (by simp [results, Tryz.results94, go_sem, r0, r1, r2]) rfl ⟨_, rfl, CanNew.of_parts hn0 hd0 (N3.out.box3 HF.out _ _ _) (by rw [if_pos HD2.out]; exact NatAt.nil_ _) (HF.out.mono (by omega)) (From.nil_ _), below_box3 UB3.out (Nat.le_refl _) _ _ _⟩
     ·have HD2 := Lib.hid hd2
      clear hd2
      refine (oneF V3.out HD2.out).mono ?_
      rintro e w5 ⟨hw5, rfl⟩
      cases hw5
      obtain ⟨o0, o1, o2, y0, y1, y2⟩ := O0.out.three
      go_wp2_with (at_builtin; refine wpList_dup_nat rfl _ _ rfl rfl _ rfl _ k V3.out UQ2.out (by omega) ?_)
      intro Ad md cd wd n1 n2 n3
      have M1 := Lib.hid n1
      have M2 := Lib.hid n2
      have N4 := Lib.hid (N3.out.below n3)
      have UB4 := Lib.hid (UB3.out.trans (n3.mono (by omega)))
      have UR4 := Lib.hid (UR3.out.below' n3)
      have O4 := Lib.hid (O0.out.below' n3)
      clear n1 n2 n3 o0 o1 o2 y0 y1 y2
      have hOs : wn.heap.size < wb.heap.size := O0.out.lt
      obtain ⟨r0, r1, r2, z0, z1, z2⟩ := UR4.out.three
      obtain ⟨o0, o1, o2, y0, y1, y2⟩ := O4.out.three
      go_wp2_with fail
      refine bodyPost_ret (v := .agg #[.bool neg, .slice An mn cn, .slice Ad md cd]) (by simp [results, Tryz.results94, go_sem, r0, r1, r2]) rfl ⟨_, rfl, CanNew.of_parts hn0 hd0 ?_ ?_ (HF.out.mono (by omega)) (M2.out.mono (by omega)), below_box3 (UB4.out.setCell (p := ⟨wn.heap.size, 2, none⟩) (by show w.heap.size ≤ wn.heap.size; omega) _) (Nat.le_refl _) _ _ _⟩
      ·exact (N4.out.setOff (p := ⟨wn.heap.size, 2, none⟩) (N1.out.off (Nat.le_refl _)) _).box3 HF.out _ _ _
      ·rw [if_neg HD2.out]
       exact (M1.out.setFar (p := ⟨wn.heap.size, 2, none⟩) M2.out hOs _).box3 (M2.out.mono (by omega)) _ _ _
    ·have HGG := Lib.hid hg
     clear hg
     have HG0 : Hid (0 < Nat.gcd n d) := Lib.hid (Nat.gcd_pos_of_pos_left _ hn0)
     go_wp2_with fail
     refine (oneF VG.out HGG.out).mono ?_
     rintro e w3 ⟨hw3, rfl⟩
     cases hw3
     go_wp2_with fail
     refine (divideR w2 _ vg n (Nat.gcd n d) k TA1.out VG.out QN.out QG.out hk HG0.out).mono ?_
     rintro e w3 ⟨vq, vr, rfl, q1, _, q3, _, _⟩
     have Q1 := Lib.hid q1
     have B3 := Lib.hid (BB2.out.trans (q3.mono (by omega)))
     have VG3 := Lib.hid (VG.out.below q3)
     have TA3 := Lib.hid (TA2.out.below q3)
     have RA3 := Lib.hid (RA.out.below' q3)
     have hs3 := q3.size
     clear q1 q3
     go_wp2_with fail
     refine (divideR w3 _ vg d (Nat.gcd n d) k TA3.out VG3.out QD.out QG.out hk HG0.out).mono ?_
     rintro e Wf ⟨v2, vr2, rfl, q1, _, q3, _, _⟩
     have U1 := Lib.hid (Q1.out.below q3)
     have U2 := Lib.hid q1
     have UB := Lib.hid (B3.out.trans (q3.mono (by omega)))
     have UR := Lib.hid (RA3.out.below' q3)
     clear q1 q3 TA1 TA2 RA VG VG3 TA3 RA3 Q1 B3 BB2
     have hszf : w.heap.size < Wf.heap.size := UR.out.lt
     have UQ : Hid (n / Nat.gcd n d < 2 ^ k) := Lib.hid (Nat.lt_of_le_of_lt (Nat.div_le_self _ _) QN.out)
     have UQ2 : Hid (d / Nat.gcd n d < 2 ^ k) := Lib.hid (Nat.lt_of_le_of_lt (Nat.div_le_self _ _) QD.out)
     go_wp2_with (at_builtin; refine wpList_dup_nat rfl _ _ rfl rfl _ rfl _ k U1.out UQ.out (by omega) ?_)
     intro An mn cn wn n1 n2 n3
     have N1 := Lib.hid n1
     have N2 := Lib.hid n2
     have UB2 := Lib.hid (UB.out.trans (n3.mono (by omega)))
     have UR2 := Lib.hid (UR.out.below' n3)
     have V2 := Lib.hid (U2.out.below n3)
     have hszn : Wf.heap.size ≤ wn.heap.size := n3.size
     clear n1 n2 n3
     go_wp2_with fail
     obtain ⟨wb, hwb, O0, OB, Ohs⟩ := box1 wn 40 [.bool neg, .slice An mn cn, .slice none 0 0]
     rw [← hwb]
     clear hwb
     have N3 := Lib.hid (N1.out.below OB.out)
     have V3 := Lib.hid (V2.out.below OB.out)
     have UR3 := Lib.hid (UR2.out.below' OB.out)
     have UB3 := Lib.hid (UB2.out.trans (OB.out.mono (by omega)))
     have hO : wn.heap.size ≠ w.heap.size := by omega
     have hF := N2.out.mono (show w.heap.size + 1 ≤ Wf.heap.size by omega)
     have HF := Lib.hid hF
     clear hF
     by_cases hd2 : d / Nat.gcd n d = 1
     ·have V4 : Hid (NatAt wb v2 1) := Lib.hid (by rw [← hd2]; exact V3.out)
      have HD2 := Lib.hid hd2
      clear hd2
      obtain ⟨r0, r1, r2, z0, z1, z2⟩ := UR3.out.three
      obtain ⟨o0, o1, o2, y0, y1, y2⟩ := O0.out.three
      refine (oneT V4.out).mono ?_
      rintro e w5 ⟨hw5, rfl⟩
      cases hw5
      go_wp2_with fail
      refine bodyPost_ret (v := .agg #[.bool neg, .slice An mn cn, .slice none 0 0]) (by simp [results, Tryz.results94, go_sem, r0, r1, r2]) rfl ⟨_, rfl, CanNew.of_parts hn0 hd0 (N3.out.box3 HF.out _ _ _) (by rw [if_pos HD2.out]; exact NatAt.nil_ _) (HF.out.mono (by omega)) (From.nil_ _), below_box3 UB3.out (Nat.le_refl _) _ _ _⟩
     ·have HD2 := Lib.hid hd2
      clear hd2
      refine (oneF V3.out HD2.out).mono ?_
      rintro e w5 ⟨hw5, rfl⟩
      cases hw5
      obtain ⟨o0, o1, o2, y0, y1, y2⟩ := O0.out.three
      go_wp2_with (at_builtin; refine wpList_dup_nat rfl _ _ rfl rfl _ rfl _ k V3.out UQ2.out (by omega) ?_)
      intro Ad md cd wd n1 n2 n3
      have M1 := Lib.hid n1
      have M2 := Lib.hid n2
      have N4 := Lib.hid (N3.out.below n3)
      have UB4 := Lib.hid (UB3.out.trans (n3.mono (by omega)))
      have UR4 := Lib.hid (UR3.out.below' n3)
      have O4 := Lib.hid (O0.out.below' n3)
      clear n1 n2 n3 o0 o1 o2 y0 y1 y2
      have hOs : wn.heap.size < wb.heap.size := O0.out.lt
      obtain ⟨r0, r1, r2, z0, z1, z2⟩ := UR4.out.three
      obtain ⟨o0, o1, o2, y0, y1, y2⟩ := O4.out.three
      go_wp2_with fail
      refine bodyPost_ret (v := .agg #[.bool neg, .slice An mn cn, .slice Ad md cd]) (by simp [results, Tryz.results94, go_sem, r0, r1, r2]) rfl ⟨_, rfl, CanNew.of_parts hn0 hd0 ?_ ?_ (HF.out.mono (by omega)) (M2.out.mono (by omega)), below_box3 (UB4.out.setCell (p := ⟨wn.heap.size, 2, none⟩) (by show w.heap.size ≤ wn.heap.size; omega) _) (Nat.le_refl _) _ _ _⟩
      ·exact (N4.out.setOff (p := ⟨wn.heap.size, 2, none⟩) (N1.out.off (Nat.le_refl _)) _).box3 HF.out _ _ _
      ·rw [if_neg HD2.out]
       exact (M1.out.setFar (p := ⟨wn.heap.size, 2, none⟩) M2.out hOs _).box3 (M2.out.mono (by omega)) _ _ _
   ·have HN1 : Hid (n = 1) := Lib.hid (by omega)
    have HGG : Hid (Nat.gcd n d = 1) := Lib.hid (by rw [HN1.out]; exact Nat.gcd_one_left d)
    have TN1 : Hid (NatAt W1 (.slice A1 m1 c1) 1) := Lib.hid (HN1.out ▸ TT1.out)
    clear hn1
    go_wp2_with fail
    refine (oneT (TN1.out.alloc _)).mono ?_
    rintro e w2 ⟨hw2, rfl⟩
    cases hw2
    go_wp2_with fail
    refine (oneT G1.out).mono ?_
    rintro e w2 ⟨hw2, rfl⟩
    cases hw2
    obtain ⟨Wf, hWf⟩ : ∃ Wf, Wf = W1.alloc (.cells #[.int .u32 1] 181) := ⟨_, rfl⟩
    have U1 : Hid (NatAt Wf (.slice A1 m1 c1) (n / Nat.gcd n d)) := Lib.hid (by rw [HGG.out, Nat.div_one, hWf]; exact TT1.out.alloc _)
    have U2 : Hid (NatAt Wf v2 (d / Nat.gcd n d)) := Lib.hid (by rw [HGG.out, Nat.div_one, hWf]; exact TT2.out.alloc _)
    have UB : Hid (Below w.heap.size w Wf) := Lib.hid (by rw [hWf]; exact BB.out.alloc (by omega) _)
    have UR : Hid (Blk Wf w.heap.size 40 [.bool false, .slice none 0 0, .slice none 0 0]) := Lib.hid (by rw [hWf]; exact R0.out.alloc _)
    rw [← hWf]
    clear hWf TT1 TT2 R0 BB G1
    have hszf : w.heap.size < Wf.heap.size := UR.out.lt
    have UQ : Hid (n / Nat.gcd n d < 2 ^ k) := Lib.hid (Nat.lt_of_le_of_lt (Nat.div_le_self _ _) QN.out)
    have UQ2 : Hid (d / Nat.gcd n d < 2 ^ k) := Lib.hid (Nat.lt_of_le_of_lt (Nat.div_le_self _ _) QD.out)
    go_wp2_with (at_builtin; refine wpList_dup_nat rfl _ _ rfl rfl _ rfl _ k U1.out UQ.out (by omega) ?_)
    intro An mn cn wn n1 n2 n3
    have N1 := Lib.hid n1
    have N2 := Lib.hid n2
    have UB2 := Lib.hid (UB.out.trans (n3.mono (by omega)))
    have UR2 := Lib.hid (UR.out.below' n3)
    have V2 := Lib.hid (U2.out.below n3)
    have hszn : Wf.heap.size ≤ wn.heap.size := n3.size
    clear n1 n2 n3
    go_wp2_with fail
    obtain ⟨wb, hwb, O0, OB, Ohs⟩ := box1 wn 40 [.bool neg, .slice An mn cn, .slice none 0 0]
    rw [← hwb]
    clear hwb
    have N3 := Lib.hid (N1.out.below OB.out)
    have V3 := Lib.hid (V2.out.below OB.out)
    have UR3 := Lib.hid (UR2.out.below' OB.out)
    have UB3 := Lib.hid (UB2.out.trans (OB.out.mono (by omega)))
    have hO : wn.heap.size ≠ w.heap.size := by omega
    have hF := N2.out.mono (show w.heap.size + 1 ≤ Wf.heap.size by omega)
    have HF := Lib.hid hF
    clear hF
    by_cases hd2 : d / Nat.gcd n d = 1
    ·have V4 : Hid (NatAt wb v2 1) := Lib.hid (by rw [← hd2]; exact V3.out)
     have HD2 := Lib.hid hd2
     clear hd2
     obtain ⟨r0, r1, r2, z0, z1, z2⟩ := UR3.out.three
     obtain ⟨o0, o1, o2, y0, y1, y2⟩ := O0.out.three
     refine (oneT V4.out).mono ?_
     rintro e w5 ⟨hw5, rfl⟩
     cases hw5
     go_wp2_with fail
     refine bodyPost_ret (v := .agg #[.bool neg, .slice An mn cn, .slice none 0 0]) (by simp [results, Tryz.results94, go_sem, r0, r1, r2]) rfl ⟨_, rfl, CanNew.of_parts hn0 hd0 (N3.out.box3 HF.out _ _ _) (by rw [if_pos HD2.out]; exact NatAt.nil_ _) (HF.out.mono (by omega)) (From.nil_ _), below_box3 UB3.out (Nat.le_refl _) _ _ _⟩
    ·have HD2 := Lib.hid hd2
     clear hd2
     refine (oneF V3.out HD2.out).mono ?_
     rintro e w5 ⟨hw5, rfl⟩
     cases hw5
     obtain ⟨o0, o1, o2, y0, y1, y2⟩ := O0.out.three
     go_wp2_with (at_builtin; refine wpList_dup_nat rfl _ _ rfl rfl _ rfl _ k V3.out UQ2.out (by omega) ?_)
     intro Ad md cd wd n1 n2 n3
     have M1 := Lib.hid n1
     have M2 := Lib.hid n2
     have N4 := Lib.hid (N3.out.below n3)
     have UB4 := Lib.hid (UB3.out.trans (n3.mono (by omega)))
     have UR4 := Lib.hid (UR3.out.below' n3)
     have O4 := Lib.hid (O0.out.below' n3)
     clear n1 n2 n3 o0 o1 o2 y0 y1 y2
     have hOs : wn.heap.size < wb.heap.size := O0.out.lt
     obtain ⟨r0, r1, r2, z0, z1, z2⟩ := UR4.out.three
     obtain ⟨o0, o1, o2, y0, y1, y2⟩ := O4.out.three
     go_wp2_with fail
     refine bodyPost_ret (v := .agg #[.bool neg, .slice An mn cn, .slice Ad md cd]) (by simp [results, Tryz.results94, go_sem, r0, r1, r2]) rfl ⟨_, rfl, CanNew.of_parts hn0 hd0 ?_ ?_ (HF.out.mono (by omega)) (M2.out.mono (by omega)), below_box3 (UB4.out.setCell (p := ⟨wn.heap.size, 2, none⟩) (by show w.heap.size ≤ wn.heap.size; omega) _) (Nat.le_refl _) _ _ _⟩
     ·exact (N4.out.setOff (p := ⟨wn.heap.size, 2, none⟩) (N1.out.off (Nat.le_refl _)) _).box3 HF.out _ _ _
     ·rw [if_neg HD2.out]
      exact (M1.out.setFar (p := ⟨wn.heap.size, 2, none⟩) M2.out hOs _).box3 (M2.out.mono (by omega)) _ _ _
  ·have HG : Hid (Nat.gcd n d = 1 ∧ d = 1) := Lib.hid (by rw [show d = 1 by omega]; exact ⟨Nat.gcd_one_right n, rfl⟩)
   have TD : Hid (NatAt W1 v2 1) := Lib.hid (HG.out.2 ▸ TT2.out)
   have HGG : Hid (Nat.gcd n d = 1) := Lib.hid HG.out.1
   go_wp2_with fail
   refine (oneT (TD.out.alloc _)).mono ?_
   rintro e w2 ⟨hw2, rfl⟩
   cases hw2
   clear TD HG hd1
   go_wp2_with fail
   refine (oneT G1.out).mono ?_
   rintro e w2 ⟨hw2, rfl⟩
   cases hw2
   obtain ⟨Wf, hWf⟩ : ∃ Wf, Wf = W1.alloc (.cells #[.int .u32 1] 181) := ⟨_, rfl⟩
   have U1 : Hid (NatAt Wf (.slice A1 m1 c1) (n / Nat.gcd n d)) := Lib.hid (by rw [HGG.out, Nat.div_one, hWf]; exact TT1.out.alloc _)
   have U2 : Hid (NatAt Wf v2 (d / Nat.gcd n d)) := Lib.hid (by rw [HGG.out, Nat.div_one, hWf]; exact TT2.out.alloc _)
   have UB : Hid (Below w.heap.size w Wf) := Lib.hid (by rw [hWf]; exact BB.out.alloc (by omega) _)
   have UR : Hid (Blk Wf w.heap.size 40 [.bool false, .slice none 0 0, .slice none 0 0]) := Lib.hid (by rw [hWf]; exact R0.out.alloc _)
   rw [← hWf]
   clear hWf TT1 TT2 R0 BB G1
   have hszf : w.heap.size < Wf.heap.size := UR.out.lt
   have UQ : Hid (n / Nat.gcd n d < 2 ^ k) := Lib.hid (Nat.lt_of_le_of_lt (Nat.div_le_self _ _) QN.out)
   have UQ2 : Hid (d / Nat.gcd n d < 2 ^ k) := Lib.hid (Nat.lt_of_le_of_lt (Nat.div_le_self _ _) QD.out)
   go_wp2_with (at_builtin; refine wpList_dup_nat rfl _ _ rfl rfl _ rfl _ k U1.out UQ.out (by omega) ?_)
   intro An mn cn wn n1 n2 n3
   have N1 := Lib.hid n1
   have N2 := Lib.hid n2
   have UB2 := Lib.hid (UB.out.trans (n3.mono (by omega)))
   have UR2 := Lib.hid (UR.out.below' n3)
   have V2 := Lib.hid (U2.out.below n3)
   have hszn : Wf.heap.size ≤ wn.heap.size := n3.size
   clear n1 n2 n3
   go_wp2_with fail
   obtain ⟨wb, hwb, O0, OB, Ohs⟩ := box1 wn 40 [.bool neg, .slice An mn cn, .slice none 0 0]
   rw [← hwb]
   clear hwb
   have N3 := Lib.hid (N1.out.below OB.out)
   have V3 := Lib.hid (V2.out.below OB.out)
   have UR3 := Lib.hid (UR2.out.below' OB.out)
   have UB3 := Lib.hid (UB2.out.trans (OB.out.mono (by omega)))
   have hO : wn.heap.size ≠ w.heap.size := by omega
   have hF := N2.out.mono (show w.heap.size + 1 ≤ Wf.heap.size by omega)
   have HF := Lib.hid hF
   clear hF
   by_cases hd2 : d / Nat.gcd n d = 1
   ·have V4 : Hid (NatAt wb v2 1) := Lib.hid (by rw [← hd2]; exact V3.out)
    have HD2 := Lib.hid hd2
    clear hd2
    obtain ⟨r0, r1, r2, z0, z1, z2⟩ := UR3.out.three
    obtain ⟨o0, o1, o2, y0, y1, y2⟩ := O0.out.three
    refine (oneT V4.out).mono ?_
    rintro e w5 ⟨hw5, rfl⟩
    cases hw5
    go_wp2_with fail
    refine bodyPost_ret (v := .agg #[.bool neg, .slice An mn cn, .slice none 0 0]) (by simp [results, Tryz.results94, go_sem, r0, r1, r2]) rfl ⟨_, rfl, CanNew.of_parts hn0 hd0 (N3.out.box3 HF.out _ _ _) (by rw [if_pos HD2.out]; exact NatAt.nil_ _) (HF.out.mono (by omega)) (From.nil_ _), below_box3 UB3.out (Nat.le_refl _) _ _ _⟩
   ·have HD2 := Lib.hid hd2
    clear hd2
    refine (oneF V3.out HD2.out).mono ?_
    rintro e w5 ⟨hw5, rfl⟩
    cases hw5
    obtain ⟨o0, o1, o2, y0, y1, y2⟩ := O0.out.three
    go_wp2_with (at_builtin; refine wpList_dup_nat rfl _ _ rfl rfl _ rfl _ k V3.out UQ2.out (by omega) ?_)
    intro Ad md cd wd n1 n2 n3
    have M1 := Lib.hid n1
    have M2 := Lib.hid n2
    have N4 := Lib.hid (N3.out.below n3)
    have UB4 := Lib.hid (UB3.out.trans (n3.mono (by omega)))
    have UR4 := Lib.hid (UR3.out.below' n3)
    have O4 := Lib.hid (O0.out.below' n3)
    clear n1 n2 n3 o0 o1 o2 y0 y1 y2
    have hOs : wn.heap.size < wb.heap.size := O0.out.lt
    obtain ⟨r0, r1, r2, z0, z1, z2⟩ := UR4.out.three
    obtain ⟨o0, o1, o2, y0, y1, y2⟩ := O4.out.three
    go_wp2_with fail
    refine bodyPost_ret (v := .agg #[.bool neg, .slice An mn cn, .slice Ad md cd]) (by simp [results, Tryz.results94, go_sem, r0, r1, r2]) rfl ⟨_, rfl, CanNew.of_parts hn0 hd0 ?_ ?_ (HF.out.mono (by omega)) (M2.out.mono (by omega)), below_box3 (UB4.out.setCell (p := ⟨wn.heap.size, 2, none⟩) (by show w.heap.size ≤ wn.heap.size; omega) _) (Nat.le_refl _) _ _ _⟩
    ·exact (N4.out.setOff (p := ⟨wn.heap.size, 2, none⟩) (N1.out.off (Nat.le_refl _)) _).box3 HF.out _ _ _
    ·rw [if_neg HD2.out]
     exact (M1.out.setFar (p := ⟨wn.heap.size, 2, none⟩) M2.out hOs _).box3 (M2.out.mono (by omega)) _ _ _
end Go.Proofs.YtjebfdfkjlkifaaGreat
