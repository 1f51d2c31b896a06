/- Lemmas on the way: Ref13. -/
import Derived.Test.YtlhankdkhiilkaaGreatI12
set_option linter.unusedSimpArgs false
set_option linter.unusedVariables false
set_option linter.unusedSectionVars false
set_option linter.unnecessarySimpa false
namespace Go.Proofs.YtlhankdkhiilkaaGreat
open Go.RowKit
theorem wpList_dup_nat {w : World} {ops : Array Oper} {rest : List Oper} {o : Oper} {a : Act} {Q : Exit → Act → World → Prop} (hgd : o.guard = none) (s x : Operand)
  (ho : o.op = .call { callee := .builtin .append, args := #[s, x], argTypes := #[25, 25] }) (hs : a.eval s = .slice none 0 0) (y : Value) (hx : a.eval x = y) (n k : Nat) (hn : NatAt w y n) (ln : n < 2 ^ k) (hk : k ≤ 70368744177664)
  (h : ∀ A m c w', NatAt w' (.slice A m c) n → From (.slice A m c) w.heap.size → Below w.heap.size w w' → wpList Tryz.prog ops Q rest (a.put o.dst (.slice A m c)) w') : wpList Tryz.prog ops Q (o :: rest) a w := by
 obtain ⟨i0, hi, hz0, hz1, hz2⟩ := info_parts infoU32
 obtain ⟨l, d, t, rfl⟩ := hn
 have ll := t.length_le ln
 refine wpList_append_sl hgd s x 25 ho w.heap.size 154 i0 (.int .u32 0) 1 4 Tryz.underlying25 hi hz0 hz1 hz2 rfl (by decide) _ 0 [] hs (World.ownsRow_nil ..) y l.length (l.map dg) hx d.1 (dg_one l) (by unfold maxLen; omega) (by omega) (Nat.le_refl _) ?_
 intro v' w' hown hgr _
 have hf := From.of_own hown
 have hN : NatAt w' v' (val l) := ⟨l, ⟨by have := Sl.of_own hown; simpa using this, d.2⟩, t, rfl⟩
 obtain ⟨A, m, c, rfl, _⟩ := hN.len
 exact h A m c w' hN hf ((Below.refl _ w).grown hgr (Nat.le_refl _) (by simp [Value.ownBlock]))

theorem oneT {w : World} {v : Value} (h : NatAt w v 1) : Calls Tryz.prog 101 #[v] w fun e w' => w' = w ∧ e = .returned (.bool true) := oneR w v 1 h
theorem oneF {w : World} {v : Value} {a : Nat} (h : NatAt w v a) (h1 : a ≠ 1) : Calls Tryz.prog 101 #[v] w fun e w' => w' = w ∧ e = .returned (.bool false) := by
 have := oneR w v a h
 rwa [decide_eq_false h1] at this

theorem CanNew.of_parts {B : Nat} {w : World} {neg : Bool} {vn vd : Value} {n d : Nat} (n0 : 0 < n) (d0 : 0 < d) (h1 : NatAt w vn (n / Nat.gcd n d)) (h2 : NatAt w vd (if d / Nat.gcd n d = 1 then 0 else d / Nat.gcd n d)) (h3 : From vn B) (h4 : From vd B) :
  CanNew B w (.agg #[.bool neg, vn, vd]) (mkRat (sgn neg n) d) := by
 obtain ⟨r1, r2⟩ := red neg n d d0
 have hg : 0 < n / Nat.gcd n d := Nat.div_pos (Nat.gcd_le_left _ n0) (Nat.gcd_pos_of_pos_left _ n0)
 refine ⟨vn, vd, ?_, ?_, ?_, h3, h4⟩
 ·rw [isNeg_sgn r1, decide_eq_true hg, Bool.and_true]
 ·rw [r1, sgn_natAbs]; exact h1
 ·rw [r2]; exact h2

theorem CanNew.zero (B : Nat) (w : World) (neg : Bool) (d : Nat) : CanNew B w (.agg #[.bool false, .slice none 0 0, .slice none 0 0]) (mkRat (sgn neg 0) d) := by
 have e : mkRat (sgn neg 0) d = 0 := by cases neg <;> simp [sgn]
 rw [e]
 exact ⟨_, _, by simp [isNeg], NatAt.nil_ _, by simpa using NatAt.nil_ _, From.nil_ _, From.nil_ _⟩

set_option maxRecDepth 1000000 in
set_option maxHeartbeats 1000000 in
theorem make1R (w : World) (neg : Bool) (vn vd : Value) (ln ld : List Nat) (k : Nat) (hn : DigAt w vn ln) (hd : DigAt w vd ld) (qn : val ln < 2 ^ k) (qd : val ld < 2 ^ k) (h0 : 0 < k) (hk : k ≤ 17592186044416) :
  Calls Tryz.prog 61 #[.bool neg, vn, vd] w fun e w' => ∃ v', e = .returned v' ∧ CanNew w.heap.size w' v' (fracVal neg (val ln) (val ld)) ∧ Below w.heap.size w w' := by
 have H1 := Lib.hid hn
 have H2 := Lib.hid hd
 clear hn hd
 obtain ⟨n, hN⟩ : ∃ n, val ln = n := ⟨_, rfl⟩
 obtain ⟨d0, hD0⟩ : ∃ d, val ld = d := ⟨_, rfl⟩
 rw [hN, hD0]
 rw [hN] at qn
 rw [hD0] at qd
 have HN := Lib.hid hN
 have HD0 := Lib.hid hD0
 clear hN hD0
 unfold fracVal
 obtain ⟨d, hD⟩ : ∃ d, (if d0 = 0 then 1 else d0) = d := ⟨_, rfl⟩
 rw [hD]
 have QN := Lib.hid qn
 have QD : Hid (d < 2 ^ k) := Lib.hid (by rw [← hD]; split; exact Nat.one_lt_two_pow (by omega); exact qd)
 have hd0 : 0 < d := by rw [← hD]; split <;> omega
 have HD := Lib.hid hD
 clear qn qd hD
 go_enter Tryz.func61, Tryz.ntmps61
 go_wp2_with fail
 obtain ⟨W, hW, P0, PB, Phs⟩ := box1 w 27 [.bool false, .slice none 0 0, .slice none 0 0]
 rw [← hW]
 clear hW
 refine (trimR W vn ln (H1.out.below PB.out)).mono ?_
 rintro e w1 ⟨hw1, v1, rfl, t1, _, _⟩
 cases hw1
 have T1 : Hid (NatAt W v1 n) := Lib.hid (HN.out ▸ t1)
 clear t1
 go_wp2_with fail
 refine (trimR W vd ld (H2.out.below PB.out)).mono ?_
 rintro e w1 ⟨hw1, v2, rfl, t1, _, _⟩
 cases hw1
 have T2 : Hid (NatAt W v2 d0) := Lib.hid (HD0.out ▸ t1)
 clear t1
 obtain ⟨A1, m1, c1, rfl, hm1, hp1⟩ := T1.out.len
 obtain ⟨A2, m2, c2, rfl, hm2, hp2⟩ := T2.out.len
 obtain ⟨r0, r1, r2, z0, z1, z2⟩ := P0.out.three
 rcases Nat.eq_zero_or_pos n with hz | hn0
 ·subst hz
  obtain rfl : m1 = 0 := by omega
  go_wp2_with fail
  refine bodyPost_ret (v := .agg #[.bool false, .slice none 0 0, .slice none 0 0]) (by simp [results, Tryz.results61, go_sem, r0, r1, r2]) rfl ⟨_, rfl, CanNew.zero _ _ _ _, below_box3 PB.out (Nat.le_refl _) _ _ _⟩
 have hm0 : ((m1 : Int) == 0) = false := by simp; omega
 clear r0 r1 r2 z0 z1 z2
 go_upto_if 19 with fail
 go_cut [2] (fun dv wc => ∃ v2, v2 = dv ∧ Hid (NatAt wc v2 d) ∧ Hid (NatAt wc (.slice A1 m1 c1) n) ∧ Hid (Below w.heap.size w wc) ∧ Hid (Blk wc w.heap.size 27 [.bool false, .slice none 0 0, .slice none 0 0]))
 case first =>
  rcases Nat.eq_zero_or_pos d0 with hz | hz
  ·obtain rfl : m2 = 0 := by omega
   have HD1 : Hid (d = 1) := Lib.hid (by rw [← HD.out, if_pos hz])
   go_wp2_with fail
   go_meet
   exact ⟨_, rfl, Lib.hid (by rw [HD1.out]; exact NatAt.digit1 W 154 1 (by omega) (by omega)), Lib.hid (T1.out.alloc _), Lib.hid (PB.out.alloc (by omega) _), Lib.hid (P0.out.alloc _)⟩
  ·have hm3 : ((m2 : Int) == 0) = false := by simp; omega
   have TT2 : Hid (NatAt W (.slice A2 m2 c2) d) := Lib.hid (by rw [← HD.out, if_neg (by omega)]; exact T2.out)
   go_wp2_with fail
   go_meet
   exact ⟨_, rfl, TT2, T1, PB, P0⟩
 case rest =>
  obtain ⟨v2, rfl, TT2, TT1, BB, R0⟩ := hcut
  clear T1 T2 PB P0 Phs
  obtain ⟨W1, rfl⟩ : ∃ W1, W1 = wc := ⟨_, rfl⟩
  have hsz : w.heap.size < W1.heap.size := R0.out.lt
  have QG : Hid (Nat.gcd n d < 2 ^ k) := Lib.hid (Nat.lt_of_le_of_lt (Nat.gcd_le_left d hn0) QN.out)
  go_upto_region 7 with fail
  obtain ⟨W2, hW2⟩ : ∃ W2, W2 = W1.alloc (.cells #[.int .u32 1] 154) := ⟨_, rfl⟩
  rw [← hW2]
  have GB : Hid (Below W1.heap.size W1 W2) := Lib.hid (by rw [hW2]; exact (Below.refl _ W1).alloc (Nat.le_refl _) _)
  have G1 : Hid (NatAt W2 (.slice (some ⟨W1.heap.size, 0, none⟩) 1 1) 1) := Lib.hid (by rw [hW2]; exact NatAt.digit1 W1 154 1 (by omega) (by omega))
  have X1 := Lib.hid (TT1.out.below GB.out)
  have X2 := Lib.hid (TT2.out.below GB.out)
  have XB := Lib.hid (BB.out.trans (GB.out.mono BB.out.size))
  have XR := Lib.hid (R0.out.below' GB.out)
  clear TT1 TT2 BB R0 GB hW2
  obtain ⟨g0, hg0⟩ : ∃ v, v = Value.slice (some ⟨W1.heap.size, 0, none⟩) 1 1 := ⟨_, rfl⟩
  rw [← hg0] at G1 ⊢
  clear hg0
  have hsz1 : w.heap.size < W2.heap.size := XR.out.lt
  obtain ⟨tt, htt⟩ : ∃ b, (decide (d ≠ 1) && decide (n ≠ 1)) = b := ⟨_, rfl⟩
  have HTT := Lib.hid htt
  clear htt
  go_cut [29] (fun t wc => t = .bool tt ∧ wc = W2)
  case first =>
   by_cases hd1 : d = 1
   ·have TD : Hid (NatAt W2 v2 1) := Lib.hid (by rw [← hd1]; exact X2.out)
    have HT2 : Hid (false = tt) := Lib.hid (by rw [← HTT.out, decide_eq_false (by omega), Bool.false_and])
    clear hd1
    go_wp2_with fail
    refine (oneT TD.out).mono ?_
    rintro e w2 ⟨hw2, rfl⟩
    cases hw2
    go_wp2_with fail
    go_meet
    exact ⟨by rw [← HT2.out], rfl⟩
   ·have HD1 := Lib.hid hd1
    clear hd1
    go_wp2_with fail
    refine (oneF X2.out HD1.out).mono ?_
    rintro e w2 ⟨hw2, rfl⟩
    cases hw2
    by_cases hn1 : n = 1
    ·have TN : Hid (NatAt W2 (.slice A1 m1 c1) 1) := Lib.hid (by rw [← hn1]; exact X1.out)
     have HT2 : Hid (false = tt) := Lib.hid (by rw [← HTT.out, decide_eq_false (p := n ≠ 1) (by omega), Bool.and_false])
     have HN1 := Lib.hid hn1
     clear hn1
     go_wp2_with fail
     refine (oneT TN.out).mono ?_
     rintro e w2 ⟨hw2, rfl⟩
     cases hw2
     go_wp2_with fail
     go_meet
     exact ⟨by rw [← HT2.out], rfl⟩
    ·have HT2 : Hid (true = tt) := Lib.hid (by rw [← HTT.out, decide_eq_true HD1.out, decide_eq_true hn1]; rfl)
     have HN1 := Lib.hid hn1
     clear hn1
     go_wp2_with fail
     refine (oneF X1.out HN1.out).mono ?_
     rintro e w2 ⟨hw2, rfl⟩
     cases hw2
     go_wp2_with fail
     go_meet
     exact ⟨by rw [← HT2.out], rfl⟩
  case rest =>
   obtain ⟨rfl, rfl⟩ := hcut
   go_upto_if 29 with fail
   go_cut [7] (fun gv wd => ∃ vg, vg = gv ∧ Hid (NatAt wd vg (Nat.gcd n d)) ∧ Hid (NatAt wd v2 d) ∧ Hid (NatAt wd (.slice A1 m1 c1) n) ∧ Hid (Below w.heap.size w wd) ∧ Hid (Blk wd w.heap.size 27 [.bool false, .slice none 0 0, .slice none 0 0]))
   case first =>
    cases tt with
    | false =>
     have HGG : Hid (Nat.gcd n d = 1) := Lib.hid (by
      have h1 := HTT.out
      rw [Bool.and_eq_false_iff, decide_eq_false_iff_not, decide_eq_false_iff_not, Decidable.not_not, Decidable.not_not] at h1
      rcases h1 with h1 | h1
      ·rw [h1]; exact Nat.gcd_one_right n
      ·rw [h1]; exact Nat.gcd_one_left d)
     go_wp2_with fail
     go_meet
     exact ⟨_, rfl, Lib.hid (by rw [HGG.out]; exact G1.out), X2, X1, XB, XR⟩
    | true =>
     go_wp2_with fail
     refine (gcdR _ _ _ n d k X1.out X2.out QN.out QD.out (by omega) (by omega) (by omega)).mono ?_
     rintro e w2 ⟨vg, rfl, t1, hb⟩
     have Y1 := Lib.hid (X1.out.below hb)
     have Y2 := Lib.hid (X2.out.below hb)
     have YB := Lib.hid (XB.out.trans (hb.mono XB.out.size))
     have YR := Lib.hid (XR.out.below' hb)
     have YG := Lib.hid t1
     clear t1 hb
     go_wp2_with fail
     go_meet
     exact ⟨_, rfl, YG, Y2, Y1, YB, YR⟩
   case rest =>
    obtain ⟨vg, rfl, VG, TA2, TA1, BB2, RA⟩ := hcut
    clear X1 X2 XB XR G1
    obtain ⟨w2, rfl⟩ : ∃ x, x = wc := ⟨_, rfl⟩
    have hsz2 : w.heap.size < w2.heap.size := RA.out.lt
    go_wp2_with fail
    refine (oneR w2 _ _ VG.out).mono ?_
    rintro e w3 ⟨hw3, rfl⟩
    cases hw3
    go_upto_if 35 with fail
    go_cut [1, 2] (fun nv dv we => ∃ v1 v3, v1 = nv ∧ v3 = dv ∧ Hid (NatAt we v1 (n / Nat.gcd n d)) ∧ Hid (NatAt we v3 (d / Nat.gcd n d)) ∧ Hid (Below w.heap.size w we) ∧ Hid (Blk we w.heap.size 27 [.bool false, .slice none 0 0, .slice none 0 0]))
    case first =>
     by_cases hg : Nat.gcd n d = 1
     ·have HGG := Lib.hid hg
      rw [decide_eq_true hg]
      clear hg
      go_wp2_with fail
      go_meet
      exact ⟨_, _, rfl, rfl, Lib.hid (by rw [HGG.out, Nat.div_one]; exact TA1.out), Lib.hid (by rw [HGG.out, Nat.div_one]; exact TA2.out), BB2, RA⟩
     ·have HG0 : Hid (0 < Nat.gcd n d) := Lib.hid (Nat.gcd_pos_of_pos_left _ hn0)
      rw [decide_eq_false hg]
      clear hg
      go_wp2_with fail
      refine (divideR w2 _ _ n (Nat.gcd n d) k TA1.out VG.out QN.out QG.out hk HG0.out).mono ?_
      rintro e w3 ⟨vq, vr, rfl, q1, _, q3, _, _⟩
      have Q1 := Lib.hid q1
      have B3 := Lib.hid (BB2.out.trans (q3.mono (by omega)))
      have VG3 := Lib.hid (VG.out.below q3)
      have TA3 := Lib.hid (TA2.out.below q3)
      have RA3 := Lib.hid (RA.out.below' q3)
      have hs3 := q3.size
      clear q1 q3
      go_wp2_with fail
      refine (divideR w3 _ _ d (Nat.gcd n d) k TA3.out VG3.out QD.out QG.out hk HG0.out).mono ?_
      rintro e Wf ⟨v4, vr2, rfl, q1, _, q3, _, _⟩
      have U1 := Lib.hid (Q1.out.below q3)
      have U2 := Lib.hid q1
      have UB := Lib.hid (B3.out.trans (q3.mono (by omega)))
      have UR := Lib.hid (RA3.out.below' q3)
      clear q1 q3
      go_wp2_with fail
      go_meet
      exact ⟨_, _, rfl, rfl, U1, U2, UB, UR⟩
    case rest =>
     obtain ⟨v1, v2, rfl, rfl, U1, U2, UB, UR⟩ := hcut
     clear VG TA2 TA1 BB2 RA
     obtain ⟨Wf, rfl⟩ : ∃ x, x = wc := ⟨_, rfl⟩
     have hszf : w.heap.size < Wf.heap.size := UR.out.lt
     have UQ : Hid (n / Nat.gcd n d < 2 ^ k) := Lib.hid (Nat.lt_of_le_of_lt (Nat.div_le_self _ _) QN.out)
     have UQ2 : Hid (d / Nat.gcd n d < 2 ^ k) := Lib.hid (Nat.lt_of_le_of_lt (Nat.div_le_self _ _) QD.out)
     go_wp2_with (at_builtin; refine wpList_dup_nat rfl _ _ rfl rfl _ rfl _ k U1.out UQ.out (by omega) ?_)
     intro An mn cn wn n1 n2 n3
     have N1 := Lib.hid n1
     have N2 := Lib.hid n2
     have UB2 := Lib.hid (UB.out.trans (n3.mono (by omega)))
     have UR2 := Lib.hid (UR.out.below' n3)
     have V2 := Lib.hid (U2.out.below n3)
     have hszn : Wf.heap.size ≤ wn.heap.size := n3.size
     clear n1 n2 n3
     go_wp2_with fail
     obtain ⟨wb, hwb, O0, OB, Ohs⟩ := box1 wn 27 [.bool neg, .slice An mn cn, .slice none 0 0]
     rw [← hwb]
     clear hwb
     have N3 := Lib.hid (N1.out.below OB.out)
     have V3 := Lib.hid (V2.out.below OB.out)
     have UR3 := Lib.hid (UR2.out.below' OB.out)
     have UB3 := Lib.hid (UB2.out.trans (OB.out.mono (by omega)))
     have hO : wn.heap.size ≠ w.heap.size := by omega
     have hF := N2.out.mono (show w.heap.size + 1 ≤ Wf.heap.size by omega)
     have HF := Lib.hid hF
     clear hF
     by_cases hd2 : d / Nat.gcd n d = 1
     ·have V4 : Hid (NatAt wb v2 1) := Lib.hid (by rw [← hd2]; exact V3.out)
      have HD2 := Lib.hid hd2
      clear hd2
      obtain ⟨r0, r1, r2, z0, z1, z2⟩ := UR3.out.three
      obtain ⟨o0, o1, o2, y0, y1, y2⟩ := O0.out.three
      refine (oneT V4.out).mono ?_
      rintro e w5 ⟨hw5, rfl⟩
      cases hw5
      go_wp2_with fail
      refine bodyPost_ret (v := .agg #[.bool neg, .slice An mn cn, .slice none 0 0]) (by simp [results, Tryz.results61, go_sem, r0, r1, r2]) rfl ⟨_, rfl, CanNew.of_parts hn0 hd0 (N3.out.box3 HF.out _ _ _) (by rw [if_pos HD2.out]; exact NatAt.nil_ _) (HF.out.mono (by omega)) (From.nil_ _), below_box3 UB3.out (Nat.le_refl _) _ _ _⟩
     ·have HD2 := Lib.hid hd2
      clear hd2
      refine (oneF V3.out HD2.out).mono ?_
      rintro e w5 ⟨hw5, rfl⟩
      cases hw5
      obtain ⟨o0, o1, o2, y0, y1, y2⟩ := O0.out.three
      go_wp2_with (at_builtin; refine wpList_dup_nat rfl _ _ rfl rfl _ rfl _ k V3.out UQ2.out (by omega) ?_)
      intro Ad md cd wd n1 n2 n3
      have M1 := Lib.hid n1
      have M2 := Lib.hid n2
      have N4 := Lib.hid (N3.out.below n3)
      have UB4 := Lib.hid (UB3.out.trans (n3.mono (by omega)))
      have UR4 := Lib.hid (UR3.out.below' n3)
      have O4 := Lib.hid (O0.out.below' n3)
      clear n1 n2 n3 o0 o1 o2 y0 y1 y2
      have hOs : wn.heap.size < wb.heap.size := O0.out.lt
      obtain ⟨r0, r1, r2, z0, z1, z2⟩ := UR4.out.three
      obtain ⟨o0, o1, o2, y0, y1, y2⟩ := O4.out.three
      go_wp2_with fail
      refine bodyPost_ret (v := .agg #[.bool neg, .slice An mn cn, .slice Ad md cd]) (by simp [results, Tryz.results61, go_sem, r0, r1, r2]) rfl ⟨_, rfl, CanNew.of_parts hn0 hd0 ?_ ?_ (HF.out.mono (by omega)) (M2.out.mono (by omega)), below_box3 (UB4.out.setCell (p := ⟨wn.heap.size, 2, none⟩) (by show w.heap.size ≤ wn.heap.size; omega) _) (Nat.le_refl _) _ _ _⟩
      ·exact (N4.out.setOff (p := ⟨wn.heap.size, 2, none⟩) (N1.out.off (Nat.le_refl _)) _).box3 HF.out _ _ _
      ·rw [if_neg HD2.out]
       exact (M1.out.setFar (p := ⟨wn.heap.size, 2, none⟩) M2.out hOs _).box3 (M2.out.mono (by omega)) _ _ _
end Go.Proofs.YtlhankdkhiilkaaGreat
