/- Lemmas. -/
import Derived.Test.YtjebfdfkjlkifaaGreatK50
set_option linter.all false
set_option maxRecDepth 1000000
set_option maxHeartbeats 32000000
namespace Go.Proofs.YtjebfdfkjlkifaaGreat
open Go.RowKit
theorem vH (n v : Nat) (gs : List Gr) (s : Bool) (A A' : Option Addr) (m c m' c' : Nat) (Am : Option Addr) (ml cm : Nat) (mix : List Rat) (w : World) (Al : Option Addr) (nl cl : Nat) (hv : Value) (h : List Int) (hO : n <= 3) (hT : SmallT gs v) (hS : iw v (n + 1) gs) (hG : GramsAt w (.slice Al nl cl) gs) (hI : IntsAt w hv h) (hl : h.length = n) (hM : FracsAt 64 w (.slice Am ml cm) mix) (hml : mix.length = n + 2) :
  Calls Tryz.prog 43 #[aG ((n + 1 : Nat) : Int) v (.slice Al nl cl) 2 s A A' m c m' c' (.slice Am ml cm), hv] w (dj w v (dR (ap (n + 1) gs) v mix (n + 1) h)) := by
 have hv8 := hT.2.2.2
 have HMX := aH hM
 have HMR : Hd (∀ w' (Ah : Option Addr) (ch : Nat), Below w.heap.size w w' -> IntsAt w' (.slice Ah n ch) h -> Calls Tryz.prog 115 #[aG ((n + 1 : Nat) : Int) v (.slice Al nl cl) 2 s A A' m c m' c' (.slice Am ml cm), .slice Ah n ch] w' (dj w' v (dR (ap (n + 1) gs) v mix (n + 1) h))) := aH (fun w' Ah ch hb hi => vO w' (n + 1) v gs 2 s A A' m c m' c' Am ml cm mix ⟨by omega, by omega⟩ hT hS Al nl cl _ h (hG.below hb) hi (by omega) (hM.below hb) hml)
 have hTL : iw v (n + 1) gs /\ True := ⟨hS, trivial⟩
 have hlow : dE gs (n + 1 - n) = bV [] (cE gs) := by
  rw [show n + 1 - n = 0 + 1 by omega]
  rfl
 have hC : (fun x => tot 0 gs (h ++ [x])) = ap (n + 1) gs (n + 1) h := by
  funext x
  unfold ap
  rw [Nat.sub_self]
 obtain ⟨Ah, ch, rfl, hhc, hhm, _⟩ := hI.open_
 have hln : h.length = n := by omega
 rw [hln] at hI hhc ⊢
 have hnl : gs.length = nl := by
  obtain ⟨_, _, e, _⟩ := hG.open_
  injection e with _ e2
  exact e2.symm
 rw [show (((n + 1 : Nat) : Nat) : Int) = (n : Int) + 1 by omega] at HMR ⊢
 have HG := aH hG
 have HI := aH hI
 have HTL := aH hTL
 have HLOW := aH hlow
 have HC := aH hC
 have HLN := aH hln
 have HNL := aH hnl
 have HT := aH hT
 have HPT := aH (fun j => jE hTL.1 j)
 have n0 : (((n : Int) + 1) == 0) = false := by simpa using (show ¬ (n : Int) + 1 = 0 by omega)
 have v1 : IntKind.i64.wrap ((v : Int) + 1) = (v : Int) + 1 := iI _ (by omega)
 clear hG hI hTL hlow hC hT hS hl hln hnl hM
 unfold aG
 go_enter Tryz.func43, Tryz.ntmps43
 go_wp2_with (at_make; refine aD rfl _ _ rfl ((v : Int) + 1) (v + 1) rfl rfl (by omega) (by omega) ?_)
 obtain ⟨W, hW, P0, PB, Phs⟩ := aA w 43 [.int .i64 ((n : Int) + 1), .int .i64 v, .slice Al nl cl, .int .i64 2, .bool s, .slice A m c, .slice A' m' c', .slice Am ml cm]
 rw [<- hW]
 clear hW
 intro w1 hf1 hb1
 have F1 := aH hf1.arc
 have P1 := aH (P0.o.below hb1 (by omega))
 have B1 := aH (PB.o.trans (hb1.mono (by omega)))
 clear hf1 hb1 P0 PB
 obtain ⟨p0, p1, p2, p3, p4, p5, p6, p7⟩ := an P1.o
 go_wp2_with fail
 refine (mH w1 (n + 1) v (.slice Al nl cl) gs (.slice Ah n ch) h (HG.o.below B1.o) (HI.o.below B1.o) HTL.o.1.1 (by omega) hv8 (by rw [HLN.o])).mono ?_
 rw [HC.o]
 rintro e w2 ⟨cb, rfl, hcb, hct, hb2⟩
 obtain ⟨S, hS0⟩ : ∃ z, aM (ap (n + 1) gs (n + 1) h) v = z := ⟨_, rfl⟩
 rw [hS0]
 have HS := aH hS0
 have CT := aH hct
 have F2 := aH (F1.o.below hb2)
 have P2 := aH (P1.o.below' hb2)
 have B2 := aH (B1.o.trans (hb2.mono B1.o.size))
 have so : w.heap.size + 1 < w1.heap.size := F1.o.lt
 clear p0 p1 p2 p3 p4 p5 p6 p7 hb2 hct hS0 F1 P1 B1
 obtain ⟨p0, p1, p2, p3, p4, p5, p6, p7⟩ := an P2.o
 go_upto_region 17 with fail
 obtain ⟨W2, hW2, Q0, QB, Qhs⟩ := aA w2 43 [.int .i64 ((n : Int) + 1), .int .i64 v, .slice Al nl cl, .int .i64 2, .bool s, .slice A m c, .slice A' m' c', .slice Am ml cm]
 rw [<- hW2]
 clear hW2
 have F3 := aH (F2.o.below QB.o)
 have P3 := aH (P2.o.below' QB.o)
 have C3 : Hd (CntAt W2 cb v (ap (n + 1) gs (n + 1) h)) := aH (Blk.below' CT.o QB.o)
 have B3 := aH (B2.o.trans (QB.o.mono B2.o.size))
 have sc : cb < w2.heap.size := Blk.lt CT.o
 have sf : w.heap.size + 1 < w2.heap.size := F2.o.lt
 obtain ⟨bl, hbl⟩ : ∃ z, w2.heap.size = z := ⟨_, rfl⟩
 rw [hbl] at Q0 sc sf ⊢
 have QL := aH Q0.o.lt
 clear hbl F2 P2 CT B2 p0 p1 p2 p3 p4 p5 p6 p7 QB
 obtain ⟨p0, p1, p2, p3, p4, p5, p6, p7⟩ := an P3.o
 have e1 : ((n : Int) + 1 - 1) = (n : Int) := by omega
 go_wp2_with fail
 refine (sq W2 ((n : Int) + 1) v Al cl nl n gs (HG.o.below B3.o) HNL.o (fun g hg => ⟨(HTL.o.1.1.2 g hg).1, (HTL.o.1.1.2 g hg).2.2⟩) (by have := HTL.o.1.1.1; have := HNL.o; omega) (by omega) (by omega) HPT.o).mono ?_
 rintro e w3 ⟨lv, rfl, hgo, _, hb3⟩
 rw [e1]
 rw [<- HLOW.o] at hgo
 obtain ⟨Ao, co, rfl⟩ := hgo.len
 obtain ⟨lo, hlo⟩ : ∃ z, (dE gs ((n + 1) - n)).length = z := ⟨_, rfl⟩
 rw [hlo] at hgo ⊢
 have G4 := aH hgo
 have F4 := aH (F3.o.below hb3)
 have P4 := aH (P3.o.below' hb3)
 have C4 : Hd (CntAt w3 cb v (ap (n + 1) gs (n + 1) h)) := aH (Blk.below' C3.o hb3)
 have B4 := aH (B3.o.trans (hb3.mono B3.o.size))
 have Q4 := aH (Q0.o.below' hb3)
 clear hlo hgo hb3 F3 P3 C3 B3 Q0 p0 p1 p2 p3 p4 p5 p6 p7
 obtain ⟨p0, p1, p2, p3, p4, p5, p6, p7⟩ := an P4.o
 obtain ⟨q0, q1, q2, q3, q4, q5, q6, q7⟩ := an Q4.o
 have z0 := Q4.o.frozen 0
 have z1 := Q4.o.frozen 1
 have z2 := Q4.o.frozen 2
 go_upto_if 84 with fail
 obtain ⟨W4, hW4⟩ : ∃ z, ((w3.setCell ⟨bl, 0, none⟩ (.int .i64 n)).setCell ⟨bl, 1, none⟩ (.int .i64 v)).setCell ⟨bl, 2, none⟩ (.slice Ao lo co) = z := ⟨_, rfl⟩
 rw [hW4]
 have F5 : Hd (FArc W4 (w.heap.size + 1) (List.replicate (v + 1) 0)) := aH (by rw [<- hW4]; exact F4.o.far3U Q4.o (wO _ _ _ _ _ _ _ _ _ _ _ _ _ _ _ _) (by omega) _ _ _ _ _ _ (pa _) (pa _))
 have G5 : Hd (GramsAt W4 (.slice Ao lo co) (dE gs ((n + 1) - n))) := aH (by rw [<- hW4]; have := QL.o; exact (((G4.o.setFar (p := ⟨bl, 0, none⟩) (by show bl < W2.heap.size + 3; omega) _).setFar (p := ⟨bl, 1, none⟩) (by show bl < W2.heap.size + 3; omega) _).setFar (p := ⟨bl, 2, none⟩) (by show bl < W2.heap.size + 3; omega) _).at_)
 have P5 : Hd (Blk W4 w.heap.size 43 [.int .i64 ((n : Int) + 1), .int .i64 v, .slice Al nl cl, .int .i64 2, .bool s, .slice A m c, .slice A' m' c', .slice Am ml cm]) := aH (by rw [<- hW4]; exact P4.o.far3 (by omega) _ _ _ _ _ _)
 have C5 : Hd (CntAt W4 cb v (ap (n + 1) gs (n + 1) h)) := aH (by rw [<- hW4]; exact Blk.far3 C4.o (by omega) _ _ _ _ _ _)
 have Q5 : Hd (Blk W4 bl 43 [.int .i64 n, .int .i64 v, .slice Ao lo co, .int .i64 2, .bool s, .slice A m c, .slice A' m' c', .slice Am ml cm]) := aH (by rw [<- hW4]; exact ((Q4.o.set_ 0 _).set_ 1 _).set_ 2 _)
 have B5 : Hd (Below w.heap.size w W4) := aH (by rw [<- hW4]; exact aL B4.o (by omega) _ _ _ _ _ _)
 have hs4 : bl < W4.heap.size := Q5.o.lt
 clear hW4 F4 G4 P4 C4 Q4 B4 p0 p1 p2 p3 p4 p5 p6 p7 q0 q1 q2 q3 q4 q5 q6 q7 z0 z1 z2
 go_cut [12] (fun hs wc => wc = W4 /\ ∃ (Ah2 : Option Addr) (ch2 : Nat), hs = .slice Ah2 (n - 1) ch2 /\ Hd (IntsAt W4 hs (h.drop 1)))
 case first =>
  have IA := aH (HI.o.below B5.o)
  rcases zP n with h0 | h0
  ·subst h0
   go_wp2_with fail
   go_meet
   exact ⟨rfl, _, _, rfl, aH (by rw [List.eq_nil_of_length_eq_zero (l := h.drop 1) (by rw [List.length_drop, HLN.o])]; exact IntsAt.nil_ _)⟩
  have d1 : decide ((0 : Int) < (n : Int)) = true := dT (by omega)
  have d2 : decide (0 < n) = true := dT h0
  obtain ⟨ba, oa, rfl, tl⟩ := IA.o.tail1 HLN.o h0
  have m0 : min (1 : Int) (n : Int) = 1 := by omega
  have n1 : (1 : Int) <= (n : Int) := by omega
  have n2 : (n : Int) <= (ch : Int) := by omega
  rcases Nat.lt_or_ge 1 ch with hc0 | hc0
  ·have hc1 : ¬ ch = 1 := by omega
   rw [if_neg hc1] at tl
   have TL := aH tl
   clear tl
   go_wp2_with fail
   go_meet
   exact ⟨rfl, _, _, rfl, TL⟩
  obtain rfl : ch = 1 := by omega
  obtain rfl : n = 1 := by omega
  rw [if_pos rfl] at tl
  have TL := aH tl
  clear tl
  go_wp2_with fail
  go_meet
  exact ⟨rfl, _, _, rfl, TL⟩
 obtain ⟨rfl, Ah2, ch2, rfl, HI2⟩ := hcut
 obtain ⟨p0, p1, p2, p3, p4, p5, p6, p7⟩ := an P5.o
 go_wp2_with fail
 unfold aG at HMR
 refine (HMR.o wc Ah ch B5.o (HI.o.below B5.o)).mono ?_
 rintro e w6 ⟨b6, rfl, hb6, f6, hbb⟩
 have FB := aH f6
 have B6 := aH (B5.o.trans (hbb.mono B5.o.size))
 clear f6 hbb
 go_wp2_with fail
 go_ret
 exact ⟨_, rfl, by have := B5.o.size; omega, FB.o, B6.o⟩
theorem wH (w : World) (O v : Nat) (gs : List Gr) (s : Bool) (A A' : Option Addr) (m c m' c' : Nat) (Am : Option Addr) (ml cm : Nat) (mix : List Rat) (hO : 1 <= O /\ O <= 4) (hT : SmallT gs v) (hS : iw v O gs) (Al : Option Addr) (nl cl : Nat) (hv : Value) (h : List Int) (hG : GramsAt w (.slice Al nl cl) gs) (hI : IntsAt w hv h) (hl : h.length + 1 = O) (hM : FracsAt 64 w (.slice Am ml cm) mix) (hml : mix.length = O + 1) :
  Calls Tryz.prog 43 #[aG O v (.slice Al nl cl) 2 s A A' m c m' c' (.slice Am ml cm), hv] w (dj w v (dR (ap O gs) v mix O h)) := by
 obtain ⟨n, rfl⟩ : ∃ n, O = n + 1 := ⟨O - 1, by omega⟩
 exact vH n v gs s A A' m c m' c' Am ml cm mix w Al nl cl hv h (by omega) hT hS hG hI (by omega) hM hml
theorem wI (w : World) (O v : Nat) (gs : List Gr) (s : Bool) (A A' : Option Addr) (m c m' c' : Nat) (Am : Option Addr) (ml cm : Nat) (a : Rat) (hO : 1 <= O /\ O <= 4) (hT : SmallT gs v) (hS : iw v O gs) (ha : 0 < a) (Al : Option Addr) (nl cl : Nat) (hv : Value) (h : List Int) (hG : GramsAt w (.slice Al nl cl) gs) (hI : IntsAt w hv h) (hl : h.length + 1 = O) (hF : FracAt 64 w (.agg #[.bool s, .slice A m c, .slice A' m' c']) a) :
  Calls Tryz.prog 43 #[aG O v (.slice Al nl cl) 1 s A A' m c m' c' (.slice Am ml cm), hv] w (dj w v (cQ (fun x => tot 0 gs (h ++ [x])) v a)) := by
 have hv8 := hT.2.2.2
 have hC := fun x => (jd (gs := gs) (fun g hg => hT.1 g hg) hT.2.1 0 h) x
 obtain ⟨Ah, ch, rfl, hhc, hhm, _⟩ := hI.open_
 obtain ⟨nh, hln⟩ : ∃ n, h.length = n := ⟨_, rfl⟩
 rw [hln] at hI hhc hl ⊢
 have HG := aH hG
 have HI := aH hI
 have HF := aH hF
 have HLN := aH hln
 have HT := aH hT
 have HTS := aH hS
 have HA0 := aH ha
 have n0 : ((O : Int) == 0) = false := by simpa using (show ¬ (O : Int) = 0 by omega)
 have n1 : (O == 0) = false := by simpa using (show ¬ O = 0 by omega)
 have v1 : IntKind.i64.wrap ((v : Int) + 1) = (v : Int) + 1 := iI _ (by omega)
 obtain ⟨CF, hCF⟩ : ∃ f, (fun x => tot 0 gs (h ++ [x])) = f := ⟨_, rfl⟩
 have ML : Hd (Mild CF) := aH (by rw [<- hCF]; exact hC)
 rw [hCF]
 have HCF := aH hCF
 clear hG hI hF hT hS ha hln hCF hC
 unfold aG
 go_enter Tryz.func43, Tryz.ntmps43
 go_wp2_with (at_make; refine aD rfl _ _ rfl ((v : Int) + 1) (v + 1) rfl rfl (by omega) (by omega) ?_)
 obtain ⟨W, hW, P0, PB, Phs⟩ := aA w 43 [.int .i64 O, .int .i64 v, .slice Al nl cl, .int .i64 1, .bool s, .slice A m c, .slice A' m' c', .slice Am ml cm]
 rw [<- hW]
 clear hW
 intro w1 hf1 hb1
 have F1 := aH hf1.arc
 have P1 := aH (P0.o.below hb1 (by omega))
 have B1 := aH (PB.o.trans (hb1.mono (by omega)))
 clear hf1 hb1 P0 PB
 obtain ⟨p0, p1, p2, p3, p4, p5, p6, p7⟩ := an P1.o
 go_wp2_with fail
 refine (mH w1 O v (.slice Al nl cl) gs (.slice Ah nh ch) h (HG.o.below B1.o) (HI.o.below B1.o) HTS.o.1 (by omega) hv8 (by rw [HLN.o]; exact hl)).mono ?_
 rw [HCF.o]
 rintro e w2 ⟨cb, rfl, hcb, hct, hb2⟩
 obtain ⟨S, hS0⟩ : ∃ z, aM CF v = z := ⟨_, rfl⟩
 rw [hS0]
 have hsb := bH ML.o v
 rw [hS0] at hsb
 have HS := aH hS0
 have CT : Hd (CntAt w2 cb v CF) := aH hct
 have F2 := aH (F1.o.below hb2)
 have P2 := aH (P1.o.below' hb2)
 have B2 := aH (B1.o.trans (hb2.mono B1.o.size))
 have so : w.heap.size + 1 < w1.heap.size := F1.o.lt
 clear p0 p1 p2 p3 p4 p5 p6 p7 hb2 hct hS0 F1 P1 B1
 obtain ⟨p0, p1, p2, p3, p4, p5, p6, p7⟩ := an P2.o
 obtain ⟨VR, hVR⟩ : ∃ x : Rat, (((v : Int) + 1 : Int) : Rat) = x := ⟨_, rfl⟩
 obtain ⟨SR, hSR⟩ : ∃ x : Rat, ((S : Int) : Rat) = x := ⟨_, rfl⟩
 obtain ⟨X3, hX3⟩ : ∃ x : Rat, a * VR = x := ⟨_, rfl⟩
 obtain ⟨X4, hX4⟩ : ∃ x : Rat, SR + X3 = x := ⟨_, rfl⟩
 have QA := aH (HF.o.qb (by omega))
 have QV : Hd (QB 64 VR) := aH (by rw [<- hVR]; exact dA (by omega) (by omega))
 have QS : Hd (QB 64 SR) := aH (by rw [<- hSR]; exact dA (by omega) (by omega))
 have Q3 : Hd (QB 200 X3) := aH (by rw [<- hX3]; exact (QA.o.mul QV.o).mono (by omega))
 have Q4 : Hd (QB 300 X4) := aH (by rw [<- hX4]; exact (QS.o.add Q3.o).mono (by omega))
 have X40 : Hd (X4 ≠ 0) := aH (by
  have h1 : (0 : Rat) <= SR := by rw [<- hSR]; exact_mod_cast hsb.1
  have h2 : (0 : Rat) < VR := by rw [<- hVR]; exact_mod_cast (show (0 : Int) < (v : Int) + 1 by omega)
  have h3 : 0 < X3 := by rw [<- hX3]; exact Rat.mul_pos HA0.o h2
  rw [<- hX4]
  exact fh (by grind))
 obtain ⟨fw, hfw⟩ : ∃ f : Nat -> Rat, f = fun (x : Nat) => (((CF (x : Int) : Int) : Rat) + a) / X4 := ⟨_, rfl⟩
 have FW := aH hfw
 have HVR := aH hVR
 have HSR := aH hSR
 have HX3 := aH hX3
 have HX4 := aH hX4
 clear hfw hVR hSR hX3 hX4
 go_wp2_with fail
 go_loopg [10] (v + 1) (fun gh i wz => ∃ (q : Nat), i = .int .i64 q /\ q + gh = v + 1 /\ Hd (CntAt wz cb v CF) /\ Hd (FArc wz (w.heap.size + 1) ((List.range q).map fw ++ List.replicate gh 0)) /\ Hd (Blk wz w.heap.size 43 [.int .i64 O, .int .i64 v, .slice Al nl cl, .int .i64 1, .bool s, .slice A m c, .slice A' m' c', .slice Am ml cm]) /\ Hd (Below w.heap.size w wz))
 case atStart => exact ⟨0, rfl, by omega, CT, aH (by simpa using F2.o), P2, B2⟩
 clear CT F2 P2 B2 p0 p1 p2 p3 p4 p5 p6 p7
 obtain ⟨w9, rfl⟩ : ∃ x, x = wr := ⟨_, rfl⟩
 obtain ⟨q, rfl, hq, CE, FE, PE, BE⟩ := hrel
 rcases zP gk with hh | hh
 ·subst hh
  obtain rfl : q = v + 1 := by omega
  have d1 : decide ((v : Int) + 1 <= (v : Int)) = false := dF (by omega)
  have d2 : decide (v + 1 <= v) = false := dF (by omega)
  go_wp2_with fail
  go_ret
  exact ⟨_, rfl, by omega, by
   have h1 := FE.o
   rw [List.replicate_zero, List.append_nil, FW.o] at h1
   have h2 : (aM CF v : Rat) + a * ((v + 1 : Nat) : Rat) = X4 := by
    rw [HS.o, HSR.o, <- HX4.o, <- HX3.o, <- HVR.o, show ((v + 1 : Nat) : Rat) = (((v : Int) + 1 : Int) : Rat) from (Rat.intCast_natCast (v + 1)).symm]
   unfold cQ
   rw [h2]
   exact h1, BE.o⟩
 obtain ⟨gh, rfl⟩ : ∃ g, gk = g + 1 := ⟨gk - 1, by omega⟩
 have d3 : decide ((q : Int) <= (v : Int)) = true := dT (by omega)
 have d4 : decide (q <= v) = true := dT (by omega)
 have j1 : IntKind.i64.wrap ((q : Int) + 1) = (q : Int) + 1 := iI _ (by omega)
 have kq := CE.o.cell (x := q) (by omega)
 obtain ⟨cq, hcq⟩ : ∃ z, CF (q : Int) = z := ⟨_, rfl⟩
 rw [hcq] at kq
 have hc0 : 0 <= cq /\ cq <= 21474836480000 := by rw [<- hcq]; exact ML.o _
 have z1 : (0 : Int) <= (q : Int) := by omega
 have z2 : (q : Int) < (v : Int) + 1 := by omega
 have QC : Hd (QB 64 (cq : Rat)) := aH (dA (by omega) (by omega))
 obtain ⟨X5, hX5⟩ : ∃ x : Rat, (cq : Rat) + a = x := ⟨_, rfl⟩
 have Q5 : Hd (QB 200 X5) := aH (by rw [<- hX5]; exact (QC.o.add QA.o).mono (by omega))
 have HX5 := aH hX5
 have HX6 : Hd (X5 / X4 = fw q) := aH (by rw [FW.o, <- hX5, <- hcq])
 have sC : cb < w9.heap.size := Blk.lt CE.o
 have sW : w.heap.size < w9.heap.size := PE.o.lt
 obtain ⟨p0, p1, p2, p3, p4, p5, p6, p7⟩ := an PE.o
 have HSET : Hd (∀ w', Below w9.heap.size w9 w' -> (fun w' => w'.cell? ⟨w.heap.size, 4, none⟩ = some (.bool s) /\ w'.cell? ⟨w.heap.size, 5, none⟩ = some (.slice A m c) /\ w'.cell? ⟨w.heap.size, 6, none⟩ = some (.slice A' m' c') /\ w'.cell? ⟨cb, q, none⟩ = some (.int .i64 cq)) w') := aH (fun w' hb => ⟨(hb.cell (p := ⟨w.heap.size, 4, none⟩) sW).trans p4, (hb.cell (p := ⟨w.heap.size, 5, none⟩) sW).trans p5, (hb.cell (p := ⟨w.heap.size, 6, none⟩) sW).trans p6, (hb.cell (p := ⟨cb, q, none⟩) sC).trans kq⟩)
 have TA := aH ((HF.o.below BE.o).mono (show 64 <= 1000000000 by omega))
 have BB := aH (Below.refl w9.heap.size w9)
 have hS := HSET.o w9 BB.o
 clear hcq hX5 p0 p1 p2 p3 p4 p5 p6 p7 kq
 go_wp2_with fail
 go_region_held3 (fun w' => w'.cell? ⟨w.heap.size, 4, none⟩ = some (.bool s) /\ w'.cell? ⟨w.heap.size, 5, none⟩ = some (.slice A m c) /\ w'.cell? ⟨w.heap.size, 6, none⟩ = some (.slice A' m' c') /\ w'.cell? ⟨cb, q, none⟩ = some (.int .i64 cq))
  (first | assumption | exact ⟨aj hS.1 (show w.heap.size ≠ w.heap.size + 1 by omega) _ _ _ _ _ _, aj hS.2.1 (show w.heap.size ≠ w.heap.size + 1 by omega) _ _ _ _ _ _, aj hS.2.2.1 (show w.heap.size ≠ w.heap.size + 1 by omega) _ _ _ _ _ _, aj hS.2.2.2 (show cb ≠ w.heap.size + 1 by omega) _ _ _ _ _ _⟩ | exact hS)
  (first
    | (go_at_call_of 33 (Value.int .i64 cq); refine (ko _ cq (by omega) (by omega)).mono ?_; rintro e wl ⟨u, rfl, t, hb⟩; have hb0 := hb; (first | replace hb := below_new_drew hb | replace hb := below_new hb | replace hb := bO hb | skip); (try (first | replace AB := aH (AB.o.below' hb) | replace AB := aH (AB.o.below hb))); (first | have AB := aH ((BoxC.zero _).below hb0) | have AB := aH ((BoxC.zero _).below (bO hb0)) | skip); replace BB := aH (BB.o.trans (hb.mono BB.o.size)); have hs := BB.o.size; clear hb0; have T1 := aH (t.at_.frac (k := 1000000000) (QC.o.mono (by omega)) (by omega)); have hS := HSET.o _ BB.o; clear t hb)
    | (go_at_call 34; refine (nO _ _ _ (cq : Rat) a 1000000000 ?_ ?_ (by omega) (by omega)).mono ?_; (first | exact T1.o | exact T1.o.below (bS _) | exact T1.o.below (bA _ _) | exact T1.o.below (below_alloc_drew _ _)); (first | exact TA.o.below BB.o | exact (TA.o.below BB.o).below (bS _) | exact (TA.o.below BB.o).below (bA _ _) | exact (TA.o.below BB.o).below (below_alloc_drew _ _)); rintro e wl ⟨u, rfl, t, hb⟩; rw [HX5.o] at t; have hb0 := hb; (first | replace hb := below_new_drew hb | replace hb := below_new hb | replace hb := bO hb | skip); (try (first | replace AB := aH (AB.o.below' hb) | replace AB := aH (AB.o.below hb))); (first | have AB := aH ((BoxC.zero _).below hb0) | have AB := aH ((BoxC.zero _).below (bO hb0)) | skip); replace BB := aH (BB.o.trans (hb.mono BB.o.size)); have hs := BB.o.size; clear hb0; have T2 := aH (t.at_.frac (k := 1000000000) (Q5.o.mono (by omega)) (by omega)); have hS := HSET.o _ BB.o; (try (obtain ⟨_, _, _, _, _, _, f0, f1, f2, y0, y1, y2, _⟩ := (FE.o.below BB.o).get (ff fw q gh))); clear t hb)
    | (go_at_call_of 33 (Value.int .i64 S); refine (ko _ S (by omega) (by omega)).mono ?_; rintro e wl ⟨u, rfl, t, hb⟩; rw [HSR.o] at t; have hb0 := hb; (first | replace hb := below_new_drew hb | replace hb := below_new hb | replace hb := bO hb | skip); (try (first | replace AB := aH (AB.o.below' hb) | replace AB := aH (AB.o.below hb))); (try (first | replace T2 := aH (T2.o.below' hb) | replace T2 := aH (T2.o.below hb))); (first | have AB := aH ((BoxC.zero _).below hb0) | have AB := aH ((BoxC.zero _).below (bO hb0)) | skip); replace BB := aH (BB.o.trans (hb.mono BB.o.size)); have hs := BB.o.size; clear hb0; have T3 := aH (t.at_.frac (k := 1000000000) (QS.o.mono (by omega)) (by omega)); have hS := HSET.o _ BB.o; clear t hb)
    | (go_at_call 33; refine (ko _ ((v : Int) + 1) (by omega) (by omega)).mono ?_; rintro e wl ⟨u, rfl, t, hb⟩; rw [HVR.o] at t; have hb0 := hb; (first | replace hb := below_new_drew hb | replace hb := below_new hb | replace hb := bO hb | skip); (try (first | replace AB := aH (AB.o.below' hb) | replace AB := aH (AB.o.below hb))); (try (first | replace T2 := aH (T2.o.below' hb) | replace T2 := aH (T2.o.below hb))); (try (first | replace T3 := aH (T3.o.below' hb) | replace T3 := aH (T3.o.below hb))); (first | have AB := aH ((BoxC.zero _).below hb0) | have AB := aH ((BoxC.zero _).below (bO hb0)) | skip); replace BB := aH (BB.o.trans (hb.mono BB.o.size)); have hs := BB.o.size; clear hb0; have T4 := aH (t.at_.frac (k := 1000000000) (QV.o.mono (by omega)) (by omega)); have hS := HSET.o _ BB.o; clear t hb)
    | (go_at_call 91; refine (mV _ _ _ a VR 1000000000 ?_ ?_ (by omega) (by omega)).mono ?_; (first | exact TA.o.below BB.o | exact (TA.o.below BB.o).below (bS _) | exact (TA.o.below BB.o).below (bA _ _) | exact (TA.o.below BB.o).below (below_alloc_drew _ _)); (first | exact T4.o | exact T4.o.below (bS _) | exact T4.o.below (bA _ _) | exact T4.o.below (below_alloc_drew _ _)); rintro e wl ⟨u, rfl, t, hb⟩; rw [HX3.o] at t; have hb0 := hb; (first | replace hb := below_new_drew hb | replace hb := below_new hb | replace hb := bO hb | skip); (try (first | replace AB := aH (AB.o.below' hb) | replace AB := aH (AB.o.below hb))); (try (first | replace T2 := aH (T2.o.below' hb) | replace T2 := aH (T2.o.below hb))); (try (first | replace T3 := aH (T3.o.below' hb) | replace T3 := aH (T3.o.below hb))); (first | have AB := aH ((BoxC.zero _).below hb0) | have AB := aH ((BoxC.zero _).below (bO hb0)) | skip); replace BB := aH (BB.o.trans (hb.mono BB.o.size)); have hs := BB.o.size; clear hb0; have T5 := aH (t.at_.frac (k := 1000000000) (Q3.o.mono (by omega)) (by omega)); have hS := HSET.o _ BB.o; (try (obtain ⟨_, _, _, _, _, _, f0, f1, f2, y0, y1, y2, _⟩ := (FE.o.below BB.o).get (ff fw q gh))); clear t hb)
    | (go_at_call 34; refine (nO _ _ _ SR X3 1000000000 ?_ ?_ (by omega) (by omega)).mono ?_; (first | exact T3.o | exact T3.o.below (bS _) | exact T3.o.below (bA _ _) | exact T3.o.below (below_alloc_drew _ _)); (first | exact T5.o | exact T5.o.below (bS _) | exact T5.o.below (bA _ _) | exact T5.o.below (below_alloc_drew _ _)); rintro e wl ⟨u, rfl, t, hb⟩; rw [HX4.o] at t; have hb0 := hb; (first | replace hb := below_new_drew hb | replace hb := below_new hb | replace hb := bO hb | skip); (try (first | replace AB := aH (AB.o.below' hb) | replace AB := aH (AB.o.below hb))); (try (first | replace T2 := aH (T2.o.below' hb) | replace T2 := aH (T2.o.below hb))); (first | have AB := aH ((BoxC.zero _).below hb0) | have AB := aH ((BoxC.zero _).below (bO hb0)) | skip); replace BB := aH (BB.o.trans (hb.mono BB.o.size)); have hs := BB.o.size; clear hb0; have T6 := aH (t.at_.frac (k := 1000000000) (Q4.o.mono (by omega)) (by omega)); have hS := HSET.o _ BB.o; (try (obtain ⟨_, _, _, _, _, _, f0, f1, f2, y0, y1, y2, _⟩ := (FE.o.below BB.o).get (ff fw q gh))); clear t hb)
    | (go_at_call 31; refine (tF _ _ _ X5 X4 1000000000 ?_ ?_ (by omega) (by omega) X40.o).mono ?_; (first | exact T2.o | exact T2.o.below (bS _) | exact T2.o.below (bA _ _) | exact T2.o.below (below_alloc_drew _ _)); (first | exact T6.o | exact T6.o.below (bS _) | exact T6.o.below (bA _ _) | exact T6.o.below (below_alloc_drew _ _)); rintro e wl ⟨u, rfl, t, hb⟩; rw [HX6.o] at t; have hb0 := hb; (first | replace hb := below_new_drew hb | replace hb := below_new hb | replace hb := bO hb | skip); (try (first | replace AB := aH (AB.o.below' hb) | replace AB := aH (AB.o.below hb))); (first | have AB := aH ((BoxC.zero _).below hb0) | have AB := aH ((BoxC.zero _).below (bO hb0)) | skip); replace BB := aH (BB.o.trans (hb.mono BB.o.size)); have hs := BB.o.size; clear hb0; obtain ⟨As, ms, cs, As', ms', cs', rfl⟩ := t.at_.open_; have T9 := aH t.at_; have hS := HSET.o _ BB.o; (try (obtain ⟨_, _, _, _, _, _, f0, f1, f2, y0, y1, y2, _⟩ := (FE.o.below BB.o).get (ff fw q gh))); clear t hb))
 go_wp2_with fail
 go_roundg gh
 case measure => omega
 case rel =>
  have F8 := FE.o.below BB.o
  exact ⟨q + 1, rfl, by omega, aH (Blk.far3 (Blk.below' CE.o BB.o) (show cb ≠ w.heap.size + 1 by omega) _ _ _ _ _ _), aH (by
   have := F8.put (i := q) (by simp) rfl T9.o
   rwa [eO fw q gh rfl] at this), aH ((PE.o.below' BB.o).far3 (show w.heap.size ≠ w.heap.size + 1 by omega) _ _ _ _ _ _), aH (aL (BE.o.trans (BB.o.mono BE.o.size)) (by omega) _ _ _ _ _ _)⟩
theorem uk {gs : List Gr} {c : Int} (h : ∀ g ∈ gs, g.2 <= c) : cT gs <= (gs.length : Int) * c := by
 induction gs with
 | nil => show cT [] <= _; rw [show cT [] = 0 from rfl]; simp
 | cons x gs ih =>
  rw [bE, List.length_cons]
  have h1 := ih (fun g hg => h g (by simp [hg]))
  have h2 := h x (by simp)
  have e : ((gs.length + 1 : Nat) : Int) * c = (gs.length : Int) * c + c := by
   rw [show ((gs.length + 1 : Nat) : Int) = (gs.length : Int) + 1 by omega, Int.add_mul, Int.one_mul]
  omega
theorem uj {O v : Nat} {gs : List Gr} (h : aP O v gs = 0) (hl : gs.length <= 60) : iw v O gs := by
 obtain ⟨h1, h2, h3, h4, h5, h6, h7⟩ := fY h
 refine ⟨⟨hl, fun g hg => ?_⟩, fun g hg => ?_, ?_⟩
 ·have := h6 g hg
  exact ⟨by omega, this.2.1, by omega, by omega⟩
 ·have := h6 g hg
  omega
 have := uk (gs := gs) (c := 1073741824) (fun g hg => (h6 g hg).2.2.2)
 have h8 : (gs.length : Int) * 1073741824 <= 60 * 1073741824 := Int.mul_le_mul_of_nonneg_right (by omega) (by omega)
 omega

theorem lN (w : World) (O v : Nat) (lv : Value) (gs : List Gr) (k : Int) (s : Bool) (A A' : Option Addr) (m c m' c' : Nat) (mv : Value) (a : Rat) (mix : List Rat) (hv : Value) (hl : List Int) (h : LangAt w lv gs s A A' m c m' c' a mv mix) (hh : IntsAt w hv hl) (hE : bM O v gs k a mix hl = 0) (hv8 : v <= 8) (h60 : gs.length <= 60) :
  Calls Tryz.prog 43 #[aG O v lv k s A A' m c m' c' mv, hv] w (dj w v (fA k O gs v a mix hl)) := by
 obtain ⟨h1, h2, h3, h4⟩ := bI hE
 obtain ⟨_, o1, o2, _⟩ := fY h1
 obtain ⟨Al, cl, rfl, _, _, _⟩ := h.grams.open_
 obtain ⟨Am, cm, rfl, _, _, _⟩ := h.mixes.open_
 have hS := uj h1 h60
 have hT := bY h1 hv8
 have hG := h.grams
 have hM := h.mixes
 have hF := h.amount
 unfold fA
 rcases gH h2 with rfl | rfl | rfl | rfl
 ·rw [if_pos rfl]
  have e : ap O gs O hl = fun x => tot 0 gs (hl ++ [x]) := by funext x; unfold ap; rw [Nat.sub_self]
  rw [e]
  exact wI w O v gs s A A' m c m' c' Am _ cm a ⟨by omega, by omega⟩ hT hS (eW h2).1 Al _ cl hv hl hG hh (by omega) hF
 ·rw [if_neg (by decide), if_pos rfl]
  exact wH w O v gs s A A' m c m' c' Am _ cm mix ⟨by omega, by omega⟩ hT hS Al _ cl hv hl hG hh (by omega) hM (fH h2).1
 ·have := wL O v gs 3 s A A' m c m' c' Am mix.length cm a (.inl rfl) (by omega) hT hS (fun _ => ⟨(eK h2).1, (eK h2).2.1⟩) O w Al _ cl hv hl (nR _) (by rw [Nat.sub_self]; exact hG) hh (by omega) hF
  unfold dq at this
  rw [if_neg (by decide)] at this
  rw [if_neg (by decide), if_neg (by decide), if_pos rfl]
  exact this
 have := wL O v gs 4 s A A' m c m' c' Am mix.length cm a (.inr rfl) (by omega) hT hS (fun h => absurd h (by decide)) O w Al _ cl hv hl (nR _) (by rw [Nat.sub_self]; exact hG) hh (by omega) hF
 unfold dq at this
 rw [if_pos rfl] at this
 rw [if_neg (by decide), if_neg (by decide), if_neg (by decide)]
 exact this
theorem oZ {a k : Nat} (h : a < 2 ^ k) (p : Nat) : a ^ p < 2 ^ (k * p + 1) := by
 have h1 : a ^ p <= (2 ^ k) ^ p := Nat.pow_le_pow_left (Nat.le_of_lt h) p
 rw [<- Nat.pow_mul] at h1
 have h2 : 2 ^ (k * p) < 2 ^ (k * p + 1) := Nat.pow_lt_pow_right (by omega) (by omega)
 omega

theorem kS {c q b : Nat} (h : q % 2 = b) : c * q = 2 * c * (q / 2) + c * b := by
 have e : q = 2 * (q / 2) + b := by omega
 have e2 : c * q = c * (2 * (q / 2) + b) := by rw [<- e]
 rw [e2, Nat.mul_add, <- Nat.mul_assoc, Nat.mul_comm c 2]
theorem uB {x : Nat} (hx : x < 4294967296) : bits .and .i64 (x : Int) 1 = ((x % 2 : Nat) : Int) := by
 have h1 : (BitVec.ofInt 64 (x : Int)).toNat = x := by simp [BitVec.toNat_ofInt]; omega
 show IntKind.i64.wrap ((BitVec.ofInt 64 (x : Int) &&& BitVec.ofInt 64 1).toNat : Int) = _
 rw [BitVec.toNat_and, h1, show (BitVec.ofInt 64 1).toNat = 1 from by decide, Nat.and_one_is_mod]
 exact iI _ (by omega)

theorem power (w : World) (va : Value) (a k n : Nat) (ha : NatAt w va a) (la : a < 2 ^ k) (hn : n <= 4096) (hk : k <= 1000000000) :
  Calls Tryz.prog 157 #[va, .int .i64 (n : Int)] w fun e w' => ∃ v', e = .returned v' /\ NatAt w' v' (a ^ n) /\ Below w.heap.size w w' := by
 have HA := aH ha
 have LA := aH la
 clear ha la
 go_enter Tryz.func157, Tryz.ntmps157
 go_wp2_with fail
 refine (small w 1 (by omega)).mono ?_
 rintro e w1 ⟨v1, rfl, h1, hb1⟩
 have H1 := aH h1
 have HB1 := aH hb1
 clear h1 hb1
 go_wp2_with fail
 go_loopg [0, 1, 5] (n + 1) (fun gh x m y wz => ∃ (c q p : Nat), m = .int .i64 (q : Int) /\ q < gh /\ gh <= n + 1 /\ Hd (p + c * q = n) /\ Hd (c <= 2 * n + 1) /\ Hd (NatAt wz x (a ^ c)) /\ Hd (NatAt wz y (a ^ p)) /\ Hd (Below w.heap.size w wz))
 case atStart => exact ⟨1, n, 0, rfl, by omega, nR _, aH (by omega), aH (by omega), aH (by rw [Nat.pow_one]; exact HA.o.below HB1.o), H1, HB1⟩
 clear H1 HB1
 obtain ⟨c, q, p, rfl, hq, hgk, HQ, HC, HX, HY, BW⟩ := hrel
 rcases zP q with h0 | h0
 ·subst h0
  have HP : Hd (p = n) := aH (by have := HQ.o; simpa using this)
  go_wp2_with fail
  go_ret
  exact ⟨_, rfl, by rw [<- HP.o]; exact HY.o, BW.o⟩
 obtain ⟨gh, rfl⟩ : ∃ g, gk = g + 1 := ⟨gk - 1, by omega⟩
 have d1 : decide ((0 : Int) < (q : Int)) = true := dT (by omega)
 have d2 : decide (0 < q) = true := dT h0
 obtain ⟨b, hb⟩ : ∃ b, q % 2 = b := ⟨_, rfl⟩
 have hand : bits .and .i64 (q : Int) 1 = (b : Int) := by rw [uB (by have := HQ.o; omega), hb]
 have HB := aH hb
 have hb2 : b < 2 := by omega
 have hcq : Hd (c <= n) := aH (by
  have h1 : c * 1 <= c * q := Nat.mul_le_mul_left c h0
  have := HQ.o
  omega)
 have LX : Hd (a ^ c < 2 ^ (k * c + 1)) := aH (oZ LA.o c)
 have LY : Hd (a ^ p < 2 ^ (k * p + 1)) := aH (oZ LA.o p)
 have K1 : k * c + 1 <= 70368744177664 := by
  have : k * c <= 1000000000 * 4096 := Nat.mul_le_mul hk (by have := hcq.o; omega)
  omega
 have K2 : k * p + 1 <= 70368744177664 := by
  have : k * p <= 1000000000 * 4096 := Nat.mul_le_mul hk (by have := HQ.o; omega)
  omega
 clear hb
 rcases (show b = 0 ∨ b = 1 by omega) with rfl | rfl
 ·have e1 : (bits .and .i64 (q : Int) 1 == 1) = false := by rw [hand]; rfl
  clear hand
  go_wp2_with fail
  refine (mul wr _ _ (a ^ c) (a ^ c) (k * c + 1) (k * c + 1) HX.o HX.o LX.o LX.o K1 K1).mono ?_
  rintro e w4 ⟨x2, rfl, hx2, hb4⟩
  have HX4 : Hd (NatAt w4 x2 (a ^ (2 * c))) := aH (by
   rw [show 2 * c = c + c by omega, Nat.pow_add]
   exact hx2)
  have HY4 := aH (HY.o.below hb4)
  have B4 := aH (BW.o.trans (hb4.mono BW.o.size))
  clear hx2 hb4
  go_wp2_with fail
  go_roundg gh
  case measure => omega
  case rel => exact ⟨2 * c, q / 2, p, by rw [show ((q / 2 : Nat) : Int) = (q : Int) / 2 by omega], by omega, by omega, aH (by have h1 := kS (c := c) HB.o; have := HQ.o; omega), aH (by have := hcq.o; omega), HX4, HY4, B4⟩
 have e1 : (bits .and .i64 (q : Int) 1 == 1) = true := by rw [hand]; rfl
 clear hand
 go_wp2_with fail
 refine (mul wr _ _ (a ^ p) (a ^ c) (k * p + 1) (k * c + 1) HY.o HX.o LY.o LX.o K2 K1).mono ?_
 rintro e w4 ⟨y2, rfl, hy2, hb4⟩
 have HY4 : Hd (NatAt w4 y2 (a ^ (p + c))) := aH (by
  rw [Nat.pow_add]
  exact hy2)
 have HX4 := aH (HX.o.below hb4)
 have B4 := aH (BW.o.trans (hb4.mono BW.o.size))
 clear hy2 hb4
 go_wp2_with fail
 refine (mul w4 _ _ (a ^ c) (a ^ c) (k * c + 1) (k * c + 1) HX4.o HX4.o LX.o LX.o K1 K1).mono ?_
 rintro e w5 ⟨x2, rfl, hx2, hb5⟩
 have HX5 : Hd (NatAt w5 x2 (a ^ (2 * c))) := aH (by
  rw [show 2 * c = c + c by omega, Nat.pow_add]
  exact hx2)
 have HY5 := aH (HY4.o.below hb5)
 have B5 := aH (B4.o.trans (hb5.mono B4.o.size))
 clear hx2 hb5
 go_wp2_with fail
 go_roundg gh
 case measure => omega
 case rel => exact ⟨2 * c, q / 2, p + c, by rw [show ((q / 2 : Nat) : Int) = (q : Int) / 2 by omega], by omega, by omega, aH (by have h1 := kS (c := c) HB.o; have := HQ.o; omega), aH (by have := hcq.o; omega), HX5, HY5, B5⟩
section
open Go.RowKit
end
section
variable {row : List Int -> List Rat} {V : Nat}
end
def LLOwn (B : Nat) (w : World) (v : Value) (ls : List (List Int)) : Prop := ∃ cells, w.ownsRow B 44 1 v ls.length cells /\
 ∀ (i : Nat) (l : List Int), ls[i]? = some l -> ∃ c0, cells[i]? = some c0 /\ IntsAt w c0 l /\ From c0 B /\ ∀ b, v.ownBlock = some b -> Off c0 b
theorem Same.refl (F : Nat) (w : World) : Same F w w := ⟨nR _, fun _ _ _ => rfl⟩
theorem Same.trans {F : Nat} {w w1 w2 : World} (h : Same F w w1) (h' : Same F w1 w2) : Same F w w2 :=
 ⟨Nat.le_trans h.1 h'.1, fun b hb hl => (h'.2 b hb (Nat.lt_of_lt_of_le hl h.1)).trans (h.2 b hb hl)⟩
theorem Same.of_below {F : Nat} {w w' : World} (h : Below w.heap.size w w') : Same F w w' := ⟨h.size, fun b _ hl => h.block b hl⟩
theorem LLOwn.nil_ (B : Nat) (w : World) : LLOwn B w (.slice none 0 0) [] := ⟨[], World.ownsRow_nil .., fun i l hl => by simp at hl⟩
theorem LLOwn.same {B : Nat} {w w' : World} {v : Value} {ls : List (List Int)} (h : LLOwn B w v ls) (hs : Same B w w') : LLOwn B w' v ls := by
 obtain ⟨cells, h1, h2⟩ := h
 refine ⟨cells, ?_, fun i l hl => ?_⟩
 ·obtain ⟨h0, h3 | ⟨g, cap, cur, hv, hg, hh, hr⟩⟩ := h1
  ·exact ⟨h0, .inl h3⟩
  exact ⟨h0, .inr ⟨g, cap, cur, hv, hg, (hs.2 g hg (Array.getElem?_eq_some_iff.1 hh).1).trans hh, hr⟩⟩
 obtain ⟨c0, e0, e1, e2, e3⟩ := h2 i l hl
 exact ⟨c0, e0, Sl.same e1 e2 hs, e2, e3⟩
theorem LLOwn.below {B : Nat} {w w' : World} {v : Value} {ls : List (List Int)} (h : LLOwn B w v ls) (hb : Below w.heap.size w w') : LLOwn B w' v ls := h.same (Same.of_below hb)
theorem LLOwn.new {B F : Nat} {w : World} {v : Value} {ls : List (List Int)} (h : LLOwn B w v ls) (hF : F <= B) : ListsNew F w v ls := by
 obtain ⟨cells, h1, h2⟩ := h
 refine ⟨cells, Sl.of_own h1, (From.of_own h1).mono hF, fun i l hl => ?_⟩
 obtain ⟨c0, e0, e1, e2, _⟩ := h2 i l hl
 exact ⟨c0, e0, e1, e2.mono hF⟩
theorem LLOwn.push {B : Nat} {w w1 w' : World} {v v' c : Value} {ls : List (List Int)} {l : List Int} {cells : List Value} (h2 : ∀ (i : Nat) (l : List Int), ls[i]? = some l -> ∃ c0, cells[i]? = some c0 /\ IntsAt w c0 l /\ From c0 B /\ ∀ b, v.ownBlock = some b -> Off c0 b) (hlen : cells.length = ls.length)
  (hw : Same B w w1) (hc : IntsAt w1 c l) (hcf : From c B) (hco : ∀ b, v.ownBlock = some b -> Off c b) (hown : w'.ownsRow B 44 1 v' (ls.length + 1) (cells ++ [c])) (hg : w1.grownBy w' v.ownBlock) (hb : v'.ownBlock = v.ownBlock ∨ v'.ownBlock = some w1.heap.size) : LLOwn B w' v' (ls ++ [l]) := by
 refine ⟨cells ++ [c], by rw [List.length_append]; exact hown, fun i m hm => ?_⟩
 have key : ∀ (c0 : Value) (m : List Int), IntsAt w1 c0 m -> (∀ b, v.ownBlock = some b -> Off c0 b) -> IntsAt w' c0 m /\ ∀ b, v'.ownBlock = some b -> Off c0 b := fun c0 m h1 h3 =>
  ⟨Sl.keptOff h1 hg h3, fun b hb' => by
   rcases hb with e | e
   ·exact h3 b (e ▸ hb')
   rw [e] at hb'
   cases hb'
   exact IntsAt.off h1 (nR _)⟩
 by_cases hi : i < ls.length
 ·rw [List.getElem?_append_left hi] at hm
  obtain ⟨c0, e0, e1, e2, e3⟩ := h2 i m hm
  obtain ⟨k1, k2⟩ := key c0 m (Sl.same e1 e2 hw) e3
  exact ⟨c0, by rw [List.getElem?_append_left (by omega)]; exact e0, k1, e2, k2⟩
 rw [List.getElem?_append_right (by omega)] at hm
 have hi2 : i = ls.length := by
  have := (sI.1 hm).1
  simp at this
  omega
 subst hi2
 rw [Nat.sub_self] at hm
 cases hm
 obtain ⟨k1, k2⟩ := key c l hc hco
 exact ⟨c, by rw [List.getElem?_append_right (by omega), hlen, Nat.sub_self]; rfl, k1, hcf, k2⟩

def BoxA (w : World) (b : Nat) (q : Rat) (v : Value) : Prop := ∃ A m c A' m' c', Blk w b 40 [.bool (ae q), .slice A m c, .slice A' m' c'] /\ CanAt w (.agg #[.bool (ae q), .slice A m c, .slice A' m' c']) q /\ ∀ r, v.ownBlock = some r -> Off (.slice A m c) r /\ Off (.slice A' m' c') r /\ b ≠ r
theorem BoxA.box {w : World} {b : Nat} {q : Rat} {v : Value} (h : BoxA w b q v) : BoxC w b q := by
 obtain ⟨A, m, c, A', m', c', h1, h2, _⟩ := h
 exact BoxC.of h1 h2
theorem BoxA.below {w w' : World} {b : Nat} {q : Rat} {v : Value} (h : BoxA w b q v) (hb : Below w.heap.size w w') : BoxA w' b q v := by
 obtain ⟨A, m, c, A', m', c', h1, h2, h3⟩ := h
 exact ⟨A, m, c, A', m', c', h1.below' hb, h2.below hb, h3⟩
theorem NatAt.keptOff {w w' : World} {v : Value} {n : Nat} {row : Option Nat} (h : NatAt w v n) (hg : w.grownBy w' row) (ho : ∀ b, row = some b -> Off v b) : NatAt w' v n := by
 obtain ⟨l, ⟨h1, h2⟩, h3⟩ := h
 exact ⟨l, ⟨Sl.keptOff h1 hg ho, h2⟩, h3⟩
theorem NatAt.offNew {w : World} {v : Value} {n F : Nat} (h : NatAt w v n) (hf : w.heap.size <= F) : Off v F := by
 obtain ⟨l, ⟨h1, _⟩, _⟩ := h
 exact Sl.off h1 hf
theorem BoxA.push {w w' : World} {b : Nat} {q : Rat} {v v' : Value} (h : BoxA w b q v) (hg : w.grownBy w' v.ownBlock) (hb : v'.ownBlock = v.ownBlock ∨ v'.ownBlock = some w.heap.size) : BoxA w' b q v' := by
 obtain ⟨A, m, c, A', m', c', h1, ⟨vn, vd, e, n1, n2⟩, h3⟩ := h
 have e' : [Value.bool (ae q), .slice A m c, .slice A' m' c'] = [.bool (ae q), vn, vd] := by
  injection e with e
  exact congrArg Array.toList e
 simp only [List.cons.injEq, and_true, true_and] at e'
 obtain ⟨rfl, rfl⟩ := e'
 refine ⟨A, m, c, A', m', c', h1.grown hg (fun e => (h3 b e.symm).2.2 rfl), ⟨_, _, rfl, n1.keptOff hg (fun r hr => (h3 r hr).1), n2.keptOff hg (fun r hr => (h3 r hr).2.1)⟩, fun r hr => ?_⟩
 rcases hb with e | e
 ·exact h3 r (e ▸ hr)
 rw [e] at hr
 cases hr
 exact ⟨n1.offNew (nR _), n2.offNew (nR _), by have := h1.lt; omega⟩
theorem BoxA.put {w : World} {b B : Nat} {q r : Rat} {v : Value} {A A' : Option Addr} {m c m' c' : Nat} (h : BoxC w b r) (hq : CanNew B w (.agg #[.bool (ae q), .slice A m c, .slice A' m' c']) q) (hv : ∀ x, v.ownBlock = some x -> x < B /\ b ≠ x) :
  BoxA (((w.setCell ⟨b, 0, none⟩ (.bool (ae q))).setCell ⟨b, 1, none⟩ (.slice A m c)).setCell ⟨b, 2, none⟩ (.slice A' m' c')) b q v := by
 have hk := FArc.keeps h hq.at_ 0 1 2 (ae q) A A' m c m' c'
 obtain ⟨vn, vd, e, _, _, f1, f2⟩ := hq
 have e' : [Value.bool (ae q), .slice A m c, .slice A' m' c'] = [.bool (ae q), vn, vd] := by
  injection e with e
  exact congrArg Array.toList e
 simp only [List.cons.injEq, and_true, true_and] at e'
 obtain ⟨rfl, rfl⟩ := e'
 obtain ⟨xs, h1, h2, _, _⟩ := h
 refine ⟨A, m, c, A', m', c', ?_, hk, fun x hx => ⟨f1.off (hv x hx).1, f2.off (hv x hx).1, (hv x hx).2⟩⟩
 have h3 := ((h1.set_ 0 (.bool (ae q))).set_ 1 (.slice A m c)).set_ 2 (.slice A' m' c')
 have e2 : ((xs.set 0 (.bool (ae q))).set 1 (.slice A m c)).set 2 (.slice A' m' c') = [.bool (ae q), .slice A m c, .slice A' m' c'] := by
  have h4 : xs.length = 3 := by simpa using h2
  match xs, h4 with
  | [_, _, _], _ => rfl
 rwa [e2] at h3
section
open Go.RowKit
end
theorem vN {z : Int} (h : z ≠ 0) : (z != 0) = true := by simpa using h

theorem vI (w : World) (O V : Int) (lv : Value) (gs : List Gr) (k : Int) (s : Bool) (A A' : Option Addr) (m c m' c' : Nat) (mv : Value) (a : Rat) (mix : List Rat) (hv : Value) (hl : List Int) (z : Int) (h : LangAt w lv gs s A A' m c m' c' a mv mix) (hh : IntsAt w hv hl) (hE : bM O V gs k a mix hl = z) (hz : z ≠ 0) :
  Calls Tryz.prog 28 #[aG O V lv k s A A' m c m' c' mv, hv] w fun e w' => e = .returned (.tuple #[.slice none 0 0, .int .i64 z]) /\ Below w.heap.size w w' := by
 obtain ⟨Al, cl, rfl, _, _, _⟩ := h.grams.open_
 obtain ⟨Am, cm, rfl, _, _, _⟩ := h.mixes.open_
 obtain ⟨Ah, ch, rfl, _, _, _⟩ := hh.open_
 have HL := aH h
 have HI := aH hh
 have HE := aH hE
 have z1 := vN hz
 clear h hh hE hz
 unfold aG
 go_enter Tryz.func28, Tryz.ntmps28
 go_wp2_with fail
 obtain ⟨W, hW, P0, PB, Phs⟩ := aA w 43 [.int .i64 O, .int .i64 V, .slice Al gs.length cl, .int .i64 k, .bool s, .slice A m c, .slice A' m' c', .slice Am mix.length cm]
 rw [<- hW]
 clear hW
 obtain ⟨p0, p1, p2, p3, p4, p5, p6, p7⟩ := an P0.o
 go_wp2_with fail
 refine (bU W O V (.slice Al gs.length cl) gs k s A A' m c m' c' (.slice Am mix.length cm) a mix _ hl (HL.o.below PB.o) (HI.o.below PB.o)).mono ?_
 rintro e w1 ⟨rfl, hb1⟩
 rw [HE.o]
 have B1 := aH (PB.o.trans (hb1.mono PB.o.size))
 clear p0 p1 p2 p3 p4 p5 p6 p7 hb1 P0 PB
 go_wp2_with fail
 first
  | (go_ret; exact ⟨rfl, B1.o⟩)
  | (go_ret2; exact ⟨rfl, B1.o⟩)

theorem uH (w : World) (O V : Int) (lv : Value) (gs : List Gr) (k : Int) (s : Bool) (A A' : Option Addr) (m c m' c' : Nat) (mv : Value) (a : Rat) (mix : List Rat) (hv : Value) (hl : List Int) (x z : Int) (h : LangAt w lv gs s A A' m c m' c' a mv mix) (hh : IntsAt w hv hl) (hE : bM O V gs k a mix hl = z) (hz : z ≠ 0) :
  Calls Tryz.prog 42 #[aG O V lv k s A A' m c m' c' mv, hv, .int .i64 x] w fun e w' => e = .returned (.tuple #[.slice none 0 0, .int .i64 z]) /\ Below w.heap.size w w' := by
 obtain ⟨Al, cl, rfl, _, _, _⟩ := h.grams.open_
 obtain ⟨Am, cm, rfl, _, _, _⟩ := h.mixes.open_
 obtain ⟨Ah, ch, rfl, _, _, _⟩ := hh.open_
 have HL := aH h
 have HI := aH hh
 have HE := aH hE
 have z1 := vN hz
 clear h hh hE hz
 unfold aG
 go_enter Tryz.func42, Tryz.ntmps42
 go_wp2_with fail
 obtain ⟨W, hW, P0, PB, Phs⟩ := aA w 43 [.int .i64 O, .int .i64 V, .slice Al gs.length cl, .int .i64 k, .bool s, .slice A m c, .slice A' m' c', .slice Am mix.length cm]
 rw [<- hW]
 clear hW
 obtain ⟨p0, p1, p2, p3, p4, p5, p6, p7⟩ := an P0.o
 go_wp2_with fail
 refine (bU W O V (.slice Al gs.length cl) gs k s A A' m c m' c' (.slice Am mix.length cm) a mix _ hl (HL.o.below PB.o) (HI.o.below PB.o)).mono ?_
 rintro e w1 ⟨rfl, hb1⟩
 rw [HE.o]
 have B1 := aH (PB.o.trans (hb1.mono PB.o.size))
 clear p0 p1 p2 p3 p4 p5 p6 p7 hb1 P0 PB
 go_wp2_with fail
 first
  | (go_ret; exact ⟨rfl, B1.o⟩)
  | (go_ret2; exact ⟨rfl, B1.o⟩)

theorem pu (w : World) (O V : Int) (lv : Value) (gs : List Gr) (k : Int) (s : Bool) (A A' : Option Addr) (m c m' c' : Nat) (mv : Value) (a : Rat) (mix : List Rat) (hv : Value) (hl : List Int) (x z : Int) (h : LangAt w lv gs s A A' m c m' c' a mv mix) (hh : IntsAt w hv hl) (hE : bM O V gs k a mix hl = z) (hz : z ≠ 0) :
  Calls Tryz.prog 39 #[aG O V lv k s A A' m c m' c' mv, hv, .int .i64 x] w fun e w' => e = .returned (.tuple #[.agg #[.bool false, .slice none 0 0, .slice none 0 0], .int .i64 z]) /\ Below w.heap.size w w' := by
 obtain ⟨Al, cl, rfl, _, _, _⟩ := h.grams.open_
 obtain ⟨Am, cm, rfl, _, _, _⟩ := h.mixes.open_
 obtain ⟨Ah, ch, rfl, _, _, _⟩ := hh.open_
 have HL := aH h
 have HI := aH hh
 have HE := aH hE
 have z1 := vN hz
 clear h hh hE hz
 unfold aG
 go_enter Tryz.func39, Tryz.ntmps39
 go_wp2_with fail
 obtain ⟨W, hW, P0, P1, PB, Phs⟩ := cP w 43 [.int .i64 O, .int .i64 V, .slice Al gs.length cl, .int .i64 k, .bool s, .slice A m c, .slice A' m' c', .slice Am mix.length cm] 40 [.bool false, .slice none 0 0, .slice none 0 0]
 rw [<- hW]
 clear hW
 obtain ⟨p0, p1, p2, p3, p4, p5, p6, p7⟩ := an P0.o
 go_wp2_with fail
 refine (bU W O V (.slice Al gs.length cl) gs k s A A' m c m' c' (.slice Am mix.length cm) a mix _ hl (HL.o.below PB.o) (HI.o.below PB.o)).mono ?_
 rintro e w1 ⟨rfl, hb1⟩
 rw [HE.o]
 have R1 := aH (P1.o.below' hb1)
 have B1 := aH (PB.o.trans (hb1.mono PB.o.size))
 clear p0 p1 p2 p3 p4 p5 p6 p7 hb1 P0 P1 PB
 obtain ⟨r0, r1, r2, y0, y1, y2⟩ := R1.o.three
 go_wp2_with fail
 have R4 := ((R1.o.set_ 0 (.bool false)).set_ 1 (.slice none 0 0)).set_ 2 (.slice none 0 0)
 obtain ⟨g0, g1, g2, _, _, _⟩ := Blk.three R4
 exact bodyPost_ret (v := .tuple #[.agg #[.bool false, .slice none 0 0, .slice none 0 0], .int .i64 z]) (by simp [results, Tryz.results39, go_sem, g0, g1, g2, List.mapM_cons]) rfl ⟨rfl, aL B1.o (by omega) _ _ _ _ _ _⟩

theorem pt (w : World) (O V : Int) (lv : Value) (gs : List Gr) (k : Int) (s : Bool) (A A' : Option Addr) (m c m' c' : Nat) (mv : Value) (a : Rat) (mix : List Rat) (hv : Value) (hl : List Int) (x : Int) (h : LangAt w lv gs s A A' m c m' c' a mv mix) (hh : IntsAt w hv hl) (hE : bM O V gs k a mix hl = 0) (hx : x < 0 ∨ V < x) :
  Calls Tryz.prog 39 #[aG O V lv k s A A' m c m' c' mv, hv, .int .i64 x] w fun e w' => e = .returned (.tuple #[.agg #[.bool false, .slice none 0 0, .slice none 0 0], .int .i64 2]) /\ Below w.heap.size w w' := by
 obtain ⟨Al, cl, rfl, _, _, _⟩ := h.grams.open_
 obtain ⟨Am, cm, rfl, _, _, _⟩ := h.mixes.open_
 obtain ⟨Ah, ch, rfl, _, _, _⟩ := hh.open_
 have HL := aH h
 have HI := aH hh
 have HE := aH hE
 clear h hh hE
 unfold aG
 go_enter Tryz.func39, Tryz.ntmps39
 go_wp2_with fail
 obtain ⟨W, hW, P0, P1, PB, Phs⟩ := cP w 43 [.int .i64 O, .int .i64 V, .slice Al gs.length cl, .int .i64 k, .bool s, .slice A m c, .slice A' m' c', .slice Am mix.length cm] 40 [.bool false, .slice none 0 0, .slice none 0 0]
 rw [<- hW]
 clear hW
 obtain ⟨p0, p1, p2, p3, p4, p5, p6, p7⟩ := an P0.o
 go_wp2_with fail
 refine (bU W O V (.slice Al gs.length cl) gs k s A A' m c m' c' (.slice Am mix.length cm) a mix _ hl (HL.o.below PB.o) (HI.o.below PB.o)).mono ?_
 rintro e w1 ⟨rfl, hb1⟩
 rw [HE.o]
 have X1 := aH (P0.o.below' hb1)
 have R1 := aH (P1.o.below' hb1)
 have B1 := aH (PB.o.trans (hb1.mono PB.o.size))
 clear p0 p1 p2 p3 p4 p5 p6 p7 hb1 P0 P1 PB
 obtain ⟨p0, p1, p2, p3, p4, p5, p6, p7⟩ := an X1.o
 obtain ⟨r0, r1, r2, y0, y1, y2⟩ := R1.o.three
 have R4 := aH (((R1.o.set_ 0 (.bool false)).set_ 1 (.slice none 0 0)).set_ 2 (.slice none 0 0))
 by_cases h0 : x < 0
 ·have x0 : decide (x < 0) = true := dT h0
  clear hx h0
  go_wp2_with fail
  obtain ⟨g0, g1, g2, _, _, _⟩ := Blk.three R4.o
  exact bodyPost_ret (v := .tuple #[.agg #[.bool false, .slice none 0 0, .slice none 0 0], .int .i64 2]) (by simp [results, Tryz.results39, go_sem, g0, g1, g2, List.mapM_cons]) rfl ⟨rfl, aL B1.o (by omega) _ _ _ _ _ _⟩
 have x0 : decide (x < 0) = false := dF h0
 have x1 : decide (V < x) = true := dT (by omega)
 clear hx h0
 go_wp2_with fail
 obtain ⟨g0, g1, g2, _, _, _⟩ := Blk.three R4.o
 exact bodyPost_ret (v := .tuple #[.agg #[.bool false, .slice none 0 0, .slice none 0 0], .int .i64 2]) (by simp [results, Tryz.results39, go_sem, g0, g1, g2, List.mapM_cons]) rfl ⟨rfl, aL B1.o (by omega) _ _ _ _ _ _⟩
def fP (hl : List Int) (x : Int) : List Int := (hl ++ [x]).drop 1
theorem fQ {w : World} {base : Nat} {v : Value} {n : Nat} {l : List Int} (h : w.ownsRow base 3 1 v n (l.map (Value.int .i64))) (hl : l.length = n) : IntsAt w v l := by
 unfold IntsAt
 rw [hl]
 exact Sl.of_own h

theorem wQ (w : World) (hv : Value) (hl : List Int) (x : Int) (hh : IntsAt w hv hl) (hlen : hl.length <= 1000) :
  Calls Tryz.prog 45 #[hv, .int .i64 x] w fun e w' => ∃ v', e = .returned v' /\ IntsAt w' v' (fP hl x) /\ Below w.heap.size w w' := by
 obtain ⟨Ah, ch, rfl, hc, hm, _⟩ := hh.open_
 obtain ⟨n, hn⟩ : ∃ n, hl.length = n := ⟨_, rfl⟩
 rw [hn] at hc hlen hh ⊢
 rcases zP n with h0 | h0
 ·subst h0
  have HN : Hd (fP hl x = []) := aH (by unfold fP; rw [List.eq_nil_of_length_eq_zero hn]; rfl)
  clear hh hn
  go_enter Tryz.func45, Tryz.ntmps45
  go_wp2_with fail
  go_ret
  exact ⟨_, rfl, by rw [HN.o]; exact IntsAt.nil_ _, Below.refl _ _⟩
 have HN : Hd (fP hl x = hl.drop 1 ++ [x]) := aH (by unfold fP; rw [List.drop_append_of_le_length (by omega)])
 obtain ⟨p, rfl⟩ : ∃ p, n = p + 1 := ⟨n - 1, by omega⟩
 obtain ⟨b, o, rfl, tl⟩ := hh.tail1 hn h0
 rw [Nat.add_sub_cancel] at tl
 have hdl : (hl.drop 1).length = p := by rw [List.length_drop]; omega
 obtain ⟨td, htd⟩ : ∃ l, hl.drop 1 = l := ⟨_, rfl⟩
 rw [htd] at tl hdl HN
 have HDL := aH hdl
 have b0 : ((p : Int) + 1 == 0) = false := by simpa using (show ¬ (p : Int) + 1 = 0 by omega)
 obtain ⟨i0, gi, gz0, gz1, gz2⟩ := info_parts eD
 clear hh hn hdl htd
 by_cases hc1 : ch = 1
 ·rw [if_pos hc1] at tl
  have TL : Hd (Sl w 1 (.slice (some ⟨b, o, none⟩) p 0) p ((td).map (Value.int .i64))) := aH (by unfold IntsAt at tl; rwa [HDL.o] at tl)
  subst hc1
  obtain rfl : p = 0 := by omega
  clear tl
  go_enter Tryz.func45, Tryz.ntmps45
  go_wp2_with (at_builtin; refine al rfl (.const (.slice none 0 0)) (.tmp 9) 44 rfl w.heap.size 3 i0 (.int .i64 0) 1 8 Tryz.underlying44 gi gz0 gz1 gz2 rfl (by decide) (.slice none 0 0) 0 [] rfl (World.ownsRow_nil ..) _ 0 ((td).map (Value.int .i64)) rfl TL.o (fo _) (by unfold maxLen; omega) (by omega) (nR _) ?_)
  intro v2 wA tA1 tA2 _
  (try rw [List.nil_append] at tA1)
  (try rw [Nat.zero_add] at tA1)
  have HOA := aH tA1
  have BA : Hd (Below w.heap.size w wA) := aH ((Below.refl _ _).grown tA2 (nR _) (by simp [Value.ownBlock]))
  have hsA : w.heap.size <= wA.heap.size := BA.o.size
  clear tA1 tA2
  go_wp2_with (at_builtin; refine al rfl (.tmp 10) (.tmp 12) 44 rfl w.heap.size 3 i0 (.int .i64 0) 1 8 Tryz.underlying44 gi gz0 gz1 gz2 rfl (by decide) _ _ _ rfl (bK HOA.o (Below.alloc (Below.refl _ _) (nR _) _)) _ 1 [.int .i64 x] rfl (Sl.one _ _ _) (by simp [Value.oneCell']) (by unfold maxLen; omega) (by omega) (by simp; omega) ?_)
  intro v3 wB tB1 tB2 _
  have HOB : Hd (IntsAt wB v3 (td ++ [x])) := aH (fQ (by rw [List.map_append]; exact tB1) (by rw [List.length_append, HDL.o]; rfl))
  have BB : Hd (Below w.heap.size w wB) := aH ((BA.o.alloc hsA _).grown tB2 (by simp; omega) (ao (From.of_own HOA.o)))
  clear tB1 tB2
  go_wp2_with fail
  go_ret
  exact ⟨_, rfl, by rw [HN.o]; exact HOB.o, BB.o⟩
 rw [if_neg hc1] at tl
 have TL : Hd (Sl w 1 (.slice (some ⟨b, o + 1, none⟩) p (ch - 1)) p ((td).map (Value.int .i64))) := aH (by unfold IntsAt at tl; rwa [HDL.o] at tl)
 have i1 : (1 : Int) <= (p : Int) + 1 := by omega
 have i2 : (p : Int) + 1 <= (ch : Int) := by omega
 clear tl
 go_enter Tryz.func45, Tryz.ntmps45
 go_wp2_with (at_builtin; refine al rfl (.const (.slice none 0 0)) (.tmp 9) 44 rfl w.heap.size 3 i0 (.int .i64 0) 1 8 Tryz.underlying44 gi gz0 gz1 gz2 rfl (by decide) (.slice none 0 0) 0 [] rfl (World.ownsRow_nil ..) _ p ((td).map (Value.int .i64)) rfl TL.o (fo _) (by unfold maxLen; omega) (by omega) (nR _) ?_)
 intro v2 wA tA1 tA2 _
 (try rw [List.nil_append] at tA1)
 (try rw [Nat.zero_add] at tA1)
 have HOA := aH tA1
 have BA : Hd (Below w.heap.size w wA) := aH ((Below.refl _ _).grown tA2 (nR _) (by simp [Value.ownBlock]))
 have hsA : w.heap.size <= wA.heap.size := BA.o.size
 clear tA1 tA2
 go_wp2_with (at_builtin; refine al rfl (.tmp 10) (.tmp 12) 44 rfl w.heap.size 3 i0 (.int .i64 0) 1 8 Tryz.underlying44 gi gz0 gz1 gz2 rfl (by decide) _ _ _ rfl (bK HOA.o (Below.alloc (Below.refl _ _) (nR _) _)) _ 1 [.int .i64 x] rfl (Sl.one _ _ _) (by simp [Value.oneCell']) (by unfold maxLen; omega) (by omega) (by simp; omega) ?_)
 intro v3 wB tB1 tB2 _
 have HOB : Hd (IntsAt wB v3 (td ++ [x])) := aH (fQ (by rw [List.map_append]; exact tB1) (by rw [List.length_append, HDL.o]; rfl))
 have BB : Hd (Below w.heap.size w wB) := aH ((BA.o.alloc hsA _).grown tB2 (by simp; omega) (ao (From.of_own HOA.o)))
 clear tB1 tB2
 go_wp2_with fail
 go_ret
 exact ⟨_, rfl, by rw [HN.o]; exact HOB.o, BB.o⟩

theorem pb (w : World) (O V : Int) (lv : Value) (gs : List Gr) (k : Int) (s : Bool) (A A' : Option Addr) (m c m' c' : Nat) (mv : Value) (a : Rat) (mix : List Rat) (hv : Value) (hl : List Int) (x : Int) (h : LangAt w lv gs s A A' m c m' c' a mv mix) (hh : IntsAt w hv hl) (hE : bM O V gs k a mix hl = 0) (hx : x < 1 ∨ V < x) :
  Calls Tryz.prog 42 #[aG O V lv k s A A' m c m' c' mv, hv, .int .i64 x] w fun e w' => e = .returned (.tuple #[.slice none 0 0, .int .i64 2]) /\ Below w.heap.size w w' := by
 obtain ⟨Al, cl, rfl, _, _, _⟩ := h.grams.open_
 obtain ⟨Am, cm, rfl, _, _, _⟩ := h.mixes.open_
 obtain ⟨Ah, ch, rfl, _, _, _⟩ := hh.open_
 have HL := aH h
 have HI := aH hh
 have HE := aH hE
 clear h hh hE
 unfold aG
 go_enter Tryz.func42, Tryz.ntmps42
 go_wp2_with fail
 obtain ⟨W, hW, P0, PB, Phs⟩ := aA w 43 [.int .i64 O, .int .i64 V, .slice Al gs.length cl, .int .i64 k, .bool s, .slice A m c, .slice A' m' c', .slice Am mix.length cm]
 rw [<- hW]
 clear hW
 obtain ⟨p0, p1, p2, p3, p4, p5, p6, p7⟩ := an P0.o
 go_wp2_with fail
 refine (bU W O V (.slice Al gs.length cl) gs k s A A' m c m' c' (.slice Am mix.length cm) a mix _ hl (HL.o.below PB.o) (HI.o.below PB.o)).mono ?_
 rintro e w1 ⟨rfl, hb1⟩
 rw [HE.o]
 have X1 := aH (P0.o.below' hb1)
 have B1 := aH (PB.o.trans (hb1.mono PB.o.size))
 clear p0 p1 p2 p3 p4 p5 p6 p7 hb1 P0 PB
 obtain ⟨p0, p1, p2, p3, p4, p5, p6, p7⟩ := an X1.o
 by_cases h0 : x < 1
 ·have x0 : decide (x < 1) = true := dT h0
  clear hx h0
  go_wp2_with fail
  first
   | (go_ret; exact ⟨rfl, B1.o⟩)
   | (go_ret2; exact ⟨rfl, B1.o⟩)
 have x0 : decide (x < 1) = false := dF h0
 have x1 : decide (V < x) = true := dT (by omega)
 clear hx h0
 go_wp2_with fail
 first
  | (go_ret; exact ⟨rfl, B1.o⟩)
  | (go_ret2; exact ⟨rfl, B1.o⟩)

theorem wR (w : World) (O V : Int) (lv : Value) (gs : List Gr) (k : Int) (s : Bool) (A A' : Option Addr) (m c m' c' : Nat) (mv : Value) (a : Rat) (mix : List Rat) (hv : Value) (hl : List Int) (x : Int) (h : LangAt w lv gs s A A' m c m' c' a mv mix) (hh : IntsAt w hv hl) (hE : bM O V gs k a mix hl = 0) (hx : 1 <= x /\ x <= V) (hlen : hl.length <= 1000) :
  Calls Tryz.prog 42 #[aG O V lv k s A A' m c m' c' mv, hv, .int .i64 x] w fun e w' => ∃ v', e = .returned (.tuple #[v', .int .i64 0]) /\ IntsAt w' v' (fP hl x) /\ Below w.heap.size w w' := by
 obtain ⟨Al, cl, rfl, _, _, _⟩ := h.grams.open_
 obtain ⟨Am, cm, rfl, _, _, _⟩ := h.mixes.open_
 obtain ⟨Ah, ch, rfl, hc, hm, _⟩ := hh.open_
 have HL := aH h
 have HI := aH hh
 have HE := aH hE
 have x0 : decide (x < 1) = false := dF (by omega)
 have x1 : decide (V < x) = false := dF (by omega)
 obtain ⟨i0, gi, gz0, gz1, gz2⟩ := info_parts eD
 obtain ⟨n, hn⟩ : ∃ n, hl.length = n := ⟨_, rfl⟩
 rw [hn] at hc hlen ⊢
 have HN := aH hn
 have HSL : Hd (∀ w', Below w.heap.size w w' -> Sl w' 1 (.slice Ah n ch) n (hl.map (Value.int .i64))) := aH (fun w' hb => by
  have h1 := HI.o.below hb
  unfold IntsAt at h1
  rwa [hn] at h1)
 have HIN : Hd (∀ w', Below w.heap.size w w' -> IntsAt w' (.slice Ah n ch) hl) := aH (fun w' hb => by rw [<- hn]; exact HI.o.below hb)
 clear h hh hE hn
 unfold aG
 go_enter Tryz.func42, Tryz.ntmps42
 go_wp2_with fail
 obtain ⟨W, hW, P0, PB, Phs⟩ := aA w 43 [.int .i64 O, .int .i64 V, .slice Al gs.length cl, .int .i64 k, .bool s, .slice A m c, .slice A' m' c', .slice Am mix.length cm]
 rw [<- hW]
 clear hW
 obtain ⟨p0, p1, p2, p3, p4, p5, p6, p7⟩ := an P0.o
 go_wp2_with fail
 refine (bU W O V (.slice Al gs.length cl) gs k s A A' m c m' c' (.slice Am mix.length cm) a mix _ hl (HL.o.below PB.o) (HIN.o W PB.o)).mono ?_
 rintro e w1 ⟨rfl, hb1⟩
 rw [HE.o]
 have X1 := aH (P0.o.below' hb1)
 have B1 := aH (PB.o.trans (hb1.mono PB.o.size))
 clear p0 p1 p2 p3 p4 p5 p6 p7 hb1 P0 PB
 obtain ⟨p0, p1, p2, p3, p4, p5, p6, p7⟩ := an X1.o
 go_wp2_with fail
 refine (oO w1 _ n (hl.map (Value.int .i64)) (HSL.o w1 B1.o) (fo _) (by omega)).mono ?_
 rintro e w2 ⟨v2, rfl, _, hb2, base, hbs, hown⟩
 have HO := aH (jx hown hbs)
 have B2 := aH (B1.o.trans (hb2.mono B1.o.size))
 have s2 : w1.heap.size <= w2.heap.size := hb2.size
 have s1 : w.heap.size <= w1.heap.size := B1.o.size
 have C2 := aH hb2
 clear p0 p1 p2 p3 p4 p5 p6 p7 hown hb2 hbs X1
 go_wp2_with (at_builtin; refine al rfl (.tmp 25) (.tmp 27) 44 rfl w1.heap.size 3 i0 (.int .i64 0) 1 8 Tryz.underlying44 gi gz0 gz1 gz2 rfl (by decide) _ _ _ rfl (bK HO.o (Below.alloc (Below.refl _ _) (nR _) _)) _ 1 [.int .i64 x] rfl (Sl.one _ _ _) (by simp [Value.oneCell']) (by unfold maxLen; omega) (by omega) (by simp; omega) ?_)
 intro v3 wB tB1 tB2 _
 have HOB : Hd (IntsAt wB v3 (hl ++ [x])) := aH (fQ (by rw [List.map_append]; exact tB1) (by rw [List.length_append, HN.o]; rfl))
 have BB : Hd (Below w.heap.size w wB) := aH (B1.o.trans (((C2.o.alloc s2 _).grown tB2 (by simp; omega) (ao (From.of_own HO.o))).mono s1))
 obtain ⟨g3, cap3, rfl⟩ := g9 tB1 (by omega)
 clear tB1 tB2
 obtain ⟨_, _, e3, tl⟩ := IntsAt.tail1 (n := n + 1) HOB.o (by rw [List.length_append, HN.o]; rfl) (by omega)
 cases e3
 rw [Nat.add_sub_cancel] at tl
 obtain ⟨_, _, e4, hcap, _, _⟩ := HOB.o.open_
 have hcap2 : n + 1 <= cap3 := by
  injection e4 with _ _ e5
  rw [List.length_append, HN.o] at hcap
  rw [e5]
  exact hcap
 have i1 : (1 : Int) <= (n : Int) + 1 := by omega
 have i2 : (n : Int) + 1 <= (cap3 : Int) := by omega
 clear e4 hcap
 by_cases hc1 : cap3 = 1
 ·rw [if_pos hc1] at tl
  have TL := aH tl
  subst hc1
  obtain rfl : n = 0 := by omega
  clear tl
  go_wp2_with fail
  first
   | (go_ret; exact ⟨_, rfl, TL.o, BB.o⟩)
   | (go_ret2; exact ⟨_, rfl, TL.o, BB.o⟩)
 rw [if_neg hc1] at tl
 have TL := aH tl
 clear tl
 go_wp2_with fail
 first
  | (go_ret; exact ⟨_, rfl, TL.o, BB.o⟩)
  | (go_ret2; exact ⟨_, rfl, TL.o, BB.o⟩)
end Go.Proofs.YtjebfdfkjlkifaaGreat
