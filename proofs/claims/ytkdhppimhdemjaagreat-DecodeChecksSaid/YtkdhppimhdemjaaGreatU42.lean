/- Lemmas on the way: Rk1, De5, Dd1. -/
import Derived.Test.YtkdhppimhdemjaaGreatU41
set_option linter.all false
set_option maxRecDepth 1000000
set_option maxHeartbeats 32000000
namespace Go.Proofs.YtkdhppimhdemjaaGreat
open Go.RowKit
theorem Cu (w:World) (O V:Int) (lv:Value) (gs:List Gr) (k:Int) (s:Bool) (A A':Option Addr) (m c m' c':Nat) (mv:Value) (a:Rat) (mix:List Rat)(h:iG w lv gs s A A' m c m' c' a mv mix) :
  Calls Tryz.prog 100 #[gL O V lv k s A A' m c m' c' mv] w fun e w'=>e = .returned (.int .i64 (bt O V gs k a mix))/\Below w.heap.size w w':=by
 obtain ⟨Al,cl,rfl,_,_,_⟩:=h.grams.open_
 obtain ⟨Am,cm,rfl,hmc,hmm,hat⟩:=h.mixes.open_
 have HL:=Lib.hid h
 obtain ⟨ml,hml⟩:∃ n,mix.length = n:=⟨_,rfl⟩
 have HLM:Hid (bz 64 w (.slice Am ml cm) mix):=Lib.hid (by rw [<- hml]; exact h.mixes)
 have HSH:=Lib.hid h.short
 have HAT:=Lib.hid hat
 have QA:=Lib.hid (h.amount.qb (by omega))
 rw [hml] at hmc ⊢
 have HML:=Lib.hid hml
 have hms:ml <= 1000000:=by rw [<- hml]; exact h.short
 clear h hml hat
 unfold gL
 go_enter Tryz.func100,Tryz.ntmps100
 go_wp2_with fail
 obtain ⟨W,hW,P0,PB,Phs⟩:=eU w 33 [.int .i64 O,.int .i64 V,.slice Al gs.length cl,.int .i64 k,.bool s,.slice A m c,.slice A' m' c',.slice Am ml cm]
 rw [<- hW]
 clear hW
 obtain ⟨p0,p1,p2,p3,p4,p5,p6,p7⟩:=dq P0.out
 go_wp2_with fail
 refine (qO W O V _ gs (HL.out.grams.below PB.out)).mono ?_
 rintro e w1 ⟨rfl,hb1⟩
 have P1:=Lib.hid (P0.out.below' hb1)
 have B1:=Lib.hid (PB.out.trans (hb1.mono PB.out.size))
 clear p0 p1 p2 p3 p4 p5 p6 p7 hb1 P0 PB
 obtain ⟨p0,p1,p2,p3,p4,p5,p6,p7⟩:=dq P1.out
 obtain ⟨te,hte⟩:∃ z,bN O V gs = z:=⟨_,rfl⟩
 rw [hte]
 have HTE:=Lib.hid hte
 clear hte
 by_cases h0:te = 0
 ·subst h0
  have HO:=jZ (iQ HTE.out).2.1
  have HE0:Hid (bt O V gs k a mix = if aM k a mix O = true then 0 else 2):=Lib.hid (by unfold bt; rw [HTE.out]; rfl)
  obtain ⟨sa,hsa⟩:∃ z,ce a = z:=⟨_,rfl⟩
  have HSA:=Lib.hid hsa
  clear hsa
  by_cases hk1:k = 1
  ·subst hk1
   by_cases hz:ml = 0
   ·have f1:((ml:Int) == 0) = true:=by simpa using hz
    by_cases hs:0 < sa
    ·have d1:decide ((0:Int) < sa) = true:=decide_eq_true hs
     have HV:Hid (aM 1 a mix O = true):=Lib.hid (by unfold aM; rw [if_pos rfl,HSA.out,HML.out,d1,f1]; rfl)
     clear hz hs
     go_wp2_with fail
     refine (iV w1 _ a 64 (HL.out.amount.below B1.out) (by omega)).mono ?_
     rintro e w2 ⟨rfl,hb2⟩
     rw [HSA.out]
     have B2:=Lib.hid (B1.out.trans (hb2.mono B1.out.size))
     have P2:=Lib.hid (P1.out.below' hb2)
     clear p0 p1 p2 p3 p4 p5 p6 p7 hb2
     obtain ⟨p0,p1,p2,p3,p4,p5,p6,p7⟩:=dq P2.out
     have HE:Hid (bt O V gs 1 a mix = 0):=Lib.hid (by rw [HE0.out,HV.out]; rfl)
     go_wp2_with fail
     go_ret
     exact ⟨aq HE.out.symm,B2.out⟩
    have d1:decide ((0:Int) < sa) = false:=decide_eq_false hs
    have HV:Hid (aM 1 a mix O = false):=Lib.hid (by unfold aM; rw [if_pos rfl,HSA.out,d1]; rfl)
    clear hz hs
    go_wp2_with fail
    refine (iV w1 _ a 64 (HL.out.amount.below B1.out) (by omega)).mono ?_
    rintro e w2 ⟨rfl,hb2⟩
    rw [HSA.out]
    have B2:=Lib.hid (B1.out.trans (hb2.mono B1.out.size))
    have P2:=Lib.hid (P1.out.below' hb2)
    clear p0 p1 p2 p3 p4 p5 p6 p7 hb2
    obtain ⟨p0,p1,p2,p3,p4,p5,p6,p7⟩:=dq P2.out
    have HE:Hid (bt O V gs 1 a mix = 2):=Lib.hid (by rw [HE0.out,HV.out]; rfl)
    go_wp2_with fail
    go_ret
    exact ⟨aq HE.out.symm,B2.out⟩
   have f1:((ml:Int) == 0) = false:=by simpa using hz
   have HV:Hid (aM 1 a mix O = false):=Lib.hid (by unfold aM; rw [if_pos rfl,HML.out,f1,Bool.and_false])
   clear hz
   have HE:Hid (bt O V gs 1 a mix = 2):=Lib.hid (by rw [HE0.out,HV.out]; rfl)
   go_wp2_with fail
   go_ret
   exact ⟨aq HE.out.symm,B1.out⟩
  have n1:(k == 1) = false:=by simpa using hk1
  by_cases hk2:k = 2
  ·subst hk2
   clear n1 hk1
   have i1:IntKind.i64.wrap (O + 1) = O + 1:=IntWalk.i64_in _ (by omega)
   by_cases hs:sa = 0
   ·have d1:(sa == 0) = true:=by simpa using hs
    clear hs
    go_wp2_with fail
    refine (iV w1 _ a 64 (HL.out.amount.below B1.out) (by omega)).mono ?_
    rintro e w2 ⟨rfl,hb2⟩
    rw [HSA.out]
    have B2:=Lib.hid (B1.out.trans (hb2.mono B1.out.size))
    have P2:=Lib.hid (P1.out.below' hb2)
    clear p0 p1 p2 p3 p4 p5 p6 p7 hb2
    obtain ⟨p0,p1,p2,p3,p4,p5,p6,p7⟩:=dq P2.out
    by_cases hz:(ml:Int) = O + 1
    ·have f1:((ml:Int) == O + 1) = true:=by simpa using hz
     have hm1:1 < ml:=by omega
     have f2:(0:Int) < (ml:Int):=by omega
     go_wp2_with fail
     refine (lW w2 64 _ mix (HLM.out.below B2.out) (by omega) (by rw [HML.out]; omega)).mono ?_
     rintro e w3 ⟨rfl,hb3⟩
     obtain ⟨db,hdb⟩:∃ z,cG mix = z:=⟨_,rfl⟩
     rw [hdb]
     have HDB:=Lib.hid hdb
     clear hdb
     have B3:=Lib.hid (B2.out.trans (hb3.mono B2.out.size))
     have P3:=Lib.hid (P2.out.below' hb3)
     clear p0 p1 p2 p3 p4 p5 p6 p7 hb3
     obtain ⟨p0,p1,p2,p3,p4,p5,p6,p7⟩:=dq P3.out
     cases db with
     | false =>
      have HV:Hid (aM 2 a mix O = false):=Lib.hid (by unfold aM; rw [if_neg (by decide),if_pos rfl,HDB.out]; simp)
      have HE:Hid (bt O V gs 2 a mix = 2):=Lib.hid (by rw [HE0.out,HV.out]; rfl)
      go_wp2_with fail
      go_ret
      exact ⟨aq HE.out.symm,B3.out⟩
     | true =>
      obtain ⟨x,hx⟩:∃ x,mix[0]? = some x:=⟨_,List.getElem?_eq_getElem (by rw [HML.out]; omega)⟩
      obtain ⟨_,_,ee,_,_,hat2⟩:=HLM.out.at_
      obtain ⟨bm,om,ng,An,nn,cn,Ad,nd,cd,he,hbm,e0,e1,e2,hf⟩:=hat2 0 x hx
      have hA:Am = some ⟨bm,om,none⟩:=by cases ee; exact he
      subst hA
      have HG:Hid (mix.getD 0 0 = x):=Lib.hid (by rw [List.getD_eq_getElem?_getD,hx]; rfl)
      simp only [Nat.zero_mul,Nat.add_zero] at e0 e1 e2
      have c0:=(B3.out.cell (p:=⟨bm,om,none⟩) hbm).trans e0
      have c1:=(B3.out.cell (p:=⟨bm,om + 1,none⟩) hbm).trans e1
      have c2:=(B3.out.cell (p:=⟨bm,om + 2,none⟩) hbm).trans e2
      have FX:=Lib.hid hf
      clear hx ee hat2 he e0 e1 e2 hf
      go_wp2_with fail
      refine (iV w3 _ x 64 (FX.out.below B3.out) (by omega)).mono ?_
      rintro e w4 ⟨rfl,hb4⟩
      obtain ⟨sx,hsx⟩:∃ z,ce x = z:=⟨_,rfl⟩
      rw [hsx]
      have HSX:=Lib.hid hsx
      clear hsx c0 c1 c2
      have B4:=Lib.hid (B3.out.trans (hb4.mono B3.out.size))
      have P4:=Lib.hid (P3.out.below' hb4)
      clear p0 p1 p2 p3 p4 p5 p6 p7 hb4
      obtain ⟨p0,p1,p2,p3,p4,p5,p6,p7⟩:=dq P4.out
      by_cases hc:0 < sx
      ·have d2:decide (0 < sx) = true:=decide_eq_true hc
       have HV:Hid (aM 2 a mix O = true):=Lib.hid (by unfold aM; rw [if_neg (by decide),if_pos rfl,HSA.out,HML.out,HDB.out,HG.out,HSX.out,d1,f1,d2]; rfl)
       clear hc hz
       have HE:Hid (bt O V gs 2 a mix = 0):=Lib.hid (by rw [HE0.out,HV.out]; rfl)
       go_wp2_with fail
       go_ret
       exact ⟨aq HE.out.symm,B4.out⟩
      have d2:decide (0 < sx) = false:=decide_eq_false hc
      have HV:Hid (aM 2 a mix O = false):=Lib.hid (by unfold aM; rw [if_neg (by decide),if_pos rfl,HG.out,HSX.out,d2]; simp)
      clear hc hz
      have HE:Hid (bt O V gs 2 a mix = 2):=Lib.hid (by rw [HE0.out,HV.out]; rfl)
      go_wp2_with fail
      go_ret
      exact ⟨aq HE.out.symm,B4.out⟩
    have f1:((ml:Int) == O + 1) = false:=by simpa using hz
    have HV:Hid (aM 2 a mix O = false):=Lib.hid (by unfold aM; rw [if_neg (by decide),if_pos rfl,HML.out,f1]; simp)
    clear hz
    have HE:Hid (bt O V gs 2 a mix = 2):=Lib.hid (by rw [HE0.out,HV.out]; rfl)
    go_wp2_with fail
    go_ret
    exact ⟨aq HE.out.symm,B2.out⟩
   have d1:(sa == 0) = false:=by simpa using hs
   have HV:Hid (aM 2 a mix O = false):=Lib.hid (by unfold aM; rw [if_neg (by decide),if_pos rfl,HSA.out,d1]; rfl)
   clear hs
   go_wp2_with fail
   refine (iV w1 _ a 64 (HL.out.amount.below B1.out) (by omega)).mono ?_
   rintro e w2 ⟨rfl,hb2⟩
   rw [HSA.out]
   have B2:=Lib.hid (B1.out.trans (hb2.mono B1.out.size))
   have P2:=Lib.hid (P1.out.below' hb2)
   clear p0 p1 p2 p3 p4 p5 p6 p7 hb2
   obtain ⟨p0,p1,p2,p3,p4,p5,p6,p7⟩:=dq P2.out
   have HE:Hid (bt O V gs 2 a mix = 2):=Lib.hid (by rw [HE0.out,HV.out]; rfl)
   go_wp2_with fail
   go_ret
   exact ⟨aq HE.out.symm,B2.out⟩
  have n2:(k == 2) = false:=by simpa using hk2
  by_cases hk3:k = 3
  ·subst hk3
   clear n1 n2 hk1 hk2
   by_cases hz:ml = 0
   ·have f1:((ml:Int) == 0) = true:=by simpa using hz
    have BB:=Lib.hid (Below.refl w1.heap.size w1)
    have hS:=And.intro p4 (And.intro p5 p6)
    obtain ⟨sc,hsc⟩:∃ z,ce (a - ((1:Nat):Rat)) = z:=⟨_,rfl⟩
    have HSC:Hid (ce (a - ((1:Nat):Rat)) = sc):=Lib.hid hsc
    have HSC1:Hid (ce (a - 1) = sc):=Lib.hid hsc
    clear hsc
    by_cases hs:0 < sa
    ·have d1:decide ((0:Int) < sa) = true:=decide_eq_true hs
     by_cases hc:sc < 0
     ·have d2:decide (sc < 0) = true:=decide_eq_true hc
      have HV:Hid (aM 3 a mix O = true):=Lib.hid (by unfold aM; rw [if_neg (by decide),if_neg (by decide),if_pos rfl,HSC1.out,HSA.out,HML.out,decide_eq_false (show ¬ 0 <= sc by omega),d1,f1]; rfl)
      have HE:Hid (bt O V gs 3 a mix = 0):=Lib.hid (by rw [HE0.out,HV.out]; rfl)
      clear hc hz hs
      go_wp2_with fail
      go_region_held3 (fun w'=>w'.cell? ⟨w.heap.size,4,none⟩ = some (.bool s)/\w'.cell? ⟨w.heap.size,5,none⟩ = some (.slice A m c)/\w'.cell? ⟨w.heap.size,6,none⟩ = some (.slice A' m' c'))
       (first | assumption | go_keep)
       (first
        | (go_at_call 14; refine (iV _ _ a 64 (HL.out.amount.below B1.out |>.below (by first | exact BB.out | exact BB.out.trans (ak _) | exact BB.out.trans ((ak _).mono BB.out.size))) (by omega)).mono ?_; rintro e wl ⟨rfl,hb⟩; rw [HSA.out]; have hb0:=hb; (first | replace hb:=aX hb | replace hb:=ci hb | replace hb:=ah hb | skip); replace BB:=Lib.hid (BB.out.trans (hb.mono BB.out.size)); clear hb0; have hS:=And.intro ((P1.out.below' BB.out).cell 4) (And.intro ((P1.out.below' BB.out).cell 5) ((P1.out.below' BB.out).cell 6)); clear hb)
        | (go_at_call 17; refine (NW _ 1 (by omega)).mono ?_; rintro e wl ⟨u,rfl,t3,hb⟩; have hb0:=hb; (first | replace hb:=aX hb | replace hb:=ci hb | replace hb:=ah hb | skip); replace BB:=Lib.hid (BB.out.trans (hb.mono BB.out.size)); clear hb0; obtain ⟨Au,mu,cu,Au',mu',cu',rfl⟩:=t3.at_.open_; have T3:=Lib.hid (t3.at_.frac (k:=64) (eX (n:=1) (k:=64) (by omega) (by omega)) (by omega)); have hS:=And.intro ((P1.out.below' BB.out).cell 4) (And.intro ((P1.out.below' BB.out).cell 5) ((P1.out.below' BB.out).cell 6)); clear hb t3)
        | (go_at_call 37; refine (Jq _ _ _ a ((1:Nat):Rat) 64 (HL.out.amount.below B1.out |>.below (by first | exact BB.out | exact BB.out.trans ((ak _).mono BB.out.size))) ?_ (by omega) (by omega)).mono ?_; (first | exact T3.out | exact T3.out.below (ak _) | exact T3.out.below (bh _ _) | exact T3.out.below (below_alloc_drew _ _)); rintro e wl ⟨rfl,hb⟩; rw [HSC.out]; have hb0:=hb; (first | replace hb:=aX hb | replace hb:=ci hb | replace hb:=ah hb | skip); replace BB:=Lib.hid (BB.out.trans (hb.mono BB.out.size)); clear hb0; have hS:=And.intro ((P1.out.below' BB.out).cell 4) (And.intro ((P1.out.below' BB.out).cell 5) ((P1.out.below' BB.out).cell 6)); clear hb))
      all_goals
       go_wp2_with fail
       go_ret
       exact ⟨aq HE.out.symm,B1.out.trans (BB.out.mono B1.out.size)⟩
     have d2:decide (sc < 0) = false:=decide_eq_false hc
     have HV:Hid (aM 3 a mix O = false):=Lib.hid (by unfold aM; rw [if_neg (by decide),if_neg (by decide),if_pos rfl,HSC1.out,decide_eq_true (show 0 <= sc by omega)]; rfl)
     have HE:Hid (bt O V gs 3 a mix = 2):=Lib.hid (by rw [HE0.out,HV.out]; rfl)
     clear hc hz hs
     go_wp2_with fail
     go_region_held3 (fun w'=>w'.cell? ⟨w.heap.size,4,none⟩ = some (.bool s)/\w'.cell? ⟨w.heap.size,5,none⟩ = some (.slice A m c)/\w'.cell? ⟨w.heap.size,6,none⟩ = some (.slice A' m' c'))
      (first | assumption | go_keep)
      (first
       | (go_at_call 14; refine (iV _ _ a 64 (HL.out.amount.below B1.out |>.below (by first | exact BB.out | exact BB.out.trans (ak _) | exact BB.out.trans ((ak _).mono BB.out.size))) (by omega)).mono ?_; rintro e wl ⟨rfl,hb⟩; rw [HSA.out]; have hb0:=hb; (first | replace hb:=aX hb | replace hb:=ci hb | replace hb:=ah hb | skip); replace BB:=Lib.hid (BB.out.trans (hb.mono BB.out.size)); clear hb0; have hS:=And.intro ((P1.out.below' BB.out).cell 4) (And.intro ((P1.out.below' BB.out).cell 5) ((P1.out.below' BB.out).cell 6)); clear hb)
       | (go_at_call 17; refine (NW _ 1 (by omega)).mono ?_; rintro e wl ⟨u,rfl,t3,hb⟩; have hb0:=hb; (first | replace hb:=aX hb | replace hb:=ci hb | replace hb:=ah hb | skip); replace BB:=Lib.hid (BB.out.trans (hb.mono BB.out.size)); clear hb0; obtain ⟨Au,mu,cu,Au',mu',cu',rfl⟩:=t3.at_.open_; have T3:=Lib.hid (t3.at_.frac (k:=64) (eX (n:=1) (k:=64) (by omega) (by omega)) (by omega)); have hS:=And.intro ((P1.out.below' BB.out).cell 4) (And.intro ((P1.out.below' BB.out).cell 5) ((P1.out.below' BB.out).cell 6)); clear hb t3)
       | (go_at_call 37; refine (Jq _ _ _ a ((1:Nat):Rat) 64 (HL.out.amount.below B1.out |>.below (by first | exact BB.out | exact BB.out.trans ((ak _).mono BB.out.size))) ?_ (by omega) (by omega)).mono ?_; (first | exact T3.out | exact T3.out.below (ak _) | exact T3.out.below (bh _ _) | exact T3.out.below (below_alloc_drew _ _)); rintro e wl ⟨rfl,hb⟩; rw [HSC.out]; have hb0:=hb; (first | replace hb:=aX hb | replace hb:=ci hb | replace hb:=ah hb | skip); replace BB:=Lib.hid (BB.out.trans (hb.mono BB.out.size)); clear hb0; have hS:=And.intro ((P1.out.below' BB.out).cell 4) (And.intro ((P1.out.below' BB.out).cell 5) ((P1.out.below' BB.out).cell 6)); clear hb))
     all_goals
      go_wp2_with fail
      go_ret
      exact ⟨aq HE.out.symm,B1.out.trans (BB.out.mono B1.out.size)⟩
    have d1:decide ((0:Int) < sa) = false:=decide_eq_false hs
    have HV:Hid (aM 3 a mix O = false):=Lib.hid (by unfold aM; rw [if_neg (by decide),if_neg (by decide),if_pos rfl,HSA.out,d1]; simp)
    have HE:Hid (bt O V gs 3 a mix = 2):=Lib.hid (by rw [HE0.out,HV.out]; rfl)
    clear hz hs
    have HSET:Hid (∀ w',Below w1.heap.size w1 w'->Below w1.heap.size w1 w'/\w'.cell? ⟨w.heap.size,4,none⟩ = some (.bool s)/\w'.cell? ⟨w.heap.size,5,none⟩ = some (.slice A m c)/\w'.cell? ⟨w.heap.size,6,none⟩ = some (.slice A' m' c')):=Lib.hid (fun w' hb=>⟨hb,(P1.out.below' hb).cell 4,(P1.out.below' hb).cell 5,(P1.out.below' hb).cell 6⟩)
    clear hS
    have hS:=HSET.out w1.drew (ak w1)
    go_wp2_with fail
    refine wp_region_held_drew (S:=(fun w'=>Below w1.heap.size w1 w'/\w'.cell? ⟨w.heap.size,4,none⟩ = some (.bool s)/\w'.cell? ⟨w.heap.size,5,none⟩ = some (.slice A m c)/\w'.cell? ⟨w.heap.size,6,none⟩ = some (.slice A' m' c'))) (by kernel_rfl) hS (fun hHeld=>?_)
    clear hS
    refine Hk 0 ?_ rfl (by kernel_rfl) rfl ‹_› ?_ (fun _ _ _ h=>h) (Hk 1 ?_ rfl (by kernel_rfl) rfl ‹_› ?_ (fun _ _ _ h=>h) ?_)
    iterate 2 (rotate_left; · (intro w' hSw; (try dsimp only at hSw); (try go_frame); go_simp <;> with_reducible rfl))
    go_frame
    refine Hk 2 ?_ rfl (by kernel_rfl) rfl ‹_› ?_ (fun _ _ _ h=>h) (Hk 3 ?_ rfl (by kernel_rfl) rfl ‹_› ?_ (fun _ _ _ h=>h) ?_)
    iterate 2 (rotate_left; · (intro w' hSw; (try dsimp only at hSw); (try go_frame); go_simp <;> with_reducible rfl))
    go_frame
    refine wpAnyH_ready (rs:=[4]) (by kernel_rfl) (by simp) ?_
    refine AllReadyH.cons rfl (fun K hK=>?_) AllReadyH.nil
    go_simp
    refine (iV _ _ a 64 ((HL.out.amount.below B1.out).below hHeld.1) (by omega)).mono ?_
    rintro e wl ⟨rfl,hb⟩
    rw [HSA.out]
    have hS:=HSET.out wl (hHeld.1.trans (hb.mono hHeld.1.size))
    clear hb hHeld
    try go_simp
    refine hK.out _ _ hS (fun hHeld=>?_)
    clear hK K hS
    try go_frame
    refine Hk 5 ?_ rfl (by kernel_rfl) rfl ‹_› ?_ (fun _ _ _ h=>h) (Hk 6 ?_ rfl (by kernel_rfl) rfl ‹_› ?_ (fun _ _ _ h=>h) (Hk 7 ?_ rfl (by kernel_rfl) rfl ‹_› ?_ (fun _ _ _ h=>h) ?_))
    iterate 3 (rotate_left; · (intro w' hSw; (try dsimp only at hSw); (try go_frame); go_simp <;> with_reducible rfl))
    go_frame
    refine MU 8 rfl (by kernel_rfl) rfl ‹_› (fun _ _ _ h=>h) ?_
    go_frame
    refine MU 9 rfl (by kernel_rfl) rfl ‹_› (fun _ _ _ h=>h) ?_
    go_frame
    refine MU 10 rfl (by kernel_rfl) rfl ‹_› (fun _ _ _ h=>h) ?_
    go_frame
    refine MU 11 rfl (by kernel_rfl) rfl ‹_› (fun _ _ _ h=>h) ?_
    go_frame
    refine MU 12 rfl (by kernel_rfl) rfl ‹_› (fun _ _ _ h=>h) ?_
    go_frame
    refine Hk 13 ?_ rfl (by kernel_rfl) rfl ‹_› ?_ (fun _ _ _ h=>h) (Hk 14 ?_ rfl (by kernel_rfl) rfl ‹_› ?_ (fun _ _ _ h=>h) ?_)
    iterate 2 (rotate_left; · (intro w' hSw; (try dsimp only at hSw); (try go_frame); go_simp <;> with_reducible rfl))
    go_frame
    refine wpAnyH_done (by kernel_rfl) ?_ _
    have hEND:=B1.out.trans (hHeld.1.mono B1.out.size)
    clear hHeld
    go_wp2_with fail
    go_ret
    exact ⟨aq HE.out.symm,hEND⟩
   have f1:((ml:Int) == 0) = false:=by simpa using hz
   have HV:Hid (aM 3 a mix O = false):=Lib.hid (by unfold aM; rw [if_neg (by decide),if_neg (by decide),if_pos rfl,HML.out,f1]; simp)
   have HE:Hid (bt O V gs 3 a mix = 2):=Lib.hid (by rw [HE0.out,HV.out]; rfl)
   clear hz
   go_wp2_with fail
   go_quiet (fail)
   go_wp2_with fail
   go_ret
   exact ⟨aq HE.out.symm,aJ B1.out _⟩
  have n3:(k == 3) = false:=by simpa using hk3
  by_cases hk4:k = 4
  ·subst hk4
   clear n1 n2 n3 hk1 hk2 hk3
   by_cases hz:ml = 0
   ·have f1:((ml:Int) == 0) = true:=by simpa using hz
    by_cases hs:sa = 0
    ·have d1:(sa == 0) = true:=by simpa using hs
     have HV:Hid (aM 4 a mix O = true):=Lib.hid (by unfold aM; rw [if_neg (by decide),if_neg (by decide),if_neg (by decide),if_pos rfl,HSA.out,HML.out,d1,f1]; rfl)
     clear hz hs
     go_wp2_with fail
     refine (iV w1 _ a 64 (HL.out.amount.below B1.out) (by omega)).mono ?_
     rintro e w2 ⟨rfl,hb2⟩
     rw [HSA.out]
     have B2:=Lib.hid (B1.out.trans (hb2.mono B1.out.size))
     have P2:=Lib.hid (P1.out.below' hb2)
     clear p0 p1 p2 p3 p4 p5 p6 p7 hb2
     obtain ⟨p0,p1,p2,p3,p4,p5,p6,p7⟩:=dq P2.out
     have HE:Hid (bt O V gs 4 a mix = 0):=Lib.hid (by rw [HE0.out,HV.out]; rfl)
     go_wp2_with fail
     go_ret
     exact ⟨aq HE.out.symm,B2.out⟩
    have d1:(sa == 0) = false:=by simpa using hs
    have HV:Hid (aM 4 a mix O = false):=Lib.hid (by unfold aM; rw [if_neg (by decide),if_neg (by decide),if_neg (by decide),if_pos rfl,HSA.out,d1]; rfl)
    clear hz hs
    go_wp2_with fail
    refine (iV w1 _ a 64 (HL.out.amount.below B1.out) (by omega)).mono ?_
    rintro e w2 ⟨rfl,hb2⟩
    rw [HSA.out]
    have B2:=Lib.hid (B1.out.trans (hb2.mono B1.out.size))
    have P2:=Lib.hid (P1.out.below' hb2)
    clear p0 p1 p2 p3 p4 p5 p6 p7 hb2
    obtain ⟨p0,p1,p2,p3,p4,p5,p6,p7⟩:=dq P2.out
    have HE:Hid (bt O V gs 4 a mix = 2):=Lib.hid (by rw [HE0.out,HV.out]; rfl)
    go_wp2_with fail
    go_ret
    exact ⟨aq HE.out.symm,B2.out⟩
   have f1:((ml:Int) == 0) = false:=by simpa using hz
   have HV:Hid (aM 4 a mix O = false):=Lib.hid (by unfold aM; rw [if_neg (by decide),if_neg (by decide),if_neg (by decide),if_pos rfl,HML.out,f1,Bool.and_false])
   clear hz
   have HE:Hid (bt O V gs 4 a mix = 2):=Lib.hid (by rw [HE0.out,HV.out]; rfl)
   go_wp2_with fail
   go_ret
   exact ⟨aq HE.out.symm,B1.out⟩
  have n4:(k == 4) = false:=by simpa using hk4
  have HV:Hid (aM k a mix O = false):=Lib.hid (by unfold aM; rw [if_neg hk1,if_neg hk2,if_neg hk3,if_neg hk4])
  clear hk1 hk2 hk3 hk4
  obtain ⟨fb,hfb⟩:∃ b,((ml:Int) == 0) = b:=⟨_,rfl⟩
  cases fb
  all_goals
   have HE:Hid (bt O V gs k a mix = 2):=Lib.hid (by rw [HE0.out,HV.out]; rfl)
   go_wp2_with fail
   go_ret
   exact ⟨aq HE.out.symm,B1.out⟩
 have e1:(te != 0) = true:=by simpa using h0
 have HE:Hid (bt O V gs k a mix = te):=Lib.hid (by unfold bt; rw [HTE.out,if_pos h0])
 clear h0
 go_wp2_with fail
 go_ret
 exact ⟨aq HE.out.symm,B1.out⟩
theorem IR (l:List Int) (s:St):ti s (.vw (is l) l.length) = some l:=by
 have h:nw (is l) = some l:=by
  induction l with
  | nil=>rfl
  | cons x l ih=>show (nw (is l)).map (x :: ·) = _; rw [ih]; rfl
 unfold ti
 simp only [cA,fW (show (is l).length = l.length * 1 by simp [is]),Option.bind_some,uY,cond_true,jJ,h]
theorem Fo (l:List Gr):(rY l).all flat = true:=nK (fun _=>rfl) l
theorem tq (s:St):∀ l:List Gr,kx s (rY l) = some l
 | []=>rfl
 | g :: l=>by
  show kx s (Km g ++ rY l) = _
  simp only [Km,List.cons_append,List.nil_append,kx,IR,tq s l]
theorem EH {l:List RF} (h:∀ x ∈ l,x.Ok) (s:St):jH s (bF l) = some (iY l):=by
 unfold jH
 simp only [bF,cA,fW (gg l),Option.bind_some,mZ h,cond_true,jJ,iX h]
theorem IL {L:LG} (ok:L.Ok) (s:St):s5 s (.agg L.cells) = some (L.O,L.V,L.gs,L.k,L.am.q,L.qs):=by
 have h1:ri s (.vw (rY L.gs) L.gs.length) = some L.gs:=by
  unfold ri
  simp only [cA,fW (show (rY L.gs).length = L.gs.length * 2 from eS uZ _),Option.bind_some,Fo,cond_true,jJ,tq]
 have h2:=ok.ham.v
 simp only [rC] at h2
 have h3:=ok.hmix.2
 simp only [LG.cells,s5,h1,h2,EH ok.hmix.1]
 rw [cQ (show (iY L.mix).length <= 1000000 by simp [iY]; omega),cond_true]
 rfl
theorem tD {L:LG} (ok:L.Ok) (s:St):gp [.agg [.i .i64 L.O,.i .i64 L.V,.vw (rY L.gs) L.gs.length,.i .i64 L.k,.b L.am.neg,L.am.n,L.am.d,bF L.mix]] s = some (.i .i64 L.err,s):=by
 have:=IL ok s
 unfold LG.cells at this
 simp only [gp,this,Option.map_some]
 rfl
theorem zB:ag Tryz.prog 100 gp:=tB (by kernel_rfl) Cu
theorem pq {t:TD} (h:fA t = false):t.ms.length <= 60/\t.L.gs.length <= 20000/\(∀ m ∈ t.ms,dk m = false)/\∀ l ∈ t.ws,l.length <= 10/\∀ v ∈ l,v.ph.length <= 20:=by
 unfold fA at h
 simp only [Bool.or_eq_false_iff,decide_eq_false_iff_not,List.any_eq_false] at h
 obtain ⟨⟨⟨h1,h2⟩,h3⟩,h4⟩:=h
 refine ⟨by omega,by omega,fun m hm=>by simpa using h3 m hm,fun l hl=>?_⟩
 have:=h4 l hl
 unfold i5 at this
 simp only [Bool.or_eq_true,decide_eq_true_eq,List.any_eq_true,not_or,not_exists,not_and] at this
 exact ⟨by omega,fun v hv=>by have:=this.2 v hv; omega⟩
noncomputable def validTV:=ofE pH (fun t=>t.Ok/\fA t = false) fun t=>.b (bQ t)
theorem NY {a b:Int} {t:Bool} (h:(!decide (a = b)) = t):decide (a = b) = !t:=by rw [<- h,Bool.not_not]
theorem zu:ag Tryz.prog 35 (ae validTV):=by
 obtain ⟨E,M,c1,c2,c3,c4,c5⟩:=Ox (ae validMV) (ae symV) (ae symTV) (ae wordV) gp ⟨Dh,lA,JG,JF,zB⟩ rfl
 refine ai (by kernel_rfl) Tryz.func35 Tryz.ntmps35 rfl ?_
 intro args v h
 obtain ⟨t,⟨ok,hlong⟩,rfl,rfl⟩:=aB h
 obtain ⟨l1,l2,l3,l4⟩:=pq hlong
 have f1:=ok.hL.ham.fn
 have f2:=ok.hL.ham.fd
 refine ⟨by simp only [pH,aE,bare,bI ok]; rfl,rfl,Nat.le_of_ble_eq_true rfl,?_⟩
 have hg:=tD ok.hL
 have hsy:0 < t.ms.length->∀ s,ae symTV [.agg (tC t)] s = some (.i .i64 (iw t),s):=fun h=>bD hX ⟨ok,h⟩
 unfold pH
 unfold tC at hsy ⊢
 rw [bT,St.of_nil]
 obtain ⟨b1,e1⟩:∃ b,decide ((t.ms.length:Int) < 1) = b:=⟨_,rfl⟩
 obtain ⟨b2,e2⟩:∃ b,(!decide ((t.ws.length:Int) = t.L.V)) = b:=⟨_,rfl⟩
 obtain ⟨b3,e3⟩:∃ b,(!decide (t.L.err = 0)) = b:=⟨_,rfl⟩
 obtain ⟨pm,hpm⟩:∃ p:MD->Bool,(fun m=>bM m && Nat.beq (dj m) (iw t)) = p:=⟨_,rfl⟩
 have hv:bQ t = (!b1 && !b2 && !b3 && t.ms.all pm && t.ws.all (g9 t.ms.length)):=by unfold bQ; rw [N8 e1,NY e2,NY e3,hpm]
 refine rg M (ax @f1 @f2) ?_
 refine Jd.seq ?_
 rcases dP b1 b2 b3 true true with rfl | ⟨rfl,rfl⟩ | ⟨rfl,rfl,rfl⟩ | ⟨rfl,rfl,rfl,_⟩ | ⟨_,_,_,h,_⟩ | ⟨_,_,_,h,_⟩
 rotate_left 4
 iterate 2 (· cases h)
 iterate 3 (· (refine rg M (ax @e1 (ax @e2 (ax @e3 (ax @f1 (ax @f2 (ax @c5 @hg)))))) ?_; refine cT rfl ?_; refine aZ M ?_; exact Jd.retT (aA.one rfl rfl (by rw [hv]; rfl))))
 have hv:bQ t = (t.ms.all pm && t.ws.all (g9 t.ms.length)):=hv
 have h0:0 < t.ms.length:=by have:=of_decide_eq_false e1; omega
 have hsy:=hsy h0
 refine rg M (ax @e1 (ax @e2 (ax @e3 (ax @f1 (ax @f2 (ax @c5 @hg)))))) ?_
 refine lF rfl ?_
 refine Jd.seq ?_
 refine aZ M ?_
 refine Jd.loopS t.ms.length (fun i=>[(3,.i .i64 (i:Int)),(1,.ptr 0 0)]) (fun i=>(t.ms.take i).all pm = true) ⟨rfl,rfl,trivial⟩ rfl ?_
 intro i hi hj Q' hex hret hgo
 refine Jd.seq ?_
 refine aZ M ?_
 refine Jd.cnd rfl (fun h1=>?_) (fun h1=>?_)
 rotate_left
 ·refine Jd.exitT (hex _ _ ?_)
  show Jb _ _ _ _ _ _
  have hi2:i = t.ms.length:=by have:=of_decide_eq_false h1; omega
  rw [hi2,List.take_length] at hj
  rw [hj,Bool.true_and] at hv
  clear hex hret hgo
  refine Jd.seq ?_
  refine aZ M ?_
  refine Jd.loopS t.ws.length (fun i=>[(4,.i .i64 (i:Int)),(1,.ptr 0 0)]) (fun i=>(t.ws.take i).all (g9 t.ms.length) = true) ⟨rfl,rfl,trivial⟩ rfl ?_
  intro i hi hj Q' hex hret hgo
  refine Jd.seq ?_
  refine aZ M ?_
  refine Jd.cnd rfl (fun h1=>?_) (fun h1=>?_)
  rotate_left
  ·refine Jd.exitT (hex _ _ ?_)
   show Jb _ _ _ _ _ _
   have hi2:i = t.ws.length:=by have:=of_decide_eq_false h1; omega
   rw [hi2,List.take_length] at hj
   refine aZ M ?_
   exact Jd.ret (aA.one rfl rfl (by rw [hv,hj]))
  have hil:i < t.ws.length:=by have:=of_decide_eq_true h1; omega
  have lw:=ok.hws.2
  obtain ⟨l,hx⟩:∃ r,t.ws[i]? = some r:=⟨_,List.getElem?_eq_getElem hil⟩
  have hlm:=List.mem_of_getElem? hx
  have hwd:∀ s,ae wordV [.vw (Aa l) l.length,.i .i64 (t.ms.length:Int)] s = some (.b (g9 t.ms.length l),s):=bD (d:=(l,t.ms.length)) Ha ⟨(l4 l hlm).1,fun v hv=>⟨((ok.hws.1 l hlm).1 v hv).1,(l4 l hlm).2 v hv⟩⟩
  obtain ⟨b,hb⟩:=nL (g9 t.ms.length l)
  rw [hb] at hwd
  refine Jd.skipT ?_
  refine Jd.seq (Jd.block ?_)
  clear hex
  refine dr M [] (ax @Int.toNat_natCast (ax (mJ hx) (ax @c4 @hwd))) ?_
  cases b with
  | true =>
   refine cT rfl ?_
   refine aZ M ?_
   refine Jd.ret ?_
   refine hret _ _ ?_
   exact iE.r (aA.one rfl rfl (by rw [hv,cf hx hb]))
  | false =>
   refine cF rfl ?_
   refine Jd.skip ?_
   refine dX.norm ?_
   show Jb _ _ _ _ _ _
   refine nZ M ?_
   exact hgo _ ⟨rfl,rfl,trivial⟩ hil (cI hx hj hb)
 have hil:i < t.ms.length:=by have:=of_decide_eq_true h1; omega
 obtain ⟨m,hx⟩:∃ r,t.ms[i]? = some r:=⟨_,List.getElem?_eq_getElem hil⟩
 have okm:=ok.hms.1 m (List.mem_of_getElem? hx)
 have hvm:=sG okm
 have hsm:=n7 m
 obtain ⟨b1,g1⟩:=nL (bM m)
 obtain ⟨b2,g2⟩:∃ b,(!decide ((dj m:Int) = (iw t:Int))) = b:=⟨_,rfl⟩
 have hp:pm m = (!b1 && !b2):=by rw [<- hpm]; show (bM m && Nat.beq (dj m) (iw t)) = _; rw [g1,nE g2]
 rw [g1] at hvm
 refine Jd.skipT ?_
 refine Jd.seq (Jd.block ?_)
 clear hex
 rcases dP b1 b2 true true true with rfl | ⟨rfl,rfl⟩ | ⟨rfl,rfl,_⟩ | ⟨_,_,h,_⟩ | ⟨_,_,h,_⟩ | ⟨_,_,h,_⟩
 rotate_left 3
 iterate 3 (· cases h)
 iterate 2 (· (refine dr M [] (ax @Int.toNat_natCast (ax (ie hx) (ax @iB (ax @c1 (ax @c2 (ax @c3 (ax @hvm (ax @hsm (ax @hsy (ax @g2 (ax @f1 @f2))))))))))) ?_; refine cT rfl ?_; refine aZ M ?_; refine Jd.ret ?_; refine hret _ _ ?_; exact iE.r (aA.one rfl rfl (by rw [hv,cf hx hp]; rfl))))
 refine dr M [] (ax @Int.toNat_natCast (ax (ie hx) (ax @iB (ax @c1 (ax @c2 (ax @c3 (ax @hvm (ax @hsm (ax @hsy (ax @g2 (ax @f1 @f2))))))))))) ?_
 refine cF rfl ?_
 refine Jd.skip ?_
 refine dX.norm ?_
 show Jb _ _ _ _ _ _
 refine nZ M ?_
 exact hgo _ ⟨rfl,rfl,trivial⟩ hil (cI hx hj hp)
def rX (d:TD × List Int):List AV:=[.agg (tC d.1),.vw (is d.2) d.2.length]
theorem hY (x y:TD × List Int)(h:rX x = rX y):x = y:=by
 obtain ⟨a,b⟩:=x; obtain ⟨a',b'⟩:=y
 simp only [rX,List.cons.injEq,AV.vw.injEq,and_true] at h
 rw [qG _ _ (vy h.1),oB h.2.1]
def MY (d:TD × List Int):Prop:=d.1.Ok/\d.2.length <= 1000000
noncomputable def refusedV:=ofE rX MY fun d=>.i .i64 (bx d.1 d.2)
theorem Pa {t:TD} {m:MD} (hx:t.ms[0]? = some m):getR (pK t.ms) 0 4 = some (mC m):=by have:=ie hx; rwa [Nat.zero_mul] at this
theorem l5 {t:TD} (h:bQ t = true):0 < t.ms.length:=by
 unfold bQ at h
 simp only [Bool.and_eq_true,decide_eq_true_eq] at h
 omega
theorem zx:ag Tryz.prog 9 (ae refusedV):=by
 obtain ⟨E,M,c1,c2,c3⟩:=Lp (ae longTV) (ae validTV) (ae heardV) ⟨Dm,zu,Ds⟩ rfl
 refine ai (by kernel_rfl) Tryz.func9 Tryz.ntmps9 rfl ?_
 intro args v h
 obtain ⟨⟨t,o⟩,⟨ok,ho⟩,rfl,rfl⟩:=aB h
 dsimp only at ok ho
 have f1:=ok.hL.ham.fn
 have f2:=ok.hL.ham.fd
 refine ⟨by simp only [rX,aE,bare,bI ok]; rfl,rfl,Nat.le_of_ble_eq_true rfl,?_⟩
 have hl:=q7 ok
 have hv:fA t = false->∀ s,ae validTV [.agg (tC t)] s = some (.b (bQ t),s):=fun h=>bD hX ⟨ok,h⟩
 unfold rX
 dsimp only
 unfold tC at hl hv ⊢
 rw [bS,St.of_nil]
 obtain ⟨b1,e1⟩:∃ b,fA t = b:=⟨_,rfl⟩
 obtain ⟨b2,e2⟩:∃ b,decide ((o.length:Int) > 1000) = b:=⟨_,rfl⟩
 have hb:bx t o = if (b1 || b2) = true then 5 else if (bQ t && dM (iw t) o) = true then 0 else 2:=by
  unfold bx
  rw [e1,CP e2]
 rw [e1] at hl hv
 refine rg M (ax @f1 @f2) ?_
 refine Jd.seq ?_
 rcases dP b1 b2 true true true with rfl | ⟨rfl,rfl⟩ | ⟨rfl,rfl,_⟩ | ⟨_,_,h,_⟩ | ⟨_,_,h,_⟩ | ⟨_,_,h,_⟩
 rotate_left 3
 iterate 3 (· cases h)
 iterate 2 (· (refine rg M (ax @f1 (ax @f2 (ax @c1 (ax @hl @e2)))) ?_; refine cT rfl ?_; refine aZ M ?_; exact Jd.retT (aA.one rfl rfl (by rw [hb]; rfl))))
 have hb:bx t o = if (bQ t && dM (iw t) o) = true then 0 else 2:=hb
 have hv:=hv rfl
 refine rg M (ax @f1 (ax @f2 (ax @c1 (ax @hl @e2)))) ?_
 refine lF rfl ?_
 refine Jd.seq ?_
 obtain ⟨b3,e3⟩:=nL (bQ t)
 rw [e3] at hv hb
 cases b3 with
 | true =>
  refine rg M (ax @f1 (ax @f2 (ax @c2 @hv))) ?_
  refine cT rfl ?_
  refine aZ M ?_
  exact Jd.retT (aA.one rfl rfl (by rw [hb]; rfl))
 | false =>
  have h0:=l5 e3
  obtain ⟨m,hx⟩:∃ r,t.ms[0]? = some r:=⟨_,List.getElem?_eq_getElem h0⟩
  have hh:∀ s,ae heardV [.agg (mC m),.vw (is o) o.length] s = some (.b (dM (dj m) o),s):=bD (d:=(m,o)) IY ho
  rw [mX hx] at hb
  obtain ⟨b4,e4⟩:=nL (dM (dj m) o)
  rw [e4] at hh hb
  refine rg M (ax @f1 (ax @f2 (ax @c2 (ax @hv (ax (Pa hx) (ax @iB (ax @c3 @hh))))))) ?_
  cases b4 with
  | true =>
   refine cT rfl ?_
   refine aZ M ?_
   exact Jd.retT (aA.one rfl rfl (by rw [hb]; rfl))
  | false =>
   refine lF rfl ?_
   refine aZ M ?_
   exact Jd.ret (aA.one rfl rfl (by rw [hb]; rfl))
structure BD where
 w:Int
 r:RF
def bC (b:BD):List AV:=[.i .i64 b.w,.b b.r.neg,b.r.n,b.r.d]
def Gm (b:BD):List AV:=[.agg (bC b)]
theorem qk (x y:BD)(h:Gm x = Gm y):x = y:=by
 obtain ⟨a,b1,b2,b3⟩:=x; obtain ⟨a',b1',b2',b3'⟩:=y
 simp only [Gm,bC,List.cons.injEq,AV.agg.injEq,AV.i.injEq,AV.b.injEq,and_true,true_and] at h
 obtain ⟨rfl,rfl,rfl,rfl⟩:=h
 rfl
def f9 (b:BD):Bool:=decide (b.w ≥ 1) && decide (b.w <= 20000) && decide (ce b.r.q ≥ 0) && decide (ce (b.r.q - ((1:Int):Rat)) <= 0)
noncomputable def fitsV:=ofE Gm (fun b=>b.r.Ok) fun b=>.b (f9 b)
theorem Ap {x:RF} (ok:x.Ok) (s:St):ae iU [.agg [.b x.neg,x.n,x.d]] s = some (.i .i64 (ce x.q),s):=eY (Eo ok.r) s
theorem Om:qz ((1:Int):Rat) <= mf:=Nat.le_trans (KV 1 (by omega)) (by unfold mf; omega)
theorem FW {x:RF} (ok:x.Ok) (s:St):ae sp [.agg [.b x.neg,x.n,x.d],fq ((1:Int):Rat)] s = some (.i .i64 (ce (x.q - ((1:Int):Rat))),s):=eY (Jp ok.r (Ia Om)) s
theorem Lb (s:St):ae DC [.i .i64 1] s = some (fq ((1:Int):Rat),s):=eY (Lf (z:=1) (by omega) (by omega)) s
theorem JO:ag Tryz.prog 10 (ae fitsV):=by
 obtain ⟨E,M,c1,c2,c3⟩:=Lp (ae iU) (ae sp) (ae DC) ⟨yb,JP,zy⟩ rfl
 refine ai (by kernel_rfl) Tryz.func10 Tryz.ntmps10 rfl ?_
 intro args v h
 obtain ⟨b,ok,rfl,rfl⟩:=aB h
 have f1:=ok.fn
 have f2:=ok.fd
 refine ⟨by simp only [Gm,bC,aE,bare,ok.bn,ok.bd]; rfl,rfl,Nat.le_of_ble_eq_true rfl,?_⟩
 unfold Gm bC
 rw [bT,St.of_nil]
 have hs:=Ap ok
 have hc:=FW ok
 obtain ⟨b1,e1⟩:∃ t,decide (b.w ≥ 1) = !t:=nL _
 obtain ⟨b2,e2⟩:∃ t,decide (b.w <= 20000) = !t:=nL _
 obtain ⟨b3,e3⟩:∃ t,decide (ce b.r.q ≥ 0) = !t:=nL _
 obtain ⟨b4,e4⟩:∃ t,decide (ce (b.r.q - ((1:Int):Rat)) <= 0) = !t:=nL _
 have hb:f9 b = (!b1 && !b2 && !b3 && !b4):=by unfold f9; rw [e1,e2,e3,e4]
 rw [hb]
 refine rg M (ax @f1 @f2) ?_
 rcases dP b1 b2 b3 b4 true with rfl | ⟨rfl,rfl⟩ | ⟨rfl,rfl,rfl⟩ | ⟨rfl,rfl,rfl,rfl⟩ | ⟨rfl,rfl,rfl,rfl,_⟩ | ⟨_,_,_,_,h⟩
 iterate 5 (· (refine dr M [] (ax @f1 (ax @f2 (ax @e1 (ax @e2 (ax @e3 (ax @e4 (ax @c1 (ax @c2 (ax @c3 (ax @hs (ax @hc (ax @Lb (ax @Bool.not_true @Bool.not_false))))))))))))) ?_; exact Jd.ret (aA.one rfl rfl rfl)))
 cases h
noncomputable def long1V:=ofE wR MD.Ok fun m=>.b (dk m)
theorem GF:ag Tryz.prog 90 (ae long1V):=by
 obtain ⟨E,M,c1⟩:=i3 (ae checkV1) up rfl
 refine ai (by kernel_rfl) Tryz.func90 Tryz.ntmps90 rfl ?_
 intro args v h
 obtain ⟨m,ok,rfl,rfl⟩:=aB h
 refine ⟨rfl,rfl,Nat.le_of_ble_eq_true rfl,?_⟩
 have hv:=tV ok
 unfold wR
 unfold mC at hv ⊢
 rw [bT,St.of_nil]
 refine aZ M ?_
 refine rg M (ax @c1 @hv) ?_
 refine Jd.ret (aA.one rfl rfl (congrArg AV.b ?_))
 rw [Bool.eq_iff_iff,decide_eq_true_eq]
 exact F6
def Mq (v:VD):List AV:=[.agg (vC v)]
theorem He (x y:VD)(h:Mq x = Mq y):x = y:=by
 simp only [Mq,List.cons.injEq,and_true] at h
 exact yH _ _ (vy h)
noncomputable def long3V:=ofE Mq (fun v=>v.w.Ok) fun v=>.b (decide (20 < v.ph.length))
theorem GC:ag Tryz.prog 95 (ae long3V):=by
 obtain ⟨E,M⟩:=qX
 refine ai (by kernel_rfl) Tryz.func95 Tryz.ntmps95 rfl ?_
 intro args v h
 obtain ⟨x,ok,rfl,rfl⟩:=aB h
 have f1:=ok.fn
 have f2:=ok.fd
 refine ⟨by simp only [Mq,vC,aE,bare,ok.bn,ok.bd]; rfl,rfl,Nat.le_of_ble_eq_true rfl,?_⟩
 unfold Mq vC
 rw [bT,St.of_nil]
 refine rg M (ax @f1 @f2) ?_
 refine aZ M ?_
 exact Jd.ret (aA.one rfl rfl (congrArg AV.b (decide_eq_decide.2 (by omega))))
noncomputable def ocV:Oc:=[(95,ae long3V)]
theorem Lh:∀ p ∈ ocV,ag Tryz.prog p.1 p.2:=by unfold ocV; simp only [List.forall_mem_cons]; exact ⟨GC,fun p hp=>by cases hp⟩
def MH (l:List VD):List AV:=[b9 l]
theorem Hb (x y:List VD)(h:MH x = MH y):x = y:=by
 simp only [MH,List.cons.injEq,and_true] at h
 exact kK h
def Oe (l:List VD):Prop:=(∀ v ∈ l,v.w.Ok)/\l.length <= 9223372036854775807
noncomputable def long2V:=ofE MH Oe fun l=>.b (i5 l)
theorem GD:ag Tryz.prog 93 (ae long2V):=by
 obtain ⟨E,M,c1⟩:=i3 (ae (anyVV ocV)) (JR ocV Lh) rfl
 refine ai (by kernel_rfl) Tryz.func93 Tryz.ntmps93 rfl ?_
 intro args v h
 obtain ⟨l,⟨ok,hl⟩,rfl,rfl⟩:=aB h
 refine ⟨rfl,rfl,Nat.le_of_ble_eq_true rfl,?_⟩
 have hc:∀ s,ae (anyVV ocV) [.vw (Aa l) l.length,.fn 95 [] []] s = some (.b (l.any fun v=>decide (20 < v.ph.length)),s) :=
  pD (L:=ocV) (cell:=jd) (el:=fun x=>.agg (vC x)) (l:=l) (cv:=.fn 95 [] []) (p:=fun v=>decide (20 < v.ph.length)) oO uc rfl hl fun x hx=>⟨_,rfl,fun s=>bD He (ok x hx) s⟩
 unfold MH
 rw [bT,St.of_nil]
 obtain ⟨b,hb⟩:∃ b,decide ((l.length:Int) > 10) = b:=⟨_,rfl⟩
 have hv:i5 l = (b || l.any fun v=>decide (20 < v.ph.length)):=by unfold i5; rw [CP hb]
 rw [hv]
 refine aZ M ?_
 cases b with
 | true =>
  refine rg M @hb ?_
  exact Jd.ret (aA.one rfl rfl rfl)
 | false =>
  refine rg M (ax @hb (ax @c1 @hc)) ?_
  exact Jd.ret (aA.one rfl rfl rfl)
noncomputable def ocW:Oc:=[(93,ae long2V)]
theorem Lg:∀ p ∈ ocW,ag Tryz.prog p.1 p.2:=by unfold ocW; simp only [List.forall_mem_cons]; exact ⟨GD,fun p hp=>by cases hp⟩
noncomputable def ocN:Oc:=[(90,ae long1V)]
theorem Lj:∀ p ∈ ocN,ag Tryz.prog p.1 p.2:=by unfold ocN; simp only [List.forall_mem_cons]; exact ⟨GF,fun p hp=>by cases hp⟩
theorem d7 {α:Type} (g:α->AV):∀ l:List α,l.flatMap (fun x=>[g x]) = l.map g
 | []=>rfl
 | x :: l=>by rw [List.flatMap_cons,List.map_cons,d7 g l]; rfl
theorem yd:ag Tryz.prog 32 (ae longTV):=by
 obtain ⟨E,M,c1,c2⟩:=y8 (ae (anyVM ocN)) (ae (anyVW ocW)) ⟨BG ocN Lj,JQ ocW Lg⟩ rfl
 refine ai (by kernel_rfl) Tryz.func32 Tryz.ntmps32 rfl ?_
 intro args v h
 obtain ⟨t,ok,rfl,rfl⟩:=aB h
 have f1:=ok.hL.ham.fn
 have f2:=ok.hL.ham.fd
 refine ⟨by simp only [pH,aE,bare,bI ok]; rfl,rfl,Nat.le_of_ble_eq_true rfl,?_⟩
 have lm:=ok.hms.2
 have lw:=ok.hws.2
 have h1:∀ s,ae (anyVM ocN) [.vw (pK t.ms) t.ms.length,.fn 90 [] []] s = some (.b (t.ms.any dk),s) :=
  pD (L:=ocN) (cell:=fX) (el:=fun x=>.agg (mC x)) (l:=t.ms) (cv:=.fn 90 [] []) (p:=dk) je lp rfl (by omega) fun x hx=>⟨_,rfl,fun s=>bD k8 (ok.hms.1 x hx) s⟩
 have h2:∀ s,ae (anyVW ocW) [.vw (t.ws.map fun l=>b9 l) t.ws.length,.fn 93 [] []] s = some (.b (t.ws.any i5),s):=fun s=>by
  rw [<- d7]
  exact pD (L:=ocW) (cell:=jc) (el:=fun x=>b9 x) (l:=t.ws) (cv:=.fn 93 [] []) (p:=i5) oM tZ rfl (by omega) (fun x hx=>⟨_,rfl,fun s=>bD Hb ⟨fun v hv=>((ok.hws.1 x hx).1 v hv).1,(ok.hws.1 x hx).2⟩ s⟩) s
 unfold pH tC
 rw [bT,St.of_nil]
 obtain ⟨b1,e1⟩:∃ b,decide ((t.ms.length:Int) > 60) = b:=⟨_,rfl⟩
 obtain ⟨b2,e2⟩:∃ b,decide ((t.L.gs.length:Int) > 20000) = b:=⟨_,rfl⟩
 have hl:fA t = (b1 || b2 || t.ms.any dk || t.ws.any i5):=by unfold fA; rw [CP e1,CP e2]
 refine rg M (ax @f1 @f2) ?_
 refine Jd.seq ?_
 rcases dP b1 b2 true true true with rfl | ⟨rfl,rfl⟩ | ⟨rfl,rfl,_⟩ | ⟨_,_,h,_⟩ | ⟨_,_,h,_⟩ | ⟨_,_,h,_⟩
 rotate_left 3
 iterate 3 (· cases h)
 iterate 2 (· (refine rg M (ax @e1 @e2) ?_; refine cT rfl ?_; refine aZ M ?_; exact Jd.retT (aA.one rfl rfl (by rw [hl]; rfl))))
 refine rg M (ax @e1 @e2) ?_
 refine lF rfl ?_
 refine Jd.seq ?_
 obtain ⟨b3,e3⟩:∃ b,t.ms.any dk = b:=⟨_,rfl⟩
 rw [e3] at h1 hl
 refine rg M (ax @c1 @h1) ?_
 cases b3 with
 | true =>
  refine cT rfl ?_
  refine aZ M ?_
  exact Jd.retT (aA.one rfl rfl (by rw [hl]; rfl))
 | false =>
  refine lF rfl ?_
  refine rg M (ax @c2 @h2) ?_
  exact Jd.ret (aA.one rfl rfl (by rw [hl]; rfl))
end Go.Proofs.YtkdhppimhdemjaaGreat
