/- Lemmas. -/
import Derived.Test.YtjebfdfkjlkifaaGreatR12
set_option linter.all false
set_option maxRecDepth 1000000
set_option maxHeartbeats 32000000
namespace Go.Proofs.YtjebfdfkjlkifaaGreat
open Go.RowKit
theorem az {w:World} {ops:Array Oper} {rest:List Oper} {o:Oper} {a:Act} {Q:Exit->Act->World->Prop} (hgd:o.guard = none) (s x:Operand)
  (ho:o.op = .call { callee:=.builtin .append,args:=#[s,x],argTypes:=#[38,38] })(hs:a.eval s = .slice none 0 0) (y:Value)(hx:a.eval x = y) (n k:Nat)(hn:NatAt w y n) (ln:n < 2 ^ k)(hk:k <= 70368744177664)
  (h:∀ A m c w',NatAt w' (.slice A m c) n->From (.slice A m c) w.heap.size->Below w.heap.size w w'->wpList Tryz.prog ops Q rest (a.put o.dst (.slice A m c)) w'):wpList Tryz.prog ops Q (o :: rest) a w:=by
 obtain ⟨i0,hi,hz0,hz1,hz2⟩:=info_parts cC
 obtain ⟨l,d,t,rfl⟩:=hn
 have ll:=t.length_le ln
 refine al hgd s x 38 ho w.heap.size 181 i0 (.int .u32 0) 1 4 Tryz.underlying38 hi hz0 hz1 hz2 rfl (by decide) _ 0 [] hs (World.ownsRow_nil ..) y l.length (l.map dg) hx d.1 (gR l) (by unfold maxLen; omega) (by omega) (nR _) ?_
 intro v' w' hown hgr _
 have hf:=From.of_own hown
 have hN:NatAt w' v' (val l):=⟨l,⟨by have:=Sl.of_own hown; simpa using this,d.2⟩,t,rfl⟩
 obtain ⟨A,m,c,rfl,_⟩:=hN.len
 exact h A m c w' hN hf ((Below.refl _ w).grown hgr (nR _) (by simp [Value.ownBlock]))

theorem fD {w:World} {v:Value} (h:NatAt w v 1):Calls Tryz.prog 141 #[v] w fun e w'=>w' = w/\e = .returned (.bool true):=wN w v 1 h
theorem ia {w:World} {v:Value} {a:Nat} (h:NatAt w v a)(h1:a ≠ 1):Calls Tryz.prog 141 #[v] w fun e w'=>w' = w/\e = .returned (.bool false):=by
 have:=wN w v a h
 rwa [dF h1] at this

theorem CanNew.of_parts {B:Nat} {w:World} {neg:Bool} {vn vd:Value} {n d:Nat} (n0:0 < n) (d0:0 < d)(h1:NatAt w vn (n / Nat.gcd n d))(h2:NatAt w vd (if d / Nat.gcd n d = 1 then 0 else d / Nat.gcd n d))(h3:From vn B)(h4:From vd B) :
  CanNew B w (.agg #[.bool neg,vn,vd]) (mkRat (sgn neg n) d):=by
 obtain ⟨r1,r2⟩:=red neg n d d0
 have hg:0 < n / Nat.gcd n d:=Nat.div_pos (Nat.gcd_le_left _ n0) (Nat.gcd_pos_of_pos_left _ n0)
 refine ⟨vn,vd,?_,?_,?_,h3,h4⟩
 ·rw [iM r1,dT hg,Bool.and_true]
 ·rw [r1,fy]; exact h1
 rw [r2]; exact h2

theorem CanNew.zero (B:Nat) (w:World) (neg:Bool) (d:Nat):CanNew B w (.agg #[.bool false,.slice none 0 0,.slice none 0 0]) (mkRat (sgn neg 0) d):=by
 have e:mkRat (sgn neg 0) d = 0:=by cases neg <;> simp [sgn]
 rw [e]
 exact ⟨_,_,by simp [ae],NatAt.nil_ _,by simpa using NatAt.nil_ _,From.nil_ _,From.nil_ _⟩

theorem oE (w:World) (neg:Bool) (vn vd:Value) (ln ld:List Nat) (k:Nat)(hn:DigAt w vn ln)(hd:DigAt w vd ld) (qn:val ln < 2 ^ k) (qd:val ld < 2 ^ k)(h0:0 < k)(hk:k <= 17592186044416) :
  Calls Tryz.prog 94 #[.bool neg,vn,vd] w fun e w'=>∃ v',e = .returned v'/\CanNew w.heap.size w' v' (dM neg (val ln) (val ld))/\Below w.heap.size w w':=by
 have H1:=aH hn
 have H2:=aH hd
 clear hn hd
 obtain ⟨n,hN⟩:=nm (val ln)
 obtain ⟨d0,hD0⟩:=nm (val ld)
 rw [hN,hD0]
 rw [hN] at qn
 rw [hD0] at qd
 have HN:=aH hN
 have HD0:=aH hD0
 clear hN hD0
 unfold dM
 obtain ⟨d,hD⟩:=nm ((if d0 = 0 then 1 else d0))
 rw [hD]
 have QN:=aH qn
 have QD:Hd (d < 2 ^ k):=aH (by rw [<- hD]; split; exact Nat.one_lt_two_pow (by omega); exact qd)
 have hd0:0 < d:=by rw [<- hD]; split <;> omega
 have HD:=aH hD
 clear qn qd hD
 go_enter Tryz.func94,Tryz.ntmps94
 go_wp2_with fail
 obtain ⟨W,hW,P0,PB,Phs⟩:=aA w 40 [.bool false,.slice none 0 0,.slice none 0 0]
 rw [<- hW]
 clear hW
 refine (fk W vn ln (H1.o.below PB.o)).mono ?_
 rintro e w1 ⟨hw1,v1,rfl,t1,_,_⟩
 cases hw1
 have T1:Hd (NatAt W v1 n):=aH (HN.o ▸ t1)
 clear t1
 go_wp2_with fail
 refine (fk W vd ld (H2.o.below PB.o)).mono ?_
 rintro e w1 ⟨hw1,v2,rfl,t1,_,_⟩
 cases hw1
 have T2:Hd (NatAt W v2 d0):=aH (HD0.o ▸ t1)
 clear t1
 obtain ⟨A1,m1,c1,rfl,hm1,hp1⟩:=T1.o.len
 obtain ⟨A2,m2,c2,rfl,hm2,hp2⟩:=T2.o.len
 obtain ⟨r0,r1,r2,z0,z1,z2⟩:=P0.o.three
 rcases zP n with hz | hn0
 ·subst hz
  obtain rfl:m1 = 0:=by omega
  go_wp2_with fail
  refine bodyPost_ret (v:=.agg #[.bool false,.slice none 0 0,.slice none 0 0]) (by simp [results,Tryz.results94,go_sem,r0,r1,r2]) rfl ⟨_,rfl,CanNew.zero _ _ _ _,af PB.o (nR _) _ _ _⟩
 have hm0:((m1:Int) == 0) = false:=by simp; omega
 clear r0 r1 r2 z0 z1 z2
 go_upto_if 19 with fail
 go_cut [2] (fun dv wc=>∃ v2,v2 = dv/\Hd (NatAt wc v2 d)/\Hd (NatAt wc (.slice A1 m1 c1) n)/\Hd (Below w.heap.size w wc)/\Hd (Blk wc w.heap.size 40 [.bool false,.slice none 0 0,.slice none 0 0]))
 case first =>
  rcases zP d0 with hz | hz
  ·obtain rfl:m2 = 0:=by omega
   have HD1:Hd (d = 1):=aH (by rw [<- HD.o,if_pos hz])
   go_wp2_with fail
   go_meet
   exact ⟨_,rfl,aH (by rw [HD1.o]; exact NatAt.digit1 W 181 1 (by omega) (by omega)),aH (T1.o.alloc _),aH (PB.o.alloc (by omega) _),aH (P0.o.alloc _)⟩
  have hm3:((m2:Int) == 0) = false:=by simp; omega
  have TT2:Hd (NatAt W (.slice A2 m2 c2) d):=aH (by rw [<- HD.o,if_neg (by omega)]; exact T2.o)
  go_wp2_with fail
  go_meet
  exact ⟨_,rfl,TT2,T1,PB,P0⟩
 obtain ⟨v2,rfl,TT2,TT1,BB,R0⟩:=hcut
 clear T1 T2 PB P0 Phs
 obtain ⟨W1,rfl⟩:∃ W1,W1 = wc:=⟨_,rfl⟩
 have hsz:w.heap.size < W1.heap.size:=R0.o.lt
 have QG:Hd (Nat.gcd n d < 2 ^ k):=aH (lL (Nat.gcd_le_left d hn0) QN.o)
 go_upto_region 7 with fail
 obtain ⟨W2,hW2⟩:∃ W2,W2 = W1.alloc (.cells #[.int .u32 1] 181):=⟨_,rfl⟩
 rw [<- hW2]
 have GB:Hd (Below W1.heap.size W1 W2):=aH (by rw [hW2]; exact (Below.refl _ W1).alloc (nR _) _)
 have G1:Hd (NatAt W2 (.slice (some ⟨W1.heap.size,0,none⟩) 1 1) 1):=aH (by rw [hW2]; exact NatAt.digit1 W1 181 1 (by omega) (by omega))
 have X1:=aH (TT1.o.below GB.o)
 have X2:=aH (TT2.o.below GB.o)
 have XB:=aH (BB.o.trans (GB.o.mono BB.o.size))
 have XR:=aH (R0.o.below' GB.o)
 clear TT1 TT2 BB R0 GB hW2
 obtain ⟨g0,hg0⟩:∃ v,v = Value.slice (some ⟨W1.heap.size,0,none⟩) 1 1:=⟨_,rfl⟩
 rw [<- hg0] at G1 ⊢
 clear hg0
 have hsz1:w.heap.size < W2.heap.size:=XR.o.lt
 obtain ⟨tt,htt⟩:=nm ((decide (d ≠ 1) && decide (n ≠ 1)))
 have HTT:=aH htt
 clear htt
 go_cut [29] (fun t wc=>t = .bool tt/\wc = W2)
 case first =>
  by_cases hd1:d = 1
  ·have TD:Hd (NatAt W2 v2 1):=aH (by rw [<- hd1]; exact X2.o)
   have HT2:Hd (false = tt):=aH (by rw [<- HTT.o,dF (by omega),Bool.false_and])
   clear hd1
   go_wp2_with fail
   refine (fD TD.o).mono ?_
   rintro e w2 ⟨hw2,rfl⟩
   cases hw2
   go_wp2_with fail
   go_meet
   exact ⟨by rw [<- HT2.o],rfl⟩
  have HD1:=aH hd1
  clear hd1
  go_wp2_with fail
  refine (ia X2.o HD1.o).mono ?_
  rintro e w2 ⟨hw2,rfl⟩
  cases hw2
  by_cases hn1:n = 1
  ·have TN:Hd (NatAt W2 (.slice A1 m1 c1) 1):=aH (by rw [<- hn1]; exact X1.o)
   have HT2:Hd (false = tt):=aH (by rw [<- HTT.o,dF (p:=n ≠ 1) (by omega),Bool.and_false])
   have HN1:=aH hn1
   clear hn1
   go_wp2_with fail
   refine (fD TN.o).mono ?_
   rintro e w2 ⟨hw2,rfl⟩
   cases hw2
   go_wp2_with fail
   go_meet
   exact ⟨by rw [<- HT2.o],rfl⟩
  have HT2:Hd (true = tt):=aH (by rw [<- HTT.o,dT HD1.o,dT hn1]; rfl)
  have HN1:=aH hn1
  clear hn1
  go_wp2_with fail
  refine (ia X1.o HN1.o).mono ?_
  rintro e w2 ⟨hw2,rfl⟩
  cases hw2
  go_wp2_with fail
  go_meet
  exact ⟨by rw [<- HT2.o],rfl⟩
 obtain ⟨rfl,rfl⟩:=hcut
 go_upto_if 29 with fail
 go_cut [7] (fun gv wd=>∃ vg,vg = gv/\Hd (NatAt wd vg (Nat.gcd n d))/\Hd (NatAt wd v2 d)/\Hd (NatAt wd (.slice A1 m1 c1) n)/\Hd (Below w.heap.size w wd)/\Hd (Blk wd w.heap.size 40 [.bool false,.slice none 0 0,.slice none 0 0]))
 case first =>
  cases tt with
  | false =>
   have HGG:Hd (Nat.gcd n d = 1):=aH (by
    have h1:=HTT.o
    rw [Bool.and_eq_false_iff,decide_eq_false_iff_not,decide_eq_false_iff_not,Decidable.not_not,Decidable.not_not] at h1
    rcases h1 with h1 | h1
    ·rw [h1]; exact Nat.gcd_one_right n
    rw [h1]; exact Nat.gcd_one_left d)
   go_wp2_with fail
   go_meet
   exact ⟨_,rfl,aH (by rw [HGG.o]; exact G1.o),X2,X1,XB,XR⟩
  | true =>
   go_wp2_with fail
   refine (wY _ _ _ n d k X1.o X2.o QN.o QD.o (by omega) (by omega) (by omega)).mono ?_
   rintro e w2 ⟨vg,rfl,t1,hb⟩
   have Y1:=aH (X1.o.below hb)
   have Y2:=aH (X2.o.below hb)
   have YB:=aH (XB.o.trans (hb.mono XB.o.size))
   have YR:=aH (XR.o.below' hb)
   have YG:=aH t1
   clear t1 hb
   go_wp2_with fail
   go_meet
   exact ⟨_,rfl,YG,Y2,Y1,YB,YR⟩
 obtain ⟨vg,rfl,VG,TA2,TA1,BB2,RA⟩:=hcut
 clear X1 X2 XB XR G1
 obtain ⟨w2,rfl⟩:∃ x,x = wc:=⟨_,rfl⟩
 have hsz2:w.heap.size < w2.heap.size:=RA.o.lt
 go_wp2_with fail
 refine (wN w2 _ _ VG.o).mono ?_
 rintro e w3 ⟨hw3,rfl⟩
 cases hw3
 go_upto_if 35 with fail
 go_cut [1,2] (fun nv dv we=>∃ v1 v3,v1 = nv/\v3 = dv/\Hd (NatAt we v1 (n / Nat.gcd n d))/\Hd (NatAt we v3 (d / Nat.gcd n d))/\Hd (Below w.heap.size w we)/\Hd (Blk we w.heap.size 40 [.bool false,.slice none 0 0,.slice none 0 0]))
 case first =>
  by_cases hg:Nat.gcd n d = 1
  ·have HGG:=aH hg
   rw [dT hg]
   clear hg
   go_wp2_with fail
   go_meet
   exact ⟨_,_,rfl,rfl,aH (by rw [HGG.o,Nat.div_one]; exact TA1.o),aH (by rw [HGG.o,Nat.div_one]; exact TA2.o),BB2,RA⟩
  have HG0:Hd (0 < Nat.gcd n d):=aH (Nat.gcd_pos_of_pos_left _ hn0)
  rw [dF hg]
  clear hg
  go_wp2_with fail
  refine (jb w2 _ _ n (Nat.gcd n d) k TA1.o VG.o QN.o QG.o hk HG0.o).mono ?_
  rintro e w3 ⟨vq,vr,rfl,q1,_,q3,_,_⟩
  have Q1:=aH q1
  have B3:=aH (BB2.o.trans (q3.mono (by omega)))
  have VG3:=aH (VG.o.below q3)
  have TA3:=aH (TA2.o.below q3)
  have RA3:=aH (RA.o.below' q3)
  have hs3:=q3.size
  clear q1 q3
  go_wp2_with fail
  refine (jb w3 _ _ d (Nat.gcd n d) k TA3.o VG3.o QD.o QG.o hk HG0.o).mono ?_
  rintro e Wf ⟨v4,vr2,rfl,q1,_,q3,_,_⟩
  have U1:=aH (Q1.o.below q3)
  have U2:=aH q1
  have UB:=aH (B3.o.trans (q3.mono (by omega)))
  have UR:=aH (RA3.o.below' q3)
  clear q1 q3
  go_wp2_with fail
  go_meet
  exact ⟨_,_,rfl,rfl,U1,U2,UB,UR⟩
 obtain ⟨v1,v2,rfl,rfl,U1,U2,UB,UR⟩:=hcut
 clear VG TA2 TA1 BB2 RA
 obtain ⟨Wf,rfl⟩:∃ x,x = wc:=⟨_,rfl⟩
 have hszf:w.heap.size < Wf.heap.size:=UR.o.lt
 have UQ:Hd (n / Nat.gcd n d < 2 ^ k):=aH (lL (Nat.div_le_self _ _) QN.o)
 have UQ2:Hd (d / Nat.gcd n d < 2 ^ k):=aH (lL (Nat.div_le_self _ _) QD.o)
 go_wp2_with (at_builtin; refine az rfl _ _ rfl rfl _ rfl _ k U1.o UQ.o (by omega) ?_)
 intro An mn cn wn n1 n2 n3
 have N1:=aH n1
 have N2:=aH n2
 have UB2:=aH (UB.o.trans (n3.mono (by omega)))
 have UR2:=aH (UR.o.below' n3)
 have V2:=aH (U2.o.below n3)
 have hszn:Wf.heap.size <= wn.heap.size:=n3.size
 clear n1 n2 n3
 go_wp2_with fail
 obtain ⟨wb,hwb,O0,OB,Ohs⟩:=aA wn 40 [.bool neg,.slice An mn cn,.slice none 0 0]
 rw [<- hwb]
 clear hwb
 have N3:=aH (N1.o.below OB.o)
 have V3:=aH (V2.o.below OB.o)
 have UR3:=aH (UR2.o.below' OB.o)
 have UB3:=aH (UB2.o.trans (OB.o.mono (by omega)))
 have hO:wn.heap.size ≠ w.heap.size:=by omega
 have hF:=N2.o.mono (show w.heap.size + 1 <= Wf.heap.size by omega)
 have HF:=aH hF
 clear hF
 by_cases hd2:d / Nat.gcd n d = 1
 ·have V4:Hd (NatAt wb v2 1):=aH (by rw [<- hd2]; exact V3.o)
  have HD2:=aH hd2
  clear hd2
  obtain ⟨r0,r1,r2,z0,z1,z2⟩:=UR3.o.three
  obtain ⟨o0,o1,o2,y0,y1,y2⟩:=O0.o.three
  refine (fD V4.o).mono ?_
  rintro e w5 ⟨hw5,rfl⟩
  cases hw5
  go_wp2_with fail
  refine bodyPost_ret (v:=.agg #[.bool neg,.slice An mn cn,.slice none 0 0]) (by simp [results,Tryz.results94,go_sem,r0,r1,r2]) rfl ⟨_,rfl,CanNew.of_parts hn0 hd0 (N3.o.box3 HF.o _ _ _) (by rw [if_pos HD2.o]; exact NatAt.nil_ _) (HF.o.mono (by omega)) (From.nil_ _),af UB3.o (nR _) _ _ _⟩
 have HD2:=aH hd2
 clear hd2
 refine (ia V3.o HD2.o).mono ?_
 rintro e w5 ⟨hw5,rfl⟩
 cases hw5
 obtain ⟨o0,o1,o2,y0,y1,y2⟩:=O0.o.three
 go_wp2_with (at_builtin; refine az rfl _ _ rfl rfl _ rfl _ k V3.o UQ2.o (by omega) ?_)
 intro Ad md cd wd n1 n2 n3
 have M1:=aH n1
 have M2:=aH n2
 have N4:=aH (N3.o.below n3)
 have UB4:=aH (UB3.o.trans (n3.mono (by omega)))
 have UR4:=aH (UR3.o.below' n3)
 have O4:=aH (O0.o.below' n3)
 clear n1 n2 n3 o0 o1 o2 y0 y1 y2
 have hOs:wn.heap.size < wb.heap.size:=O0.o.lt
 obtain ⟨r0,r1,r2,z0,z1,z2⟩:=UR4.o.three
 obtain ⟨o0,o1,o2,y0,y1,y2⟩:=O4.o.three
 go_wp2_with fail
 refine bodyPost_ret (v:=.agg #[.bool neg,.slice An mn cn,.slice Ad md cd]) (by simp [results,Tryz.results94,go_sem,r0,r1,r2]) rfl ⟨_,rfl,CanNew.of_parts hn0 hd0 ?_ ?_ (HF.o.mono (by omega)) (M2.o.mono (by omega)),af (UB4.o.setCell (p:=⟨wn.heap.size,2,none⟩) (by show w.heap.size <= wn.heap.size; omega) _) (nR _) _ _ _⟩
 ·exact (N4.o.setOff (p:=⟨wn.heap.size,2,none⟩) (N1.o.off (nR _)) _).box3 HF.o _ _ _
 rw [if_neg HD2.o]
 exact (M1.o.setFar (p:=⟨wn.heap.size,2,none⟩) M2.o hOs _).box3 (M2.o.mono (by omega)) _ _ _
end Go.Proofs.YtjebfdfkjlkifaaGreat
