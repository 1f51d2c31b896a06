/- Lemmas. -/
import Derived.Test.YtjebfdfkjlkifaaGreatR49
set_option linter.all false
set_option maxRecDepth 1000000
set_option maxHeartbeats 32000000
namespace Go.Proofs.YtjebfdfkjlkifaaGreat
open Go.RowKit
def fj (k V:Int) (a p rest:Rat) (N S K:Int):Rat :=
 if S = 0 then p else if k = 4 then ((N:Rat) + (K:Rat) * p) / ((S + K:Int):Rat) else if K = V + 1 then (N:Rat) / (S:Rat) else if 0 < N then ((N:Rat) - a) / (S:Rat) else a * (K:Rat) / (S:Rat) * p / rest

theorem uf (w:World) (O V:Int) (Al:Option Addr) (nl cl:Nat) (k:Int) (s:Bool) (A A':Option Addr) (m c m' c':Nat) (Am:Option Addr) (ml cm:Nat) (a p rest:Rat) (N S K:Int) (pv rv:Value)(ha:FracAt 64 w (.agg #[.bool s,.slice A m c,.slice A' m' c']) a)(hp:CanAt w pv p)(hr:CanAt w rv rest) (qp:QB 5000000 p) (qr:QB 50000000 rest)(hN:0 <= N/\N <= 900000000000000000)(hS:0 <= S/\S <= 900000000000000000)(hK:0 <= K/\K <= 9)(hV:0 <= V/\V <= 8)(hrest:S ≠ 0->k ≠ 4->K ≠ V + 1->¬ 0 < N->rest ≠ 0) :
  Calls Tryz.prog 116 #[aG O V (.slice Al nl cl) k s A A' m c m' c' (.slice Am ml cm),.int .i64 N,.int .i64 S,.int .i64 K,pv,rv] w fun e w'=>∃ u,e = .returned u/\CanAt w' u (fj k V a p rest N S K)/\Below w.heap.size w w':=by
 obtain ⟨Ap,mp,cp,Ap',mp',cp',rfl⟩:=hp.open_
 obtain ⟨Ar,mr,cr,Ar',mr',cr',rfl⟩:=hr.open_
 have HA:=aH ha
 have HP:=aH hp
 have HR:=aH hr
 have QP:=aH qp
 have QR:=aH qr
 have HRS:=aH hrest
 have QA:=aH (ha.qb (by omega))
 have QN:Hd (QB 64 (N:Rat)):=aH (dA (by omega) (by omega))
 have QS:Hd (QB 64 (S:Rat)):=aH (dA (by omega) (by omega))
 have QK:Hd (QB 64 (K:Rat)):=aH (dA (by omega) (by omega))
 have QD:Hd (QB 64 ((S + K:Int):Rat)):=aH (dA (by omega) (by omega))
 have i1:IntKind.i64.wrap (S + K) = S + K:=iI _ (by omega)
 have i2:IntKind.i64.wrap (V + 1) = V + 1:=iI _ (by omega)
 clear ha hp hr qp qr hrest
 unfold aG
 by_cases hs0:S = 0
 ·subst hs0
  have HW:Hd (fj k V a p rest N 0 K = p):=aH (by unfold fj; rw [if_pos rfl])
  go_enter Tryz.func116,Tryz.ntmps116
  go_wp2_with fail
  obtain ⟨W,hW,P0,P1,P2,P3,PB,Phs⟩:=tU w 43 [.int .i64 O,.int .i64 V,.slice Al nl cl,.int .i64 k,.bool s,.slice A m c,.slice A' m' c',.slice Am ml cm] 40 [.bool (ae p),.slice Ap mp cp,.slice Ap' mp' cp'] 40 [.bool (ae rest),.slice Ar mr cr,.slice Ar' mr' cr'] 40 [.bool (ae p),.slice Ap mp cp,.slice Ap' mp' cp']
  rw [<- hW]
  clear hW
  obtain ⟨g0,g1,g2,_,_,_⟩:=P3.o.three
  refine bodyPost_ret (v:=.agg #[.bool (ae p),.slice Ap mp cp,.slice Ap' mp' cp']) (by simp [results,Tryz.results116,go_sem,g0,g1,g2]) rfl ⟨_,rfl,by rw [HW.o]; exact HP.o.below PB.o,PB.o⟩
 have s1:(S == 0) = false:=by simpa using hs0
 go_enter Tryz.func116,Tryz.ntmps116
 go_upto_region 3 with fail
 obtain ⟨W,hW,P0,P1,P2,P3,PB,Phs⟩:=tU w 43 [.int .i64 O,.int .i64 V,.slice Al nl cl,.int .i64 k,.bool s,.slice A m c,.slice A' m' c',.slice Am ml cm] 40 [.bool (ae p),.slice Ap mp cp,.slice Ap' mp' cp'] 40 [.bool (ae rest),.slice Ar mr cr,.slice Ar' mr' cr'] 40 [.bool false,.slice none 0 0,.slice none 0 0]
 rw [<- hW]
 clear hW
 obtain ⟨p0,p1,p2,p3,p4,p5,p6,p7⟩:=an P0.o
 obtain ⟨g0,g1,g2,_,_,_⟩:=P1.o.three
 obtain ⟨h0,h1,h2,_,_,_⟩:=P2.o.three
 have RR:Hd (BoxC W (w.heap.size + 3) 0):=aH (BoxC.of (q:=0) P3.o ((CanNew.zero_ 0 W).at_))
 have TA:=aH ((HA.o.below PB.o).mono (show 64 <= 1000000000 by omega))
 have TP:=aH ((HP.o.below PB.o).frac (k:=1000000000) (QP.o.mono (by omega)) (by omega))
 have TR:=aH ((HR.o.below PB.o).frac (k:=1000000000) (QR.o.mono (by omega)) (by omega))
 have HPW:=aH (HP.o.below PB.o)
 have S0:Hd ((S:Rat) ≠ 0):=aH (fh (fr (by omega)))
 by_cases hk4:k = 4
 ·subst hk4
  have D0:Hd (((S + K:Int):Rat) ≠ 0):=aH (fh (fr (by omega)))
  obtain ⟨X1,hX1⟩:∃ x:Rat,(K:Rat) * p = x:=⟨_,rfl⟩
  obtain ⟨X2,hX2⟩:∃ x:Rat,(N:Rat) + X1 = x:=⟨_,rfl⟩
  obtain ⟨X3,hX3⟩:∃ x:Rat,X2 / ((S + K:Int):Rat) = x:=⟨_,rfl⟩
  have Q1:Hd (QB 6000000 X1):=aH (by rw [<- hX1]; exact (QK.o.mul QP.o).mono (by omega))
  have Q2:Hd (QB 7000000 X2):=aH (by rw [<- hX2]; exact (QN.o.add Q1.o).mono (by omega))
  have HW:Hd (fj 4 V a p rest N S K = X3):=aH (by unfold fj; rw [if_neg hs0,if_pos rfl,hX1,hX2,hX3])
  have HX1:=aH hX1
  have HX2:=aH hX2
  have HX3:=aH hX3
  clear hX1 hX2 hX3 hs0
  have HSET:Hd (∀ w',Below W.heap.size W w'->(fun w'=>w'.cell? ⟨w.heap.size + 1,0,none⟩ = some (.bool (ae p))/\w'.cell? ⟨w.heap.size + 1,1,none⟩ = some (.slice Ap mp cp)/\w'.cell? ⟨w.heap.size + 1,2,none⟩ = some (.slice Ap' mp' cp')) w'):=aH (fun w' hb=>⟨(hb.cell (p:=⟨w.heap.size + 1,0,none⟩) (by show w.heap.size + 1 < W.heap.size; omega)).trans g0,(hb.cell (p:=⟨w.heap.size + 1,1,none⟩) (by show w.heap.size + 1 < W.heap.size; omega)).trans g1,(hb.cell (p:=⟨w.heap.size + 1,2,none⟩) (by show w.heap.size + 1 < W.heap.size; omega)).trans g2⟩)
  have BB:=aH (Below.refl W.heap.size W)
  have hS:=HSET.o W BB.o
  go_wp2_with fail
  go_region_held3 (fun w'=>w'.cell? ⟨w.heap.size + 1,0,none⟩ = some (.bool (ae p))/\w'.cell? ⟨w.heap.size + 1,1,none⟩ = some (.slice Ap mp cp)/\w'.cell? ⟨w.heap.size + 1,2,none⟩ = some (.slice Ap' mp' cp'))
   (first | assumption | exact ⟨aj hS.1 (show w.heap.size + 1 ≠ w.heap.size + 3 by omega) _ _ _ _ _ _,aj hS.2.1 (show w.heap.size + 1 ≠ w.heap.size + 3 by omega) _ _ _ _ _ _,aj hS.2.2 (show w.heap.size + 1 ≠ w.heap.size + 3 by omega) _ _ _ _ _ _⟩ | exact hS)
   (first
    | (go_at_call_of 33 (Value.int .i64 N); refine (ko _ N (by omega) (by omega)).mono ?_; rintro e wl ⟨u,rfl,t,hb⟩; (try replace hb:=bO hb); replace BB:=aH (BB.o.trans (hb.mono BB.o.size)); have hs:=BB.o.size; have T1:=aH (t.at_.frac (k:=1000000000) (QN.o.mono (by omega)) (by omega)); have hS:=HSET.o _ BB.o; clear t hb)
    | (go_at_call_of 33 (Value.int .i64 K); refine (ko _ K (by omega) (by omega)).mono ?_; rintro e wl ⟨u,rfl,t,hb⟩; (try replace hb:=bO hb); replace T1:=aH (T1.o.below hb); replace BB:=aH (BB.o.trans (hb.mono BB.o.size)); have hs:=BB.o.size; have T2:=aH (t.at_.frac (k:=1000000000) (QK.o.mono (by omega)) (by omega)); have hS:=HSET.o _ BB.o; clear t hb)
    | (go_at_call 91; refine (mV _ _ _ (K:Rat) p 1000000000 ?_ ?_ (by omega) (by omega)).mono ?_; (first | exact T2.o | exact T2.o.below (bS _)); (first | exact TP.o.below BB.o | exact (TP.o.below BB.o).below (bS _)); rintro e wl ⟨u,rfl,t,hb⟩; rw [HX1.o] at t; (try replace hb:=bO hb); replace T1:=aH (T1.o.below hb); replace BB:=aH (BB.o.trans (hb.mono BB.o.size)); have hs:=BB.o.size; have T3:=aH (t.at_.frac (k:=1000000000) (Q1.o.mono (by omega)) (by omega)); have hS:=HSET.o _ BB.o; (try (obtain ⟨_,_,_,_,_,_,z0,z1,z2,y0,y1,y2,_⟩:=(RR.o.below BB.o).get)); clear t hb)
    | (go_at_call 34; refine (nO _ _ _ (N:Rat) X1 1000000000 ?_ ?_ (by omega) (by omega)).mono ?_; (first | exact T1.o | exact T1.o.below (bS _)); (first | exact T3.o | exact T3.o.below (bS _)); rintro e wl ⟨u,rfl,t,hb⟩; rw [HX2.o] at t; (try replace hb:=bO hb); replace BB:=aH (BB.o.trans (hb.mono BB.o.size)); have hs:=BB.o.size; have T4:=aH (t.at_.frac (k:=1000000000) (Q2.o.mono (by omega)) (by omega)); have hS:=HSET.o _ BB.o; (try (obtain ⟨_,_,_,_,_,_,z0,z1,z2,y0,y1,y2,_⟩:=(RR.o.below BB.o).get)); clear t hb)
    | (go_at_call_of 33 (Value.int .i64 (S + K)); refine (ko _ (S + K) (by omega) (by omega)).mono ?_; rintro e wl ⟨u,rfl,t,hb⟩; (try replace hb:=bO hb); replace T4:=aH (T4.o.below hb); replace BB:=aH (BB.o.trans (hb.mono BB.o.size)); have hs:=BB.o.size; have T5:=aH (t.at_.frac (k:=1000000000) (QD.o.mono (by omega)) (by omega)); have hS:=HSET.o _ BB.o; clear t hb)
    | (go_at_call 31; refine (tF _ _ _ X2 ((S + K:Int):Rat) 1000000000 ?_ ?_ (by omega) (by omega) D0.o).mono ?_; (first | exact T4.o | exact T4.o.below (bS _)); (first | exact T5.o | exact T5.o.below (bS _)); rintro e wl ⟨u,rfl,t,hb⟩; rw [HX3.o] at t; (try replace hb:=bO hb); replace BB:=aH (BB.o.trans (hb.mono BB.o.size)); have hs:=BB.o.size; obtain ⟨As,ms,cs,As',ms',cs',rfl⟩:=t.at_.open_; have T9:=aH t.at_; have hS:=HSET.o _ BB.o; (try (obtain ⟨_,_,_,_,_,_,z0,z1,z2,y0,y1,y2,_⟩:=(RR.o.below BB.o).get)); clear t hb))
  all_goals
   go_wp2_with fail
   have R4:=(RR.o.below BB.o).put rfl T9.o
   obtain ⟨Az,mz,cz,Az',mz',cz',g0,g1,g2,_,_,_,tz⟩:=R4.get
   refine bodyPost_ret (v:=.agg #[.bool (ae X3),.slice Az mz cz,.slice Az' mz' cz']) (by simp [results,Tryz.results116,go_sem,g0,g1,g2]) rfl ⟨_,rfl,by rw [HW.o]; exact tz,aL (PB.o.trans (BB.o.mono (by omega))) (by omega) _ _ _ _ _ _⟩
 have n4:(k == 4) = false:=by simpa using hk4
 by_cases hkv:K = V + 1
 ·have e1:(K == V + 1) = true:=by simpa using hkv
  have HW:Hd (fj k V a p rest N S K = (N:Rat) / (S:Rat)):=aH (by unfold fj; rw [if_neg hs0,if_neg hk4,if_pos hkv])
  have hSp:0 < S:=by omega
  clear hs0 hk4 hkv
  go_wp2_with fail
  refine (lR W N S (by omega) (by omega) hSp (by omega)).mono ?_
  rintro e w5 ⟨u,rfl,t5,hb5⟩
  obtain ⟨As,ms,cs,As',ms',cs',rfl⟩:=t5.at_.open_
  have T9:=aH t5.at_
  have BB:=aH hb5
  clear t5 hb5
  obtain ⟨_,_,_,_,_,_,z0,z1,z2,y0,y1,y2,_⟩:=(RR.o.below BB.o).get
  go_wp2_with fail
  have R4:=(RR.o.below BB.o).put rfl T9.o
  obtain ⟨Az,mz,cz,Az',mz',cz',g0,g1,g2,_,_,_,tz⟩:=R4.get
  refine bodyPost_ret (v:=.agg #[.bool (ae ((N:Rat) / (S:Rat))),.slice Az mz cz,.slice Az' mz' cz']) (by simp [results,Tryz.results116,go_sem,g0,g1,g2]) rfl ⟨_,rfl,by rw [HW.o]; exact tz,aL (PB.o.trans (BB.o.mono (by omega))) (by omega) _ _ _ _ _ _⟩
 have e1:(K == V + 1) = false:=by simpa using hkv
 by_cases hn:0 < N
 ·have d1:decide (0 < N) = true:=dT hn
  obtain ⟨X1,hX1⟩:∃ x:Rat,(N:Rat) - a = x:=⟨_,rfl⟩
  obtain ⟨X3,hX3⟩:∃ x:Rat,X1 / (S:Rat) = x:=⟨_,rfl⟩
  have Q1:Hd (QB 200 X1):=aH (by rw [<- hX1]; exact (QB.sub QN.o QA.o).mono (by omega))
  have HW:Hd (fj k V a p rest N S K = X3):=aH (by unfold fj; rw [if_neg hs0,if_neg hk4,if_neg hkv,if_pos hn,hX1,hX3])
  have HX1:=aH hX1
  have HX3:=aH hX3
  clear hX1 hX3 hs0 hk4 hkv
  have HSET:Hd (∀ w',Below W.heap.size W w'->(fun w'=>w'.cell? ⟨w.heap.size,4,none⟩ = some (.bool s)/\w'.cell? ⟨w.heap.size,5,none⟩ = some (.slice A m c)/\w'.cell? ⟨w.heap.size,6,none⟩ = some (.slice A' m' c')) w'):=aH (fun w' hb=>⟨(hb.cell (p:=⟨w.heap.size,4,none⟩) (by show w.heap.size < W.heap.size; omega)).trans p4,(hb.cell (p:=⟨w.heap.size,5,none⟩) (by show w.heap.size < W.heap.size; omega)).trans p5,(hb.cell (p:=⟨w.heap.size,6,none⟩) (by show w.heap.size < W.heap.size; omega)).trans p6⟩)
  have BB:=aH (Below.refl W.heap.size W)
  have hS:=HSET.o W BB.o
  go_wp2_with fail
  go_region_held3 (fun w'=>w'.cell? ⟨w.heap.size,4,none⟩ = some (.bool s)/\w'.cell? ⟨w.heap.size,5,none⟩ = some (.slice A m c)/\w'.cell? ⟨w.heap.size,6,none⟩ = some (.slice A' m' c'))
   (first | assumption | exact ⟨aj hS.1 (show w.heap.size ≠ w.heap.size + 3 by omega) _ _ _ _ _ _,aj hS.2.1 (show w.heap.size ≠ w.heap.size + 3 by omega) _ _ _ _ _ _,aj hS.2.2 (show w.heap.size ≠ w.heap.size + 3 by omega) _ _ _ _ _ _⟩ | exact hS)
   (first
    | (go_at_call_of 33 (Value.int .i64 N); refine (ko _ N (by omega) (by omega)).mono ?_; rintro e wl ⟨u,rfl,t,hb⟩; (try replace hb:=bO hb); replace BB:=aH (BB.o.trans (hb.mono BB.o.size)); have hs:=BB.o.size; have T1:=aH (t.at_.frac (k:=1000000000) (QN.o.mono (by omega)) (by omega)); have hS:=HSET.o _ BB.o; clear t hb)
    | (go_at_call 32; refine (wm _ _ _ (N:Rat) a 1000000000 ?_ ?_ (by omega) (by omega)).mono ?_; (first | exact T1.o | exact T1.o.below (bS _)); (first | exact TA.o.below BB.o | exact (TA.o.below BB.o).below (bS _)); rintro e wl ⟨u,rfl,t,hb⟩; rw [HX1.o] at t; (try replace hb:=bO hb); replace BB:=aH (BB.o.trans (hb.mono BB.o.size)); have hs:=BB.o.size; have T3:=aH (t.at_.frac (k:=1000000000) (Q1.o.mono (by omega)) (by omega)); have hS:=HSET.o _ BB.o; (try (obtain ⟨_,_,_,_,_,_,z0,z1,z2,y0,y1,y2,_⟩:=(RR.o.below BB.o).get)); clear t hb)
    | (go_at_call_of 33 (Value.int .i64 S); refine (ko _ S (by omega) (by omega)).mono ?_; rintro e wl ⟨u,rfl,t,hb⟩; (try replace hb:=bO hb); replace T3:=aH (T3.o.below hb); replace BB:=aH (BB.o.trans (hb.mono BB.o.size)); have hs:=BB.o.size; have T5:=aH (t.at_.frac (k:=1000000000) (QS.o.mono (by omega)) (by omega)); have hS:=HSET.o _ BB.o; clear t hb)
    | (go_at_call 31; refine (tF _ _ _ X1 (S:Rat) 1000000000 ?_ ?_ (by omega) (by omega) S0.o).mono ?_; (first | exact T3.o | exact T3.o.below (bS _)); (first | exact T5.o | exact T5.o.below (bS _)); rintro e wl ⟨u,rfl,t,hb⟩; rw [HX3.o] at t; (try replace hb:=bO hb); replace BB:=aH (BB.o.trans (hb.mono BB.o.size)); have hs:=BB.o.size; obtain ⟨As,ms,cs,As',ms',cs',rfl⟩:=t.at_.open_; have T9:=aH t.at_; have hS:=HSET.o _ BB.o; (try (obtain ⟨_,_,_,_,_,_,z0,z1,z2,y0,y1,y2,_⟩:=(RR.o.below BB.o).get)); clear t hb))
  all_goals
   go_wp2_with fail
   have R4:=(RR.o.below BB.o).put rfl T9.o
   obtain ⟨Az,mz,cz,Az',mz',cz',g0,g1,g2,_,_,_,tz⟩:=R4.get
   refine bodyPost_ret (v:=.agg #[.bool (ae X3),.slice Az mz cz,.slice Az' mz' cz']) (by simp [results,Tryz.results116,go_sem,g0,g1,g2]) rfl ⟨_,rfl,by rw [HW.o]; exact tz,aL (PB.o.trans (BB.o.mono (by omega))) (by omega) _ _ _ _ _ _⟩
 have d1:decide (0 < N) = false:=dF hn
 have RN:=aH (HRS.o hs0 hk4 hkv hn)
 obtain ⟨X1,hX1⟩:∃ x:Rat,a * (K:Rat) = x:=⟨_,rfl⟩
 obtain ⟨X2,hX2⟩:∃ x:Rat,X1 / (S:Rat) = x:=⟨_,rfl⟩
 obtain ⟨X3,hX3⟩:∃ x:Rat,X2 * p = x:=⟨_,rfl⟩
 obtain ⟨X4,hX4⟩:∃ x:Rat,X3 / rest = x:=⟨_,rfl⟩
 have Q1:Hd (QB 200 X1):=aH (by rw [<- hX1]; exact (QA.o.mul QK.o).mono (by omega))
 have Q2:Hd (QB 300 X2):=aH (by rw [<- hX2]; exact (Q1.o.div QS.o (by omega)).mono (by omega))
 have Q3:Hd (QB 6000000 X3):=aH (by rw [<- hX3]; exact (Q2.o.mul QP.o).mono (by omega))
 have HW:Hd (fj k V a p rest N S K = X4):=aH (by unfold fj; rw [if_neg hs0,if_neg hk4,if_neg hkv,if_neg hn,hX1,hX2,hX3,hX4])
 have HX1:=aH hX1
 have HX2:=aH hX2
 have HX3:=aH hX3
 have HX4:=aH hX4
 clear hX1 hX2 hX3 hX4 hs0 hk4 hkv
 go_upto_region 9 with fail
 go_cut [13] (fun q wc=>∃ bp,q = .pointer (some ⟨bp,0,none⟩)/\Hd (W.heap.size <= bp)/\Hd (BoxC wc bp X2)/\Hd (Below W.heap.size W wc))
 case first =>
  have HSET:Hd (∀ w',Below W.heap.size W w'->(fun w'=>w'.cell? ⟨w.heap.size,4,none⟩ = some (.bool s)/\w'.cell? ⟨w.heap.size,5,none⟩ = some (.slice A m c)/\w'.cell? ⟨w.heap.size,6,none⟩ = some (.slice A' m' c')) w'):=aH (fun w' hb=>⟨(hb.cell (p:=⟨w.heap.size,4,none⟩) (by show w.heap.size < W.heap.size; omega)).trans p4,(hb.cell (p:=⟨w.heap.size,5,none⟩) (by show w.heap.size < W.heap.size; omega)).trans p5,(hb.cell (p:=⟨w.heap.size,6,none⟩) (by show w.heap.size < W.heap.size; omega)).trans p6⟩)
  have BB:=aH (Below.refl W.heap.size W)
  have hS:=HSET.o W BB.o
  go_region_held3 (fun w'=>w'.cell? ⟨w.heap.size,4,none⟩ = some (.bool s)/\w'.cell? ⟨w.heap.size,5,none⟩ = some (.slice A m c)/\w'.cell? ⟨w.heap.size,6,none⟩ = some (.slice A' m' c'))
   (first | assumption | exact ⟨au hS.1 _,au hS.2.1 _,au hS.2.2 _⟩ | exact ⟨aj hS.1 (by omega) _ _ _ _ _ _,aj hS.2.1 (by omega) _ _ _ _ _ _,aj hS.2.2 (by omega) _ _ _ _ _ _⟩ | go_keep)
   (first
    | (go_at_call_of 33 (Value.int .i64 K); refine (ko _ K (by omega) (by omega)).mono ?_; rintro e wl ⟨u,rfl,t,hb⟩; have hb0:=hb; (first | replace hb:=below_new_drew hb | replace hb:=below_new hb | replace hb:=bO hb | skip); (try (first | replace AB:=aH (AB.o.below' hb) | replace AB:=aH (AB.o.below hb))); (first | have AB:=aH ((BoxC.zero _).below hb0) | have AB:=aH ((BoxC.zero _).below (bO hb0)) | skip); replace BB:=aH (BB.o.trans (hb.mono BB.o.size)); have hs:=BB.o.size; clear hb0; have T2:=aH (t.at_.frac (k:=1000000000) (QK.o.mono (by omega)) (by omega)); have hS:=HSET.o _ BB.o; clear t hb)
    | (go_at_call 91; refine (mV _ _ _ a (K:Rat) 1000000000 ?_ ?_ (by omega) (by omega)).mono ?_; (first | exact TA.o.below BB.o | exact (TA.o.below BB.o).below (bS _) | exact (TA.o.below BB.o).below (bA _ _) | exact (TA.o.below BB.o).below (below_alloc_drew _ _)); (first | exact T2.o | exact T2.o.below (bS _) | exact T2.o.below (bA _ _) | exact T2.o.below (below_alloc_drew _ _)); rintro e wl ⟨u,rfl,t,hb⟩; rw [HX1.o] at t; have hb0:=hb; (first | replace hb:=below_new_drew hb | replace hb:=below_new hb | replace hb:=bO hb | skip); (try (first | replace AB:=aH (AB.o.below' hb) | replace AB:=aH (AB.o.below hb))); (first | have AB:=aH ((BoxC.zero _).below hb0) | have AB:=aH ((BoxC.zero _).below (bO hb0)) | skip); replace BB:=aH (BB.o.trans (hb.mono BB.o.size)); have hs:=BB.o.size; clear hb0; have T3:=aH (t.at_.frac (k:=1000000000) (Q1.o.mono (by omega)) (by omega)); have hS:=HSET.o _ BB.o; (try (obtain ⟨_,_,_,_,_,_,z0,z1,z2,y0,y1,y2,_⟩:=(RR.o.below BB.o).get)); clear t hb)
    | (go_at_call_of 33 (Value.int .i64 S); refine (ko _ S (by omega) (by omega)).mono ?_; rintro e wl ⟨u,rfl,t,hb⟩; have hb0:=hb; (first | replace hb:=below_new_drew hb | replace hb:=below_new hb | replace hb:=bO hb | skip); (try (first | replace AB:=aH (AB.o.below' hb) | replace AB:=aH (AB.o.below hb))); (try (first | replace T3:=aH (T3.o.below' hb) | replace T3:=aH (T3.o.below hb))); (first | have AB:=aH ((BoxC.zero _).below hb0) | have AB:=aH ((BoxC.zero _).below (bO hb0)) | skip); replace BB:=aH (BB.o.trans (hb.mono BB.o.size)); have hs:=BB.o.size; clear hb0; have T5:=aH (t.at_.frac (k:=1000000000) (QS.o.mono (by omega)) (by omega)); have hS:=HSET.o _ BB.o; clear t hb)
    | (go_at_call 31; refine (tF _ _ _ X1 (S:Rat) 1000000000 ?_ ?_ (by omega) (by omega) S0.o).mono ?_; (first | exact T3.o | exact T3.o.below (bS _) | exact T3.o.below (bA _ _) | exact T3.o.below (below_alloc_drew _ _)); (first | exact T5.o | exact T5.o.below (bS _) | exact T5.o.below (bA _ _) | exact T5.o.below (below_alloc_drew _ _)); rintro e wl ⟨u,rfl,t,hb⟩; rw [HX2.o] at t; have hb0:=hb; (first | replace hb:=below_new_drew hb | replace hb:=below_new hb | replace hb:=bO hb | skip); (try (first | replace AB:=aH (AB.o.below' hb) | replace AB:=aH (AB.o.below hb))); (first | have AB:=aH ((BoxC.zero _).below hb0) | have AB:=aH ((BoxC.zero _).below (bO hb0)) | skip); replace BB:=aH (BB.o.trans (hb.mono BB.o.size)); have hs:=BB.o.size; clear hb0; obtain ⟨As,ms,cs,As',ms',cs',rfl⟩:=t.at_.open_; have T9:=aH t.at_; have hS:=HSET.o _ BB.o; (try (obtain ⟨_,_,_,_,_,_,ab0,ab1,ab2,az0,az1,az2,_⟩:=AB.o.get)); clear t hb))
  all_goals
   go_wp2_with fail
   go_meet
   first
    | exact ⟨_,rfl,aH (by omega),aH (BoxC.new T9.o),aH (BB.o.alloc BB.o.size _)⟩
    | exact ⟨_,rfl,aH (by omega),aH (AB.o.put rfl T9.o),aH (aL BB.o (by omega) _ _ _ _ _ _)⟩
 obtain ⟨bf,rfl,hbf,BF,BC⟩:=hcut
 have s6:=hbf.o
 have RC:=aH (RR.o.below BC.o)
 have X1':=aH (P1.o.below' BC.o)
 have X2':=aH (P2.o.below' BC.o)
 have TP':=aH (TP.o.below BC.o)
 have TR':=aH (TR.o.below BC.o)
 have PC:=aH (PB.o.trans (BC.o.mono (by omega)))
 have lc:W.heap.size <= wc.heap.size:=BC.o.size
 have lf:bf < wc.heap.size:=BF.o.lt
 clear g0 g1 g2 h0 h1 h2 p0 p1 p2 p3 p4 p5 p6 p7 RR TP TR PB
 obtain ⟨g0,g1,g2,_,_,_⟩:=X1'.o.three
 obtain ⟨h0,h1,h2,_,_,_⟩:=X2'.o.three
 obtain ⟨Af,mf,cf,Af',mf',cf',f0,f1,f2,_,_,_,tf⟩:=BF.o.get
 have TF:=aH (tf.frac (k:=1000000000) (Q2.o.mono (by omega)) (by omega))
 have RR:=RC
 have TP:=TP'
 have TR:=TR'
 have PB:=PC
 clear tf RC TP' TR' PC
 have HSET:Hd (∀ w',Below wc.heap.size wc w'->(fun w'=>w'.cell? ⟨bf,0,none⟩ = some (.bool (ae X2))/\w'.cell? ⟨bf,1,none⟩ = some (.slice Af mf cf)/\w'.cell? ⟨bf,2,none⟩ = some (.slice Af' mf' cf')/\w'.cell? ⟨w.heap.size + 1,0,none⟩ = some (.bool (ae p))/\w'.cell? ⟨w.heap.size + 1,1,none⟩ = some (.slice Ap mp cp)/\w'.cell? ⟨w.heap.size + 1,2,none⟩ = some (.slice Ap' mp' cp')/\w'.cell? ⟨w.heap.size + 2,0,none⟩ = some (.bool (ae rest))/\w'.cell? ⟨w.heap.size + 2,1,none⟩ = some (.slice Ar mr cr)/\w'.cell? ⟨w.heap.size + 2,2,none⟩ = some (.slice Ar' mr' cr')) w'):=aH (fun w' hb=>⟨(hb.cell (p:=⟨bf,0,none⟩) (by show bf < wc.heap.size; omega)).trans f0,(hb.cell (p:=⟨bf,1,none⟩) (by show bf < wc.heap.size; omega)).trans f1,(hb.cell (p:=⟨bf,2,none⟩) (by show bf < wc.heap.size; omega)).trans f2,(hb.cell (p:=⟨w.heap.size + 1,0,none⟩) (by show w.heap.size + 1 < wc.heap.size; omega)).trans g0,(hb.cell (p:=⟨w.heap.size + 1,1,none⟩) (by show w.heap.size + 1 < wc.heap.size; omega)).trans g1,(hb.cell (p:=⟨w.heap.size + 1,2,none⟩) (by show w.heap.size + 1 < wc.heap.size; omega)).trans g2,(hb.cell (p:=⟨w.heap.size + 2,0,none⟩) (by show w.heap.size + 2 < wc.heap.size; omega)).trans h0,(hb.cell (p:=⟨w.heap.size + 2,1,none⟩) (by show w.heap.size + 2 < wc.heap.size; omega)).trans h1,(hb.cell (p:=⟨w.heap.size + 2,2,none⟩) (by show w.heap.size + 2 < wc.heap.size; omega)).trans h2⟩)
 have BB:=aH (Below.refl wc.heap.size wc)
 have hS:=HSET.o wc BB.o
 go_wp2_with fail
 go_region_held3 (fun w'=>w'.cell? ⟨bf,0,none⟩ = some (.bool (ae X2))/\w'.cell? ⟨bf,1,none⟩ = some (.slice Af mf cf)/\w'.cell? ⟨bf,2,none⟩ = some (.slice Af' mf' cf')/\w'.cell? ⟨w.heap.size + 1,0,none⟩ = some (.bool (ae p))/\w'.cell? ⟨w.heap.size + 1,1,none⟩ = some (.slice Ap mp cp)/\w'.cell? ⟨w.heap.size + 1,2,none⟩ = some (.slice Ap' mp' cp')/\w'.cell? ⟨w.heap.size + 2,0,none⟩ = some (.bool (ae rest))/\w'.cell? ⟨w.heap.size + 2,1,none⟩ = some (.slice Ar mr cr)/\w'.cell? ⟨w.heap.size + 2,2,none⟩ = some (.slice Ar' mr' cr'))
  (first | assumption | exact ⟨aj hS.1 (show bf ≠ w.heap.size + 3 by omega) _ _ _ _ _ _,aj hS.2.1 (show bf ≠ w.heap.size + 3 by omega) _ _ _ _ _ _,aj hS.2.2.1 (show bf ≠ w.heap.size + 3 by omega) _ _ _ _ _ _,aj hS.2.2.2.1 (show w.heap.size + 1 ≠ w.heap.size + 3 by omega) _ _ _ _ _ _,aj hS.2.2.2.2.1 (show w.heap.size + 1 ≠ w.heap.size + 3 by omega) _ _ _ _ _ _,aj hS.2.2.2.2.2.1 (show w.heap.size + 1 ≠ w.heap.size + 3 by omega) _ _ _ _ _ _,aj hS.2.2.2.2.2.2.1 (show w.heap.size + 2 ≠ w.heap.size + 3 by omega) _ _ _ _ _ _,aj hS.2.2.2.2.2.2.2.1 (show w.heap.size + 2 ≠ w.heap.size + 3 by omega) _ _ _ _ _ _,aj hS.2.2.2.2.2.2.2.2 (show w.heap.size + 2 ≠ w.heap.size + 3 by omega) _ _ _ _ _ _⟩ | exact hS)
  (first
   | (go_at_call 91; refine (mV _ _ _ X2 p 1000000000 ?_ ?_ (by omega) (by omega)).mono ?_; (first | exact TF.o.below BB.o | exact (TF.o.below BB.o).below (bS _)); (first | exact TP.o.below BB.o | exact (TP.o.below BB.o).below (bS _)); rintro e wl ⟨u,rfl,t,hb⟩; rw [HX3.o] at t; (try replace hb:=bO hb); replace BB:=aH (BB.o.trans (hb.mono BB.o.size)); have hs:=BB.o.size; have T4:=aH (t.at_.frac (k:=1000000000) (Q3.o.mono (by omega)) (by omega)); have hS:=HSET.o _ BB.o; (try (obtain ⟨_,_,_,_,_,_,z0,z1,z2,y0,y1,y2,_⟩:=(RR.o.below BB.o).get)); clear t hb)
   | (go_at_call 31; refine (tF _ _ _ X3 rest 1000000000 ?_ ?_ (by omega) (by omega) RN.o).mono ?_; (first | exact T4.o | exact T4.o.below (bS _)); (first | exact TR.o.below BB.o | exact (TR.o.below BB.o).below (bS _)); rintro e wl ⟨u,rfl,t,hb⟩; rw [HX4.o] at t; (try replace hb:=bO hb); replace BB:=aH (BB.o.trans (hb.mono BB.o.size)); have hs:=BB.o.size; obtain ⟨As,ms,cs,As',ms',cs',rfl⟩:=t.at_.open_; have T9:=aH t.at_; have hS:=HSET.o _ BB.o; (try (obtain ⟨_,_,_,_,_,_,z0,z1,z2,y0,y1,y2,_⟩:=(RR.o.below BB.o).get)); clear t hb))
 all_goals
  go_wp2_with fail
  have R4:=(RR.o.below BB.o).put rfl T9.o
  obtain ⟨Az,mz,cz,Az',mz',cz',g0,g1,g2,_,_,_,tz⟩:=R4.get
  refine bodyPost_ret (v:=.agg #[.bool (ae X4),.slice Az mz cz,.slice Az' mz' cz']) (by simp [results,Tryz.results116,go_sem,g0,g1,g2]) rfl ⟨_,rfl,by rw [HW.o]; exact tz,aL (PB.o.trans (BB.o.mono (by omega))) (by omega) _ _ _ _ _ _⟩
theorem wJ (w:World) (v:Nat) (Al:Option Addr) (nl cl:Nat) (k:Int) (s:Bool) (A A':Option Addr) (m c m' c':Nat) (Am:Option Addr) (ml cm:Nat)(hv:Value) (Ah:Option Addr) (nh ch:Nat)(he:hv = .slice Ah nh ch)(hv8:v <= 8) :
  Calls Tryz.prog 43 #[aG 0 v (.slice Al nl cl) k s A A' m c m' c' (.slice Am ml cm),hv] w (dj w v (dO v)):=by
 subst he
 have v1:IntKind.i64.wrap ((v:Int) + 1) = (v:Int) + 1:=iI _ (by omega)
 unfold aG
 go_enter Tryz.func43,Tryz.ntmps43
 go_wp2_with (at_make; refine aD rfl _ _ rfl ((v:Int) + 1) (v + 1) rfl rfl (by omega) (by omega) ?_)
 obtain ⟨W,hW,P0,PB,Phs⟩:=aA w 43 [.int .i64 0,.int .i64 v,.slice Al nl cl,.int .i64 k,.bool s,.slice A m c,.slice A' m' c',.slice Am ml cm]
 rw [<- hW]
 clear hW
 intro w1 hf1 hb1
 have F1:=aH hf1.arc
 have P1:=aH (P0.o.below hb1 (by omega))
 have B1:=aH (PB.o.trans (hb1.mono (by omega)))
 clear hf1 hb1 P0 PB
 obtain ⟨p0,p1,p2,p3,p4,p5,p6,p7⟩:=an P1.o
 obtain ⟨fw,hfw⟩:∃ f:Nat->Rat,f = fun _=>(1:Rat) / ((v + 1:Nat):Rat):=⟨_,rfl⟩
 have FW:=aH hfw
 clear hfw
 go_wp2_with fail
 go_loopg [7] (v + 1) (fun gh i wz=>∃ (j:Nat),i = .int .i64 j/\j + gh = v + 1/\Hd (FArc wz (w.heap.size + 1) ((List.range j).map fw ++ List.replicate gh 0))/\Hd (Below w.heap.size w wz))
 case atStart=>exact ⟨0,rfl,by omega,aH (by simpa using F1.o),B1⟩
 clear F1 B1
 obtain ⟨j,rfl,hj,F4,B4⟩:=hrel
 rcases zP gk with hh | hh
 ·subst hh
  obtain rfl:j = v + 1:=by omega
  have d1:decide ((v:Int) + 1 <= (v:Int)) = false:=dF (by omega)
  have d2:decide (v + 1 <= v) = false:=dF (by omega)
  go_wp2_with fail
  go_ret
  exact ⟨_,rfl,by omega,by
   have h1:=F4.o
   rw [List.replicate_zero,List.append_nil,FW.o] at h1
   have e:(List.range (v + 1)).map (fun _=>(1:Rat) / ((v + 1:Nat):Rat)) = dO v:=by
    unfold dO
    apply List.ext_getElem?
    intro i
    by_cases hi:i < v + 1
    ·rw [List.getElem?_map,List.getElem?_range hi,List.getElem?_replicate_of_lt hi]; rfl
    rw [nI.2 (by simp; omega),nI.2 (by simp; omega)]
   rwa [e] at h1,B4.o⟩
 obtain ⟨gh,rfl⟩:∃ g,gk = g + 1:=⟨gk - 1,by omega⟩
 have d1:decide ((j:Int) <= (v:Int)) = true:=dT (by omega)
 have d2:decide (j <= v) = true:=dT (by omega)
 have j1:IntKind.i64.wrap ((j:Int) + 1) = (j:Int) + 1:=iI _ (by omega)
 have i1:(0:Int) <= (j:Int):=by omega
 have i2:(j:Int) < (v:Int) + 1:=by omega
 go_wp2_with fail
 refine (lR wr 1 ((v:Int) + 1) (by omega) (by omega) (by omega) (by omega)).mono ?_
 rintro e w5 ⟨u,rfl,t5,hb5⟩
 have HV:Hd (((1:Int):Rat) / (((v:Int) + 1:Int):Rat) = fw j):=aH (by
  rw [FW.o]
  rw [show ((1:Int):Rat) = 1 from rfl,show ((v:Int) + 1) = ((v + 1:Nat):Int) by omega,Rat.intCast_natCast])
 rw [HV.o] at t5
 obtain ⟨Ar,mr,cr,Ar',mr',cr',rfl⟩:=t5.at_.open_
 have T5:=aH t5.at_
 have F5:=aH (F4.o.below hb5)
 have B5:=aH (B4.o.trans (hb5.mono B4.o.size))
 obtain ⟨_,_,_,_,_,_,f0,f1,f2,y0,y1,y2,_⟩:=F5.o.get (ff fw j gh)
 clear t5 hb5
 go_wp2_with fail
 go_roundg gh
 case measure=>omega
 case rel=>exact ⟨j + 1,rfl,by omega,aH (by
  have:=F5.o.put (i:=j) (by simp) rfl T5.o
  rwa [eO fw j gh rfl] at this),aH (aL B5.o (by omega) _ _ _ _ _ _)⟩
section
theorem js (l:List Rat) {n:Nat} (h:l.length = n):(List.range n).map (fun x=>l.getD x 0) = l:=by
 apply List.ext_getElem?
 intro i
 by_cases hi:i < n
 ·rw [List.getElem?_map,List.getElem?_range hi]
  show some (l.getD i 0) = l[i]?
  rw [gD,eG (by omega)]
  rfl
 rw [nI.2 (by simp; omega),nI.2 (by omega)]
theorem qu:(Tryz.prog.info? 27).map (fun i=>(i.zero,i.size,i.bytes)) = some (some (.agg #[.int .i64 0,.int .i64 0,.slice none 0 0]),3,40):=by kernel_rfl
theorem iy {w:World} {ops:Array Oper} {rest:List Oper} {o:Oper} {a:Act} {Q:Exit->Act->World->Prop} (hg:o.guard = none) (l c:Operand)(hop:o.op = Op.makeSlice 159 l c)
  (L:Int) (n:Nat) (hl:a.eval l = .int .i64 L) (hc:a.eval c = .int .i64 L) (hL:L = (n:Int)) (hn:n <= 1000000)
  (hK:∀ w',(∃ xs,Blk w' w.heap.size 27 xs/\xs.length = n * 3)->Below w.heap.size w w'->wpList Tryz.prog ops Q rest (a.put o.dst (.slice (some ⟨w.heap.size,0,none⟩) n n)) w') :
  wpList Tryz.prog ops Q (o :: rest) a w:=by
 obtain ⟨i0,h2,h3,h4,h5⟩:=info_parts qu
 refine wpList_make_full w hg l c 159 hop w.heap.size 27 i0 _ 3 Tryz.underlying159 h2 h3 h4 .i64 .i64 L L n hl hc hL hL (by rw [h5]; omega) (by unfold maxLen; omega) (nR _) fun w' hown hgr=>?_
 refine hK w' ?_ ((Below.refl _ w).grown hgr (nR _) (by simp))
 obtain ⟨hl0,h | ⟨g,cap,cur,hv,_,hh,hn',_,hsz,ht⟩⟩:=hown
 ·cases h.1
 injection hv with hv1 hv2 hv3
 injection hv1 with hv1
 injection hv1 with hv1
 subst hv1
 subst hv3
 exact ⟨cur.toList,hh,by simpa using hsz⟩
section
variable {w w':World} {bt n v:Nat} {gs:List Gr} {Al:Option Addr} {nl cl lo:Nat}
def LowsAt (w:World) (bt n v:Nat) (gs:List Gr) (Al:Option Addr) (nl cl lo:Nat):Prop:=∃ xs,Blk w bt 27 xs/\xs.length = (n + 1) * 3/\xs[n * 3]? = some (.int .i64 n)/\xs[n * 3 + 1]? = some (.int .i64 v)/\xs[n * 3 + 2]? = some (.slice Al nl cl) /\
 ∀ j,lo <= j->j < n->∃ A c,xs[j * 3]? = some (.int .i64 j)/\xs[j * 3 + 1]? = some (.int .i64 v)/\xs[j * 3 + 2]? = some (.slice A (dE gs (n - j)).length c)/\GOwn (bt + 1) w (.slice A (dE gs (n - j)).length c) (dE gs (n - j))
theorem LowsAt.lt (h:LowsAt w bt n v gs Al nl cl lo):bt < w.heap.size:=by
 obtain ⟨xs,hb,_⟩:=h
 exact hb.lt
theorem LowsAt.below (h:LowsAt w bt n v gs Al nl cl lo)(hb:Below w.heap.size w w'):LowsAt w' bt n v gs Al nl cl lo:=by
 obtain ⟨xs,h1,h2,e0,e1,e2,h3⟩:=h
 refine ⟨xs,h1.below' hb,h2,e0,e1,e2,fun j hj hn=>?_⟩
 obtain ⟨A,c,f0,f1,f2,f3⟩:=h3 j hj hn
 exact ⟨A,c,f0,f1,f2,f3.below hb⟩
theorem LowsAt.get (h:LowsAt w bt n v gs Al nl cl lo)(hG:GramsAt w (.slice Al nl cl) gs) {j:Nat} (hl:lo <= j)(hj:j <= n):∃ A m c,w.cell? ⟨bt,j * 3,none⟩ = some (.int .i64 j)/\w.cell? ⟨bt,j * 3 + 1,none⟩ = some (.int .i64 v)/\w.cell? ⟨bt,j * 3 + 2,none⟩ = some (.slice A m c)/\(dE gs (n - j)).length = m/\GramsAt w (.slice A m c) (dE gs (n - j)):=by
 obtain ⟨xs,h1,h2,e0,e1,e2,h3⟩:=h
 by_cases hn:j = n
 ·subst hn
  have hlen:gs.length = nl:=by
   obtain ⟨_,_,e,_⟩:=hG.open_
   injection e with _ e2
   exact e2.symm
  rw [Nat.sub_self]
  exact ⟨Al,nl,cl,(h1.cell _).trans e0,(h1.cell _).trans e1,(h1.cell _).trans e2,hlen,hG⟩
 obtain ⟨A,c,f0,f1,f2,f3⟩:=h3 j hl (by omega)
 exact ⟨A,_,c,(h1.cell _).trans f0,(h1.cell _).trans f1,(h1.cell _).trans f2,rfl,f3.at_⟩
theorem LowsAt.froz (h:LowsAt w bt n v gs Al nl cl lo) (i:Nat):w.frozen? ⟨bt,i,none⟩ = false:=by
 obtain ⟨xs,h1,_⟩:=h
 exact h1.frozen _
theorem LowsAt.has (h:LowsAt w bt n v gs Al nl cl lo) {i:Nat} (hi:i < (n + 1) * 3):∃ z,w.cell? ⟨bt,i,none⟩ = some z:=by
 obtain ⟨xs,h1,h2,_⟩:=h
 exact ⟨_,(h1.cell i).trans (eG (by omega))⟩
theorem LowsAt.put {j:Nat} (h:LowsAt w bt n v gs Al nl cl (j + 1))(hj:j < n) {A:Option Addr} {m c:Nat} (hm:(dE gs (n - j)).length = m)(ho:GOwn (bt + 1) w (.slice A m c) (dE gs (n - j))) :
  LowsAt (((w.setCell ⟨bt,j * 3,none⟩ (.int .i64 j)).setCell ⟨bt,j * 3 + 1,none⟩ (.int .i64 v)).setCell ⟨bt,j * 3 + 2,none⟩ (.slice A m c)) bt n v gs Al nl cl j:=by
 subst hm
 obtain ⟨xs,h1,h2,e0,e1,e2,h3⟩:=h
 have keep:∀ {lv l},GOwn (bt + 1) w lv l->GOwn (bt + 1) (((w.setCell ⟨bt,j * 3,none⟩ (.int .i64 j)).setCell ⟨bt,j * 3 + 1,none⟩ (.int .i64 v)).setCell ⟨bt,j * 3 + 2,none⟩ (.slice A (dE gs (n - j)).length c)) lv l:=fun h=>((h.setFar (p:=⟨bt,j * 3,none⟩) (Nat.lt_succ_self _) _).setFar (p:=⟨bt,j * 3 + 1,none⟩) (Nat.lt_succ_self _) _).setFar (p:=⟨bt,j * 3 + 2,none⟩) (Nat.lt_succ_self _) _
 refine ⟨_,((h1.set_ (j * 3) _).set_ (j * 3 + 1) _).set_ (j * 3 + 2) _,by simpa using h2,?_,?_,?_,fun i hi hin=>?_⟩
 ·rw [sN (by omega),sN (by omega),sN (by omega)]; exact e0
 ·rw [sN (by omega),sN (by omega),sN (by omega)]; exact e1
 ·rw [sN (by omega),sN (by omega),sN (by omega)]; exact e2
 by_cases hij:i = j
 ·subst hij
  refine ⟨A,c,?_,?_,?_,keep ho⟩
  ·rw [sN (by omega),sN (by omega),List.getElem?_set_self (by omega)]
  ·rw [sN (by omega),List.getElem?_set_self (by simp; omega)]
  rw [List.getElem?_set_self (by simp; omega)]
 obtain ⟨A1,c1,f0,f1,f2,f3⟩:=h3 i (by omega) hin
 refine ⟨A1,c1,?_,?_,?_,keep f3⟩
 ·rw [sN (by omega),sN (by omega),sN (by omega)]; exact f0
 ·rw [sN (by omega),sN (by omega),sN (by omega)]; exact f1
 rw [sN (by omega),sN (by omega),sN (by omega)]; exact f2
theorem LowsAt.start {xs:List Value} (h:Blk w bt 27 xs)(hl:xs.length = (n + 1) * 3) :
  LowsAt (((w.setCell ⟨bt,n * 3,none⟩ (.int .i64 n)).setCell ⟨bt,n * 3 + 1,none⟩ (.int .i64 v)).setCell ⟨bt,n * 3 + 2,none⟩ (.slice Al nl cl)) bt n v gs Al nl cl n:=by
 refine ⟨_,((h.set_ (n * 3) _).set_ (n * 3 + 1) _).set_ (n * 3 + 2) _,by simpa using hl,?_,?_,?_,fun i hi hin=>by omega⟩
 ·rw [sN (by omega),sN (by omega),List.getElem?_set_self (by omega)]
 ·rw [sN (by omega),List.getElem?_set_self (by simp; omega)]
 rw [List.getElem?_set_self (by simp; omega)]
end
end
end Go.Proofs.YtjebfdfkjlkifaaGreat
