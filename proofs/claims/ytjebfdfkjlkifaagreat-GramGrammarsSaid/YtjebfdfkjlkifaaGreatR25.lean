/- Lemmas. -/
import Derived.Test.YtjebfdfkjlkifaaGreatR24
set_option linter.all false
set_option maxRecDepth 1000000
set_option maxHeartbeats 32000000
namespace Go.Proofs.YtjebfdfkjlkifaaGreat
open Go.RowKit
theorem qz:(Tryz.prog.info? 41).map (fun i=>(i.zero,i.size,i.bytes)) = some (some (.slice none 0 0),1,24):=by kernel_rfl

theorem tn (w:World) (Ln:Nat) (V:Int) (v sv:Value) (rs:List bP) (sl:List Int) (k K:Nat) (F:Nat) (caps:Array Value) (join:Rat->Rat->Rat)(h:RulesAt k w v rs)(hs:IntsAt w sv sl)(hsl:sl.length <= 500)(hL:Ln <= 60)
  (hrs:∀ r ∈ rs,0 <= r.f/\r.f < Ln/\0 <= r.t/\r.t < Ln)(hF:∀ (W:World) (args:Array Value),(callFunc F args).run Tryz.prog W = .ok (.enter F args) W)
  (hj:∀ W a b qa qb,Below w.heap.size w W->FracAt K W a qa->FracAt K W b qb->QB K (join qa qb)->Calls Tryz.prog F (#[a,b] ++ caps) W fun e w'=>∃ u,e = .returned u/\FracAt K w' u (join qa qb)/\Below W.heap.size W w')
  (h0:0 < k)(hk:k <= K)(hK:K <= 500000000000)(hq:∀ g,g <= sl.length->∀ i,∀ x ∈ eP join Ln (rs.take i) sl (match g with | 0=>[] | g + 1=>eo join Ln rs sl g) (sl.length - g),QB K x)
  (hq2:∀ g,g <= sl.length->∀ r ∈ rs,∀ q,eM sl (match g with | 0=>[] | g + 1=>eo join Ln rs sl g) (sl.length - g) r = some q->QB K q) :
  Calls Tryz.prog 119 #[.agg #[.int .i64 Ln,.int .i64 V,v],sv,.func (.func F) #[] caps] w fun e w'=>∃ b m,e = .returned (.slice (some ⟨b,0,none⟩) m m)/\m = sl.length + 1/\RowsAt K w' b Ln sl.length 0 (fun j=>eo join Ln rs sl (sl.length - j))/\Below w.heap.size w w':=by
 obtain ⟨A,c,rfl,hlc,hcm,hat⟩:=h.open_
 have HR:=aH h
 have HI:=aH hs
 obtain ⟨SA,sc,rfl,hsc,hscm,_⟩:=hs.open_
 obtain ⟨n,hn⟩:=nm (rs.length)
 obtain ⟨p,hp⟩:=nm (sl.length)
 have HN:=aH hn
 have HP:=aH hp
 have HJ:=aH hj
 have HQ:=aH hq
 have HRS:=aH hrs
 have HQ2:=aH hq2
 have HAT:=aH hat
 have HFF:=aH hF
 rw [hn] at hlc HR ⊢
 rw [hp] at hsc hsl HI ⊢
 obtain ⟨R,hR⟩:=nm ((fun j=>eo join Ln rs sl (p - j)))
 have HRR:Hd (∀ j,R j = eo join Ln rs sl (p - j)):=aH (fun j=>by rw [<- hR])
 rw [hR]
 clear hR
 clear h hs hj hq hq2 hrs hat hn hp hF
 obtain ⟨i1,ki,kz0,kz1,kz2⟩:=info_parts qz
 have i8:IntKind.i64.wrap ((p:Int) + 1) = (p:Int) + 1:=iI _ (by omega)
 go_enter Tryz.func119,Tryz.ntmps119
 go_wp2_with (at_make; refine ay rfl _ _ 150 rfl 41 i1 (.slice none 0 0) 24 Tryz.underlying150 ki kz0 kz1 kz2 rfl .i64 .i64 _ _ (p + 1) rfl rfl (by omega) (by omega) (by omega) (by unfold maxLen; omega) ?_)
 obtain ⟨W,hW,P0,PB,Phs⟩:=aA w 73 [.int .i64 Ln,.int .i64 V,.slice A n c]
 rw [<- hW]
 clear hW
 intro w1 hblk hb1
 have R1:Hd (RowsAt K w1 (w.heap.size + 1) Ln p (p + 1) R):=aH ⟨_,hblk,by simp,fun x hx=>by rw [List.eq_of_mem_replicate hx]; trivial,fun j h h'=>by omega⟩
 have B1:=aH (PB.o.trans (hb1.mono (by omega)))
 have P1:=aH (P0.o.below hb1 (by omega))
 clear hblk hb1
 go_wp2_with fail
 go_loopg [8] (p + 1) (fun g i wr=>i = .int .i64 ((g:Int) - 1)/\g <= p + 1/\Hd (RowsAt K wr (w.heap.size + 1) Ln p g R)/\Hd (Blk wr w.heap.size 73 [.int .i64 Ln,.int .i64 V,.slice A n c])/\Hd (Below w.heap.size w wr))
 case atStart=>exact ⟨by simp,by omega,R1,P1,B1⟩
 clear R1 B1 P1 PB P0
 obtain ⟨rfl,hg,ROW,P1,BEL⟩:=hrel
 have hwz:w.heap.size <= wr.heap.size:=BEL.o.size
 rcases zP gk with h | h
 ·subst h
  have b0:decide (((0:Nat):Int) - 1 ≥ 0) = false:=dF (by omega)
  go_wp2_with fail
  go_ret
  exact ⟨w.heap.size + 1,p + 1,rfl,rfl,ROW.o,BEL.o⟩
 obtain ⟨t,rfl⟩:∃ t,gk = t + 1:=⟨gk - 1,by omega⟩
 have et:(((t + 1:Nat):Int) - 1) = (t:Int):=by omega
 rw [et]
 have b0:decide ((0:Int) <= (t:Int)) = true:=dT (by omega)
 obtain ⟨p0,p1,p2,_,_,_⟩:=P1.o.three
 go_wp2_with (at_make; refine aD rfl _ _ rfl Ln Ln rfl rfl rfl (by omega) ?_)
 intro w2 hfa hb2
 have hrow:=ROW.o
 obtain ⟨row,hrr⟩:=nm ((match p - t with | 0=>[] | d + 1=>eo join Ln rs sl d))
 have hbw:w.heap.size + 1 < wr.heap.size:=by obtain ⟨xs,g1,_⟩:=hrow; exact g1.lt
 have IN:=aH (InAt.start hrow hfa hb2 (show t <= p by omega) (by omega) (by omega))
 have HROW:Hd (row = (match p - t with | 0=>[] | d + 1=>eo join Ln rs sl d)):=aH hrr.symm
 have HTG:Hd (t = sl.length - (p - t)/\p - t <= sl.length):=aH (by rw [HP.o]; omega)
 have B2:=aH ((BEL.o.trans (hb2.mono hwz)).setCell (p:=⟨w.heap.size + 1,t,none⟩) (show w.heap.size <= w.heap.size + 1 by omega) (.slice (some ⟨wr.heap.size,0,none⟩) Ln Ln))
 have P2:=aH ((P1.o.below' hb2).far (p:=⟨w.heap.size + 1,t,none⟩) (show w.heap.size ≠ w.heap.size + 1 by omega) (.slice (some ⟨wr.heap.size,0,none⟩) Ln Ln))
 have z0:w2.frozen? ⟨w.heap.size + 1,t,none⟩ = false:=by obtain ⟨xs,g1,_⟩:=hrow; exact (g1.below' hb2).frozen t
 have P2':=aH (P1.o.below' hb2)
 obtain ⟨u0,c0⟩:∃ u,w2.cell? ⟨w.heap.size + 1,t,none⟩ = some u:=by obtain ⟨xs,g1,g2,_⟩:=hrow; exact ⟨xs[t]'(by omega),((g1.below' hb2).cell t).trans (eG _)⟩
 have j0:(0:Int) <= (t:Int):=by omega
 have j1:(t:Int) < ((p + 1:Nat):Int):=by omega
 have j1':(t:Int) < (p:Int) + 1:=by omega
 clear hfa hb2 hrow hrr ROW p0 p1 p2
 obtain ⟨p0,p1,p2,_,_,_⟩:=P2'.o.three
 go_wp2_with fail
 obtain ⟨wo,hwo⟩:∃ wo,wo = wr:=⟨_,rfl⟩
 subst hwo
 go_loopg [9,10,11,12,32] n (fun gh _ _ _ _ i wz=>∃ (j:Nat),i = .int .i64 j/\j + gh = n/\Hd (InAt K wz (w.heap.size + 1) wo.heap.size Ln p t R (eP join Ln (rs.take j) sl row t))/\Hd (Blk wz w.heap.size 73 [.int .i64 Ln,.int .i64 V,.slice A n c])/\Hd (Below w.heap.size w wz))
 case atStart=>exact ⟨0,rfl,by omega,aH (by simpa [eP] using IN.o),P2,B2⟩
 clear IN B2 P2 P2' z0 c0 p0 p1 p2 BEL P1
 obtain ⟨j,rfl,hj,IN,P1,BEL⟩:=hrel
 obtain ⟨p0,p1,p2,_,_,_⟩:=P1.o.three
 rcases zP gk with h' | h'
 ·obtain rfl:j = n:=by omega
  have HE:Hd (rs.take j = rs):=aH (tL (by rw [HN.o]; exact nR _))
  have HT:Hd (RowsAt K wr (w.heap.size + 1) Ln p t R):=aH (by
   refine IN.o.done ?_
   rw [HE.o,HRR.o]
   have h2:=HROW.o
   have h3:=HTG.o.1
   generalize p - t = d at h2 h3 ⊢
   rw [h3]
   clear h3
   cases d with
   | zero=>rw [h2]; rfl
   | succ d=>rw [h2]; rfl)
  clear IN
  go_wp2_with fail
  go_roundg t
  case measure=>omega
  case rel=>exact ⟨rfl,by omega,HT,P1,BEL⟩
 obtain ⟨r,hr⟩:∃ r,rs[j]? = some r:=⟨_,eG (by rw [HN.o]; omega)⟩
 have hlt:(j:Int) < (n:Int):=by omega
 have HMEM:=aH (mG hr)
 have HX:=aH hr
 have HSQ:Hd (∀ q,eM sl row t r = some q->QB K q):=aH (by
  intro q hq
  have h2:=HROW.o
  have h3:=HTG.o
  have h4:=HQ2.o (p - t) h3.2 r HMEM.o q
  rw [<- h3.1,<- h2] at h4
  exact h4 hq)
 have HRB:Hd (∃ rb,t + 1 <= p->(wr.cell? ⟨w.heap.size + 1,t + 1,none⟩ = some (.slice (some ⟨rb,0,none⟩) Ln Ln)/\FArk K wr rb row)):=aH (by
  obtain ⟨xs,h1,h2,h3,h4,h5,h6,h7⟩:=IN.o
  by_cases ht:t + 1 <= p
  ·obtain ⟨rb,e,_,_,hf⟩:=h7 (t + 1) (nR _) ht
   refine ⟨rb,fun _=>⟨(h1.cell _).trans e,?_⟩⟩
   rw [HRR.o] at hf
   rw [HROW.o,show p - t = (p - (t + 1)) + 1 by omega]
   exact hf
  exact ⟨0,fun h=>absurd h ht⟩)
 have HRL:Hd (t + 1 <= p->row.length = Ln):=aH (by
  intro ht
  rw [HROW.o,show p - t = (p - t - 1) + 1 by omega]
  exact iX _ _ _ _ _)
 have HBW:=aH (IN.o.cell)
 obtain ⟨ba,oa,s0,An,nn,cn,Ad,nd,cd,rfl,hba,d0,_⟩:=HAT.o j r HX.o
 have D0:=aH d0
 clear d0
 obtain ⟨FF,hFF⟩:∃ FF:Nat,r.f = FF:=⟨r.f.toNat,by have:=(HRS.o r HMEM.o).1; omega⟩
 have HFN:=aH hFF
 have HFL:Hd (FF < Ln):=aH (by have:=(HRS.o r HMEM.o).2.1; omega)
 obtain ⟨rb,hrb⟩:=HRB.o
 have hrb':=aH hrb
 clear hr hrb HRB hFF
 go_wp2_with fail
 refine (ww wr Ln V _ _ rs sl (w.heap.size + 1) rb (p + 1) Ln t j k K K row r (HR.o.below BEL.o) (HI.o.below BEL.o) HX.o (by rw [HP.o]; omega) (by rw [HP.o]; omega) (fun _ h=>by
  have ht:t + 1 <= p:=by have:=(sI.1 h).1; rw [HP.o] at this; omega
  obtain ⟨e1,e2⟩:=hrb'.o ht
  obtain ⟨f1,f2,f3,f4⟩:=HRS.o r HMEM.o
  exact ⟨e1,HBW.o.2.2,by omega,by omega,e2,HRL.o ht,hL,f3,f4⟩) h0 hk hK hk (by omega) HSQ.o).mono ?_
 rintro e w3 ⟨sg,A3,m3,c3,A3',m3',c3',hb3,⟨q,ho,rfl,hf3⟩ | ⟨ho,rfl⟩⟩
 ·have B3:=aH hb3
  have HO:=aH ho
  have F3:=aH hf3
  have IN3:=aH (IN.o.below hb3)
  have P3:=aH (P1.o.below' hb3)
  have hs3:wr.heap.size <= w3.heap.size:=hb3.size
  clear hb3 ho hf3 p0 p1 p2
  obtain ⟨p0,p1,p2,_,_,_⟩:=P3.o.three
  have d0:w3.cell? ⟨ba,oa + j * 6,none⟩ = some (.int .i64 (FF:Int)):=by
   have:=(BEL.o.trans (B3.o.mono BEL.o.size)).cell (p:=⟨ba,oa + j * 6,none⟩) hba
   rw [this,D0.o,HFN.o]
  have k0:(0:Int) <= (j:Int):=by omega
  have q0:w.heap.size < w3.heap.size:=P3.o.lt
  have q1:ba < w3.heap.size:=by omega
  go_wp2_with fail
  obtain ⟨W3,hW3,G0,GB,Ghs⟩:=aA w3 40 [.bool sg,.slice A3 m3 c3,.slice A3' m3' c3']
  rw [<- hW3]
  clear hW3
  obtain ⟨r0,r1,r2,_,_,_⟩:=G0.o.three
  have IN4:=aH (IN3.o.below GB.o)
  have c1:=IN4.o.cell.1
  have HOLD:Hd (∃ old,(eP join Ln (rs.take j) sl row t)[FF]? = some old):=aH ⟨_,eG (by rw [eY]; exact HFL.o)⟩
  obtain ⟨old,hold⟩:=HOLD.o
  obtain ⟨xs,_,_,_,_,_,hfk,_⟩:=IN4.o
  obtain ⟨sO,AO,mO,cO,AO',mO',cO',y0,y1,y2,z0,z1,z2,hfo⟩:=hfk.get hold
  have FO:=aH hfo
  have HOL:=aH hold
  have j2:(0:Int) <= (FF:Int):=by omega
  have j3:(FF:Int) < (Ln:Int):=by have:=HFL.o; omega
  clear hfk hfo hold
  have hF:=HFF.o
  have HQJ:Hd (QB K (join old q)):=aH (by
   have h3:=HTG.o
   have h2:=HROW.o
   refine HQ.o (p - t) h3.2 (j + 1) _ ?_
   rw [<- h3.1,<- h2,ah _ HX.o,f9]
   unfold dZ
   rw [HO.o]
   simp only
   rw [HFN.o,Int.toNat_natCast,gD,HOL.o]
   exact mG (List.getElem?_set_self (by rw [eY]; exact HFL.o)))
  have HS:Hd (eP join Ln (rs.take (j + 1)) sl row t = (eP join Ln (rs.take j) sl row t).set FF (join old q)):=aH (by
   rw [ah _ HX.o,f9]
   unfold dZ
   rw [HO.o]
   simp only
   rw [HFN.o,Int.toNat_natCast,gD,HOL.o]
   rfl)
  have B4:=aH (BEL.o.trans ((aa B3.o GB.o).mono BEL.o.size))
  go_region_with (first
   | (refine (HJ.o _ _ _ old q B4.o.drew (FO.o.below (bS _)) ((F3.o.below GB.o).below (bS _)) HQJ.o).mono ?_; rintro e w5 ⟨u,rfl,t5,hb5'⟩; have B5:=aH (bO hb5'); obtain ⟨s5,vn5,vd5,rfl⟩:=t5.shape; obtain ⟨sJ,AJ,mJ,cJ,AJ',mJ',cJ',hq1,rfl,rfl⟩:=t5.cells3; clear hq1; have T5:=aH t5; have IN5:=aH (IN4.o.below B5.o); have c1':=IN5.o.cell.1; obtain ⟨xs5,_,_,_,_,_,hfk5,_⟩:=IN5.o; obtain ⟨_,_,_,_,_,_,_,v0,v1,v2,n0,n1,n2,_⟩:=hfk5.get HOL.o; clear hfk5 t5 hb5'))
  all_goals
   go_wp2_with fail
   go_roundg (gk - 1)
   case measure=>omega
   case rel =>
    exact ⟨j + 1,rfl,by omega,aH (by rw [HS.o]; exact IN5.o.put (by rw [eY]; exact HFL.o) T5.o),aH ((((P3.o.below' GB.o).below' B5.o).far (show w.heap.size ≠ wo.heap.size by omega) _ |>.far (show w.heap.size ≠ wo.heap.size by omega) _).far (show w.heap.size ≠ wo.heap.size by omega) _),aH (((((B4.o.trans (B5.o.mono (by omega))).setCell (show w.heap.size <= wo.heap.size by omega) _).setCell (show w.heap.size <= wo.heap.size by omega) _)).setCell (show w.heap.size <= wo.heap.size by omega) _)⟩
 have HS:Hd (eP join Ln (rs.take (j + 1)) sl row t = eP join Ln (rs.take j) sl row t):=aH (by
  rw [ah _ HX.o,f9]
  unfold dZ
  rw [ho])
 have B3:=aH hb3
 have IN3:=aH (IN.o.below hb3)
 have P3:=aH (P1.o.below' hb3)
 have hs3:wr.heap.size <= w3.heap.size:=hb3.size
 clear hb3 ho p0 p1 p2
 obtain ⟨p0,p1,p2,_,_,_⟩:=P3.o.three
 go_wp2_with fail
 obtain ⟨W3,hW3,G0,GB,Ghs⟩:=aA w3 40 [.bool sg,.slice A3 m3 c3,.slice A3' m3' c3']
 rw [<- hW3]
 clear hW3
 go_roundg (gk - 1)
 case measure=>omega
 case rel=>exact ⟨j + 1,rfl,by omega,aH (by rw [HS.o]; exact IN3.o.below GB.o),aH (P3.o.below' GB.o),aH (BEL.o.trans ((aa B3.o GB.o).mono BEL.o.size))⟩
end Go.Proofs.YtjebfdfkjlkifaaGreat
