/- Lemmas. -/
import Derived.Test.YtjebfdfkjlkifaaGreatR23
set_option linter.all false
set_option maxRecDepth 1000000
set_option maxHeartbeats 32000000
namespace Go.Proofs.YtjebfdfkjlkifaaGreat
open Go.RowKit
theorem cD {L V:Int} {rs:List bP} {x:bP} (hl:¬ 500 < rs.length)(hx:x ∈ rs)(h:¬ (0 <= x.f/\x.f < L/\0 <= x.t/\x.t < L/\0 <= x.w/\x.w <= V/\(x.w = 0->x.t = 0)/\0 <= x.q)):aR L V rs = 2:=by
 unfold aR
 rw [if_neg hl,if_neg]
 rintro ⟨_,_,_,_,h5,_⟩
 have:=List.all_eq_true.1 h5 x hx
 unfold jo at this
 exact h (of_decide_eq_true this)
theorem fd {L V:Int} {rs:List bP} (hl:¬ 500 < rs.length)(h:¬ (1 <= L/\L <= 60/\1 <= V/\V <= 2000)):aR L V rs = 2:=by
 unfold aR
 rw [if_neg hl,if_neg]
 rintro ⟨h1,h2,h3,h4,_⟩
 exact h ⟨h1,h2,h3,h4⟩
theorem oQ {L:Nat} {V:Int} {rs:List bP} (hl:¬ 500 < rs.length)(h1:1 <= (L:Int))(h2:(L:Int) <= 60)(h3:1 <= V)(h4:V <= 2000)(h5:rs.all (jo L V) = true) :
  aR L V rs = if (bZ L rs).any (fun q=>!decide (q = 1)) = true then 2 else 0:=by
 unfold aR
 rw [if_neg hl,Int.toNat_natCast]
 have e:(bZ L rs).all (fun q=>decide (q = 1)) = !(bZ L rs).any (fun q=>!decide (q = 1)):=by
  rw [List.not_any_eq_all_not]
  simp
 rw [e]
 cases (bZ L rs).any (fun q=>!decide (q = 1)) <;> simp [h1,h2,h3,h4,h5]
theorem kD {k K:Nat} {s:List Rat} {i:Nat} {q:Rat} (h:∀ x ∈ s,QB K x)(hq:QB k q)(hk:0 < K)(hi:i < s.length):∀ x ∈ iY s i q,QB (K + k + 1) x:=by
 intro x hx
 unfold iY at hx
 rcases List.mem_or_eq_of_mem_set hx with hx | rfl
 ·exact (h x hx).mono (by omega)
 have:s.getD i 0 ∈ s:=by
  rw [gD,eG hi]
  exact List.getElem_mem hi
 exact (h _ this).add hq

theorem kw (w:World) (L V:Int) (v:Value) (rs:List bP) (k:Nat)(h:RulesAt k w v rs)(h0:0 < k)(hk:k <= 1000000) :
  Calls Tryz.prog 51 #[.agg #[.int .i64 L,.int .i64 V,v]] w fun e w'=>e = .returned (.int .i64 (aR L V rs))/\Below w.heap.size w w':=by
 obtain ⟨A,c,rfl,hlc,hcm,hat⟩:=h.open_
 have HAT:=aH hat
 clear h hat
 obtain ⟨n,hn⟩:=nm (rs.length)
 rw [hn] at hlc ⊢
 have HN:=aH hn
 by_cases h5:500 < n
 ·have HB:Hd (aR L V rs = 5):=aH (by unfold aR; rw [if_pos (by omega)])
  have b5:decide ((500:Int) < (n:Int)) = true:=dT (by omega)
  clear hn
  go_enter Tryz.func51,Tryz.ntmps51
  go_wp2_with fail
  obtain ⟨W,hW,P0,PB,Phs⟩:=aA w 73 [.int .i64 L,.int .i64 V,.slice A n c]
  rw [<- hW]
  clear hW
  obtain ⟨p0,p1,p2,_,_,_⟩:=P0.o.three
  go_wp2_with fail
  go_ret
  exact ⟨ag HB.o.symm,PB.o⟩
 have HL5:Hd (¬ 500 < rs.length):=aH (by omega)
 have b5:decide ((500:Int) < (n:Int)) = false:=dF (by omega)
 clear hn
 by_cases d0:L < 1
 ·have y0:decide (L < 1) = true:=dT d0
  have HB:Hd (aR L V rs = 2):=aH (fd HL5.o (by rintro ⟨g1,g2,g3,g4⟩; omega))
  clear d0
  go_enter Tryz.func51,Tryz.ntmps51
  go_wp2_with fail
  obtain ⟨W,hW,P0,PB,Phs⟩:=aA w 73 [.int .i64 L,.int .i64 V,.slice A n c]
  rw [<- hW]
  clear hW
  obtain ⟨p0,p1,p2,_,_,_⟩:=P0.o.three
  go_wp2_with fail
  go_ret
  exact ⟨ag HB.o.symm,PB.o⟩
 have y0:decide (L < 1) = false:=dF d0
 by_cases d1:60 < L
 ·have y1:decide (60 < L) = true:=dT d1
  have HB:Hd (aR L V rs = 2):=aH (fd HL5.o (by rintro ⟨g1,g2,g3,g4⟩; omega))
  clear d1
  go_enter Tryz.func51,Tryz.ntmps51
  go_wp2_with fail
  obtain ⟨W,hW,P0,PB,Phs⟩:=aA w 73 [.int .i64 L,.int .i64 V,.slice A n c]
  rw [<- hW]
  clear hW
  obtain ⟨p0,p1,p2,_,_,_⟩:=P0.o.three
  go_wp2_with fail
  go_ret
  exact ⟨ag HB.o.symm,PB.o⟩
 have y1:decide (60 < L) = false:=dF d1
 by_cases d2:V < 1
 ·have y2:decide (V < 1) = true:=dT d2
  have HB:Hd (aR L V rs = 2):=aH (fd HL5.o (by rintro ⟨g1,g2,g3,g4⟩; omega))
  clear d2
  go_enter Tryz.func51,Tryz.ntmps51
  go_wp2_with fail
  obtain ⟨W,hW,P0,PB,Phs⟩:=aA w 73 [.int .i64 L,.int .i64 V,.slice A n c]
  rw [<- hW]
  clear hW
  obtain ⟨p0,p1,p2,_,_,_⟩:=P0.o.three
  go_wp2_with fail
  go_ret
  exact ⟨ag HB.o.symm,PB.o⟩
 have y2:decide (V < 1) = false:=dF d2
 by_cases d3:2000 < V
 ·have y3:decide (2000 < V) = true:=dT d3
  have HB:Hd (aR L V rs = 2):=aH (fd HL5.o (by rintro ⟨g1,g2,g3,g4⟩; omega))
  clear d3
  go_enter Tryz.func51,Tryz.ntmps51
  go_wp2_with fail
  obtain ⟨W,hW,P0,PB,Phs⟩:=aA w 73 [.int .i64 L,.int .i64 V,.slice A n c]
  rw [<- hW]
  clear hW
  obtain ⟨p0,p1,p2,_,_,_⟩:=P0.o.three
  go_wp2_with fail
  go_ret
  exact ⟨ag HB.o.symm,PB.o⟩
 have y3:decide (2000 < V) = false:=dF d3
 obtain ⟨Ln,rfl⟩:∃ Ln:Nat,L = Ln:=⟨L.toNat,by omega⟩
 have d0':1 <= (Ln:Int):=by omega
 have d1':(Ln:Int) <= 60:=by omega
 have d2':1 <= V:=by omega
 have d3':V <= 2000:=by omega
 go_enter Tryz.func51,Tryz.ntmps51
 go_wp2_with (at_make; refine aD rfl _ _ rfl Ln Ln rfl rfl rfl (by omega) ?_)
 obtain ⟨W,hW,P0,PB,Phs⟩:=aA w 73 [.int .i64 Ln,.int .i64 V,.slice A n c]
 rw [<- hW]
 clear hW
 obtain ⟨p0,p1,p2,_,_,_⟩:=P0.o.three
 intro w1 hfa hb1
 have FA:=aH hfa
 have B1:=aH (PB.o.trans (hb1.mono (by omega)))
 have P1:=aH (P0.o.below hb1 (by omega))
 have hW1:w.heap.size + 1 < w1.heap.size:=hfa.lt
 clear hfa hb1 p0 p1 p2
 obtain ⟨p0,p1,p2,_,_,_⟩:=P1.o.three
 go_wp2_with fail
 go_loopg [34] n (fun gh i wr=>∃ (j:Nat),i = .int .i64 j/\j + gh = n/\Hd ((rs.take j).all (jo Ln V) = true)/\Hd (FArr (w.heap.size + 1 + 1) wr (w.heap.size + 1) (bZ Ln (rs.take j)))/\Hd (∀ x ∈ bZ Ln (rs.take j),QB ((j + 1) * (2 * k)) x)/\Hd (Blk wr w.heap.size 73 [.int .i64 Ln,.int .i64 V,.slice A n c])/\Hd (Below w.heap.size w wr))
 case atStart=>exact ⟨0,rfl,by omega,aH rfl,aH (by simpa [bZ] using FA.o),aH (fun x hx=>by
  have:x = 0:=by
   have hx':x ∈ List.replicate Ln (0:Rat):=by simpa [bZ] using hx
   exact List.eq_of_mem_replicate hx'
  rw [this]
  exact bv (n:=0) (Nat.pow_pos (by omega)) (by omega)),P1,B1⟩
 clear p0 p1 p2 FA B1 P1
 obtain ⟨j,rfl,hj,HOK,FA,HQB,P1,BEL⟩:=hrel
 have hwz:w.heap.size <= wr.heap.size:=BEL.o.size
 have hWr:w.heap.size + 1 < wr.heap.size:=FA.o.lt
 obtain ⟨p0,p1,p2,_,_,_⟩:=P1.o.three
 rcases zP gk with h | h
 ·obtain rfl:j = n:=by omega
  have HE:Hd (rs.take j = rs):=aH (tL (by rw [HN.o]; exact nR _))
  have hjk:(j + 1) * (2 * k) <= 501 * 2000000:=Nat.mul_le_mul (by omega) (by omega)
  have hjk2:1 * (2 * k) <= (j + 1) * (2 * k):=Nat.mul_le_mul_right _ (by omega)
  have CAN:Hd (CansAt wr (.slice (some ⟨w.heap.size + 1,0,none⟩) Ln Ln) (bZ Ln rs)):=aH (by
   have:=FA.o.cans (c:=Ln) (by rw [dH]; exact nR _) (by omega)
   rwa [dH,HE.o] at this)
  have CF:=oN ((j + 1) * (2 * k)) wr (.slice (some ⟨w.heap.size + 1,0,none⟩) Ln Ln) (bZ Ln rs) 122 #[] (fun q=>!decide (q = 1)) (CAN.o.fracs (by have:=HQB.o; rwa [HE.o] at this) (by omega)) (by rw [dH]; omega) (fun _ _=>by kernel_rfl)
   (fun W x a _ _ hf=>vM W a x _ hf (by omega) (by omega))
  have HB:=aH (oQ (L:=Ln) (V:=V) (rs:=rs) HL5.o d0' d1' d2' d3' (by have:=HOK.o; rwa [HE.o] at this))
  obtain ⟨r,hr⟩:=nm ((bZ Ln rs).any (fun q=>!decide (q = 1)))
  rw [hr] at CF HB
  clear hjk hjk2 hr
  cases r
  ·go_wp2_with fail
   refine CF.mono ?_
   rintro e w5 ⟨rfl,hb5⟩
   have B5:=aH (BEL.o.trans (hb5.mono hwz))
   clear hb5
   go_wp2_with fail
   go_ret
   exact ⟨ag (by have:=HB.o; simpa using this.symm),B5.o⟩
  go_wp2_with fail
  refine CF.mono ?_
  rintro e w5 ⟨rfl,hb5⟩
  have B5:=aH (BEL.o.trans (hb5.mono hwz))
  clear hb5
  go_wp2_with fail
  go_ret
  exact ⟨ag (by have:=HB.o; simpa using this.symm),B5.o⟩
 obtain ⟨gh,rfl⟩:∃ g,gk = g + 1:=⟨gk - 1,by omega⟩
 obtain ⟨x,hx⟩:∃ x,rs[j]? = some x:=⟨_,eG (by rw [HN.o]; omega)⟩
 obtain ⟨f,wd,t,q⟩:=x
 obtain ⟨ba,oa,s,An,nn,cn,Ad,nd,cd,rfl,hba,e0,e1,e2,e3,e4,e5,hfr⟩:=HAT.o j _ hx
 simp only at e0 e1 e2 hfr
 have e0':=(BEL.o.cell (p:=⟨ba,oa + j * 6,none⟩) hba).trans e0
 have e1':=(BEL.o.cell (p:=⟨ba,oa + j * 6 + 1,none⟩) hba).trans e1
 have e2':=(BEL.o.cell (p:=⟨ba,oa + j * 6 + 2,none⟩) hba).trans e2
 have e3':=(BEL.o.cell (p:=⟨ba,oa + j * 6 + 3,none⟩) hba).trans e3
 have e4':=(BEL.o.cell (p:=⟨ba,oa + j * 6 + 4,none⟩) hba).trans e4
 have e5':=(BEL.o.cell (p:=⟨ba,oa + j * 6 + 5,none⟩) hba).trans e5
 have FR:=aH (hfr.below BEL.o)
 have HX:=aH hx
 clear hx e0 e1 e2 e3 e4 e5 hfr
 have e0:=e0'
 have e1:=e1'
 have e2:=e2'
 have e3:=e3'
 have e4:=e4'
 have e5:=e5'
 clear e0' e1' e2' e3' e4' e5'
 have hpw:w.heap.size < wr.heap.size:=by omega
 by_cases c6:f < 0
 ·have b6:decide (f < 0) = true:=dT c6
  have HB:Hd (aR Ln V rs = 2):=aH (cD HL5.o (mG HX.o) (by simp only; rintro ⟨g1,g2,g3,g4,g5,g6,g7,g8⟩; omega))
  clear c6
  go_wp2_with fail
  go_ret
  exact ⟨ag HB.o.symm,(BEL.o.alloc hwz _)⟩
 have b6:decide (f < 0) = false:=dF c6
 by_cases c5:(Ln:Int) <= f
 ·have b5:decide ((Ln:Int) <= f) = true:=dT c5
  have HB:Hd (aR Ln V rs = 2):=aH (cD HL5.o (mG HX.o) (by simp only; rintro ⟨g1,g2,g3,g4,g5,g6,g7,g8⟩; omega))
  clear c5
  go_wp2_with fail
  go_ret
  exact ⟨ag HB.o.symm,(BEL.o.alloc hwz _)⟩
 have b5:decide ((Ln:Int) <= f) = false:=dF c5
 by_cases c4:t < 0
 ·have b4:decide (t < 0) = true:=dT c4
  have HB:Hd (aR Ln V rs = 2):=aH (cD HL5.o (mG HX.o) (by simp only; rintro ⟨g1,g2,g3,g4,g5,g6,g7,g8⟩; omega))
  clear c4
  go_wp2_with fail
  go_ret
  exact ⟨ag HB.o.symm,(BEL.o.alloc hwz _)⟩
 have b4:decide (t < 0) = false:=dF c4
 by_cases c3:(Ln:Int) <= t
 ·have b3:decide ((Ln:Int) <= t) = true:=dT c3
  have HB:Hd (aR Ln V rs = 2):=aH (cD HL5.o (mG HX.o) (by simp only; rintro ⟨g1,g2,g3,g4,g5,g6,g7,g8⟩; omega))
  clear c3
  go_wp2_with fail
  go_ret
  exact ⟨ag HB.o.symm,(BEL.o.alloc hwz _)⟩
 have b3:decide ((Ln:Int) <= t) = false:=dF c3
 by_cases c2:wd < 0
 ·have b2:decide (wd < 0) = true:=dT c2
  have HB:Hd (aR Ln V rs = 2):=aH (cD HL5.o (mG HX.o) (by simp only; rintro ⟨g1,g2,g3,g4,g5,g6,g7,g8⟩; omega))
  clear c2
  go_wp2_with fail
  go_ret
  exact ⟨ag HB.o.symm,(BEL.o.alloc hwz _)⟩
 have b2:decide (wd < 0) = false:=dF c2
 by_cases c1:V < wd
 ·have b1:decide (V < wd) = true:=dT c1
  have HB:Hd (aR Ln V rs = 2):=aH (cD HL5.o (mG HX.o) (by simp only; rintro ⟨g1,g2,g3,g4,g5,g6,g7,g8⟩; omega))
  clear c1
  go_wp2_with fail
  go_ret
  exact ⟨ag HB.o.symm,(BEL.o.alloc hwz _)⟩
 have b1:decide (V < wd) = false:=dF c1
 by_cases c8:wd = 0
 ·have b8:(wd == 0) = true:=by simpa using c8
  by_cases c9:t = 0
  ·have b9:(t != 0) = false:=by simpa using c9
   have HR8:Hd (wd = 0->t = 0):=aH (by first | exact fun _=>c9 | exact fun e=>absurd e c8)
   try clear c9
   clear c8
   by_cases c0:0 <= q
   ·have HR:Hd (jo Ln V ⟨f,wd,t,q⟩ = true):=aH (dT ⟨by simp only; omega,by simp only; omega,by simp only; omega,by simp only; omega,by simp only; omega,by simp only; omega,HR8.o,c0⟩)
    obtain ⟨z,hz,hz0⟩:∃ z,aU q = z/\decide (z < 0) = false:=⟨_,rfl,dF (fun e=>(fO q).1 e c0)⟩
    have HZ:=aH hz
    clear hz
    go_wp2_with fail
    obtain ⟨W1,hW1,G0,GB,Ghs⟩:=aA wr 111 [.int .i64 f,.int .i64 wd,.int .i64 t,.bool s,.slice An nn cn,.slice Ad nd cd]
    rw [<- hW1]
    clear hW1
    have g0:=G0.o.cell 0
    have g1:=G0.o.cell 1
    have g2:=G0.o.cell 2
    have g3:=G0.o.cell 3
    have g4:=G0.o.cell 4
    have g5:=G0.o.cell 5
    simp only [List.getElem?_cons_zero,List.getElem?_cons_succ] at g0 g1 g2 g3 g4 g5
    clear e0 e1 e2 e3 e4 e5 p0 p1 p2
    obtain ⟨p0,p1,p2,_,_,_⟩:=(P1.o.below' GB.o).three
    have SC:=jk W1 _ q k (FR.o.below GB.o) h0 (by omega)
    rw [HZ.o] at SC
    refine SC.mono ?_
    rintro e w2 ⟨rfl,hb2⟩
    have B2:=aH (aa GB.o hb2)
    have G2:=aH (G0.o.below' hb2)
    have s2:wr.heap.size + 1 <= w2.heap.size:=Nat.le_trans Ghs hb2.size
    clear hb2
    obtain ⟨F,rfl⟩:∃ F:Nat,f = F:=⟨f.toNat,by omega⟩
    have hFL:F < (bZ Ln (rs.take j)).length:=by rw [dH]; omega
    obtain ⟨old,hold⟩:∃ old,(bZ Ln (rs.take j))[F]? = some old:=⟨_,eG hFL⟩
    have HOLD:=aH hold
    have HFL:=aH hFL
    have QO:=aH (HQB.o _ (mG hold))
    have FA2:=aH (FA.o.below B2.o)
    obtain ⟨oA,om,oc,oA',om',oc',a0,a1,a2,z0,z1,z2,hcan⟩:=FA2.o.get hold
    have CA:=aH hcan
    have hjk:(j + 1) * (2 * k) <= 501 * 2000000:=Nat.mul_le_mul (by omega) (by omega)
    have hjk2:1 * (2 * k) <= (j + 1) * (2 * k):=Nat.mul_le_mul_right _ (by omega)
    have HJK:=aH (aI hjk hjk2)
    have FR2:=aH (FR.o.below B2.o)
    have P2:=aH (P1.o.below' B2.o)
    have QQ:=aH (FR.o.qb h0)
    clear g0 g1 g2 g3 g4 g5 p0 p1 p2 hold hFL hcan hjk hjk2
    have g0:=G2.o.cell 0
    have g3:=G2.o.cell 3
    have g4:=G2.o.cell 4
    have g5:=G2.o.cell 5
    simp only [List.getElem?_cons_zero,List.getElem?_cons_succ] at g0 g3 g4 g5
    have i1:(0:Int) <= (F:Int):=by omega
    have i2:(F:Int) < (Ln:Int):=by omega
    go_wp2_with fail
    go_region_with (first
     | (go_at_call 120; refine (l8 _ _ _ old q ((j + 1) * (2 * k)) ((CA.o.at_.frac QO.o (by have:=HJK.o; omega)).below (bS _)) ((FR2.o.mono (by have:=HJK.o; omega)).below (bS _)) (by have:=HJK.o; omega) (by have:=HJK.o; omega)).mono ?_; rintro e w3 ⟨v3,rfl,t3,hb3'⟩; have hb3:=bO hb3'; obtain ⟨A3,m3,c3,A3',m3',c3',rfl,_⟩:=t3.open_; have T3:=aH (t3.mono (show w.heap.size + 1 + 1 <= w2.drew.heap.size by show w.heap.size + 1 + 1 <= w2.heap.size; omega)); have B3:=aH (aa B2.o hb3); have FA3:=aH (FA2.o.below hb3); have P3:=aH (P2.o.below' hb3); have gg0:w3.cell? ⟨wr.heap.size,0,none⟩ = some (.int .i64 (F:Int)):=(G2.o.below' hb3).cell 0; obtain ⟨_,_,_,_,_,_,r0,r1,r2,y0,y1,y2,_⟩:=FA3.o.get HOLD.o; clear t3 hb3 hb3'))
    all_goals
     go_wp2_with fail
     go_roundg gh
     case measure=>omega
     case rel =>
      have HS:bZ Ln (rs.take (j + 1)) = (bZ Ln (rs.take j)).set F (old + q):=by
       rw [ah _ HX.o,ft]
       unfold iY
       simp only [Int.toNat_natCast]
       rw [gD,HOLD.o]
       rfl
      refine ⟨j + 1,rfl,by omega,aH (by rw [ah _ HX.o,List.all_append,HOK.o]; simpa using HR.o),aH (by rw [HS]; exact FA3.o.put HFL.o rfl T3.o),aH (fun x hx=>?_),aH (((P3.o.far (p:=⟨w.heap.size + 1,F * 3,none⟩) (by show w.heap.size ≠ w.heap.size + 1; omega) _).far (p:=⟨w.heap.size + 1,F * 3 + 1,none⟩) (by show w.heap.size ≠ w.heap.size + 1; omega) _).far (p:=⟨w.heap.size + 1,F * 3 + 2,none⟩) (by show w.heap.size ≠ w.heap.size + 1; omega) _),
       aH ((((BEL.o.trans (B3.o.mono hwz)).setCell (p:=⟨w.heap.size + 1,F * 3,none⟩) (by show w.heap.size <= w.heap.size + 1; omega) _).setCell (p:=⟨w.heap.size + 1,F * 3 + 1,none⟩) (by show w.heap.size <= w.heap.size + 1; omega) _).setCell (p:=⟨w.heap.size + 1,F * 3 + 2,none⟩) (by show w.heap.size <= w.heap.size + 1; omega) _)⟩
      rw [ah _ HX.o,ft] at hx
      have:=kD HQB.o QQ.o (by have:=HJK.o; omega) (by simpa using HFL.o) x hx
      exact this.mono (by rw [show j + 1 + 1 = (j + 1) + 1 from rfl,Nat.add_mul (j + 1) 1,Nat.one_mul]; omega)
   obtain ⟨z,hz,hz0⟩:∃ z,aU q = z/\decide (z < 0) = true:=⟨_,rfl,dT ((fO q).2 c0)⟩
   have HZ:=aH hz
   have HB:Hd (aR Ln V rs = 2):=aH (cD HL5.o (mG HX.o) (by simp only; rintro ⟨g1,g2,g3,g4,g5,g6,g7,g8⟩; exact c0 g8))
   clear hz c0
   go_wp2_with fail
   obtain ⟨W1,hW1,G0,GB,Ghs⟩:=aA wr 111 [.int .i64 f,.int .i64 wd,.int .i64 t,.bool s,.slice An nn cn,.slice Ad nd cd]
   rw [<- hW1]
   clear hW1
   have g0:=G0.o.cell 0
   have g1:=G0.o.cell 1
   have g2:=G0.o.cell 2
   have g3:=G0.o.cell 3
   have g4:=G0.o.cell 4
   have g5:=G0.o.cell 5
   simp only [List.getElem?_cons_zero,List.getElem?_cons_succ] at g0 g1 g2 g3 g4 g5
   clear e0 e1 e2 e3 e4 e5 p0 p1 p2
   obtain ⟨p0,p1,p2,_,_,_⟩:=(P1.o.below' GB.o).three
   have SC:=jk W1 _ q k (FR.o.below GB.o) h0 (by omega)
   rw [HZ.o] at SC
   refine SC.mono ?_
   rintro e w2 ⟨rfl,hb2⟩
   have B2:=aH (aa GB.o hb2)
   clear hb2
   go_wp2_with fail
   go_ret
   exact ⟨ag HB.o.symm,BEL.o.trans (B2.o.mono hwz)⟩
  have b9:(t != 0) = true:=by simpa using c9
  have HB:Hd (aR Ln V rs = 2):=aH (cD HL5.o (mG HX.o) (by simp only; rintro ⟨g1,g2,g3,g4,g5,g6,g7,g8⟩; exact c9 (g7 c8)))
  clear c9
  go_wp2_with fail
  go_ret
  exact ⟨ag HB.o.symm,(BEL.o.alloc hwz _)⟩
 have b8:(wd == 0) = false:=by simpa using c8
 have HR8:Hd (wd = 0->t = 0):=aH (by first | exact fun _=>c9 | exact fun e=>absurd e c8)
 try clear c9
 clear c8
 by_cases c0:0 <= q
 ·have HR:Hd (jo Ln V ⟨f,wd,t,q⟩ = true):=aH (dT ⟨by simp only; omega,by simp only; omega,by simp only; omega,by simp only; omega,by simp only; omega,by simp only; omega,HR8.o,c0⟩)
  obtain ⟨z,hz,hz0⟩:∃ z,aU q = z/\decide (z < 0) = false:=⟨_,rfl,dF (fun e=>(fO q).1 e c0)⟩
  have HZ:=aH hz
  clear hz
  go_wp2_with fail
  obtain ⟨W1,hW1,G0,GB,Ghs⟩:=aA wr 111 [.int .i64 f,.int .i64 wd,.int .i64 t,.bool s,.slice An nn cn,.slice Ad nd cd]
  rw [<- hW1]
  clear hW1
  have g0:=G0.o.cell 0
  have g1:=G0.o.cell 1
  have g2:=G0.o.cell 2
  have g3:=G0.o.cell 3
  have g4:=G0.o.cell 4
  have g5:=G0.o.cell 5
  simp only [List.getElem?_cons_zero,List.getElem?_cons_succ] at g0 g1 g2 g3 g4 g5
  clear e0 e1 e2 e3 e4 e5 p0 p1 p2
  obtain ⟨p0,p1,p2,_,_,_⟩:=(P1.o.below' GB.o).three
  have SC:=jk W1 _ q k (FR.o.below GB.o) h0 (by omega)
  rw [HZ.o] at SC
  refine SC.mono ?_
  rintro e w2 ⟨rfl,hb2⟩
  have B2:=aH (aa GB.o hb2)
  have G2:=aH (G0.o.below' hb2)
  have s2:wr.heap.size + 1 <= w2.heap.size:=Nat.le_trans Ghs hb2.size
  clear hb2
  obtain ⟨F,rfl⟩:∃ F:Nat,f = F:=⟨f.toNat,by omega⟩
  have hFL:F < (bZ Ln (rs.take j)).length:=by rw [dH]; omega
  obtain ⟨old,hold⟩:∃ old,(bZ Ln (rs.take j))[F]? = some old:=⟨_,eG hFL⟩
  have HOLD:=aH hold
  have HFL:=aH hFL
  have QO:=aH (HQB.o _ (mG hold))
  have FA2:=aH (FA.o.below B2.o)
  obtain ⟨oA,om,oc,oA',om',oc',a0,a1,a2,z0,z1,z2,hcan⟩:=FA2.o.get hold
  have CA:=aH hcan
  have hjk:(j + 1) * (2 * k) <= 501 * 2000000:=Nat.mul_le_mul (by omega) (by omega)
  have hjk2:1 * (2 * k) <= (j + 1) * (2 * k):=Nat.mul_le_mul_right _ (by omega)
  have HJK:=aH (aI hjk hjk2)
  have FR2:=aH (FR.o.below B2.o)
  have P2:=aH (P1.o.below' B2.o)
  have QQ:=aH (FR.o.qb h0)
  clear g0 g1 g2 g3 g4 g5 p0 p1 p2 hold hFL hcan hjk hjk2
  have g0:=G2.o.cell 0
  have g3:=G2.o.cell 3
  have g4:=G2.o.cell 4
  have g5:=G2.o.cell 5
  simp only [List.getElem?_cons_zero,List.getElem?_cons_succ] at g0 g3 g4 g5
  have i1:(0:Int) <= (F:Int):=by omega
  have i2:(F:Int) < (Ln:Int):=by omega
  go_wp2_with fail
  go_region_with (first
   | (go_at_call 120; refine (l8 _ _ _ old q ((j + 1) * (2 * k)) ((CA.o.at_.frac QO.o (by have:=HJK.o; omega)).below (bS _)) ((FR2.o.mono (by have:=HJK.o; omega)).below (bS _)) (by have:=HJK.o; omega) (by have:=HJK.o; omega)).mono ?_; rintro e w3 ⟨v3,rfl,t3,hb3'⟩; have hb3:=bO hb3'; obtain ⟨A3,m3,c3,A3',m3',c3',rfl,_⟩:=t3.open_; have T3:=aH (t3.mono (show w.heap.size + 1 + 1 <= w2.drew.heap.size by show w.heap.size + 1 + 1 <= w2.heap.size; omega)); have B3:=aH (aa B2.o hb3); have FA3:=aH (FA2.o.below hb3); have P3:=aH (P2.o.below' hb3); have gg0:w3.cell? ⟨wr.heap.size,0,none⟩ = some (.int .i64 (F:Int)):=(G2.o.below' hb3).cell 0; obtain ⟨_,_,_,_,_,_,r0,r1,r2,y0,y1,y2,_⟩:=FA3.o.get HOLD.o; clear t3 hb3 hb3'))
  all_goals
   go_wp2_with fail
   go_roundg gh
   case measure=>omega
   case rel =>
    have HS:bZ Ln (rs.take (j + 1)) = (bZ Ln (rs.take j)).set F (old + q):=by
     rw [ah _ HX.o,ft]
     unfold iY
     simp only [Int.toNat_natCast]
     rw [gD,HOLD.o]
     rfl
    refine ⟨j + 1,rfl,by omega,aH (by rw [ah _ HX.o,List.all_append,HOK.o]; simpa using HR.o),aH (by rw [HS]; exact FA3.o.put HFL.o rfl T3.o),aH (fun x hx=>?_),aH (((P3.o.far (p:=⟨w.heap.size + 1,F * 3,none⟩) (by show w.heap.size ≠ w.heap.size + 1; omega) _).far (p:=⟨w.heap.size + 1,F * 3 + 1,none⟩) (by show w.heap.size ≠ w.heap.size + 1; omega) _).far (p:=⟨w.heap.size + 1,F * 3 + 2,none⟩) (by show w.heap.size ≠ w.heap.size + 1; omega) _),
     aH ((((BEL.o.trans (B3.o.mono hwz)).setCell (p:=⟨w.heap.size + 1,F * 3,none⟩) (by show w.heap.size <= w.heap.size + 1; omega) _).setCell (p:=⟨w.heap.size + 1,F * 3 + 1,none⟩) (by show w.heap.size <= w.heap.size + 1; omega) _).setCell (p:=⟨w.heap.size + 1,F * 3 + 2,none⟩) (by show w.heap.size <= w.heap.size + 1; omega) _)⟩
    rw [ah _ HX.o,ft] at hx
    have:=kD HQB.o QQ.o (by have:=HJK.o; omega) (by simpa using HFL.o) x hx
    exact this.mono (by rw [show j + 1 + 1 = (j + 1) + 1 from rfl,Nat.add_mul (j + 1) 1,Nat.one_mul]; omega)
 obtain ⟨z,hz,hz0⟩:∃ z,aU q = z/\decide (z < 0) = true:=⟨_,rfl,dT ((fO q).2 c0)⟩
 have HZ:=aH hz
 have HB:Hd (aR Ln V rs = 2):=aH (cD HL5.o (mG HX.o) (by simp only; rintro ⟨g1,g2,g3,g4,g5,g6,g7,g8⟩; exact c0 g8))
 clear hz c0
 go_wp2_with fail
 obtain ⟨W1,hW1,G0,GB,Ghs⟩:=aA wr 111 [.int .i64 f,.int .i64 wd,.int .i64 t,.bool s,.slice An nn cn,.slice Ad nd cd]
 rw [<- hW1]
 clear hW1
 have g0:=G0.o.cell 0
 have g1:=G0.o.cell 1
 have g2:=G0.o.cell 2
 have g3:=G0.o.cell 3
 have g4:=G0.o.cell 4
 have g5:=G0.o.cell 5
 simp only [List.getElem?_cons_zero,List.getElem?_cons_succ] at g0 g1 g2 g3 g4 g5
 clear e0 e1 e2 e3 e4 e5 p0 p1 p2
 obtain ⟨p0,p1,p2,_,_,_⟩:=(P1.o.below' GB.o).three
 have SC:=jk W1 _ q k (FR.o.below GB.o) h0 (by omega)
 rw [HZ.o] at SC
 refine SC.mono ?_
 rintro e w2 ⟨rfl,hb2⟩
 have B2:=aH (aa GB.o hb2)
 clear hb2
 go_wp2_with fail
 go_ret
 exact ⟨ag HB.o.symm,BEL.o.trans (B2.o.mono hwz)⟩
end Go.Proofs.YtjebfdfkjlkifaaGreat
