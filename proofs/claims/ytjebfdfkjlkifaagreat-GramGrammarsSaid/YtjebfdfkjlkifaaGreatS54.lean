/- Lemmas. -/
import Derived.Test.YtjebfdfkjlkifaaGreatS52
import Derived.Test.YtjebfdfkjlkifaaGreatS53
set_option linter.all false
set_option maxRecDepth 1000000
set_option maxHeartbeats 32000000
namespace Go.Proofs.YtjebfdfkjlkifaaGreat
open Go.RowKit
theorem gramGrammarsG (hsort:ma) (w:World) (L V:Int) (A:Option Addr) (n c:Nat) (rr:List RRule) (sv:Value) (sl:List Int)(h:RRulesAt w (.slice A n c) rr)(hn:rr.length = n)(hs:IntsAt w sv sl) :
  Calls Tryz.prog 9 #[.agg #[.int .i64 L,.int .i64 V,.slice A n c],sv] w fun e w'=>e = .returned (.bool true)/\Below w.heap.size w w':=by
 obtain ⟨SA,sc,rfl,hsc,hscm,_⟩:=hs.open_
 have HK:=aH (vQ hsort)
 obtain ⟨p,hp⟩:=nm (sl.length)
 have HFW:Hd (∀ w',Below w.heap.size w w'->Calls Tryz.prog 46 #[.agg #[.int .i64 L,.int .i64 V,.slice A n c]] w' fun e w2=>e = .returned (.bool (fewB rr))/\Below w'.heap.size w' w2):=aH (fun w' hb=>fewG w' L V A n c rr (h.below hb) hn)
 obtain ⟨rs,hrs⟩:=nm (rr.map RRule.rule)
 have HRA:Hd (fewB rr = true->∀ w',Below w.heap.size w w'->RulesAt 64 w' (.slice A n c) rs):=aH (fun hf w' hb=>by rw [<- hrs]; exact (h.rules (few_ok hf).2).below hb)
 have HIS:Hd (∀ w',Below w.heap.size w w'->IntsAt w' (.slice SA p sc) sl):=aH (fun w' hb=>by rw [<- hp]; exact hs.below hb)
 have HN:Hd (rs.length = n):=aH (by rw [<- hrs,List.length_map]; exact hn)
 have HFEW:Hd (fewB rr = true->n <= 20 ∨ 500 < n):=aH (fun h=>by rw [<- hn]; exact (few_ok h).1)
 rw [hp] at hsc ⊢
 have HP:=aH hp
 obtain ⟨fb,hfb⟩:=nm (fewB rr)
 obtain ⟨ce,hce⟩:=nm (aR L V rs)
 obtain ⟨b8,e8⟩:=nm (decide ((8:Int) < (p:Int)))
 have e8':decide (8 < p) = b8:=by rw [<- e8]; exact decide_eq_decide.2 (by omega)
 obtain ⟨b500,e500⟩:=nm (decide ((p:Int) <= (500:Int)))
 have e500':decide (p <= 500) = b500:=by rw [<- e500]; exact decide_eq_decide.2 (by omega)
 obtain ⟨tk,htk⟩:=nm ((!fb || (b8 && b500)))
 obtain ⟨ks,hks⟩:=nm (inR 1 V sl)
 obtain ⟨E,hE⟩:=nm (eA L V rs sl)
 obtain ⟨xq,hxq⟩:=nm (jn L V rs sl)
 obtain ⟨be,hbe⟩:=nm (bestE L V rs sl)
 obtain ⟨ba,hba⟩:=nm (bestA L V rs sl)
 obtain ⟨bp,bq⟩:=ba
 have HFB:=aH hfb
 have HCE:=aH hce
 have HTK:=aH htk
 have HB8:=aH e8
 have HB500:=aH e500
 have HKS:=aH hks
 have HSE:=aH hE
 have HSQ:=aH hxq
 have HBE:=aH hbe
 have HBA:=aH hba
 have HE5:Hd (500 < p->E = 5):=aH (fun h=>by rw [<- hE]; unfold eA; rw [if_pos (.inl (by rw [hp]; exact h))])
 have hlong:ce = 5 ∨ ¬ 500 < rs.length:=by
  by_cases h:500 < rs.length
  ·left; rw [<- hce]; unfold aR; rw [if_pos h]
  exact .inr h
 have HEC:Hd (¬ 500 < p->ce ≠ 0->E = ce):=aH (fun h1 h2=>by
  rw [<- hE]
  unfold eA
  by_cases h:500 < rs.length
  ·rw [if_pos (.inr h)]
   rcases hlong with h | h'
   ·exact h.symm
   exact absurd h h'
  rw [if_neg (by rintro (h' | h'); exact h1 (by rw [hp] at h'; exact h'); exact h h'),hce,if_pos h2])
 have HE2:Hd (¬ 500 < p->ce = 0->ks = false->E = 2):=aH (fun h1 h2 h3=>by
  rw [<- hE]
  unfold eA
  rw [if_neg (by rintro (h' | h'); exact h1 (by rw [hp] at h'; exact h'); rcases hlong with h | h; omega; exact h h'),hce,if_neg (fun h=>h h2),hks,h3]
  rfl)
 have HE0:Hd (¬ 500 < p->ce = 0->ks = true->E = 0):=aH (fun h1 h2 h3=>by
  rw [<- hE]
  unfold eA
  rw [if_neg (by rintro (h' | h'); exact h1 (by rw [hp] at h'; exact h'); rcases hlong with h | h; omega; exact h h'),hce,if_neg (fun h=>h h2),hks,h3]
  rfl)
 have HBAD:Hd (E ≠ 0->xq = 0/\be = E/\bp = []/\bq = 0):=aH (fun h=>by
  rw [<- hxq,<- hbe]
  unfold jn bestE
  unfold bestA at hba
  rw [hE,if_neg h,if_neg h]
  rw [hE,if_neg (fun h'=>h h'.1)] at hba
  injection hba with h2 h3
  exact ⟨rfl,rfl,h2.symm,h3.symm⟩)
 clear hsort h hn hs hp hrs hfb hce htk hE hks hxq hbe hba hlong
 go_enter Tryz.func9,Tryz.ntmps9
 go_upto_region 1 with fail
 obtain ⟨W,hW,P0,PB,Phs⟩:=aA w 73 [.int .i64 L,.int .i64 V,.slice A n c]
 rw [<- hW]
 clear hW
 obtain ⟨p0,p1,p2,_,_,_⟩:=P0.o.three
 go_cut [26] (fun t wc=>t = .bool tk/\Hd (Below W.heap.size W wc))
 case first =>
  go_wp2_with fail
  refine (HFW.o W PB.o).mono ?_
  rintro e wa ⟨rfl,hba⟩
  rw [HFB.o]
  have BA:=aH hba
  clear hba
  cases fb with
  | false =>
   go_wp2_with fail
   go_meet
   exact ⟨by rw [<- HTK.o]; rfl,BA⟩
  | true =>
   cases b8 with
   | false =>
    go_wp2_with fail
    go_meet
    exact ⟨by rw [<- HTK.o]; rfl,BA⟩
   | true =>
    cases b500 <;> (go_wp2_with fail; go_meet; exact ⟨by rw [<- HTK.o]; rfl,BA⟩)
 case rest =>
 obtain ⟨rfl,hcc⟩:=hcut
 obtain ⟨w1,rfl⟩:∃ x,x = wc:=⟨_,rfl⟩
 have P1:=aH (P0.o.below' hcc.o)
 have B1:=aH (PB.o.trans (hcc.o.mono PB.o.size))
 clear hcc p0 p1 p2 P0 PB Phs e8 e8' e500 e500'
 cases tk with
 | true =>
  go_wp2_with fail
  refine (HK.o _).mono ?_
  rintro e wK ⟨rfl,hbK⟩
  have BK:=aH (B1.o.trans (hbK.mono B1.o.size))
  clear hbK
  go_wp2_with fail
  go_ret
  exact ⟨rfl,BK.o⟩
 | false =>
 have hfbt:fb = true:=by have:=HTK.o; cases fb <;> simp_all
 subst hfbt
 have hfew:=HFEW.o HFB.o
 have HRS:Hd (∀ w',Below w.heap.size w w'->RulesAt 64 w' (.slice A n c) rs):=aH (HRA.o HFB.o)
 have HSM:Hd (eA L V rs sl = 0->rs.length <= 20/\sl.length <= 8):=aH (fun h=>by
  have h1:=ur h
  have h2:=(lA h1.2.1).1
  refine ⟨by rw [HN.o] at h2 ⊢; omega,?_⟩
  have h3:=HTK.o
  rw [<- HB8.o,<- HB500.o] at h3
  simp only [Bool.not_true,Bool.false_or,Bool.and_eq_false_iff,decide_eq_false_iff_not] at h3
  have h4:=h1.1
  rw [HP.o] at h4 ⊢
  omega)
 clear HTK HFW HRA HB8 HB500
 obtain ⟨p0,p1,p2,_,_,_⟩:=P1.o.three
 go_wp2_with fail
 refine (checkGR w1 L V _ rs (HRS.o w1 B1.o) (by rw [HN.o]; exact hfew)).mono ?_
 rintro e w2 ⟨rfl,hb⟩
 rw [HCE.o]
 clear p0 p1 p2
 have B2:=aH (B1.o.trans (hb.mono B1.o.size))
 have P2:=aH (P1.o.below' hb)
 clear B1 P1
 clear hb
 obtain ⟨p0,p1,p2,_,_,_⟩:=P2.o.three
 go_wp2_with fail
 refine (kw w2 L V _ rs 64 (HRS.o w2 B2.o) (by omega) (by omega)).mono ?_
 rintro e w3 ⟨rfl,hb⟩
 rw [HCE.o]
 clear p0 p1 p2
 have B3:=aH (B2.o.trans (hb.mono B2.o.size))
 have P3:=aH (P2.o.below' hb)
 clear B2 P2
 clear hb
 obtain ⟨p0,p1,p2,_,_,_⟩:=P3.o.three
 have nce:(ce != ce) = false:=by simp
 go_wp2_with fail
 refine (wG w3 L V _ _ rs sl (HRS.o w3 B3.o) (HIS.o w3 B3.o) HSM.o).mono ?_
 rw [HSE.o,HSQ.o]
 rintro e w4 ⟨u,rfl,hu,hb⟩
 obtain ⟨Ax,mx,cx,Ax',mx',cx',rfl⟩:=hu.open_
 have U4:=aH hu
 clear p0 p1 p2 hu
 have B4:=aH (B3.o.trans (hb.mono B3.o.size))
 have P4:=aH (P3.o.below' hb)
 clear B3 P3
 clear hb
 go_upto_region 7 with fail
 obtain ⟨w5,hw5,X0,XB,Xhs⟩:=aA w4 40 [.bool (ae xq),.slice Ax mx cx,.slice Ax' mx' cx']
 rw [<- hw5]
 clear hw5
 have B5:=aH (B4.o.trans (XB.o.mono B4.o.size))
 have P5:=aH (P4.o.below' XB.o)
 have U5:=aH (U4.o.below XB.o)
 clear B4 P4 U4
 have X5:=X0
 clear X0 XB Xhs
 obtain ⟨p0,p1,p2,_,_,_⟩:=P5.o.three
 go_wp2_with fail
 refine (bestG w5 L V _ _ rs sl (HRS.o w5 B5.o) (HIS.o w5 B5.o) (fun h=>⟨(HSM.o h).1,by have:=(HSM.o h).2; omega⟩)).mono ?_
 rw [HBE.o,HBA.o]
 rintro e w6 ⟨pv,u2,rfl,hI,hm,hb⟩
 obtain ⟨Ap,cp,rfl,_,_,_⟩:=hI.open_
 obtain ⟨np,hnp⟩:=nm (bp.length)
 simp only at hI hm
 simp only [hnp] at hI ⊢
 have HNP:=aH hnp
 obtain ⟨Aw,mw,cw,Aw',mw',cw',rfl⟩:=hm.open_
 have I6:=aH hI
 have M6:=aH hm
 clear p0 p1 p2 hI hm hnp
 have B6:=aH (B5.o.trans (hb.mono B5.o.size))
 have P6:=aH (P5.o.below' hb)
 have U6:=aH (U5.o.below hb)
 have X6:=aH (X5.o.below' hb)
 clear B5 P5 U5 X5
 clear hb
 go_upto_region 8 with fail
 obtain ⟨w7,hw7,Z0,ZB,Zhs⟩:=aA w6 40 [.bool (ae bq),.slice Aw mw cw,.slice Aw' mw' cw']
 rw [<- hw7]
 clear hw7
 have B7:=aH (B6.o.trans (ZB.o.mono B6.o.size))
 have P7:=aH (P6.o.below' ZB.o)
 have U7:=aH (U6.o.below ZB.o)
 have X7:=aH (X6.o.below' ZB.o)
 have I7:=aH (I6.o.below ZB.o)
 have M7:=aH (M6.o.below ZB.o)
 clear B6 P6 U6 X6 I6 M6
 have Z7:=Z0
 clear Z0 ZB Zhs
 obtain ⟨p0,p1,p2,_,_,_⟩:=P7.o.three
 by_cases h5:500 < p
 ·have b5:decide ((500:Int) < (p:Int)) = true:=dT (by omega)
  have b5':decide (500 < p) = true:=dT h5
  obtain rfl:E = 5:=HE5.o h5
  obtain ⟨v1,v2,v3,v4⟩:=HBAD.o (by decide)
  subst v1
  subst v2
  subst v3
  subst v4
  obtain rfl:0 = np:=by rw [<- HNP.o]; rfl
  obtain ⟨x0,x1,x2,_,_,_⟩:=X7.o.three
  obtain ⟨z0,z1,z2,_,_,_⟩:=Z7.o.three
  have TQ:=aH (U7.o.frac (cB 64 (by omega)) (by omega))
  have TM:=aH (M7.o.frac (cB 64 (by omega)) (by omega))
  go_wp2_with fail
  refine (ez w7 _ 0 64 TQ.o (by omega)).mono ?_
  rintro e wS ⟨rfl,hbS⟩
  rw [show aU 0 = 0 from rfl]
  have BS:=aH (B7.o.trans (hbS.mono B7.o.size))
  have TM2:=aH (TM.o.below hbS)
  have ZS:=aH (Z7.o.below' hbS)
  clear hbS x0 x1 x2 z0 z1 z2 TQ TM
  obtain ⟨z0,z1,z2,_,_,_⟩:=ZS.o.three
  go_wp2_with fail
  refine (ez wS _ 0 64 TM2.o (by omega)).mono ?_
  rintro e wT ⟨rfl,hbT⟩
  rw [show aU 0 = 0 from rfl]
  have BT:=aH (BS.o.trans (hbT.mono BS.o.size))
  clear hbT z0 z1 z2 TM2
  go_wp2_with fail
  refine (HK.o _).mono ?_
  rintro e wK ⟨rfl,hbK⟩
  have BK:=aH (BT.o.trans (hbK.mono BT.o.size))
  clear hbK
  go_wp2_with fail
  go_ret
  exact ⟨rfl,BK.o⟩
 have b5:decide ((500:Int) < (p:Int)) = false:=dF (by omega)
 have b5':decide (500 < p) = false:=dF h5
 by_cases hc:ce = 0
 ·subst hc
  go_wp2_with fail
  refine (sentG w7 _ sl V (HIS.o w7 B7.o)).mono ?_
  rintro e w8 ⟨rfl,hb⟩
  rw [HKS.o]
  clear p0 p1 p2
  have B8:=aH (B7.o.trans (hb.mono B7.o.size))
  have P8:=aH (P7.o.below' hb)
  have U8:=aH (U7.o.below hb)
  have X8:=aH (X7.o.below' hb)
  have I8:=aH (I7.o.below hb)
  have M8:=aH (M7.o.below hb)
  have Z8:=aH (Z7.o.below' hb)
  clear B7 P7 U7 X7 I7 M7 Z7
  clear hb
  cases ks with
  | false =>
   obtain rfl:E = 2:=HE2.o h5 (by first | rfl | trivial) (by first | rfl | trivial)
   obtain ⟨v1,v2,v3,v4⟩:=HBAD.o (by decide)
   subst v1
   subst v2
   subst v3
   subst v4
   obtain rfl:0 = np:=by rw [<- HNP.o]; rfl
   obtain ⟨x0,x1,x2,_,_,_⟩:=X8.o.three
   obtain ⟨z0,z1,z2,_,_,_⟩:=Z8.o.three
   have TQ:=aH (U8.o.frac (cB 64 (by omega)) (by omega))
   have TM:=aH (M8.o.frac (cB 64 (by omega)) (by omega))
   go_wp2_with fail
   refine (ez w8 _ 0 64 TQ.o (by omega)).mono ?_
   rintro e wS ⟨rfl,hbS⟩
   rw [show aU 0 = 0 from rfl]
   have BS:=aH (B8.o.trans (hbS.mono B8.o.size))
   have TM2:=aH (TM.o.below hbS)
   have ZS:=aH (Z8.o.below' hbS)
   clear hbS x0 x1 x2 z0 z1 z2 TQ TM
   obtain ⟨z0,z1,z2,_,_,_⟩:=ZS.o.three
   go_wp2_with fail
   refine (ez wS _ 0 64 TM2.o (by omega)).mono ?_
   rintro e wT ⟨rfl,hbT⟩
   rw [show aU 0 = 0 from rfl]
   have BT:=aH (BS.o.trans (hbT.mono BS.o.size))
   clear hbT z0 z1 z2 TM2
   go_wp2_with fail
   refine (HK.o _).mono ?_
   rintro e wK ⟨rfl,hbK⟩
   have BK:=aH (BT.o.trans (hbK.mono BT.o.size))
   clear hbK
   go_wp2_with fail
   go_ret
   exact ⟨rfl,BK.o⟩
  | true =>
   obtain rfl:E = 0:=HE0.o h5 (by first | rfl | trivial) (by first | rfl | trivial)
   have hsm:=HSM.o HSE.o
   rw [HP.o] at hsm
   have hck:=lA HCE.o
   have HRO:Hd (RulesOk L rs):=aH (fun r hr=>by
    have:=hck.2.2.2.2.2.1 r hr
    exact ⟨this.1,this.2.1,this.2.2.1,this.2.2.2.1,this.2.2.2.2.1,this.2.2.2.2.2.2.2⟩)
   have HW1:Hd (∀ x ∈ sl,1 <= x):=aH (fun x hx=>(inR_iff.1 HKS.o x hx).1)
   obtain ⟨Ln,rfl⟩:∃ Ln:Nat,L = Ln:=⟨L.toNat,by omega⟩
   have hL1:1 <= Ln:=by omega
   have hL2:Ln <= 60:=by omega
   have HGQ:Hd ((eo (· + ·) Ln rs sl sl.length).getD 0 0 = xq):=aH (by
    rw [<- HSQ.o]
    unfold jn
    rw [if_pos HSE.o,Int.toNat_natCast])
   have HREL:Hd (bestQ rs sl Ln <= xq/\(bestQ rs sl Ln = 0->xq = 0)):=aH (by
    have:=(zR (Ln:=Ln) (sl:=sl) (rs:=rs) (fun r hr=>(HRO.o r hr).2.2.2.2.2) sl.length).2 0
    rw [<- HGQ.o]
    exact this.2)
   have HQ64:=aH ((HRS.o w8 B8.o).qb (by omega))
   have QX:Hd (QB 20000 xq):=aH (by
    rw [<- HGQ.o]
    have h1:=row_first (join:=(· + ·)) (rs:=rs) (sl:=sl) hL1
    exact row_qb r8 HQ64.o hsm.1 (by rw [HP.o]; omega) (Nat.zero_le _) _ (mG h1))
   have QM:Hd (QB 20000 (bestQ rs sl Ln)):=aH (bestQ_qb HQ64.o hsm.1 (by rw [HP.o]; omega))
   clear hck
   obtain ⟨p0,p1,p2,_,_,_⟩:=P8.o.three
   obtain ⟨x0,x1,x2,_,_,_⟩:=X8.o.three
   go_upto_region 14 with fail
   have BB:=aH (Below.refl w8.heap.size w8)
   have lX:w4.heap.size < w8.heap.size:=X8.o.lt
   have lP:w.heap.size < w8.heap.size:=P8.o.lt
   have HSET:Hd (∀ w',Below w8.heap.size w8 w'->(fun w'=>w'.cell? ⟨w.heap.size,0,none⟩ = some (.int .i64 Ln)/\w'.cell? ⟨w.heap.size,1,none⟩ = some (.int .i64 V)/\w'.cell? ⟨w.heap.size,2,none⟩ = some (.slice A n c)/\w'.cell? ⟨w4.heap.size,0,none⟩ = some (.bool (ae xq))/\w'.cell? ⟨w4.heap.size,1,none⟩ = some (.slice Ax mx cx)/\w'.cell? ⟨w4.heap.size,2,none⟩ = some (.slice Ax' mx' cx')) w'):=aH (fun w' hb=>⟨(hb.cell (p:=⟨w.heap.size,0,none⟩) lP).trans p0,(hb.cell (p:=⟨w.heap.size,1,none⟩) lP).trans p1,(hb.cell (p:=⟨w.heap.size,2,none⟩) lP).trans p2,(hb.cell (p:=⟨w4.heap.size,0,none⟩) lX).trans x0,(hb.cell (p:=⟨w4.heap.size,1,none⟩) lX).trans x1,(hb.cell (p:=⟨w4.heap.size,2,none⟩) lX).trans x2⟩)
   have hS:=HSET.o w8 BB.o
   clear p0 p1 p2 x0 x1 x2
   go_cut [96] (fun s96 wc=>s96 = .bool false/\Hd (Below w8.heap.size w8 wc))
   case first =>
    go_region_held3 (fun w'=>w'.cell? ⟨w.heap.size,0,none⟩ = some (.int .i64 Ln)/\w'.cell? ⟨w.heap.size,1,none⟩ = some (.int .i64 V)/\w'.cell? ⟨w.heap.size,2,none⟩ = some (.slice A n c)/\w'.cell? ⟨w4.heap.size,0,none⟩ = some (.bool (ae xq))/\w'.cell? ⟨w4.heap.size,1,none⟩ = some (.slice Ax mx cx)/\w'.cell? ⟨w4.heap.size,2,none⟩ = some (.slice Ax' mx' cx'))
     (first | assumption | exact hS | go_keep)
     (first
      | (go_at_call 53; refine (grammaticalR _ Ln V _ _ rs sl hL1 hL2 HRO.o hsm.1 (by rw [HP.o]; omega) HW1.o (HRS.o _ (B8.o.trans ((bS w8).mono B8.o.size))) (HIS.o _ (B8.o.trans ((bS w8).mono B8.o.size)))).mono ?_; rw [HGQ.o]; rintro e wl ⟨ug,rfl,hg,hb⟩; replace BB:=aH (bO hb); have UG:=aH hg; have hS:=HSET.o _ BB.o; clear hb hg)
      | (go_at_call 40; refine (gW _ _ _ xq xq (U8.o.below BB.o) UG.o).mono ?_; rintro e wl ⟨rfl,hb⟩; rw [show decide (xq = xq) = true from dT rfl]; replace BB:=aH (BB.o.trans (hb.mono BB.o.size)); have hS:=HSET.o _ BB.o; clear hb))
    all_goals
     go_wp2_with fail
     go_meet
     exact ⟨rfl,BB⟩
   case rest =>
   obtain ⟨rfl,hcc⟩:=hcut
   obtain ⟨w9,rfl⟩:∃ x,x = wc:=⟨_,rfl⟩
   clear HSET hS BB
   have B9:=aH (B8.o.trans (hcc.o.mono B8.o.size))
   have P9:=aH (P8.o.below' hcc.o)
   have U9:=aH (U8.o.below hcc.o)
   have X9:=aH (X8.o.below' hcc.o)
   have I9:=aH (I8.o.below hcc.o)
   have M9:=aH (M8.o.below hcc.o)
   have Z9:=aH (Z8.o.below' hcc.o)
   clear B8 P8 U8 X8 I8 M8 Z8
   clear hcc
   obtain ⟨p0,p1,p2,_,_,_⟩:=P9.o.three
   go_wp2_with fail
   refine (bestR w9 Ln V _ _ rs sl hL1 hL2 HRO.o hsm.1 (by rw [HP.o]; omega) HW1.o (HRS.o w9 B9.o) (HIS.o w9 B9.o)).mono ?_
   rintro e wA ⟨pv2,u3,rfl,hI2,hm2,hb⟩
   obtain ⟨Aq,cq,rfl,_,_,_⟩:=hI2.open_
   obtain ⟨Ay,my,cy,Ay',my',cy',rfl⟩:=hm2.open_
   have J10:=aH hI2
   have Y10:=aH hm2
   obtain ⟨w10,rfl⟩:∃ x,x = wA:=⟨_,rfl⟩
   clear p0 p1 p2 hI2 hm2
   have B10:=aH (B9.o.trans (hb.mono B9.o.size))
   have P10:=aH (P9.o.below' hb)
   have U10:=aH (U9.o.below hb)
   have X10:=aH (X9.o.below' hb)
   have I10:=aH (I9.o.below hb)
   have M10:=aH (M9.o.below hb)
   have Z10:=aH (Z9.o.below' hb)
   clear B9 P9 U9 X9 I9 M9 Z9
   clear hb
   obtain ⟨qb,hqb⟩:=nm (bestQ rs sl Ln)
   rw [hqb] at HREL QM Y10 J10 ⊢
   have HQB:=aH hqb
   clear hqb
   obtain ⟨l2,hl2⟩:=nm ((if qb ≠ 0 then bestP rs sl Ln else []))
   rw [hl2] at J10 ⊢
   obtain ⟨n2,hn2⟩:=nm (l2.length)
   rw [hn2] at J10 ⊢
   have HL2:=aH hl2
   obtain ⟨is,his⟩:=nm (decide (qb ≠ 0))
   rw [his]
   have HIS2:=aH his
   clear hl2 hn2 his
   go_upto_region 17 with fail
   obtain ⟨w11,hw11,N0,NB,Nhs⟩:=aA w10 40 [.bool (ae qb),.slice Ay my cy,.slice Ay' my' cy']
   rw [<- hw11]
   clear hw11
   have B11:=aH (B10.o.trans (NB.o.mono B10.o.size))
   have U11:=aH (U10.o.below NB.o)
   have X11:=aH (X10.o.below' NB.o)
   have I11:=aH (I10.o.below NB.o)
   have M11:=aH (M10.o.below NB.o)
   have Z11:=aH (Z10.o.below' NB.o)
   have J11:=aH (J10.o.below NB.o)
   have Y11:=aH (Y10.o.below NB.o)
   clear B10 U10 X10 I10 M10 Z10 J10 Y10
   have N11:=N0
   clear N0 NB Nhs P10
   cases is with
   | false =>
    have h0:qb = 0:=by
     have:=of_decide_eq_false HIS2.o
     exact Classical.byContradiction fun h=>this h
    have HBV:Hd (be = 7/\bp = []/\bq = 0):=aH (by
     have h1:=HBE.o
     have h2:=HBA.o
     unfold bestE at h1
     unfold bestA at h2
     rw [if_pos HSE.o,Int.toNat_natCast,if_pos (by rw [HQB.o]; exact h0)] at h1
     rw [Int.toNat_natCast,if_neg (fun h=>h.2 (by rw [HQB.o]; exact h0))] at h2
     injection h2 with h2 h3
     exact ⟨h1.symm,h2.symm,h3.symm⟩)
    obtain ⟨v2,v3,v4⟩:=HBV.o
    have v5:=HREL.o.2 h0
    subst v2
    subst v3
    subst v4
    subst v5
    obtain rfl:0 = np:=by rw [<- HNP.o]; rfl
    obtain ⟨x0,x1,x2,_,_,_⟩:=X11.o.three
    obtain ⟨z0,z1,z2,_,_,_⟩:=Z11.o.three
    have TQ:=aH (U11.o.frac (cB 64 (by omega)) (by omega))
    have TM:=aH (M11.o.frac (cB 64 (by omega)) (by omega))
    go_wp2_with fail
    refine (ez w11 _ 0 64 TM.o (by omega)).mono ?_
    rintro e wS ⟨rfl,hbS⟩
    rw [show aU 0 = 0 from rfl]
    have BS:=aH (B11.o.trans (hbS.mono B11.o.size))
    have TQ2:=aH (TQ.o.below hbS)
    have XS:=aH (X11.o.below' hbS)
    clear hbS x0 x1 x2 z0 z1 z2 TQ TM
    obtain ⟨x0,x1,x2,_,_,_⟩:=XS.o.three
    go_wp2_with fail
    refine (ez wS _ 0 64 TQ2.o (by omega)).mono ?_
    rintro e wT ⟨rfl,hbT⟩
    rw [show aU 0 = 0 from rfl]
    have BT:=aH (BS.o.trans (hbT.mono BS.o.size))
    clear hbT x0 x1 x2 TQ2
    go_wp2_with fail
    refine (HK.o _).mono ?_
    rintro e wK ⟨rfl,hbK⟩
    have BK:=aH (BT.o.trans (hbK.mono BT.o.size))
    clear hbK
    go_wp2_with fail
    go_ret
    exact ⟨rfl,BK.o⟩
   | true =>
    have h0:qb ≠ 0:=of_decide_eq_true HIS2.o
    have HBV:Hd (be = 0/\bp = l2/\bq = qb):=aH (by
     have h1:=HBE.o
     have h2:=HBA.o
     unfold bestE at h1
     unfold bestA at h2
     rw [if_pos HSE.o,Int.toNat_natCast,if_neg (by rw [HQB.o]; exact h0)] at h1
     rw [Int.toNat_natCast,if_pos ⟨HSE.o,by rw [HQB.o]; exact h0⟩] at h2
     injection h2 with h2 h3
     exact ⟨h1.symm,by rw [<- h2,<- HL2.o,if_pos h0],by rw [<- h3,HQB.o]⟩)
    obtain ⟨v2,v3,v4⟩:=HBV.o
    subst v2
    subst v3
    subst v4
    obtain ⟨sg,hsg⟩:=nm (aU (bq - xq))
    have HSG:=aH hsg
    have dle:decide (sg <= 0) = true:=dT (by rw [<- hsg]; exact sgn_le HREL.o.1)
    clear hsg h0
    obtain ⟨z0,z1,z2,_,_,_⟩:=Z11.o.three
    obtain ⟨x0,x1,x2,_,_,_⟩:=X11.o.three
    obtain ⟨n0,n1,n2,_,_,_⟩:=N11.o.three
    go_wp2_with fail
    refine (oo w11 _ _ bp bp I11.o J11.o).mono ?_
    rintro e w12 ⟨rfl,hb⟩
    rw [show decide (bp = bp) = true from dT rfl]
    clear x0 x1 x2 z0 z1 z2 n0 n1 n2
    have B12:=aH (B11.o.trans (hb.mono B11.o.size))
    have U12:=aH (U11.o.below hb)
    have X12:=aH (X11.o.below' hb)
    have M12:=aH (M11.o.below hb)
    have Z12:=aH (Z11.o.below' hb)
    have N12:=aH (N11.o.below' hb)
    have Y12:=aH (Y11.o.below hb)
    clear B11 U11 X11 M11 Z11 N11 Y11
    clear hb I11 J11
    obtain ⟨z0,z1,z2,_,_,_⟩:=Z12.o.three
    obtain ⟨n0,n1,n2,_,_,_⟩:=N12.o.three
    go_wp2_with fail
    refine (gW w12 _ _ bq bq M12.o Y12.o).mono ?_
    rintro e w13 ⟨rfl,hb⟩
    rw [show decide (bq = bq) = true from dT rfl]
    clear z0 z1 z2 n0 n1 n2
    have B13:=aH (B12.o.trans (hb.mono B12.o.size))
    have U13:=aH (U12.o.below hb)
    have X13:=aH (X12.o.below' hb)
    have M13:=aH (M12.o.below hb)
    have Z13:=aH (Z12.o.below' hb)
    clear B12 U12 X12 M12 Z12
    clear hb N12 Y12
    obtain ⟨z0,z1,z2,_,_,_⟩:=Z13.o.three
    obtain ⟨x0,x1,x2,_,_,_⟩:=X13.o.three
    have TM:=aH (M13.o.frac QM.o (show 20000 <= 17592186044416 by omega))
    have TX:=aH (U13.o.frac QX.o (show 20000 <= 17592186044416 by omega))
    go_wp2_with fail
    refine (vW w13 _ _ bq xq 20000 TM.o TX.o (by omega) (by omega)).mono ?_
    rintro e w14 ⟨rfl,hb⟩
    rw [HSG.o]
    have B14:=aH (B13.o.trans (hb.mono B13.o.size))
    clear hb x0 x1 x2 z0 z1 z2 TM TX
    go_wp2_with fail
    refine (HK.o _).mono ?_
    rintro e wK ⟨rfl,hbK⟩
    have BK:=aH (B14.o.trans (hbK.mono B14.o.size))
    clear hbK
    go_wp2_with fail
    go_ret
    exact ⟨rfl,BK.o⟩
 have n3:(ce != 0) = true:=by simpa using hc
 have n3':(ce == 0) = false:=by simpa using hc
 obtain rfl:E = ce:=HEC.o h5 hc
 obtain ⟨v1,v2,v3,v4⟩:=HBAD.o hc
 subst v1
 subst v2
 subst v3
 subst v4
 obtain rfl:0 = np:=by rw [<- HNP.o]; rfl
 obtain ⟨x0,x1,x2,_,_,_⟩:=X7.o.three
 obtain ⟨z0,z1,z2,_,_,_⟩:=Z7.o.three
 have TQ:=aH (U7.o.frac (cB 64 (by omega)) (by omega))
 have TM:=aH (M7.o.frac (cB 64 (by omega)) (by omega))
 go_wp2_with fail
 refine (ez w7 _ 0 64 TQ.o (by omega)).mono ?_
 rintro e wS ⟨rfl,hbS⟩
 rw [show aU 0 = 0 from rfl]
 have BS:=aH (B7.o.trans (hbS.mono B7.o.size))
 have TM2:=aH (TM.o.below hbS)
 have ZS:=aH (Z7.o.below' hbS)
 clear hbS x0 x1 x2 z0 z1 z2 TQ TM
 obtain ⟨z0,z1,z2,_,_,_⟩:=ZS.o.three
 go_wp2_with fail
 refine (ez wS _ 0 64 TM2.o (by omega)).mono ?_
 rintro e wT ⟨rfl,hbT⟩
 rw [show aU 0 = 0 from rfl]
 have BT:=aH (BS.o.trans (hbT.mono BS.o.size))
 clear hbT z0 z1 z2 TM2
 go_wp2_with fail
 refine (HK.o _).mono ?_
 rintro e wK ⟨rfl,hbK⟩
 have BK:=aH (BT.o.trans (hbK.mono BT.o.size))
 clear hbK
 go_wp2_with fail
 go_ret
 exact ⟨rfl,BK.o⟩
end Go.Proofs.YtjebfdfkjlkifaaGreat
