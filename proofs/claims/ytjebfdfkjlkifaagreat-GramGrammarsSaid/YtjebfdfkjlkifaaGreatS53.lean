/- Lemmas. -/
import Derived.Test.YtjebfdfkjlkifaaGreatS49
import Derived.Test.YtjebfdfkjlkifaaGreatR47
set_option linter.all false
set_option maxRecDepth 1000000
set_option maxHeartbeats 32000000
namespace Go.Proofs.YtjebfdfkjlkifaaGreat
open Go.RowKit
theorem ruleB_or (L V:Int) (r:bP):(decide (r.f < 0) || (decide (L <= r.f) || (decide (r.w < 0) || (decide (V < r.w) || (decide (r.t < 0) || (decide (L <= r.t) || (((r.w == 0) && (r.t != 0)) || decide (aU r.q < 0)))))))) = !jo L V r:=by
 unfold jo
 rw [Bool.eq_iff_iff]
 simp only [Bool.or_eq_true,Bool.and_eq_true,decide_eq_true_eq,Bool.not_eq_true',decide_eq_false_iff_not,beq_iff_eq,bne_iff_ne,fO]
 by_cases h0:0 <= r.q
 ·simp only [h0,not_true_eq_false,or_false,and_true]
  omega
 simp only [h0,not_false_eq_true,or_true,and_false]
theorem checkG_last {L:Nat} {V:Int} {rs:List bP} (hl:¬ 500 < rs.length)(h1:1 <= (L:Int))(h2:(L:Int) <= 60)(h3:1 <= V)(h4:V <= 2000)(h5:rs.all (jo L V) = true) :
  aR L V rs = if ((bZ L rs).drop 0).all (fun q=>decide (q = 1)) = true then 0 else 2:=by
 unfold aR
 rw [if_neg hl,Int.toNat_natCast,List.drop_zero]
 simp [h1,h2,h3,h4,h5]

theorem checkGR (w:World) (L V:Int) (v:Value) (rs:List bP)(h:RulesAt 64 w v rs)(hf:rs.length <= 20 ∨ 500 < rs.length) :
  Calls Tryz.prog 47 #[.agg #[.int .i64 L,.int .i64 V,v]] w fun e w'=>e = .returned (.int .i64 (aR L V rs))/\Below w.heap.size w w':=by
 have hqb:=h.qb (by omega)
 obtain ⟨A,c,rfl,hlc,hcm,hat⟩:=h.open_
 have HAT:=aH hat
 have HQ64:=aH hqb
 obtain ⟨n,hn⟩:=nm (rs.length)
 rw [hn] at hlc hf ⊢
 have HN:=aH hn
 obtain ⟨E,hE⟩:=nm (aR L V rs)
 rw [hE]
 have HE:=aH hE
 clear h hat hqb hn hE
 by_cases h5:500 < n
 ·obtain rfl:E = 5:=by rw [<- HE.o]; unfold aR; rw [if_pos (by rw [HN.o]; exact h5)]
  have b5:decide ((500:Int) < (n:Int)) = true:=dT (by omega)
  go_enter Tryz.func47,Tryz.ntmps47
  go_wp2_with fail
  obtain ⟨W,hW,P0,PB,Phs⟩:=aA w 73 [.int .i64 L,.int .i64 V,.slice A n c]
  rw [<- hW]
  clear hW
  obtain ⟨p0,p1,p2,_,_,_⟩:=P0.o.three
  go_wp2_with fail
  go_ret
  exact ⟨rfl,PB.o⟩
 have HL5:Hd (¬ 500 < rs.length):=aH (by rw [HN.o]; exact h5)
 have b5:decide ((500:Int) < (n:Int)) = false:=dF (by omega)
 have b5':decide (500 < n) = false:=dF h5
 have hn20:n <= 20:=by omega
 obtain ⟨y0,d0⟩:=nm (decide (L < 1))
 obtain ⟨y1,d1⟩:=nm (decide (60 < L))
 obtain ⟨y2,d2⟩:=nm (decide (V < 1))
 obtain ⟨y3,d3⟩:=nm (decide (2000 < V))
 obtain ⟨sz,hsz⟩:=nm ((y0 || (y1 || (y2 || y3))))
 have HSZ:=aH hsz
 have HY:Hd (sz = !decide (1 <= L/\L <= 60/\1 <= V/\V <= 2000)):=aH (by
  rw [<- hsz,<- d0,<- d1,<- d2,<- d3,Bool.eq_iff_iff]
  simp only [Bool.or_eq_true,decide_eq_true_eq,Bool.not_eq_true',decide_eq_false_iff_not]
  omega)
 clear h5 hf hsz
 go_enter Tryz.func47,Tryz.ntmps47
 go_upto_region 1 with fail
 obtain ⟨W,hW,P0,PB,Phs⟩:=aA w 73 [.int .i64 L,.int .i64 V,.slice A n c]
 rw [<- hW]
 clear hW
 obtain ⟨p0,p1,p2,_,_,_⟩:=P0.o.three
 go_upto_region 3 with fail
 go_cut [28] (fun t wc=>t = .bool sz/\wc = W)
 case first =>
  cases y0 <;> cases y1 <;> cases y2 <;> cases y3 <;> (go_wp2_with fail; go_meet; exact ⟨by rw [<- HSZ.o]; rfl,rfl⟩)
 case rest =>
 obtain ⟨rfl,hwc⟩:=hcut
 rw [hwc]
 clear hwc wc d0 d1 d2 d3
 cases sz with
 | true =>
  obtain rfl:E = 2:=by rw [<- HE.o]; exact fd HL5.o (fun h=>by have:=HY.o; rw [dT h] at this; cases this)
  go_wp2_with fail
  go_ret
  exact ⟨rfl,PB.o⟩
 | false =>
 have hsz:1 <= L/\L <= 60/\1 <= V/\V <= 2000:=by
  refine Classical.byContradiction fun h=>?_
  have:=HY.o
  rw [dF h] at this
  cases this
 obtain ⟨Ln,rfl⟩:∃ Ln:Nat,L = Ln:=⟨L.toNat,by omega⟩
 obtain ⟨d0',d1',d2',d3'⟩:=hsz
 go_wp2_with (at_make; refine aD rfl _ _ rfl Ln Ln rfl rfl rfl (by omega) ?_)
 intro w1 hfa hb1
 have FA:=aH hfa.arc
 obtain ⟨B,hB⟩:=nm (W.heap.size)
 have hwB:w.heap.size < B:=by rw [<- hB]; exact P0.o.lt
 have B1:=aH (PB.o.trans (hb1.mono PB.o.size))
 have P1:=aH (P0.o.below' hb1)
 rw [hB] at FA ⊢
 clear hfa hb1 p0 p1 p2 hB PB P0 Phs
 go_wp2_with fail
 go_loopg [4,5] n (fun gh i _ wr=>∃ (j:Nat),i = .int .i64 j/\j + gh = n/\Hd ((rs.take j).all (jo Ln V) = true)/\Hd (FArc wr B (bZ Ln (rs.take j)))/\Hd (∀ x ∈ bZ Ln (rs.take j),QB ((j + 1) * 128) x)/\Hd (Blk wr w.heap.size 73 [.int .i64 Ln,.int .i64 V,.slice A n c])/\Hd (Below w.heap.size w wr))
 case atStart=>exact ⟨0,rfl,by omega,aH rfl,aH (by simpa [bZ] using FA.o),aH (fun x hx=>by
  have:x = 0:=by
   have hx':x ∈ List.replicate Ln (0:Rat):=by simpa [bZ] using hx
   exact List.eq_of_mem_replicate hx'
  rw [this]
  exact bv (n:=0) (Nat.pow_pos (by omega)) (by omega)),P1,B1⟩
 clear FA B1 P1
 obtain ⟨w5,rfl⟩:∃ x,x = wr:=⟨_,rfl⟩
 obtain ⟨j,rfl,hj,HOK,FA,HQB,P5,B5⟩:=hrel
 obtain ⟨p0,p1,p2,_,_,_⟩:=P5.o.three
 rcases zP gk with h | h
 ·subst h
  obtain rfl:j = n:=by omega
  have HT:Hd (rs.take j = rs):=aH (tL (by rw [HN.o]; exact nR _))
  rw [HT.o] at HOK FA HQB
  obtain ⟨sums,hsums⟩:=nm (bZ Ln rs)
  have HSL:Hd (sums.length = Ln):=aH (by rw [<- hsums]; exact dH _ _)
  have HX:Hd (E = if (sums.drop 0).all (fun q=>decide (q = 1)) = true then 0 else 2):=aH (by rw [<- HE.o,<- hsums]; exact checkG_last HL5.o d0' d1' d2' d3' HOK.o)
  rw [hsums] at FA HQB
  have HQ3:Hd (∀ x ∈ sums,QB 3000 x):=aH (fun x hx=>(HQB.o x hx).mono (by omega))
  clear hsums HOK HQB HT
  go_wp2_with fail
  go_loopg [6] Ln (fun gh i wr=>∃ (k:Nat),i = .int .i64 k/\k + gh = Ln/\Hd (E = if (sums.drop k).all (fun q=>decide (q = 1)) = true then 0 else 2)/\Hd (FArc wr B sums)/\Hd (Blk wr w.heap.size 73 [.int .i64 Ln,.int .i64 V,.slice A j c])/\Hd (Below w.heap.size w wr))
  case atStart=>exact ⟨0,rfl,by omega,HX,FA,P5,B5⟩
  clear HX FA P5 B5 p0 p1 p2
  obtain ⟨w6,rfl⟩:∃ x,x = wr:=⟨_,rfl⟩
  obtain ⟨k,rfl,hk,HX,FA,P6,B6⟩:=hrel
  obtain ⟨p0,p1,p2,_,_,_⟩:=P6.o.three
  rcases zP gk with h | h
  ·subst h
   obtain rfl:k = Ln:=by omega
   obtain rfl:E = 0:=by rw [HX.o,dN (by rw [HSL.o]; exact nR _)]; rfl
   go_wp2_with fail
   go_ret
   exact ⟨rfl,B6.o⟩
  obtain ⟨g,rfl⟩:∃ g,gk = g + 1:=⟨gk - 1,by omega⟩
  obtain ⟨sm,hsm⟩:∃ q,sums[k]? = some q:=⟨_,eG (by rw [HSL.o]; omega)⟩
  have QO:=aH (HQ3.o sm (mG hsm))
  have ST:=aH (nH (p:=fun q=>decide (q = 1)) hsm)
  obtain ⟨Ar,mr,cr,Ar',mr',cr',r0,r1,r2,_,_,_,tr⟩:=FA.o.get hsm
  have TR:=aH (tr.frac (k:=3000) QO.o (by omega))
  obtain ⟨q1r,hq1⟩:∃ y:Rat,((1:Int):Rat) = y:=⟨_,rfl⟩
  have Q1R:Hd (QB 64 q1r):=aH (by rw [<- hq1]; exact dA (by omega) (by omega))
  obtain ⟨sg,hsg⟩:=nm (aU (sm - q1r))
  have HSG:=aH hsg
  have HQ1:=aH hq1
  have HEQ:Hd (decide (sm = 1) = decide (sg = 0)):=aH (by rw [<- hsg,<- hq1]; exact decide_eq_decide.2 sgn_one.symm)
  have sB:=FA.o.lt
  have BB:=aH (Below.refl w6.heap.size w6)
  have HSET:Hd (∀ w',Below w6.heap.size w6 w'->(fun w'=>w'.cell? ⟨B,k * 3,none⟩ = some (.bool (ae sm))/\w'.cell? ⟨B,k * 3 + 1,none⟩ = some (.slice Ar mr cr)/\w'.cell? ⟨B,k * 3 + 2,none⟩ = some (.slice Ar' mr' cr')) w'):=aH (fun w' hb=>⟨(hb.cell (p:=⟨B,k * 3,none⟩) sB).trans r0,(hb.cell (p:=⟨B,k * 3 + 1,none⟩) sB).trans r1,(hb.cell (p:=⟨B,k * 3 + 2,none⟩) sB).trans r2⟩)
  have hS:=HSET.o w6 BB.o
  have k1:(0:Int) <= (k:Int):=by omega
  have k2:(k:Int) < (Ln:Int):=by omega
  have k9:IntKind.i64.wrap ((k:Int) + 1) = (k:Int) + 1:=iI _ (by omega)
  clear hsm hq1 hsg tr
  go_upto_region 16 with fail
  go_cut [118] (fun t wc=>t = .bool (sg != 0)/\Hd (Below w6.heap.size w6 wc))
  case first =>
   go_region_held3 (fun w'=>w'.cell? ⟨B,k * 3,none⟩ = some (.bool (ae sm))/\w'.cell? ⟨B,k * 3 + 1,none⟩ = some (.slice Ar mr cr)/\w'.cell? ⟨B,k * 3 + 2,none⟩ = some (.slice Ar' mr' cr'))
    (first | assumption | exact hS | go_keep)
    (first
     | (go_at_call 33; refine (ko _ 1 (by omega) (by omega)).mono ?_; rintro e wl ⟨u,rfl,t,hb⟩; rw [HQ1.o] at t; (try replace hb:=bO hb); replace BB:=aH (BB.o.trans (hb.mono BB.o.size)); have T1:=aH (t.at_.frac (k:=3000) (Q1R.o.mono (by omega)) (by omega)); have hS:=HSET.o _ BB.o; clear t hb)
     | (go_at_call 30; refine (vW _ _ _ sm q1r 3000 (by first | exact TR.o.below BB.o | exact (TR.o.below BB.o).below (bS _)) (by first | exact T1.o | exact T1.o.below (bS _)) (by omega) (by omega)).mono ?_; rintro e wl ⟨rfl,hb⟩; rw [HSG.o]; (try replace hb:=bO hb); replace BB:=aH (BB.o.trans (hb.mono BB.o.size)); have hS:=HSET.o _ BB.o; clear hb))
   all_goals
    go_wp2_with fail
    go_meet
    exact ⟨rfl,BB⟩
  obtain ⟨rfl,hcc⟩:=hcut
  have FA7:=aH (FA.o.below hcc.o)
  have P7:=aH (P6.o.below' hcc.o)
  have B7:=aH (B6.o.trans (hcc.o.mono B6.o.size))
  clear hcc hS HSET r0 r1 r2 BB p0 p1 p2 FA P6 B6 TR
  by_cases h0:sg = 0
  ·have n0:(sg != 0) = false:=by simpa using h0
   have HX2:Hd (E = if (sums.drop (k + 1)).all (fun q=>decide (q = 1)) = true then 0 else 2):=aH (by rw [HX.o,ST.o,HEQ.o,dT h0,Bool.true_and])
   clear h0
   go_wp2_with fail
   go_roundg g
   case measure=>omega
   case rel=>exact ⟨k + 1,rfl,by omega,HX2,FA7,P7,B7⟩
  have n0:(sg != 0) = true:=by simpa using h0
  obtain rfl:E = 2:=by rw [HX.o,ST.o,HEQ.o,dF h0,Bool.false_and]; rfl
  clear h0
  go_wp2_with fail
  go_ret
  exact ⟨rfl,B7.o⟩
 obtain ⟨gh,rfl⟩:∃ g,gk = g + 1:=⟨gk - 1,by omega⟩
 obtain ⟨x,hx⟩:∃ x,rs[j]? = some x:=⟨_,eG (by rw [HN.o]; omega)⟩
 obtain ⟨ba,oa,s,An,nn,cn,Ad,nd,cd,rfl,hba,e0,e1,e2,e3,e4,e5,hfr⟩:=HAT.o j x hx
 have c0:=(B5.o.cell (p:=⟨ba,oa + j * 6,none⟩) hba).trans e0
 have c1:=(B5.o.cell (p:=⟨ba,oa + j * 6 + 1,none⟩) hba).trans e1
 have c2:=(B5.o.cell (p:=⟨ba,oa + j * 6 + 2,none⟩) hba).trans e2
 have c3:=(B5.o.cell (p:=⟨ba,oa + j * 6 + 3,none⟩) hba).trans e3
 have c4:=(B5.o.cell (p:=⟨ba,oa + j * 6 + 4,none⟩) hba).trans e4
 have c5:=(B5.o.cell (p:=⟨ba,oa + j * 6 + 5,none⟩) hba).trans e5
 have FR:=aH hfr
 have HX:=aH hx
 have HQX:=aH (HQ64.o x (mG hx))
 have HOR:=aH (ruleB_or (Ln:Int) V x)
 obtain ⟨rb,hrb⟩:=nm ((!jo (Ln:Int) V x))
 have HRX:=aH hrb
 rw [hrb] at HOR
 obtain ⟨rf,rw_,rt,rq⟩:=x
 simp only at c0 c1 c2 FR HQX HOR
 obtain ⟨z0,hz0⟩:=nm (decide (rf < 0))
 obtain ⟨z1,hz1⟩:=nm (decide ((Ln:Int) <= rf))
 obtain ⟨z2,hz2⟩:=nm (decide (rw_ < 0))
 obtain ⟨z3,hz3⟩:=nm (decide (V < rw_))
 obtain ⟨z4,hz4⟩:=nm (decide (rt < 0))
 obtain ⟨z5,hz5⟩:=nm (decide ((Ln:Int) <= rt))
 obtain ⟨z8,hz8⟩:=nm ((rw_ == 0))
 obtain ⟨z6,hz6⟩:=nm ((rt != 0))
 obtain ⟨sg,hsg⟩:=nm (aU rq)
 have HSG:=aH hsg
 obtain ⟨z7,hz7⟩:=nm (decide (sg < 0))
 have HRB:Hd ((z0 || (z1 || (z2 || (z3 || (z4 || (z5 || ((z8 && z6) || z7))))))) = rb):=aH (by
  have:=HOR.o
  rwa [hz0,hz1,hz2,hz3,hz4,hz5,hz8,hz6,hsg,hz7] at this)
 have k0:(0:Int) <= (j:Int):=by omega
 have k1:(j:Int) < (n:Int):=by omega
 have k9:IntKind.i64.wrap ((j:Int) + 1) = (j:Int) + 1:=iI _ (by omega)
 have hBw:B < w5.heap.size:=FA.o.lt
 clear hx hfr e0 e1 e2 e3 e4 e5 hrb HOR hsg
 go_upto_region 10 with fail
 obtain ⟨W6,hW6,G0,GB,Ghs⟩:=aA w5 111 [.int .i64 rf,.int .i64 rw_,.int .i64 rt,.bool s,.slice An nn cn,.slice Ad nd cd]
 rw [<- hW6]
 clear hW6
 have P6:=aH (P5.o.below' GB.o)
 have FA6:=aH (FA.o.below GB.o)
 have B6:=aH (B5.o.trans (GB.o.mono B5.o.size))
 clear p0 p1 p2 c0 c1 c2 c3 c4 c5 P5 FA B5 GB Ghs
 obtain ⟨p0,p1,p2,_,_,_⟩:=P6.o.three
 obtain ⟨g0,g1,g2,g3,g4,g5⟩:=six_at G0.o
 go_cut [93] (fun t wc=>t = .bool rb/\Hd (Below W6.heap.size W6 wc))
 case first =>
  cases z0 with
  | true =>
   go_wp2_with fail
   go_meet
   exact ⟨by rw [<- HRB.o]; rfl,aH (Below.refl _ _)⟩
  | false =>
   cases z1 with
   | true =>
    go_wp2_with fail
    go_meet
    exact ⟨by rw [<- HRB.o]; rfl,aH (Below.refl _ _)⟩
   | false =>
    cases z2 with
    | true =>
     go_wp2_with fail
     go_meet
     exact ⟨by rw [<- HRB.o]; rfl,aH (Below.refl _ _)⟩
    | false =>
     cases z3 with
     | true =>
      go_wp2_with fail
      go_meet
      exact ⟨by rw [<- HRB.o]; rfl,aH (Below.refl _ _)⟩
     | false =>
      cases z4 with
      | true =>
       go_wp2_with fail
       go_meet
       exact ⟨by rw [<- HRB.o]; rfl,aH (Below.refl _ _)⟩
      | false =>
       cases z5 with
       | true =>
        go_wp2_with fail
        go_meet
        exact ⟨by rw [<- HRB.o]; rfl,aH (Below.refl _ _)⟩
       | false =>
        cases z8 with
        | true =>
         cases z6 with
         | true =>
          go_wp2_with fail
          go_meet
          exact ⟨by rw [<- HRB.o]; rfl,aH (Below.refl _ _)⟩
         | false =>
          go_wp2_with fail
          refine (ez W6 _ rq 64 (FR.o.below B6.o) (by omega)).mono ?_
          rintro e wl ⟨rfl,hb⟩
          rw [HSG.o]
          have BL:=aH hb
          clear hb
          cases z7 <;> (go_wp2_with fail; go_meet; exact ⟨by rw [<- HRB.o]; rfl,BL⟩)
        | false =>
         go_wp2_with fail
         refine (ez W6 _ rq 64 (FR.o.below B6.o) (by omega)).mono ?_
         rintro e wl ⟨rfl,hb⟩
         rw [HSG.o]
         have BL:=aH hb
         clear hb
         cases z7 <;> (go_wp2_with fail; go_meet; exact ⟨by rw [<- HRB.o]; rfl,BL⟩)
 obtain ⟨rfl,hcc⟩:=hcut
 obtain ⟨w7,rfl⟩:∃ x,x = wc:=⟨_,rfl⟩
 have P7:=aH (P6.o.below' hcc.o)
 have FA7:=aH (FA6.o.below hcc.o)
 have G7:=aH (G0.o.below' hcc.o)
 have B7:=aH (B6.o.trans (hcc.o.mono B6.o.size))
 clear hcc p0 p1 p2 g0 g1 g2 g3 g4 g5 P6 FA6 G0 B6 HRB
 cases rb with
 | true =>
  obtain rfl:E = 2:=by
   rw [<- HE.o]
   refine cD HL5.o (mG HX.o) (fun hok=>?_)
   have:=HRX.o
   rw [Bool.not_eq_true'] at this
   unfold jo at this
   exact of_decide_eq_false this hok
  go_wp2_with fail
  go_ret
  exact ⟨rfl,B7.o⟩
 | false =>
  have HRO:Hd (jo (Ln:Int) V ⟨rf,rw_,rt,rq⟩ = true):=aH (by have:=HRX.o; simpa using this)
  have hrf:0 <= rf/\rf < Ln:=by
   have:=HRO.o
   unfold jo at this
   have:=of_decide_eq_true this
   exact ⟨this.1,this.2.1⟩
  obtain ⟨F,rfl⟩:∃ F:Nat,rf = F:=⟨rf.toNat,by omega⟩
  have HFL:Hd (F < (bZ Ln (rs.take j)).length):=aH (by rw [dH]; omega)
  obtain ⟨old,hold⟩:∃ old,(bZ Ln (rs.take j))[F]? = some old:=⟨_,eG HFL.o⟩
  have HOLD:=aH hold
  have QO:=aH ((HQB.o _ (mG hold)).mono (show (j + 1) * 128 <= 3000 by omega))
  obtain ⟨g0,g1,g2,g3,g4,g5⟩:=six_at G7.o
  have i1:(0:Int) <= (F:Int):=by omega
  have i2:(F:Int) < (Ln:Int):=by omega
  have sG:=G7.o.lt
  have nG:w5.heap.size ≠ B:=by omega
  have HSET:Hd (∀ w',Below w7.heap.size w7 w'->(fun w'=>w'.cell? ⟨w5.heap.size,0,none⟩ = some (.int .i64 F)/\w'.cell? ⟨w5.heap.size,3,none⟩ = some (.bool s)/\w'.cell? ⟨w5.heap.size,4,none⟩ = some (.slice An nn cn)/\w'.cell? ⟨w5.heap.size,5,none⟩ = some (.slice Ad nd cd)) w'):=aH (fun w' hb=>⟨(hb.cell (p:=⟨w5.heap.size,0,none⟩) sG).trans g0,(hb.cell (p:=⟨w5.heap.size,3,none⟩) sG).trans g3,(hb.cell (p:=⟨w5.heap.size,4,none⟩) sG).trans g4,(hb.cell (p:=⟨w5.heap.size,5,none⟩) sG).trans g5⟩)
  have TX:=aH ((FR.o.below B7.o).mono (show 64 <= 3000 by omega))
  clear hold hrf g0 g1 g2 g3 g4 g5
  go_upto_region 12 with fail
  refine wp_region_held_drew (S:=(fun w'=>w'.cell? ⟨w5.heap.size,0,none⟩ = some (.int .i64 F)/\w'.cell? ⟨w5.heap.size,3,none⟩ = some (.bool s)/\w'.cell? ⟨w5.heap.size,4,none⟩ = some (.slice An nn cn)/\w'.cell? ⟨w5.heap.size,5,none⟩ = some (.slice Ad nd cd))) (by kernel_rfl) (HSET.o _ (bS w7)) (fun hHeld=>?_)
  refine tjj 0 ?_ rfl (by kernel_rfl) rfl ‹_› ?_ (fun _ _ _ h=>h) (tjj 1 ?_ rfl (by kernel_rfl) rfl ‹_› ?_ (fun _ _ _ h=>h) (tjj 2 ?_ rfl (by kernel_rfl) rfl ‹_› ?_ (fun _ _ _ h=>h) (tjj 3 ?_ rfl (by kernel_rfl) rfl ‹_› ?_ (fun _ _ _ h=>h) (tjj 4 ?_ rfl (by kernel_rfl) rfl ‹_› ?_ (fun _ _ _ h=>h) (tjj 5 ?_ rfl (by kernel_rfl) rfl ‹_› ?_ (fun _ _ _ h=>h) (tjj 6 ?_ rfl (by kernel_rfl) rfl ‹_› ?_ (fun _ _ _ h=>h) (tjj 8 ?_ rfl (by kernel_rfl) rfl ‹_› ?_ (fun _ _ _ h=>h) (tjj 9 ?_ rfl (by kernel_rfl) rfl ‹_› ?_ (fun _ _ _ h=>h) ?_))))))))
  iterate 9 (rotate_left; · (intro w' hSw; (try dsimp only at hSw); (try go_frame); go_simp <;> with_reducible rfl))
  go_frame
  obtain ⟨Ao,mo,co',Ao',mo',co'',r0,r1,r2,_,_,_,tO⟩:=FA7.o.get HOLD.o
  have TO:=aH (tO.frac (k:=3000) QO.o (by omega))
  clear tO
  refine wpAnyH_ready (rs:=[7]) (by kernel_rfl) (by simp) ?_
  refine AllReadyH.cons rfl (fun K hK=>?_) AllReadyH.nil
  go_simp
  refine hK.out _ _ hHeld (fun _=>?_)
  clear hK K r0 r1 r2
  try go_frame
  refine wpAnyH_ready (rs:=[10]) (by kernel_rfl) (by simp) ?_
  refine AllReadyH.cons rfl (fun K hK=>?_) AllReadyH.nil
  go_simp
  clear hHeld
  refine (nO _ _ _ old rq 3000 (TO.o.below (bS _)) (TX.o.below (bS _)) (by omega) (by omega)).mono ?_
  rintro e wl ⟨u,rfl,t,hb'⟩
  have hb:=bO hb'
  have BB:=aH hb
  obtain ⟨As,ms,cs2,As',ms',cs',rfl⟩:=t.at_.open_
  have T2:=aH t.at_
  clear t hb'
  have hS:=HSET.o wl hb
  try go_simp
  refine hK.out _ _ hS (fun hHeld=>?_)
  clear hK K hS
  try go_frame
  refine tjj 11 ?_ rfl (by kernel_rfl) rfl ‹_› ?_ (fun _ _ _ h=>h) ?_
  rotate_left
  ·(intro w' hSw; (try dsimp only at hSw); (try go_frame); go_simp <;> with_reducible rfl)
  go_frame
  obtain ⟨_,_,_,_,_,_,u0,u1,u2,y0,y1,y2,_⟩:=(FA7.o.below BB.o).get HOLD.o
  refine wpAnyH_ready (rs:=[12]) (by kernel_rfl) (by simp) ?_
  refine AllReadyH.cons rfl (fun K hK=>?_) AllReadyH.nil
  go_simp
  refine hK.out _ _ ⟨aj hHeld.1 nG _ _ _ _ _ _,aj hHeld.2.1 nG _ _ _ _ _ _,aj hHeld.2.2.1 nG _ _ _ _ _ _,aj hHeld.2.2.2 nG _ _ _ _ _ _⟩ (fun _=>?_)
  clear hK K hHeld
  try go_frame
  refine wpAnyH_done (by kernel_rfl) ?_ _
  go_wp2_with fail
  go_roundg gh
  case measure=>omega
  case rel =>
   have HS:bZ Ln (rs.take (j + 1)) = (bZ Ln (rs.take j)).set F (old + rq):=by
    rw [ah _ HX.o,ft]
    unfold iY
    simp only [Int.toNat_natCast]
    rw [gD,HOLD.o]
    rfl
   refine ⟨j + 1,rfl,by omega,aH (by rw [ah _ HX.o,List.all_append,HOK.o]; simpa using HRO.o),aH (by rw [HS]; exact (FA7.o.below BB.o).put HFL.o rfl T2.o),aH (fun x hx=>?_),aH ((P7.o.below' BB.o).far3 (show w.heap.size ≠ B by omega) _ _ _ _ _ _),aH (aL (B7.o.trans (BB.o.mono B7.o.size)) (show w.heap.size <= B by omega) _ _ _ _ _ _)⟩
   rw [ah _ HX.o,ft] at hx
   exact (kD HQB.o HQX.o (by omega) (by simpa using HFL.o) x hx).mono (by omega)
end Go.Proofs.YtjebfdfkjlkifaaGreat
