/- Lemmas. -/
import Derived.Test.YtjebfdfkjlkifaaGreatS51
set_option linter.all false
set_option maxRecDepth 1000000
set_option maxHeartbeats 32000000
namespace Go.Proofs.YtjebfdfkjlkifaaGreat
open Go.RowKit
def fitB (sl:List Int) (t:Nat) (z:Int) (r:bP):Bool:=decide (r.f = z) && (decide (t = sl.length) == decide (r.w = 0)) && (decide (sl.length <= t) || decide (sl[t]? = some r.w))
theorem hit_no {rs:List bP} {sl:List Int} {Ln t:Nat} {z:Int} {r:bP} (ht:t <= sl.length)(h:fitB sl t z r = false):hitB rs sl Ln t z r = false:=by
 unfold hitB
 by_cases h1:r.f = z
 ·rw [dT h1,Bool.true_and]
  refine dF (fun h2=>?_)
  unfold fitB at h
  rw [dT h1,Bool.true_and] at h
  unfold eM at h2
  split at h2
  ·next hw =>
   split at h2
   ·next he =>
    rw [dT he,dT hw,dT (by omega:sl.length <= t)] at h
    cases h
   cases h2
  next hw =>
  split at h2
  ·next he =>
   have hlt:=(sI.1 he).1
   rw [dF (by omega),dF hw,dT he] at h
   simp at h
  cases h2
 rw [dF h1,Bool.false_and]
theorem fit_step {rs:List bP} {sl:List Int} {Ln t:Nat} {z:Int} {r:bP} (ht:t <= sl.length)(h:fitB sl t z r = true) :
  eM sl (nxtT pickJ Ln rs sl t) t r = some (if t < sl.length then r.q * (rowT pickJ Ln rs sl (t + 1)).getD r.t.toNat 0 else r.q):=by
 unfold fitB at h
 rw [Bool.and_eq_true,Bool.and_eq_true,decide_eq_true_eq,beq_iff_eq,Bool.or_eq_true,decide_eq_true_eq,decide_eq_true_eq] at h
 obtain ⟨⟨h1,h2⟩,h3⟩:=h
 unfold eM nxtT
 by_cases hlt:t < sl.length
 ·have hw:r.w ≠ 0:=fun e=>by
   rw [dF (by omega),dT e] at h2
   cases h2
  have h4:sl[t]? = some r.w:=by
   rcases h3 with h | h
   ·omega
   exact h
  rw [if_neg hw,if_pos h4,if_pos hlt,if_pos hlt]
 have he:t = sl.length:=by omega
 have hw:r.w = 0:=by
  rw [dT he] at h2
  exact of_decide_eq_true h2.symm
 rw [if_pos hw,if_pos he,if_neg hlt]
theorem hit_fit {rs:List bP} {sl:List Int} {Ln t:Nat} {z:Int} {r:bP} (ht:t <= sl.length)(h:fitB sl t z r = true) :
  hitB rs sl Ln t z r = decide ((if t < sl.length then r.q * (rowT pickJ Ln rs sl (t + 1)).getD r.t.toNat 0 else r.q) = (rowT pickJ Ln rs sl t).getD z.toNat 0):=by
 have h1:r.f = z:=by
  unfold fitB at h
  rw [Bool.and_eq_true,Bool.and_eq_true,decide_eq_true_eq] at h
  exact h.1.1
 unfold hitB
 rw [dT h1,Bool.true_and,fit_step ht h]
 exact decide_eq_decide.2 (by rw [Option.some.injEq])
theorem fit_qb {Ln:Nat} {rs:List bP} {sl:List Int} (hq:∀ r ∈ rs,QB 64 r.q)(hn:rs.length <= 20)(hs:sl.length <= 9) {t:Nat} {z:Int} {r:bP} (ht:t <= sl.length)(hr:r ∈ rs)(h:fitB sl t z r = true):QB 20000 (if t < sl.length then r.q * (rowT pickJ Ln rs sl (t + 1)).getD r.t.toNat 0 else r.q) :=
 step_qb nice_pickJ hq hn hs ht hr (fit_step ht h)
theorem row_first {join:Rat->Rat->Rat} {Ln:Nat} {rs:List bP} {sl:List Int} (h:1 <= Ln):(rowT join Ln rs sl 0)[0]? = some ((eo join Ln rs sl sl.length).getD 0 0):=by
 have e:rowT join Ln rs sl 0 = eo join Ln rs sl sl.length:=by unfold rowT; rw [Nat.sub_zero]
 rw [e,gD,eG (by rw [iX]; omega)]
 rfl

theorem grammaticalR (w:World) (Ln:Nat) (V:Int) (v sv:Value) (rs:List bP) (sl:List Int)(hL1:1 <= Ln)(hL2:Ln <= 60)(hro:RulesOk Ln rs)(hn20:rs.length <= 20)(hp9:sl.length <= 9)(hw1:∀ x ∈ sl,1 <= x)(h:RulesAt 64 w v rs)(hs:IntsAt w sv sl) :
  Calls Tryz.prog 53 #[.agg #[.int .i64 Ln,.int .i64 V,v],sv] w fun e w'=>∃ u,e = .returned u/\CanAt w' u ((eo (· + ·) Ln rs sl sl.length).getD 0 0)/\Below w.heap.size w w':=by
 have HF:Hd (∀ w',Below w.heap.size w w'->Calls Tryz.prog 125 #[.agg #[.int .i64 Ln,.int .i64 V,v],sv,.int .i64 0] w' (FromP w' Ln rs sl 0)):=aH (fun w' hb=>fromR Ln V v sv rs sl hL1 hL2 hro hn20 hp9 hw1 sl.length w' 0 (by omega) (by omega) (h.below hb) (hs.below hb))
 obtain ⟨A,c,rfl,hlc,hcm,_⟩:=h.open_
 obtain ⟨SA,sc,rfl,hsc,hscm,_⟩:=hs.open_
 have HR1:Hd ((rowT (· + ·) Ln rs sl 0)[0]? = some ((eo (· + ·) Ln rs sl sl.length).getD 0 0)):=aH (row_first hL1)
 obtain ⟨q,hq⟩:=nm ((eo (· + ·) Ln rs sl sl.length).getD 0 0)
 rw [hq] at HR1 ⊢
 obtain ⟨n,hn⟩:=nm (rs.length)
 obtain ⟨p,hp⟩:=nm (sl.length)
 rw [hn,hp] at HF
 rw [hn] at hlc ⊢
 rw [hp] at hsc ⊢
 clear h hs hq hro hw1 hn20 hp9 hn hp
 go_enter Tryz.func53,Tryz.ntmps53
 go_upto_region 1 with fail
 obtain ⟨W,hW,P0,P1,PB,Phs⟩:=cP w 73 [.int .i64 (Ln:Int),.int .i64 V,.slice A n c] 40 [.bool false,.slice none 0 0,.slice none 0 0]
 rw [<- hW]
 clear hW
 obtain ⟨p0,p1,p2,_,_,_⟩:=P0.o.three
 go_wp2_with fail
 refine (HF.o W PB.o).mono ?_
 rintro e w1 ⟨b1,b2,rfl,_,_,_,hf1,_,hb⟩
 obtain ⟨Ar,mr,cr,Ar',mr',cr',x0,x1,x2,_,_,_,tr⟩:=hf1.get HR1.o
 simp only [Nat.zero_mul,Nat.zero_add] at x0 x1 x2
 have Q1:=aH (P1.o.below' hb)
 have B1:=aH (PB.o.trans (hb.mono PB.o.size))
 have RN:=aH (FArc.keeps (BoxC.of (q:=0) Q1.o (uX w1)) tr 0 1 2 (ae q) Ar Ar' mr cr mr' cr')
 obtain ⟨r0,r1,r2,z0,z1,z2⟩:=Q1.o.three
 have lL:(0:Int) < (Ln:Int):=by omega
 clear hf1 hb tr p0 p1 p2 P0 P1 PB
 go_wp2_with fail
 exact bodyPost_ret (v:=.agg #[.bool (ae q),.slice Ar mr cr,.slice Ar' mr' cr']) (by simp [results,Tryz.results53,go_sem,r0,r1,r2]) rfl ⟨_,rfl,RN.o,af B1.o (Nat.le_succ _) _ _ _⟩
def BestP (w:World) (E:Bool) (AS:List Int) (q:Rat) (e:Ending) (w':World):Prop:=∃ pv u,e = .returned (.tuple #[pv,u,.bool E])/\IntsAt w' pv AS/\CanAt w' u q/\Below w.heap.size w w'

theorem bestR (w:World) (Ln:Nat) (V:Int) (v sv:Value) (rs:List bP) (sl:List Int)(hL1:1 <= Ln)(hL2:Ln <= 60)(hro:RulesOk Ln rs)(hn20:rs.length <= 20)(hp9:sl.length <= 9)(hw1:∀ x ∈ sl,1 <= x)(h:RulesAt 64 w v rs)(hs:IntsAt w sv sl) :
  Calls Tryz.prog 54 #[.agg #[.int .i64 Ln,.int .i64 V,v],sv] w (BestP w (decide (bestQ rs sl Ln ≠ 0)) (if bestQ rs sl Ln ≠ 0 then bestP rs sl Ln else []) (bestQ rs sl Ln)):=by
 have HF:Hd (∀ w' (t:Nat),Below w.heap.size w w'->t <= sl.length->Calls Tryz.prog 125 #[.agg #[.int .i64 Ln,.int .i64 V,v],sv,.int .i64 t] w' (FromP w' Ln rs sl t)):=aH (fun w' t hb ht=>fromR Ln V v sv rs sl hL1 hL2 hro hn20 hp9 hw1 (sl.length - t) w' t rfl ht (h.below hb) (hs.below hb))
 have hqb:=h.qb (by omega)
 obtain ⟨A,c,rfl,hlc,hcm,hat⟩:=h.open_
 obtain ⟨SA,sc,rfl,hsc,hscm,hst⟩:=hs.open_
 have HAT:=aH hat
 have HST:=aH hst
 have HQ64:=aH hqb
 have HRO:=aH hro
 have HR1:Hd ((rowT pickJ Ln rs sl 0)[0]? = some (bestQ rs sl Ln)):=aH (row_first hL1)
 have HBP:Hd (bestP rs sl Ln = (pathN rs sl Ln (sl.length + 1)).1):=aH rfl
 have QBB:Hd (∀ t,t <= sl.length->∀ x ∈ rowT pickJ Ln rs sl t,QB 20000 x):=aH (fun t ht=>row_qb nice_pickJ hqb hn20 hp9 ht)
 have HHF:Hd (∀ t z r,t <= sl.length->fitB sl t z r = true->hitB rs sl Ln t z r = decide ((if t < sl.length then r.q * (rowT pickJ Ln rs sl (t + 1)).getD r.t.toNat 0 else r.q) = (rowT pickJ Ln rs sl t).getD z.toNat 0)):=aH (fun t z r ht h=>hit_fit ht h)
 have QSB:Hd (∀ t z r,t <= sl.length->r ∈ rs->fitB sl t z r = true->QB 20000 (if t < sl.length then r.q * (rowT pickJ Ln rs sl (t + 1)).getD r.t.toNat 0 else r.q)):=aH (fun t z r ht hr hf=>fit_qb hqb hn20 hp9 ht hr hf)
 have HHN:Hd (∀ t z r,t <= sl.length->fitB sl t z r = false->hitB rs sl Ln t z r = false):=aH (fun t z r ht h=>hit_no ht h)
 obtain ⟨q,hq⟩:=nm (bestQ rs sl Ln)
 rw [hq] at HR1 ⊢
 obtain ⟨n,hn⟩:=nm (rs.length)
 obtain ⟨p,hp⟩:=nm (sl.length)
 have HN:=aH hn
 have HP:=aH hp
 rw [hn,hp] at HF
 rw [hp] at HBP QBB HHF HHN QSB
 rw [hn] at hlc hn20 ⊢
 rw [hp] at hsc hp9 ⊢
 obtain ⟨E,hE⟩:=nm (decide (q ≠ 0))
 obtain ⟨AS,hAS⟩:=nm ((if q ≠ 0 then bestP rs sl Ln else []))
 rw [hE,hAS]
 have HE0:Hd (q = 0->E = false/\AS = []):=aH (fun h0=>by
  rw [<- hE,<- hAS,if_neg (fun h=>h h0)]
  exact ⟨dF (fun h=>h h0),rfl⟩)
 have HE1:Hd (q ≠ 0->E = true/\AS = bestP rs sl Ln):=aH (fun h0=>by
  rw [<- hE,<- hAS,if_pos h0]
  exact ⟨dT h0,rfl⟩)
 clear h hs hat hst hqb hro hw1 hn hp hq hE hAS
 go_enter Tryz.func54,Tryz.ntmps54
 go_upto_region 1 with fail
 obtain ⟨W,hW,P0,P1,PB,Phs⟩:=cP w 73 [.int .i64 (Ln:Int),.int .i64 V,.slice A n c] 40 [.bool false,.slice none 0 0,.slice none 0 0]
 rw [<- hW]
 clear hW
 obtain ⟨p0,p1,p2,_,_,_⟩:=P0.o.three
 have F0:Hd (Calls Tryz.prog 125 #[.agg #[.int .i64 Ln,.int .i64 V,.slice A n c],.slice SA p sc,.int .i64 0] W (FromP W Ln rs sl 0)):=aH (HF.o W 0 PB.o (Nat.zero_le _))
 go_wp2_with fail
 refine F0.o.mono ?_
 rintro e w1 ⟨b1,bm,rfl,_,_,_,_,hf2,hb⟩
 obtain ⟨Ar,mr,cr,Ar',mr',cr',x0,x1,x2,_,_,_,tr⟩:=hf2.get HR1.o
 simp only [Nat.zero_mul,Nat.zero_add] at x0 x1 x2
 have QQ:Hd (QB 20000 q):=aH (QBB.o 0 (Nat.zero_le _) q (mG HR1.o))
 have TR:=aH (tr.frac (k:=20000) QQ.o (by omega))
 have FM1:=aH hf2
 have P01:=aH (P0.o.below' hb)
 have P11:=aH (P1.o.below' hb)
 have B1:=aH (PB.o.trans (hb.mono PB.o.size))
 have lL:(0:Int) < (Ln:Int):=by omega
 obtain ⟨sg,hsg⟩:=nm (aU q)
 have HSG:=aH hsg
 have HSZ:Hd (sg = 0 ↔ q = 0):=aH (by rw [<- hsg]; exact pQ q)
 clear hf2 hb tr p0 p1 p2 P0 P1 PB Phs F0 hsg
 obtain ⟨p0,p1,p2,_,_,_⟩:=P01.o.three
 go_wp2_with fail
 refine (ez w1 _ q 20000 TR.o (by omega)).mono ?_
 rintro e w5 ⟨rfl,hb5⟩
 rw [HSG.o]
 have FM5:=aH (FM1.o.below hb5)
 have P05:=aH (P01.o.below' hb5)
 have P15:=aH (P11.o.below' hb5)
 have B5:=aH (B1.o.trans (hb5.mono B1.o.size))
 clear hb5 x0 x1 x2 FM1 P01 P11 B1 TR p0 p1 p2
 by_cases h0:sg = 0
 ·have n0:(sg == 0) = true:=by simpa using h0
  have hq0:=HSZ.o.1 h0
  obtain ⟨rfl,rfl⟩:=HE0.o hq0
  obtain ⟨r0,r1,r2,z0,z1,z2⟩:=P15.o.three
  clear h0
  go_wp2_with fail
  exact bodyPost_ret (v:=.tuple #[.slice none 0 0,.agg #[.bool false,.slice none 0 0,.slice none 0 0],.bool false]) (by simp [results,Tryz.results54,go_sem,r0,r1,r2,List.mapM_cons]) rfl ⟨_,_,rfl,IntsAt.nil_ _,by rw [hq0]; exact uX _,af B5.o (by omega) _ _ _⟩
 have n0:(sg == 0) = false:=by simpa using h0
 obtain ⟨rfl,HAS⟩:=HE1.o (fun h=>h0 (HSZ.o.2 h))
 have HAS:=aH HAS
 obtain ⟨B0,hB0⟩:=nm (w5.heap.size)
 have sbm:bm < w5.heap.size:=FM5.o.lt
 have swr:w.heap.size + 1 < w5.heap.size:=P15.o.lt
 clear h0
 go_wp2_with fail
 go_loopg [11,9,10,12,13,14,15,16,17] (p + 1) (fun gh s11 s9 s10 _ _ _ _ _ _ wz=>∃ (t m:Nat) (A9:Option Addr) (c9:Nat) (pl:List Int) (z:Int),s11 = .int .i64 t/\s9 = .slice A9 m c9/\s10 = .int .i64 z/\t + gh = p + 1/\m <= t/\Hd (pl.length = m)/\Hd (pathN rs sl Ln t = (pl,z))/\Hd (wz.ownsRow B0 3 1 (.slice A9 m c9) m (pl.map (Value.int .i64)))/\Hd (Below w5.heap.size w5 wz))
 case atStart=>exact ⟨0,0,none,0,[],0,rfl,rfl,rfl,by omega,by omega,aH rfl,aH rfl,aH (World.ownsRow_nil ..),aH (Below.refl _ _)⟩
 obtain ⟨w6,rfl⟩:∃ x,x = wr:=⟨_,rfl⟩
 obtain ⟨t,m,A9,c9,pl,z,rfl,rfl,rfl,ht,hm,HPL,HPN,OW,BW⟩:=hrel
 have P06:=aH (P05.o.below' BW.o)
 have B6:=aH (B5.o.trans (BW.o.mono B5.o.size))
 obtain ⟨p0,p1,p2,_,_,_⟩:=P06.o.three
 rcases zP gk with hh | hh
 ·subst hh
  have ht1:t = p + 1:=by omega
  have d1:decide ((t:Int) <= (p:Int)) = false:=dF (by omega)
  have d1':decide (t <= p) = false:=dF (by omega)
  have FM6:=aH (FM5.o.below BW.o)
  have P16:=aH (P15.o.below' BW.o)
  have HPL2:Hd (AS = pl):=aH (by rw [HAS.o,HBP.o,<- ht1,HPN.o])
  obtain ⟨Ar,mr,cr,Ar',mr',cr',x0,x1,x2,_,_,_,tr⟩:=FM6.o.get HR1.o
  simp only [Nat.zero_mul,Nat.zero_add] at x0 x1 x2
  obtain ⟨r0,r1,r2,z0,z1,z2⟩:=P16.o.three
  have RN:=aH (FArc.keeps (BoxC.of (q:=0) P16.o (uX w6)) tr 0 1 2 (ae q) Ar Ar' mr cr mr' cr')
  have II:Hd (IntsAt w6 (.slice A9 m c9) pl):=aH (by
   unfold IntsAt
   rw [HPL.o]
   exact Sl.of_own OW.o)
  have FO:=aH (From.of_own OW.o)
  have sb:w.heap.size + 1 < B0:=by omega
  clear tr ht1
  go_wp2_with fail
  go_region
  all_goals
   go_wp2_with fail
   refine bodyPost_ret (v:=.tuple #[.slice A9 m c9,.agg #[.bool (ae q),.slice Ar mr cr,.slice Ar' mr' cr'],.bool true]) (by simp [results,Tryz.results54,go_sem,r0,r1,r2,List.mapM_cons]) rfl ⟨_,_,rfl,by rw [HPL2.o]; exact II.o.same FO.o (Same.set3 _ sb 0 1 2 _ _ _),RN.o,by first | exact af B6.o (Nat.le_succ _) _ _ _ | exact (af B6.o (Nat.le_succ _) _ _ _).drew⟩
 obtain ⟨gh,rfl⟩:∃ g,gk = g + 1:=⟨gk - 1,by omega⟩
 have htp:t <= p:=by omega
 have d1:decide ((t:Int) <= (p:Int)) = true:=dT (by omega)
 have d1':decide (t <= p) = true:=dT htp
 have i9:IntKind.i64.wrap ((t:Int) + 1) = (t:Int) + 1:=iI _ (by omega)
 obtain ⟨tb,htb⟩:=nm (decide ((t:Int) < (p:Int)))
 have htb':decide (t < p) = tb:=by rw [<- htb]; exact decide_eq_decide.2 (by omega)
 have HTB:Hd (tb = decide (t < p)):=aH htb'.symm
 obtain ⟨te,hte⟩:=nm (((t:Int) == (p:Int)))
 have HTE:Hd (te = !tb):=aH (by
  rw [<- hte,HTB.o,Bool.eq_iff_iff]
  simp only [beq_iff_eq,Bool.not_eq_true',decide_eq_false_iff_not]
  omega)
 have HZ:Hd (0 <= z/\z < (Ln:Int)):=aH (by
  have:=path_place (L:=Ln) (Ln:=Ln) (by simp) (by omega) HRO.o sl t
  rwa [HPN.o] at this)
 go_wp2_with fail
 refine (HF.o w6 t B6.o htp).mono ?_
 rintro e w7 ⟨b7,bh,rfl,_,_,hn7,_,hf7,hb7⟩
 have FH7:=aH hf7
 have P07:=aH (P06.o.below' hb7)
 have B7:=aH (B6.o.trans (hb7.mono B6.o.size))
 have OW7:=aH (bK OW.o hb7)
 have BW7:=aH (BW.o.trans (hb7.mono BW.o.size))
 clear hf7 hb7 hn7 p0 p1 p2 P06 B6 OW BW
 obtain ⟨p0,p1,p2,_,_,_⟩:=P07.o.three
 go_upto_if 46 with fail
 go_cut [12] (fun s12 wc=>∃ (A12:Option Addr) (m12 a2:Nat),s12 = .slice A12 m12 m12/\Hd (tb = true->A12 = some ⟨a2,0,none⟩/\m12 = Ln/\FArc wc a2 (rowT pickJ Ln rs sl (t + 1)))/\Hd (Below w7.heap.size w7 wc))
 case first =>
  cases tb with
  | false =>
   go_wp2_with fail
   go_meet
   exact ⟨none,0,0,rfl,aH (fun h=>by cases h),aH (Below.refl _ _)⟩
  | true =>
   have hlt:t < p:=of_decide_eq_true htb'
   have F1:Hd (Calls Tryz.prog 125 #[.agg #[.int .i64 Ln,.int .i64 V,.slice A n c],.slice SA p sc,.int .i64 ((t:Int) + 1)] w7 (FromP w7 Ln rs sl (t + 1))):=aH (HF.o w7 (t + 1) B7.o (by omega))
   go_wp2_with fail
   refine F1.o.mono ?_
   rintro e w8 ⟨b8,a2,rfl,_,_,_,_,hf8,hb8⟩
   have FA8:=aH hf8
   have BB:=aH hb8
   clear hf8 hb8 F1
   go_wp2_with fail
   go_meet
   exact ⟨_,Ln,a2,rfl,aH (fun _=>⟨rfl,rfl,FA8.o⟩),BB⟩
 case rest =>
 obtain ⟨A12,m12,a2,rfl,HAB,hcc⟩:=hcut
 obtain ⟨w8,rfl⟩:∃ x,x = wc:=⟨_,rfl⟩
 have FH8:=aH (FH7.o.below hcc.o)
 have P08:=aH (P07.o.below' hcc.o)
 have B8:=aH (B7.o.trans (hcc.o.mono B7.o.size))
 have OW8:=aH (bK OW7.o hcc.o)
 have BW8:=aH (BW7.o.trans (hcc.o.mono BW7.o.size))
 have HLO:Hd (∀ q,(Value.slice A9 m c9).ownBlock = some q->q < w8.heap.size):=aH (fun q e=>own_lt OW8.o e)
 clear hcc FH7 P07 B7 OW7 BW7 p0 p1 p2
 go_wp2_with fail
 go_loopg [15,9,10,16,17] n (fun g s15 s9 s10 _ _ wz=>∃ (i:Nat),s15 = .int .i64 i/\s9 = .slice A9 m c9/\s10 = .int .i64 z/\i + g = n/\Hd (∀ (k:Nat) (x:bP),k < i->rs[k]? = some x->hitB rs sl Ln t z x = false)/\Hd (wz.ownsRow B0 3 1 (.slice A9 m c9) m (pl.map (Value.int .i64)))/\Hd (Below w8.heap.size w8 wz))
 case atStart=>exact ⟨0,rfl,rfl,rfl,by omega,aH (fun k x hk=>by omega),OW8,aH (Below.refl _ _)⟩
 clear OW8
 obtain ⟨w9,rfl⟩:∃ x,x = wr:=⟨_,rfl⟩
 obtain ⟨i,rfl,rfl,rfl,hi,HNO,OW,BX⟩:=hrel
 have P09:=aH (P08.o.below' BX.o)
 have BW:=aH (BW8.o.trans (BX.o.mono BW8.o.size))
 obtain ⟨p0,p1,p2,_,_,_⟩:=P09.o.three
 rcases zP gk with hh2 | hh2
 ·subst hh2
  obtain rfl:i = n:=by omega
  have HNX:Hd (pathN rs sl Ln (t + 1) = (pl,z)):=aH (path_stay HPN.o (fun k x hx=>HNO.o k x (by have:=(sI.1 hx).1; rw [HN.o] at this; exact this) hx))
  go_wp2_with fail
  go_roundg gh
  case measure=>omega
  case rel=>exact ⟨t + 1,m,A9,c9,pl,z,rfl,rfl,rfl,by omega,by omega,HPL,HNX,OW,BW⟩
 obtain ⟨g,rfl⟩:∃ g,gk = g + 1:=⟨gk - 1,by omega⟩
 obtain ⟨r,hr⟩:∃ r,rs[i]? = some r:=⟨_,eG (by rw [HN.o]; omega)⟩
 obtain ⟨ba,oa,s,An,nn,cn,Ad,nd,cd,rfl,hba,e0,e1,e2,e3,e4,e5,hfr⟩:=HAT.o i r hr
 have B9:=aH (B8.o.trans (BX.o.mono B8.o.size))
 have s89:w8.heap.size <= w9.heap.size:=BX.o.size
 have c0:=(B9.o.cell (p:=⟨ba,oa + i * 6,none⟩) hba).trans e0
 have c1:=(B9.o.cell (p:=⟨ba,oa + i * 6 + 1,none⟩) hba).trans e1
 have c2:=(B9.o.cell (p:=⟨ba,oa + i * 6 + 2,none⟩) hba).trans e2
 have c3:=(B9.o.cell (p:=⟨ba,oa + i * 6 + 3,none⟩) hba).trans e3
 have c4:=(B9.o.cell (p:=⟨ba,oa + i * 6 + 4,none⟩) hba).trans e4
 have c5:=(B9.o.cell (p:=⟨ba,oa + i * 6 + 5,none⟩) hba).trans e5
 have HX:=aH hr
 have HMR:=aH (mG hr)
 have HRK:=aH (HRO.o r (mG hr))
 have FR:=aH ((hfr.mono (show 64 <= 20000 by omega)).below B9.o)
 have k0:(0:Int) <= (i:Int):=by omega
 have k1:(i:Int) < (n:Int):=by omega
 have k9:IntKind.i64.wrap ((i:Int) + 1) = (i:Int) + 1:=iI _ (by omega)
 obtain ⟨rf,hrf⟩:=nm (r.f)
 obtain ⟨rw_,hrw⟩:=nm (r.w)
 obtain ⟨T,hT⟩:∃ T:Nat,r.t = T:=⟨r.t.toNat,by have:=HRK.o.2.2.1; omega⟩
 have HTL:T < Ln:=by have:=HRK.o.2.2.2.1; omega
 obtain ⟨rq,hrq⟩:=nm (r.q)
 have HRF:=aH hrf
 have HRW:=aH hrw
 have HRT:=aH hT
 have HRQ:=aH hrq
 rw [hrf] at c0
 rw [hrw] at c1
 rw [hT] at c2
 rw [hrq] at FR
 obtain ⟨nb,hnb⟩:=nm ((!fitB sl t z r))
 have HNB:=aH hnb
 clear hr e0 e1 e2 e3 e4 e5 hfr hrf hrw hT hrq hnb
 go_upto_region 18 with fail
 obtain ⟨Wa,hWa,G0,G1,GB,Ghs⟩:=cP w9 111 [.int .i64 rf,.int .i64 rw_,.int .i64 T,.bool s,.slice An nn cn,.slice Ad nd cd] 40 [.bool s,.slice An nn cn,.slice Ad nd cd]
 rw [<- hWa]
 clear hWa
 obtain ⟨g2,hg2⟩:=nm (w9.heap.size + 1)
 have K2:Hd (BoxK Wa g2 rq):=aH (by rw [<- hg2]; exact BoxK.of G1.o (FR.o.below GB.o))
 have B9a:=GB
 have FRa:=aH (FR.o.below GB.o)
 have hg29:w9.heap.size < g2:=by omega
 have Ba:=aH (B9.o.trans (GB.o.mono B9.o.size))
 rw [hg2]
 clear p0 p1 p2 c0 c1 c2 c3 c4 c5 G1 GB hg2 FR
 obtain ⟨r0,r1,r2,r3,r4,r5⟩:=six_at G0.o
 obtain ⟨a0,ha0⟩:=nm ((rf != z))
 obtain ⟨zb,hzb⟩:=nm ((rw_ == 0))
 have HFB:Hd (nb = (a0 || ((te != zb) || !(decide (p <= t) || decide (sl[t]? = some rw_))))):=aH (by
  rw [<- HNB.o]
  unfold fitB
  have e1:decide (r.f = z) = !a0:=by rw [<- ha0,HRF.o]; by_cases h:rf = z <;> simp [h]
  have e2:(decide (t = sl.length) == decide (r.w = 0)) = !(te != zb):=by
   rw [HP.o,HRW.o,<- hte,<- hzb]
   have:decide (t = p) = ((t:Int) == (p:Int)):=by rw [Bool.eq_iff_iff,decide_eq_true_eq,beq_iff_eq]; omega
   rw [this]
   have:decide (rw_ = 0) = (rw_ == 0):=by rw [Bool.eq_iff_iff,decide_eq_true_eq,beq_iff_eq]
   rw [this]
   cases ((t:Int) == (p:Int)) <;> cases (rw_ == 0) <;> rfl
  rw [e1,e2,HP.o,HRW.o]
  cases a0 <;> cases (te != zb) <;> simp)
 go_cut [97] (fun s97 wc=>s97 = .bool nb/\Hd (Below Wa.heap.size Wa wc))
 case first =>
  cases a0 with
  | true =>
   obtain rfl:nb = true:=by rw [HFB.o]; rfl
   go_quiet (fail)
   go_wp2_with fail
   go_meet
   exact ⟨rfl,aH (ak (Below.refl _ Wa) nq)⟩
  | false =>
   cases tb with
   | false =>
    obtain rfl:te = true:=HTE.o
    have hpt:decide (p <= t) = true:=dT (by have:=of_decide_eq_false htb'; omega)
    cases zb with
    | true =>
     obtain rfl:nb = false:=by rw [HFB.o,hpt]; rfl
     go_quiet (fail)
     go_wp2_with fail
     go_meet
     exact ⟨rfl,aH (ak (Below.refl _ Wa) nq)⟩
    | false =>
     obtain rfl:nb = true:=by rw [HFB.o]; rfl
     go_quiet (fail)
     go_wp2_with fail
     go_meet
     exact ⟨rfl,aH (ak (Below.refl _ Wa) nq)⟩
   | true =>
    obtain rfl:te = false:=HTE.o
    have hlt:t < p:=of_decide_eq_true htb'
    have hpt:decide (p <= t) = false:=dF (by omega)
    obtain ⟨x,hx⟩:∃ x,sl[t]? = some x:=⟨_,eG (by rw [HP.o]; exact hlt)⟩
    obtain ⟨bs,os,rfl,hbs,f0⟩:=HST.o t x hx
    have c7:=(Ba.o.cell (p:=⟨bs,os + t,none⟩) hbs).trans f0
    obtain ⟨xb,hxb⟩:=nm ((rw_ != x))
    have HXB:Hd (decide (sl[t]? = some rw_) = !xb):=aH (by
     rw [hx,<- hxb]
     by_cases h:rw_ = x
     ·simp [h]
     rw [dF (fun e=>h (by injection e with e; exact e.symm))]
     simp [h])
    have t0:(0:Int) <= (t:Int):=by omega
    have t1:(t:Int) < (p:Int):=by omega
    clear hx f0
    cases zb with
    | true =>
     obtain rfl:nb = true:=by rw [HFB.o]; rfl
     go_quiet (fail)
     go_wp2_with fail
     go_meet
     exact ⟨rfl,aH (ak (Below.refl _ Wa) nq)⟩
    | false =>
     obtain rfl:nb = xb:=by rw [HFB.o,hpt,HXB.o]; cases xb <;> rfl
     go_quiet (fail)
     go_wp2_with fail
     go_meet
     exact ⟨rfl,aH (ak (Below.refl _ Wa) nq)⟩
 case rest =>
 obtain ⟨rfl,hcc⟩:=hcut
 obtain ⟨wb,rfl⟩:∃ x,x = wc:=⟨_,rfl⟩
 have Kb:=aH (K2.o.below hcc.o)
 have Gb:=aH (G0.o.below' hcc.o)
 have B9b:=aH (B9a.o.trans (hcc.o.mono B9a.o.size))
 have FRb:=aH (FRa.o.below hcc.o)
 clear hcc K2 G0 B9a FRa Ba r0 r1 r2 r3 r4 r5 ha0 hzb HFB Ghs
 have OWb:=aH (bK OW.o B9b.o)
 have BXb:=aH (BX.o.trans (B9b.o.mono BX.o.size))
 cases nb with
 | true =>
  have HMISS:Hd (hitB rs sl Ln t z r = false):=aH (HHN.o t z r htp (by have:=HNB.o; simpa using this))
  go_wp2_with fail
  go_roundg g
  case measure=>omega
  case rel=>exact ⟨i + 1,rfl,rfl,rfl,by omega,aH (fun k x hk hx=>by
   rcases Nat.lt_or_ge k i with h | h
   ·exact HNO.o k x h hx
   obtain rfl:k = i:=by omega
   rw [HX.o] at hx
   cases hx
   exact HMISS.o),OWb,BXb⟩
 | false =>
  obtain ⟨qx,hqx⟩:=nm ((if t < p then r.q * (rowT pickJ Ln rs sl (t + 1)).getD r.t.toNat 0 else r.q))
  have HHIT:Hd (hitB rs sl Ln t z r = decide (qx = (rowT pickJ Ln rs sl t).getD z.toNat 0)):=aH (by
   have:=HHF.o t z r htp (by have:=HNB.o; simpa using this)
   rwa [hqx] at this)
  have HQX:=aH hqx
  have QXB:Hd (QB 20000 qx):=aH (by rw [<- hqx]; exact QSB.o t z r htp HMR.o (by have:=HNB.o; simpa using this))
  clear hqx
  go_upto_if 101 with fail
  go_cut [17] (fun s17 wc=>s17 = .pointer (some ⟨g2,0,none⟩)/\Hd (BoxK wc g2 qx)/\Hd (Blk wc w9.heap.size 111 [.int .i64 rf,.int .i64 rw_,.int .i64 T,.bool s,.slice An nn cn,.slice Ad nd cd])/\Hd (Below w9.heap.size w9 wc))
  case first =>
   cases tb with
   | false =>
    have e:rq = qx:=by rw [<- HQX.o,if_neg (of_decide_eq_false htb'),HRQ.o]
    go_wp2_with fail
    go_meet
    exact ⟨rfl,aH (by rw [<- e]; exact Kb.o),Gb,B9b⟩
   | true =>
    have hlt:t < p:=of_decide_eq_true htb'
    obtain ⟨rfl,rfl,fa⟩:=HAB.o rfl
    obtain ⟨y1,hy1⟩:∃ y,(rowT pickJ m12 rs sl (t + 1))[T]? = some y:=⟨_,eG (by rw [rowT_length]; exact HTL)⟩
    have HV1:Hd (rq * y1 = qx):=aH (by rw [<- HQX.o,if_pos hlt,HRQ.o,HRT.o,Int.toNat_natCast,gD,hy1]; rfl)
    have QY1:Hd (QB 20000 y1):=aH (QBB.o (t + 1) (by omega) y1 (mG hy1))
    have FAb:=aH (fa.below BXb.o)
    obtain ⟨D1,m1,d1_,D1',m1',d1_',x0,x1,x2,_,_,_,ty1⟩:=FAb.o.get hy1
    have TY1:=aH (ty1.frac QY1.o (by omega))
    have l1:a2 < wb.heap.size:=FAb.o.lt
    have la2:a2 < g2:=by have:=fa.lt; have:=BX.o.size; omega
    have lG:=Gb.o.lt
    have T0:(0:Int) <= (T:Int):=by omega
    have T1:(T:Int) < (m12:Int):=by omega
    obtain ⟨r0,r1,r2,r3,r4,r5⟩:=six_at Gb.o
    have HSET:Hd (∀ w',Below wb.heap.size wb w'->(fun w'=>w'.cell? ⟨w9.heap.size,2,none⟩ = some (.int .i64 T)/\w'.cell? ⟨a2,T * 3,none⟩ = some (.bool (ae y1))/\w'.cell? ⟨a2,T * 3 + 1,none⟩ = some (.slice D1 m1 d1_)/\w'.cell? ⟨a2,T * 3 + 2,none⟩ = some (.slice D1' m1' d1_')) w'):=aH (fun w' hb=>⟨(hb.cell (p:=⟨w9.heap.size,2,none⟩) lG).trans r2,(hb.cell (p:=⟨a2,T * 3,none⟩) l1).trans x0,(hb.cell (p:=⟨a2,T * 3 + 1,none⟩) l1).trans x1,(hb.cell (p:=⟨a2,T * 3 + 2,none⟩) l1).trans x2⟩)
    clear r0 r1 r2 r3 r4 r5 x0 x1 x2 hy1 ty1 fa
    go_upto_region 20 with fail
    refine wp_region_held_drew (S:=(fun w'=>w'.cell? ⟨w9.heap.size,2,none⟩ = some (.int .i64 T)/\w'.cell? ⟨a2,T * 3,none⟩ = some (.bool (ae y1))/\w'.cell? ⟨a2,T * 3 + 1,none⟩ = some (.slice D1 m1 d1_)/\w'.cell? ⟨a2,T * 3 + 2,none⟩ = some (.slice D1' m1' d1_'))) (by kernel_rfl) (HSET.o _ (bS wb)) (fun hHeld=>?_)
    refine tjj 1 ?_ rfl (by kernel_rfl) rfl ‹_› ?_ (fun _ _ _ h=>h) (tjj 2 ?_ rfl (by kernel_rfl) rfl ‹_› ?_ (fun _ _ _ h=>h) (tjj 3 ?_ rfl (by kernel_rfl) rfl ‹_› ?_ (fun _ _ _ h=>h) (tjj 4 ?_ rfl (by kernel_rfl) rfl ‹_› ?_ (fun _ _ _ h=>h) (tjj 5 ?_ rfl (by kernel_rfl) rfl ‹_› ?_ (fun _ _ _ h=>h) ?_))))
    iterate 5 (rotate_left; · (intro w' hSw; (try dsimp only at hSw); (try go_frame); go_simp <;> with_reducible rfl))
    go_frame
    obtain ⟨s1,Aq,mq,cq,Aq',mq',cq',k0',k1',k2',_,_,_,tq1⟩:=Kb.o.get
    have TQ1:=aH tq1
    clear tq1
    refine wpAnyH_ready (rs:=[0]) (by kernel_rfl) (by simp) ?_
    refine AllReadyH.cons rfl (fun K hK=>?_) AllReadyH.nil
    go_simp
    refine hK.out _ _ hHeld (fun _=>?_)
    clear hK K k0' k1' k2'
    try go_frame
    refine wpAnyH_ready (rs:=[6]) (by kernel_rfl) (by simp) ?_
    refine AllReadyH.cons rfl (fun K hK=>?_) AllReadyH.nil
    go_simp
    clear hHeld
    refine (mV _ _ _ rq y1 20000 (TQ1.o.below (bS _)) (TY1.o.below (bS _)) (by omega) (by omega)).mono ?_
    rintro e wl ⟨u,rfl,t1,hb'⟩
    have BB:=aH (bO hb')
    obtain ⟨As,ms,cs2,As',ms',cs',rfl⟩:=t1.at_.open_
    have U1:=aH t1.at_
    clear t1 hb'
    have hS:=HSET.o wl BB.o
    try go_simp
    refine hK.out _ _ hS (fun hHeld=>?_)
    clear hK K hS
    try go_frame
    have Kl:=aH (Kb.o.below BB.o)
    have Gl:=aH (Gb.o.below' BB.o)
    have B9l:=aH (B9b.o.trans (BB.o.mono B9b.o.size))
    have UU1:=aH (U1.o.frac (by rw [HV1.o]; exact QXB.o) (show 20000 <= 17592186044416 by omega))
    obtain ⟨_,_,_,_,_,_,_,_,_,_,u0,u1,u2,_⟩:=Kl.o.get
    refine wpAnyH_ready (rs:=[7]) (by kernel_rfl) (by simp) ?_
    refine AllReadyH.cons rfl (fun K hK=>?_) AllReadyH.nil
    go_simp
    refine hK.out _ _ ⟨aj hHeld.1 (show w9.heap.size ≠ g2 by omega) _ _ _ _ _ _,aj hHeld.2.1 (show a2 ≠ g2 by omega) _ _ _ _ _ _,aj hHeld.2.2.1 (show a2 ≠ g2 by omega) _ _ _ _ _ _,aj hHeld.2.2.2 (show a2 ≠ g2 by omega) _ _ _ _ _ _⟩ (fun _=>?_)
    clear hK K hHeld
    try go_frame
    refine wpAnyH_done (by kernel_rfl) ?_ _
    go_wp2_with fail
    go_meet
    have HB:=Kl.o.put UU1.o
    exact ⟨rfl,aH (by rw [<- HV1.o]; exact HB),aH (Gl.o.far3 (show w9.heap.size ≠ g2 by omega) 0 1 2 _ _ _),aH (aL B9l.o (show w9.heap.size <= g2 by omega) _ _ _ _ _ _)⟩
  case rest =>
  obtain ⟨rfl,Kd,Gd,B9d⟩:=hcut
  obtain ⟨wd,rfl⟩:∃ x,x = wc:=⟨_,rfl⟩
  have OWd:=aH (bK OW.o B9d.o)
  have BXd:=aH (BX.o.trans (B9d.o.mono BX.o.size))
  have BWd:=aH (BW.o.trans (B9d.o.mono BW.o.size))
  have FHd:=aH (FH8.o.below BXd.o)
  clear Kb Gb B9b FRb OWb BXb OW BX BW
  obtain ⟨zN,rfl⟩:∃ zN:Nat,z = zN:=⟨z.toNat,by have:=HZ.o; omega⟩
  obtain ⟨y,hy⟩:∃ y,(rowT pickJ Ln rs sl t)[zN]? = some y:=⟨_,eG (by rw [rowT_length]; have:=HZ.o; omega)⟩
  obtain ⟨Dy,my,dy,Dy',my',dy',y0,y1,y2,_,_,_,tyy⟩:=FHd.o.get hy
  have TYY:=aH (tyy.frac (k:=20000) (QBB.o t htp y (mG hy)) (by omega))
  obtain ⟨s2,Av,mv,cv,Av',mv',cv',k0',k1',k2',_,_,_,tq2⟩:=Kd.o.get
  have TQ2:=aH tq2
  obtain ⟨sg2,hsg2⟩:=nm (aU (qx - y))
  have HSG2:=aH hsg2
  obtain ⟨tk,htk⟩:=nm ((sg2 == 0))
  have HTK:Hd (hitB rs sl Ln t (zN:Int) r = tk):=aH (by
   rw [HHIT.o,Int.toNat_natCast,gD,hy,Option.getD_some,<- htk,<- hsg2,Bool.eq_iff_iff,decide_eq_true_eq,beq_iff_eq,pQ]
   constructor
   ·intro h; rw [h,Rat.sub_self]
   intro h; grind)
  have z0:(0:Int) <= (zN:Int):=by omega
  have z1:(zN:Int) < (Ln:Int):=by have:=HZ.o; omega
  have lK:g2 < wd.heap.size:=Kd.o.lt
  have lH:bh < wd.heap.size:=FHd.o.lt
  have BB:=aH (Below.refl wd.heap.size wd)
  have HSET:Hd (∀ w',Below wd.heap.size wd w'->(fun w'=>w'.cell? ⟨g2,0,none⟩ = some (.bool s2)/\w'.cell? ⟨g2,1,none⟩ = some (.slice Av mv cv)/\w'.cell? ⟨g2,2,none⟩ = some (.slice Av' mv' cv')/\w'.cell? ⟨bh,zN * 3,none⟩ = some (.bool (ae y))/\w'.cell? ⟨bh,zN * 3 + 1,none⟩ = some (.slice Dy my dy)/\w'.cell? ⟨bh,zN * 3 + 2,none⟩ = some (.slice Dy' my' dy')) w'):=aH (fun w' hb=>⟨(hb.cell (p:=⟨g2,0,none⟩) lK).trans k0',(hb.cell (p:=⟨g2,1,none⟩) lK).trans k1',(hb.cell (p:=⟨g2,2,none⟩) lK).trans k2',(hb.cell (p:=⟨bh,zN * 3,none⟩) lH).trans y0,(hb.cell (p:=⟨bh,zN * 3 + 1,none⟩) lH).trans y1,(hb.cell (p:=⟨bh,zN * 3 + 2,none⟩) lH).trans y2⟩)
  have hS:=HSET.o wd BB.o
  clear hy tyy tq2 hsg2 k0' k1' k2' y0 y1 y2
  go_upto_region 21 with fail
  go_cut [115] (fun s115 wc=>s115 = .bool tk/\Hd (Below wd.heap.size wd wc))
  case first =>
   go_region_held3 (fun w'=>w'.cell? ⟨g2,0,none⟩ = some (.bool s2)/\w'.cell? ⟨g2,1,none⟩ = some (.slice Av mv cv)/\w'.cell? ⟨g2,2,none⟩ = some (.slice Av' mv' cv')/\w'.cell? ⟨bh,zN * 3,none⟩ = some (.bool (ae y))/\w'.cell? ⟨bh,zN * 3 + 1,none⟩ = some (.slice Dy my dy)/\w'.cell? ⟨bh,zN * 3 + 2,none⟩ = some (.slice Dy' my' dy'))
    (first | assumption | exact hS | go_keep)
    (first
     | (go_at_call 30; refine (vW _ _ _ qx y 20000 (TQ2.o.below (bS _)) (TYY.o.below (bS _)) (by omega) (by omega)).mono ?_; rintro e wl ⟨rfl,hb⟩; rw [HSG2.o]; replace BB:=aH (bO hb); have hS:=HSET.o _ BB.o; clear hb))
   all_goals
    go_wp2_with fail
    go_meet
    exact ⟨by simp only [htk],BB⟩
  case rest =>
  obtain ⟨rfl,hcc⟩:=hcut
  obtain ⟨w11,rfl⟩:∃ x,x = wc:=⟨_,rfl⟩
  have OW11:=aH (bK OWd.o hcc.o)
  have BX11:=aH (BXd.o.trans (hcc.o.mono BXd.o.size))
  have BW11:=aH (BWd.o.trans (hcc.o.mono BWd.o.size))
  have G11:=aH (Gd.o.below' hcc.o)
  clear hcc OWd BXd BWd Gd Kd FHd TQ2 TYY BB HSET hS htk
  cases tk with
  | false =>
   go_wp2_with fail
   go_roundg g
   case measure=>omega
   case rel=>exact ⟨i + 1,rfl,rfl,rfl,by omega,aH (fun k x hk hx=>by
    rcases Nat.lt_or_ge k i with h | h
    ·exact HNO.o k x h hx
    obtain rfl:k = i:=by omega
    rw [HX.o] at hx
    cases hx
    exact HTK.o),OW11,BX11⟩
  | true =>
   have HNX:Hd (pathN rs sl Ln (t + 1) = (pl ++ [(i:Int)],(T:Int))):=aH (by
    rw [<- HRT.o]
    exact path_hit HPN.o HNO.o HX.o HTK.o)
   obtain ⟨xs,hxs⟩:=nm (pl.map (Value.int .i64))
   have HTL2:Hd ((pl ++ [(i:Int)]).map (Value.int .i64) = xs ++ [.int .i64 i]):=aH (by rw [List.map_append,hxs]; rfl)
   have HL8:Hd (∀ q,(Value.slice A9 m c9).ownBlock = some q->q < w8.heap.size):=HLO
   rw [hxs] at OW11
   have HPL2:Hd ((pl ++ [(i:Int)]).length = m + 1):=aH (by rw [List.length_append,HPL.o]; rfl)
   obtain ⟨i0,gi,gz0,gz1,gz2⟩:=info_parts eD
   have s11:w5.heap.size <= w11.heap.size:=BW11.o.size
   clear hxs
   go_wp2_with (at_builtin; refine al rfl (.tmp 116) (.tmp 118) 44 rfl B0 3 i0 (.int .i64 0) 1 8 Tryz.underlying44 gi gz0 gz1 gz2 rfl (by decide) _ _ _ rfl (bK OW11.o (Below.alloc (Below.refl _ _) (nR _) _)) _ 1 [.int .i64 i] rfl (Sl.one _ _ _) (by simp [Value.oneCell']) (by unfold maxLen; omega) (by omega) (by simp; omega) ?_)
   intro v3 w12 t1 t2 t3
   obtain ⟨gb,cap,rfl⟩:=g9 t1 (by omega)
   have hnk:∀ q,(Value.slice A9 m c9).ownBlock = some q->B0 <= q:=ao (From.of_own OW11.o)
   have OW12:Hd (w12.ownsRow B0 3 1 (.slice (some ⟨gb,0,none⟩) (m + 1) cap) (m + 1) ((pl ++ [(i:Int)]).map (Value.int .i64))):=aH (by rw [HTL2.o]; exact t1)
   have G12:=aH ((G11.o.alloc (.cells #[.int .i64 i] 3)).grown t2 (fun e=>by have:=HL8.o _ e.symm; omega))
   have BW12:=aH ((BW11.o.alloc s11 (.cells #[.int .i64 i] 3)).grown t2 (by simp; omega) (fun q e=>by have:=hnk _ e; omega))
   clear t1 t2 t3 hnk OW11 G11 BW11
   obtain ⟨g0,g1,g2',g3,g4,g5⟩:=six_at G12.o
   go_wp2_with fail
   go_roundg gh
   case measure=>omega
   case rel=>exact ⟨t + 1,m + 1,some ⟨gb,0,none⟩,cap,pl ++ [(i:Int)],T,rfl,rfl,rfl,by omega,by omega,HPL2,HNX,OW12,BW12⟩
end Go.Proofs.YtjebfdfkjlkifaaGreat
