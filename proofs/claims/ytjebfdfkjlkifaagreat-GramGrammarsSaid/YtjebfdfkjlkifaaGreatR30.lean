/- Lemmas. -/
import Derived.Test.YtjebfdfkjlkifaaGreatR29
set_option linter.all false
set_option maxRecDepth 1000000
set_option maxHeartbeats 32000000
namespace Go.Proofs.YtjebfdfkjlkifaaGreat
open Go.RowKit
def dL (O V:Int) (gs:List Gr) (i:Nat):Bool :=
 decide (((gs.getD i ([],0)).1.length:Int) = O) && inR 0 V (gs.getD i ([],0)).1 && decide (1 <= (gs.getD i ([],0)).2) && decide ((gs.getD i ([],0)).2 <= 1073741824) &&
  (decide (i = 0) || decide (aN (gs.getD (i - 1) ([],0)).1 (gs.getD i ([],0)).1 < 0))
def aP (O V:Int) (gs:List Gr):Int:=if 20000 < gs.length then 5 else if bu O V = true/\(List.range gs.length).all (dL O V gs) = true then 0 else 2
theorem iT {O V:Int} {gs:List Gr} (h:20000 < gs.length):aP O V gs = 5:=if_pos h
theorem iS {O V:Int} {gs:List Gr} (h:¬ 20000 < gs.length)(hs:bu O V = false):aP O V gs = 2:=by
 unfold aP
 rw [if_neg h,if_neg]
 intro hc
 rw [hs] at hc
 cases hc.1
theorem ji {O V:Int} {gs:List Gr} {i:Nat} (h:¬ 20000 < gs.length)(hi:i < gs.length)(hb:dL O V gs i = false):aP O V gs = 2:=by
 unfold aP
 rw [if_neg h,if_neg]
 intro hc
 have:=List.all_eq_true.1 hc.2 i (List.mem_range.2 hi)
 rw [hb] at this
 cases this
theorem iU {O V:Int} {gs:List Gr} (h:¬ 20000 < gs.length)(hs:bu O V = true)(hb:∀ i,i < gs.length->dL O V gs i = true):aP O V gs = 0:=by
 unfold aP
 rw [if_neg h,if_pos ⟨hs,List.all_eq_true.2 fun i hi=>hb i (List.mem_range.1 hi)⟩]
theorem fC {gs:List Gr} {i:Nat} {g:Gr} (h:gs[i]? = some g):gs.getD i ([],0) = g:=by rw [gD,h]; rfl
theorem im {O V:Int} {gs:List Gr} {i:Nat} {g:Gr} (hg:gs[i]? = some g)(h:¬ (g.1.length:Int) = O ∨ inR 0 V g.1 = false ∨ g.2 < 1 ∨ 1073741824 < g.2 ∨ (0 < i/\¬ aN (gs.getD (i - 1) ([],0)).1 g.1 < 0)):dL O V gs i = false:=by
 unfold dL
 rw [fC hg]
 rcases h with h | h | h | h | ⟨h,h'⟩
 ·rw [dF h]; rfl
 ·rw [h,Bool.and_false]; rfl
 ·rw [dF (show ¬ 1 <= g.2 by omega),Bool.and_false]; rfl
 ·rw [dF (show ¬ g.2 <= 1073741824 by omega),Bool.and_false]; rfl
 rw [dF (show ¬ i = 0 by omega),dF h',Bool.or_self,Bool.and_false]
theorem e8 {O V:Int} {gs:List Gr} {i:Nat} {g:Gr} (hg:gs[i]? = some g)(h1:(g.1.length:Int) = O)(h2:inR 0 V g.1 = true)(h3:¬ g.2 < 1)(h4:¬ 1073741824 < g.2)(h5:0 < i->aN (gs.getD (i - 1) ([],0)).1 g.1 < 0):dL O V gs i = true:=by
 unfold dL
 rw [fC hg,dT h1,h2,dT (show 1 <= g.2 by omega),dT (show g.2 <= 1073741824 by omega)]
 rcases zP i with h | h
 ·rw [dT h]; rfl
 rw [dT (h5 h),Bool.or_true]; rfl
theorem jK {O V:Int} {gs:List Gr} {i:Nat} {g:Gr} (hg:gs[i]? = some g)(h:dL O V gs i = true):(g.1.length:Int) = O:=by
 unfold dL at h
 rw [fC hg] at h
 simp only [Bool.and_eq_true,decide_eq_true_eq] at h
 exact h.1.1.1.1

theorem nF (w:World) (O V:Int) (lv:Value) (gs:List Gr)(h:GramsAt w lv gs) :
  Calls Tryz.prog 24 #[.agg #[.int .i64 O,.int .i64 V,lv]] w fun e w'=>e = .returned (.int .i64 (aP O V gs))/\Below w.heap.size w w':=by
 obtain ⟨A,c,rfl,hlc,hcm,hat⟩:=h.open_
 have HAT:=aH hat
 clear h hat
 obtain ⟨n,hn⟩:=nm (gs.length)
 rw [hn] at hlc ⊢
 have HN:=aH hn
 clear hn
 by_cases hlong:20000 < n
 ·have hd:decide (20000 < n) = true:=dT hlong
  have hd2:decide ((20000:Int) < (n:Int)) = true:=dT (by omega)
  have HE:Hd (aP O V gs = 5):=aH (iT (by rw [HN.o]; exact hlong))
  clear hlong
  go_enter Tryz.func24,Tryz.ntmps24
  go_wp2_with fail
  go_ret
  exact ⟨ag HE.o.symm,(Below.refl _ _).alloc (nR _) _⟩
 have hd:decide (20000 < n) = false:=dF hlong
 have hd2:decide ((20000:Int) < (n:Int)) = false:=dF (by omega)
 have HL:Hd (¬ 20000 < gs.length):=aH (by rw [HN.o]; exact hlong)
 clear hlong
 go_enter Tryz.func24,Tryz.ntmps24
 go_wp2_with fail
 obtain ⟨W,hW,P0,PB,Phs⟩:=aA w 27 [.int .i64 O,.int .i64 V,.slice A n c]
 rw [<- hW]
 clear hW
 obtain ⟨p0,p1,p2,_,_,_⟩:=P0.o.three
 go_wp2_with fail
 refine (rF W O V).mono ?_
 rintro e w1 ⟨rfl,hb1⟩
 have P1:=aH (P0.o.below' hb1)
 have B1:=aH (PB.o.trans (hb1.mono (by omega)))
 clear p0 p1 p2 hb1 P0 PB
 obtain ⟨p0,p1,p2,_,_,_⟩:=P1.o.three
 obtain ⟨sb,hsb⟩:=nm (bu O V)
 rw [hsb]
 have HSB:=aH hsb
 clear hsb
 cases sb
 ·have HE:Hd (aP O V gs = 2):=aH (iS HL.o HSB.o)
  go_wp2_with fail
  go_ret
  exact ⟨ag HE.o.symm,B1.o⟩
 clear hd hd2
 go_wp2_with fail
 have s1:w.heap.size < w1.heap.size:=P1.o.lt
 go_loopg [3,4,18] n (fun gh _ _ i wz=>∃ (j:Nat),i = .int .i64 j/\j + gh = n/\Hd (∀ k,k < j->dL O V gs k = true)/\Hd (Blk wz w.heap.size 27 [.int .i64 O,.int .i64 V,.slice A n c])/\Hd (Below w.heap.size w wz))
 case atStart=>exact ⟨0,rfl,by omega,aH (fun k hk=>by omega),P1,B1⟩
 clear p0 p1 p2 P1 B1
 obtain ⟨j,rfl,hj,HG,P1,B1⟩:=hrel
 obtain ⟨p0,p1,p2,_,_,_⟩:=P1.o.three
 have s2:w.heap.size < wr.heap.size:=P1.o.lt
 have s3:w.heap.size <= wr.heap.size:=by omega
 rcases zP gk with hh | hh
 ·subst hh
  obtain rfl:j = n:=by omega
  have HE:Hd (aP O V gs = 0):=aH (iU HL.o HSB.o (fun i hi=>HG.o i (by rw [HN.o] at hi; exact hi)))
  go_wp2_with fail
  go_ret
  exact ⟨ag HE.o.symm,B1.o⟩
 obtain ⟨gh,rfl⟩:∃ g,gk = g + 1:=⟨gk - 1,by omega⟩
 obtain ⟨x,hx⟩:∃ x,gs[j]? = some x:=⟨_,eG (by rw [HN.o]; omega)⟩
 obtain ⟨ba,oa,a0,rfl,hba,ea0,ea1,fa⟩:=HAT.o j x hx
 have d0:=(B1.o.cell (p:=⟨ba,oa + j * 2,none⟩) hba).trans ea0
 have d1:=(B1.o.cell (p:=⟨ba,oa + j * 2 + 1,none⟩) hba).trans ea1
 have FA:=aH (fa.below B1.o)
 have HX:=aH hx
 have hz3:ba < wr.heap.size:=by omega
 clear hx ea0 ea1
 obtain ⟨A1,k1,hA1⟩:=fa.len
 subst hA1
 clear fa
 have HBAD:Hd ((¬ (x.1.length:Int) = O ∨ inR 0 V x.1 = false ∨ x.2 < 1 ∨ 1073741824 < x.2 ∨ (0 < j/\¬ aN (gs.getD (j - 1) ([],0)).1 x.1 < 0))->aP O V gs = 2):=aH (fun hc=>ji HL.o (by rw [HN.o]; omega) (im HX.o hc))
 obtain ⟨x1,x2⟩:=x
 simp only at d0 d1 FA HBAD
 obtain ⟨m,hm⟩:=nm (x1.length)
 rw [hm] at d0
 have HM:=aH hm
 rw [hm] at HBAD
 clear hm
 by_cases hml:(m:Int) = O
 ·have e1:((m:Int) != O) = false:=by simpa using hml
  have HML:=aH hml
  clear hml
  go_wp2_with fail
  obtain ⟨W2,hW2,G0,GB,Ghs⟩:=aA wr 51 [.slice A1 m k1,.int .i64 x2]
  rw [<- hW2]
  clear hW2
  refine (gU W2 _ x1 0 V (by rw [HM.o] at FA; exact FA.o.below GB.o)).mono ?_
  rintro e w3 ⟨rfl,hb3⟩
  have G3:=aH (G0.o.below' hb3)
  have P3:=aH ((P1.o.below' GB.o).below' hb3)
  have BE:=aH (B1.o.trans ((GB.o.trans (hb3.mono GB.o.size)).mono B1.o.size))
  have BR3:=aH (GB.o.trans (hb3.mono GB.o.size))
  clear d0 d1 p0 p1 p2 hb3 G0 GB P1 B1
  obtain ⟨p0,p1,p2,_,_,_⟩:=P3.o.three
  have g0:=G3.o.cell 0
  have g1:=G3.o.cell 1
  simp only [List.getElem?_cons_zero,List.getElem?_cons_succ] at g0 g1
  obtain ⟨ib,hib⟩:=nm (inR 0 V x1)
  rw [hib]
  have HIB:=aH hib
  clear hib
  cases ib
  ·have HE:=aH (HBAD.o (.inr (.inl HIB.o)))
   go_wp2_with fail
   go_ret
   exact ⟨ag HE.o.symm,BE.o⟩
  by_cases hx1:x2 < 1
  ·have HE:=aH (HBAD.o (.inr (.inr (.inl hx1))))
   have e2:decide (x2 < 1) = true:=dT hx1
   clear hx1
   go_wp2_with fail
   go_ret
   exact ⟨ag HE.o.symm,BE.o⟩
  have e2:decide (x2 < 1) = false:=dF hx1
  by_cases hx2:1073741824 < x2
  ·have HE:=aH (HBAD.o (.inr (.inr (.inr (.inl hx2)))))
   have e3:decide (1073741824 < x2) = true:=dT hx2
   clear hx1 hx2
   go_wp2_with fail
   go_ret
   exact ⟨ag HE.o.symm,BE.o⟩
  have e3:decide (1073741824 < x2) = false:=dF hx2
  have HX12:=aH (aI hx1 hx2)
  clear hx1 hx2
  go_wp2_with fail
  clear e2 e3
  rcases zP j with hj0 | hj0
  ·subst hj0
   have HGT:=aH (e8 (O:=O) (V:=V) HX.o (by rw [HM.o]; exact HML.o) HIB.o (by have:=HX12.o; simp only; omega) (by have:=HX12.o; simp only; omega) (fun h=>by omega))
   go_quiet (fail)
   go_wp2_with fail
   go_roundg gh
   case measure=>omega
   case rel=>exact ⟨1,rfl,by omega,aH (fun k hk=>by rw [show k = 0 by omega]; exact HGT.o),aH (P3.o.drewN _),aH (ak BE.o _)⟩
  obtain ⟨i,rfl⟩:∃ i,j = i + 1:=⟨j - 1,by omega⟩
  obtain ⟨y,hy⟩:∃ y,gs[i]? = some y:=⟨_,eG (by rw [HN.o]; omega)⟩
  obtain ⟨bb,ob,b0,eb,hbb,eb0,eb1,fb⟩:=HAT.o i y hy
  cases eb
  have d0:=(BE.o.cell (p:=⟨ba,oa + i * 2,none⟩) hbb).trans eb0
  have HYL:=aH (jK hy (HG.o i (by omega)))
  obtain ⟨A2,k2,hA2⟩:=fb.len
  subst hA2
  have FB:=aH (fb.below BE.o)
  have FA3:Hd (IntsAt w3 (.slice A1 m k1) x1):=aH (by rw [<- HM.o]; exact FA.o.below BR3.o)
  have HOL:Hd (bC y.1 x1 = aN (gs.getD (i + 1 - 1) ([],0)).1 x1):=aH (by
   rw [show i + 1 - 1 = i by omega,fC hy]
   exact iu (by have h1:=HYL.o; have h2:=HML.o; have h3:=HM.o; omega))
  obtain ⟨cv,hcv⟩:=nm (bC y.1 x1)
  rw [hcv] at HOL
  obtain ⟨p,hp⟩:=nm (y.1.length)
  rw [hp] at d0 FB
  have CM:Hd (∀ W',IntsAt W' (.slice A2 p k2) y.1->IntsAt W' (.slice A1 m k1) x1->Calls Tryz.prog 86 #[.slice A2 p k2,.slice A1 m k1] W' fun e w'=>e = .returned (.int .i64 cv)/\w' = W'):=aH (fun W' h1 h2=>by
   rw [<- hcv]
   exact (xf W' _ _ _ _ h1 h2).mono (fun e w' ⟨a,b⟩=>⟨a,b.symm⟩))
  have i1:IntKind.i64.wrap ((i:Int) + 1 - 1) = (i:Int):=by rw [show (i:Int) + 1 - 1 = i by omega]; exact iI _ (by omega)
  have i2:IntKind.i64.wrap (i:Int) = (i:Int):=iI _ (by omega)
  have j1:(0:Int) <= (i:Int):=by omega
  have j2:(i:Int) < (n:Int):=by omega
  have j3:decide ((0:Int) < (i:Int) + 1) = true:=dT (by omega)
  have j4:decide (0 < i + 1) = true:=dT (by omega)
  clear hy eb0 eb1 fb hcv hp
  by_cases hc:cv < 0
  ·have e5:decide (0 <= cv) = false:=dF (by omega)
   have HGT:=aH (e8 (O:=O) (V:=V) HX.o (by rw [HM.o]; exact HML.o) HIB.o (by have:=HX12.o; simp only; omega) (by have:=HX12.o; simp only; omega) (fun _=>by rw [<- HOL.o]; exact hc))
   clear hc
   go_quiet ((go_at_call 86; exact Calls.quiet_of_same (CM.o _ (FB.o.drewN _) (FA3.o.drewN _))))
   go_wp2_with fail
   go_roundg gh
   case measure=>omega
   case rel=>exact ⟨i + 1 + 1,rfl,by omega,aH (fun k hk=>by
    by_cases e:k = i + 1
    ·rw [e]; exact HGT.o
    exact HG.o k (by omega)),aH (P3.o.drewN _),aH (ak BE.o _)⟩
  have e5:decide (0 <= cv) = true:=dT (by omega)
  have HE:=aH (HBAD.o (.inr (.inr (.inr (.inr ⟨by omega,by rw [<- HOL.o]; omega⟩)))))
  clear hc
  go_quiet ((go_at_call 86; exact Calls.quiet_of_same (CM.o _ (FB.o.drewN _) (FA3.o.drewN _))))
  go_wp2_with fail
  go_ret
  exact ⟨ag HE.o.symm,ak BE.o _⟩
 have e1:((m:Int) != O) = true:=by simpa using hml
 have HE:=aH (HBAD.o (.inl hml))
 have BE:=aH (B1.o.trans ((bA wr (.cells #[.slice A1 m k1,.int .i64 x2] 51)).mono B1.o.size))
 clear hml
 go_wp2_with fail
 go_ret
 exact ⟨ag HE.o.symm,BE.o⟩
def av (k:Int) (a:Rat) (mix:List Rat) (O:Int):Bool :=
 if k = 1 then decide (0 < aU a) && ((mix.length:Int) == 0)
 else if k = 2 then (aU a == 0) && ((mix.length:Int) == O + 1) && iq mix && decide (0 < aU (mix.getD 0 0))
 else if k = 3 then !decide (0 <= aU (a - 1)) && (decide (0 < aU a) && ((mix.length:Int) == 0))
 else if k = 4 then (aU a == 0) && ((mix.length:Int) == 0) else false

theorem an {w:World} {g:Nat} {e:TypeId} {a0 a1 a2 a3 a4 a5 a6 a7:Value} (h:Blk w g e [a0,a1,a2,a3,a4,a5,a6,a7]) :
  w.cell? ⟨g,0,none⟩ = some a0/\w.cell? ⟨g,1,none⟩ = some a1/\w.cell? ⟨g,2,none⟩ = some a2/\w.cell? ⟨g,3,none⟩ = some a3/\w.cell? ⟨g,4,none⟩ = some a4/\w.cell? ⟨g,5,none⟩ = some a5/\w.cell? ⟨g,6,none⟩ = some a6/\w.cell? ⟨g,7,none⟩ = some a7 :=
 ⟨h.cell 0,h.cell 1,h.cell 2,h.cell 3,h.cell 4,h.cell 5,h.cell 6,h.cell 7⟩

def aG (O V:Int) (lv:Value) (k:Int) (s:Bool) (A A':Option Addr) (m c m' c':Nat) (mv:Value):Value:=.agg #[.int .i64 O,.int .i64 V,lv,.int .i64 k,.bool s,.slice A m c,.slice A' m' c',mv]

theorem FracsAt.open_ {k:Nat} {w:World} {v:Value} {qs:List Rat} (h:FracsAt k w v qs):∃ A c,v = .slice A qs.length c/\qs.length <= c/\c <= 9223372036854775807 /\
  ∀ j q,qs[j]? = some q->∃ b off c0 c1 c2,A = some ⟨b,off,none⟩/\b < w.heap.size/\w.cell? ⟨b,off + j * 3,none⟩ = some c0/\w.cell? ⟨b,off + j * 3 + 1,none⟩ = some c1/\w.cell? ⟨b,off + j * 3 + 2,none⟩ = some c2/\FracAt k w (.agg #[c0,c1,c2]) q:=by
 obtain ⟨cells,h1,h2⟩:=h
 obtain ⟨h0,A,c,rfl,hc,hm,h5⟩:=h1
 refine ⟨A,c,rfl,hc,by unfold maxLen at hm; omega,fun j x hx=>?_⟩
 have hj:=(sI.1 hx).1
 obtain ⟨b,off,e,hlt,hcell⟩:=h5 (by omega)
 obtain ⟨c0,c1,c2,e0,e1,e2,hf⟩:=h2 j x hx
 exact ⟨b,off,c0,c1,c2,e,hlt,hcell _ _ e0,by have:=hcell _ _ e1; rwa [<- Nat.add_assoc] at this,by have:=hcell _ _ e2; rwa [<- Nat.add_assoc] at this,hf⟩

theorem vx (w:World) (O V:Int) (lv:Value) (k:Int) (s:Bool) (A A':Option Addr) (m c m' c':Nat) (mv:Value) (a:Rat) (mix:List Rat)(ha:FracAt 64 w (.agg #[.bool s,.slice A m c,.slice A' m' c']) a)(hm:FracsAt 64 w mv mix)(hl:mix.length <= 1000000)(hO:1 <= O/\O <= 4) (Al:Option Addr) (nl cl:Nat)(hlv:lv = .slice Al nl cl) :
  Calls Tryz.prog 112 #[aG O V lv k s A A' m c m' c' mv] w fun e w'=>e = .returned (.bool (av k a mix O))/\Below w.heap.size w w':=by
 subst hlv
 obtain ⟨Am,cm,rfl,hmc,hcm,hat⟩:=hm.open_
 have HM:=aH hm
 have HA:=aH ha
 have HAT:=aH hat
 have QA:=aH (ha.qb (by omega))
 clear hm ha hat
 obtain ⟨ml,hml⟩:=nm (mix.length)
 have HMF:Hd (FracsAt 64 w (.slice Am ml cm) mix):=aH (by rw [<- hml]; exact HM.o)
 rw [hml] at hmc hl ⊢
 have HML:=aH hml
 clear hml HM
 unfold aG
 go_enter Tryz.func112,Tryz.ntmps112
 go_wp2_with fail
 obtain ⟨W,hW,P0,PB,Phs⟩:=aA w 43 [.int .i64 O,.int .i64 V,.slice Al nl cl,.int .i64 k,.bool s,.slice A m c,.slice A' m' c',.slice Am ml cm]
 rw [<- hW]
 clear hW
 obtain ⟨p0,p1,p2,p3,p4,p5,p6,p7⟩:=an P0.o
 refine (ofI W 1 (by omega) (by omega)).mono ?_
 rintro e w1 ⟨u1,rfl,t1,hb1⟩
 obtain ⟨un,hun⟩:∃ x:Rat,((1:Int):Rat) = x:=⟨_,rfl⟩
 rw [hun] at t1
 have HUN:Hd (un = 1):=aH (by rw [<- hun]; rfl)
 clear hun
 obtain ⟨Ao,mo,co,Ao',mo',co',rfl⟩:=t1.at_.open_
 have T1:=aH t1
 have P1:=aH (P0.o.below' hb1)
 have B1:=aH (PB.o.trans (hb1.mono PB.o.size))
 clear p0 p1 p2 p3 p4 p5 p6 p7 t1 hb1 P0 PB
 obtain ⟨p0,p1,p2,p3,p4,p5,p6,p7⟩:=an P1.o
 have s1:w.heap.size < w1.heap.size:=P1.o.lt
 go_wp2_with fail
 obtain ⟨W2,hW2,G0,GB,Ghs⟩:=aA w1 40 [.bool (ae un),.slice Ao mo co,.slice Ao' mo' co']
 rw [<- hW2]
 clear hW2
 refine (jk W2 _ a 64 ((HA.o.below B1.o).below GB.o) (by omega) (by omega)).mono ?_
 rintro e w3 ⟨rfl,hb3⟩
 have G3:Hd (BoxC w3 w1.heap.size un):=aH ((BoxC.of G0.o (T1.o.at_.below GB.o)).below hb3)
 have P3:=aH ((P1.o.below' GB.o).below' hb3)
 have B3:=aH ((B1.o.trans (GB.o.mono B1.o.size)).trans (hb3.mono (by have:=B1.o.size; omega)))
 obtain ⟨sg,hsg⟩:=nm (aU a)
 rw [hsg]
 have HSG:=aH hsg
 clear p0 p1 p2 p3 p4 p5 p6 p7 hb3 G0 GB B1 P1 hsg
 obtain ⟨p0,p1,p2,p3,p4,p5,p6,p7⟩:=an P3.o
 by_cases h1:k = 1
 ·subst h1
  obtain ⟨b1,hb1⟩:=nm (decide (0 < sg))
  obtain ⟨b2,hb2⟩:=nm (((ml:Int) == 0))
  have HE:Hd (av 1 a mix O = (b1 && b2)):=aH (by
   unfold av
   rw [if_pos rfl,HSG.o,HML.o,hb1,hb2])
  cases b1 <;> cases b2
  all_goals
   go_wp2_with fail
   go_ret
   exact ⟨ai HE.o.symm,B3.o⟩
 have n1:(k == 1) = false:=by simpa using h1
 by_cases h2:k = 2
 ·subst h2
  clear n1 h1
  obtain ⟨b1,hb1⟩:=nm ((sg == 0))
  obtain ⟨b2,hb2⟩:=nm (((ml:Int) == O + 1))
  obtain ⟨b3,hb3⟩:=nm (iq mix)
  obtain ⟨s0,hs0⟩:=nm (aU (mix.getD 0 0))
  have HE:Hd (av 2 a mix O = (b1 && b2 && b3 && decide (0 < s0))):=aH (by
   unfold av
   rw [if_neg (by decide),if_pos rfl,HSG.o,HML.o,hb1,hb2,hb3,hs0])
  have HB3:=aH hb3
  have HS0:=aH hs0
  clear hb3 hs0
  cases b1
  ·simp only [Bool.false_and] at HE
   go_wp2_with fail
   go_ret
   exact ⟨ai HE.o.symm,B3.o⟩
  cases b2
  ·simp only [Bool.false_and,Bool.and_false] at HE
   go_wp2_with fail
   go_ret
   exact ⟨ai HE.o.symm,B3.o⟩
  have hpos:0 < ml:=by
   have:(ml:Int) = O + 1:=by simpa using hb2
   omega
  obtain ⟨x,hx⟩:∃ x,mix[0]? = some x:=⟨_,eG (by rw [HML.o]; exact hpos)⟩
  obtain ⟨bm,om,c0,c1,c2,rfl,hbm,e0,e1,e2,hf⟩:=HAT.o 0 x hx
  have HX:Hd (aU x = s0):=aH (by rw [<- HS0.o,gD,hx]; rfl)
  have HF:=aH hf
  clear hx hf
  rw [Nat.zero_mul,Nat.add_zero] at e0 e1 e2
  rw [Nat.add_zero] at e1 e2
  obtain ⟨sx,A1,n1,k1,A2,n2,k2,rfl,rfl,rfl⟩:=HF.o.cells3
  go_wp2_with fail
  refine (kv w3 64 _ mix (HMF.o.below B3.o) (by omega) (by rw [HML.o]; omega)).mono ?_
  rintro e w4 ⟨rfl,hb4⟩
  rw [HB3.o]
  have P4:=aH (P3.o.below' hb4)
  have B4:=aH (B3.o.trans (hb4.mono B3.o.size))
  have f0:=(B4.o.cell (p:=⟨bm,om,none⟩) hbm).trans e0
  have f1:=(B4.o.cell (p:=⟨bm,om + 1,none⟩) hbm).trans e1
  have f2:=(B4.o.cell (p:=⟨bm,om + 2,none⟩) hbm).trans e2
  clear p0 p1 p2 p3 p4 p5 p6 p7 hb4 P3 e0 e1 e2
  obtain ⟨p0,p1,p2,p3,p4,p5,p6,p7⟩:=an P4.o
  cases b3
  ·simp only [Bool.false_and,Bool.and_false] at HE
   go_wp2_with fail
   go_ret
   exact ⟨ai HE.o.symm,B4.o⟩
  simp only [Bool.true_and] at HE
  go_wp2_with fail
  refine (jk w4 _ x 64 (HF.o.below B4.o) (by omega) (by omega)).mono ?_
  rintro e w5 ⟨rfl,hb5⟩
  rw [HX.o]
  have B5:=aH (B4.o.trans (hb5.mono B4.o.size))
  clear hb5
  go_wp2_with fail
  go_ret
  exact ⟨ai HE.o.symm,B5.o⟩
 have n2:(k == 2) = false:=by simpa using h2
 by_cases h3:k = 3
 ·subst h3
  clear n1 n2 h1 h2
  obtain ⟨Ax,mx,cx,Ax',mx',cx',x0,x1,x2,_,_,_,tx⟩:=G3.o.get
  have TX:=aH (tx.frac (k:=64) ((by rw [HUN.o]; exact bv (n:=1) (k:=64) (by omega) (by omega))) (by omega))
  clear tx
  obtain ⟨cv,hcv⟩:=nm (aU (a - un))
  obtain ⟨b0,hb0⟩:=nm (decide (0 <= cv))
  obtain ⟨b1,hb1⟩:=nm (decide (0 < sg))
  obtain ⟨b2,hb2⟩:=nm (((ml:Int) == 0))
  have HE:Hd (av 3 a mix O = (!b0 && (b1 && b2))):=aH (by
   unfold av
   rw [if_neg (by decide),if_neg (by decide),if_pos rfl,HSG.o,HML.o,<- HUN.o,hcv,hb0,hb1,hb2])
  have HCV:=aH hcv
  clear hcv
  go_wp2_with fail
  refine (vX w3 _ _ a un 64 (HA.o.below B3.o) TX.o (by omega) (by omega)).mono ?_
  rintro e w4 ⟨rfl,hb4⟩
  rw [HCV.o]
  have P4:=aH (P3.o.below' hb4)
  have B4:=aH (B3.o.trans (hb4.mono B3.o.size))
  clear p0 p1 p2 p3 p4 p5 p6 p7 x0 x1 x2 hb4 P3
  obtain ⟨p0,p1,p2,p3,p4,p5,p6,p7⟩:=an P4.o
  cases b0
  ·cases b1 <;> cases b2
   all_goals
    go_wp2_with fail
    go_ret
    exact ⟨ai HE.o.symm,B4.o⟩
  simp only [Bool.not_true,Bool.false_and] at HE
  go_wp2_with fail
  go_ret
  exact ⟨ai HE.o.symm,B4.o⟩
 have n3:(k == 3) = false:=by simpa using h3
 by_cases h4:k = 4
 ·subst h4
  clear n1 n2 n3 h1 h2 h3
  obtain ⟨b1,hb1⟩:=nm ((sg == 0))
  obtain ⟨b2,hb2⟩:=nm (((ml:Int) == 0))
  have HE:Hd (av 4 a mix O = (b1 && b2)):=aH (by
   unfold av
   rw [if_neg (by decide),if_neg (by decide),if_neg (by decide),if_pos rfl,HSG.o,HML.o,hb1,hb2])
  cases b1 <;> cases b2
  all_goals
   go_wp2_with fail
   go_ret
   exact ⟨ai HE.o.symm,B3.o⟩
 have n4:(k == 4) = false:=by simpa using h4
 have HE:Hd (av k a mix O = false):=aH (by
  unfold av
  rw [if_neg h1,if_neg h2,if_neg h3,if_neg h4])
 clear h1 h2 h3 h4
 go_wp2_with fail
 go_ret
 exact ⟨ai HE.o.symm,B3.o⟩
end Go.Proofs.YtjebfdfkjlkifaaGreat
