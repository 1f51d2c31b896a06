/- Lemmas. -/
import Derived.Test.YtjebfdfkjlkifaaGreatR36
set_option linter.all false
set_option maxRecDepth 1000000
set_option maxHeartbeats 32000000
namespace Go.Proofs.YtjebfdfkjlkifaaGreat
open Go.RowKit
theorem wZ (w:World) (v:Value) (l:List Int)(hi:Int)(h:IntsAt w v l) :
  Calls Tryz.prog 88 #[v,.int .i64 hi] w fun e w'=>e = .returned (.bool (inR 0 hi l))/\w' = w:=by
 obtain ⟨A,ca,rfl,hlc,hcm,hA⟩:=h.open_
 have HA:=aH hA
 clear h hA
 obtain ⟨n,hn⟩:=nm (l.length)
 rw [hn] at hlc ⊢
 have HN:=aH hn
 clear hn
 go_enter Tryz.func88,Tryz.ntmps88
 go_wp2_with fail
 go_loopg [5] n (fun g i wr=>∃ (j:Nat),wr = w/\i = .int .i64 j/\j + g = n/\Hd (inR 0 hi l = inR 0 hi (l.drop j)))
 case atStart=>exact ⟨0,rfl,rfl,by omega,aH rfl⟩
 obtain ⟨j,rfl,rfl,hj,HQ⟩:=hrel
 rcases zP gk with h | h
 ·obtain rfl:j = n:=by omega
  have HT:Hd (inR 0 hi l = true):=aH (by rw [HQ.o,dN (by rw [HN.o]; exact nR _)]; rfl)
  go_wp2_with fail
  go_ret
  exact ⟨ai HT.o.symm,rfl⟩
 obtain ⟨g,rfl⟩:∃ g,gk = g + 1:=⟨gk - 1,by omega⟩
 obtain ⟨x,hx⟩:∃ x,l[j]? = some x:=⟨_,eG (by rw [HN.o]; omega)⟩
 obtain ⟨ba,oa,rfl,_,hc⟩:=HA.o j x hx
 have ST:=aH (HQ.o.trans (m9 hx))
 clear hx
 by_cases h1:0 <= x
 ·by_cases h2:x <= hi
  ·have d1:decide (x < 0) = false:=dF (by omega)
   have d2:decide (hi < x) = false:=dF (by omega)
   have HT:Hd (inR 0 hi l = inR 0 hi (l.drop (j + 1))):=aH (by rw [ST.o,dT h1,dT h2]; rfl)
   clear h1 h2
   go_wp2_with fail
   go_roundg g
   case measure=>omega
   case rel=>exact ⟨j + 1,rfl,rfl,by omega,HT⟩
  have d1:decide (x < 0) = false:=dF (by omega)
  have d2:decide (hi < x) = true:=dT (by omega)
  have HT:Hd (inR 0 hi l = false):=aH (by rw [ST.o,dT h1,dF h2]; rfl)
  clear h1 h2
  go_wp2_with fail
  go_ret
  exact ⟨ai HT.o.symm,rfl⟩
 have d1:decide (x < 0) = true:=dT (by omega)
 have HT:Hd (inR 0 hi l = false):=aH (by rw [ST.o,dF h1]; rfl)
 clear h1
 go_wp2_with fail
 go_ret
 exact ⟨ai HT.o.symm,rfl⟩

theorem xp (w:World) (va vb:Value) (a b:List Int)(ha:IntsAt w va a)(hb:IntsAt w vb b)(hl:a.length <= b.length) :
  Calls Tryz.prog 83 #[va,vb] w fun e w'=>e = .returned (.int .i64 (aN a b))/\∃ m,w' = w.drewN m:=by
 obtain ⟨A,ca,rfl,hlc,hcm,hA⟩:=ha.open_
 obtain ⟨B,cb,rfl,hmc,hcm',hB⟩:=hb.open_
 have HA:=aH hA
 have HB:=aH hB
 clear ha hb hA hB
 obtain ⟨n,hn⟩:=nm (a.length)
 obtain ⟨p,hp⟩:=nm (b.length)
 rw [hn] at hlc hl ⊢
 rw [hp] at hmc hl ⊢
 have HN:=aH hn
 have HP:=aH hp
 clear hn hp
 go_enter Tryz.func83,Tryz.ntmps83
 go_wp2_with fail
 go_loopg [5] n (fun g i wr=>∃ (j:Nat),(∃ d,wr = w.drewN d)/\i = .int .i64 j/\j + g = n/\Hd (a.take j = b.take j))
 case atStart=>exact ⟨0,⟨0,rfl⟩,rfl,by omega,aH rfl⟩
 obtain ⟨j,⟨nd,rfl⟩,rfl,hj,HQ⟩:=hrel
 rcases zP gk with h | h
 ·obtain rfl:j = n:=by omega
  have HT:Hd (aN a b = 0):=aH (mT (by
   have:=HQ.o
   rw [tL (by rw [HN.o]; exact nR _)] at this
   rw [HN.o]; exact this))
  go_wp2_with fail
  go_ret
  exact ⟨ag HT.o.symm,⟨_,by first | rfl | exact World.drewN_drewN _ _ _ | exact (congrArg (fun u=>World.drewN u _) (World.drewN_drewN _ _ _)).trans (World.drewN_drewN _ _ _)⟩⟩
 obtain ⟨g,rfl⟩:∃ g,gk = g + 1:=⟨gk - 1,by omega⟩
 obtain ⟨x,hx⟩:∃ x,a[j]? = some x:=⟨_,eG (by rw [HN.o]; omega)⟩
 obtain ⟨y,hy⟩:∃ y,b[j]? = some y:=⟨_,eG (by rw [HP.o]; omega)⟩
 obtain ⟨ba,oa,rfl,_,hc⟩:=HA.o j x hx
 obtain ⟨bb,ob,rfl,_,hc'⟩:=HB.o j y hy
 have HX:=aH hx
 have HY:=aH hy
 clear hx hy
 by_cases hxy:x = y
 ·subst hxy
  have hne:(x != x) = false:=by simp
  go_wp2_with fail
  go_quiet (fail)
  go_wp2_with fail
  go_roundg g
  case measure=>omega
  case rel=>exact ⟨j + 1,⟨_,rfl⟩,rfl,by omega,aH (by rw [ah _ HX.o,ah _ HY.o,HQ.o])⟩
 have hne:(x != y) = true:=by simpa using hxy
 have HF:=aH (o8 HQ.o HX.o HY.o hxy)
 clear hxy
 by_cases hlt:x < y
 ·have HF2:Hd (aN a b = -1):=aH (by rw [HF.o,if_pos hlt])
  have hd:decide (x < y) = true:=dT hlt
  clear hlt
  go_wp2_with fail
  go_quiet (fail)
  go_wp2_with fail
  go_quiet (fail)
  go_wp2_with fail
  go_ret
  exact ⟨ag HF2.o.symm,⟨_,by first | rfl | exact World.drewN_drewN _ _ _ | exact (congrArg (fun u=>World.drewN u _) (World.drewN_drewN _ _ _)).trans (World.drewN_drewN _ _ _)⟩⟩
 have HF2:Hd (aN a b = 1):=aH (by rw [HF.o,if_neg hlt])
 have hd:decide (x < y) = false:=dF hlt
 clear hlt
 go_wp2_with fail
 go_quiet (fail)
 go_wp2_with fail
 go_quiet (fail)
 go_wp2_with fail
 go_ret
 exact ⟨ag HF2.o.symm,⟨_,by first | rfl | exact World.drewN_drewN _ _ _ | exact (congrArg (fun u=>World.drewN u _) (World.drewN_drewN _ _ _)).trans (World.drewN_drewN _ _ _)⟩⟩


theorem jr (w:World) (O V:Int) (lv:Value) (gs:List Gr)(h:GramsAt w lv gs) :
  Calls Tryz.prog 68 #[.agg #[.int .i64 O,.int .i64 V,lv]] w fun e w'=>e = .returned (.int .i64 (aP O V gs))/\Below w.heap.size w w':=by
 obtain ⟨A,c,rfl,hlc,hcm,hat⟩:=h.open_
 have HAT:=aH hat
 clear h hat
 obtain ⟨n,hn⟩:=nm (gs.length)
 rw [hn] at hlc ⊢
 have HN:=aH hn
 clear hn
 by_cases hlong:20000 < n
 ·have hd2:decide ((20000:Int) < (n:Int)) = true:=dT (by omega)
  have HE:Hd (aP O V gs = 5):=aH (iT (by rw [HN.o]; exact hlong))
  clear hlong
  go_enter Tryz.func68,Tryz.ntmps68
  go_wp2_with fail
  go_ret
  exact ⟨ag HE.o.symm,(Below.refl _ _).alloc (nR _) _⟩
 have hd2:decide ((20000:Int) < (n:Int)) = false:=dF (by omega)
 have HL:Hd (¬ 20000 < gs.length):=aH (by rw [HN.o]; exact hlong)
 clear hlong
 go_enter Tryz.func68,Tryz.ntmps68
 go_wp2_with fail
 obtain ⟨W,hW,P0,PB,Phs⟩:=aA w 27 [.int .i64 O,.int .i64 V,.slice A n c]
 rw [<- hW]
 clear hW
 refine (vF W O V).mono ?_
 rintro e w1 ⟨rfl,hb1⟩
 have P1:=aH (P0.o.below' hb1)
 have B1:=aH (PB.o.trans (hb1.mono (by omega)))
 clear hb1 P0 PB
 obtain ⟨p0,p1,p2,_,_,_⟩:=P1.o.three
 obtain ⟨sb,hsb⟩:=nm (bu O V)
 rw [hsb]
 have HSB:=aH hsb
 clear hsb
 cases sb
 ·have HE:Hd (aP O V gs = 2):=aH (iS HL.o HSB.o)
  go_wp2_with fail
  go_ret
  exact ⟨ag HE.o.symm,B1.o⟩
 clear hd2
 go_wp2_with fail
 go_loopg [3] n (fun gh i wz=>∃ (j:Nat),i = .int .i64 j/\j + gh = n/\Hd (∀ k,k < j->dL O V gs k = true)/\Hd (Blk wz w.heap.size 27 [.int .i64 O,.int .i64 V,.slice A n c])/\Hd (Below w.heap.size w wz))
 case atStart=>exact ⟨0,rfl,by omega,aH (fun k hk=>by omega),P1,B1⟩
 clear p0 p1 p2 P1 B1
 obtain ⟨j,rfl,hj,HG,P1,B1⟩:=hrel
 obtain ⟨p0,p1,p2,_,_,_⟩:=P1.o.three
 have s2:w.heap.size < wr.heap.size:=P1.o.lt
 rcases zP gk with hh | hh
 ·subst hh
  obtain rfl:j = n:=by omega
  have HE:Hd (aP O V gs = 0):=aH (iU HL.o HSB.o (fun i hi=>HG.o i (by rw [HN.o] at hi; exact hi)))
  go_wp2_with fail
  go_ret
  exact ⟨ag HE.o.symm,B1.o⟩
 obtain ⟨gh,rfl⟩:∃ g,gk = g + 1:=⟨gk - 1,by omega⟩
 obtain ⟨x,hx⟩:∃ x,gs[j]? = some x:=⟨_,eG (by rw [HN.o]; omega)⟩
 obtain ⟨ba,oa,a0,rfl,hba,ea0,ea1,fa⟩:=HAT.o j x hx
 have d0:=(B1.o.cell (p:=⟨ba,oa + j * 2,none⟩) hba).trans ea0
 have d1:=(B1.o.cell (p:=⟨ba,oa + j * 2 + 1,none⟩) hba).trans ea1
 have FA:=aH (fa.below B1.o)
 have HX:=aH hx
 have hz3:ba < wr.heap.size:=by omega
 clear hx ea0 ea1
 obtain ⟨A1,k1,hA1⟩:=fa.len
 subst hA1
 clear fa
 have HBAD:Hd ((¬ (x.1.length:Int) = O ∨ inR 0 V x.1 = false ∨ x.2 < 1 ∨ 1073741824 < x.2 ∨ (0 < j/\¬ aN (gs.getD (j - 1) ([],0)).1 x.1 < 0))->aP O V gs = 2):=aH (fun hc=>ji HL.o (by rw [HN.o]; omega) (im HX.o hc))
 obtain ⟨x1,x2⟩:=x
 simp only at d0 d1 FA HBAD
 obtain ⟨m,hm⟩:=nm (x1.length)
 rw [hm] at d0
 have HM:=aH hm
 rw [hm] at HBAD
 have FA2:Hd (IntsAt wr (.slice A1 m k1) x1):=aH (by rw [<- hm]; exact FA.o)
 clear hm FA
 go_wp2_with fail
 obtain ⟨W2,hW2,G0,GB,Ghs⟩:=aA wr 51 [.slice A1 m k1,.int .i64 x2]
 rw [<- hW2]
 clear hW2
 have P3:=aH (P1.o.below' GB.o)
 have BE:=aH (B1.o.trans (GB.o.mono B1.o.size))
 have FA3:=aH (FA2.o.below GB.o)
 have FI:Hd (∀ W',IntsAt W' (.slice A1 m k1) x1->Calls Tryz.prog 88 #[.slice A1 m k1,.int .i64 V] W' fun e w'=>e = .returned (.bool (inR 0 V x1))/\w' = W'):=aH (fun W' h=>wZ W' _ x1 V h)
 clear p0 p1 p2 d0 d1 P1 B1 FA2 GB
 obtain ⟨p0,p1,p2,_,_,_⟩:=P3.o.three
 have g0:=G0.o.cell 0
 have g1:=G0.o.cell 1
 simp only [List.getElem?_cons_zero,List.getElem?_cons_succ] at g0 g1
 obtain ⟨ib,hib⟩:=nm (inR 0 V x1)
 rw [hib] at FI
 have HIB:=aH hib
 clear hib
 by_cases hml:(m:Int) = O
 ·have e1:((m:Int) != O) = false:=by simpa using hml
  have HML:=aH hml
  clear hml
  cases ib
  ·have HE:=aH (HBAD.o (.inr (.inl HIB.o)))
   go_quiet ((go_at_call 88; exact Calls.quiet_of_same (FI.o _ (FA3.o.drewN _))))
   go_wp2_with fail
   go_ret
   exact ⟨ag HE.o.symm,ak BE.o _⟩
  by_cases hx1:x2 < 1
  ·have HE:=aH (HBAD.o (.inr (.inr (.inl hx1))))
   have e2:decide (x2 < 1) = true:=dT hx1
   clear hx1
   go_quiet ((go_at_call 88; exact Calls.quiet_of_same (FI.o _ (FA3.o.drewN _))))
   go_wp2_with fail
   go_ret
   exact ⟨ag HE.o.symm,ak BE.o _⟩
  have e2:decide (x2 < 1) = false:=dF hx1
  by_cases hx2:1073741824 < x2
  ·have HE:=aH (HBAD.o (.inr (.inr (.inr (.inl hx2)))))
   have e3:decide (1073741824 < x2) = true:=dT hx2
   clear hx1 hx2
   go_quiet ((go_at_call 88; exact Calls.quiet_of_same (FI.o _ (FA3.o.drewN _))))
   go_wp2_with fail
   go_ret
   exact ⟨ag HE.o.symm,ak BE.o _⟩
  have e3:decide (1073741824 < x2) = false:=dF hx2
  have HX12:=aH (aI hx1 hx2)
  clear hx1 hx2
  rcases zP j with hj0 | hj0
  ·subst hj0
   have HGT:=aH (e8 (O:=O) (V:=V) HX.o (by rw [HM.o]; exact HML.o) HIB.o (by have:=HX12.o; simp only; omega) (by have:=HX12.o; simp only; omega) (fun h=>by omega))
   go_quiet ((go_at_call 88; exact Calls.quiet_of_same (FI.o _ (FA3.o.drewN _))))
   go_wp2_with fail
   go_roundg gh
   case measure=>omega
   case rel=>exact ⟨1,rfl,by omega,aH (fun k hk=>by rw [show k = 0 by omega]; exact HGT.o),aH (P3.o.drewN _),aH (ak BE.o _)⟩
  obtain ⟨i,rfl⟩:∃ i,j = i + 1:=⟨j - 1,by omega⟩
  obtain ⟨y,hy⟩:∃ y,gs[i]? = some y:=⟨_,eG (by rw [HN.o]; omega)⟩
  obtain ⟨bb,ob,b0,eb,hbb,eb0,eb1,fb⟩:=HAT.o i y hy
  cases eb
  have d0:=(BE.o.cell (p:=⟨ba,oa + i * 2,none⟩) hbb).trans eb0
  have HYL:=aH (jK hy (HG.o i (by omega)))
  obtain ⟨A2,k2,hA2⟩:=fb.len
  subst hA2
  have FB:=aH (fb.below BE.o)
  have HOL:Hd (aN y.1 x1 = aN (gs.getD (i + 1 - 1) ([],0)).1 x1):=aH (by rw [show i + 1 - 1 = i by omega,fC hy])
  obtain ⟨cv,hcv⟩:=nm (aN y.1 x1)
  rw [hcv] at HOL
  obtain ⟨p,hp⟩:=nm (y.1.length)
  rw [hp] at d0 FB
  have CM:Hd (∀ W',IntsAt W' (.slice A2 p k2) y.1->IntsAt W' (.slice A1 m k1) x1->Calls Tryz.prog 83 #[.slice A2 p k2,.slice A1 m k1] W' fun e w'=>e = .returned (.int .i64 cv)/\∃ m,w' = W'.drewN m):=aH (fun W' h1 h2=>by
   rw [<- hcv]
   exact xp W' _ _ _ _ h1 h2 (by have h1:=HYL.o; have h2:=HML.o; have h3:=HM.o; omega))
  have i1:IntKind.i64.wrap ((i:Int) + 1 - 1) = (i:Int):=by rw [show (i:Int) + 1 - 1 = i by omega]; exact iI _ (by omega)
  have i2:IntKind.i64.wrap (i:Int) = (i:Int):=iI _ (by omega)
  have j1:(0:Int) <= (i:Int):=by omega
  have j2:(i:Int) < (n:Int):=by omega
  have j3:decide ((0:Int) < (i:Int) + 1) = true:=dT (by omega)
  have j4:decide (0 < i + 1) = true:=dT (by omega)
  clear hy eb0 eb1 fb hcv hp
  by_cases hc:cv < 0
  ·have e5:decide (0 <= cv) = false:=dF (by omega)
   have HGT:=aH (e8 (O:=O) (V:=V) HX.o (by rw [HM.o]; exact HML.o) HIB.o (by have:=HX12.o; simp only; omega) (by have:=HX12.o; simp only; omega) (fun _=>by rw [<- HOL.o]; exact hc))
   clear hc
   go_quiet (first | (go_at_call 88; exact Calls.quiet_of_same (FI.o _ (FA3.o.drewN _))) | (go_at_call 83; exact Calls.quiet_of (CM.o _ (FB.o.drewN _) (FA3.o.drewN _))))
   go_wp2_with fail
   go_roundg gh
   case measure=>omega
   case rel=>exact ⟨i + 1 + 1,rfl,by omega,aH (fun k hk=>by
    by_cases e:k = i + 1
    ·rw [e]; exact HGT.o
    exact HG.o k (by omega)),aH (P3.o.drewN _),aH (ak BE.o _)⟩
  have e5:decide (0 <= cv) = true:=dT (by omega)
  have HE:=aH (HBAD.o (.inr (.inr (.inr (.inr ⟨by omega,by rw [<- HOL.o]; omega⟩)))))
  clear hc
  go_quiet (first | (go_at_call 88; exact Calls.quiet_of_same (FI.o _ (FA3.o.drewN _))) | (go_at_call 83; exact Calls.quiet_of (CM.o _ (FB.o.drewN _) (FA3.o.drewN _))))
  go_wp2_with fail
  go_ret
  exact ⟨ag HE.o.symm,ak BE.o _⟩
 have e1:((m:Int) != O) = true:=by simpa using hml
 have HE:=aH (HBAD.o (.inl hml))
 clear hml
 go_quiet (fail)
 go_wp2_with fail
 go_ret
 exact ⟨ag HE.o.symm,ak BE.o _⟩
theorem pV (w:World) (O V:Int) (lv:Value) (gs:List Gr) (k:Int) (s:Bool) (A A':Option Addr) (m c m' c':Nat) (mv:Value) (a:Rat) (mix:List Rat)(h:LangAt w lv gs s A A' m c m' c' a mv mix) :
  Calls Tryz.prog 26 #[aG O V lv k s A A' m c m' c' mv] w fun e w'=>e = .returned (.int .i64 (aJ O V gs k a mix))/\Below w.heap.size w w':=by
 obtain ⟨Al,cl,rfl,_,_,_⟩:=h.grams.open_
 obtain ⟨Am,cm,rfl,hmc,hmm,hat⟩:=h.mixes.open_
 have HL:=aH h
 obtain ⟨ml,hml⟩:=nm (mix.length)
 have HLM:Hd (FracsAt 64 w (.slice Am ml cm) mix):=aH (by rw [<- hml]; exact h.mixes)
 have HSH:=aH h.short
 have HAT:=aH hat
 have QA:=aH (h.amount.qb (by omega))
 rw [hml] at hmc ⊢
 have HML:=aH hml
 have hms:ml <= 1000000:=by rw [<- hml]; exact h.short
 clear h hml hat
 unfold aG
 go_enter Tryz.func26,Tryz.ntmps26
 go_wp2_with fail
 obtain ⟨W,hW,P0,PB,Phs⟩:=aA w 43 [.int .i64 O,.int .i64 V,.slice Al gs.length cl,.int .i64 k,.bool s,.slice A m c,.slice A' m' c',.slice Am ml cm]
 rw [<- hW]
 clear hW
 obtain ⟨p0,p1,p2,p3,p4,p5,p6,p7⟩:=an P0.o
 go_wp2_with fail
 refine (jr W O V _ gs (HL.o.grams.below PB.o)).mono ?_
 rintro e w1 ⟨rfl,hb1⟩
 have P1:=aH (P0.o.below' hb1)
 have B1:=aH (PB.o.trans (hb1.mono PB.o.size))
 clear p0 p1 p2 p3 p4 p5 p6 p7 hb1 P0 PB
 obtain ⟨p0,p1,p2,p3,p4,p5,p6,p7⟩:=an P1.o
 obtain ⟨te,hte⟩:=nm (aP O V gs)
 rw [hte]
 have HTE:=aH hte
 clear hte
 by_cases h0:te = 0
 ·subst h0
  have HO:=en (eI HTE.o).2.1
  have HE0:Hd (aJ O V gs k a mix = if av k a mix O = true then 0 else 2):=aH (by unfold aJ; rw [HTE.o]; rfl)
  obtain ⟨sa,hsa⟩:=nm (aU a)
  have HSA:=aH hsa
  clear hsa
  by_cases hk1:k = 1
  ·subst hk1
   by_cases hz:ml = 0
   ·have f1:((ml:Int) == 0) = true:=by simpa using hz
    by_cases hs:0 < sa
    ·have d1:decide ((0:Int) < sa) = true:=dT hs
     have HV:Hd (av 1 a mix O = true):=aH (by unfold av; rw [if_pos rfl,HSA.o,HML.o,d1,f1]; rfl)
     clear hz hs
     go_wp2_with fail
     refine (ez w1 _ a 64 (HL.o.amount.below B1.o) (by omega)).mono ?_
     rintro e w2 ⟨rfl,hb2⟩
     rw [HSA.o]
     have B2:=aH (B1.o.trans (hb2.mono B1.o.size))
     have P2:=aH (P1.o.below' hb2)
     clear p0 p1 p2 p3 p4 p5 p6 p7 hb2
     obtain ⟨p0,p1,p2,p3,p4,p5,p6,p7⟩:=an P2.o
     have HE:Hd (aJ O V gs 1 a mix = 0):=aH (by rw [HE0.o,HV.o]; rfl)
     go_wp2_with fail
     go_ret
     exact ⟨ag HE.o.symm,B2.o⟩
    have d1:decide ((0:Int) < sa) = false:=dF hs
    have HV:Hd (av 1 a mix O = false):=aH (by unfold av; rw [if_pos rfl,HSA.o,d1]; rfl)
    clear hz hs
    go_wp2_with fail
    refine (ez w1 _ a 64 (HL.o.amount.below B1.o) (by omega)).mono ?_
    rintro e w2 ⟨rfl,hb2⟩
    rw [HSA.o]
    have B2:=aH (B1.o.trans (hb2.mono B1.o.size))
    have P2:=aH (P1.o.below' hb2)
    clear p0 p1 p2 p3 p4 p5 p6 p7 hb2
    obtain ⟨p0,p1,p2,p3,p4,p5,p6,p7⟩:=an P2.o
    have HE:Hd (aJ O V gs 1 a mix = 2):=aH (by rw [HE0.o,HV.o]; rfl)
    go_wp2_with fail
    go_ret
    exact ⟨ag HE.o.symm,B2.o⟩
   have f1:((ml:Int) == 0) = false:=by simpa using hz
   have HV:Hd (av 1 a mix O = false):=aH (by unfold av; rw [if_pos rfl,HML.o,f1,Bool.and_false])
   clear hz
   have HE:Hd (aJ O V gs 1 a mix = 2):=aH (by rw [HE0.o,HV.o]; rfl)
   go_wp2_with fail
   go_ret
   exact ⟨ag HE.o.symm,B1.o⟩
  have n1:(k == 1) = false:=by simpa using hk1
  by_cases hk2:k = 2
  ·subst hk2
   clear n1 hk1
   have i1:IntKind.i64.wrap (O + 1) = O + 1:=iI _ (by omega)
   by_cases hs:sa = 0
   ·have d1:(sa == 0) = true:=by simpa using hs
    clear hs
    go_wp2_with fail
    refine (ez w1 _ a 64 (HL.o.amount.below B1.o) (by omega)).mono ?_
    rintro e w2 ⟨rfl,hb2⟩
    rw [HSA.o]
    have B2:=aH (B1.o.trans (hb2.mono B1.o.size))
    have P2:=aH (P1.o.below' hb2)
    clear p0 p1 p2 p3 p4 p5 p6 p7 hb2
    obtain ⟨p0,p1,p2,p3,p4,p5,p6,p7⟩:=an P2.o
    by_cases hz:(ml:Int) = O + 1
    ·have f1:((ml:Int) == O + 1) = true:=by simpa using hz
     have hm1:1 < ml:=by omega
     have f2:(0:Int) < (ml:Int):=by omega
     go_wp2_with fail
     refine (ku w2 64 _ mix (HLM.o.below B2.o) (by omega) (by rw [HML.o]; omega)).mono ?_
     rintro e w3 ⟨rfl,hb3⟩
     obtain ⟨db,hdb⟩:=nm (iq mix)
     rw [hdb]
     have HDB:=aH hdb
     clear hdb
     have B3:=aH (B2.o.trans (hb3.mono B2.o.size))
     have P3:=aH (P2.o.below' hb3)
     clear p0 p1 p2 p3 p4 p5 p6 p7 hb3
     obtain ⟨p0,p1,p2,p3,p4,p5,p6,p7⟩:=an P3.o
     cases db with
     | false =>
      have HV:Hd (av 2 a mix O = false):=aH (by unfold av; rw [if_neg (by decide),if_pos rfl,HDB.o]; simp)
      have HE:Hd (aJ O V gs 2 a mix = 2):=aH (by rw [HE0.o,HV.o]; rfl)
      go_wp2_with fail
      go_ret
      exact ⟨ag HE.o.symm,B3.o⟩
     | true =>
      obtain ⟨x,hx⟩:∃ x,mix[0]? = some x:=⟨_,eG (by rw [HML.o]; omega)⟩
      obtain ⟨_,_,ee,_,_,hat2⟩:=HLM.o.at_
      obtain ⟨bm,om,ng,An,nn,cn,Ad,nd,cd,he,hbm,e0,e1,e2,hf⟩:=hat2 0 x hx
      have hA:Am = some ⟨bm,om,none⟩:=by cases ee; exact he
      subst hA
      have HG:Hd (mix.getD 0 0 = x):=aH (by rw [gD,hx]; rfl)
      simp only [Nat.zero_mul,Nat.add_zero] at e0 e1 e2
      have c0:=(B3.o.cell (p:=⟨bm,om,none⟩) hbm).trans e0
      have c1:=(B3.o.cell (p:=⟨bm,om + 1,none⟩) hbm).trans e1
      have c2:=(B3.o.cell (p:=⟨bm,om + 2,none⟩) hbm).trans e2
      have FX:=aH hf
      clear hx ee hat2 he e0 e1 e2 hf
      go_wp2_with fail
      refine (ez w3 _ x 64 (FX.o.below B3.o) (by omega)).mono ?_
      rintro e w4 ⟨rfl,hb4⟩
      obtain ⟨sx,hsx⟩:=nm (aU x)
      rw [hsx]
      have HSX:=aH hsx
      clear hsx c0 c1 c2
      have B4:=aH (B3.o.trans (hb4.mono B3.o.size))
      have P4:=aH (P3.o.below' hb4)
      clear p0 p1 p2 p3 p4 p5 p6 p7 hb4
      obtain ⟨p0,p1,p2,p3,p4,p5,p6,p7⟩:=an P4.o
      by_cases hc:0 < sx
      ·have d2:decide (0 < sx) = true:=dT hc
       have HV:Hd (av 2 a mix O = true):=aH (by unfold av; rw [if_neg (by decide),if_pos rfl,HSA.o,HML.o,HDB.o,HG.o,HSX.o,d1,f1,d2]; rfl)
       clear hc hz
       have HE:Hd (aJ O V gs 2 a mix = 0):=aH (by rw [HE0.o,HV.o]; rfl)
       go_wp2_with fail
       go_ret
       exact ⟨ag HE.o.symm,B4.o⟩
      have d2:decide (0 < sx) = false:=dF hc
      have HV:Hd (av 2 a mix O = false):=aH (by unfold av; rw [if_neg (by decide),if_pos rfl,HG.o,HSX.o,d2]; simp)
      clear hc hz
      have HE:Hd (aJ O V gs 2 a mix = 2):=aH (by rw [HE0.o,HV.o]; rfl)
      go_wp2_with fail
      go_ret
      exact ⟨ag HE.o.symm,B4.o⟩
    have f1:((ml:Int) == O + 1) = false:=by simpa using hz
    have HV:Hd (av 2 a mix O = false):=aH (by unfold av; rw [if_neg (by decide),if_pos rfl,HML.o,f1]; simp)
    clear hz
    have HE:Hd (aJ O V gs 2 a mix = 2):=aH (by rw [HE0.o,HV.o]; rfl)
    go_wp2_with fail
    go_ret
    exact ⟨ag HE.o.symm,B2.o⟩
   have d1:(sa == 0) = false:=by simpa using hs
   have HV:Hd (av 2 a mix O = false):=aH (by unfold av; rw [if_neg (by decide),if_pos rfl,HSA.o,d1]; rfl)
   clear hs
   go_wp2_with fail
   refine (ez w1 _ a 64 (HL.o.amount.below B1.o) (by omega)).mono ?_
   rintro e w2 ⟨rfl,hb2⟩
   rw [HSA.o]
   have B2:=aH (B1.o.trans (hb2.mono B1.o.size))
   have P2:=aH (P1.o.below' hb2)
   clear p0 p1 p2 p3 p4 p5 p6 p7 hb2
   obtain ⟨p0,p1,p2,p3,p4,p5,p6,p7⟩:=an P2.o
   have HE:Hd (aJ O V gs 2 a mix = 2):=aH (by rw [HE0.o,HV.o]; rfl)
   go_wp2_with fail
   go_ret
   exact ⟨ag HE.o.symm,B2.o⟩
  have n2:(k == 2) = false:=by simpa using hk2
  by_cases hk3:k = 3
  ·subst hk3
   clear n1 n2 hk1 hk2
   by_cases hz:ml = 0
   ·have f1:((ml:Int) == 0) = true:=by simpa using hz
    have BB:=aH (Below.refl w1.heap.size w1)
    have hS:=aI p4 (aI p5 p6)
    obtain ⟨sc,hsc⟩:=nm (aU (a - ((1:Nat):Rat)))
    have HSC:Hd (aU (a - ((1:Nat):Rat)) = sc):=aH hsc
    have HSC1:Hd (aU (a - 1) = sc):=aH hsc
    clear hsc
    by_cases hs:0 < sa
    ·have d1:decide ((0:Int) < sa) = true:=dT hs
     by_cases hc:sc < 0
     ·have d2:decide (sc < 0) = true:=dT hc
      have HV:Hd (av 3 a mix O = true):=aH (by unfold av; rw [if_neg (by decide),if_neg (by decide),if_pos rfl,HSC1.o,HSA.o,HML.o,dF (show ¬ 0 <= sc by omega),d1,f1]; rfl)
      have HE:Hd (aJ O V gs 3 a mix = 0):=aH (by rw [HE0.o,HV.o]; rfl)
      clear hc hz hs
      go_wp2_with fail
      go_region_held3 (fun w'=>w'.cell? ⟨w.heap.size,4,none⟩ = some (.bool s)/\w'.cell? ⟨w.heap.size,5,none⟩ = some (.slice A m c)/\w'.cell? ⟨w.heap.size,6,none⟩ = some (.slice A' m' c'))
       (first | assumption | go_keep)
       (first
        | (go_at_call 37; refine (ez _ _ a 64 (HL.o.amount.below B1.o |>.below (by first | exact BB.o | exact BB.o.trans (bS _) | exact BB.o.trans ((bS _).mono BB.o.size))) (by omega)).mono ?_; rintro e wl ⟨rfl,hb⟩; rw [HSA.o]; have hb0:=hb; (first | replace hb:=below_new_drew hb | replace hb:=below_new hb | replace hb:=bO hb | skip); replace BB:=aH (BB.o.trans (hb.mono BB.o.size)); clear hb0; have hS:=aI ((P1.o.below' BB.o).cell 4) (aI ((P1.o.below' BB.o).cell 5) ((P1.o.below' BB.o).cell 6)); clear hb)
        | (go_at_call 33; refine (ofR _ 1 (by omega)).mono ?_; rintro e wl ⟨u,rfl,t3,hb⟩; have hb0:=hb; (first | replace hb:=below_new_drew hb | replace hb:=below_new hb | replace hb:=bO hb | skip); replace BB:=aH (BB.o.trans (hb.mono BB.o.size)); clear hb0; obtain ⟨Au,mu,cu,Au',mu',cu',rfl⟩:=t3.at_.open_; have T3:=aH (t3.at_.frac (k:=64) (bv (n:=1) (k:=64) (by omega) (by omega)) (by omega)); have hS:=aI ((P1.o.below' BB.o).cell 4) (aI ((P1.o.below' BB.o).cell 5) ((P1.o.below' BB.o).cell 6)); clear hb t3)
        | (go_at_call 30; refine (vW _ _ _ a ((1:Nat):Rat) 64 (HL.o.amount.below B1.o |>.below (by first | exact BB.o | exact BB.o.trans ((bS _).mono BB.o.size))) ?_ (by omega) (by omega)).mono ?_; (first | exact T3.o | exact T3.o.below (bS _) | exact T3.o.below (bA _ _) | exact T3.o.below (below_alloc_drew _ _)); rintro e wl ⟨rfl,hb⟩; rw [HSC.o]; have hb0:=hb; (first | replace hb:=below_new_drew hb | replace hb:=below_new hb | replace hb:=bO hb | skip); replace BB:=aH (BB.o.trans (hb.mono BB.o.size)); clear hb0; have hS:=aI ((P1.o.below' BB.o).cell 4) (aI ((P1.o.below' BB.o).cell 5) ((P1.o.below' BB.o).cell 6)); clear hb))
      all_goals
       go_wp2_with fail
       go_ret
       exact ⟨ag HE.o.symm,B1.o.trans (BB.o.mono B1.o.size)⟩
     have d2:decide (sc < 0) = false:=dF hc
     have HV:Hd (av 3 a mix O = false):=aH (by unfold av; rw [if_neg (by decide),if_neg (by decide),if_pos rfl,HSC1.o,dT (show 0 <= sc by omega)]; rfl)
     have HE:Hd (aJ O V gs 3 a mix = 2):=aH (by rw [HE0.o,HV.o]; rfl)
     clear hc hz hs
     go_wp2_with fail
     go_region_held3 (fun w'=>w'.cell? ⟨w.heap.size,4,none⟩ = some (.bool s)/\w'.cell? ⟨w.heap.size,5,none⟩ = some (.slice A m c)/\w'.cell? ⟨w.heap.size,6,none⟩ = some (.slice A' m' c'))
      (first | assumption | go_keep)
      (first
       | (go_at_call 37; refine (ez _ _ a 64 (HL.o.amount.below B1.o |>.below (by first | exact BB.o | exact BB.o.trans (bS _) | exact BB.o.trans ((bS _).mono BB.o.size))) (by omega)).mono ?_; rintro e wl ⟨rfl,hb⟩; rw [HSA.o]; have hb0:=hb; (first | replace hb:=below_new_drew hb | replace hb:=below_new hb | replace hb:=bO hb | skip); replace BB:=aH (BB.o.trans (hb.mono BB.o.size)); clear hb0; have hS:=aI ((P1.o.below' BB.o).cell 4) (aI ((P1.o.below' BB.o).cell 5) ((P1.o.below' BB.o).cell 6)); clear hb)
       | (go_at_call 33; refine (ofR _ 1 (by omega)).mono ?_; rintro e wl ⟨u,rfl,t3,hb⟩; have hb0:=hb; (first | replace hb:=below_new_drew hb | replace hb:=below_new hb | replace hb:=bO hb | skip); replace BB:=aH (BB.o.trans (hb.mono BB.o.size)); clear hb0; obtain ⟨Au,mu,cu,Au',mu',cu',rfl⟩:=t3.at_.open_; have T3:=aH (t3.at_.frac (k:=64) (bv (n:=1) (k:=64) (by omega) (by omega)) (by omega)); have hS:=aI ((P1.o.below' BB.o).cell 4) (aI ((P1.o.below' BB.o).cell 5) ((P1.o.below' BB.o).cell 6)); clear hb t3)
       | (go_at_call 30; refine (vW _ _ _ a ((1:Nat):Rat) 64 (HL.o.amount.below B1.o |>.below (by first | exact BB.o | exact BB.o.trans ((bS _).mono BB.o.size))) ?_ (by omega) (by omega)).mono ?_; (first | exact T3.o | exact T3.o.below (bS _) | exact T3.o.below (bA _ _) | exact T3.o.below (below_alloc_drew _ _)); rintro e wl ⟨rfl,hb⟩; rw [HSC.o]; have hb0:=hb; (first | replace hb:=below_new_drew hb | replace hb:=below_new hb | replace hb:=bO hb | skip); replace BB:=aH (BB.o.trans (hb.mono BB.o.size)); clear hb0; have hS:=aI ((P1.o.below' BB.o).cell 4) (aI ((P1.o.below' BB.o).cell 5) ((P1.o.below' BB.o).cell 6)); clear hb))
     all_goals
      go_wp2_with fail
      go_ret
      exact ⟨ag HE.o.symm,B1.o.trans (BB.o.mono B1.o.size)⟩
    have d1:decide ((0:Int) < sa) = false:=dF hs
    have HV:Hd (av 3 a mix O = false):=aH (by unfold av; rw [if_neg (by decide),if_neg (by decide),if_pos rfl,HSA.o,d1]; simp)
    have HE:Hd (aJ O V gs 3 a mix = 2):=aH (by rw [HE0.o,HV.o]; rfl)
    clear hz hs
    have HSET:Hd (∀ w',Below w1.heap.size w1 w'->Below w1.heap.size w1 w'/\w'.cell? ⟨w.heap.size,4,none⟩ = some (.bool s)/\w'.cell? ⟨w.heap.size,5,none⟩ = some (.slice A m c)/\w'.cell? ⟨w.heap.size,6,none⟩ = some (.slice A' m' c')):=aH (fun w' hb=>⟨hb,(P1.o.below' hb).cell 4,(P1.o.below' hb).cell 5,(P1.o.below' hb).cell 6⟩)
    clear hS
    have hS:=HSET.o w1.drew (bS w1)
    go_wp2_with fail
    refine wp_region_held_drew (S:=(fun w'=>Below w1.heap.size w1 w'/\w'.cell? ⟨w.heap.size,4,none⟩ = some (.bool s)/\w'.cell? ⟨w.heap.size,5,none⟩ = some (.slice A m c)/\w'.cell? ⟨w.heap.size,6,none⟩ = some (.slice A' m' c'))) (by kernel_rfl) hS (fun hHeld=>?_)
    clear hS
    refine tjj 0 ?_ rfl (by kernel_rfl) rfl ‹_› ?_ (fun _ _ _ h=>h) (tjj 1 ?_ rfl (by kernel_rfl) rfl ‹_› ?_ (fun _ _ _ h=>h) ?_)
    iterate 2 (rotate_left; · (intro w' hSw; (try dsimp only at hSw); (try go_frame); go_simp <;> with_reducible rfl))
    go_frame
    refine tjj 2 ?_ rfl (by kernel_rfl) rfl ‹_› ?_ (fun _ _ _ h=>h) (tjj 3 ?_ rfl (by kernel_rfl) rfl ‹_› ?_ (fun _ _ _ h=>h) ?_)
    iterate 2 (rotate_left; · (intro w' hSw; (try dsimp only at hSw); (try go_frame); go_simp <;> with_reducible rfl))
    go_frame
    refine wpAnyH_ready (rs:=[4]) (by kernel_rfl) (by simp) ?_
    refine AllReadyH.cons rfl (fun K hK=>?_) AllReadyH.nil
    go_simp
    refine (ez _ _ a 64 ((HL.o.amount.below B1.o).below hHeld.1) (by omega)).mono ?_
    rintro e wl ⟨rfl,hb⟩
    rw [HSA.o]
    have hS:=HSET.o wl (hHeld.1.trans (hb.mono hHeld.1.size))
    clear hb hHeld
    try go_simp
    refine hK.out _ _ hS (fun hHeld=>?_)
    clear hK K hS
    try go_frame
    refine tjj 5 ?_ rfl (by kernel_rfl) rfl ‹_› ?_ (fun _ _ _ h=>h) (tjj 6 ?_ rfl (by kernel_rfl) rfl ‹_› ?_ (fun _ _ _ h=>h) (tjj 7 ?_ rfl (by kernel_rfl) rfl ‹_› ?_ (fun _ _ _ h=>h) ?_))
    iterate 3 (rotate_left; · (intro w' hSw; (try dsimp only at hSw); (try go_frame); go_simp <;> with_reducible rfl))
    go_frame
    refine sjj 8 rfl (by kernel_rfl) rfl ‹_› (fun _ _ _ h=>h) ?_
    go_frame
    refine sjj 9 rfl (by kernel_rfl) rfl ‹_› (fun _ _ _ h=>h) ?_
    go_frame
    refine sjj 10 rfl (by kernel_rfl) rfl ‹_› (fun _ _ _ h=>h) ?_
    go_frame
    refine sjj 11 rfl (by kernel_rfl) rfl ‹_› (fun _ _ _ h=>h) ?_
    go_frame
    refine sjj 12 rfl (by kernel_rfl) rfl ‹_› (fun _ _ _ h=>h) ?_
    go_frame
    refine tjj 13 ?_ rfl (by kernel_rfl) rfl ‹_› ?_ (fun _ _ _ h=>h) (tjj 14 ?_ rfl (by kernel_rfl) rfl ‹_› ?_ (fun _ _ _ h=>h) ?_)
    iterate 2 (rotate_left; · (intro w' hSw; (try dsimp only at hSw); (try go_frame); go_simp <;> with_reducible rfl))
    go_frame
    refine wpAnyH_done (by kernel_rfl) ?_ _
    have hEND:=B1.o.trans (hHeld.1.mono B1.o.size)
    clear hHeld
    go_wp2_with fail
    go_ret
    exact ⟨ag HE.o.symm,hEND⟩
   have f1:((ml:Int) == 0) = false:=by simpa using hz
   have HV:Hd (av 3 a mix O = false):=aH (by unfold av; rw [if_neg (by decide),if_neg (by decide),if_pos rfl,HML.o,f1]; simp)
   have HE:Hd (aJ O V gs 3 a mix = 2):=aH (by rw [HE0.o,HV.o]; rfl)
   clear hz
   go_wp2_with fail
   go_quiet (fail)
   go_wp2_with fail
   go_ret
   exact ⟨ag HE.o.symm,ak B1.o _⟩
  have n3:(k == 3) = false:=by simpa using hk3
  by_cases hk4:k = 4
  ·subst hk4
   clear n1 n2 n3 hk1 hk2 hk3
   by_cases hz:ml = 0
   ·have f1:((ml:Int) == 0) = true:=by simpa using hz
    by_cases hs:sa = 0
    ·have d1:(sa == 0) = true:=by simpa using hs
     have HV:Hd (av 4 a mix O = true):=aH (by unfold av; rw [if_neg (by decide),if_neg (by decide),if_neg (by decide),if_pos rfl,HSA.o,HML.o,d1,f1]; rfl)
     clear hz hs
     go_wp2_with fail
     refine (ez w1 _ a 64 (HL.o.amount.below B1.o) (by omega)).mono ?_
     rintro e w2 ⟨rfl,hb2⟩
     rw [HSA.o]
     have B2:=aH (B1.o.trans (hb2.mono B1.o.size))
     have P2:=aH (P1.o.below' hb2)
     clear p0 p1 p2 p3 p4 p5 p6 p7 hb2
     obtain ⟨p0,p1,p2,p3,p4,p5,p6,p7⟩:=an P2.o
     have HE:Hd (aJ O V gs 4 a mix = 0):=aH (by rw [HE0.o,HV.o]; rfl)
     go_wp2_with fail
     go_ret
     exact ⟨ag HE.o.symm,B2.o⟩
    have d1:(sa == 0) = false:=by simpa using hs
    have HV:Hd (av 4 a mix O = false):=aH (by unfold av; rw [if_neg (by decide),if_neg (by decide),if_neg (by decide),if_pos rfl,HSA.o,d1]; rfl)
    clear hz hs
    go_wp2_with fail
    refine (ez w1 _ a 64 (HL.o.amount.below B1.o) (by omega)).mono ?_
    rintro e w2 ⟨rfl,hb2⟩
    rw [HSA.o]
    have B2:=aH (B1.o.trans (hb2.mono B1.o.size))
    have P2:=aH (P1.o.below' hb2)
    clear p0 p1 p2 p3 p4 p5 p6 p7 hb2
    obtain ⟨p0,p1,p2,p3,p4,p5,p6,p7⟩:=an P2.o
    have HE:Hd (aJ O V gs 4 a mix = 2):=aH (by rw [HE0.o,HV.o]; rfl)
    go_wp2_with fail
    go_ret
    exact ⟨ag HE.o.symm,B2.o⟩
   have f1:((ml:Int) == 0) = false:=by simpa using hz
   have HV:Hd (av 4 a mix O = false):=aH (by unfold av; rw [if_neg (by decide),if_neg (by decide),if_neg (by decide),if_pos rfl,HML.o,f1,Bool.and_false])
   clear hz
   have HE:Hd (aJ O V gs 4 a mix = 2):=aH (by rw [HE0.o,HV.o]; rfl)
   go_wp2_with fail
   go_ret
   exact ⟨ag HE.o.symm,B1.o⟩
  have n4:(k == 4) = false:=by simpa using hk4
  have HV:Hd (av k a mix O = false):=aH (by unfold av; rw [if_neg hk1,if_neg hk2,if_neg hk3,if_neg hk4])
  clear hk1 hk2 hk3 hk4
  obtain ⟨fb,hfb⟩:=nm (((ml:Int) == 0))
  cases fb
  all_goals
   have HE:Hd (aJ O V gs k a mix = 2):=aH (by rw [HE0.o,HV.o]; rfl)
   go_wp2_with fail
   go_ret
   exact ⟨ag HE.o.symm,B1.o⟩
 have e1:(te != 0) = true:=by simpa using h0
 have HE:Hd (aJ O V gs k a mix = te):=aH (by unfold aJ; rw [HTE.o,if_pos h0])
 clear h0
 go_wp2_with fail
 go_ret
 exact ⟨ag HE.o.symm,B1.o⟩
end Go.Proofs.YtjebfdfkjlkifaaGreat
