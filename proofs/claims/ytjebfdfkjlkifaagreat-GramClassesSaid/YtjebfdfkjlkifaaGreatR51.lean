/- Lemmas. -/
import Derived.Test.YtjebfdfkjlkifaaGreatR50
set_option linter.all false
set_option maxRecDepth 1000000
set_option maxHeartbeats 32000000
namespace Go.Proofs.YtjebfdfkjlkifaaGreat
open Go.RowKit
theorem vO (w:World) (O v:Nat) (gs:List Gr) (k:Int) (s:Bool) (A A':Option Addr) (m c m' c':Nat) (Am:Option Addr) (ml cm:Nat) (mix:List Rat)(hO:1 <= O/\O <= 4)(hT:SmallT gs v)(hS:iw v O gs) (Al:Option Addr) (nl cl:Nat)(hv:Value)(h:List Int)(hG:GramsAt w (.slice Al nl cl) gs)(hI:IntsAt w hv h)(hl:h.length + 1 = O)(hM:FracsAt 64 w (.slice Am ml cm) mix)(hml:mix.length = O + 1) :
  Calls Tryz.prog 115 #[aG O v (.slice Al nl cl) k s A A' m c m' c' (.slice Am ml cm),hv] w (dj w v (dR (ap O gs) v mix O h)):=by
 have hv8:=hT.2.2.2
 obtain ⟨Ah,ch,rfl,hhc,hhm,_⟩:=hI.open_
 obtain ⟨_,_,em,hmc,hmm,_⟩:=hM.open_
 obtain rfl:ml = O + 1:=by injection em with _ e2; omega
 obtain ⟨_,_,ee,_,_,hat⟩:=hM.at_
 obtain ⟨x0,hx0⟩:∃ x,mix[0]? = some x:=⟨_,eG (by omega)⟩
 obtain ⟨bm,om,_,_,_,_,_,_,_,he,hbm,_⟩:=hat 0 x0 hx0
 obtain rfl:Am = some ⟨bm,om,none⟩:=by injection ee with e1; rw [e1]; exact he
 have HMJ:Hd (∀ j x,mix[j]? = some x->∃ (ng:Bool) (An:Option Addr) (nn cn:Nat) (Ad:Option Addr) (nd cd:Nat),w.cell? ⟨bm,om + j * 3,none⟩ = some (.bool ng)/\w.cell? ⟨bm,om + j * 3 + 1,none⟩ = some (.slice An nn cn)/\w.cell? ⟨bm,om + j * 3 + 2,none⟩ = some (.slice Ad nd cd)/\FracAt 64 w (.agg #[.bool ng,.slice An nn cn,.slice Ad nd cd]) x):=aH (fun j x hx=>by
  obtain ⟨b',o',ng,An,nn,cn,Ad,nd,cd,he',_,e0,e1,e2,hf⟩:=hat j x hx
  have e3:b' = bm/\o' = om:=by injection ee with ee1; rw [ee1] at *; rw [he] at he'; injection he' with he'; injection he' with h1 h2; exact ⟨h1.symm,h2.symm⟩
  obtain ⟨rfl,rfl⟩:=e3
  exact ⟨ng,An,nn,cn,Ad,nd,cd,e0,e1,e2,hf⟩)
 have QM:Hd (∀ q ∈ mix,QB 64 q):=aH (fun q hq=>by
  obtain ⟨j,hj⟩:=List.mem_iff_getElem?.1 hq
  obtain ⟨_,_,_,_,_,_,_,_,_,_,hf⟩:=HMJ.o j q hj
  exact hf.qb (by omega))
 obtain ⟨p,hp⟩:=nm (h.length)
 rw [hp] at hI hhc hl ⊢
 have HTL:Hd (∀ j,j <= O->iw v j (dE gs (O - j))/\∀ e kk,tot e (dE gs (O - j)) kk = tot (e + (O - j)) gs kk):=aH (fun j hj=>oU (O - j) (n:=j) (by rw [show j + (O - j) = O by omega]; exact hS))
 have HG:=aH hG
 have HI:=aH hI
 have HLN:=aH hp
 have HML:=aH hml
 have HT:=aH hT
 have HX0:=aH hx0
 have v1:IntKind.i64.wrap ((v:Int) + 1) = (v:Int) + 1:=iI _ (by omega)
 have o1:IntKind.i64.wrap ((O:Int) + 1) = (O:Int) + 1:=iI _ (by omega)
 have o2:IntKind.i64.wrap ((O:Int) - 1) = (p:Int):=by rw [show (O:Int) - 1 = (p:Int) by omega]; exact iI _ (by omega)
 have o3:(0:Int) <= (O:Int):=by omega
 have o4:(O:Int) < (O:Int) + 1:=by omega
 clear hI hG hM hml hat hT hS hp hx0 em ee he
 unfold aG
 go_enter Tryz.func115,Tryz.ntmps115
 go_wp2_with (at_make; refine iy rfl _ _ rfl ((O:Int) + 1) (O + 1) rfl rfl (by omega) (by omega) ?_)
 obtain ⟨W,hW,P0,PB,Phs⟩:=aA w 43 [.int .i64 O,.int .i64 v,.slice Al nl cl,.int .i64 k,.bool s,.slice A m c,.slice A' m' c',.slice (some ⟨bm,om,none⟩) (O + 1) cm]
 rw [<- hW]
 clear hW
 intro w1 xs hx1 hx2 hb1
 have X1:Hd (Blk w1 (w.heap.size + 1) 27 xs):=aH hx1
 have HX2:=aH hx2
 have P1:=aH (P0.o.below hb1 (by omega))
 have B1:=aH (PB.o.trans (hb1.mono (by omega)))
 have y0:=X1.o.frozen (O * 3)
 have y1:=X1.o.frozen (O * 3 + 1)
 have y2:=X1.o.frozen (O * 3 + 2)
 have u0:=X1.o.cell (O * 3)
 have u1:=X1.o.cell (O * 3 + 1)
 have u2:=X1.o.cell (O * 3 + 2)
 rw [eG (by omega)] at u0 u1 u2
 obtain ⟨z0,hz0⟩:=nm (xs[O * 3]'(by omega))
 obtain ⟨z1,hz1⟩:=nm (xs[O * 3 + 1]'(by omega))
 obtain ⟨z2,hz2⟩:=nm (xs[O * 3 + 2]'(by omega))
 rw [hz0] at u0
 rw [hz1] at u1
 rw [hz2] at u2
 clear hx1 hx2 hb1 P0 PB hz0 hz1 hz2
 obtain ⟨p0,p1,p2,p3,p4,p5,p6,p7⟩:=an P1.o
 go_wp2_with fail
 go_loopg [8] p (fun gh i wz=>i = .int .i64 (gh:Int)/\gh < O/\Hd (LowsAt wz (w.heap.size + 1) O v gs Al nl cl (gh + 1))/\Hd (Blk wz w.heap.size 43 [.int .i64 O,.int .i64 v,.slice Al nl cl,.int .i64 k,.bool s,.slice A m c,.slice A' m' c',.slice (some ⟨bm,om,none⟩) (O + 1) cm])/\Hd (Below w.heap.size w wz))
 case atStart=>exact ⟨rfl,by omega,aH (by have:=LowsAt.start (v:=v) (gs:=gs) (Al:=Al) (nl:=nl) (cl:=cl) X1.o HX2.o; rwa [<- show p + 1 = O from hl] at this ⊢),aH (P1.o.far3 (by omega) _ _ _ _ _ _),aH (aL B1.o (by omega) _ _ _ _ _ _)⟩
 clear X1 HX2 P1 B1 y0 y1 y2 u0 u1 u2 p0 p1 p2 p3 p4 p5 p6 p7
 obtain ⟨wt,rfl⟩:∃ x,x = wr:=⟨_,rfl⟩
 obtain ⟨rfl,hgO,TB,PT,BT⟩:=hrel
 have sT:=TB.o.lt
 rcases zP gk with hh | hh
 ·subst hh
  go_wp2_with (at_make; refine aD rfl _ _ rfl ((v:Int) + 1) (v + 1) rfl rfl (by omega) (by omega) ?_)
  intro w2 hf2 hb2
  have F2:=aH hf2.arc
  have K2:=aH hb2
  clear hf2 hb2
  go_wp2_with (at_make; refine aD rfl _ _ rfl ((v:Int) + 1) (v + 1) rfl rfl (by omega) (by omega) ?_)
  intro w3 hf3 hb3
  have E3:=aH hf3.arc
  have F3:=aH (F2.o.below hb3)
  have K3:=aH (K2.o.trans (hb3.mono K2.o.size))
  have hbo:wt.heap.size < w2.heap.size:=F2.o.lt
  obtain ⟨bo,hbo'⟩:=nm (wt.heap.size)
  obtain ⟨be,hbe'⟩:=nm (w2.heap.size)
  have hbt:=BT.o.size
  rw [hbe'] at hbo E3 ⊢
  rw [hbo'] at F3 ⊢
  have nbE:be ≠ bo:=by omega
  have nbOE:bo ≠ be:=by omega
  have nbL:w.heap.size ≠ bo:=by omega
  have nbM0:bm < wt.heap.size:=by omega
  have nbM:bm ≠ bo:=by omega
  have nbM2:bm ≠ be:=by omega
  have nbL2:w.heap.size ≠ be:=by omega
  have sT2:w.heap.size + 1 < bo:=by omega
  obtain ⟨ow,how⟩:∃ f:Nat->Nat->Rat,f = fun j x=>jD (ap O gs) v mix h x j:=⟨_,rfl⟩
  have OW:=aH how
  obtain ⟨e0,he0⟩:∃ q:Rat,(1:Rat) / ((v + 1:Nat):Rat) = q:=⟨_,rfl⟩
  have HE0:Hd ((1:Int) / (((v:Int) + 1:Int):Rat) = e0):=aH (by rw [<- he0]; rfl)
  have HFL:Hd (dO v = List.replicate (v + 1) e0):=aH (by rw [<- he0]; rfl)
  clear F2 K2 hb3 hf3 how he0 hbe'
  go_wp2_with fail
  have HM0:Hd (mix.getD 0 0 = x0):=aH (by rw [gD,HX0.o]; rfl)
  have HOW1:Hd (∀ q,q < v + 1->x0 * e0 = ow 1 q):=aH (fun q hq=>by
   rw [OW.o]
   show x0 * e0 = (0:Rat) + mix.getD 0 0 * (dO v).getD q 0
   rw [Rat.zero_add,HFL.o,HM0.o,gD,List.getElem?_replicate_of_lt hq]
   rfl)
  have QE0:Hd (QB 128 e0):=aH (ja (T:=ap O gs) (fun a b=>HT.o.mild O a b) hv8 h 0 e0 (by show e0 ∈ dO v; rw [HFL.o]; simp))
  have QX0:=aH (QM.o x0 (mG HX0.o))
  obtain ⟨XX,hXX⟩:∃ y:Rat,x0 * e0 = y:=⟨_,rfl⟩
  have HXX:=aH hXX
  rw [hXX] at HOW1
  clear hXX
  go_loopg [11] (v + 1) (fun gq ii wz=>∃ (q:Nat),ii = .int .i64 q/\q + gq = v + 1/\Hd (FArc wz bo ((List.range q).map (ow 1) ++ List.replicate gq 0))/\Hd (FArc wz be ((List.range q).map (fun _=>e0) ++ List.replicate gq 0))/\Hd (Below wt.heap.size wt wz))
  case atStart=>exact ⟨0,rfl,by omega,aH (by simpa using F3.o),aH (by simpa using E3.o),K3⟩
  clear F3 E3 K3
  obtain ⟨q,rfl,hq,F4,E4,B4⟩:=hrel
  rcases zP gk with hh | hh
  ·subst hh
   obtain rfl:q = v + 1:=by omega
   have d1:decide ((v:Int) + 1 <= (v:Int)) = false:=dF (by omega)
   have d2:decide (v + 1 <= v) = false:=dF (by omega)
   have F5:Hd (FArc wr bo ((List.range (v + 1)).map (ow 1))):=aH (by have:=F4.o; rwa [List.replicate_zero,List.append_nil] at this)
   have E5:Hd (FArc wr be (cG (ap O gs) v h (1 - 1))):=aH (by
    have:=E4.o
    rw [List.replicate_zero,List.append_nil] at this
    show FArc wr be (dO v)
    rw [HFL.o]
    have e:List.replicate (v + 1) e0 = (List.range (v + 1)).map (fun _=>e0):=by
     apply List.ext_getElem?
     intro i
     by_cases hi:i < v + 1
     ·rw [List.getElem?_map,List.getElem?_range hi,List.getElem?_replicate_of_lt hi]; rfl
     rw [nI.2 (by simp; omega),nI.2 (by simp; omega)]
    rw [e]
    exact this)
   clear F4 E4
   go_wp2_with fail
   go_loopg [12,13,14,15] O (fun gh jj _ _ _ wz=>∃ (j:Nat),jj = .int .i64 j/\j + gh = O + 1/\1 <= j/\Hd (FArc wz be (cG (ap O gs) v h (j - 1)))/\Hd (FArc wz bo ((List.range (v + 1)).map (ow j)))/\Hd (Below wt.heap.size wt wz))
   case atStart=>exact ⟨1,rfl,by omega,by omega,E5,F5,B4⟩
   clear E5 F5 B4
   obtain ⟨w9,rfl⟩:∃ x,x = wr:=⟨_,rfl⟩
   obtain ⟨j,rfl,hj,hj1,E2,F2,B2⟩:=hrel
   rcases zP gk with hh | hh
   ·subst hh
    obtain rfl:j = O + 1:=by omega
    have d1:decide ((O:Int) + 1 <= (O:Int)) = false:=dF (by omega)
    have d2:decide (O + 1 <= O) = false:=dF (by omega)
    go_wp2_with fail
    go_ret
    exact ⟨_,rfl,by omega,by
     have:=F2.o
     rw [OW.o] at this
     exact this,BT.o.trans (B2.o.mono BT.o.size)⟩
   obtain ⟨gh,rfl⟩:∃ g,gk = g + 1:=⟨gk - 1,by omega⟩
   obtain ⟨i,rfl⟩:∃ i,j = i + 1:=⟨j - 1,by omega⟩
   obtain ⟨kk,rfl⟩:∃ k,p = k + i:=⟨p - i,by omega⟩
   have E2:Hd (FArc w9 be (cG (ap O gs) v h i)):=E2
   have d1:decide ((i:Int) + 1 <= (O:Int)) = true:=dT (by omega)
   have d2:decide (i + 1 <= O) = true:=dT (by omega)
   have a1:IntKind.i64.wrap ((O:Int) - ((i:Int) + 1)) = (kk:Int):=by rw [show (O:Int) - ((i:Int) + 1) = (kk:Int) by omega]; exact iI _ (by omega)
   have a4:(0:Int) <= (kk:Int):=by omega
   have a5:(kk:Int) <= (kk:Int) + (i:Int):=by omega
   have a6:(kk:Int) <= (ch:Int):=by omega
   have a7:(0:Int) <= (i:Int) + 1:=by omega
   have a8:(i:Int) + 1 < (O:Int) + 1:=by omega
   have IW:=aH (HI.o.below (BT.o.trans (B2.o.mono BT.o.size)))
   have HDL:Hd ((h.drop kk).length = i):=aH (by rw [List.length_drop,HLN.o]; omega)
   obtain ⟨A2,m2,c2,t0,t1,t2,hm2,hg2⟩:=(TB.o.below B2.o).get (HG.o.below (BT.o.trans (B2.o.mono BT.o.size))) (j:=i + 1) (by omega) (by omega)
   rw [show ((i + 1:Nat):Int) = (i:Int) + 1 by omega] at t0
   obtain ⟨tb,htb⟩:=nm (dE gs (O - (i + 1)))
   have hTJ:=HTL.o (i + 1) (by omega)
   obtain ⟨CJ,hCJ0⟩:=nm (ap O gs (i + 1) (h.drop kk))
   have hCJ:(fun x=>tot 0 (dE gs (O - (i + 1))) (h.drop kk ++ [x])) = CJ:=by
    rw [<- hCJ0]
    funext x
    rw [hTJ.2]
    unfold ap
    rw [Nat.zero_add]
   rw [htb] at hg2 hTJ hCJ
   have TJB:=aH hTJ.1
   have GJ:=aH hg2
   have HCJ:=aH hCJ
   have HCJ0:=aH hCJ0
   obtain ⟨SJ,hSJ⟩:=nm (aM CJ v)
   have HSJ:=aH hSJ
   have ML:Hd (Mild CJ):=aH (by rw [<- hCJ0]; exact HT.o.mild O (i + 1) (h.drop kk))
   have hsb:=bH ML.o v
   rw [hSJ] at hsb
   obtain ⟨old,hold⟩:=nm (cG (ap O gs) v h i)
   obtain ⟨new,hnew⟩:=nm (cG (ap O gs) v h (i + 1))
   have EST:Hd (new = if 0 < SJ then bQ CJ v else old):=aH (by
    have e:h.length - i = kk:=by rw [HLN.o]; omega
    rw [<- hnew]
    show (if 0 < aM (ap O gs (i + 1) (h.drop (h.length - i))) v then bQ (ap O gs (i + 1) (h.drop (h.length - i))) v else cG (ap O gs) v h i) = _
    rw [e,hCJ0,hSJ,hold])
   have HOL:Hd (old.length = v + 1):=aH (by rw [<- hold]; exact dD _ _ _ _)
   have HNL:Hd (new.length = v + 1):=aH (by rw [<- hnew]; exact dD _ _ _ _)
   obtain ⟨ef,hef⟩:∃ f:Nat->Rat,f = fun (x:Nat)=>new.getD x 0:=⟨_,rfl⟩
   have HEF:=aH hef
   have HEFP:Hd (0 < SJ->∀ q,q < v + 1->ef q = ((CJ (q:Int):Int):Rat) / (SJ:Rat)):=aH (fun hz q hq=>by
    rw [HEF.o,EST.o,if_pos hz]
    unfold bQ
    show List.getD _ q 0 = _
    rw [ti hq,HSJ.o])
   have HEFN:Hd (¬ 0 < SJ->∀ q,ef q = old.getD q 0):=aH (fun hz q=>by
    rw [HEF.o,EST.o,if_neg hz])
   have QE:Hd (∀ q,q < v + 1->QB 128 (ef q)):=aH (fun q hq=>by
    rw [HEF.o]
    show QB 128 (new.getD q 0)
    rw [gD,eG (by rw [HNL.o]; exact hq)]
    exact ja (T:=ap O gs) (fun a b=>HT.o.mild O a b) hv8 h (i + 1) _ (by rw [hnew]; exact List.getElem_mem _))
   have HNEW:=aH hnew
   rw [hold] at E2
   have sT:=(TB.o.below B2.o).lt
   clear htb hTJ hCJ hCJ0 hSJ hold hnew hef hm2 hg2
   go_upto_region 19 with fail
   go_cut [13,14] (fun cv sv wc=>∃ cb,cv = .slice (some ⟨cb,0,none⟩) (v + 1) (v + 1)/\sv = .int .i64 SJ/\Hd (w9.heap.size <= cb)/\Hd (CntAt wc cb v CJ)/\Hd (Below w9.heap.size w9 wc))
   case first =>
    have hS:=aI t0 (aI t1 t2)
    by_cases hck:ch = kk
    case' pos=>obtain rfl:kk = ch:=hck.symm
    all_goals
     go_wp2_with fail
     go_region_held3 (fun w'=>w'.cell? ⟨w.heap.size + 1,(i + 1) * 3,none⟩ = some (.int .i64 ((i:Int) + 1))/\w'.cell? ⟨w.heap.size + 1,(i + 1) * 3 + 1,none⟩ = some (.int .i64 v)/\w'.cell? ⟨w.heap.size + 1,(i + 1) * 3 + 2,none⟩ = some (.slice A2 m2 c2))
      (first | assumption | exact hS | go_keep)
      (first
       | (go_at_call 114; refine (mH _ (i + 1) v _ tb _ (h.drop kk) (GJ.o.below (bS _)) ?_ TJB.o.1 ⟨by omega,by omega⟩ hv8 (by rw [HDL.o])).mono ?_; (first | exact IntsAt.drew (IW.o.cut HLN.o (by omega) (by omega)) | (rw [List.eq_nil_of_length_eq_zero (HDL.o.trans (show i = 0 by omega))]; exact IntsAt.none_ (by omega))); rw [HCJ.o,HSJ.o]; rintro e wc ⟨cb,rfl,hcb,hct,hb'⟩; have hb:=bO hb'; have BC:=aH hb; have CT:Hd (CntAt wc cb v CJ):=aH hct; have hcb2:w9.heap.size <= cb:=hcb; have hS:=(⟨(BC.o.cell (p:=⟨w.heap.size + 1,(i + 1) * 3,none⟩) sT).trans t0,(BC.o.cell (p:=⟨w.heap.size + 1,(i + 1) * 3 + 1,none⟩) sT).trans t1,(BC.o.cell (p:=⟨w.heap.size + 1,(i + 1) * 3 + 2,none⟩) sT).trans t2⟩:(fun w'=>w'.cell? ⟨w.heap.size + 1,(i + 1) * 3,none⟩ = some (.int .i64 ((i:Int) + 1))/\w'.cell? ⟨w.heap.size + 1,(i + 1) * 3 + 1,none⟩ = some (.int .i64 v)/\w'.cell? ⟨w.heap.size + 1,(i + 1) * 3 + 2,none⟩ = some (.slice A2 m2 c2)) wc); clear hct hcb hb hb'))
     all_goals
      go_wp2_with fail
      go_meet
      exact ⟨_,rfl,rfl,aH hcb2,CT,BC⟩
   obtain ⟨cb,rfl,rfl,hcb3,CT,BC⟩:=hcut
   have hcb2:=hcb3.o
   clear hcb3
   clear t0 t1 t2
   have E3:=aH (E2.o.below BC.o)
   have F3:=aH (F2.o.below BC.o)
   have B3:=aH (B2.o.trans (BC.o.mono B2.o.size))
   have sO2:bo < w9.heap.size:=F2.o.lt
   have sE2:be < w9.heap.size:=E2.o.lt
   have nbC:cb ≠ bo:=by omega
   have nbC2:cb ≠ be:=by omega
   clear E2 F2 B2 BC
   go_wp2_with fail
   go_loopg [15] (v + 1) (fun gq ii wz=>∃ (q:Nat),ii = .int .i64 q/\q + gq = v + 1/\Hd (FArc wz bo ((List.range q).map (ow (i + 2)) ++ ((List.range (v + 1)).map (ow (i + 1))).drop q))/\Hd (FArc wz be ((List.range q).map ef ++ old.drop q))/\Hd (CntAt wz cb v CJ)/\Hd (Below wt.heap.size wt wz))
   case atStart=>exact ⟨0,rfl,by omega,aH (by simpa using F3.o),aH (by simpa using E3.o),CT,B3⟩
   clear E3 F3 CT B3
   obtain ⟨q,rfl,hq,F6,E6,C6,B6⟩:=hrel
   rcases zP gk with hh | hh
   ·subst hh
    obtain rfl:q = v + 1:=by omega
    have d1:decide ((v:Int) + 1 <= (v:Int)) = false:=dF (by omega)
    have d2:decide (v + 1 <= v) = false:=dF (by omega)
    have j9:IntKind.i64.wrap ((i:Int) + 1 + 1) = (i:Int) + 1 + 1:=iI _ (by omega)
    go_wp2_with fail
    go_roundg gh
    case measure=>omega
    case rel=>exact ⟨i + 2,rfl,by omega,by omega,aH (by
     have:=E6.o
     rw [dN (by rw [HOL.o]; exact nR _),List.append_nil,HEF.o,js _ HNL.o] at this
     rw [show i + 2 - 1 = i + 1 by omega,HNEW.o]
     exact this),aH (by
     have:=F6.o
     rwa [dN (by simp),List.append_nil] at this),B6⟩
   obtain ⟨gq,rfl⟩:∃ g,gk = g + 1:=⟨gk - 1,by omega⟩
   have d1:decide ((q:Int) <= (v:Int)) = true:=dT (by omega)
   have d2:decide (q <= v) = true:=dT (by omega)
   have q1:(0:Int) <= (q:Int):=by omega
   have q2:(q:Int) < (v:Int) + 1:=by omega
   have j9:IntKind.i64.wrap ((q:Int) + 1) = (q:Int) + 1:=iI _ (by omega)
   have QLH:Hd (q < old.length):=aH (by rw [HOL.o]; omega)
   obtain ⟨w8,rfl⟩:∃ x,x = wr:=⟨_,rfl⟩
   go_upto_if 98 with fail
   go_cut [15] (fun iv wc=>iv = .int .i64 q/\Hd (FArc wc bo ((List.range q).map (ow (i + 2)) ++ ((List.range (v + 1)).map (ow (i + 1))).drop q))/\Hd (FArc wc be ((List.range (q + 1)).map ef ++ old.drop (q + 1)))/\Hd (CntAt wc cb v CJ)/\Hd (Below wt.heap.size wt wc))
   case first =>
    by_cases hz:0 < SJ
    ·have z1:decide (0 < SJ) = true:=dT hz
     obtain ⟨cj,hcj⟩:=nm (CJ (q:Int))
     have hm:=ML.o (q:Int)
     have kq:=C6.o.cell (x:=q) (by omega)
     rw [hcj] at hm kq
     have HV:Hd ((cj:Rat) / (SJ:Rat) = ef q):=aH (by rw [HEFP.o hz q (by omega),hcj])
     clear hcj
     go_wp2_with fail
     refine (lR _ cj SJ hm.1 (by omega) hz (by omega)).mono ?_
     rintro e w5 ⟨u,rfl,t5,hb5⟩
     rw [HV.o] at t5
     obtain ⟨Ar,mr,cr,Ar',mr',cr',rfl⟩:=t5.at_.open_
     have T5:=aH t5.at_
     have E5:=aH (E6.o.below hb5)
     have F5:=aH (F6.o.below hb5)
     have C5:Hd (CntAt w5 cb v CJ):=aH (Blk.below' C6.o hb5)
     have B5:=aH (B6.o.trans (hb5.mono B6.o.size))
     obtain ⟨_,_,_,_,_,_,f0,f1,f2,y0,y1,y2,_⟩:=E5.o.get (fz ef old QLH.o)
     clear t5 hb5 kq
     go_wp2_with fail
     go_meet
     exact ⟨rfl,aH (F5.o.far E5.o nbOE _ _ _ _ _ _ _ _ _ _),aH (by
      have:=E5.o.put (i:=q) (by have:=QLH.o; simp; omega) rfl T5.o
      rwa [cN ef old QLH.o rfl] at this),aH (Blk.far3 C5.o nbC2 _ _ _ _ _ _),aH (aL B5.o (by omega) _ _ _ _ _ _)⟩
    have z1:decide (0 < SJ) = false:=dF hz
    go_wp2_with fail
    go_meet
    exact ⟨rfl,F6,aH (by
     rw [List.range_succ,List.map_append,List.append_assoc]
     have h1:=E6.o
     rw [List.drop_eq_getElem_cons QLH.o] at h1
     have h2:ef q = old[q]'(QLH.o):=by
      rw [HEFN.o hz q,gD,eG QLH.o]
      rfl
     show FArc _ be ((List.range q).map ef ++ ([ef q] ++ old.drop (q + 1)))
     rw [h2]
     exact h1),C6,B6⟩
   obtain ⟨rfl,F6,E6,C6,B6⟩:=hcut
   obtain ⟨x,hx⟩:∃ x,mix[i + 1]? = some x:=⟨_,eG (by rw [HML.o]; omega)⟩
   obtain ⟨ng,An,nn,cn,Ad,nd,cd,e0,e1,e2,hfx⟩:=HMJ.o (i + 1) x hx
   have HGX:Hd (mix.getD (i + 1) 0 = x):=aH (by rw [gD,hx]; rfl)
   have QX:=aH (QM.o x (mG hx))
   have BW:=aH (BT.o.trans (B6.o.mono BT.o.size))
   have TX:=aH ((hfx.below BW.o).mono (show 64 <= 2000 by omega))
   have c0:=(BW.o.cell (p:=⟨bm,om + (i + 1) * 3,none⟩) hbm).trans e0
   have c1:=(BW.o.cell (p:=⟨bm,om + (i + 1) * 3 + 1,none⟩) hbm).trans e1
   have c2:=(BW.o.cell (p:=⟨bm,om + (i + 1) * 3 + 2,none⟩) hbm).trans e2
   obtain ⟨o,ho⟩:=nm (ow (i + 1) q)
   obtain ⟨pe,hpe⟩:=nm (ef q)
   have hlo:q < ((List.range (v + 1)).map (ow (i + 1))).length:=by simp; omega
   have hgo:=fz (ow (i + 2)) ((List.range (v + 1)).map (ow (i + 1))) hlo
   rw [show ((List.range (v + 1)).map (ow (i + 1))).getD q 0 = o by rw [gD,List.getElem?_map,List.getElem?_range (show q < v + 1 by omega),<- ho]; rfl] at hgo
   have hge:((List.range (q + 1)).map ef ++ old.drop (q + 1))[q]? = some pe:=by
    rw [List.getElem?_append_left (by simp),List.getElem?_map,List.getElem?_range (by omega),<- hpe]
    rfl
   have QP:Hd (QB 128 pe):=aH (by rw [<- hpe]; exact QE.o q (by omega))
   have QO:Hd (QB 966 o):=aH (by rw [<- ho,OW.o]; exact (lQ (fun a b=>HT.o.mild O a b) hv8 QM.o h q (i + 1)).mono (by omega))
   obtain ⟨X1,hX1⟩:∃ y:Rat,x * pe = y:=⟨_,rfl⟩
   have Q1:Hd (QB 200 X1):=aH (by rw [<- hX1]; exact (QX.o.mul QP.o).mono (by omega))
   obtain ⟨X2,hX2⟩:∃ y:Rat,o + X1 = y:=⟨_,rfl⟩
   have HV:Hd (X2 = ow (i + 2) q):=aH (by
    rw [<- hX2,<- hX1,<- ho,<- hpe,HEF.o,OW.o,<- HGX.o,<- HNEW.o]
    rfl)
   have HX1:=aH hX1
   have HX2:=aH hX2
   have HGO:=aH hgo
   have HLO:=aH hlo
   obtain ⟨Ao,mo,co,Ao',mo',co',g0,g1,g2,y0,y1,y2,tO⟩:=F6.o.get hgo
   obtain ⟨Ae,me,ce,Ae',me',ce',k0,k1,k2,_,_,_,tE⟩:=E6.o.get hge
   have TO:=aH (tO.frac (k:=2000) (QO.o.mono (by omega)) (by omega))
   have TE:=aH (tE.frac (k:=2000) (QP.o.mono (by omega)) (by omega))
   obtain ⟨p0,p1,p2,p3,p4,p5,p6,p7⟩:=an (PT.o.below' B6.o)
   have sO:=F6.o.lt
   have sE:=E6.o.lt
   have sz6:=B6.o.size
   have sL:w.heap.size < wc.heap.size:=by omega
   have sM:bm < wc.heap.size:=by omega
   have q3:(0:Int) <= (i:Int) + 1:=by omega
   have q4:(i:Int) + 1 < (O:Int) + 1:=by omega
   have nbM:bm ≠ bo:=by omega
   clear hx e0 e1 e2 hfx ho hpe hlo hgo hge hX1 hX2 tO tE
   have HSET:Hd (∀ w',Below wc.heap.size wc w'->(fun w'=>w'.cell? ⟨w.heap.size,7,none⟩ = some (.slice (some ⟨bm,om,none⟩) (O + 1) cm)/\w'.cell? ⟨bm,om + (i + 1) * 3,none⟩ = some (.bool ng)/\w'.cell? ⟨bm,om + (i + 1) * 3 + 1,none⟩ = some (.slice An nn cn)/\w'.cell? ⟨bm,om + (i + 1) * 3 + 2,none⟩ = some (.slice Ad nd cd)/\w'.cell? ⟨be,q * 3,none⟩ = some (.bool (ae pe))/\w'.cell? ⟨be,q * 3 + 1,none⟩ = some (.slice Ae me ce)/\w'.cell? ⟨be,q * 3 + 2,none⟩ = some (.slice Ae' me' ce')) w'):=aH (fun w' hb=>⟨(hb.cell (p:=⟨w.heap.size,7,none⟩) sL).trans p7,(hb.cell (p:=⟨bm,om + (i + 1) * 3,none⟩) sM).trans c0,(hb.cell (p:=⟨bm,om + (i + 1) * 3 + 1,none⟩) sM).trans c1,(hb.cell (p:=⟨bm,om + (i + 1) * 3 + 2,none⟩) sM).trans c2,(hb.cell (p:=⟨be,q * 3,none⟩) sE).trans k0,(hb.cell (p:=⟨be,q * 3 + 1,none⟩) sE).trans k1,(hb.cell (p:=⟨be,q * 3 + 2,none⟩) sE).trans k2⟩)
   clear p7 c0 c1 c2 k0 k1 k2 p0 p1 p2 p3 p4 p5 p6
   go_wp2_with fail
   refine wp_region_held_drew (S:=(fun w'=>w'.cell? ⟨w.heap.size,7,none⟩ = some (.slice (some ⟨bm,om,none⟩) (O + 1) cm)/\w'.cell? ⟨bm,om + (i + 1) * 3,none⟩ = some (.bool ng)/\w'.cell? ⟨bm,om + (i + 1) * 3 + 1,none⟩ = some (.slice An nn cn)/\w'.cell? ⟨bm,om + (i + 1) * 3 + 2,none⟩ = some (.slice Ad nd cd)/\w'.cell? ⟨be,q * 3,none⟩ = some (.bool (ae pe))/\w'.cell? ⟨be,q * 3 + 1,none⟩ = some (.slice Ae me ce)/\w'.cell? ⟨be,q * 3 + 2,none⟩ = some (.slice Ae' me' ce'))) (by kernel_rfl) (HSET.o _ (bS wc)) (fun hHeld=>?_)
   refine tjj 0 ?_ rfl (by kernel_rfl) rfl ‹_› ?_ (fun _ _ _ h=>h) (tjj 1 ?_ rfl (by kernel_rfl) rfl ‹_› ?_ (fun _ _ _ h=>h) (tjj 2 ?_ rfl (by kernel_rfl) rfl ‹_› ?_ (fun _ _ _ h=>h) (tjj 3 ?_ rfl (by kernel_rfl) rfl ‹_› ?_ (fun _ _ _ h=>h) (tjj 4 ?_ rfl (by kernel_rfl) rfl ‹_› ?_ (fun _ _ _ h=>h) (tjj 6 ?_ rfl (by kernel_rfl) rfl ‹_› ?_ (fun _ _ _ h=>h) (tjj 7 ?_ rfl (by kernel_rfl) rfl ‹_› ?_ (fun _ _ _ h=>h) (tjj 8 ?_ rfl (by kernel_rfl) rfl ‹_› ?_ (fun _ _ _ h=>h) (tjj 9 ?_ rfl (by kernel_rfl) rfl ‹_› ?_ (fun _ _ _ h=>h) (tjj 10 ?_ rfl (by kernel_rfl) rfl ‹_› ?_ (fun _ _ _ h=>h) (tjj 11 ?_ rfl (by kernel_rfl) rfl ‹_› ?_ (fun _ _ _ h=>h) (tjj 12 ?_ rfl (by kernel_rfl) rfl ‹_› ?_ (fun _ _ _ h=>h) (tjj 13 ?_ rfl (by kernel_rfl) rfl ‹_› ?_ (fun _ _ _ h=>h) (tjj 14 ?_ rfl (by kernel_rfl) rfl ‹_› ?_ (fun _ _ _ h=>h) ?_)))))))))))))
   iterate 14 (rotate_left; · (intro w' hSw; (try dsimp only at hSw); (try go_frame); go_simp <;> with_reducible rfl))
   go_frame
   refine wpAnyH_ready (rs:=[5,15]) (by kernel_rfl) (by simp) ?_
   refine AllReadyH.cons rfl (fun K hK=>?_) (AllReadyH.cons rfl (fun K hK=>?_) AllReadyH.nil)
   ·go_simp
    refine hK.out _ _ hHeld (fun _=>?_)
    clear hK K
    try go_frame
    refine wpAnyH_ready (rs:=[15]) (by kernel_rfl) (by simp) ?_
    refine AllReadyH.cons rfl (fun K hK=>?_) AllReadyH.nil
    go_simp
    refine (mV _ _ _ x pe 2000 (TX.o.below (bS _)) (TE.o.below (bS _)) (by omega) (by omega)).mono ?_
    rintro e wl ⟨u,rfl,t,hb'⟩
    rw [HX1.o] at t
    have hb:=bO hb'
    have BB:=aH hb
    have T1:=aH (t.at_.frac (k:=2000) (Q1.o.mono (by omega)) (by omega))
    obtain ⟨Az,mz,cz,Az',mz',cz',rfl⟩:=t.at_.open_
    clear hHeld t hb'
    have hS:=HSET.o wl hb
    try go_simp
    refine hK.out _ _ hS (fun hHeld=>?_)
    clear hK K hS
    try go_frame
    refine wpAnyH_ready (rs:=[16]) (by kernel_rfl) (by simp) ?_
    refine AllReadyH.cons rfl (fun K hK=>?_) AllReadyH.nil
    go_simp
    clear hHeld
    refine (nO _ _ _ o X1 2000 (TO.o.below BB.o) T1.o (by omega) (by omega)).mono ?_
    rintro e wl2 ⟨u,rfl,t,hb2⟩
    rw [HX2.o,HV.o] at t
    have BB2:=aH (BB.o.trans (hb2.mono BB.o.size))
    obtain ⟨As,ms,cs,As',ms',cs',rfl⟩:=t.at_.open_
    have T2:=aH t.at_
    clear t hb2
    have hS:=HSET.o wl2 BB2.o
    try go_simp
    refine hK.out _ _ hS (fun hHeld=>?_)
    clear hK K hS
    try go_frame
    refine tjj 17 ?_ rfl (by kernel_rfl) rfl ‹_› ?_ (fun _ _ _ h=>h) ?_
    rotate_left
    ·(intro w' hSw; (try dsimp only at hSw); (try go_frame); go_simp <;> with_reducible rfl)
    go_frame
    obtain ⟨_,_,_,_,_,_,z0,z1,z2,x0,x1,x2,_⟩:=(F6.o.below BB2.o).get HGO.o
    refine wpAnyH_ready (rs:=[18]) (by kernel_rfl) (by simp) ?_
    refine AllReadyH.cons rfl (fun K hK=>?_) AllReadyH.nil
    go_simp
    refine hK.out _ _ ⟨aj hHeld.1 nbL _ _ _ _ _ _,aj hHeld.2.1 nbM _ _ _ _ _ _,aj hHeld.2.2.1 nbM _ _ _ _ _ _,aj hHeld.2.2.2.1 nbM _ _ _ _ _ _,aj hHeld.2.2.2.2.1 nbE _ _ _ _ _ _,aj hHeld.2.2.2.2.2.1 nbE _ _ _ _ _ _,aj hHeld.2.2.2.2.2.2 nbE _ _ _ _ _ _⟩ (fun _=>?_)
    clear hK K hHeld
    try go_frame
    refine wpAnyH_done (by kernel_rfl) ?_ _
    go_wp2_with fail
    go_roundg gq
    case measure=>omega
    case rel =>
     have F8:=F6.o.below BB2.o
     exact ⟨q + 1,rfl,by omega,aH (by
      have:=F8.put (i:=q) (by have:=HLO.o; simp; omega) rfl T2.o
      rwa [cN (ow (i + 2)) _ HLO.o rfl] at this),aH ((E6.o.below BB2.o).far F8 nbE _ _ _ _ _ _ _ _ _ _),aH (Blk.far3 (Blk.below' C6.o BB2.o) nbC _ _ _ _ _ _),aH (aL (B6.o.trans (BB2.o.mono B6.o.size)) (by omega) _ _ _ _ _ _)⟩
   go_simp
   refine (mV _ _ _ x pe 2000 (TX.o.below (bS _)) (TE.o.below (bS _)) (by omega) (by omega)).mono ?_
   rintro e wl ⟨u,rfl,t,hb'⟩
   rw [HX1.o] at t
   have hb:=bO hb'
   have BB:=aH hb
   have T1:=aH (t.at_.frac (k:=2000) (Q1.o.mono (by omega)) (by omega))
   obtain ⟨Az,mz,cz,Az',mz',cz',rfl⟩:=t.at_.open_
   clear hHeld t hb'
   have hS:=HSET.o wl hb
   try go_simp
   refine hK.out _ _ hS (fun hHeld=>?_)
   clear hK K hS
   try go_frame
   have o0:=(BB.o.cell (p:=⟨bo,q * 3,none⟩) sO).trans g0
   have o1:=(BB.o.cell (p:=⟨bo,q * 3 + 1,none⟩) sO).trans g1
   have o2:=(BB.o.cell (p:=⟨bo,q * 3 + 2,none⟩) sO).trans g2
   refine wpAnyH_ready (rs:=[5]) (by kernel_rfl) (by simp) ?_
   refine AllReadyH.cons rfl (fun K hK=>?_) AllReadyH.nil
   go_simp
   refine hK.out _ _ hHeld (fun _=>?_)
   clear hK K o0 o1 o2
   try go_frame
   refine wpAnyH_ready (rs:=[16]) (by kernel_rfl) (by simp) ?_
   refine AllReadyH.cons rfl (fun K hK=>?_) AllReadyH.nil
   go_simp
   clear hHeld
   refine (nO _ _ _ o X1 2000 (TO.o.below BB.o) T1.o (by omega) (by omega)).mono ?_
   rintro e wl2 ⟨u,rfl,t,hb2⟩
   rw [HX2.o,HV.o] at t
   have BB2:=aH (BB.o.trans (hb2.mono BB.o.size))
   obtain ⟨As,ms,cs,As',ms',cs',rfl⟩:=t.at_.open_
   have T2:=aH t.at_
   clear t hb2
   have hS:=HSET.o wl2 BB2.o
   try go_simp
   refine hK.out _ _ hS (fun hHeld=>?_)
   clear hK K hS
   try go_frame
   refine tjj 17 ?_ rfl (by kernel_rfl) rfl ‹_› ?_ (fun _ _ _ h=>h) ?_
   rotate_left
   ·(intro w' hSw; (try dsimp only at hSw); (try go_frame); go_simp <;> with_reducible rfl)
   go_frame
   obtain ⟨_,_,_,_,_,_,z0,z1,z2,x0,x1,x2,_⟩:=(F6.o.below BB2.o).get HGO.o
   refine wpAnyH_ready (rs:=[18]) (by kernel_rfl) (by simp) ?_
   refine AllReadyH.cons rfl (fun K hK=>?_) AllReadyH.nil
   go_simp
   refine hK.out _ _ ⟨aj hHeld.1 nbL _ _ _ _ _ _,aj hHeld.2.1 nbM _ _ _ _ _ _,aj hHeld.2.2.1 nbM _ _ _ _ _ _,aj hHeld.2.2.2.1 nbM _ _ _ _ _ _,aj hHeld.2.2.2.2.1 nbE _ _ _ _ _ _,aj hHeld.2.2.2.2.2.1 nbE _ _ _ _ _ _,aj hHeld.2.2.2.2.2.2 nbE _ _ _ _ _ _⟩ (fun _=>?_)
   clear hK K hHeld
   try go_frame
   refine wpAnyH_done (by kernel_rfl) ?_ _
   go_wp2_with fail
   go_roundg gq
   case measure=>omega
   case rel =>
    have F8:=F6.o.below BB2.o
    exact ⟨q + 1,rfl,by omega,aH (by
     have:=F8.put (i:=q) (by have:=HLO.o; simp; omega) rfl T2.o
     rwa [cN (ow (i + 2)) _ HLO.o rfl] at this),aH ((E6.o.below BB2.o).far F8 nbE _ _ _ _ _ _ _ _ _ _),aH (Blk.far3 (Blk.below' C6.o BB2.o) nbC _ _ _ _ _ _),aH (aL (B6.o.trans (BB2.o.mono B6.o.size)) (by omega) _ _ _ _ _ _)⟩
  obtain ⟨gq,rfl⟩:∃ g,gk = g + 1:=⟨gk - 1,by omega⟩
  have d1:decide ((q:Int) <= (v:Int)) = true:=dT (by omega)
  have d2:decide (q <= v) = true:=dT (by omega)
  have q1:(0:Int) <= (q:Int):=by omega
  have q2:(q:Int) < (v:Int) + 1:=by omega
  have j9:IntKind.i64.wrap ((q:Int) + 1) = (q:Int) + 1:=iI _ (by omega)
  obtain ⟨w9,rfl⟩:∃ x,x = wr:=⟨_,rfl⟩
  go_wp2_with fail
  refine (lR w9 1 ((v:Int) + 1) (by omega) (by omega) (by omega) (by omega)).mono ?_
  rintro e w5 ⟨u,rfl,t5,hb5⟩
  rw [HE0.o] at t5
  obtain ⟨Ar,mr,cr,Ar',mr',cr',rfl⟩:=t5.at_.open_
  have T5:=aH t5.at_
  have E5:=aH (E4.o.below hb5)
  have F5:=aH (F4.o.below hb5)
  have B5:=aH (B4.o.trans (hb5.mono B4.o.size))
  obtain ⟨_,_,_,_,_,_,f0,f1,f2,y0,y1,y2,_⟩:=E5.o.get (ff (fun _=>e0) q gq)
  clear t5 hb5 E4 F4 B4
  go_upto_region 15 with fail
  obtain ⟨W6,hW6⟩:∃ z,((w5.setCell ⟨be,q * 3,none⟩ (.bool (ae e0))).setCell ⟨be,q * 3 + 1,none⟩ (.slice Ar mr cr)).setCell ⟨be,q * 3 + 2,none⟩ (.slice Ar' mr' cr') = z:=⟨_,rfl⟩
  rw [hW6]
  have E6:Hd (FArc W6 be ((List.range (q + 1)).map (fun _=>e0) ++ List.replicate gq 0)):=aH (by
   rw [<- hW6]
   have:=E5.o.put (i:=q) (by simp) rfl T5.o
   rwa [eO (fun _=>e0) q gq rfl] at this)
  have F6:Hd (FArc W6 bo ((List.range q).map (ow 1) ++ List.replicate (gq + 1) 0)):=aH (by rw [<- hW6]; exact F5.o.far E5.o nbOE _ _ _ _ _ _ _ _ _ _)
  have B6:Hd (Below wt.heap.size wt W6):=aH (by rw [<- hW6]; exact aL B5.o (by omega) _ _ _ _ _ _)
  clear hW6 f0 f1 f2 y0 y1 y2 E5 F5 B5 T5
  obtain ⟨ng,An,nn,cn,Ad,nd,cd,m0,m1,m2',hfx⟩:=HMJ.o 0 x0 HX0.o
  have BW:=aH (BT.o.trans (B6.o.mono BT.o.size))
  have TX:=aH ((hfx.below BW.o).mono (show 64 <= 2000 by omega))
  rw [Nat.zero_mul,Nat.add_zero] at m0 m1 m2'
  have c0:=(BW.o.cell (p:=⟨bm,om,none⟩) hbm).trans m0
  have c1:=(BW.o.cell (p:=⟨bm,om + 1,none⟩) hbm).trans m1
  have c2:=(BW.o.cell (p:=⟨bm,om + 2,none⟩) hbm).trans m2'
  obtain ⟨Ae,me,ce,Ae',me',ce',k0,k1,k2,_,_,_,tE⟩:=E6.o.get (i:=q) (q:=e0) (by rw [List.getElem?_append_left (by simp),List.getElem?_map,List.getElem?_range (by omega)]; rfl)
  have TE:=aH (tE.frac (k:=2000) (QE0.o.mono (by omega)) (by omega))
  obtain ⟨p0,p1,p2,p3,p4,p5,p6,p7⟩:=an (PT.o.below' B6.o)
  have sE:=E6.o.lt
  have sz6:=B6.o.size
  have sL:w.heap.size < W6.heap.size:=by omega
  have sM:bm < W6.heap.size:=by omega
  have HSET:Hd (∀ w',Below W6.heap.size W6 w'->(fun w'=>w'.cell? ⟨w.heap.size,7,none⟩ = some (.slice (some ⟨bm,om,none⟩) (O + 1) cm)/\w'.cell? ⟨bm,om,none⟩ = some (.bool ng)/\w'.cell? ⟨bm,om + 1,none⟩ = some (.slice An nn cn)/\w'.cell? ⟨bm,om + 2,none⟩ = some (.slice Ad nd cd)/\w'.cell? ⟨be,q * 3,none⟩ = some (.bool (ae e0))/\w'.cell? ⟨be,q * 3 + 1,none⟩ = some (.slice Ae me ce)/\w'.cell? ⟨be,q * 3 + 2,none⟩ = some (.slice Ae' me' ce')) w'):=aH (fun w' hb=>⟨(hb.cell (p:=⟨w.heap.size,7,none⟩) sL).trans p7,(hb.cell (p:=⟨bm,om,none⟩) sM).trans c0,(hb.cell (p:=⟨bm,om + 1,none⟩) sM).trans c1,(hb.cell (p:=⟨bm,om + 2,none⟩) sM).trans c2,(hb.cell (p:=⟨be,q * 3,none⟩) sE).trans k0,(hb.cell (p:=⟨be,q * 3 + 1,none⟩) sE).trans k1,(hb.cell (p:=⟨be,q * 3 + 2,none⟩) sE).trans k2⟩)
  have BB:=aH (Below.refl W6.heap.size W6)
  have hS:=HSET.o W6 BB.o
  have HOQ:Hd (XX = ow 1 q):=aH (HOW1.o q (by omega))
  clear m0 m1 m2' hfx c0 c1 c2 k0 k1 k2 tE p0 p1 p2 p3 p4 p5 p6 p7
  go_region_held3 (fun w'=>w'.cell? ⟨w.heap.size,7,none⟩ = some (.slice (some ⟨bm,om,none⟩) (O + 1) cm)/\w'.cell? ⟨bm,om,none⟩ = some (.bool ng)/\w'.cell? ⟨bm,om + 1,none⟩ = some (.slice An nn cn)/\w'.cell? ⟨bm,om + 2,none⟩ = some (.slice Ad nd cd)/\w'.cell? ⟨be,q * 3,none⟩ = some (.bool (ae e0))/\w'.cell? ⟨be,q * 3 + 1,none⟩ = some (.slice Ae me ce)/\w'.cell? ⟨be,q * 3 + 2,none⟩ = some (.slice Ae' me' ce'))
   (first | assumption | exact ⟨aj hS.1 nbL _ _ _ _ _ _,aj hS.2.1 nbM _ _ _ _ _ _,aj hS.2.2.1 nbM _ _ _ _ _ _,aj hS.2.2.2.1 nbM _ _ _ _ _ _,aj hS.2.2.2.2.1 nbE _ _ _ _ _ _,aj hS.2.2.2.2.2.1 nbE _ _ _ _ _ _,aj hS.2.2.2.2.2.2 nbE _ _ _ _ _ _⟩ | exact hS)
   (first
    | (go_at_call 91; refine (mV _ _ _ x0 e0 2000 (TX.o.below (bS _)) (TE.o.below (bS _)) (by omega) (by omega)).mono ?_; rintro e wl ⟨u,rfl,t,hb⟩; rw [HXX.o,HOQ.o] at t; have hb0:=hb; (first | replace hb:=below_new_drew hb | replace hb:=below_new hb | replace hb:=bO hb | skip); (try (first | replace AB:=aH (AB.o.below' hb) | replace AB:=aH (AB.o.below hb))); (first | have AB:=aH ((BoxC.zero _).below hb0) | have AB:=aH ((BoxC.zero _).below (bO hb0)) | skip); replace BB:=aH (BB.o.trans (hb.mono BB.o.size)); have hs:=BB.o.size; clear hb0; obtain ⟨As,ms,cs,As',ms',cs',rfl⟩:=t.at_.open_; have T9:=aH t.at_; have hS:=HSET.o _ BB.o; obtain ⟨_,_,_,_,_,_,f0,f1,f2,y0,y1,y2,_⟩:=(F6.o.below BB.o).get (ff (ow 1) q gq); clear t hb))
  go_wp2_with fail
  go_roundg gq
  case measure=>omega
  case rel =>
   have F8:=F6.o.below BB.o
   exact ⟨q + 1,rfl,by omega,aH (by
    have:=F8.put (i:=q) (by simp) rfl T9.o
    rwa [eO (ow 1) q gq rfl] at this),aH ((E6.o.below BB.o).far F8 nbE _ _ _ _ _ _ _ _ _ _),aH (aL (B6.o.trans (BB.o.mono B6.o.size)) (by omega) _ _ _ _ _ _)⟩
 obtain ⟨gh,rfl⟩:∃ g,gk = g + 1:=⟨gk - 1,by omega⟩
 have d1:decide ((1:Int) <= (gh:Int) + 1) = true:=dT (by omega)
 have d2:decide (1 <= gh + 1) = true:=dT (by omega)
 have j1:IntKind.i64.wrap ((gh:Int) + 1 + 1) = (gh:Int) + 2:=by rw [show (gh:Int) + 1 + 1 = (gh:Int) + 2 by omega]; exact iI _ (by omega)
 have j2:IntKind.i64.wrap ((gh:Int) + 1 - 1) = (gh:Int):=by rw [show (gh:Int) + 1 - 1 = (gh:Int) by omega]; exact iI _ (by omega)
 have j3:IntKind.i64.wrap (gh:Int) = (gh:Int):=iI _ (by omega)
 obtain ⟨A2,m2,c2,t0,t1,t2,hm2,hg2⟩:=TB.o.get (HG.o.below BT.o) (j:=gh + 2) (by omega) (by omega)
 rw [show ((gh + 2:Nat):Int) = (gh:Int) + 2 by omega] at t0
 obtain ⟨tb,htb⟩:=nm (dE gs (O - (gh + 2)))
 have hTJ:=(HTL.o (gh + 2) (by omega)).1
 have hlow:dE gs (O - (gh + 1)) = bV [] (cE (dE gs (O - (gh + 2)))):=by rw [show O - (gh + 1) = (O - (gh + 2)) + 1 by omega]; rfl
 rw [htb] at hm2 hg2 hTJ hlow
 have HM2:=aH hm2
 have HG2:=aH hg2
 have HTJ:=aH hTJ
 have HLOW:=aH hlow
 have HPT:=aH (fun j=>jE hTJ j)
 have hm60:m2 <= 500:=by have:=hTJ.1.1; omega
 have q1:(0:Int) <= (gh:Int) + 2:=by omega
 have q2:(gh:Int) + 2 < (O:Int) + 1:=by omega
 have q3:(0:Int) <= (gh:Int) + 1:=by omega
 have q4:(gh:Int) + 1 < (O:Int) + 1:=by omega
 clear htb hTJ hlow hm2 hg2
 go_wp2_with fail
 refine (sq wt ((gh:Int) + 2) v A2 c2 m2 (gh + 1) tb HG2.o HM2.o (fun g hg=>⟨(HTJ.o.1.2 g hg).1,(HTJ.o.1.2 g hg).2.2⟩) hm60 (by omega) ⟨by omega,by omega⟩ HPT.o).mono ?_
 rintro e w5 ⟨lv,rfl,hgo,_,hb5⟩
 rw [show (gh:Int) + 2 - 1 = (gh:Int) + 1 by omega]
 rw [<- HLOW.o] at hgo
 obtain ⟨Ao,co,rfl⟩:=hgo.len
 obtain ⟨lo,hlo⟩:=nm ((dE gs (O - (gh + 1))).length)
 rw [hlo] at hgo ⊢
 have GO:=aH (hgo.mono (show w.heap.size + 1 + 1 <= wt.heap.size + 3 by omega))
 have HLO:=aH hlo
 have TB5:=aH (TB.o.below hb5)
 have PT5:=aH (PT.o.below' hb5)
 have BT5:=aH (BT.o.trans (hb5.mono BT.o.size))
 obtain ⟨z0,u0⟩:=TB5.o.has (i:=(gh + 1) * 3) (by omega)
 obtain ⟨z1,u1⟩:=TB5.o.has (i:=(gh + 1) * 3 + 1) (by omega)
 obtain ⟨z2,u2⟩:=TB5.o.has (i:=(gh + 1) * 3 + 2) (by omega)
 have y0:=TB5.o.froz ((gh + 1) * 3)
 have y1:=TB5.o.froz ((gh + 1) * 3 + 1)
 have y2:=TB5.o.froz ((gh + 1) * 3 + 2)
 clear hgo hlo hb5 t0 t1 t2 TB PT BT
 go_wp2_with fail
 go_roundg gh
 case measure=>omega
 case rel=>exact ⟨rfl,by omega,aH (TB5.o.put (j:=gh + 1) (by omega) HLO.o GO.o),aH (PT5.o.far3 (by omega) _ _ _ _ _ _),aH (aL BT5.o (by omega) _ _ _ _ _ _)⟩
end Go.Proofs.YtjebfdfkjlkifaaGreat
