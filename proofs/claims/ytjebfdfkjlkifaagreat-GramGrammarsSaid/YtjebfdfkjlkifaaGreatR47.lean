/- Lemmas. -/
import Derived.Test.YtjebfdfkjlkifaaGreatR46
set_option linter.all false
set_option maxRecDepth 1000000
set_option maxHeartbeats 32000000
namespace Go.Proofs.YtjebfdfkjlkifaaGreat
open Go.RowKit
def classesB (cs:List Int) (rs:List Raw):Bool:=decide (cs.length <= 12) && (decide (rs.length <= 12) && rs.all Raw.thin)
theorem two_at {w:World} {g:Nat} {e:TypeId} {x y:Value} (h:Blk w g e [x,y]):w.cell? ⟨g,0,none⟩ = some x/\w.cell? ⟨g,1,none⟩ = some y:=⟨h.cell 0,h.cell 1⟩

theorem classesG (w:World) (ov iv:Value) (cs:List Int) (rs:List Raw)(ho:IntsAt w ov cs)(hi:RawsAt w iv rs) :
  Calls Tryz.prog 60 #[.agg #[ov,iv]] w fun e w'=>e = .returned (.bool (classesB cs rs))/\Below w.heap.size w w':=by
 obtain ⟨Ao,co,rfl,_,_,_⟩:=ho.open_
 obtain ⟨Am,cm,rfl,hmc,hcm,hat⟩:=hi.open_
 obtain ⟨no,hno⟩:=nm (cs.length)
 obtain ⟨ml,hml⟩:=nm (rs.length)
 rw [hno]
 rw [hml] at hmc ⊢
 have HAT:=aH hat
 have HML:=aH hml
 have HNO:=aH hno
 clear ho hi hat hml hno
 go_enter Tryz.func60,Tryz.ntmps60
 go_upto_region 1 with fail
 obtain ⟨W,hW,P0,PB,Phs⟩:=aA w 94 [.slice Ao no co,.slice Am ml cm]
 rw [<- hW]
 clear hW
 obtain ⟨p0,p1⟩:=two_at P0.o
 by_cases h0:no <= 12
 ·have d0:decide ((12:Int) < (no:Int)) = false:=dF (by omega)
  by_cases h1:ml <= 12
  ·have d1:decide ((12:Int) < (ml:Int)) = false:=dF (by omega)
   have HS:Hd (classesB cs rs = (rs.drop 0).all Raw.thin):=aH (by unfold classesB; rw [HNO.o,HML.o,dT h0,dT h1]; rfl)
   go_wp2_with fail
   go_loopg [3] ml (fun g i wr=>∃ (j:Nat),wr = W/\i = .int .i64 j/\j + g = ml/\Hd (classesB cs rs = (rs.drop j).all Raw.thin))
   case atStart=>exact ⟨0,rfl,rfl,by omega,HS⟩
   obtain ⟨j,rfl,rfl,hj,HQ⟩:=hrel
   rcases zP gk with h | h
   ·obtain rfl:j = ml:=by omega
    have HT:Hd (classesB cs rs = true):=aH (by rw [HQ.o,dN (by rw [HML.o]; exact nR _)]; rfl)
    go_wp2_with fail
    go_ret
    exact ⟨ai HT.o.symm,PB.o⟩
   obtain ⟨g,rfl⟩:∃ g,gk = g + 1:=⟨gk - 1,by omega⟩
   obtain ⟨x,hx⟩:∃ x,rs[j]? = some x:=⟨_,eG (by rw [HML.o]; omega)⟩
   obtain ⟨bm,om,An,nc,Ad,dc,rfl,hbm,e0,e1,e2⟩:=HAT.o j x hx
   have c0:=(PB.o.cell (p:=⟨bm,om + j * 3,none⟩) hbm).trans e0
   have c1:=(PB.o.cell (p:=⟨bm,om + j * 3 + 1,none⟩) hbm).trans e1
   have c2:=(PB.o.cell (p:=⟨bm,om + j * 3 + 2,none⟩) hbm).trans e2
   have ST:=aH (HQ.o.trans (nH hx))
   obtain ⟨p,hp⟩:=nm (x.n.length)
   obtain ⟨q,hq⟩:=nm (x.d.length)
   have HTH:Hd (x.thin = (decide (p <= 1) && decide (q <= 1))):=aH (by unfold Raw.thin; rw [hp,hq])
   rw [hp] at c1
   rw [hq] at c2
   clear hx e0 e1 e2 hp hq
   by_cases h3:p <= 1
   ·have d4:decide ((1:Int) < (p:Int)) = false:=dF (by omega)
    by_cases h4:q <= 1
    ·have d5:decide ((1:Int) < (q:Int)) = false:=dF (by omega)
     have HT:Hd (classesB cs rs = (rs.drop (j + 1)).all Raw.thin):=aH (by rw [ST.o,HTH.o,dT h3,dT h4]; rfl)
     clear h3 h4
     go_wp2_with fail
     go_roundg g
     case measure=>omega
     case rel=>exact ⟨j + 1,rfl,rfl,by omega,HT⟩
    have d5:decide ((1:Int) < (q:Int)) = true:=dT (by omega)
    have HT:Hd (classesB cs rs = false):=aH (by rw [ST.o,HTH.o,dF h4,Bool.and_false]; rfl)
    clear h3 h4
    go_wp2_with fail
    go_ret
    exact ⟨ai HT.o.symm,PB.o⟩
   have d4:decide ((1:Int) < (p:Int)) = true:=dT (by omega)
   have HT:Hd (classesB cs rs = false):=aH (by rw [ST.o,HTH.o,dF h3,Bool.false_and]; rfl)
   clear h3
   go_wp2_with fail
   go_ret
   exact ⟨ai HT.o.symm,PB.o⟩
  have d1:decide ((12:Int) < (ml:Int)) = true:=dT (by omega)
  have HT:Hd (classesB cs rs = false):=aH (by unfold classesB; rw [HML.o,dF h1,Bool.false_and,Bool.and_false])
  clear h0 h1
  go_wp2_with fail
  go_ret
  exact ⟨ai HT.o.symm,PB.o⟩
 have d0:decide ((12:Int) < (no:Int)) = true:=dT (by omega)
 have HT:Hd (classesB cs rs = false):=aH (by unfold classesB; rw [HNO.o,dF h0,Bool.false_and])
 clear h0
 go_wp2_with fail
 go_ret
 exact ⟨ai HT.o.symm,PB.o⟩
theorem knownCR (w:World) (O V:Int) (Al:Option Addr) (nl cl:Nat) (k:Int) (s:Bool) (A A':Option Addr) (m c m' c':Nat) (Am:Option Addr) (ml cm:Nat) (ov:Value) (Ai:Option Addr) (ni ci:Nat) (cs:List Int)(ho:IntsAt w ov cs) :
  Calls Tryz.prog 64 #[aG O V (.slice Al nl cl) k s A A' m c m' c' (.slice Am ml cm),.agg #[ov,.slice Ai ni ci]] w fun e w'=>e = .returned (.bool (cs.all fun x=>decide (x <= V)))/\Below w.heap.size w w':=by
 obtain ⟨Ao,co,rfl,hoc,hom,hat⟩:=ho.open_
 obtain ⟨no,hno⟩:=nm (cs.length)
 rw [hno] at hoc ⊢
 have HAT:=aH hat
 have HNO:=aH hno
 obtain ⟨kb,hkb⟩:=nm ((cs.all fun x=>decide (x <= V)))
 have HS:Hd (kb = (cs.drop 0).all fun x=>decide (x <= V)):=aH (by rw [<- hkb]; rfl)
 rw [hkb]
 clear ho hat hno hkb
 unfold aG
 go_enter Tryz.func64,Tryz.ntmps64
 go_upto_region 1 with fail
 obtain ⟨W,hW,P0,P1,PB,Phs⟩:=cP w 43 [.int .i64 O,.int .i64 V,.slice Al nl cl,.int .i64 k,.bool s,.slice A m c,.slice A' m' c',.slice Am ml cm] 94 [.slice Ao no co,.slice Ai ni ci]
 rw [<- hW]
 clear hW
 obtain ⟨p0,p1,p2,p3,p4,p5,p6,p7⟩:=an P0.o
 obtain ⟨q0,q1⟩:=two_at P1.o
 go_wp2_with fail
 go_loopg [5] no (fun g i wr=>∃ (j n0:Nat),wr = W.drewN n0/\i = .int .i64 j/\j + g = no/\Hd (kb = (cs.drop j).all fun x=>decide (x <= V)))
 case atStart=>exact ⟨0,0,rfl,rfl,by omega,HS⟩
 obtain ⟨j,n0,rfl,rfl,hj,HQ⟩:=hrel
 have q0':(W.drewN n0).cell? ⟨w.heap.size + 1,0,none⟩ = some (.slice Ao no co):=q0
 have p1':(W.drewN n0).cell? ⟨w.heap.size,1,none⟩ = some (.int .i64 V):=p1
 rcases zP gk with h | h
 ·obtain rfl:j = no:=by omega
  have HT:Hd (kb = true):=aH (by rw [HQ.o,dN (by rw [HNO.o]; exact nR _)]; rfl)
  go_wp2_with fail
  go_ret
  exact ⟨ai HT.o.symm,ak PB.o _⟩
 obtain ⟨g,rfl⟩:∃ g,gk = g + 1:=⟨gk - 1,by omega⟩
 obtain ⟨x,hx⟩:∃ x,cs[j]? = some x:=⟨_,eG (by rw [HNO.o]; omega)⟩
 obtain ⟨bm,om,rfl,hbm,e0⟩:=HAT.o j x hx
 have c0:=(PB.o.cell (p:=⟨bm,om + j,none⟩) hbm).trans e0
 have c0':(W.drewN n0).cell? ⟨bm,om + j,none⟩ = some (.int .i64 x):=c0
 have ST:Hd (kb = (decide (x <= V) && (cs.drop (j + 1)).all fun x=>decide (x <= V))):=aH (HQ.o.trans (nH (p:=fun x=>decide (x <= V)) hx))
 have j1:(0:Int) <= (j:Int):=by omega
 have j2:(j:Int) < (no:Int):=by omega
 have j3:IntKind.i64.wrap ((j:Int) + 1) = (j:Int) + 1:=iI _ (by omega)
 clear hx e0
 by_cases h3:V < x
 ·have d4:decide (V < x) = true:=dT h3
  have HT:Hd (kb = false):=aH (by rw [ST.o,dF (by omega),Bool.false_and])
  clear h3
  go_wp2_with fail
  go_quiet (fail)
  go_wp2_with fail
  go_ret
  exact ⟨ai HT.o.symm,ak (ak PB.o _) _⟩
 have d4:decide (V < x) = false:=dF h3
 have HT:Hd (kb = (cs.drop (j + 1)).all fun x=>decide (x <= V)):=aH (by rw [ST.o,dT (by omega),Bool.true_and])
 clear h3
 go_wp2_with fail
 go_quiet (fail)
 go_wp2_with fail
 go_roundg g
 case measure=>omega
 case rel=>exact ⟨j + 1,n0 + nq,rfl,rfl,by omega,HT⟩
def clsN (cs:List Int) (qs:List Rat) (z:Int):Nat->Rat
 | 0=>0
 | j + 1=>if cs.getD j 0 = z then clsN cs qs z j + qs.getD j 0 else clsN cs qs z j
def clsOk (cs:List Int) (qs:List Rat) (j:Nat):Bool:=decide (1 <= cs.getD j 0) && (decide (cs.getD j 0 <= 2000) && (!decide (aU (qs.getD j 0) < 0) && decide (clsN cs qs (cs.getD j 0) cs.length = 1)))
def clsB (cs:List Int) (qs:List Rat):Bool:=decide (1 <= cs.length) && (decide (qs.length = cs.length) && (List.range cs.length).all (clsOk cs qs))
theorem clsN_qb {cs:List Int} {qs:List Rat} (z:Int)(hq:∀ q ∈ qs,QB 64 q) (j:Nat):QB (1 + j * 65) (clsN cs qs z j):=by
 induction j with
 | zero=>exact cB 1 (by omega)
 | succ j ih =>
  unfold clsN
  split
  ·exact (ih.add (cF (i:=j) (cB 64 (by omega)) hq)).mono (by omega)
  exact ih.mono (by omega)
theorem sgn_one {q:Rat}:aU (q - 1) = 0 ↔ q = 1:=by
 constructor
 ·intro h
  have:=rI h
  grind
 rintro rfl
 rw [Rat.sub_self]
 rfl

theorem checkClR (w:World) (ov iv:Value) (cs:List Int) (qs:List Rat)(ho:IntsAt w ov cs)(hi:FracsAt 64 w iv qs)(hc12:cs.length <= 12)(hq12:qs.length <= 12) :
  Calls Tryz.prog 61 #[.agg #[ov,iv]] w fun e w'=>e = .returned (.bool (clsB cs qs))/\Below w.heap.size w w':=by
 obtain ⟨Ao,co,rfl,hoc,hom,hat⟩:=ho.open_
 obtain ⟨Ai,ci,rfl,hic,him,hit⟩:=hi.at_
 obtain ⟨no,hno⟩:=nm (cs.length)
 obtain ⟨ni,hni⟩:=nm (qs.length)
 rw [hno] at hoc hc12 ⊢
 rw [hni] at hic hq12 ⊢
 have HAT:=aH hat
 have HIT:=aH hit
 have HNO:=aH hno
 have HNI:=aH hni
 have QI:Hd (∀ q ∈ qs,QB 64 q):=aH (fun q hq=>by
  obtain ⟨j,hj⟩:=List.mem_iff_getElem?.1 hq
  obtain ⟨_,_,_,_,_,_,_,_,_,_,_,_,_,_,hf⟩:=hit j q hj
  exact hf.qb (by omega))
 obtain ⟨kb,hkb⟩:=nm (clsB cs qs)
 have HKB:=aH hkb
 rw [hkb]
 clear ho hi hat hit hno hni hkb
 go_enter Tryz.func61,Tryz.ntmps61
 go_upto_region 1 with fail
 obtain ⟨W,hW,P0,PB,Phs⟩:=aA w 94 [.slice Ao no co,.slice Ai ni ci]
 rw [<- hW]
 clear hW
 obtain ⟨q0,q1⟩:=two_at P0.o
 rcases zP no with hz | hz
 ·subst hz
  have HF:Hd (kb = false):=aH (by rw [<- HKB.o]; unfold clsB; rw [HNO.o]; rfl)
  go_wp2_with fail
  go_ret
  exact ⟨ai HF.o.symm,PB.o⟩
 have d1:decide ((no:Int) < 1) = false:=dF (by omega)
 have d1':decide (no < 1) = false:=dF (by omega)
 have d2:decide ((2000:Int) < (no:Int)) = false:=dF (by omega)
 have d2':decide (2000 < no) = false:=dF (by omega)
 by_cases hne:ni = no
 ·subst hne
  have d3:((ni:Int) != (ni:Int)) = false:=by simp
  obtain ⟨x0,hx0⟩:∃ x,cs[0]? = some x:=⟨_,eG (by rw [HNO.o]; exact hz)⟩
  obtain ⟨bo,oo,rfl,_,_⟩:=HAT.o 0 x0 hx0
  obtain ⟨y0,hy0⟩:∃ x,qs[0]? = some x:=⟨_,eG (by rw [HNI.o]; exact hz)⟩
  obtain ⟨bi,oi,_,_,_,_,_,_,_,rfl,_⟩:=HIT.o 0 y0 hy0
  obtain ⟨no,rfl⟩:∃ n,n = ni:=⟨_,rfl⟩
  have HS:Hd (kb = ((List.range no).drop 0).all (clsOk cs qs)):=aH (by rw [<- HKB.o]; unfold clsB; rw [HNO.o,HNI.o,dT (show 1 <= no by omega),dT rfl]; rfl)
  clear hx0 hy0
  go_wp2_with fail
  go_loopg [4] no (fun g i wz=>∃ (j:Nat),i = .int .i64 j/\j + g = no/\Hd (kb = ((List.range no).drop j).all (clsOk cs qs))/\Hd (Blk wz w.heap.size 94 [.slice (some ⟨bo,oo,none⟩) no co,.slice (some ⟨bi,oi,none⟩) no ci])/\Hd (Below w.heap.size w wz))
  case atStart=>exact ⟨0,rfl,by omega,HS,P0,PB⟩
  clear HS P0 PB q0 q1
  obtain ⟨w4,rfl⟩:∃ x,x = wr:=⟨_,rfl⟩
  obtain ⟨j,rfl,hj,HQ,PE,BE⟩:=hrel
  obtain ⟨q0,q1⟩:=two_at PE.o
  rcases zP gk with h | h
  ·subst h
   obtain rfl:j = no:=by omega
   have HT:Hd (kb = true):=aH (by rw [HQ.o,dN (by simp)]; rfl)
   go_wp2_with fail
   go_ret
   exact ⟨ai HT.o.symm,BE.o⟩
  obtain ⟨g,rfl⟩:∃ g,gk = g + 1:=⟨gk - 1,by omega⟩
  obtain ⟨x,hx⟩:∃ x,cs[j]? = some x:=⟨_,eG (by rw [HNO.o]; omega)⟩
  obtain ⟨q,hq⟩:∃ x,qs[j]? = some x:=⟨_,eG (by rw [HNI.o]; omega)⟩
  obtain ⟨_,_,e5,hbm,e0⟩:=HAT.o j x hx
  cases e5
  obtain ⟨_,_,ng,An,nn,cn,Ad,nd,cd,e6,hbi,f0,f1,f2,hfx⟩:=HIT.o j q hq
  cases e6
  have HX:Hd (cs.getD j 0 = x):=aH (by rw [gD,hx]; rfl)
  have HQG:Hd (qs.getD j 0 = q):=aH (by rw [gD,hq]; rfl)
  have HXJ:=aH hx
  have ST:Hd (kb = (clsOk cs qs j && ((List.range no).drop (j + 1)).all (clsOk cs qs))):=aH (HQ.o.trans (nH (p:=clsOk cs qs) (by rw [List.getElem?_range (by omega)])))
  have HOK:Hd (clsOk cs qs j = (decide (1 <= x) && (decide (x <= 2000) && (!decide (aU q < 0) && decide (clsN cs qs x no = 1))))):=aH (by unfold clsOk; rw [HX.o,HQG.o,HNO.o])
  have c9:=(BE.o.cell (p:=⟨bo,oo + j,none⟩) hbm).trans e0
  have c0:=(BE.o.cell (p:=⟨bi,oi + j * 3,none⟩) hbi).trans f0
  have c1:=(BE.o.cell (p:=⟨bi,oi + j * 3 + 1,none⟩) hbi).trans f1
  have c2:=(BE.o.cell (p:=⟨bi,oi + j * 3 + 2,none⟩) hbi).trans f2
  have q3:(0:Int) <= (j:Int):=by omega
  have q4:(j:Int) < (no:Int):=by omega
  have j9:IntKind.i64.wrap ((j:Int) + 1) = (j:Int) + 1:=iI _ (by omega)
  have HFX:=aH (hfx.below BE.o)
  clear hx hq e0 f0 f1 f2 hfx
  by_cases h1:x < 1
  ·have d5:decide (x < 1) = true:=dT h1
   have HF:Hd (kb = false):=aH (by rw [ST.o,HOK.o,dF (by omega)]; rfl)
   clear h1
   go_wp2_with fail
   go_ret
   exact ⟨ai HF.o.symm,BE.o⟩
  have d5:decide (x < 1) = false:=dF h1
  by_cases h2:2000 < x
  ·have d6:decide (2000 < x) = true:=dT h2
   have HF:Hd (kb = false):=aH (by rw [ST.o,HOK.o,dF (p:=x <= 2000) (by omega),Bool.false_and,Bool.and_false,Bool.false_and])
   clear h1 h2
   go_wp2_with fail
   go_ret
   exact ⟨ai HF.o.symm,BE.o⟩
  have d6:decide (2000 < x) = false:=dF h2
  have HOK2:Hd (clsOk cs qs j = (!decide (aU q < 0) && decide (clsN cs qs x no = 1))):=aH (by rw [HOK.o,dT (show 1 <= x by omega),dT (show x <= 2000 by omega)]; rfl)
  clear h1 h2
  go_wp2_with fail
  refine (ez w4 _ q 64 HFX.o (by omega)).mono ?_
  rintro e w5 ⟨rfl,hb5⟩
  obtain ⟨sq,hsq⟩:=nm (aU q)
  rw [hsq] at HOK2 ⊢
  have P5:=aH (PE.o.below' hb5)
  have B5:=aH (BE.o.trans (hb5.mono BE.o.size))
  clear hb5 hsq c9 c0 c1 c2 q0 q1 PE BE HFX
  by_cases h3:sq < 0
  ·have d7:decide (sq < 0) = true:=dT h3
   have HF:Hd (kb = false):=aH (by rw [ST.o,HOK2.o,d7]; rfl)
   clear h3
   go_wp2_with fail
   go_ret
   exact ⟨ai HF.o.symm,B5.o⟩
  have d7:decide (sq < 0) = false:=dF h3
  have HOK3:Hd (clsOk cs qs j = decide (clsN cs qs x no = 1)):=aH (by rw [HOK2.o,d7]; rfl)
  clear h3
  go_upto_region 10 with fail
  obtain ⟨W6,hW6,R0,RB,Rhs⟩:=aA w5 40 [.bool false,.slice none 0 0,.slice none 0 0]
  rw [<- hW6]
  clear hW6
  have BX:Hd (BoxC W6 w5.heap.size (clsN cs qs x 0)):=aH (BoxC.of (q:=0) R0.o ((CanNew.zero_ 0 W6).at_))
  have P6:=aH (P5.o.below' RB.o)
  have B6:=aH (B5.o.trans (RB.o.mono B5.o.size))
  have sP5:w.heap.size < w5.heap.size:=P5.o.lt
  have sz5:=B5.o.size
  obtain ⟨bx,hbx⟩:=nm (w5.heap.size)
  rw [hbx] at BX sP5 sz5 ⊢
  have nP:w.heap.size ≠ bx:=by omega
  have nI:bi ≠ bx:=by omega
  clear hbx R0 RB P5 B5 Rhs d5 d6 d7
  go_wp2_with fail
  go_loopg [6] no (fun gh i wz=>∃ (p:Nat),i = .int .i64 p/\p + gh = no/\Hd (BoxC wz bx (clsN cs qs x p))/\Hd (Blk wz w.heap.size 94 [.slice (some ⟨bo,oo,none⟩) no co,.slice (some ⟨bi,oi,none⟩) no ci])/\Hd (Below w.heap.size w wz))
  case atStart=>exact ⟨0,rfl,by omega,BX,P6,B6⟩
  clear BX P6 B6
  obtain ⟨W5,rfl⟩:∃ x,x = wr:=⟨_,rfl⟩
  obtain ⟨p,rfl,hp,BX,PE,BE⟩:=hrel
  have sB:=BX.o.lt
  have sP:w.heap.size < W5.heap.size:=PE.o.lt
  have szE:=BE.o.size
  have sI:bi < W5.heap.size:=by omega
  have QO:Hd (QB 800 (clsN cs qs x p)):=aH ((clsN_qb x QI.o p).mono (by omega))
  obtain ⟨sm,hsm⟩:=nm (clsN cs qs x p)
  rw [hsm] at BX QO
  rcases zP gk with h | h
  ·subst h
   obtain rfl:p = no:=by omega
   obtain ⟨Ar,mr,cr,Ar',mr',cr',r0,r1,r2,_,_,_,tr⟩:=BX.o.get
   have TR:=aH (tr.frac (k:=2000) (QO.o.mono (by omega)) (by omega))
   have HEQ:Hd (clsOk cs qs j = decide (aU (sm - 1) = 0)):=aH (by rw [HOK3.o,hsm]; exact decide_eq_decide.2 sgn_one.symm)
   obtain ⟨q1r,hq1⟩:∃ y:Rat,((1:Int):Rat) = y:=⟨_,rfl⟩
   have Q1R:Hd (QB 64 q1r):=aH (by rw [<- hq1]; exact dA (by omega) (by omega))
   obtain ⟨sg,hsg⟩:=nm (aU (sm - q1r))
   have HSG:=aH hsg
   have HE2:Hd (clsOk cs qs j = decide (sg = 0)):=aH (by rw [HEQ.o,<- hsg,<- hq1]; rfl)
   have HQ1:=aH hq1
   have BB:=aH (Below.refl W5.heap.size W5)
   have hS:=aI r0 (aI r1 r2)
   have HSET:Hd (∀ w',Below W5.heap.size W5 w'->(fun w'=>w'.cell? ⟨bx,0,none⟩ = some (.bool (ae sm))/\w'.cell? ⟨bx,1,none⟩ = some (.slice Ar mr cr)/\w'.cell? ⟨bx,2,none⟩ = some (.slice Ar' mr' cr')) w'):=aH (fun w' hb=>⟨(hb.cell (p:=⟨bx,0,none⟩) sB).trans r0,(hb.cell (p:=⟨bx,1,none⟩) sB).trans r1,(hb.cell (p:=⟨bx,2,none⟩) sB).trans r2⟩)
   clear hsm hq1 hsg tr
   go_upto_region 15 with fail
   go_cut [78] (fun t wc=>t = .bool (sg != 0)/\Hd (Below W5.heap.size W5 wc))
   case first =>
    go_region_held3 (fun w'=>w'.cell? ⟨bx,0,none⟩ = some (.bool (ae sm))/\w'.cell? ⟨bx,1,none⟩ = some (.slice Ar mr cr)/\w'.cell? ⟨bx,2,none⟩ = some (.slice Ar' mr' cr'))
     (first | assumption | exact hS | go_keep)
     (first
      | (go_at_call 33; refine (ko _ 1 (by omega) (by omega)).mono ?_; rintro e wl ⟨u,rfl,t,hb⟩; rw [HQ1.o] at t; (try replace hb:=bO hb); replace BB:=aH (BB.o.trans (hb.mono BB.o.size)); have T1:=aH (t.at_.frac (k:=2000) (Q1R.o.mono (by omega)) (by omega)); have hS:=HSET.o _ BB.o; clear t hb)
      | (go_at_call 30; refine (vW _ _ _ sm q1r 2000 (by first | exact TR.o.below BB.o | exact (TR.o.below BB.o).below (bS _)) (by first | exact T1.o | exact T1.o.below (bS _)) (by omega) (by omega)).mono ?_; rintro e wl ⟨rfl,hb⟩; rw [HSG.o]; (try replace hb:=bO hb); replace BB:=aH (BB.o.trans (hb.mono BB.o.size)); have hS:=HSET.o _ BB.o; clear hb))
    all_goals
     go_wp2_with fail
     go_meet
     exact ⟨rfl,BB⟩
   obtain ⟨rfl,hcc⟩:=hcut
   have BR:=aH (BE.o.trans (hcc.o.mono BE.o.size))
   have PR:=aH (PE.o.below' hcc.o)
   clear hcc hS HSET r0 r1 r2 BB
   by_cases h0:sg = 0
   ·have n0:(sg != 0) = false:=by simpa using h0
    have HT:Hd (kb = ((List.range p).drop (j + 1)).all (clsOk cs qs)):=aH (by rw [ST.o,HE2.o,dT h0,Bool.true_and])
    clear h0
    go_wp2_with fail
    go_roundg g
    case measure=>omega
    case rel=>exact ⟨j + 1,rfl,by omega,HT,PR,BR⟩
   have n0:(sg != 0) = true:=by simpa using h0
   have HF:Hd (kb = false):=aH (by rw [ST.o,HE2.o,dF h0,Bool.false_and])
   clear h0
   go_wp2_with fail
   go_ret
   exact ⟨ai HF.o.symm,BR.o⟩
  obtain ⟨gh,rfl⟩:∃ g,gk = g + 1:=⟨gk - 1,by omega⟩
  obtain ⟨q0,q1⟩:=two_at PE.o
  obtain ⟨xp,hxp⟩:∃ x,cs[p]? = some x:=⟨_,eG (by rw [HNO.o]; omega)⟩
  obtain ⟨qp,hqp⟩:∃ x,qs[p]? = some x:=⟨_,eG (by rw [HNI.o]; omega)⟩
  obtain ⟨_,_,e5,hbm,e0⟩:=HAT.o p xp hxp
  cases e5
  obtain ⟨_,_,e5,hbm2,e2⟩:=HAT.o j x HXJ.o
  cases e5
  obtain ⟨_,_,ng,An,nn,cn,Ad,nd,cd,e6,hbi,f0,f1,f2,hfx⟩:=HIT.o p qp hqp
  cases e6
  have c8:=(BE.o.cell (p:=⟨bo,oo + p,none⟩) hbm).trans e0
  have c9:=(BE.o.cell (p:=⟨bo,oo + j,none⟩) hbm2).trans e2
  have c0:=(BE.o.cell (p:=⟨bi,oi + p * 3,none⟩) hbi).trans f0
  have c1:=(BE.o.cell (p:=⟨bi,oi + p * 3 + 1,none⟩) hbi).trans f1
  have c2:=(BE.o.cell (p:=⟨bi,oi + p * 3 + 2,none⟩) hbi).trans f2
  have q5:(0:Int) <= (p:Int):=by omega
  have q6:(p:Int) < (no:Int):=by omega
  have j8:IntKind.i64.wrap ((p:Int) + 1) = (p:Int) + 1:=iI _ (by omega)
  have HCN:Hd (clsN cs qs x (p + 1) = if xp = x then sm + qp else sm):=aH (by
   show (if cs.getD p 0 = x then clsN cs qs x p + qs.getD p 0 else clsN cs qs x p) = _
   rw [gD,hxp,gD,hqp,hsm]
   rfl)
  clear hsm hxp hqp e0 e2 f0 f1 f2
  by_cases heq:xp = x
  ·have HSM:Hd (sm + qp = clsN cs qs x (p + 1)):=aH (by rw [HCN.o,if_pos heq])
   subst heq
   have n0:(xp == xp) = true:=by simp
   go_wp2_with fail
   go_quiet (fail)
   have BX:=aH (BX.o.below (ak (Below.refl _ W5) nq))
   have PE:=aH (PE.o.below' (ak (Below.refl _ W5) nq))
   have BE:=aH (ak BE.o nq)
   obtain ⟨W7,hW7⟩:∃ x,x = W5.drewN nq:=⟨_,rfl⟩
   replace c0:W7.cell? ⟨bi,oi + p * 3,none⟩ = some (.bool ng):=by rw [hW7]; exact c0
   replace c1:W7.cell? ⟨bi,oi + p * 3 + 1,none⟩ = some (.slice An nn cn):=by rw [hW7]; exact c1
   replace c2:W7.cell? ⟨bi,oi + p * 3 + 2,none⟩ = some (.slice Ad nd cd):=by rw [hW7]; exact c2
   replace q1:W7.cell? ⟨w.heap.size,1,none⟩ = some (.slice (some ⟨bi,oi,none⟩) no ci):=by rw [hW7]; exact q1
   rw [<- hW7] at BX PE BE ⊢
   clear hW7 c8 c9
   replace sP:w.heap.size < W7.heap.size:=PE.o.lt
   replace sI:bi < W7.heap.size:=by have:=BE.o.size; omega
   obtain ⟨Ao,mo,co',Ao',mo',co'',r0,r1,r2,_,_,_,tO⟩:=BX.o.get
   have TO:=aH (tO.frac (k:=2000) (QO.o.mono (by omega)) (by omega))
   have TX:=aH ((hfx.below BE.o).mono (show 64 <= 2000 by omega))
   have HSET:Hd (∀ w',Below W7.heap.size W7 w'->(fun w'=>w'.cell? ⟨w.heap.size,1,none⟩ = some (.slice (some ⟨bi,oi,none⟩) no ci)/\w'.cell? ⟨bi,oi + p * 3,none⟩ = some (.bool ng)/\w'.cell? ⟨bi,oi + p * 3 + 1,none⟩ = some (.slice An nn cn)/\w'.cell? ⟨bi,oi + p * 3 + 2,none⟩ = some (.slice Ad nd cd)) w'):=aH (fun w' hb=>⟨(hb.cell (p:=⟨w.heap.size,1,none⟩) sP).trans q1,(hb.cell (p:=⟨bi,oi + p * 3,none⟩) sI).trans c0,(hb.cell (p:=⟨bi,oi + p * 3 + 1,none⟩) sI).trans c1,(hb.cell (p:=⟨bi,oi + p * 3 + 2,none⟩) sI).trans c2⟩)
   clear tO q0 q1 c0 c1 c2
   go_upto_region 14 with fail
   refine wp_region_held_drew (S:=(fun w'=>w'.cell? ⟨w.heap.size,1,none⟩ = some (.slice (some ⟨bi,oi,none⟩) no ci)/\w'.cell? ⟨bi,oi + p * 3,none⟩ = some (.bool ng)/\w'.cell? ⟨bi,oi + p * 3 + 1,none⟩ = some (.slice An nn cn)/\w'.cell? ⟨bi,oi + p * 3 + 2,none⟩ = some (.slice Ad nd cd))) (by kernel_rfl) (HSET.o _ (bS W7)) (fun hHeld=>?_)
   refine tjj 1 ?_ rfl (by kernel_rfl) rfl ‹_› ?_ (fun _ _ _ h=>h) (tjj 2 ?_ rfl (by kernel_rfl) rfl ‹_› ?_ (fun _ _ _ h=>h) (tjj 3 ?_ rfl (by kernel_rfl) rfl ‹_› ?_ (fun _ _ _ h=>h) (tjj 4 ?_ rfl (by kernel_rfl) rfl ‹_› ?_ (fun _ _ _ h=>h) (tjj 5 ?_ rfl (by kernel_rfl) rfl ‹_› ?_ (fun _ _ _ h=>h) ?_))))
   iterate 5 (rotate_left; · (intro w' hSw; (try dsimp only at hSw); (try go_frame); go_simp <;> with_reducible rfl))
   go_frame
   refine wpAnyH_ready (rs:=[0]) (by kernel_rfl) (by simp) ?_
   refine AllReadyH.cons rfl (fun K hK=>?_) AllReadyH.nil
   go_simp
   refine hK.out _ _ hHeld (fun _=>?_)
   clear hK K r0 r1 r2
   try go_frame
   refine wpAnyH_ready (rs:=[6]) (by kernel_rfl) (by simp) ?_
   refine AllReadyH.cons rfl (fun K hK=>?_) AllReadyH.nil
   go_simp
   clear hHeld
   refine (nO _ _ _ sm qp 2000 (TO.o.below (bS _)) (TX.o.below (bS _)) (by omega) (by omega)).mono ?_
   rintro e wl ⟨u,rfl,t,hb'⟩
   rw [HSM.o] at t
   have hb:=bO hb'
   have BB:=aH hb
   obtain ⟨As,ms,cs2,As',ms',cs',rfl⟩:=t.at_.open_
   have T2:=aH t.at_
   clear t hb'
   have hS:=HSET.o wl hb
   try go_simp
   refine hK.out _ _ hS (fun hHeld=>?_)
   clear hK K hS
   try go_frame
   obtain ⟨_,_,_,_,_,_,u0,u1,u2,y0,y1,y2,_⟩:=(BX.o.below BB.o).get
   refine wpAnyH_ready (rs:=[7]) (by kernel_rfl) (by simp) ?_
   refine AllReadyH.cons rfl (fun K hK=>?_) AllReadyH.nil
   go_simp
   refine hK.out _ _ ⟨aj hHeld.1 nP _ _ _ _ _ _,aj hHeld.2.1 nI _ _ _ _ _ _,aj hHeld.2.2.1 nI _ _ _ _ _ _,aj hHeld.2.2.2 nI _ _ _ _ _ _⟩ (fun _=>?_)
   clear hK K hHeld
   try go_frame
   refine wpAnyH_done (by kernel_rfl) ?_ _
   go_wp2_with fail
   go_roundg gh
   case measure=>omega
   case rel=>exact ⟨p + 1,rfl,by omega,aH ((BX.o.below BB.o).put rfl T2.o),aH ((PE.o.below' BB.o).far3 nP _ _ _ _ _ _),aH (aL (BE.o.trans (BB.o.mono BE.o.size)) (show w.heap.size <= bx by omega) _ _ _ _ _ _)⟩
  have n0:(xp == x) = false:=by simpa using heq
  have HC2:Hd (clsN cs qs x (p + 1) = sm):=aH (by rw [HCN.o,if_neg heq])
  clear heq
  go_wp2_with fail
  go_quiet (fail)
  go_wp2_with fail
  go_roundg gh
  case measure=>omega
  case rel=>exact ⟨p + 1,rfl,by omega,aH (by rw [HC2.o]; exact BX.o.below (ak (Below.refl _ W5) nq)),aH (PE.o.below' (ak (Below.refl _ W5) nq)),aH (ak BE.o nq)⟩
 have d3:((ni:Int) != (no:Int)) = true:=by simp; omega
 have HF:Hd (kb = false):=aH (by rw [<- HKB.o]; unfold clsB; rw [HNO.o,HNI.o,dF (p:=ni = no) hne,Bool.false_and,Bool.and_false])
 clear hne
 go_wp2_with fail
 go_ret
 exact ⟨ai HF.o.symm,PB.o⟩
theorem DigAt.map {w w':World} {v:Value} {l:List Nat} {kt:TypeId} {b:Nat} {es:List (Value × Value)} (h:DigAt w v l)(hm:MapAt Tryz.prog w kt b es)(hg:w.grownBy w' (some b)):DigAt w' v l:=by
 obtain ⟨⟨h0,A,c,rfl,hc,hx,h5⟩,hok⟩:=h
 refine ⟨⟨h0,A,c,rfl,hc,hx,fun hn=>?_⟩,hok⟩
 obtain ⟨b',off,e,hlt,hcell⟩:=h5 hn
 subst e
 have hne:some b' ≠ some b:=by
  intro e
  injection e with e
  subst e
  cases l with
  | nil=>simp at hn
  | cons d l =>
   have h1:=hcell 0 (dg d) rfl
   have h2:=hm.1
   unfold World.cell? at h1
   simp only at h1
   rw [h2] at h1
   simp at h1
 refine ⟨b',off,rfl,Nat.lt_of_lt_of_le hlt hg.size,fun j x hj=>?_⟩
 have h1:=hcell j x hj
 have h3:=hg.block b' hlt hne
 unfold World.cell? at h1 ⊢
 simp only at h1 ⊢
 rw [h3]
 exact h1
theorem NatAt.map {w w':World} {v:Value} {n:Nat} {kt:TypeId} {b:Nat} {es:List (Value × Value)} (h:NatAt w v n)(hm:MapAt Tryz.prog w kt b es)(hg:w.grownBy w' (some b)):NatAt w' v n:=by
 obtain ⟨l,h1,h2⟩:=h
 exact ⟨l,h1.map hm hg,h2⟩
theorem CanAt.map {w w':World} {v:Value} {q:Rat} {kt:TypeId} {b:Nat} {es:List (Value × Value)} (h:CanAt w v q)(hm:MapAt Tryz.prog w kt b es)(hg:w.grownBy w' (some b)):CanAt w' v q:=by
 obtain ⟨vn,vd,e,h1,h2⟩:=h
 exact ⟨vn,vd,e,h1.map hm hg,h2.map hm hg⟩

abbrev FV:=Value × Rat
def FMap (w:World) (b:Nat) (L:List (Int × FV)):Prop:=TMap (Value.int .i64) Prod.fst w 3 b L/\∀ e ∈ L,CanAt w e.2.1 e.2.2
theorem FMap.below {w w':World} {b:Nat} {L:List (Int × FV)} (h:FMap w b L)(hb:Below w.heap.size w w'):FMap w' b L:=⟨h.1.below hb,fun e he=>(h.2 e he).below hb⟩
theorem FMap.lt {w:World} {b:Nat} {L:List (Int × FV)} (h:FMap w b L):b < w.heap.size:=h.1.lt
theorem FMap.put {w w':World} {b:Nat} {L:List (Int × FV)} (h:FMap w b L) {z:Int} {v:Value} {q:Rat} (hq:CanAt w v q)(hg:w.grownBy w' (some b))(ht:TMap (Value.int .i64) Prod.fst w' 3 b (dJ L z (v,q))):FMap w' b (dJ L z (v,q)):=by
 refine ⟨ht,fun e he=>?_⟩
 rcases fm he with he | rfl
 ·exact (h.2 e he).map h.1 hg
 exact hq.map h.1 hg
def lookF (L:List (Int × FV)) (z:Int):Rat:=(aC L z).elim 0 Prod.snd
theorem FMap.at_ {w:World} {b:Nat} {L:List (Int × FV)} (h:FMap w b L) (z:Int):CanAt w ((aC L z).elim (.agg #[.bool false,.slice none 0 0,.slice none 0 0]) Prod.fst) (lookF L z):=by
 unfold lookF
 cases hl:aC L z with
 | none=>exact (CanNew.zero_ 0 w).at_
 | some x=>exact h.2 _ (br hl)
theorem lookF_put (L:List (Int × FV)) (z y:Int) (v:FV):lookF (dJ L z v) y = if y = z then v.2 else lookF L y:=by
 unfold lookF
 rw [kM]
 split <;> rfl
theorem clsB_ok {cs:List Int} {qs:List Rat} (h:clsB cs qs = true):1 <= cs.length/\qs.length = cs.length/\∀ j,j < cs.length->1 <= cs.getD j 0/\cs.getD j 0 <= 2000/\0 <= qs.getD j 0/\clsN cs qs (cs.getD j 0) cs.length = 1:=by
 unfold clsB at h
 simp only [Bool.and_eq_true,decide_eq_true_eq,List.all_eq_true,List.mem_range] at h
 obtain ⟨h1,h2,h3⟩:=h
 refine ⟨h1,h2,fun j hj=>?_⟩
 have h4:=h3 j hj
 unfold clsOk at h4
 simp only [Bool.and_eq_true,decide_eq_true_eq,Bool.not_eq_true',decide_eq_false_iff_not] at h4
 exact ⟨h4.1,h4.2.1,mF h4.2.2.1,h4.2.2.2⟩
def classedQ (row:List Rat) (cs:List Int) (qs:List Rat) (w:Nat):Rat:=if w = 0 then row.getD 0 0 else row.getD (cs.getD (w - 1) 0).toNat 0 * qs.getD (w - 1) 0
end Go.Proofs.YtjebfdfkjlkifaaGreat
