/- Lemmas. -/
import Derived.Test.YtjebfdfkjlkifaaGreatR45
import Derived.Test.YtjebfdfkjlkifaaGreatR46
set_option linter.all false
set_option maxRecDepth 1000000
set_option maxHeartbeats 32000000
namespace Go.Proofs.YtjebfdfkjlkifaaGreat
open Go.RowKit
theorem fX (e:Gr) (m:List Gr) (k:List Int):tot 0 (e :: m) k = (if e.1 = k then e.2 else 0) + tot 0 m k:=by
 unfold tot
 rw [aK]
 simp
theorem pK {m:List Gr} {k:List Int} (h:∀ e ∈ m,e.1 ≠ k):tot 0 m k = 0:=by
 induction m with
 | nil=>rfl
 | cons e m ih =>
  rw [fX,if_neg (h e List.mem_cons_self),ih (fun x hx=>h x (List.mem_cons_of_mem _ hx))]
  rfl
theorem nZ {m:List Gr} (h:(m.map Prod.fst).Nodup) (k:List Int):tot 0 m k = (aC m k).getD 0:=by
 induction m with
 | nil=>rfl
 | cons e m ih =>
  rw [List.map_cons,List.nodup_cons] at h
  rw [fX,cU]
  by_cases hk:e.1 = k
  ·rw [if_pos hk,if_pos hk,pK (fun x hx e1=>h.1 (List.mem_map.2 ⟨x,hx,by rw [e1,hk]⟩))]
   simp
  rw [if_neg hk,if_neg hk,ih h.2]
  omega
theorem Cnt.tot0 {m:List Gr} {T:List Int->Int} (h:Cnt m T) (k:List Int):tot 0 m k = T k:=(nZ h.1 k).trans (h.2.1 k)
theorem rz (l:List Gr) (k:List Int):tot 0 (cE l) k = tot 1 l k:=by
 induction l with
 | nil=>rfl
 | cons e l ih =>
  unfold cE at ih ⊢
  rw [List.map_cons,fX,ih]
  unfold tot
  rw [aK]
  simp
def cT (gs:List Gr):Int:=cA (fun _=>true) gs
theorem bE (g:Gr) (gs:List Gr):cT (g :: gs) = g.2 + cT gs:=by unfold cT; rw [aK]; rfl
theorem rB (gs:List Gr) (ws:List Int) (n:Int):cT (putL gs ws n) = cT gs + n:=by
 induction gs with
 | nil=>unfold putL; rw [bE]; show n + cT [] = cT [] + n; omega
 | cons g gs ih =>
  unfold putL
  split
  ·rw [bE,bE,ih]; omega
  split
  ·rw [bE,bE]; show g.2 + n + _ = _; omega
  rw [bE]; show n + _ = _; omega
theorem mD (a b:List Gr):cT (a ++ b) = cT a + cT b:=by
 induction a with
 | nil=>rw [List.nil_append,show cT [] = 0 from rfl]; omega
 | cons g a ih=>rw [List.cons_append,bE,bE,ih]; omega
theorem fM {gs:List Gr} (h:∀ g ∈ gs,0 < g.2):0 <= cT gs:=fJ (fun g hg=>by have:=h g hg; omega)
theorem pN {gs:List Gr} (h:∀ g ∈ gs,0 < g.2) (j:Nat):0 <= cT (gs.take j)/\cT (gs.take j) <= cT gs:=by
 have h1:=fM (gs:=gs.take j) (fun g hg=>h g (List.mem_of_mem_take hg))
 have h2:=fM (gs:=gs.drop j) (fun g hg=>h g (List.mem_of_mem_drop hg))
 have h3:=mD (gs.take j) (gs.drop j)
 rw [List.take_append_drop] at h3
 omega
theorem rU {n:Nat}:∀ (l t:List Gr) (T:List Int->Int),(∀ g ∈ l,g.1.length = n/\0 < g.2)->Rises t->(∀ g ∈ t,g.1.length = n)->Cnt t T ->
  Rises (bV t l)/\(∀ g ∈ bV t l,g.1.length = n)/\Cnt (bV t l) (fun k=>T k + tot 0 l k):=by
 intro l
 induction l with
 | nil=>intro t T _ hr hl hc; exact ⟨hr,hl,hc.congr (fun k=>by show T k = T k + 0; omega)⟩
 | cons e l ih =>
  intro t T h hr hl hc
  obtain ⟨a,b⟩:=e
  have hab:=h (a,b) List.mem_cons_self
  obtain ⟨g1,g2,g3⟩:=ih (putL t a b) _ (fun x hx=>h x (List.mem_cons_of_mem _ hx)) (ju hr hl hab.1) (mM hl hab.1) (hc.putL hr hl hab.1 hab.2)
  refine ⟨g1,g2,g3.congr (fun k=>?_)⟩
  show T k + (if k = a then b else 0) + tot 0 l k = T k + tot 0 ((a,b) :: l) k
  rw [fX]
  by_cases hk:k = a
  ·rw [if_pos hk,if_pos hk.symm]; omega
  rw [if_neg hk,if_neg (fun e=>hk e.symm)]; omega
theorem rT {n:Nat} {l:List Gr} (h:∀ g ∈ l,g.1.length = n/\0 < g.2):Rises (bV [] l)/\(∀ g ∈ bV [] l,g.1.length = n)/\Cnt (bV [] l) (tot 0 l):=by
 obtain ⟨g1,g2,g3⟩:=rU l [] (fun _=>0) h List.Pairwise.nil (fun g hg=>by cases hg) Cnt.nil
 exact ⟨g1,g2,g3.congr (fun k=>by omega)⟩
theorem kJ {a b:List Int} (h:a.length <= b.length):aN a b = 0 ↔ b.take a.length = a:=by
 induction a generalizing b with
 | nil=>simp [aN]
 | cons x a ih =>
  cases b with
  | nil=>simp at h
  | cons y b =>
   simp only [aN,List.length_cons,List.take_succ_cons,List.cons.injEq]
   by_cases hxy:x = y
   ·subst hxy
    rw [if_pos rfl,ih (by simpa using h)]
    simp
   rw [if_neg hxy]
   constructor
   ·intro h'
    split at h' <;> omega
   intro h'
   exact absurd h'.1.symm hxy
theorem qQ {gs:List Gr} {h:List Int} {j:Nat} {g:Gr} {y:Int} (hg:gs[j]? = some g)(hl:g.1.length = h.length + 1)(hm:g.1.take h.length = h)(hy:g.1.getD h.length 0 = y) :
  cZ gs h (j + 1) y = cZ gs h j y + g.2/\∀ x,x ≠ y->cZ gs h (j + 1) x = cZ gs h j x:=by
 have e:g.1 = h ++ [y]:=(lT hl).2 ⟨hm,hy⟩
 refine ⟨?_,fun x hx=>?_⟩
 ·rw [gp hg,if_pos (by rw [beq_iff_eq]; exact e)]
 rw [gp hg,if_neg (by rw [beq_iff_eq,lT hl]; exact fun e'=>hx (by rw [<- e'.2,hy])),Int.add_zero]
theorem pP {C D:Int->Int} {c:Int} {y:Nat} (v:Nat)(hy:y <= v)(h1:D (y:Int) = C (y:Int) + c)(h:∀ x:Nat,x <= v->x ≠ y->D x = C x):aM D v = aM C v + c:=by
 induction v with
 | zero =>
  obtain rfl:y = 0:=by omega
  rw [dB,dB]
  exact h1
 | succ v ih =>
  rw [dC,dC]
  by_cases hv:y = v + 1
  ·subst hv
   rw [fu (C:=D) (D:=C) (fun x hx=>h x (by omega) (by omega)),h1]
   omega
  rw [ih (by omega) (fun x hx hne=>h x (by omega) hne),h (v + 1) (nR _) (by omega)]
  omega
def wg (v n:Nat) (gs:List Gr):Prop:=gs.length <= 60/\∀ g ∈ gs,g.1.length = n/\(∀ x ∈ g.1,0 <= x/\x <= (v:Int))/\0 <= g.2/\g.2 <= 100000000000
theorem pl {gs:List Gr} {v n:Nat} (h:wg v n gs)(hl:List Int) (j:Nat) (x:Int):0 <= cZ gs hl j x/\cZ gs hl j x <= (j:Int) * 100000000000:=by
 induction j with
 | zero=>rw [iP]; omega
 | succ j ih =>
  by_cases hj:j < gs.length
  ·obtain ⟨g,hg⟩:∃ g,gs[j]? = some g:=⟨_,eG hj⟩
   have h1:=h.2 g (mG hg)
   rw [gp hg]
   split <;> omega
  have e:gs.take (j + 1) = gs.take j:=by rw [tL (by omega),tL (by omega)]
  have e2:cZ gs hl (j + 1) x = cZ gs hl j x:=by unfold cZ; rw [e]
  rw [e2]
  omega
theorem ul {C:Int->Int} {c:Int} (h:∀ x,0 <= C x/\C x <= c) (v:Nat):0 <= aM C v/\aM C v <= ((v + 1:Nat):Int) * c:=by
 induction v with
 | zero=>rw [dB]; have:=h 0; omega
 | succ v ih =>
  rw [dC]
  have h1:=h ((v + 1:Nat):Int)
  have e:((v + 1 + 1:Nat):Int) * c = ((v + 1:Nat):Int) * c + c:=by
   rw [show ((v + 1 + 1:Nat):Int) = ((v + 1:Nat):Int) + 1 by omega,Int.add_mul,Int.one_mul]
  omega

theorem mH (w:World) (n v:Nat) (lv:Value) (gs:List Gr)(hv:Value)(hl:List Int)(hg:GramsAt w lv gs)(hh:IntsAt w hv hl)(hT:wg v n gs)(hn:1 <= n/\n <= 4)(hv8:v <= 8)(hlen:hl.length + 1 = n) :
  Calls Tryz.prog 114 #[.agg #[.int .i64 n,.int .i64 v,lv],hv] w fun e w'=>∃ b,e = .returned (.tuple #[.slice (some ⟨b,0,none⟩) (v + 1) (v + 1),.int .i64 (aM (fun x=>tot 0 gs (hl ++ [x])) v)])/\w.heap.size <= b/\CntAt w' b v (fun x=>tot 0 gs (hl ++ [x]))/\Below w.heap.size w w':=by
 obtain ⟨Al,cl,rfl,hlc,hcm,hat⟩:=hg.open_
 obtain ⟨Ah,ch,rfl,hhc,hhm,_⟩:=hh.open_
 obtain ⟨nl,hnl⟩:=nm (gs.length)
 obtain ⟨nh,hnh⟩:=nm (hl.length)
 have HHA:Hd (∀ w',Below w.heap.size w w'->IntsAt w' (.slice Ah nh ch) hl):=aH (fun w' hb=>by rw [<- hnh]; exact hh.below hb)
 rw [hnl] at hlc ⊢
 rw [hnh] at hhc hlen ⊢
 have HAT:=aH hat
 have HNL:=aH hnl
 have HNH:=aH hnh
 have HTT:=aH hT
 have hnl6:nl <= 60:=by rw [<- hnl]; exact hT.1
 have HALL:Hd (∀ x,cZ gs hl nl x = tot 0 gs (hl ++ [x])):=aH (fun x=>by rw [<- hnl,tK])
 clear hg hh hat hnl hnh hT
 have v1:IntKind.i64.wrap ((v:Int) + 1) = (v:Int) + 1:=iI _ (by omega)
 obtain ⟨i0,gi,gz0,gz1,gz2⟩:=info_parts eD
 go_enter Tryz.func114,Tryz.ntmps114
 go_wp2_with (at_make; refine ay rfl _ _ 44 rfl 3 i0 (.int .i64 0) 8 Tryz.underlying44 gi gz0 gz1 gz2 rfl .i64 .i64 _ _ (v + 1) rfl rfl (by omega) (by omega) (by omega) (by unfold maxLen; omega) ?_)
 obtain ⟨W,hW,P0,PB,Phs⟩:=aA w 27 [.int .i64 n,.int .i64 v,.slice Al nl cl]
 rw [<- hW]
 clear hW
 intro w5 hblk hb5
 have C5:Hd (CntAt w5 (w.heap.size + 1) v (cZ gs hl 0)):=aH (by
  have e:(List.range (v + 1)).map (fun (x:Nat)=>Value.int .i64 (cZ gs hl 0 (x:Int))) = List.replicate (v + 1) (.int .i64 0):=by
   apply List.ext_getElem?
   intro i
   by_cases hi:i < v + 1
   ·rw [List.getElem?_map,List.getElem?_range hi,List.getElem?_replicate_of_lt hi]
    show some (Value.int .i64 (cZ gs hl 0 (i:Int))) = _
    rw [iP]
   rw [nI.2 (by simp; omega),nI.2 (by simp; omega)]
  unfold CntAt
  rw [e]
  exact hblk)
 have P5:=aH (P0.o.below hb5 (by omega))
 have B5:=aH (PB.o.trans (hb5.mono (by omega)))
 clear hblk hb5 P0 PB gi gz0 gz1 gz2
 have HZ1:Hd (aM (cZ gs hl 0) v = 0):=aH (by rw [fu (D:=fun _=>0) (fun x _=>iP gs hl x)]; exact n7 v)
 go_wp2_with fail
 go_loopg [7,8,9,10] nl (fun gh sm i _ _ wz=>∃ (j:Nat),i = .int .i64 j/\j + gh = nl/\sm = .int .i64 (aM (cZ gs hl j) v)/\Hd (CntAt wz (w.heap.size + 1) v (cZ gs hl j))/\Hd (Blk wz w.heap.size 27 [.int .i64 n,.int .i64 v,.slice Al nl cl])/\Hd (Below w.heap.size w wz))
 case atStart=>exact ⟨0,rfl,by omega,by rw [HZ1.o],C5,P5,B5⟩
 clear C5 P5 B5
 obtain ⟨j,rfl,hj,rfl,C6,P6,B6⟩:=hrel
 obtain ⟨p0,p1,p2,_,_,_⟩:=P6.o.three
 have sP:w.heap.size < wr.heap.size:=P6.o.lt
 have sC:w.heap.size + 1 < wr.heap.size:=Blk.lt C6.o
 rcases zP gk with hh | hh
 ·subst hh
  obtain rfl:j = nl:=by omega
  have HS:Hd (aM (cZ gs hl j) v = aM (fun x=>tot 0 gs (hl ++ [x])) v):=aH (fu (fun x _=>HALL.o x))
  rw [HS.o]
  have C7:Hd (CntAt wr (w.heap.size + 1) v (fun x=>tot 0 gs (hl ++ [x]))):=aH (C6.o.of_eq (fun x _=>HALL.o x))
  go_wp2_with fail
  first
   | (go_ret; exact ⟨_,rfl,by omega,C7.o,B6.o⟩)
   | (go_ret2; exact ⟨_,rfl,by omega,C7.o,B6.o⟩)
 obtain ⟨gh,rfl⟩:∃ g,gk = g + 1:=⟨gk - 1,by omega⟩
 obtain ⟨g,hgj⟩:∃ g,gs[j]? = some g:=⟨_,eG (by rw [HNL.o]; omega)⟩
 obtain ⟨ba,oa,c0,rfl,hba,e0,e1,hi⟩:=HAT.o j g hgj
 obtain ⟨Ai,ci,rfl,hic,him,hig⟩:=hi.open_
 have hgm:=HTT.o.2 g (mG hgj)
 have hgl:g.1.length = n:=hgm.1
 obtain ⟨z,hz⟩:∃ z,g.1[nh]? = some z:=⟨_,eG (by omega)⟩
 obtain ⟨bi,oi,hAi,hbi,hcz⟩:=hig nh z hz
 subst hAi
 have hzr:=hgm.2.1 z (mG hz)
 obtain ⟨yz,rfl⟩:∃ q:Nat,z = q:=⟨z.toNat,by omega⟩
 have HZD:Hd (g.1.getD hl.length 0 = (yz:Int)):=aH (by rw [HNH.o,gD,hz]; rfl)
 have HGJ:=aH hgj
 have HGL2:Hd (g.1.length = hl.length + 1):=aH (by rw [hgl,HNH.o]; omega)
 have HI:Hd (∀ w',Below w.heap.size w w'->IntsAt w' (.slice (some ⟨bi,oi,none⟩) n ci) g.1):=aH (fun w' hb=>by
  have h1:=hi.below hb
  rwa [hgl] at h1)
 rw [hgl] at e0 hic
 obtain ⟨N,hN⟩:=nm (g.2)
 have hN1:0 <= N/\N <= 100000000000:=by omega
 rw [hN] at e1
 have HN:=aH hN
 have d0:=(B6.o.cell (p:=⟨ba,oa + j * 2,none⟩) hba).trans e0
 have d1:=(B6.o.cell (p:=⟨ba,oa + j * 2 + 1,none⟩) hba).trans e1
 have hb6:=ul (fun x=>pl HTT.o hl j x) v
 have hcy:=pl HTT.o hl j (yz:Int)
 have hj60:(j:Int) * 100000000000 <= 60 * 100000000000:=Int.mul_le_mul_of_nonneg_right (by omega) (by omega)
 have hv9:((v + 1:Nat):Int) * ((j:Int) * 100000000000) <= 9 * (60 * 100000000000):=Int.mul_le_mul (by omega) hj60 (by omega) (by omega)
 obtain ⟨S,hS⟩:=nm (aM (cZ gs hl j) v)
 obtain ⟨cy,hcy0⟩:=nm (cZ gs hl j (yz:Int))
 rw [hS] at hb6 ⊢
 rw [hcy0] at hcy
 have HS:=aH hS
 have HCY:=aH hcy0
 have w1:IntKind.i64.wrap (S + N) = S + N:=iI _ (by omega)
 have w2:IntKind.i64.wrap (cy + N) = cy + N:=iI _ (by omega)
 have w3:IntKind.i64.wrap ((j:Int) + 1) = (j:Int) + 1:=iI _ (by omega)
 have w4:IntKind.i64.wrap ((n:Int) - 1) = (nh:Int):=by rw [show (n:Int) - 1 = nh by omega]; exact iI _ (by omega)
 have b1:(0:Int) <= (j:Int):=by omega
 have b2:(j:Int) < (nl:Int):=by omega
 have b3:(0:Int) <= (nh:Int):=by omega
 have b6:(nh:Int) < (n:Int):=by omega
 have b7:(0:Int) <= (yz:Int):=by omega
 have b8:(yz:Int) < (v:Int) + 1:=by omega
 clear hgj e0 e1 hi hig hgm hgl hz hzr hN hS hcy0 hb6 hcy hj60 hv9
 obtain ⟨oz,hoz⟩:=nm (aN hl g.1)
 have HOZ:=aH hoz
 go_upto_region 7 with fail
 obtain ⟨W7,hW7,G0,GB,Ghs⟩:=aA wr 51 [.slice (some ⟨bi,oi,none⟩) n ci,.int .i64 N]
 rw [<- hW7]
 clear hW7
 have q0:=G0.o.cell 0
 have q1:=G0.o.cell 1
 simp only [List.getElem?_cons_zero,List.getElem?_cons_succ] at q0 q1
 have B7:=aH (B6.o.trans (GB.o.mono B6.o.size))
 have sG:wr.heap.size < W7.heap.size:=G0.o.lt
 go_wp2_with fail
 refine (p9 W7 _ _ hl g.1 (HHA.o W7 B7.o) (HI.o W7 B7.o) (by have:=HGL2.o; omega)).mono ?_
 rintro e w8 ⟨rfl,hb8⟩
 rw [hoz]
 have B8:=aH (B7.o.trans (hb8.mono B7.o.size))
 have X8:=aH (GB.o.trans (hb8.mono GB.o.size))
 have C8:Hd (CntAt w8 (w.heap.size + 1) v (cZ gs hl j)):=aH (Blk.below' C6.o X8.o)
 have P8:=aH (P6.o.below' X8.o)
 have r0:=(hb8.cell (p:=⟨wr.heap.size,0,none⟩) sG).trans q0
 have r1:=(hb8.cell (p:=⟨wr.heap.size,1,none⟩) sG).trans q1
 have hcz8:=(B8.o.cell (p:=⟨bi,oi + nh,none⟩) hbi).trans hcz
 clear hb8 q0 q1 hcz d0 d1 p0 p1 p2 hoz C6 P6
 by_cases ho:oz = 0
 ·subst ho
  have HM:Hd (g.1.take hl.length = hl):=aH ((kJ (by have:=HGL2.o; omega)).1 HOZ.o)
  have HHIT:=aH (qQ HGJ.o HGL2.o HM.o HZD.o)
  have f0:=Blk.frozen C8.o yz
  have f1:=C8.o.cell (x:=yz) (by omega)
  rw [HCY.o] at f1
  go_wp2_with fail
  go_region
  all_goals
   go_wp2_with fail
   go_roundg gh
   case measure=>omega
   case rel =>
    obtain ⟨h2,h3⟩:=HHIT.o
    rw [HN.o] at h2
    have h3':∀ x:Nat,x <= v->x ≠ yz->cZ gs hl (j + 1) x = cZ gs hl j x:=fun x _ hne=>h3 x (by omega)
    exact ⟨j + 1,rfl,by omega,by rw [pP v (show yz <= v by omega) h2 h3',HS.o],aH (by
     have h4:=Blk.set_ C8.o yz (.int .i64 (cy + N))
     rw [map_set (f':=fun (x:Nat)=>Value.int .i64 (cZ gs hl (j + 1) (x:Int))) (fun x hx hne=>by rw [h3' x (by omega) hne]) (by rw [h2,HCY.o])] at h4
     exact h4),aH (P8.o.far (show w.heap.size ≠ w.heap.size + 1 by omega) _),aH (by first | exact (B8.o.setCell (p:=⟨w.heap.size + 1,yz,none⟩) (show w.heap.size <= w.heap.size + 1 by omega) _).drew | exact B8.o.setCell (p:=⟨w.heap.size + 1,yz,none⟩) (show w.heap.size <= w.heap.size + 1 by omega) _)⟩
 have o1:(oz == 0) = false:=by simpa using ho
 have HM:Hd (g.1.take hl.length ≠ hl):=aH (fun e=>ho (by rw [<- HOZ.o]; exact (kJ (by have:=HGL2.o; omega)).2 e))
 clear ho
 go_wp2_with fail
 go_roundg gh
 case measure=>omega
 case rel =>
  have hc:∀ x:Nat,x <= v->cZ gs hl (j + 1) x = cZ gs hl j x:=fun x _=>qP HGJ.o HGL2.o HM.o x
  exact ⟨j + 1,rfl,by omega,by rw [fu hc,HS.o],aH (C8.o.of_eq (fun x hx=>(hc x hx).symm)),P8,B8⟩
def GoodM (n K:Nat) (gs:List Gr):Prop:=gs.length <= K/\∀ g ∈ gs,g.1.length = n/\0 <= g.2/\g.2 <= (K:Int) * 100000000000
theorem GoodM.nil_ (n:Nat):GoodM n 0 []:=⟨by simp,by simp⟩
theorem GoodM.put {n K:Nat} {gs:List Gr} {ws:List Int} {x:Int} (h:GoodM n K gs)(hw:ws.length = n)(hx:0 <= x/\x <= 100000000000):GoodM n (K + 1) (putL gs ws x):=by
 refine ⟨by have:=eZ gs ws x; have:=h.1; omega,fun g hg=>?_⟩
 rcases eQ hg with h' | rfl | ⟨y,hy,rfl⟩
 ·have:=h.2 g h'; exact ⟨this.1,this.2.1,by omega⟩
 ·exact ⟨hw,hx.1,by show x <= _; omega⟩
 have:=h.2 y hy; exact ⟨this.1,by show 0 <= y.2 + x; omega,by show y.2 + x <= _; omega⟩

theorem sq (w:World) (O V:Int) (A:Option Addr) (c L n:Nat) (gs:List Gr)(h:GramsAt w (.slice A L c) gs)(hL:gs.length = L)(hg:∀ g ∈ gs,g.1.length = n + 1/\0 <= g.2/\g.2 <= 100000000000)(hl:L <= 500)(hn:n <= 1000)(hO:1 <= O/\O <= 1000)(hB:∀ (j:Nat),∀ g ∈ bV [] (cE (gs.take j)),g.2 <= 100000000000) :
  Calls Tryz.prog 73 #[.agg #[.int .i64 O,.int .i64 V,.slice A L c]] w fun e w'=>∃ lv,e = .returned (.agg #[.int .i64 (O - 1),.int .i64 V,lv])/\GOwn (w.heap.size + 3) w' lv (bV [] (cE gs))/\GoodM n L (bV [] (cE gs))/\Below w.heap.size w w':=by
 have HBD:=aH hB
 clear hB
 obtain ⟨_,_,e,hlc,hcm,hat⟩:=h.open_
 injection e with e1 e2 e3
 subst e1
 have HAT:=aH hat
 have HG:=aH hg
 have HL:=aH hL
 rw [hL] at hlc
 have hwO:IntKind.i64.wrap (O - 1) = O - 1:=iI _ (by omega)
 clear h hat hg hL e2 e3
 go_enter Tryz.func73,Tryz.ntmps73
 go_wp2_with fail
 obtain ⟨W,hW,P0,P1,P2,PB,Phs⟩:=box3 w 27 [.int .i64 O,.int .i64 V,.slice A L c] 27 [.int .i64 0,.int .i64 0,.slice none 0 0] 27 [.int .i64 (O - 1),.int .i64 V,.slice none 0 0]
 rw [<- hW]
 clear hW
 go_loopg [4] L (fun gh i wr=>∃ (j:Nat) (lv:Value),i = .int .i64 j/\j + gh = L/\Hd (GoodM n j (bV [] (cE (gs.take j))))/\Hd (GOwn (w.heap.size + 3) wr lv (bV [] (cE (gs.take j))))/\Hd (Blk wr (w.heap.size + 1 + 1) 27 [.int .i64 (O - 1),.int .i64 V,lv]) /\
   Hd (Blk wr (w.heap.size + 1) 27 [.int .i64 0,.int .i64 0,.slice none 0 0])/\Hd (Blk wr w.heap.size 27 [.int .i64 O,.int .i64 V,.slice A L c])/\Hd (Below w.heap.size w wr))
 case atStart=>exact ⟨0,.slice none 0 0,rfl,by omega,aH (GoodM.nil_ n),aH (GOwn.nil_ _ _),P2,P1,P0,PB⟩
 clear P0 P1 P2 PB
 obtain ⟨j,lv,rfl,hj,HGP,HO,H2,H1,H0,BEL⟩:=hrel
 have hwz:w.heap.size + 3 <= wr.heap.size:=by have:=H2.o.lt; omega
 obtain ⟨Ao,co,rfl⟩:=HO.o.len
 obtain ⟨Lo,hLo⟩:=nm ((bV [] (cE (gs.take j))).length)
 rw [hLo] at HO H2
 clear hLo
 rcases zP gk with h | h
 ·obtain rfl:j = L:=by omega
  have HE:Hd (gs.take j = gs):=aH (tL (by rw [HL.o]; exact nR _))
  obtain ⟨r0,r1,r2,z0,z1,z2⟩:=H1.o.three
  obtain ⟨o0,o1,o2,_,_,_⟩:=H2.o.three
  obtain ⟨q0,q1,q2,_,_,_⟩:=H0.o.three
  go_wp2_with fail
  refine bodyPost_ret (v:=.agg #[.int .i64 (O - 1),.int .i64 V,.slice Ao Lo co]) (by simp [results,Tryz.results73,go_sem,r0,r1,r2]) rfl ⟨_,rfl,?_,?_,af BEL.o (by omega) _ _ _⟩
  ·have:=(((HO.o.setFar (p:=⟨w.heap.size + 1,0,none⟩) (by show w.heap.size + 1 < w.heap.size + 3; omega) (.int .i64 (O - 1))).setFar (p:=⟨w.heap.size + 1,1,none⟩) (by show w.heap.size + 1 < w.heap.size + 3; omega) (.int .i64 V)).setFar (p:=⟨w.heap.size + 1,2,none⟩) (by show w.heap.size + 1 < w.heap.size + 3; omega) (.slice Ao Lo co))
   rwa [HE.o] at this
  have:=HGP.o
  rwa [HE.o] at this
 obtain ⟨gh,rfl⟩:∃ g,gk = g + 1:=⟨gk - 1,by omega⟩
 obtain ⟨x,hx⟩:∃ x,gs[j]? = some x:=⟨_,eG (by rw [HL.o]; omega)⟩
 obtain ⟨ba,oa,c0,rfl,hba,e0,e1,hi⟩:=HAT.o j x hx
 have d0':=(BEL.o.cell (p:=⟨ba,oa + j * 2,none⟩) hba).trans e0
 have d1:=(BEL.o.cell (p:=⟨ba,oa + j * 2 + 1,none⟩) hba).trans e1
 have hgx:=HG.o x (mG hx)
 have HGX:Hd ((x.1.drop 1).length = n/\0 <= x.2/\x.2 <= 100000000000):=aH ⟨by rw [List.length_drop]; omega,hgx.2⟩
 have HX:Hd (bV [] (cE (gs.take j ++ [x])) = putL (bV [] (cE (gs.take j))) (x.1.drop 1) x.2):=aH (by
  unfold cE
  rw [List.map_append]
  exact pY [] _ (x.1.drop 1,x.2))
 have HX2:=aH (ah _ hx)
 have HIT:=aH (hi.below BEL.o)
 obtain ⟨o0,o1,o2,z0,z1,z2⟩:=H2.o.three
 obtain ⟨q0,q1,q2,_,_,_⟩:=H0.o.three
 obtain ⟨N,hN⟩:=nm (x.2)
 have HNE:=aH hN
 rw [hN] at d1 HX HGX
 obtain ⟨Ax,cx,rfl,hcx,hcxm,hatx⟩:=hi.open_
 have hxl:x.1.length = n + 1:=hgx.1
 obtain ⟨y,hy⟩:∃ y,x.1[0]? = some y:=⟨_,eG (by omega)⟩
 obtain ⟨bx,ox,rfl,_,_⟩:=hatx 0 y hy
 rw [hxl] at hcx d0' HIT
 have HTL:Hd (IntsAt wr (if cx = 1 then (.slice (some ⟨bx,ox,none⟩) n 0) else (.slice (some ⟨bx,ox + 1,none⟩) n (cx - 1))) (x.1.drop 1)):=aH (by
  have hdl:(x.1.drop 1).length = n:=by rw [List.length_drop]; omega
  by_cases hc:cx = 1
  ·rw [if_pos hc]
   unfold IntsAt
   rw [hdl,List.eq_nil_of_length_eq_zero (show (x.1.drop 1).length = 0 by omega)]
   exact Sl.none' _ _ _ _ _ _ (by omega) (by omega) (by unfold maxLen; omega)
  rw [if_neg hc]
  unfold IntsAt
  have hi2:Sl wr 1 (.slice (some ⟨bx,ox,none⟩) (n + 1) cx) (n + 1) (x.1.map (Value.int .i64)):=by have:=HIT.o; unfold IntsAt at this; rwa [hxl] at this
  have:=Sl.tail (k:=1) hi2 (by omega)
  rw [hdl,List.map_drop]
  simpa using this)
 obtain ⟨c0,hc0⟩:∃ c0,c0 = Value.slice (some ⟨bx,ox,none⟩) (n + 1) cx:=⟨_,rfl⟩
 have d0:=d0'
 have hn1:(1:Int) <= (n:Int) + 1:=by omega
 generalize x.1.drop 1 = ks at HGX HX HTL
 clear hx hi e0 e1 hN hgx hatx hy hxl d0' hc0 c0
 go_wp2_with fail
 by_cases hcc:cx = 1
 ·have hn0:n = 0:=by omega
  rw [if_pos hcc] at HTL
  subst hcc
  subst hn0
  have hS:wr.drew.cell? ⟨w.heap.size,2,none⟩ = some (.slice (some ⟨ba,oa,none⟩) L c)/\wr.drew.cell? ⟨ba,oa + j * 2,none⟩ = some (.slice (some ⟨bx,ox,none⟩) (0 + 1) 1)/\wr.drew.cell? ⟨ba,oa + j * 2 + 1,none⟩ = some (.int .i64 N):=⟨q2,d0,d1⟩
  have HS0:=aH hS
  clear o0 o1 q0 q1 q2 z0 z1 z2 hS
  refine wp_region_held_drew (S:=fun w'=>w'.cell? ⟨w.heap.size,2,none⟩ = some (.slice (some ⟨ba,oa,none⟩) L c)/\w'.cell? ⟨ba,oa + j * 2,none⟩ = some (.slice (some ⟨bx,ox,none⟩) (0 + 1) 1)/\w'.cell? ⟨ba,oa + j * 2 + 1,none⟩ = some (.int .i64 N)) (by kernel_rfl) HS0.o (fun hHeld=>?_)
  refine tjj 0 ?_ rfl (by kernel_rfl) rfl ‹_› ?_ (fun _ _ _ h=>h) (tjj 2 ?_ rfl (by kernel_rfl) rfl ‹_› ?_ (fun _ _ _ h=>h) (tjj 3 ?_ rfl (by kernel_rfl) rfl ‹_› ?_ (fun _ _ _ h=>h) (tjj 4 ?_ rfl (by kernel_rfl) rfl ‹_› ?_ (fun _ _ _ h=>h) (tjj 5 ?_ rfl (by kernel_rfl) rfl ‹_› ?_ (fun _ _ _ h=>h) (tjj 6 ?_ rfl (by kernel_rfl) rfl ‹_› ?_ (fun _ _ _ h=>h) (tjj 7 ?_ rfl (by kernel_rfl) rfl ‹_› ?_ (fun _ _ _ h=>h) (tjj 8 ?_ rfl (by kernel_rfl) rfl ‹_› ?_ (fun _ _ _ h=>h) (tjj 9 ?_ rfl (by kernel_rfl) rfl ‹_› ?_ (fun _ _ _ h=>h) (tjj 10 ?_ rfl (by kernel_rfl) rfl ‹_› ?_ (fun _ _ _ h=>h) (tjj 11 ?_ rfl (by kernel_rfl) rfl ‹_› ?_ (fun _ _ _ h=>h) (tjj 12 ?_ rfl (by kernel_rfl) rfl ‹_› ?_ (fun _ _ _ h=>h) (tjj 13 ?_ rfl (by kernel_rfl) rfl ‹_› ?_ (fun _ _ _ h=>h) (tjj 14 ?_ rfl (by kernel_rfl) rfl ‹_› ?_ (fun _ _ _ h=>h) ?_)))))))))))))
  iterate 14 (rotate_left; · (intro w' hSw; (try dsimp only at hSw); (try go_frame); go_simp <;> with_reducible rfl))
  go_frame
  refine wpAnyH_ready (rs:=[1]) (by kernel_rfl) (by simp) ?_
  refine AllReadyH.cons rfl (fun K hK=>?_) AllReadyH.nil
  have o2':wr.drew.cell? ⟨w.heap.size + 1 + 1,2,none⟩ = some (.slice Ao Lo co):=o2
  go_simp
  refine hK.out _ _ HS0.o (fun hHeld=>?_)
  clear hK K o2' o2
  try go_frame
  refine wpAnyH_ready (rs:=[15]) (by kernel_rfl) (by simp) ?_
  refine AllReadyH.cons rfl (fun K hK=>?_) AllReadyH.nil
  go_simp
  refine (vJ (w.heap.size + 3) wr.drew _ (.slice (some ⟨bx,ox,none⟩) 0 0) _ (ks) N (HO.o.below (bS _)) (HTL.o.below (bS _)) (fun g hg=>by rw [(HGP.o.2 g hg).1,HGX.o.1]) (by have:=HGX.o.2; omega) (fun g hg=>by have h7:=HGP.o.2 g hg; have h8:=HBD.o j g hg; omega) (by have:=HGP.o.1; omega) (by rw [HGX.o.1]; omega) (by show w.heap.size + 3 <= wr.heap.size; exact hwz)).mono ?_
  rintro e w5 ⟨lv5,rfl,t5,hg5,hx5⟩
  obtain ⟨A5,c5,rfl⟩:=t5.len
  have O5:=aH t5
  have Y2:=aH (H2.o.drew.grown hg5 (HO.o.ne_box H2.o))
  have Y1:=aH (H1.o.drew.grown hg5 (HO.o.ne_box H1.o))
  have Y0:=aH (H0.o.drew.grown hg5 (HO.o.ne_box H0.o))
  have B5:=aH (eV ((Below.refl (w.heap.size + 3) wr.drew).grown hg5 (by show w.heap.size + 3 <= wr.heap.size; exact hwz) (ao HO.o.from_)))
  have HS5:=aH (aI (Y0.o.cell 2) (aI ((B5.o.cell (p:=⟨ba,oa + j * 2,none⟩) (by show ba < w.heap.size + 3; omega)).trans d0) ((B5.o.cell (p:=⟨ba,oa + j * 2 + 1,none⟩) (by show ba < w.heap.size + 3; omega)).trans d1)))
  clear t5 hg5 hx5 hHeld HS0
  try go_simp
  refine hK.out _ _ HS5.o (fun hHeld=>?_)
  clear hK K
  try go_frame
  refine tjj 16 ?_ rfl (by kernel_rfl) rfl ‹_› ?_ (fun _ _ _ h=>h) ?_
  rotate_left
  ·(intro w' hSw; (try dsimp only at hSw); (try go_frame); go_simp <;> with_reducible rfl)
  go_frame
  refine wpAnyH_ready (rs:=[17]) (by kernel_rfl) (by simp) ?_
  refine AllReadyH.cons rfl (fun K hK=>?_) AllReadyH.nil
  obtain ⟨o0,o1,o2,z0,z1,z2⟩:=Y2.o.three
  go_simp
  have HS6:=aH (aI ((Y0.o.far (p:=⟨w.heap.size + 1 + 1,2,none⟩) (by show w.heap.size ≠ w.heap.size + 1 + 1; omega) (.slice A5 (putL (bV [] (cE (gs.take j))) ks N).length c5)).cell 2) (aI ((World.cell?_setCell_far w5 ⟨w.heap.size + 1 + 1,2,none⟩ ⟨ba,oa + j * 2,none⟩ (.slice A5 (putL (bV [] (cE (gs.take j))) ks N).length c5) (by show w.heap.size + 1 + 1 ≠ ba; omega)).trans HS5.o.2.1) ((World.cell?_setCell_far w5 ⟨w.heap.size + 1 + 1,2,none⟩ ⟨ba,oa + j * 2 + 1,none⟩ (.slice A5 (putL (bV [] (cE (gs.take j))) ks N).length c5) (by show w.heap.size + 1 + 1 ≠ ba; omega)).trans HS5.o.2.2)))
  refine hK.out _ _ HS6.o (fun hHeld=>?_)
  clear hK K hHeld HS6 HS5 o0 o1 o2 z0 z1 z2
  try go_frame
  refine wpAnyH_done (by kernel_rfl) ?_ _
  go_wp2_with fail
  go_roundg gh
  case measure=>omega
  case rel=>exact ⟨j + 1,_,rfl,by omega,aH (by rw [HX2.o,HX.o]; exact HGP.o.put HGX.o.1 HGX.o.2),aH (by rw [HX2.o,HX.o]; exact O5.o.setFar (p:=⟨w.heap.size + 1 + 1,2,none⟩) (by show w.heap.size + 1 + 1 < w.heap.size + 3; omega) _),aH (Y2.o.set_ 2 _),aH (Y1.o.far (p:=⟨w.heap.size + 1 + 1,2,none⟩) (by show w.heap.size + 1 ≠ w.heap.size + 1 + 1; omega) _),aH (Y0.o.far (p:=⟨w.heap.size + 1 + 1,2,none⟩) (by show w.heap.size ≠ w.heap.size + 1 + 1; omega) _),aH ((BEL.o.trans (B5.o.mono (by omega))).setCell (p:=⟨w.heap.size + 1 + 1,2,none⟩) (by show w.heap.size <= w.heap.size + 1 + 1; omega) _)⟩
 rw [if_neg hcc] at HTL
 have hS:wr.drew.cell? ⟨w.heap.size,2,none⟩ = some (.slice (some ⟨ba,oa,none⟩) L c)/\wr.drew.cell? ⟨ba,oa + j * 2,none⟩ = some (.slice (some ⟨bx,ox,none⟩) (n + 1) cx)/\wr.drew.cell? ⟨ba,oa + j * 2 + 1,none⟩ = some (.int .i64 N):=⟨q2,d0,d1⟩
 have HS0:=aH hS
 clear o0 o1 q0 q1 q2 z0 z1 z2 hS
 refine wp_region_held_drew (S:=fun w'=>w'.cell? ⟨w.heap.size,2,none⟩ = some (.slice (some ⟨ba,oa,none⟩) L c)/\w'.cell? ⟨ba,oa + j * 2,none⟩ = some (.slice (some ⟨bx,ox,none⟩) (n + 1) cx)/\w'.cell? ⟨ba,oa + j * 2 + 1,none⟩ = some (.int .i64 N)) (by kernel_rfl) HS0.o (fun hHeld=>?_)
 refine tjj 0 ?_ rfl (by kernel_rfl) rfl ‹_› ?_ (fun _ _ _ h=>h) (tjj 2 ?_ rfl (by kernel_rfl) rfl ‹_› ?_ (fun _ _ _ h=>h) (tjj 3 ?_ rfl (by kernel_rfl) rfl ‹_› ?_ (fun _ _ _ h=>h) (tjj 4 ?_ rfl (by kernel_rfl) rfl ‹_› ?_ (fun _ _ _ h=>h) (tjj 5 ?_ rfl (by kernel_rfl) rfl ‹_› ?_ (fun _ _ _ h=>h) (tjj 6 ?_ rfl (by kernel_rfl) rfl ‹_› ?_ (fun _ _ _ h=>h) (tjj 7 ?_ rfl (by kernel_rfl) rfl ‹_› ?_ (fun _ _ _ h=>h) (tjj 8 ?_ rfl (by kernel_rfl) rfl ‹_› ?_ (fun _ _ _ h=>h) (tjj 9 ?_ rfl (by kernel_rfl) rfl ‹_› ?_ (fun _ _ _ h=>h) (tjj 10 ?_ rfl (by kernel_rfl) rfl ‹_› ?_ (fun _ _ _ h=>h) (tjj 11 ?_ rfl (by kernel_rfl) rfl ‹_› ?_ (fun _ _ _ h=>h) (tjj 12 ?_ rfl (by kernel_rfl) rfl ‹_› ?_ (fun _ _ _ h=>h) (tjj 13 ?_ rfl (by kernel_rfl) rfl ‹_› ?_ (fun _ _ _ h=>h) (tjj 14 ?_ rfl (by kernel_rfl) rfl ‹_› ?_ (fun _ _ _ h=>h) ?_)))))))))))))
 iterate 14 (rotate_left; · (intro w' hSw; (try dsimp only at hSw); (try go_frame); go_simp <;> with_reducible rfl))
 go_frame
 refine wpAnyH_ready (rs:=[1]) (by kernel_rfl) (by simp) ?_
 refine AllReadyH.cons rfl (fun K hK=>?_) AllReadyH.nil
 have o2':wr.drew.cell? ⟨w.heap.size + 1 + 1,2,none⟩ = some (.slice Ao Lo co):=o2
 go_simp
 refine hK.out _ _ HS0.o (fun hHeld=>?_)
 clear hK K o2' o2
 try go_frame
 refine wpAnyH_ready (rs:=[15]) (by kernel_rfl) (by simp) ?_
 refine AllReadyH.cons rfl (fun K hK=>?_) AllReadyH.nil
 go_simp
 refine (vJ (w.heap.size + 3) wr.drew _ (.slice (some ⟨bx,ox + 1,none⟩) n (cx - 1)) _ (ks) N (HO.o.below (bS _)) (HTL.o.below (bS _)) (fun g hg=>by rw [(HGP.o.2 g hg).1,HGX.o.1]) (by have:=HGX.o.2; omega) (fun g hg=>by have h7:=HGP.o.2 g hg; have h8:=HBD.o j g hg; omega) (by have:=HGP.o.1; omega) (by rw [HGX.o.1]; omega) (by show w.heap.size + 3 <= wr.heap.size; exact hwz)).mono ?_
 rintro e w5 ⟨lv5,rfl,t5,hg5,hx5⟩
 obtain ⟨A5,c5,rfl⟩:=t5.len
 have O5:=aH t5
 have Y2:=aH (H2.o.drew.grown hg5 (HO.o.ne_box H2.o))
 have Y1:=aH (H1.o.drew.grown hg5 (HO.o.ne_box H1.o))
 have Y0:=aH (H0.o.drew.grown hg5 (HO.o.ne_box H0.o))
 have B5:=aH (eV ((Below.refl (w.heap.size + 3) wr.drew).grown hg5 (by show w.heap.size + 3 <= wr.heap.size; exact hwz) (ao HO.o.from_)))
 have HS5:=aH (aI (Y0.o.cell 2) (aI ((B5.o.cell (p:=⟨ba,oa + j * 2,none⟩) (by show ba < w.heap.size + 3; omega)).trans d0) ((B5.o.cell (p:=⟨ba,oa + j * 2 + 1,none⟩) (by show ba < w.heap.size + 3; omega)).trans d1)))
 clear t5 hg5 hx5 hHeld HS0
 try go_simp
 refine hK.out _ _ HS5.o (fun hHeld=>?_)
 clear hK K
 try go_frame
 refine tjj 16 ?_ rfl (by kernel_rfl) rfl ‹_› ?_ (fun _ _ _ h=>h) ?_
 rotate_left
 ·(intro w' hSw; (try dsimp only at hSw); (try go_frame); go_simp <;> with_reducible rfl)
 go_frame
 refine wpAnyH_ready (rs:=[17]) (by kernel_rfl) (by simp) ?_
 refine AllReadyH.cons rfl (fun K hK=>?_) AllReadyH.nil
 obtain ⟨o0,o1,o2,z0,z1,z2⟩:=Y2.o.three
 go_simp
 have HS6:=aH (aI ((Y0.o.far (p:=⟨w.heap.size + 1 + 1,2,none⟩) (by show w.heap.size ≠ w.heap.size + 1 + 1; omega) (.slice A5 (putL (bV [] (cE (gs.take j))) ks N).length c5)).cell 2) (aI ((World.cell?_setCell_far w5 ⟨w.heap.size + 1 + 1,2,none⟩ ⟨ba,oa + j * 2,none⟩ (.slice A5 (putL (bV [] (cE (gs.take j))) ks N).length c5) (by show w.heap.size + 1 + 1 ≠ ba; omega)).trans HS5.o.2.1) ((World.cell?_setCell_far w5 ⟨w.heap.size + 1 + 1,2,none⟩ ⟨ba,oa + j * 2 + 1,none⟩ (.slice A5 (putL (bV [] (cE (gs.take j))) ks N).length c5) (by show w.heap.size + 1 + 1 ≠ ba; omega)).trans HS5.o.2.2)))
 refine hK.out _ _ HS6.o (fun hHeld=>?_)
 clear hK K hHeld HS6 HS5 o0 o1 o2 z0 z1 z2
 try go_frame
 refine wpAnyH_done (by kernel_rfl) ?_ _
 go_wp2_with fail
 go_roundg gh
 case measure=>omega
 case rel=>exact ⟨j + 1,_,rfl,by omega,aH (by rw [HX2.o,HX.o]; exact HGP.o.put HGX.o.1 HGX.o.2),aH (by rw [HX2.o,HX.o]; exact O5.o.setFar (p:=⟨w.heap.size + 1 + 1,2,none⟩) (by show w.heap.size + 1 + 1 < w.heap.size + 3; omega) _),aH (Y2.o.set_ 2 _),aH (Y1.o.far (p:=⟨w.heap.size + 1 + 1,2,none⟩) (by show w.heap.size + 1 ≠ w.heap.size + 1 + 1; omega) _),aH (Y0.o.far (p:=⟨w.heap.size + 1 + 1,2,none⟩) (by show w.heap.size ≠ w.heap.size + 1 + 1; omega) _),aH ((BEL.o.trans (B5.o.mono (by omega))).setCell (p:=⟨w.heap.size + 1 + 1,2,none⟩) (by show w.heap.size <= w.heap.size + 1 + 1; omega) _)⟩


def dE (gs:List Gr):Nat->List Gr
 | 0=>gs
 | d + 1=>bV [] (cE (dE gs d))
def iw (v n:Nat) (gs:List Gr):Prop:=wg v n gs/\(∀ g ∈ gs,0 < g.2)/\cT gs <= 100000000000
theorem rC {gs:List Gr} (h:∀ g ∈ gs,0 < g.2) {g:Gr} (hg:g ∈ gs):g.2 <= cT gs:=by
 induction gs with
 | nil=>cases hg
 | cons x gs ih =>
  rw [bE]
  have h1:=fM (gs:=gs) (fun y hy=>h y (by simp [hy]))
  have h2:=h x (by simp)
  rcases List.mem_cons.1 hg with rfl | h3
  ·omega
  have:=ih (fun y hy=>h y (by simp [hy])) h3
  omega
theorem pM (l:List Gr):∀ t:List Gr,cT (bV t l) = cT t + cT l:=by
 induction l with
 | nil=>intro t; show cT t = cT t + cT []; rw [show cT [] = 0 from rfl]; omega
 | cons g l ih =>
  intro t
  show cT (bV (putL t g.1 g.2) l) = _
  rw [ih,rB,bE]
  omega
theorem rD (gs:List Gr):cT (cE gs) = cT gs:=by
 induction gs with
 | nil=>rfl
 | cons g gs ih =>
  show cT ((g.1.drop 1,g.2) :: cE gs) = _
  rw [bE,bE,ih]
theorem mW {v n:Nat} {gs:List Gr} (h:iw v (n + 1) gs):iw v n (bV [] (cE gs))/\∀ k,tot 0 (bV [] (cE gs)) k = tot 1 gs k:=by
 obtain ⟨⟨h1,h2⟩,h3,h4⟩:=h
 have hl:∀ g ∈ cE gs,g.1.length = n/\0 < g.2:=fun g hg=>by
  obtain ⟨x,hx,rfl⟩:=List.mem_map.1 hg
  have:=h2 x hx
  exact ⟨by show (x.1.drop 1).length = n; rw [List.length_drop]; omega,h3 x hx⟩
 obtain ⟨k1,k2,k3⟩:=rT hl
 have hs:cT (bV [] (cE gs)) = cT gs:=by rw [pM,rD,show cT [] = 0 from rfl]; omega
 have hpos:∀ g ∈ bV [] (cE gs),0 < g.2:=fun g hg=>k3.2.2 g hg
 have hlen:(bV [] (cE gs)).length <= 60:=by
  have key:∀ (l t:List Gr),(bV t l).length <= t.length + l.length:=by
   intro l
   induction l with
   | nil=>intro t; simp [bV]
   | cons g l ih =>
    intro t
    show (bV (putL t g.1 g.2) l).length <= _
    have h5:=ih (putL t g.1 g.2)
    have h6:=eZ t g.1 g.2
    rw [List.length_cons]
    omega
  have h7:=key (cE gs) []
  have h8:(cE gs).length = gs.length:=by simp [cE]
  simp only [List.length_nil] at h7
  omega
 have hwords:∀ (l t:List Gr),(∀ g ∈ t,∀ x ∈ g.1,0 <= x/\x <= (v:Int))->(∀ g ∈ l,∀ x ∈ g.1,0 <= x/\x <= (v:Int))->∀ g ∈ bV t l,∀ x ∈ g.1,0 <= x/\x <= (v:Int):=by
  intro l
  induction l with
  | nil=>intro t ht _; exact ht
  | cons g l ih =>
   intro t ht hl
   refine ih (putL t g.1 g.2) (fun y hy=>?_) (fun y hy=>hl y (by simp [hy]))
   rcases eQ hy with h' | rfl | ⟨z,hz,rfl⟩
   ·exact ht y h'
   ·exact hl g (by simp)
   exact ht z hz
 refine ⟨⟨⟨hlen,fun g hg=>⟨k2 g hg,?_,Int.le_of_lt (hpos g hg),?_⟩⟩,hpos,by omega⟩,fun k=>?_⟩
 ·refine hwords (cE gs) [] (fun g hg=>by cases hg) (fun g hg=>?_) g hg
  obtain ⟨x,hx,rfl⟩:=List.mem_map.1 hg
  exact fun y hy=>(h2 x hx).2.1 y (List.mem_of_mem_drop hy)
 ·have:=rC hpos hg
  omega
 rw [k3.tot0,rz]
theorem rx {n:Nat} {t:List Gr} {ws:List Int} {c:Int} (hl:∀ g ∈ t,g.1.length = n)(hw:ws.length = n) (d:Nat) (k:List Int):tot d (putL t ws c) k = tot d t k + if ws.drop d = k then c else 0:=by
 have tc:∀ (e:Gr) (m:List Gr),tot d (e :: m) k = (if e.1.drop d = k then e.2 else 0) + tot d m k:=fun e m=>by
  unfold tot
  rw [aK]
  simp only [beq_iff_eq]
 induction t with
 | nil =>
  show tot d [(ws,c)] k = _
  rw [tc]
  show (if ws.drop d = k then c else 0) + tot d [] k = tot d [] k + (if ws.drop d = k then c else 0)
  omega
 | cons g t ih =>
  have ih':=ih (fun x hx=>hl x (by simp [hx]))
  unfold putL
  split
  ·rw [tc,ih',tc]
   omega
  split
  ·next h1 h2 =>
   have e:g.1 = ws:=(hZ (by rw [hl g (by simp),hw])).1 h2
   rw [tc,tc]
   show (if g.1.drop d = k then g.2 + c else 0) + _ = _
   rw [e]
   split <;> omega
  rw [tc (ws,c)]
  show (if ws.drop d = k then c else 0) + _ = _
  omega
theorem ry {n:Nat} (d:Nat) (k:List Int) (l:List Gr):∀ (t:List Gr),(∀ g ∈ t,g.1.length = n)->(∀ g ∈ l,g.1.length = n)->tot d (bV t l) k = tot d t k + tot d l k:=by
 induction l with
 | nil=>intro t _ _; show tot d t k = tot d t k + tot d [] k; rw [show tot d [] k = 0 from rfl]; omega
 | cons g l ih =>
  intro t ht hl
  show tot d (bV (putL t g.1 g.2) l) k = _
  rw [ih _ (mM ht (hl g (by simp))) (fun x hx=>hl x (by simp [hx])),rx ht (hl g (by simp))]
  have tc:tot d (g :: l) k = (if g.1.drop d = k then g.2 else 0) + tot d l k:=by
   unfold tot
   rw [aK]
   simp only [beq_iff_eq]
  rw [tc]
  omega
theorem rA (d:Nat) (k:List Int) (l:List Gr):tot d (cE l) k = tot (d + 1) l k:=by
 induction l with
 | nil=>rfl
 | cons g l ih =>
  have tc:∀ (d:Nat) (e:Gr) (m:List Gr),tot d (e :: m) k = (if e.1.drop d = k then e.2 else 0) + tot d m k:=fun d e m=>by
   unfold tot
   rw [aK]
   simp only [beq_iff_eq]
  show tot d ((g.1.drop 1,g.2) :: cE l) k = _
  rw [tc,tc,ih]
  show (if (g.1.drop 1).drop d = k then g.2 else 0) + _ = _
  rw [List.drop_drop,Nat.add_comm 1 d]
theorem oU (d:Nat) {v n:Nat} {gs:List Gr} (h:iw v (n + d) gs):iw v n (dE gs d)/\∀ e k,tot e (dE gs d) k = tot (e + d) gs k:=by
 induction d generalizing n with
 | zero=>exact ⟨h,fun e k=>rfl⟩
 | succ d ih =>
  have h1:=ih (n:=n + 1) (by rw [show n + 1 + d = n + (d + 1) by omega]; exact h)
  have h2:=mW h1.1
  refine ⟨h2.1,fun e k=>?_⟩
  show tot e (bV [] (cE (dE gs d))) k = _
  have h3:∀ g ∈ cE (dE gs d),g.1.length = n:=fun g hg=>by
   obtain ⟨x,hx,rfl⟩:=List.mem_map.1 hg
   have:=h1.1.1.2 x hx
   show (x.1.drop 1).length = n
   rw [List.length_drop]
   omega
  rw [ry e k _ [] (fun g hg=>by cases hg) h3,rA,h1.2,show tot e [] k = 0 from rfl,show e + 1 + d = e + (d + 1) by omega]
  omega
theorem jE {v n:Nat} {gs:List Gr} (h:iw v (n + 1) gs) (j:Nat):∀ g ∈ bV [] (cE (gs.take j)),g.2 <= 100000000000:=by
 have hp:iw v (n + 1) (gs.take j):=by
  obtain ⟨⟨h1,h2⟩,h3,h4⟩:=h
  have:=pN h3 j
  exact ⟨⟨by rw [List.length_take]; omega,fun g hg=>h2 g (List.mem_of_mem_take hg)⟩,fun g hg=>h3 g (List.mem_of_mem_take hg),by omega⟩
 have h1:=mW hp
 intro g hg
 have:=h1.1.1.2 g hg
 exact this.2.2.2
end Go.Proofs.YtjebfdfkjlkifaaGreat
