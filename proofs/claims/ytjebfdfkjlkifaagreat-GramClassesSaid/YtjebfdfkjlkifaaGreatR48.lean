/- Lemmas. -/
import Derived.Test.YtjebfdfkjlkifaaGreatR47
set_option linter.all false
set_option maxRecDepth 1000000
set_option maxHeartbeats 32000000
namespace Go.Proofs.YtjebfdfkjlkifaaGreat
open Go.RowKit
def SumsM (L:List (Int × FV)) (cs:List Int) (qs:List Rat) (j:Nat):Prop:=(∀ z,lookF L z = clsN cs qs z j)/\(∀ i,i < j->∃ e ∈ L,e.1 = cs.getD i 0)/\∀ e ∈ L,∃ i,i < j/\cs.getD i 0 = e.1
theorem SumsM.nil_ (cs:List Int) (qs:List Rat):SumsM [] cs qs 0:=⟨fun _=>rfl,fun i h=>by omega,fun e h=>by cases h⟩
theorem putT_has {V:Type} (L:List (Int × V)) (z:Int) (v:V):∃ e ∈ dJ L z v,e.1 = z:=by
 have h:=kM L z v z
 rw [if_pos rfl] at h
 exact ⟨(z,v),br h,rfl⟩
theorem putT_keeps {V:Type} {L:List (Int × V)} {y z:Int} (v:V)(h:∃ e ∈ L,e.1 = y):∃ e ∈ dJ L z v,e.1 = y:=by
 by_cases hyz:y = z
 ·subst hyz
  exact putT_has L y v
 obtain ⟨e,he,rfl⟩:=h
 unfold dJ
 split
 ·exact ⟨e,List.mem_map.2 ⟨e,he,by rw [if_neg hyz]⟩,rfl⟩
 exact ⟨e,List.mem_append_left _ he,rfl⟩
theorem SumsM.put {L:List (Int × FV)} {cs:List Int} {qs:List Rat} {j:Nat} {c:Int} {q:Rat} (h:SumsM L cs qs j)(hc:cs.getD j 0 = c)(hq:qs.getD j 0 = q) (v:Value):SumsM (dJ L c (v,lookF L c + q)) cs qs (j + 1):=by
 obtain ⟨h1,h2,h3⟩:=h
 refine ⟨fun z=>?_,fun i hi=>?_,fun e he=>?_⟩
 ·rw [lookF_put]
  show _ = (if cs.getD j 0 = z then clsN cs qs z j + qs.getD j 0 else clsN cs qs z j)
  rw [hc,hq]
  by_cases hz:z = c
  ·subst hz
   rw [if_pos rfl,if_pos rfl,h1]
  rw [if_neg hz,if_neg (fun e=>hz e.symm),h1]
 ·rcases Nat.lt_or_ge i j with h | h
  ·exact putT_keeps _ (h2 i h)
  obtain rfl:i = j:=by omega
  rw [hc]
  exact putT_has _ _ _
 rcases fm he with he | rfl
 ·obtain ⟨i,h4,h5⟩:=h3 e he
  exact ⟨i,by omega,h5⟩
 exact ⟨j,by omega,hc⟩
theorem SumsM.entry {L:List (Int × FV)} {cs:List Int} {qs:List Rat} {j:Nat} (h:SumsM L cs qs j)(hn:(L.map Prod.fst).Nodup) {e:Int × FV} (he:e ∈ L):e.2.2 = clsN cs qs e.1 j:=by
 obtain ⟨i,hi⟩:=List.mem_iff_getElem?.1 he
 have h1:=jF hn (j:=i) (k:=e.1) (v:=e.2) hi
 rw [<- h.1 e.1]
 unfold lookF
 rw [h1]
 rfl
theorem SumsM.all_one {L:List (Int × FV)} {cs:List Int} {qs:List Rat} (h:SumsM L cs qs cs.length)(hn:(L.map Prod.fst).Nodup):(∀ e ∈ L,e.2.2 = 1) ↔ ∀ j,j < cs.length->clsN cs qs (cs.getD j 0) cs.length = 1:=by
 constructor
 ·intro ha j hj
  obtain ⟨e,he,h1⟩:=h.2.1 j hj
  rw [<- h1,<- h.entry hn he]
  exact ha e he
 intro ha e he
 obtain ⟨i,hi,h1⟩:=h.2.2 e he
 rw [h.entry hn he,<- h1]
 exact ha i hi
def clsE (cs:List Int) (qs:List Rat):Int:=if clsB cs qs = true then 0 else 2
theorem ret_i {a b:Int} (h:a = b):Ending.returned (.int .i64 a) = .returned (.int .i64 b):=by rw [h]
theorem clsE_bad {cs:List Int} {qs:List Rat} (h:clsB cs qs = false):clsE cs qs = 2:=by
 unfold clsE
 rw [h]
 rfl
theorem clsB_iff {cs:List Int} {qs:List Rat}:clsB cs qs = true ↔ 1 <= cs.length/\qs.length = cs.length/\inR 1 2000 cs = true/\(∀ j,j < cs.length->¬ aU (qs.getD j 0) < 0)/\∀ j,j < cs.length->clsN cs qs (cs.getD j 0) cs.length = 1:=by
 unfold clsB
 simp only [Bool.and_eq_true,decide_eq_true_eq,List.all_eq_true,List.mem_range]
 unfold clsOk
 simp only [Bool.and_eq_true,decide_eq_true_eq,Bool.not_eq_true',decide_eq_false_iff_not]
 have hin:inR 1 2000 cs = true ↔ ∀ j,j < cs.length->1 <= cs.getD j 0/\cs.getD j 0 <= 2000:=by
  rw [inR_iff]
  constructor
  ·intro h j hj
   rw [gD,eG hj]
   exact h _ (List.getElem_mem _)
  intro h x hx
  obtain ⟨j,hj,rfl⟩:=List.getElem_of_mem hx
  have:=h j hj
  rw [gD,eG hj] at this
  exact this
 rw [hin]
 constructor
 ·rintro ⟨h1,h2,h3⟩
  exact ⟨h1,h2,fun j hj=>⟨(h3 j hj).1,(h3 j hj).2.1⟩,fun j hj=>(h3 j hj).2.2.1,fun j hj=>(h3 j hj).2.2.2⟩
 rintro ⟨h1,h2,h3,h4,h5⟩
 exact ⟨h1,h2,fun j hj=>⟨(h3 j hj).1,(h3 j hj).2,h4 j hj,h5 j hj⟩⟩
theorem clsE_not {cs:List Int} {qs:List Rat} (h:¬ (1 <= cs.length/\qs.length = cs.length/\inR 1 2000 cs = true/\(∀ j,j < cs.length->¬ aU (qs.getD j 0) < 0)/\∀ j,j < cs.length->clsN cs qs (cs.getD j 0) cs.length = 1)):clsE cs qs = 2 :=
 clsE_bad (by
  cases hb:clsB cs qs with
  | false=>rfl
  | true=>exact absurd (clsB_iff.1 hb) h)
theorem zeroFr (w:World):(zeroValue 40).run Tryz.prog w = .ok (.agg #[.bool false,.slice none 0 0,.slice none 0 0]) w:=by kernel_rfl

theorem checkClG (w:World) (ov iv:Value) (cs:List Int) (qs:List Rat)(ho:IntsAt w ov cs)(hi:FracsAt 64 w iv qs)(hc12:cs.length <= 12)(hq12:qs.length <= 12) :
  Calls Tryz.prog 62 #[.agg #[ov,iv]] w fun e w'=>e = .returned (.int .i64 (clsE cs qs))/\Below w.heap.size w w':=by
 have HO:=aH ho
 obtain ⟨Ao,co,rfl,hoc,hom,hat⟩:=ho.open_
 obtain ⟨Ai,ci,rfl,hic,him,hit⟩:=hi.at_
 obtain ⟨no,hno⟩:=nm (cs.length)
 obtain ⟨ni,hni⟩:=nm (qs.length)
 rw [hno] at hoc hc12 HO ⊢
 rw [hni] at hic hq12 ⊢
 have HAT:=aH hat
 have HIT:=aH hit
 have HNO:=aH hno
 have HNI:=aH hni
 have QI:Hd (∀ q ∈ qs,QB 64 q):=aH (fun q hq=>by
  obtain ⟨j,hj⟩:=List.mem_iff_getElem?.1 hq
  obtain ⟨_,_,_,_,_,_,_,_,_,_,_,_,_,_,hf⟩:=hit j q hj
  exact hf.qb (by omega))
 obtain ⟨ke,hke⟩:=nm (clsE cs qs)
 have HKE:=aH hke
 rw [hke]
 clear ho hi hat hit hno hni hke
 have hmm:=@run_makeMap Tryz.prog
 go_enter Tryz.func62,Tryz.ntmps62
 go_upto_region 1 with fail
 obtain ⟨W,hW,P0,PB,Phs⟩:=aA w 94 [.slice Ao no co,.slice Ai ni ci]
 rw [<- hW]
 clear hW
 obtain ⟨q0,q1⟩:=two_at P0.o
 rcases zP no with hz | hz
 ·subst hz
  have HF:Hd (ke = 2):=aH (by rw [<- HKE.o]; exact clsE_not (fun h=>by have:=h.1; have:=HNO.o; omega))
  go_wp2_with fail
  go_ret
  exact ⟨ret_i HF.o.symm,PB.o⟩
 have d1:decide ((no:Int) < 1) = false:=dF (by omega)
 have d1':decide (no < 1) = false:=dF (by omega)
 have d2:decide ((2000:Int) < (no:Int)) = false:=dF (by omega)
 have d2':decide (2000 < no) = false:=dF (by omega)
 by_cases hne:ni = no
 ·subst hne
  have d3:((ni:Int) != (ni:Int)) = false:=by simp
  obtain ⟨x0,hx0⟩:∃ x,cs[0]? = some x:=⟨_,eG (by rw [HNO.o]; exact hz)⟩
  obtain ⟨bo,oo,rfl,_,_⟩:=HAT.o 0 x0 hx0
  obtain ⟨y0,hy0⟩:∃ x,qs[0]? = some x:=⟨_,eG (by rw [HNI.o]; exact hz)⟩
  obtain ⟨bi,oi,_,_,_,_,_,_,_,rfl,_⟩:=HIT.o 0 y0 hy0
  obtain ⟨no,rfl⟩:∃ n,n = ni:=⟨_,rfl⟩
  clear hx0 hy0
  go_wp2_with fail
  refine (gU W _ cs 1 2000 (HO.o.below PB.o)).mono ?_
  rintro e w1 ⟨rfl,hb1⟩
  obtain ⟨wb,hwb⟩:=nm (inR 1 2000 cs)
  rw [hwb]
  have HWB:=aH hwb
  have P1:=aH (P0.o.below' hb1)
  have B1:=aH (PB.o.trans (hb1.mono PB.o.size))
  clear hb1 hwb P0 PB q0 q1
  obtain ⟨q0,q1⟩:=two_at P1.o
  cases wb with
  | false =>
   have HF:Hd (ke = 2):=aH (by rw [<- HKE.o]; exact clsE_not (fun h=>by have h1:=h.2.2.1; rw [HWB.o] at h1; cases h1))
   go_wp2_with fail
   go_ret
   exact ⟨ret_i HF.o.symm,B1.o⟩
  | true =>
   go_upto_region 5 with fail
   obtain ⟨W2,hW2⟩:∃ W,W = w1.alloc (.map #[] 0):=⟨_,rfl⟩
   have M0:Hd (FMap W2 w1.heap.size []):=aH (by
    rw [hW2]
    exact ⟨MapAt.made Tryz.prog w1 3,fun e he=>by cases he⟩)
   have P2:Hd (Blk W2 w.heap.size 94 [.slice (some ⟨bo,oo,none⟩) no co,.slice (some ⟨bi,oi,none⟩) no ci]):=aH (by rw [hW2]; exact P1.o.below' (bA _ _))
   have B2:Hd (Below w.heap.size w W2):=aH (by rw [hW2]; exact B1.o.alloc B1.o.size _)
   rw [<- hW2]
   have sM:w.heap.size < w1.heap.size:=P1.o.lt
   obtain ⟨bm,hbm⟩:=nm (w1.heap.size)
   rw [hbm] at M0 sM ⊢
   clear hW2 hbm P1 B1 q0 q1
   obtain ⟨q0,q1⟩:=two_at P2.o
   go_wp2_with fail
   go_loopg [35,5,6] no (fun g i _ _ wz=>∃ (j:Nat) (L:List (Int × FV)),i = .int .i64 j/\j + g = no/\Hd (FMap wz bm L)/\Hd (SumsM L cs qs j)/\Hd (∀ k,k < j->0 <= aU (qs.getD k 0))/\Hd (Blk wz w.heap.size 94 [.slice (some ⟨bo,oo,none⟩) no co,.slice (some ⟨bi,oi,none⟩) no ci])/\Hd (Below w.heap.size w wz))
   case atStart=>exact ⟨0,[],rfl,by omega,M0,aH (SumsM.nil_ cs qs),aH (fun k h=>by omega),P2,B2⟩
   clear M0 P2 B2 q0 q1
   obtain ⟨w4,rfl⟩:∃ x,x = wr:=⟨_,rfl⟩
   obtain ⟨j,L,rfl,hj,FM,SM,SG,PE,BE⟩:=hrel
   obtain ⟨q0,q1⟩:=two_at PE.o
   rcases zP gk with h | h
   ·subst h
    obtain rfl:j = no:=by omega
    have MO:=aH (SumsM.all_one (by rw [HNO.o]; exact SM.o:SumsM L cs qs cs.length) FM.o.1.nodup)
    obtain ⟨p,hp⟩:=nm (L.length)
    have HP:=aH hp
    have QL:Hd (∀ e ∈ L,QB 800 e.2.2):=aH (fun e he=>by rw [SM.o.entry FM.o.1.nodup he]; exact (clsN_qb e.1 QI.o j).mono (by omega))
    have HTR:Hd ((∀ e ∈ L,e.2.2 = 1) ↔ ke = 0):=aH (by
     rw [MO.o,<- HKE.o]
     have hh:clsB cs qs = true ↔ ∀ k,k < cs.length->clsN cs qs (cs.getD k 0) cs.length = 1:=by
      rw [clsB_iff]
      exact ⟨fun h=>h.2.2.2.2,fun h=>⟨by rw [HNO.o]; omega,by rw [HNI.o,HNO.o],HWB.o,fun k hk=>by have:=SG.o k (by rw [<- HNO.o]; exact hk); omega,h⟩⟩
     rw [<- hh]
     unfold clsE
     cases clsB cs qs <;> simp)
    have M2:Hd (MapAt Tryz.prog w4 3 bm (cR (Value.int .i64) Prod.fst L)):=aH FM.o.1
    have sM4:=FM.o.lt
    clear hp MO SG SM
    go_wp2_with (refine eJ rfl _ _ rfl 3 40 Tryz.underlying161 bm _ rfl M2.o ?_)
    intro w5 hm5 hi5 hb5 hs5
    have I5:Hd (IterAt w5 w4.heap.size bm L.length []):=aH (by simpa [cR] using hi5)
    have F5:=aH (FM.o.below hb5)
    have B5:=aH (BE.o.trans (hb5.mono BE.o.size))
    have s5:w4.heap.size < w5.heap.size:=by omega
    obtain ⟨ri,hri⟩:=nm (w4.heap.size)
    rw [hri] at I5 s5 ⊢
    have sR:w.heap.size < ri:=by rw [<- hri]; exact PE.o.lt
    have sR2:bm ≠ ri:=by omega
    clear hm5 hi5 hb5 hs5 M2 FM BE PE hri q0 q1 sM4
    go_wp2_with fail
    go_loopg [8] p (fun gh _ wz=>∃ (vis:List Nat),vis.length + gh = p/\Hd (∀ i ∈ vis,∀ e,L[i]? = some e->e.2.2 = 1)/\Hd (vis.Nodup/\∀ i ∈ vis,i < L.length)/\Hd (IterAt wz ri bm L.length vis)/\Hd (FMap wz bm L)/\Hd (Below w.heap.size w wz)/\ri < wz.heap.size)
    case atStart=>exact ⟨[],by simp,aH (fun i h=>by cases h),aH ⟨List.nodup_nil,fun i hi=>by cases hi⟩,I5,F5,B5,s5⟩
    clear I5 F5 B5 s5
    obtain ⟨w6,rfl⟩:∃ x,x = wr:=⟨_,rfl⟩
    obtain ⟨vis,hvl,ONE,VIS,I6,F6,B6,s6⟩:=hrel
    have M6:Hd (MapAt Tryz.prog w6 3 bm (cR (Value.int .i64) Prod.fst L)):=aH F6.o.1
    have I6':Hd (IterAt w6 ri bm (cR (Value.int .i64) Prod.fst L).length vis):=aH (by simpa [cR] using I6.o)
    go_wp2_with (refine fe rfl _ rfl 3 bm ri (cR (Value.int .i64) Prod.fst L) vis rfl M6.o I6'.o ?done ?more)
    case done =>
     intro hdone
     have HF:Hd (ke = 0):=aH (HTR.o.1 (fun e he=>by
      obtain ⟨i,hi⟩:=List.mem_iff_getElem?.1 he
      exact ONE.o i (hdone i (by have:=(sI.1 hi).1; simpa [cR] using this)) e hi))
     clear hdone
     go_wp2_with fail
     go_ret
     exact ⟨ret_i HF.o.symm,B6.o⟩
    case more =>
     intro i xk xv w7 hx hiv hm7 hi7 hent hg7 hs7
     rw [fq] at hx
     obtain ⟨e,he,rfl,rfl⟩:∃ e,L[i]? = some e/\Value.int .i64 e.1 = xk/\e.2.1 = xv:=by
      cases h:L[i]? with
      | none=>rw [h] at hx; cases hx
      | some e=>rw [h] at hx; simp only [Option.map_some,Option.some.injEq,Prod.mk.injEq] at hx; exact ⟨e,rfl,hx.1,hx.2⟩
     obtain ⟨z,v,q⟩:=e
     have hil:=(sI.1 he).1
     have VIS7:Hd ((vis ++ [i]).Nodup/\∀ k ∈ vis ++ [i],k < L.length):=aH ⟨List.nodup_append.2 ⟨VIS.o.1,by simp,fun a ha b hb e=>by simp at hb; subst hb; subst e; exact hiv ha⟩,fun k hk=>by rcases List.mem_append.1 hk with hk | hk; exact VIS.o.2 k hk; rw [List.mem_singleton.1 hk]; exact hil⟩
     have hgk:0 < gk:=by have:=jB VIS7.o.1 VIS7.o.2; rw [List.length_append,List.length_singleton,HP.o] at this; omega
     have F7:Hd (FMap w7 bm L):=aH ⟨hm7,fun e he=>(F6.o.2 e he).calm (Calm.of_grown hg7 (fun r e=>by cases e; exact ⟨_,I6.o,rfl⟩))⟩
     have J7:Hd (IterAt w7 ri bm L.length (vis ++ [i])):=aH (by simpa [cR] using hi7)
     have B7:Hd (Below w.heap.size w w7):=aH (B6.o.grown hg7 B6.o.size (fun k e=>by cases e; omega))
     have s7:ri < w7.heap.size:=by omega
     have HE:=aH he
     have CV:=F7.o.2 (z,v,q) (mG he)
     have QV:Hd (QB 800 q):=aH (QL.o (z,v,q) (mG he))
     simp only at CV hent
     obtain ⟨Av,mv,cv,Av',mv',cv',rfl⟩:=CV.open_
     have TV:=aH CV
     clear hx hiv hm7 hi7 hg7 hs7 he CV I6 I6' M6 F6 B6 s6 VIS
     go_upto_region 15 with fail
     obtain ⟨W8,hW8,R0,RB,Rhs⟩:=aA w7 40 [.bool (ae q),.slice Av mv cv,.slice Av' mv' cv']
     rw [<- hW8]
     clear hW8
     have B8:=aH (B7.o.trans (RB.o.mono B7.o.size))
     have F8:=aH (F7.o.below RB.o)
     have J8:=aH (J7.o.below RB.o)
     have s8:ri < W8.heap.size:=Nat.lt_of_lt_of_le s7 RB.o.size
     have TR:=aH ((TV.o.below RB.o).frac (k:=2000) (QV.o.mono (by omega)) (by omega))
     obtain ⟨r0,r1,r2,_,_,_⟩:=R0.o.three
     have sB:=R0.o.lt
     obtain ⟨bx,hbx⟩:=nm (w7.heap.size)
     rw [hbx] at r0 r1 r2 sB ⊢
     clear hbx RB R0 Rhs B7 F7 J7 s7 TV hent
     obtain ⟨q1r,hq1⟩:∃ y:Rat,((1:Int):Rat) = y:=⟨_,rfl⟩
     have Q1R:Hd (QB 64 q1r):=aH (by rw [<- hq1]; exact dA (by omega) (by omega))
     obtain ⟨sg,hsg⟩:=nm (aU (q - q1r))
     have HSG:=aH hsg
     have HE2:Hd (sg = 0 ↔ q = 1):=aH (by rw [<- hsg,<- hq1]; exact sgn_one)
     have HQ1:=aH hq1
     have BB:=aH (Below.refl W8.heap.size W8)
     have hS:=aI r0 (aI r1 r2)
     have HSET:Hd (∀ w',Below W8.heap.size W8 w'->(fun w'=>w'.cell? ⟨bx,0,none⟩ = some (.bool (ae q))/\w'.cell? ⟨bx,1,none⟩ = some (.slice Av mv cv)/\w'.cell? ⟨bx,2,none⟩ = some (.slice Av' mv' cv')) w'):=aH (fun w' hb=>⟨(hb.cell (p:=⟨bx,0,none⟩) sB).trans r0,(hb.cell (p:=⟨bx,1,none⟩) sB).trans r1,(hb.cell (p:=⟨bx,2,none⟩) sB).trans r2⟩)
     clear hq1 hsg
     go_cut [68] (fun t wc=>t = .bool (sg != 0)/\Hd (Below W8.heap.size W8 wc))
     case first =>
      go_region_held3 (fun w'=>w'.cell? ⟨bx,0,none⟩ = some (.bool (ae q))/\w'.cell? ⟨bx,1,none⟩ = some (.slice Av mv cv)/\w'.cell? ⟨bx,2,none⟩ = some (.slice Av' mv' cv'))
       (first | assumption | exact hS | go_keep)
       (first
        | (go_at_call 110; refine (ofI _ 1 (by omega) (by omega)).mono ?_; rintro e wl ⟨u,rfl,t,hb⟩; rw [HQ1.o] at t; (try replace hb:=bO hb); replace BB:=aH (BB.o.trans (hb.mono BB.o.size)); have T1:=aH (t.at_.frac (k:=2000) (Q1R.o.mono (by omega)) (by omega)); have hS:=HSET.o _ BB.o; clear t hb)
        | (go_at_call 108; refine (vX _ _ _ q q1r 2000 (by first | exact TR.o.below BB.o | exact (TR.o.below BB.o).below (bS _)) (by first | exact T1.o | exact T1.o.below (bS _)) (by omega) (by omega)).mono ?_; rintro e wl ⟨rfl,hb⟩; rw [HSG.o]; (try replace hb:=bO hb); replace BB:=aH (BB.o.trans (hb.mono BB.o.size)); have hS:=HSET.o _ BB.o; clear hb))
      all_goals
       go_wp2_with fail
       go_meet
       exact ⟨rfl,BB⟩
     obtain ⟨rfl,hcc⟩:=hcut
     have BR:=aH (B8.o.trans (hcc.o.mono B8.o.size))
     have FR:=aH (F8.o.below hcc.o)
     have JR:=aH (J8.o.below hcc.o)
     have sR':ri < wc.heap.size:=Nat.lt_of_lt_of_le s8 hcc.o.size
     have VL:Hd ((vis ++ [i]).length = vis.length + 1):=aH (by simp)
     clear r0 r1 r2 hS HSET BB B8 F8 J8 hcc
     cases hz:(sg != 0) with
     | true =>
      have HF:Hd (ke = 2):=aH (by
       have h1:¬ ke = 0:=fun h=>by
        have:=HTR.o.2 h (z,_,q) (mG HE.o)
        have h2:=HE2.o.2 this
        subst h2
        cases hz
       rw [<- HKE.o] at h1 ⊢
       unfold clsE at h1 ⊢
       split at h1
       ·exact absurd rfl h1
       next h=>rw [if_neg h])
      clear hz
      go_wp2_with fail
      go_ret
      exact ⟨ret_i HF.o.symm,BR.o⟩
     | false =>
      have ONE2:Hd (∀ k ∈ vis ++ [i],∀ e,L[k]? = some e->e.2.2 = 1):=aH (fun k hk e he=>by
       rcases List.mem_append.1 hk with hk | hk
       ·exact ONE.o k hk e he
       rw [List.mem_singleton.1 hk,HE.o] at he
       cases he
       exact HE2.o.1 (by simpa using hz))
      clear hz
      go_wp2_with fail
      go_roundg (gk - 1)
      case measure=>omega
      case rel=>exact ⟨vis ++ [i],by rw [VL.o]; omega,ONE2,VIS7,JR,FR,BR,sR'⟩
   obtain ⟨g,rfl⟩:∃ g,gk = g + 1:=⟨gk - 1,by omega⟩
   obtain ⟨x,hx⟩:∃ x,cs[j]? = some x:=⟨_,eG (by rw [HNO.o]; omega)⟩
   obtain ⟨q,hq⟩:∃ x,qs[j]? = some x:=⟨_,eG (by rw [HNI.o]; omega)⟩
   obtain ⟨_,_,e5,hbm',e0⟩:=HAT.o j x hx
   cases e5
   obtain ⟨_,_,ng,An,nn,cn,Ad,nd,cd,e6,hbi,f0,f1,f2,hfx⟩:=HIT.o j q hq
   cases e6
   have HX:Hd (cs.getD j 0 = x):=aH (by rw [gD,hx]; rfl)
   have HQG:Hd (qs.getD j 0 = q):=aH (by rw [gD,hq]; rfl)
   have c9:=(BE.o.cell (p:=⟨bo,oo + j,none⟩) hbm').trans e0
   have c0:=(BE.o.cell (p:=⟨bi,oi + j * 3,none⟩) hbi).trans f0
   have c1:=(BE.o.cell (p:=⟨bi,oi + j * 3 + 1,none⟩) hbi).trans f1
   have c2:=(BE.o.cell (p:=⟨bi,oi + j * 3 + 2,none⟩) hbi).trans f2
   have q3:(0:Int) <= (j:Int):=by omega
   have q4:(j:Int) < (no:Int):=by omega
   have j9:IntKind.i64.wrap ((j:Int) + 1) = (j:Int) + 1:=iI _ (by omega)
   have HFX:=aH (hfx.below BE.o)
   have hxr:=inR_iff.1 HWB.o x (mG hx)
   have QO:Hd (QB 800 (lookF L x)):=aH (by rw [SM.o.1]; exact (clsN_qb x QI.o j).mono (by omega))
   have QX:Hd (QB 64 q):=aH (QI.o q (mG hq))
   have sz4:bo < w4.heap.size:=Nat.lt_of_lt_of_le hbm' BE.o.size
   have E0:=aH e0
   have sM4:bm < w4.heap.size:=FM.o.lt
   clear hx hq e0 f0 f1 f2 hfx
   go_upto_region 8 with fail
   obtain ⟨W5,hW5,G0,GB,Ghs⟩:=aA w4 40 [.bool ng,.slice An nn cn,.slice Ad nd cd]
   rw [<- hW5]
   clear hW5
   obtain ⟨r0,r1,r2,_,_,_⟩:=G0.o.three
   go_wp2_with fail
   refine (jk W5 _ q 64 (HFX.o.below GB.o) (by omega) (by omega)).mono ?_
   rintro e w6 ⟨rfl,hb6⟩
   obtain ⟨sq,hsq⟩:=nm (aU q)
   rw [hsq]
   have HSQ:=aH hsq
   have C6:Hd (Below w4.heap.size w4 w6):=aH (GB.o.trans (hb6.mono GB.o.size))
   have G6:=aH (G0.o.below' hb6)
   have P6:=aH (PE.o.below' C6.o)
   have B6:=aH (BE.o.trans (C6.o.mono BE.o.size))
   have M6:=aH (FM.o.below C6.o)
   have F6:=aH (HFX.o.below C6.o)
   have c9':=(C6.o.cell (p:=⟨bo,oo + j,none⟩) sz4).trans c9
   clear hb6 hsq r0 r1 r2 c9 c0 c1 c2 q0 q1 G0 GB PE BE FM HFX
   by_cases h3:sq < 0
   ·have d7:decide (sq < 0) = true:=dT h3
    have HF:Hd (ke = 2):=aH (by rw [<- HKE.o]; exact clsE_not (fun h=>h.2.2.2.1 j (by rw [HNO.o]; omega) (by rw [HQG.o,HSQ.o]; exact h3)))
    clear h3
    go_wp2_with fail
    go_ret
    exact ⟨ret_i HF.o.symm,B6.o⟩
   have d7:decide (sq < 0) = false:=dF h3
   have SG2:Hd (∀ k,k < j + 1->0 <= aU (qs.getD k 0)):=aH (fun k hk=>by
    rcases Nat.lt_or_ge k j with h | h
    ·exact SG.o k h
    obtain rfl:k = j:=by omega
    rw [HQG.o,HSQ.o]
    omega)
   clear h3
   obtain ⟨q0,q1⟩:=two_at P6.o
   obtain ⟨r0,r1,r2,_,_,_⟩:=G6.o.three
   have hkg:=m5 (x:=x) (by omega) (by omega)
   have hinj:∀ e ∈ L,Value.int .i64 e.1 = Value.int .i64 x->e.1 = x:=fun e _ h=>by injection h
   have hlook:=M6.o.1.drew.look oG Tryz.underlying161 (zeroFr _) hkg hinj
   obtain ⟨v0,hv0⟩:=nm ((aC L x).elim (.agg #[.bool false,.slice none 0 0,.slice none 0 0]) Prod.fst)
   rw [hv0] at hlook
   have V0:Hd (FracAt 2000 w6.drew v0 (lookF L x)):=aH (by
    have:=M6.o.at_ x
    rw [hv0] at this
    exact (this.frac (QO.o.mono (by omega)) (by omega)).below (bS _))
   have V1:Hd (FracAt 2000 w6.drew (.agg #[.bool ng,.slice An nn cn,.slice Ad nd cd]) q):=aH ((F6.o.mono (by omega)).below (bS _))
   clear hv0
   have sP:w.heap.size < w6.heap.size:=P6.o.lt
   clear hxr
   go_wp2_with fail
   have sM6:=M6.o.lt
   have HS0:=aH (aI (show w6.drew.cell? ⟨w.heap.size,0,none⟩ = _ from q0) (aI (show w6.drew.cell? ⟨bo,oo + j,none⟩ = _ from c9') (aI (show w6.drew.cell? ⟨w4.heap.size,0,none⟩ = _ from r0) (aI (show w6.drew.cell? ⟨w4.heap.size,1,none⟩ = _ from r1) (show w6.drew.cell? ⟨w4.heap.size,2,none⟩ = _ from r2)))))
   clear q0 q1 r0 r1 r2
   refine wp_region_held_drew (S:=fun w'=>w'.cell? ⟨w.heap.size,0,none⟩ = some (.slice (some ⟨bo,oo,none⟩) no co)/\w'.cell? ⟨bo,oo + j,none⟩ = some (.int .i64 x)/\w'.cell? ⟨w4.heap.size,0,none⟩ = some (.bool ng)/\w'.cell? ⟨w4.heap.size,1,none⟩ = some (.slice An nn cn)/\w'.cell? ⟨w4.heap.size,2,none⟩ = some (.slice Ad nd cd)) (by kernel_rfl) HS0.o (fun hHeld=>?_)
   refine tjj 0 ?_ rfl (by kernel_rfl) rfl ‹_› ?_ (fun _ _ _ h=>h) (tjj 1 ?_ rfl (by kernel_rfl) rfl ‹_› ?_ (fun _ _ _ h=>h) (tjj 2 ?_ rfl (by kernel_rfl) rfl ‹_› ?_ (fun _ _ _ h=>h) (tjj 3 ?_ rfl (by kernel_rfl) rfl ‹_› ?_ (fun _ _ _ h=>h) (tjj 4 ?_ rfl (by kernel_rfl) rfl ‹_› ?_ (fun _ _ _ h=>h) (tjj 5 ?_ rfl (by kernel_rfl) rfl ‹_› ?_ (fun _ _ _ h=>h) (tjj 6 ?_ rfl (by kernel_rfl) rfl ‹_› ?_ (fun _ _ _ h=>h) (tjj 7 ?_ rfl (by kernel_rfl) rfl ‹_› ?_ (fun _ _ _ h=>h) (tjj 8 ?_ rfl (by kernel_rfl) rfl ‹_› ?_ (fun _ _ _ h=>h) (tjj 9 ?_ rfl (by kernel_rfl) rfl ‹_› ?_ (fun _ _ _ h=>h) (tjj 10 ?_ rfl (by kernel_rfl) rfl ‹_› ?_ (fun _ _ _ h=>h) (tjj 11 ?_ rfl (by kernel_rfl) rfl ‹_› ?_ (fun _ _ _ h=>h) (tjj 13 ?_ rfl (by kernel_rfl) rfl ‹_› ?_ (fun _ _ _ h=>h) ?_))))))))))))
   iterate 13 (rotate_left; · (intro w' hSw; (try dsimp only at hSw); (try go_frame); go_simp <;> with_reducible rfl))
   go_frame
   refine wpAnyH_ready (rs:=[12]) (by kernel_rfl) (by simp) ?_
   refine AllReadyH.cons rfl (fun K hK=>?_) AllReadyH.nil
   go_simp
   refine hK.out _ _ HS0.o (fun hHeld=>?_)
   clear hK K hlook
   try go_frame
   refine wpAnyH_ready (rs:=[14]) (by kernel_rfl) (by simp) ?_
   refine AllReadyH.cons rfl (fun K hK=>?_) AllReadyH.nil
   go_simp
   refine (l8 _ v0 _ (lookF L x) q 2000 V0.o V1.o (by omega) (by omega)).mono ?_
   rintro e wl ⟨u,rfl,t,hb⟩
   have hb':=bO hb
   have M7:Hd (FMap wl bm L):=aH (M6.o.below hb')
   obtain ⟨w7,hup,hT,hG⟩:=M7.o.1.update (t:=161) oG Tryz.underlying161 hkg hinj (u,lookF L x + q)
   have HT:=aH hT
   have HG:=aH hG
   have T7:=aH t.at_
   have B7:=aH hb'
   have P7:=aH ((P6.o.below' B7.o).grown HG.o (fun e=>by injection e; omega))
   have G7:=aH ((G6.o.below' B7.o).grown HG.o (fun e=>by injection e; omega))
   have D7:=aH ((B6.o.trans (B7.o.mono B6.o.size)).grown HG.o (Nat.le_trans B6.o.size B7.o.size) (fun k e=>by cases e; omega))
   have HS1:=aH (aI ((P6.o.below' B7.o).cell 0) (aI ((B7.o.cell (p:=⟨bo,oo + j,none⟩) (by show bo < _; omega)).trans c9') (aI ((G6.o.below' B7.o).cell 0) (aI ((G6.o.below' B7.o).cell 1) ((G6.o.below' B7.o).cell 2)))))
   have HS2:=aH (aI (P7.o.cell 0) (aI ((D7.o.cell (p:=⟨bo,oo + j,none⟩) hbm').trans E0.o) (aI (G7.o.cell 0) (aI (G7.o.cell 1) (G7.o.cell 2)))))
   clear t hb hb' hT hG
   try go_simp
   refine hK.out _ _ HS1.o (fun hHeld=>?_)
   clear hK K
   try go_frame
   refine wpAnyH_ready (rs:=[15]) (by kernel_rfl) (by simp) ?_
   refine AllReadyH.cons rfl (fun K hK=>?_) AllReadyH.nil
   go_simp
   refine hK.out _ _ HS2.o (fun hHeld=>?_)
   clear hK K hHeld hup
   try go_frame
   refine wpAnyH_done (by kernel_rfl) ?_ _
   go_wp2_with fail
   go_roundg g
   case measure=>omega
   case rel=>exact ⟨j + 1,dJ L x (u,lookF L x + q),rfl,by omega,aH (M7.o.put T7.o HG.o HT.o),aH (SM.o.put HX.o HQG.o u),SG2,P7,D7⟩
 have d3:((ni:Int) != (no:Int)) = true:=by simpa using fun h=>hne (by omega)
 have HF:Hd (ke = 2):=aH (by rw [<- HKE.o]; exact clsE_not (fun h=>hne (by have:=h.2.1; rw [HNO.o,HNI.o] at this; exact this))) 
 go_wp2_with fail
 go_ret
 exact ⟨ret_i HF.o.symm,PB.o⟩
def clsOf (cs:List Int) (x:Int):Int:=if x = 0 then 0 else cs.getD (x - 1).toNat 0

theorem classOfG (W:World) (g:Nat) (ov iv:Value) (cs:List Int) (x:Int)(hP:Blk W g 94 [ov,iv])(hc:IntsAt W ov cs)(h0:0 <= x)(h1:x <= cs.length)(hl:cs.length <= 12) :
  Calls Tryz.prog 130 #[.int .i64 x,.pointer (some ⟨g,0,none⟩)] W fun e w'=>e = .returned (.int .i64 (clsOf cs x))/\w' = W:=by
 obtain ⟨Ao,co,rfl,hoc,hom,hat⟩:=hc.open_
 obtain ⟨no,hno⟩:=nm (cs.length)
 rw [hno] at hoc h1 hl hP
 obtain ⟨q0,q1⟩:=two_at hP
 by_cases hz:x = 0
 ·subst hz
  have HC:Hd (clsOf cs 0 = 0):=aH rfl
  clear hat hc
  go_enter Tryz.func130,Tryz.ntmps130
  go_wp2_with fail
  go_ret
  exact ⟨ret_i HC.o.symm,rfl⟩
 obtain ⟨n,rfl⟩:∃ n:Nat,x = n:=⟨x.toNat,by omega⟩
 obtain ⟨i,rfl⟩:∃ i,n = i + 1:=⟨n - 1,by omega⟩
 obtain ⟨y,hy⟩:∃ y,cs[i]? = some y:=⟨_,eG (by omega)⟩
 obtain ⟨b,o,rfl,_,e0⟩:=hat i y hy
 have HC:Hd (clsOf cs ((i + 1:Nat):Int) = y):=aH (by
  unfold clsOf
  rw [if_neg hz,show (((i + 1:Nat):Int) - 1).toNat = i by omega,gD,hy]
  rfl)
 rw [HC.o]
 obtain ⟨z,hzz⟩:∃ z:Int,((i + 1:Nat):Int) = z:=⟨_,rfl⟩
 have d0:(z == 0) = false:=by rw [<- hzz]; simpa using hz
 have d1:IntKind.i64.wrap (z - 1) = (i:Int):=by rw [<- hzz,show ((i + 1:Nat):Int) - 1 = (i:Int) by omega]; exact iI _ (by omega)
 have d2:(0:Int) <= (i:Int):=by omega
 have d3:(i:Int) < (no:Int):=by omega
 rw [hzz]
 clear hat hc hy hzz hz HC
 go_enter Tryz.func130,Tryz.ntmps130
 go_wp2_with fail
 go_ret
 exact ⟨rfl,rfl⟩
theorem clsOf_nice {cs:List Int} {v:Nat} {O:Nat} {hl:List Int} (hk:inR 1 v cs = true)(hv:v <= 8)(hin:inR 0 cs.length hl = true)(hlen:hl.length = O - 1)(hO:O <= 4):NiceK (hl.map (clsOf cs)):=by
 refine ⟨by rw [List.length_map]; omega,fun y hy=>?_⟩
 obtain ⟨x,hx,rfl⟩:=List.mem_map.1 hy
 have h1:=inR_iff.1 hin x hx
 unfold clsOf
 split
 ·omega
 have h2:(x - 1).toNat < cs.length:=by omega
 rw [gD,eG h2]
 have:=inR_iff.1 hk _ (List.getElem_mem h2)
 simp only [Option.getD_some]
 omega

theorem BoxC.blk3 {w:World} {b:Nat} {r:Rat} (h:BoxC w b r) (s:Bool) (A:Option Addr) (m c:Nat) (A':Option Addr) (m' c':Nat) :
  Blk (((w.setCell ⟨b,0,none⟩ (.bool s)).setCell ⟨b,1,none⟩ (.slice A m c)).setCell ⟨b,2,none⟩ (.slice A' m' c')) b 40 [.bool s,.slice A m c,.slice A' m' c']:=by
 obtain ⟨xs,h1,h2,_,_⟩:=h
 have h3:=((h1.set_ 0 (.bool s)).set_ 1 (.slice A m c)).set_ 2 (.slice A' m' c')
 have h4:xs.length = 3:=by simpa using h2
 match xs,h4 with
 | [_,_,_],_=>exact h3
theorem bun {w0 w5 y y':World} {b1 b2:Nat} {e1 e2:TypeId} {xs ys:List Value} {iv:Value} {l:List Int} (h:Hd (Blk y b1 e1 xs/\Blk y b2 e2 ys/\IntsAt y iv l/\Below w0.heap.size w0 y/\Below w5.heap.size w5 y))(hb:Below y.heap.size y y'):Hd (Blk y' b1 e1 xs/\Blk y' b2 e2 ys/\IntsAt y' iv l/\Below w0.heap.size w0 y'/\Below w5.heap.size w5 y') :=
 aH ⟨h.o.1.below' hb,h.o.2.1.below' hb,h.o.2.2.1.below hb,h.o.2.2.2.1.trans (hb.mono h.o.2.2.2.1.size),h.o.2.2.2.2.trans (hb.mono h.o.2.2.2.2.size)⟩
theorem clsOf_in {cs:List Int} {v x:Nat} (hk:inR 1 v cs = true)(hx:x <= cs.length):∃ y:Nat,clsOf cs x = (y:Int)/\y < v + 1:=by
 unfold clsOf
 split
 ·exact ⟨0,rfl,by omega⟩
 next h =>
 have h2:((x:Int) - 1).toNat < cs.length:=by omega
 rw [gD,eG h2]
 have:=inR_iff.1 hk _ (List.getElem_mem h2)
 exact ⟨cs[((x:Int) - 1).toNat].toNat,by simp only [Option.getD_some]; omega,by omega⟩

theorem classedG (w:World) (O v:Nat) (lv:Value) (gs:List Gr) (k:Int) (s:Bool) (A A':Option Addr) (m c m' c':Nat) (mv:Value) (a:Rat) (mix:List Rat) (ov iv:Value) (cs:List Int) (qs:List Rat)(hv:Value)(hl:List Int) (x:Nat)
  (h:LangAt w lv gs s A A' m c m' c' a mv mix)(hh:IntsAt w hv hl)(ho:IntsAt w ov cs)(hi:FracsAt 64 w iv qs)(hck:aJ O v gs k a mix = 0)(hv8:v <= 8)(hc12:cs.length <= 12)(hq12:qs.length <= 12)(hcl:clsB cs qs = true)(hkn:inR 1 v cs = true)(hlen:hl.length = O - 1)(hin:inR 0 cs.length hl = true)(hx:x <= cs.length) :
  Calls Tryz.prog 63 #[aG O v lv k s A A' m c m' c' mv,.agg #[ov,iv],hv,.int .i64 x] w fun e w'=>∃ u,e = .returned (.tuple #[u,.int .i64 0])/\CanAt w' u (classedQ (fA k O gs v a mix (hl.map (clsOf cs))) cs qs x)/\(0 < x->CanNew w.heap.size w' u (classedQ (fA k O gs v a mix (hl.map (clsOf cs))) cs qs x))/\Below w.heap.size w w':=by
 obtain ⟨T,rv,F,hw⟩:=rk w O v lv gs k s A A' m c m' c' mv a mix h hck hv8
 have HG:=aH (dy (cI hck).1)
 have HT:=aH (bY (cI hck).1 hv8)
 have hO:=HG.o.2.1
 have HNK:=aH (clsOf_nice hkn hv8 hin hlen hO.2)
 obtain ⟨hb1,hb2,_⟩:=clsB_ok hcl
 have HL:=aH h
 have HI:=aH hh
 have HO:=aH ho
 have HF:=aH hi
 have HCK:=aH hck
 have HCL:Hd (clsE cs qs = 0):=aH (by unfold clsE; rw [hcl]; rfl)
 have HKN:=aH hkn
 have HIN:=aH hin
 have WO:=aH hw
 have hm3:=hw.cf
 obtain ⟨Al,cl,rfl,_,_,_⟩:=h.grams.open_
 obtain ⟨Am,cm,rfl,_,_,_⟩:=h.mixes.open_
 obtain ⟨Ah,ch,rfl,hlc,hlm,hhat⟩:=hh.open_
 obtain ⟨Ao,co,rfl,hoc,hom,_⟩:=ho.open_
 obtain ⟨Ai,ci,rfl,hic,him,hit⟩:=hi.at_
 have HHAT:=aH hhat
 have HIT:=aH hit
 obtain ⟨no,hno⟩:=nm (cs.length)
 obtain ⟨nh,hnh⟩:=nm (hl.length)
 rw [hb2,hno] at hic hq12
 rw [hno] at hoc hx hc12 hb1 HIN
 rw [hnh] at hlc hlen
 rw [hb2,hno,hnh]
 rw [hnh] at HI
 rw [hno] at HO
 rw [hb2,hno] at HF
 have HNO:=aH hno
 have HNH:=aH hnh
 have HNI:=aH hb2
 have e1:IntKind.i64.wrap ((O:Int) - 1) = (nh:Int):=by rw [show (O:Int) - 1 = (nh:Int) by omega]; exact iI _ (by omega)
 have e2:decide ((x:Int) < 0) = false:=dF (by omega)
 have e3:decide ((no:Int) < (x:Int)) = false:=dF (by omega)
 have e4:decide (no < x) = false:=dF (by omega)
 have HLN:=aH hlen
 have hnb:nh <= 3:=by omega
 have hkn':=hkn
 have hwl:=hw.len (hl.map (clsOf cs))
 have hwq:=hw.qb (hl.map (clsOf cs))
 clear h hh ho hi hck hcl hkn hin hw hhat hit hno hnh hb2 hlen
 obtain ⟨row,hrow⟩:=nm (fA k O gs v a mix (hl.map (clsOf cs)))
 rw [hrow]
 obtain ⟨y,hy,hyv⟩:∃ y:Nat,clsOf cs x = (y:Int)/\y < v + 1:=clsOf_in hkn' (by rw [HNO.o]; exact hx)
 obtain ⟨qx,hqx⟩:∃ q,row[y]? = some q:=⟨_,eG (by rw [<- hrow,hwl]; exact hyv)⟩
 have HR:=aH hrow
 have HY:=aH hy
 have HQX:=aH hqx
 have HGD:Hd (row.getD y 0 = qx):=aH (by rw [gD,hqx]; rfl)
 have QX:Hd (QB 5000000 qx):=aH (hwq _ (by rw [hrow]; exact mG hqx))
 have yb2:(0:Int) <= (y:Int):=by omega
 have yb3:(y:Int) < (v:Int) + 1:=by omega
 obtain ⟨cq,hcq⟩:=nm (classedQ row cs qs x)
 have HCQ:=aH hcq
 rw [hcq]
 clear hrow hy hqx hcq hkn' hwl hwq
 unfold aG
 go_enter Tryz.func63,Tryz.ntmps63
 go_upto_region 1 with fail
 obtain ⟨W,hW,P0,P1,P2,PB,Phs⟩:=box3 w 43 [.int .i64 O,.int .i64 v,.slice Al gs.length cl,.int .i64 k,.bool s,.slice A m c,.slice A' m' c',.slice Am mix.length cm] 94 [.slice Ao no co,.slice Ai no ci] 40 [.bool false,.slice none 0 0,.slice none 0 0]
 rw [<- hW]
 clear hW
 obtain ⟨p0,p1,p2,p3,p4,p5,p6,p7⟩:=an P0.o
 go_wp2_with fail
 refine (lW W O v (.slice Al gs.length cl) gs k s A A' m c m' c' (.slice Am mix.length cm) a mix (HL.o.below PB.o)).mono ?_
 rintro e w1 ⟨rfl,hb1⟩
 rw [HCK.o]
 have L1:=aH (P0.o.below' hb1)
 have C1:=aH (P1.o.below' hb1)
 have R1:=aH (P2.o.below' hb1)
 have B1:=aH (PB.o.trans (hb1.mono PB.o.size))
 clear p0 p1 p2 p3 p4 p5 p6 p7 hb1 P0 P1 P2 PB
 obtain ⟨q0,q1⟩:=two_at C1.o
 go_wp2_with fail
 refine (checkClG w1 _ _ cs qs (HO.o.below B1.o) (HF.o.below B1.o) (by rw [HNO.o]; omega) (by rw [HNI.o,HNO.o]; omega)).mono ?_
 rintro e w2 ⟨rfl,hb1⟩
 rw [HCL.o]
 have L2:=aH (L1.o.below' hb1)
 have C2:=aH (C1.o.below' hb1)
 have R2:=aH (R1.o.below' hb1)
 have B2:=aH (B1.o.trans (hb1.mono B1.o.size))
 clear q0 q1 hb1 L1 C1 R1 B1
 obtain ⟨p0,p1,p2,p3,p4,p5,p6,p7⟩:=an L2.o
 obtain ⟨q0,q1⟩:=two_at C2.o
 go_wp2_with fail
 refine (gU w2 _ cs 1 v (HO.o.below B2.o)).mono ?_
 rintro e w3 ⟨rfl,hb1⟩
 rw [HKN.o]
 have L3:=aH (L2.o.below' hb1)
 have C3:=aH (C2.o.below' hb1)
 have R3:=aH (R2.o.below' hb1)
 have B3:=aH (B2.o.trans (hb1.mono B2.o.size))
 clear p0 p1 p2 p3 p4 p5 p6 p7 q0 q1 hb1 L2 C2 R2 B2
 obtain ⟨p0,p1,p2,p3,p4,p5,p6,p7⟩:=an L3.o
 obtain ⟨q0,q1⟩:=two_at C3.o
 go_wp2_with fail
 refine (gU w3 _ hl 0 no (HI.o.below B3.o)).mono ?_
 rintro e W4 ⟨rfl,hb1⟩
 rw [HIN.o]
 have L4:=aH (L3.o.below' hb1)
 have C4:=aH (C3.o.below' hb1)
 have R4:=aH (R3.o.below' hb1)
 have B4:=aH (B3.o.trans (hb1.mono B3.o.size))
 clear p0 p1 p2 p3 p4 p5 p6 p7 q0 q1 hb1 L3 C3 R3 B3
 obtain ⟨q0,q1⟩:=two_at C4.o
 go_wp2_with fail
 have sR4:w.heap.size + 2 < W4.heap.size:=R4.o.lt
 go_loopg [68,15,13] nh (fun gh i _ h13 wz=>∃ (j:Nat) (A9:Option Addr) (c9:Nat),i = .int .i64 j/\h13 = .slice A9 j c9/\j + gh = nh/\Hd (wz.ownsRow W4.heap.size 3 1 (.slice A9 j c9) j (((hl.take j).map (clsOf cs)).map (Value.int .i64))) /\
  Hd (Blk wz w.heap.size 43 [.int .i64 O,.int .i64 v,.slice Al gs.length cl,.int .i64 k,.bool s,.slice A m c,.slice A' m' c',.slice Am mix.length cm])/\Hd (Blk wz (w.heap.size + 1) 94 [.slice Ao no co,.slice Ai no ci])/\Hd (Blk wz (w.heap.size + 2) 40 [.bool false,.slice none 0 0,.slice none 0 0])/\Hd (Below w.heap.size w wz)/\W4.heap.size <= wz.heap.size)
 case atStart=>exact ⟨0,none,0,rfl,rfl,by omega,aH (World.ownsRow_nil ..),L4,C4,R4,B4,nR _⟩
 clear L4 C4 R4 B4 q0 q1
 obtain ⟨w5,rfl⟩:∃ x,x = wr:=⟨_,rfl⟩
 obtain ⟨j,A9,c9,rfl,rfl,hj,OW,L5,C5,R5,B5,s5⟩:=hrel
 rcases zP gk with h | h
 ·subst h
  obtain rfl:j = nh:=by omega
  go_upto_region 16 with fail
  have I5:Hd (IntsAt w5 (.slice A9 j c9) (hl.map (clsOf cs))):=aH (by
   have h1:=Sl.of_own OW.o
   rw [tL (by rw [HNH.o]; exact nR _)] at h1
   unfold IntsAt
   rw [List.length_map,HNH.o]
   exact h1)
  go_cut [16] (fun s16 wc=>∃ ab,s16 = .pointer (some ⟨ab,0,none⟩)/\Hd (W4.heap.size <= ab)/\Hd (BoxC wc ab qx)/\Hd (Below w5.heap.size w5 wc))
  case first =>
   refine wp_region_held_drew (S:=fun w'=>w'.cell? ⟨w.heap.size,0,none⟩ = some (.int .i64 O)/\w'.cell? ⟨w.heap.size,1,none⟩ = some (.int .i64 v)/\w'.cell? ⟨w.heap.size,2,none⟩ = some (.slice Al gs.length cl)/\w'.cell? ⟨w.heap.size,3,none⟩ = some (.int .i64 k)/\w'.cell? ⟨w.heap.size,4,none⟩ = some (.bool s)/\w'.cell? ⟨w.heap.size,5,none⟩ = some (.slice A m c)/\w'.cell? ⟨w.heap.size,6,none⟩ = some (.slice A' m' c')/\w'.cell? ⟨w.heap.size,7,none⟩ = some (.slice Am mix.length cm)) (by kernel_rfl) (an (L5.o.below' (bS w5))) (fun hHeld=>?_)
   obtain ⟨y0,hy0⟩:∃ x,x = w5.drew:=⟨_,rfl⟩
   have My0:=bun (aH (aI L5.o (aI C5.o (aI I5.o (aI B5.o (Below.refl w5.heap.size w5)))))) (bS w5)
   rw [<- hy0] at hHeld My0 ⊢
   clear hy0
   refine tjj 0 ?_ rfl (by kernel_rfl) rfl ‹_› ?_ (fun _ _ _ h=>h) (tjj 2 ?_ rfl (by kernel_rfl) rfl ‹_› ?_ (fun _ _ _ h=>h) (tjj 3 ?_ rfl (by kernel_rfl) rfl ‹_› ?_ (fun _ _ _ h=>h) (tjj 4 ?_ rfl (by kernel_rfl) rfl ‹_› ?_ (fun _ _ _ h=>h) (tjj 5 ?_ rfl (by kernel_rfl) rfl ‹_› ?_ (fun _ _ _ h=>h) (tjj 7 ?_ rfl (by kernel_rfl) rfl ‹_› ?_ (fun _ _ _ h=>h) (tjj 8 ?_ rfl (by kernel_rfl) rfl ‹_› ?_ (fun _ _ _ h=>h) ?_))))))
   iterate 7 (rotate_left; · (intro w' hSw; (try dsimp only at hSw); (try go_frame); go_simp <;> with_reducible rfl))
   go_frame
   refine wpAnyH_ready (rs:=[1,12]) (by kernel_rfl) (by simp) ?_
   refine AllReadyH.cons rfl (fun K hK=>?_) (AllReadyH.cons rfl (fun K hK=>?_) AllReadyH.nil)
   ·go_simp
    refine (rl _ O v (.slice Al gs.length cl) gs k s A A' m c m' c' Am mix.length cm (HL.o.grams.below My0.o.2.2.2.1) HG.o (by have:=HT.o.2.2.2; omega)).mono ?_
    rintro e y1 ⟨b,rfl,hlv,hb⟩
    have My1:=bun My0 hb
    clear My0
    have LVy1:=aH hlv
    rw [WO.o.way b]
    have hm1:=WO.o.meth b
    have hm2:=WO.o.nil b
    clear hlv hb hHeld
    have hS:=an My1.o.1
    try go_simp
    refine hK.out _ _ hS (fun hHeld=>?_)
    clear hK K hS
    try go_frame
    refine wpAnyH_ready (rs:=[6,12]) (by kernel_rfl) (by simp) ?_
    refine AllReadyH.cons rfl (fun K hK=>?_) (AllReadyH.cons rfl (fun K hK=>?_) AllReadyH.nil)
    ·go_simp
     refine (WO.o.row b _ _ _ LVy1.o My1.o.2.2.2.1 My1.o.2.2.1 (by rw [List.length_map,HNH.o]; exact HLN.o) HNK.o).mono ?_
     rw [HR.o]
     rintro e y2 ⟨b2,rfl,hb2,hf2,hb⟩
     have My2:=bun My1 hb
     have LVy2:=aH (LVy1.o.below hb)
     clear My1 LVy1
     have Fy2:=aH hf2
     clear hf2 hb hb2 hHeld hm1 hm2 LVy2
     have hS:=an My2.o.1
     try go_simp
     refine hK.out _ _ hS (fun hHeld=>?_)
     clear hK K hS
     try go_frame
     refine wpAnyH_ready (rs:=[9,12]) (by kernel_rfl) (by simp) ?_
     refine AllReadyH.cons rfl (fun K hK=>?_) (AllReadyH.cons rfl (fun K hK=>?_) AllReadyH.nil)
     ·go_simp
      refine (classOfG _ (w.heap.size + 1) _ _ cs x My2.o.2.1 (HO.o.below My2.o.2.2.2.1) (by omega) (by rw [HNO.o]; omega) (by rw [HNO.o]; exact hc12)).mono ?_
      rintro e w' ⟨rfl,hww⟩
      rw [hww,HY.o]
      clear hww w'
      try go_simp
      refine hK.out _ _ hHeld (fun hHeld=>?_)
      clear hK K
      try go_frame
      refine tjj 10 ?_ rfl (by kernel_rfl) rfl ‹_› ?_ (fun _ _ _ h=>h) ?_
      rotate_left
      ·(intro w' hSw; (try dsimp only at hSw); (try go_frame); go_simp <;> with_reducible rfl)
      go_frame
      refine wpAnyH_ready (rs:=[11,12]) (by kernel_rfl) (by simp) ?_
      refine AllReadyH.cons rfl (fun K hK=>?_) (AllReadyH.cons rfl (fun K hK=>?_) AllReadyH.nil)
      ·obtain ⟨Ax,mx,cx,Ax',mx',cx',g0,g1,g2,_,_,_,tx⟩:=Fy2.o.get HQX.o
       have TX:=aH tx
       clear tx
       go_simp
       refine hK.out _ _ hHeld (fun hHeld=>?_)
       clear hK K g0 g1 g2
       try go_frame
       refine wpAnyH_ready (rs:=[12]) (by kernel_rfl) (by simp) ?_
       refine AllReadyH.cons rfl (fun K hK=>?_) AllReadyH.nil
       go_simp
       refine hK.out _ _ (by obtain ⟨_,_,_,_,_,_,_,_⟩:=hHeld; and_intros <;> exact au ‹_› _) (fun hHeld=>?_)
       clear hK K
       try go_frame
       try go_simp
       have Gy5z:=My2.o.2.2.2.2.size
       obtain ⟨y5,hy5,A0,AB,Ahs⟩:=aA y2 40 [.bool false,.slice none 0 0,.slice none 0 0]
       rw [<- hy5] at hHeld ⊢
       clear hy5
       have My5:=bun My2 AB.o
       have Fy5:=aH (Fy2.o.below AB.o)
       clear My2 Fy2
       have APy5:Hd (BoxC y5 y2.heap.size 0):=aH (BoxC.of (q:=0) A0.o ((CanNew.zero_ 0 _).at_))
       have ab:W4.heap.size <= y2.heap.size:=Nat.le_trans s5 Gy5z
       have TX:=aH (TX.o.below AB.o)
       clear A0 AB Ahs
       refine wpAnyH_ready (rs:=[13]) (by kernel_rfl) (by simp) ?_
       refine AllReadyH.cons rfl (fun K hK=>?_) AllReadyH.nil
       obtain ⟨_,_,_,_,_,_,r0,r1,r2,z0,z1,z2,_⟩:=APy5.o.get
       go_simp
       refine hK.out _ _ (by obtain ⟨_,_,_,_,_,_,_,_⟩:=hHeld; and_intros <;> exact aj ‹_› (by omega) _ _ _ _ _ _) (fun _=>?_)
       clear hK K hHeld r0 r1 r2 z0 z1 z2
       try go_frame
       refine wpAnyH_done (by kernel_rfl) ?_ _
       go_wp2_with fail
       go_meet
       exact ⟨_,rfl,aH ab,aH (APy5.o.put rfl TX.o),aH (aL My5.o.2.2.2.2 (by omega) _ _ _ _ _ _)⟩
      go_simp
      refine hK.out _ _ (by obtain ⟨_,_,_,_,_,_,_,_⟩:=hHeld; and_intros <;> exact au ‹_› _) (fun hHeld=>?_)
      clear hK K
      try go_frame
      try go_simp
      have Gy7z:=My2.o.2.2.2.2.size
      obtain ⟨y7,hy7,A0,AB,Ahs⟩:=aA y2 40 [.bool false,.slice none 0 0,.slice none 0 0]
      rw [<- hy7] at hHeld ⊢
      clear hy7
      have My7:=bun My2 AB.o
      have Fy7:=aH (Fy2.o.below AB.o)
      clear My2 Fy2
      have APy7:Hd (BoxC y7 y2.heap.size 0):=aH (BoxC.of (q:=0) A0.o ((CanNew.zero_ 0 _).at_))
      have ab:W4.heap.size <= y2.heap.size:=Nat.le_trans s5 Gy7z
      clear A0 AB Ahs
      refine wpAnyH_ready (rs:=[11]) (by kernel_rfl) (by simp) ?_
      refine AllReadyH.cons rfl (fun K hK=>?_) AllReadyH.nil
      obtain ⟨Ax,mx,cx,Ax',mx',cx',g0,g1,g2,_,_,_,tx⟩:=Fy7.o.get HQX.o
      have TX:=aH tx
      clear tx
      go_simp
      refine hK.out _ _ hHeld (fun hHeld=>?_)
      clear hK K g0 g1 g2
      try go_frame
      refine wpAnyH_ready (rs:=[13]) (by kernel_rfl) (by simp) ?_
      refine AllReadyH.cons rfl (fun K hK=>?_) AllReadyH.nil
      obtain ⟨_,_,_,_,_,_,r0,r1,r2,z0,z1,z2,_⟩:=APy7.o.get
      go_simp
      refine hK.out _ _ (by obtain ⟨_,_,_,_,_,_,_,_⟩:=hHeld; and_intros <;> exact aj ‹_› (by omega) _ _ _ _ _ _) (fun _=>?_)
      clear hK K hHeld r0 r1 r2 z0 z1 z2
      try go_frame
      refine wpAnyH_done (by kernel_rfl) ?_ _
      go_wp2_with fail
      go_meet
      exact ⟨_,rfl,aH ab,aH (APy7.o.put rfl TX.o),aH (aL My7.o.2.2.2.2 (by omega) _ _ _ _ _ _)⟩
     go_simp
     refine hK.out _ _ (by obtain ⟨_,_,_,_,_,_,_,_⟩:=hHeld; and_intros <;> exact au ‹_› _) (fun hHeld=>?_)
     clear hK K
     try go_frame
     try go_simp
     have Gy10z:=My2.o.2.2.2.2.size
     obtain ⟨y10,hy10,A0,AB,Ahs⟩:=aA y2 40 [.bool false,.slice none 0 0,.slice none 0 0]
     rw [<- hy10] at hHeld ⊢
     clear hy10
     have My10:=bun My2 AB.o
     have Fy10:=aH (Fy2.o.below AB.o)
     clear My2 Fy2
     have APy10:Hd (BoxC y10 y2.heap.size 0):=aH (BoxC.of (q:=0) A0.o ((CanNew.zero_ 0 _).at_))
     have ab:W4.heap.size <= y2.heap.size:=Nat.le_trans s5 Gy10z
     clear A0 AB Ahs
     refine wpAnyH_ready (rs:=[9]) (by kernel_rfl) (by simp) ?_
     refine AllReadyH.cons rfl (fun K hK=>?_) AllReadyH.nil
     go_simp
     refine (classOfG _ (w.heap.size + 1) _ _ cs x My10.o.2.1 (HO.o.below My10.o.2.2.2.1) (by omega) (by rw [HNO.o]; omega) (by rw [HNO.o]; exact hc12)).mono ?_
     rintro e w' ⟨rfl,hww⟩
     rw [hww,HY.o]
     clear hww w'
     try go_simp
     refine hK.out _ _ hHeld (fun hHeld=>?_)
     clear hK K
     try go_frame
     refine tjj 10 ?_ rfl (by kernel_rfl) rfl ‹_› ?_ (fun _ _ _ h=>h) ?_
     rotate_left
     ·(intro w' hSw; (try dsimp only at hSw); (try go_frame); go_simp <;> with_reducible rfl)
     go_frame
     refine wpAnyH_ready (rs:=[11]) (by kernel_rfl) (by simp) ?_
     refine AllReadyH.cons rfl (fun K hK=>?_) AllReadyH.nil
     obtain ⟨Ax,mx,cx,Ax',mx',cx',g0,g1,g2,_,_,_,tx⟩:=Fy10.o.get HQX.o
     have TX:=aH tx
     clear tx
     go_simp
     refine hK.out _ _ hHeld (fun hHeld=>?_)
     clear hK K g0 g1 g2
     try go_frame
     refine wpAnyH_ready (rs:=[13]) (by kernel_rfl) (by simp) ?_
     refine AllReadyH.cons rfl (fun K hK=>?_) AllReadyH.nil
     obtain ⟨_,_,_,_,_,_,r0,r1,r2,z0,z1,z2,_⟩:=APy10.o.get
     go_simp
     refine hK.out _ _ (by obtain ⟨_,_,_,_,_,_,_,_⟩:=hHeld; and_intros <;> exact aj ‹_› (by omega) _ _ _ _ _ _) (fun _=>?_)
     clear hK K hHeld r0 r1 r2 z0 z1 z2
     try go_frame
     refine wpAnyH_done (by kernel_rfl) ?_ _
     go_wp2_with fail
     go_meet
     exact ⟨_,rfl,aH ab,aH (APy10.o.put rfl TX.o),aH (aL My10.o.2.2.2.2 (by omega) _ _ _ _ _ _)⟩
    go_simp
    refine hK.out _ _ (by obtain ⟨_,_,_,_,_,_,_,_⟩:=hHeld; and_intros <;> exact au ‹_› _) (fun hHeld=>?_)
    clear hK K
    try go_frame
    try go_simp
    have Gy14z:=My1.o.2.2.2.2.size
    obtain ⟨y14,hy14,A0,AB,Ahs⟩:=aA y1 40 [.bool false,.slice none 0 0,.slice none 0 0]
    rw [<- hy14] at hHeld ⊢
    clear hy14
    have My14:=bun My1 AB.o
    have LVy14:=aH (LVy1.o.below AB.o)
    clear My1 LVy1
    have APy14:Hd (BoxC y14 y1.heap.size 0):=aH (BoxC.of (q:=0) A0.o ((CanNew.zero_ 0 _).at_))
    have ab:W4.heap.size <= y1.heap.size:=Nat.le_trans s5 Gy14z
    clear A0 AB Ahs
    refine wpAnyH_ready (rs:=[6]) (by kernel_rfl) (by simp) ?_
    refine AllReadyH.cons rfl (fun K hK=>?_) AllReadyH.nil
    go_simp
    refine (WO.o.row b _ _ _ LVy14.o My14.o.2.2.2.1 My14.o.2.2.1 (by rw [List.length_map,HNH.o]; exact HLN.o) HNK.o).mono ?_
    rw [HR.o]
    rintro e y15 ⟨b2,rfl,hb2,hf2,hb⟩
    have My15:=bun My14 hb
    have LVy15:=aH (LVy14.o.below hb)
    have APy15:=aH (APy14.o.below hb)
    clear My14 LVy14 APy14
    have Fy15:=aH hf2
    clear hf2 hb hb2 hHeld hm1 hm2 LVy15
    have hS:=an My15.o.1
    try go_simp
    refine hK.out _ _ hS (fun hHeld=>?_)
    clear hK K hS
    try go_frame
    refine wpAnyH_ready (rs:=[9]) (by kernel_rfl) (by simp) ?_
    refine AllReadyH.cons rfl (fun K hK=>?_) AllReadyH.nil
    go_simp
    refine (classOfG _ (w.heap.size + 1) _ _ cs x My15.o.2.1 (HO.o.below My15.o.2.2.2.1) (by omega) (by rw [HNO.o]; omega) (by rw [HNO.o]; exact hc12)).mono ?_
    rintro e w' ⟨rfl,hww⟩
    rw [hww,HY.o]
    clear hww w'
    try go_simp
    refine hK.out _ _ hHeld (fun hHeld=>?_)
    clear hK K
    try go_frame
    refine tjj 10 ?_ rfl (by kernel_rfl) rfl ‹_› ?_ (fun _ _ _ h=>h) ?_
    rotate_left
    ·(intro w' hSw; (try dsimp only at hSw); (try go_frame); go_simp <;> with_reducible rfl)
    go_frame
    refine wpAnyH_ready (rs:=[11]) (by kernel_rfl) (by simp) ?_
    refine AllReadyH.cons rfl (fun K hK=>?_) AllReadyH.nil
    obtain ⟨Ax,mx,cx,Ax',mx',cx',g0,g1,g2,_,_,_,tx⟩:=Fy15.o.get HQX.o
    have TX:=aH tx
    clear tx
    go_simp
    refine hK.out _ _ hHeld (fun hHeld=>?_)
    clear hK K g0 g1 g2
    try go_frame
    refine wpAnyH_ready (rs:=[13]) (by kernel_rfl) (by simp) ?_
    refine AllReadyH.cons rfl (fun K hK=>?_) AllReadyH.nil
    obtain ⟨_,_,_,_,_,_,r0,r1,r2,z0,z1,z2,_⟩:=APy15.o.get
    go_simp
    refine hK.out _ _ (by obtain ⟨_,_,_,_,_,_,_,_⟩:=hHeld; and_intros <;> exact aj ‹_› (by omega) _ _ _ _ _ _) (fun _=>?_)
    clear hK K hHeld r0 r1 r2 z0 z1 z2
    try go_frame
    refine wpAnyH_done (by kernel_rfl) ?_ _
    go_wp2_with fail
    go_meet
    exact ⟨_,rfl,aH ab,aH (APy15.o.put rfl TX.o),aH (aL My15.o.2.2.2.2 (by omega) _ _ _ _ _ _)⟩
   go_simp
   refine hK.out _ _ (by obtain ⟨_,_,_,_,_,_,_,_⟩:=hHeld; and_intros <;> exact au ‹_› _) (fun hHeld=>?_)
   clear hK K
   try go_frame
   try go_simp
   have Gy19z:=My0.o.2.2.2.2.size
   obtain ⟨y19,hy19,A0,AB,Ahs⟩:=aA y0 40 [.bool false,.slice none 0 0,.slice none 0 0]
   rw [<- hy19] at hHeld ⊢
   clear hy19
   have My19:=bun My0 AB.o
   clear My0
   have APy19:Hd (BoxC y19 y0.heap.size 0):=aH (BoxC.of (q:=0) A0.o ((CanNew.zero_ 0 _).at_))
   have ab:W4.heap.size <= y0.heap.size:=Nat.le_trans s5 Gy19z
   clear A0 AB Ahs
   refine wpAnyH_ready (rs:=[1]) (by kernel_rfl) (by simp) ?_
   refine AllReadyH.cons rfl (fun K hK=>?_) AllReadyH.nil
   go_simp
   refine (rl _ O v (.slice Al gs.length cl) gs k s A A' m c m' c' Am mix.length cm (HL.o.grams.below My19.o.2.2.2.1) HG.o (by have:=HT.o.2.2.2; omega)).mono ?_
   rintro e y20 ⟨b,rfl,hlv,hb⟩
   have My20:=bun My19 hb
   have APy20:=aH (APy19.o.below hb)
   clear My19 APy19
   have LVy20:=aH hlv
   rw [WO.o.way b]
   have hm1:=WO.o.meth b
   have hm2:=WO.o.nil b
   clear hlv hb hHeld
   have hS:=an My20.o.1
   try go_simp
   refine hK.out _ _ hS (fun hHeld=>?_)
   clear hK K hS
   try go_frame
   refine wpAnyH_ready (rs:=[6]) (by kernel_rfl) (by simp) ?_
   refine AllReadyH.cons rfl (fun K hK=>?_) AllReadyH.nil
   go_simp
   refine (WO.o.row b _ _ _ LVy20.o My20.o.2.2.2.1 My20.o.2.2.1 (by rw [List.length_map,HNH.o]; exact HLN.o) HNK.o).mono ?_
   rw [HR.o]
   rintro e y21 ⟨b2,rfl,hb2,hf2,hb⟩
   have My21:=bun My20 hb
   have LVy21:=aH (LVy20.o.below hb)
   have APy21:=aH (APy20.o.below hb)
   clear My20 LVy20 APy20
   have Fy21:=aH hf2
   clear hf2 hb hb2 hHeld hm1 hm2 LVy21
   have hS:=an My21.o.1
   try go_simp
   refine hK.out _ _ hS (fun hHeld=>?_)
   clear hK K hS
   try go_frame
   refine wpAnyH_ready (rs:=[9]) (by kernel_rfl) (by simp) ?_
   refine AllReadyH.cons rfl (fun K hK=>?_) AllReadyH.nil
   go_simp
   refine (classOfG _ (w.heap.size + 1) _ _ cs x My21.o.2.1 (HO.o.below My21.o.2.2.2.1) (by omega) (by rw [HNO.o]; omega) (by rw [HNO.o]; exact hc12)).mono ?_
   rintro e w' ⟨rfl,hww⟩
   rw [hww,HY.o]
   clear hww w'
   try go_simp
   refine hK.out _ _ hHeld (fun hHeld=>?_)
   clear hK K
   try go_frame
   refine tjj 10 ?_ rfl (by kernel_rfl) rfl ‹_› ?_ (fun _ _ _ h=>h) ?_
   rotate_left
   ·(intro w' hSw; (try dsimp only at hSw); (try go_frame); go_simp <;> with_reducible rfl)
   go_frame
   refine wpAnyH_ready (rs:=[11]) (by kernel_rfl) (by simp) ?_
   refine AllReadyH.cons rfl (fun K hK=>?_) AllReadyH.nil
   obtain ⟨Ax,mx,cx,Ax',mx',cx',g0,g1,g2,_,_,_,tx⟩:=Fy21.o.get HQX.o
   have TX:=aH tx
   clear tx
   go_simp
   refine hK.out _ _ hHeld (fun hHeld=>?_)
   clear hK K g0 g1 g2
   try go_frame
   refine wpAnyH_ready (rs:=[13]) (by kernel_rfl) (by simp) ?_
   refine AllReadyH.cons rfl (fun K hK=>?_) AllReadyH.nil
   obtain ⟨_,_,_,_,_,_,r0,r1,r2,z0,z1,z2,_⟩:=APy21.o.get
   go_simp
   refine hK.out _ _ (by obtain ⟨_,_,_,_,_,_,_,_⟩:=hHeld; and_intros <;> exact aj ‹_› (by omega) _ _ _ _ _ _) (fun _=>?_)
   clear hK K hHeld r0 r1 r2 z0 z1 z2
   try go_frame
   refine wpAnyH_done (by kernel_rfl) ?_ _
   go_wp2_with fail
   go_meet
   exact ⟨_,rfl,aH ab,aH (APy21.o.put rfl TX.o),aH (aL My21.o.2.2.2.2 (by omega) _ _ _ _ _ _)⟩
  obtain ⟨ab,rfl,hab,XB,BC⟩:=hcut
  obtain ⟨w6,rfl⟩:∃ z,z = wc:=⟨_,rfl⟩
  have hab1:=hab.o
  have L6:=aH (L5.o.below' BC.o)
  have C6:=aH (C5.o.below' BC.o)
  have R6:=aH (R5.o.below' BC.o)
  have B6:=aH (B5.o.trans (BC.o.mono B5.o.size))
  have sz6:w5.heap.size <= w6.heap.size:=BC.o.size
  clear OW L5 C5 R5 B5 I5 BC hab
  rcases zP x with hx0 | hx0
  ·subst hx0
   have t1:decide ((0:Int) < ((0:Nat):Int)) = false:=dF (by omega)
   have HE:Hd (cq = qx):=aH (by
    rw [<- HCQ.o]
    unfold classedQ
    rw [if_pos rfl,<- HGD.o]
    have h1:=HY.o
    unfold clsOf at h1
    rw [if_pos (by rfl)] at h1
    rw [show y = 0 by omega])
   obtain ⟨Ar,mr,cr,Ar',mr',cr',r0,r1,r2,_,_,_,tr⟩:=XB.o.get
   obtain ⟨u0,u1,u2,z0,z1,z2⟩:=R6.o.three
   have RN:=aH (FArc.keeps (BoxC.of (q:=0) R6.o ((CanNew.zero_ 0 w6).at_)) tr 0 1 2 (ae qx) Ar Ar' mr cr mr' cr')
   clear tr
   go_wp2_with fail
   refine bodyPost_ret (v:=.tuple #[.agg #[.bool (ae qx),.slice Ar mr cr,.slice Ar' mr' cr'],.int .i64 0]) (by simp [results,Tryz.results63,go_sem,u0,u1,u2,List.mapM_cons]) rfl ⟨_,rfl,?_,fun h=>absurd h (by omega),af B6.o (by omega) _ _ _⟩
   rw [HE.o]
   exact RN.o
  have t1:decide ((0:Int) < (x:Int)) = true:=dT (by omega)
  obtain ⟨i,rfl⟩:∃ i,x = i + 1:=⟨x - 1,by omega⟩
  obtain ⟨qi,hqi⟩:∃ q,qs[i]? = some q:=⟨_,eG (by rw [HNI.o,HNO.o]; omega)⟩
  have HE:Hd (qx * qi = cq):=aH (by
   rw [<- HCQ.o]
   unfold classedQ
   have h1:=HY.o
   unfold clsOf at h1
   rw [if_neg (by omega)] at h1
   rw [if_neg (by omega),Nat.add_sub_cancel,<- HGD.o]
   rw [show (((i + 1:Nat):Int) - 1).toNat = i by omega] at h1
   rw [h1,Int.toNat_natCast]
   congr 1
   rw [gD,hqi]
   rfl)
  obtain ⟨bi,oi,ng,An,nn,cn,Ad,nd,cd,rfl,hbi,f0,f1,f2,hfx⟩:=HIT.o i qi hqi
  have c0:=(B6.o.cell (p:=⟨bi,oi + i * 3,none⟩) hbi).trans f0
  have c1:=(B6.o.cell (p:=⟨bi,oi + i * 3 + 1,none⟩) hbi).trans f1
  have c2:=(B6.o.cell (p:=⟨bi,oi + i * 3 + 2,none⟩) hbi).trans f2
  have TX:=aH ((hfx.below B6.o).mono (show 64 <= 6000000 by omega))
  have j9:IntKind.i64.wrap (((i + 1:Nat):Int) - 1) = (i:Int):=by rw [show ((i + 1:Nat):Int) - 1 = (i:Int) by omega]; exact iI _ (by omega)
  obtain ⟨z,hz⟩:∃ z:Int,((i + 1:Nat):Int) = z:=⟨_,rfl⟩
  rw [hz] at j9 t1 ⊢
  have i1:(0:Int) <= (i:Int):=by omega
  have i2:(i:Int) < (no:Int):=by omega
  have sC:=C6.o.lt
  have sI:bi < w6.heap.size:=by have:=B6.o.size; omega
  have nC:w.heap.size + 1 ≠ ab:=by omega
  have nI:bi ≠ ab:=by omega
  obtain ⟨q0,q1⟩:=two_at C6.o
  have QX6:=aH (QX.o.mono (show 5000000 <= 6000000 by omega))
  have HSET:Hd (∀ w',Below w6.heap.size w6 w'->(fun w'=>w'.cell? ⟨w.heap.size + 1,1,none⟩ = some (.slice (some ⟨bi,oi,none⟩) no ci)/\w'.cell? ⟨bi,oi + i * 3,none⟩ = some (.bool ng)/\w'.cell? ⟨bi,oi + i * 3 + 1,none⟩ = some (.slice An nn cn)/\w'.cell? ⟨bi,oi + i * 3 + 2,none⟩ = some (.slice Ad nd cd)) w'):=aH (fun w' hb=>⟨(hb.cell (p:=⟨w.heap.size + 1,1,none⟩) sC).trans q1,(hb.cell (p:=⟨bi,oi + i * 3,none⟩) sI).trans c0,(hb.cell (p:=⟨bi,oi + i * 3 + 1,none⟩) sI).trans c1,(hb.cell (p:=⟨bi,oi + i * 3 + 2,none⟩) sI).trans c2⟩)
  clear hqi f0 f1 f2 hfx q0 q1 c0 c1 c2 hz
  go_upto_region 18 with fail
  refine wp_region_held_drew (S:=(fun w'=>w'.cell? ⟨w.heap.size + 1,1,none⟩ = some (.slice (some ⟨bi,oi,none⟩) no ci)/\w'.cell? ⟨bi,oi + i * 3,none⟩ = some (.bool ng)/\w'.cell? ⟨bi,oi + i * 3 + 1,none⟩ = some (.slice An nn cn)/\w'.cell? ⟨bi,oi + i * 3 + 2,none⟩ = some (.slice Ad nd cd))) (by kernel_rfl) (HSET.o _ (bS w6)) (fun hHeld=>?_)
  refine tjj 1 ?_ rfl (by kernel_rfl) rfl ‹_› ?_ (fun _ _ _ h=>h) (tjj 2 ?_ rfl (by kernel_rfl) rfl ‹_› ?_ (fun _ _ _ h=>h) (tjj 3 ?_ rfl (by kernel_rfl) rfl ‹_› ?_ (fun _ _ _ h=>h) (tjj 4 ?_ rfl (by kernel_rfl) rfl ‹_› ?_ (fun _ _ _ h=>h) (tjj 5 ?_ rfl (by kernel_rfl) rfl ‹_› ?_ (fun _ _ _ h=>h) (tjj 6 ?_ rfl (by kernel_rfl) rfl ‹_› ?_ (fun _ _ _ h=>h) ?_)))))
  iterate 6 (rotate_left; · (intro w' hSw; (try dsimp only at hSw); (try go_frame); go_simp <;> with_reducible rfl))
  go_frame
  obtain ⟨Ao,mo,co',Ao',mo',co'',r0,r1,r2,_,_,_,tO⟩:=XB.o.get
  have TO:=aH (tO.frac (k:=6000000) QX6.o (by omega))
  clear tO
  refine wpAnyH_ready (rs:=[0]) (by kernel_rfl) (by simp) ?_
  refine AllReadyH.cons rfl (fun K hK=>?_) AllReadyH.nil
  go_simp
  refine hK.out _ _ hHeld (fun _=>?_)
  clear hK K r0 r1 r2
  try go_frame
  refine wpAnyH_ready (rs:=[7]) (by kernel_rfl) (by simp) ?_
  refine AllReadyH.cons rfl (fun K hK=>?_) AllReadyH.nil
  go_simp
  clear hHeld
  refine (lP _ _ _ qx qi 6000000 (TO.o.below (bS _)) (TX.o.below (bS _)) (by omega) (by omega)).mono ?_
  rintro e wl ⟨u,rfl,t,hb'⟩
  rw [HE.o] at t
  have hb:=bO hb'
  have BB:=aH hb
  obtain ⟨As,ms,cs2,As',ms',cs',rfl⟩:=t.at_.open_
  have T2:=aH t
  clear t hb'
  have hS:=HSET.o wl hb
  try go_simp
  refine hK.out _ _ hS (fun hHeld=>?_)
  clear hK K hS
  try go_frame
  obtain ⟨_,_,_,_,_,_,u0,u1,u2,y0,y1,y2,_⟩:=(XB.o.below BB.o).get
  refine wpAnyH_ready (rs:=[8]) (by kernel_rfl) (by simp) ?_
  refine AllReadyH.cons rfl (fun K hK=>?_) AllReadyH.nil
  go_simp
  refine hK.out _ _ ⟨aj hHeld.1 nC _ _ _ _ _ _,aj hHeld.2.1 nI _ _ _ _ _ _,aj hHeld.2.2.1 nI _ _ _ _ _ _,aj hHeld.2.2.2 nI _ _ _ _ _ _⟩ (fun _=>?_)
  clear hK K hHeld u0 u1 u2 y0 y1 y2
  try go_frame
  refine wpAnyH_done (by kernel_rfl) ?_ _
  have XB7:=aH ((XB.o.below BB.o).blk3 (ae cq) As ms cs2 As' ms' cs')
  have sab:ab < w6.heap.size:=XB.o.lt
  have T3:=aH ((((T2.o.mono (show w6.heap.size <= _ by exact nR _)).far (p:=⟨ab,0,none⟩) sab (.bool (ae cq))).far (p:=⟨ab,1,none⟩) sab (.slice As ms cs2)).far (p:=⟨ab,2,none⟩) sab (.slice As' ms' cs'))
  have R7:=aH ((R6.o.below' BB.o).far3 (show w.heap.size + 2 ≠ ab by omega) 0 1 2 (.bool (ae cq)) (.slice As ms cs2) (.slice As' ms' cs'))
  have B7:=aH (aL (B6.o.trans (BB.o.mono B6.o.size)) (show w.heap.size <= ab by omega) 0 1 2 (.bool (ae cq)) (.slice As ms cs2) (.slice As' ms' cs'))
  obtain ⟨W8,hW8⟩:∃ W,((wl.setCell ⟨ab,0,none⟩ (.bool (ae cq))).setCell ⟨ab,1,none⟩ (.slice As ms cs2)).setCell ⟨ab,2,none⟩ (.slice As' ms' cs') = W:=⟨_,rfl⟩
  rw [hW8] at XB7 R7 B7 T3 ⊢
  clear hW8
  obtain ⟨r0,r1,r2,_,_,_⟩:=XB7.o.three
  obtain ⟨u0,u1,u2,z0,z1,z2⟩:=R7.o.three
  have sw6:w.heap.size + 2 < w6.heap.size:=by omega
  have RN:=aH (((T3.o.far (p:=⟨w.heap.size + 2,0,none⟩) sw6 (.bool (ae cq))).far (p:=⟨w.heap.size + 2,1,none⟩) sw6 (.slice As ms cs2)).far (p:=⟨w.heap.size + 2,2,none⟩) sw6 (.slice As' ms' cs'))
  go_wp2_with fail
  refine bodyPost_ret (v:=.tuple #[.agg #[.bool (ae cq),.slice As ms cs2,.slice As' ms' cs'],.int .i64 0]) (by simp [results,Tryz.results63,go_sem,u0,u1,u2,List.mapM_cons]) rfl ⟨_,rfl,?_,(by first | exact RN.o.mono (by omega) | exact fun _=>RN.o.mono (by omega)),af B7.o (by omega) _ _ _⟩
  exact RN.o.at_
 obtain ⟨g,rfl⟩:∃ g,gk = g + 1:=⟨gk - 1,by omega⟩
 obtain ⟨y,hy⟩:∃ y,hl[j]? = some y:=⟨_,eG (by rw [HNH.o]; omega)⟩
 obtain ⟨bh,oh,rfl,hbh,e0⟩:=HHAT.o j y hy
 have c0:=(B5.o.cell (p:=⟨bh,oh + j,none⟩) hbh).trans e0
 have hyr:=inR_iff.1 HIN.o y (mG hy)
 have HTK:Hd (((hl.take (j + 1)).map (clsOf cs)).map (Value.int .i64) = ((hl.take j).map (clsOf cs)).map (Value.int .i64) ++ [.int .i64 (clsOf cs y)]):=aH (by rw [ah _ hy,List.map_append,List.map_append]; rfl)
 have q3:(0:Int) <= (j:Int):=by omega
 have q4:(j:Int) < (nh:Int):=by omega
 have j9:IntKind.i64.wrap ((j:Int) + 1) = (j:Int) + 1:=iI _ (by omega)
 obtain ⟨i0,gi,gz0,gz1,gz2⟩:=info_parts eD
 clear hy e0
 go_wp2_with fail
 refine (classOfG w5 (w.heap.size + 1) _ _ cs y C5.o (HO.o.below B5.o) hyr.1 (by rw [HNO.o]; exact hyr.2) (by rw [HNO.o]; exact hc12)).mono ?_
 rintro e w6 ⟨rfl,rfl⟩
 obtain ⟨cy,hcy⟩:=nm (clsOf cs y)
 rw [hcy] at HTK ⊢
 obtain ⟨xs,hxs⟩:=nm (((hl.take j).map (clsOf cs)).map (Value.int .i64))
 rw [hxs] at OW HTK
 clear hcy hyr c0 hxs
 go_wp2_with (at_builtin; refine al rfl (.tmp 72) (.tmp 76) 44 rfl W4.heap.size 3 i0 (.int .i64 0) 1 8 Tryz.underlying44 gi gz0 gz1 gz2 rfl (by decide) _ _ _ rfl (bK OW.o (Below.alloc (Below.refl _ _) (nR _) _)) _ 1 [.int .i64 cy] rfl (Sl.one _ _ _) (by simp [Value.oneCell']) (by unfold maxLen; omega) (by omega) (by simp; omega) ?_)
 intro v3 w3 t1 t2 _
 obtain ⟨gb,cap,rfl⟩:=g9 t1 (by omega)
 have hnk:∀ q,(Value.slice A9 j c9).ownBlock = some q->W4.heap.size <= q:=ao (From.of_own OW.o)
 have OW3:Hd (w3.ownsRow W4.heap.size 3 1 (.slice (some ⟨gb,0,none⟩) (j + 1) cap) (j + 1) (((hl.take (j + 1)).map (clsOf cs)).map (Value.int .i64))):=aH (by rw [HTK.o]; exact t1)
 have L6:=aH ((L5.o.alloc (.cells #[.int .i64 cy] 3)).grown t2 (fun e=>by have:=hnk _ e.symm; omega))
 have C6:=aH ((C5.o.alloc (.cells #[.int .i64 cy] 3)).grown t2 (fun e=>by have:=hnk _ e.symm; omega))
 have R6:=aH ((R5.o.alloc (.cells #[.int .i64 cy] 3)).grown t2 (fun e=>by have:=hnk _ e.symm; omega))
 have B6:=aH ((B5.o.alloc (by omega) (.cells #[.int .i64 cy] 3)).grown t2 (by simp; omega) (fun q e=>by have:=hnk _ e; omega))
 have s6:W4.heap.size <= w3.heap.size:=by have:=t2.size; simp at this; omega
 clear t1 t2 hnk
 go_wp2_with fail
 go_roundg g
 case measure=>omega
 case rel=>exact ⟨j + 1,some ⟨gb,0,none⟩,cap,rfl,rfl,by omega,OW3,L6,C6,R6,B6,s6⟩
end Go.Proofs.YtjebfdfkjlkifaaGreat
