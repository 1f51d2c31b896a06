/- Lemmas. -/
import Derived.Shelf.SlLaysF0
import Derived.Ground.SlsfProg
import Derived.Test.YtjebfdfkjlkifaaGreatR39
import Derived.Shelf.SlSortCmp.InsertionK
import Derived.Shelf.SlSortCmp.NoneTotal
set_option linter.all false
set_option maxRecDepth 1000000
set_option maxHeartbeats 32000000
namespace Go.Proofs
open Go.Shelf
def Tryz.sortGram_ren:Go.Shelf.Ren:=⟨fun | 6=>136 | 15=>162 | 14=>161 | 28=>185 | 29=>186 | 20=>177 | 21=>178 | 22=>179 | 23=>180 | 24=>181 | 25=>182 | 26=>183 | 27=>184 | 46=>190 | 47=>191 | 48=>192 | 49=>193 | 50=>194 | 57=>201 | n=>n,fun | 22=>25 | 24=>51 | 25=>167 | 3=>3 | 39=>185 | 0=>0 | 53=>181 | 55=>134 | 4=>4 | 46=>216 | 45=>215 | 50=>220 | 5=>5 | 9=>9 | 66=>226 | 70=>230 | 76=>235 | 77=>236 | n=>n,fun | n=>n⟩
theorem Tryz.sortGram:Go.Proofs.SlLaysF0.n6 Tryz.prog Tryz.sortGram_ren:={
 mixed:=by kernel_rfl
 f6:=⟨Tryz.f136.name,by decide,Tryz.func136.trans (congrArg some (by kernel_rfl))⟩
 f14:=⟨Tryz.f161.name,by decide,Tryz.func161.trans (congrArg some (by kernel_rfl))⟩
 f15:=Tryz.func162.trans (congrArg some (by kernel_rfl))
 f20:=⟨Tryz.f177.name,by decide,Tryz.func177.trans (congrArg some (by kernel_rfl))⟩
 f21:=⟨Tryz.f178.name,by decide,Tryz.func178.trans (congrArg some (by kernel_rfl))⟩
 f22:=⟨Tryz.f179.name,by decide,Tryz.func179.trans (congrArg some (by kernel_rfl))⟩
 f23:=⟨Tryz.f180.name,by decide,Tryz.func180.trans (congrArg some (by kernel_rfl))⟩
 f24:=⟨Tryz.f181.name,by decide,Tryz.func181.trans (congrArg some (by kernel_rfl))⟩
 f25:=⟨Tryz.f182.name,by decide,Tryz.func182.trans (congrArg some (by kernel_rfl))⟩
 f26:=⟨Tryz.f183.name,by decide,Tryz.func183.trans (congrArg some (by kernel_rfl))⟩
 f27:=⟨Tryz.f184.name,by decide,Tryz.func184.trans (congrArg some (by kernel_rfl))⟩
 f28:=Tryz.func185.trans (congrArg some (by kernel_rfl))
 f29:=Tryz.func186.trans (congrArg some (by kernel_rfl))
 f46:=⟨Tryz.f190.name,by decide,Tryz.func190.trans (congrArg some (by kernel_rfl))⟩
 f47:=Tryz.func191.trans (congrArg some (by kernel_rfl))
 f48:=Tryz.func192.trans (congrArg some (by kernel_rfl))
 f49:=⟨Tryz.f193.name,by decide,Tryz.func193.trans (congrArg some (by kernel_rfl))⟩
 f50:=⟨Tryz.f194.name,by decide,Tryz.func194.trans (congrArg some (by kernel_rfl))⟩
 f57:=⟨Tryz.f201.name,by decide,Tryz.func201.trans (congrArg some (by kernel_rfl))⟩
 t0:=Tryz.underlying0
 a0:=Tryz.isAgg0
 z0:=Tryz.sizeOf0
 v0:=Tryz.zeroValue0
 t3:=Tryz.underlying3
 a3:=Tryz.isAgg3
 z3:=Tryz.sizeOf3
 v3:=Tryz.zeroValue3
 t4:=Tryz.underlying4
 a4:=Tryz.isAgg4
 z4:=Tryz.sizeOf4
 v4:=Tryz.zeroValue4
 t5:=Tryz.underlying5
 a5:=Tryz.isAgg5
 z5:=Tryz.sizeOf5
 v5:=Tryz.zeroValue5
 t9:=Tryz.underlying9
 a9:=Tryz.isAgg9
 z9:=Tryz.sizeOf9
 v9:=Tryz.zeroValue9
 t22:=Tryz.underlying25
 a22:=Tryz.isAgg25
 z22:=Tryz.sizeOf25
 v22:=Tryz.zeroValue25
 t25:=Tryz.underlying167
 a25:=Tryz.isAgg167
 z25:=Tryz.sizeOf167
 v25:=Tryz.zeroValue167
 t39:=Tryz.underlying185
 a39:=Tryz.isAgg185
 z39:=Tryz.sizeOf185
 v39:=Tryz.zeroValue185
 t45:=Tryz.underlying215
 a45:=Tryz.isAgg215
 z45:=Tryz.sizeOf215
 v45:=Tryz.zeroValue215
 t46:=Tryz.underlying216
 a46:=Tryz.isAgg216
 z46:=Tryz.sizeOf216
 v46:=Tryz.zeroValue216
 t50:=Tryz.underlying220
 a50:=Tryz.isAgg220
 z50:=Tryz.sizeOf220
 v50:=Tryz.zeroValue220
 t53:=Tryz.underlying181
 a53:=Tryz.isAgg181
 z53:=Tryz.sizeOf181
 v53:=Tryz.zeroValue181
 t55:=Tryz.underlying134
 a55:=Tryz.isAgg134
 z55:=Tryz.sizeOf134
 v55:=Tryz.zeroValue134
 t66:=Tryz.underlying226
 a66:=Tryz.isAgg226
 z66:=Tryz.sizeOf226
 v66:=Tryz.zeroValue226
 t70:=Tryz.underlying230
 a70:=Tryz.isAgg230
 z70:=Tryz.sizeOf230
 v70:=Tryz.zeroValue230
 t76:=Tryz.underlying235
 a76:=Tryz.isAgg235
 z76:=Tryz.sizeOf235
 v76:=Tryz.zeroValue235
 t77:=Tryz.underlying236
 a77:=Tryz.isAgg236
 z77:=Tryz.sizeOf236
 v77:=Tryz.zeroValue236 }
end Go.Proofs
namespace Go.Proofs.YtjebfdfkjlkifaaGreat
open Go.RowKit
section
abbrev kf (w:World) (B g:Nat):Type:={ x:Value × Gr // IntsAt w x.1 x.2.1/\Off x.1 g/\From x.1 B }
def gQ {w:World} {B g:Nat} (x:kf w B g):List Value:=[x.1.1,.int .i64 x.1.2.2]
def cfG {w:World} {B g:Nat} (x y:kf w B g):Int:=bC x.1.2.1 y.1.2.1
theorem xj {w:World} {B g:Nat}:Go.Sort.SWO (ltOf (cfG (w:=w) (B:=B) (g:=g))) where
 irrefl x:=by simp [ltOf,cfG,iQ]
 trans x y z h1 h2:=by
  have h3:bC x.1.2.1 z.1.2.1 < 0:=gT (of_decide_eq_true h1) (of_decide_eq_true h2)
  exact dT h3
 ntrans x y z h1 h2:=by
  have h3:¬ bC x.1.2.1 z.1.2.1 < 0:=nE (of_decide_eq_false h1) (of_decide_eq_false h2)
  exact dF h3
theorem Sl.moved {w w':World} {sz:Nat} {v:Value} {n g:Nat} {xs:List Value} (h:Sl w sz v n xs)(ho:Off v g)(hs:w.heap.size <= w'.heap.size)(hc:∀ p:Addr,p.block < w.heap.size->p.block ≠ g->w'.cell? p = w.cell? p):Sl w' sz v n xs:=by
 obtain ⟨h0,A,c,rfl,h2,h3,h5⟩:=h
 refine ⟨h0,A,c,rfl,h2,h3,fun hn=>?_⟩
 obtain ⟨b,off,rfl,hlt,hcl⟩:=h5 hn
 exact ⟨b,off,rfl,Nat.lt_of_lt_of_le hlt hs,fun j u hu=>(hc ⟨b,off + j,none⟩ hlt (ho ⟨b,off,none⟩ _ _ rfl hn)).trans (hcl j u hu)⟩

open Go.Sort in
theorem dI {α:Type} [Inhabited α] (enc:α->List Value) (k:Nat) (w:World) (g off m:Nat) (d:Array α) (os:Array Obj):w.heap.size <= (sortWorldK enc k w g off m d os).heap.size:=by
 unfold sortWorldK putRowK putRow mapBlock
 simp [ahead]
open Go.Sort in
theorem eN {α:Type} [Inhabited α] (enc:α->List Value) (k:Nat) (w:World) (g off m:Nat) (d:Array α) (os:Array Obj) (p:Addr)(hp:p.block < w.heap.size)(hg:p.block ≠ g):(sortWorldK enc k w g off m d os).cell? p = w.cell? p:=by
 unfold sortWorldK
 rw [cell?_grow _ _ _ (by unfold putRowK putRow mapBlock; simpa [ahead] using hp),cell?_putRowK_other _ _ _ _ _ _ _ hg]
 rfl
theorem uW (w:World) (va vb:Value) (a b:List Int) (i j:Int)(ha:IntsAt w va a)(hb:IntsAt w vb b) :
  Calls Tryz.prog 137 #[.agg #[va,.int .i64 i],.agg #[vb,.int .i64 j]] w fun e w'=>e = .returned (.int .i64 (bC a b))/\∃ q os',w' = Go.Sort.grow (w.drewN q) os':=by
 obtain ⟨A,ca,rfl,_⟩:=ha.open_
 obtain ⟨B,cb,rfl,_⟩:=hb.open_
 have HA:=aH ha
 have HB:=aH hb
 obtain ⟨r,hr⟩:=nm (bC a b)
 have HR:=aH hr
 rw [hr]
 clear ha hb hr
 go_enter Tryz.func137,Tryz.ntmps137
 obtain ⟨W2,hW2⟩:∃ W2,W2 = (w.alloc (.cells #[.slice A a.length ca,.int .i64 i] 51)).alloc (.cells #[.slice B b.length cb,.int .i64 j] 51):=⟨_,rfl⟩
 have BB:Hd (Below w.heap.size w W2):=aH (by rw [hW2]; exact ((Below.refl _ w).alloc (nR _) _).alloc (by simp) _)
 have HW:Hd (∃ os',W2 = Go.Sort.grow (w.drewN 0) os'):=aH ⟨_,by rw [hW2,Go.Sort.alloc_eq_grow,Go.Sort.alloc_eq_grow,Go.Sort.grow_grow]; rfl⟩
 go_wp2_with fail
 rw [<- hW2]
 refine (xf W2 _ _ a b (HA.o.below BB.o) (HB.o.below BB.o)).mono ?_
 rintro e w3 ⟨rfl,rfl⟩
 rw [HR.o]
 clear hW2
 go_wp2_with fail
 go_ret
 obtain ⟨os',h⟩:=HW.o
 exact ⟨rfl,0,os',h⟩
theorem tN {w:World} {B g:Nat} [Inhabited (kf w B g)] (n:Nat):CmpLays Tryz.prog 137 #[] (gQ (w:=w) (B:=B) (g:=g)) 2 cfG g 0 n w:=by
 intro m os dk _ x y
 exact uW _ x.1.1 y.1.1 x.1.2.1 y.1.2.1 x.1.2.2 y.1.2.2 (Sl.moved x.2.1 x.2.2.1 (dI ..) (fun p h1 h2=>eN _ _ _ _ _ _ _ _ p h1 h2)) (Sl.moved y.2.1 y.2.2.1 (dI ..) (fun p h1 h2=>eN _ _ _ _ _ _ _ _ p h1 h2))

section
open Go.Sort
theorem th {w:World} {B g n c:Nat} {gs:List Gr} (h:GOwn B w (.slice (some ⟨g,0,none⟩) n c) gs)(hn:gs.length = n) :
  ∃ d:Array (kf w B g),d.size = n/\d.toList.map (fun x=>x.1.2) = gs/\∀ _:Inhabited (kf w B g),HoldsK gQ 2 w g 0 d:=by
 subst hn
 obtain ⟨cells,h1,h2⟩:=h
 have key:∀ i:Fin gs.length,∃ x:kf w B g,gs[i.1]? = some x.1.2/\cells[i.1 * 2]? = some x.1.1/\cells[i.1 * 2 + 1]? = some (.int .i64 x.1.2.2):=by
  intro i
  have hi:i.1 < gs.length:=i.2
  obtain ⟨c0,e0,e1,e2,e3,e4⟩:=h2 i.1 gs[i.1] (eG hi)
  exact ⟨⟨(c0,gs[i.1]),e2,e4 ⟨g,0,none⟩ _ _ rfl,e3⟩,eG hi,e0,e1⟩
 refine ⟨Array.ofFn fun i=>Classical.choose (key i),by simp,?_,fun _=>?_⟩
 ·apply List.ext_getElem?
  intro i
  rw [List.getElem?_map]
  by_cases hi:i < gs.length
  ·have:=(Classical.choose_spec (key ⟨i,hi⟩)).1
   rw [this]
   simp [hi]
  rw [nI.2 (by simp; omega),nI.2 (by omega)]
  rfl
 have hs:=Sl.of_own h1
 obtain ⟨_,A,c',e,_,_,h5⟩:=hs
 cases e
 intro j hj
 rw [size_flatK] at hj
 simp only [Array.size_ofFn] at hj
 have hi:j / 2 < gs.length:=by omega
 obtain ⟨b,off,e,hlt,hc⟩:=h5 (by omega)
 cases e
 rw [get_flatK _ _ _ _ (by simpa using hj),getElem!_pos _ (j / 2) (by simpa using hi),Array.getElem_ofFn]
 have hsp:=Classical.choose_spec (key ⟨j / 2,hi⟩)
 obtain ⟨_,s1,s2⟩:=hsp
 refine ⟨?_,jy h1 _⟩
 rcases Nat.mod_two_eq_zero_or_one j with hm | hm
 ·rw [hm]
  exact (congrArg (fun t=>w.cell? ⟨g,t,none⟩) (show 0 + j = 0 + j / 2 * 2 by omega)).trans (hc _ _ s1)
 rw [hm]
 exact (congrArg (fun t=>w.cell? ⟨g,t,none⟩) (show 0 + j = 0 + (j / 2 * 2 + 1) by omega)).trans (hc _ _ s2)
theorem kj (F cur:Array Value)(h:F.size <= cur.size):(putCells id 0 F cur).toList.take F.size = F.toList:=by
 apply List.ext_getElem?
 intro i
 by_cases hi:i < F.size
 ·rw [List.getElem?_take_of_lt hi]
  simp only [Array.getElem?_toList]
  unfold putCells
  rw [Array.getElem?_mapIdx,Array.getElem?_eq_getElem (by omega:i < cur.size),Array.getElem?_eq_getElem hi]
  simp [hi]
 rw [nI.2 (by simp; omega),nI.2 (by simpa using hi)]
theorem kn (F cur:Array Value):(putCells id 0 F cur).size = cur.size:=by simp [putCells]
theorem jP {α:Type} [Inhabited α] (enc:α->List Value) (d:Array α) (i r:Nat)(hi:i < d.size)(hr:r < 2)(h2:∀ x,(enc x).length = 2):(flatK enc 2 d).toList[i * 2 + r]? = some (enc d[i])[r]!:=by
 rw [Array.getElem?_toList,Array.getElem?_eq_getElem (by rw [size_flatK]; omega),<- getElem!_pos,get_flatK _ _ _ _ (by omega),show (i * 2 + r) / 2 = i by omega,show (i * 2 + r) % 2 = r by omega,getElem!_pos d i hi]
theorem rM {w:World} {B g n c m:Nat} {gs:List Gr} (h:GOwn B w (.slice (some ⟨g,0,none⟩) n c) gs)(hn:gs.length = n)(hB:B <= w.heap.size) [Inhabited (kf w B g)] (d:Array (kf w B g))(hd:d.size = n) (os:Array Obj) :
  GOwn B (sortWorldK gQ 2 w g 0 m d os) (.slice (some ⟨g,0,none⟩) n c) (d.toList.map (fun x=>x.1.2))/\Below B w (sortWorldK gQ 2 w g 0 m d os):=by
 subst hn
 obtain ⟨cells,⟨h0,⟨h1,_⟩ | ⟨g',cap,cur,hv,hg,hh,hnc,hcm,hsz,ht⟩⟩,h2⟩:=h
 ·cases h1
 cases hv
 have hgl:g < w.heap.size:=(Array.getElem?_eq_some_iff.1 hh).1
 have heap:∀ k,k < w.heap.size->(sortWorldK gQ 2 w g 0 m d os).heap[k]? = if k = g then some (.cells (putCells id 0 (flatK gQ 2 d) cur) 51 (0,0)) else w.heap[k]?:=by
  intro k hk
  unfold sortWorldK
  rw [heap_grow_old _ _ (by unfold putRowK putRow mapBlock; simpa [ahead] using hk)]
  unfold putRowK putRow mapBlock
  simp only [ahead,Array.getElem?_modify]
  by_cases he:k = g
  ·subst he
   rw [if_pos rfl,if_pos rfl,show (Sort.ahead w m).heap[k]? = w.heap[k]? from rfl,hh]
   rfl
  rw [if_neg (fun e=>he e.symm),if_neg he]
  rfl
 have hG:w.grownBy (sortWorldK gQ 2 w g 0 m d os) (some g):=⟨rfl,rfl,rfl,dI ..,fun k hk hne=>by rw [heap k hk,if_neg (fun e=>hne (by rw [e]))]⟩
 refine ⟨⟨(flatK gQ 2 d).toList,⟨by simp [hd],.inr ⟨g,c,_,by simp [hd],hg,by rw [heap g hgl,if_pos rfl],by simpa [hd] using hnc,hcm,by rw [kn]; exact hsz,?_⟩⟩,fun i y hy=>?_⟩,((Below.refl _ w).mono hB).grown hG hB (fun k e=>by cases e; exact hg)⟩
 ·have:=kj (flatK gQ 2 d) cur (by rw [size_flatK,hsz,hd]; exact Nat.mul_le_mul_right _ hnc)
  rw [size_flatK] at this
  simpa using this
 rw [List.getElem?_map] at hy
 obtain ⟨x,hx,rfl⟩:∃ x,d.toList[i]? = some x/\x.1.2 = y:=by
  cases he:d.toList[i]? with
  | none=>rw [he] at hy; cases hy
  | some x=>rw [he] at hy; exact ⟨x,rfl,Option.some.inj hy⟩
 rw [Array.getElem?_toList] at hx
 obtain ⟨hi,rfl⟩:=Array.getElem?_eq_some_iff.1 hx
 have e0:=jP gQ d i 0 hi (by omega) (fun _=>rfl)
 have e1:=jP gQ d i 1 hi (by omega) (fun _=>rfl)
 refine ⟨d[i].1.1,e0,e1,Sl.moved d[i].2.1 d[i].2.2.1 (dI ..) (fun p q1 q2=>eN _ _ _ _ _ _ _ _ p q1 q2),d[i].2.2.2,fun ad m' c' e=>?_⟩
 cases e
 exact d[i].2.2.1

theorem um {f:FuncId} {fv:Value} (hnone:∀ (p:Option Addr) (cap:Nat) (W:World),Calls Tryz.prog f #[.slice p 0 cap,fv] W fun e w'=>e = .returned (.tuple #[])/\w' = W)
  (hsome:∀ (W:World) (B g c:Nat) (_:Inhabited (kf W B g)) (d:Array (kf W B g)),HoldsK gQ 2 W g 0 d->g < W.heap.size->d.size < 4611686018427387904->Calls Tryz.prog f #[.slice (some ⟨g,0,none⟩) d.size c,fv] W fun e w'=>e = .returned (.tuple #[])/\∃ d' n os,PermIn 0 d.size d d'/\SortedIn (ltOf cfG) 0 d.size d'/\w' = sortWorldK gQ 2 W g 0 n d' os) :
  ∀ W B A n c gs,GOwn B W (.slice A n c) gs->gs.length = n->n <= 20000->B <= W.heap.size->Calls Tryz.prog f #[.slice A n c,fv] W fun e w'=>e = .returned (.tuple #[])/\∃ gs':List Gr,gs'.Perm gs/\dQ gs'/\GOwn B w' (.slice A n c) gs'/\Below B W w':=by
 intro W B A n c gs h hn h20 hB
 cases n with
 | zero =>
  refine (hnone A c W).mono ?_
  rintro e w' ⟨rfl,rfl⟩
  obtain rfl:gs = []:=List.eq_nil_of_length_eq_zero hn
  exact ⟨rfl,[],List.Perm.refl _,List.Pairwise.nil,h,(Below.refl _ _).mono hB⟩
 | succ k =>
  obtain ⟨cells,hc1,_⟩:=id h
  rw [hn] at hc1
  obtain ⟨g,cap,e⟩:=g9 hc1 (by omega)
  cases e
  have hgl:g < W.heap.size:=fB h rfl
  obtain ⟨d,hd,hm,hH⟩:=th h hn
  have inst:Inhabited (kf W B g):=⟨d[0]'(by omega)⟩
  have hS:=hsome W B g c inst d (hH inst) hgl (by omega)
  rw [hd] at hS
  refine hS.mono ?_
  rintro e w' ⟨rfl,d',n',os,hp,hs,rfl⟩
  have hb:=rM (m:=n') h hn hB d' (hp.1.trans hd) os
  refine ⟨rfl,d'.toList.map (fun x=>x.1.2),?_,?_,hb.1,hb.2⟩
  ·rw [<- hm]
   refine List.Perm.map _ ?_
   have h1:=hp.2.2
   rw [<- hd] at h1
   have e1:d.extract 0 d.size = d:=by simp
   have e2:d'.extract 0 d.size = d':=by rw [<- hp.1]; simp
   rw [e1,e2] at h1
   exact h1
  unfold dQ
  rw [List.pairwise_iff_getElem]
  intro i j hi hj hij
  simp only [List.length_map,Array.length_toList] at hi hj
  have h1:=hs i j (Nat.zero_le _) hij (by rw [<- hd,<- hp.1]; exact hj)
  rw [getElem!_pos d' i hi,getElem!_pos d' j hj] at h1
  have h2:¬ bC d'[j].1.2.1 d'[i].1.2.1 < 0:=of_decide_eq_false h1
  simpa using h2
end
end
section
open Go.RowKit Go.Sort

theorem wy:∀ W B A n c gs,GOwn B W (.slice A n c) gs->gs.length = n->n <= 20000->B <= W.heap.size->Calls Tryz.prog 136 #[.slice A n c,.func (.func 137) #[] #[]] W fun e w'=>e = .returned (.tuple #[])/\∃ gs':List Gr,gs'.Perm gs/\dQ gs'/\GOwn B w' (.slice A n c) gs'/\Below B W w' :=
 um (fun p cap W=>AnyF.slices_SortFunc_none Tryz.sortGram p cap _ W)
  (fun W B g c _ d hH hg hsz=>AnyQ.slices_SortFunc Tryz.sortGram 2 Tryz.isAgg51 Tryz.sizeOf51 gQ (fun _=>rfl) (fun x v hv=>by
   simp only [gQ,List.mem_cons,List.not_mem_nil,or_false] at hv
   rcases hv with rfl | rfl
   ·exact x.2.1.oneCell
   rfl) cfG xj 137 #[] g 0 c d W (fun args w=>by kernel_rfl) (tN _) hH hg hsz)
end
end Go.Proofs.YtjebfdfkjlkifaaGreat
