/- Lemmas on the way: Ev19, Ev20. -/
import Derived.Test.YtkdhppimhdemjaaGreatU14
import Derived.OrdersIn
import Derived.Scope
set_option linter.all false
set_option maxRecDepth 1000000
set_option maxHeartbeats 32000000
namespace Go.Proofs.YtkdhppimhdemjaaGreat
open Go.RowKit
section
def Ae (listed:Array Bool):Nat->Nat
 | 0=>0
 | k + 1=>Ae listed k + (if listed.getD k false = true then 0 else 1)
theorem Ed {l l':Array Bool} (h:∀ j,Ld l j->Ld l' j):∀ k,Ae l' k <= Ae l k
 | 0=>Nat.le_refl _
 | k + 1=>by
  have:=Ed h k
  unfold Ae
  by_cases e:l.getD k false = true
  ·have e':l'.getD k false = true:=h k e
   rw [if_pos e,if_pos e']; omega
  rw [if_neg e]; split <;> omega
theorem Ec {l l':Array Bool} (h:∀ j,Ld l j->Ld l' j) {i:Nat} (h1:¬ Ld l i)(h2:Ld l' i):∀ k,i < k->Ae l' k + 1 <= Ae l k
 | 0,hk=>by omega
 | k + 1,hk=>by
  unfold Ae
  by_cases e:i = k
  ·subst e
   have h1':¬ (l.getD i false = true):=h1
   have h2':l'.getD i false = true:=h2
   have:=Ed h i
   rw [if_pos h2',if_neg h1']
   omega
  have:=Ec h h1 h2 k (by omega)
  by_cases e2:l.getD k false = true
  ·have e':l'.getD k false = true:=h k e2
   rw [if_pos e2,if_pos e']; omega
  rw [if_neg e2]; split <;> omega
theorem vN {l:Array Bool}:∀ {k:Nat},Ae l k = 0->∀ j,j < k->Ld l j
 | 0,_,j,hj=>by omega
 | k + 1,h,j,hj=>by
  unfold Ae at h
  by_cases e:j = k
  ·subst e
   by_cases e2:l.getD j false = true
   ·exact e2
   rw [if_neg e2] at h; omega
  exact vN (k:=k) (by omega) j (by omega)
theorem vO {l:Array Bool}:∀ (k:Nat),Ae l k <= k
 | 0=>Nat.le_refl _
 | k + 1=>by have:=vO (l:=l) k; unfold Ae; split <;> omega

section
variable {P:Program} {X:dY} {E:Ev} {nt:Nat} {ops:Array Oper} {V:Nat->Option AV} {TT:Nat->Tr AV} {SS:Nat->St} {M:Tr Nat}

theorem qq {L:List Oper} (R:dQ P X E nt L L V TT SS) {e:Nat}:∀ {f:Nat},e <= f->f <= L.length->(∀ p o,e <= p->p < f->L[p]? = some o->bJ o = false)->OV L V TT SS e = OV L V TT SS f:=by
 intro f hef
 induction f with
 | zero=>intro _ _; rw [show e = 0 by omega]
 | succ f ih =>
  intro hf hno
  rcases Nat.lt_or_ge f e with h | h
  ·rw [show e = f + 1 by omega]
  rw [ih h (by omega) fun p o h1 h2 h3=>hno p o h1 (by omega) h3]
  have ho:L[f]? = some L[f]:=List.getElem?_eq_getElem (by omega)
  exact BR R ho (.inl (hno f _ h (by omega) ho))
theorem AX (L:List Oper):∀ (k e:Nat),e + k = L.length->∃ q,e <= q/\q <= L.length/\(q = L.length ∨ ∃ o,L[q]? = some o/\bJ o = true)/\∀ p o,e <= p->p < q->L[p]? = some o->bJ o = false
 | 0,e,h=>⟨e,Nat.le_refl _,by omega,.inl (by omega),fun p o h1 h2 _=>by omega⟩
 | k + 1,e,h=>by
  have ho:L[e]? = some L[e]:=List.getElem?_eq_getElem (by omega)
  cases hb:bJ L[e] with
  | true=>exact ⟨e,Nat.le_refl _,by omega,.inr ⟨_,ho,hb⟩,fun p o h1 h2 _=>by omega⟩
  | false =>
   obtain ⟨q,h1,h2,h3,h4⟩:=AX L k (e + 1) (by omega)
   refine ⟨q,by omega,h2,h3,fun p o g1 g2 g3=>?_⟩
   by_cases hpe:p = e
   ·subst hpe; rw [ho] at g3; cases g3; exact hb
   exact h4 p o (by omega) g2 g3
theorem vL {all:List Oper} {T T':Tr AV} {o:Oper} (h:∀ t ∈ kq all o,T.get t = T'.get t):fu all T o = fu all T' o:=by
 unfold fu
 cases hg:o.guard with
 | none=>rfl
 | some g =>
  obtain ⟨j,want⟩:=g
  simp only
  cases hd:(all[j]?).bind (·.dst) with
  | none=>rfl
  | some t =>
   simp only
   rw [h t (by unfold kq; rw [hg]; simp [hd])]
theorem oo {all:List Oper} {T:Tr AV} {o:Oper}:∀ x ∈ o.op.operands,fZ (m5 T (kq all o)) x = fZ T x:=by
 intro x hx
 cases x with
 | tmp t =>
  simp only [fZ]
  rw [kS,if_pos]
  unfold kq
  refine List.mem_append_left _ (List.mem_filterMap.2 ⟨.tmp t,by simpa using hx,rfl⟩)
 | _=>rfl

theorem LU (hl:laidOutB P = true) (S:cX P E)(hM:mI P X) (R:dQ P X E nt ops.toList ops.toList V TT SS)(hS:GM ops.toList M)(hfloat:dS P M (cL M (SS ops.toList.length) 0 ops.toList 0 (dQ.shape ops.toList V TT SS)) ops.toList 0 (dQ.shape ops.toList V TT SS) = true)
  {μ0:Mu} {w0:World} {ds:List Deferred} (hW:∀ i,i <= ops.toList.length->Wf (SS i)) (hfresh:fD μ0 (SS 0) (SS ops.toList.length)) {ro:Option Nat} {n:Nat} {Q:Exit->Act->World->Prop}
  (hQ:∀ μ' w' a',bA μ' (SS ops.toList.length) w'->dJ μ0 (SS 0) w0 μ' (SS ops.toList.length) w'->TR μ' nt (TT ops.toList.length) a'.tmps->a'.defers = ds->Q .normal a' w') :
  ∀ (fuel:Nat) (listed:Array Bool) (a:Act) (w:World) (μ:Mu) (e:Nat),listed.size = ops.toList.length->JW M ops.toList V TT SS nt μ0 w0 ds listed a w μ e->Ae listed ops.toList.length <= fuel->wpAnyIn (Fw ro) n P .any ops Q fuel listed a w:=by
 generalize hL:ops.toList = L at *
 have hops:∀ i:Nat,ops[i]? = L[i]?:=fun i=>by rw [<- hL]; simp
 have grow:∀ {i j:Nat},i <= j->j <= L.length->(SS i).nx <= (SS j).nx:=fun h1 h2=>(R.grows_to S h1 h2).1
 have apart:∀ {i j x:Nat},i < L.length->j < L.length->(SS i).nx <= x->x < (SS (i + 1)).nx->(SS j).nx <= x->x < (SS (j + 1)).nx->j = i:=by
  intro i j x hi hj h1 h2 h3 h4
  rcases Nat.lt_trichotomy i j with h | h | h
  ·have:=grow (show i + 1 <= j by omega) (by omega); omega
  ·exact h.symm
  have:=grow (show j + 1 <= i by omega) (by omega); omega
 have mk:∀ {i:Nat},dE L V i->i < L.length/\(SS (i + 1)).nx = (SS i).nx + 1:=fun hm=>by
  obtain ⟨o1,ob,ff,hoj,_,_,hnew,_⟩:=R.makes hm
  exact ⟨(List.getElem?_eq_some_iff.1 hoj).1,by rw [hnew]; rfl⟩
 -- all are listed: the end
 have fin:∀ (listed:Array Bool) (a:Act) (w:World) (μ:Mu) (e:Nat),JW M L V TT SS nt μ0 w0 ds listed a w μ e->(∀ j,j < L.length->Ld listed j)->Q .normal a w:=by
  intro listed a w μ e I hall
  have hov:OV L V TT SS e = (SS L.length).h:=by
   rw [qq R I.he (Nat.le_refl _) fun p o h1 h2 h3=>?_,zE]
   cases hb:bJ o with
   | false=>rfl
   | true=>exact absurd (hall p h2) (I.hi p o h1 h3 hb)
  have hsp:SP L V TT SS e = SS L.length:=by unfold SP; rw [hov]
  refine hQ μ w a (by rw [<- hsp]; exact I.rel) (by rw [<- hsp]; exact I.stp) ⟨I.size,fun t x hx=>?_⟩ I.defers
  by_cases hw:∃ (j:Nat) (oj:Oper),L[j]? = some oj/\oj.dst = some t
  ·obtain ⟨j,oj,hj,hd⟩:=hw
   have hjl:=(List.getElem?_eq_some_iff.1 hj).1
   rw [(R.T_new hS hj hd hjl (Nat.le_refl _)).1] at hx
   cases hx
   exact I.vals j oj t hj (hall j hjl) hd
  rw [R.T_old (Nat.le_refl _) (fun j' o' _ ho' hd'=>hw ⟨j',o',ho',hd'⟩)] at hx
  exact I.old t x hx fun j' o' ho' _ hd'=>hw ⟨j',o',ho',hd'⟩
 intro fuel
 induction fuel with
 | zero =>
  intro listed a w μ e hsz I hu
  have hall:=vN (show Ae listed L.length = 0 by omega)
  refine ⟨?_,fin listed a w μ e I hall⟩
  cases hr:Region.ready .any ops listed with
  | nil=>rfl
  | cons x xs =>
   have hx:x ∈ Region.ready .any ops listed:=by rw [hr]; simp
   obtain ⟨h1,o,ho,_⟩:=mem_ready.1 hx
   rw [hops] at ho
   have hxl:=(List.getElem?_eq_some_iff.1 ho).1
   exact absurd (hall x hxl) ((jk (by omega)).1 h1)
 | succ fuel ih =>
  intro listed a w μ e hsz I hu
  refine ⟨fun hr=>fin listed a w μ e I ?_,fun i hi=>?_⟩
  ·intro j
   induction j using Nat.strongRecOn with
   | _ j ihj =>
    intro hjl
    by_cases hj:Ld listed j
    ·exact hj
    exfalso
    have hoj:L[j]? = some L[j]:=List.getElem?_eq_getElem hjl
    have:j ∈ Region.ready .any ops listed:=mem_ready.2 ⟨(jk (by omega)).2 hj,L[j],by rw [hops]; exact hoj,fun ed hed hb=>ihj ed.on (hS.bits.lt j _ hoj ed hed hb) (by have:=hS.bits.lt j _ hoj ed hed hb; omega)⟩
    rw [hr] at this
    cases this
  obtain ⟨hun0,o,ho0,hpre⟩:=mem_ready.1 hi
  have ho:L[i]? = some o:=by rw [<- hops]; exact ho0
  have hil:=(List.getElem?_eq_some_iff.1 ho).1
  have hun:=(jk (show i < listed.size by omega)).1 hun0
  have hmask:∀ k,MB M i k->Ld listed k:=by
   intro k hk
   obtain ⟨ed,hed,hb,h⟩:=(hS.bits.iff_ i o ho k).1 hk
   have hon:Ld listed ed.on:=hpre ed hed hb
   rcases h with rfl | h
   ·exact hon
   exact I.down ed.on k hon (by have:=hS.bits.lt i o ho ed hed hb; omega) h
  have hT:=I.look R hS ho hun hmask
  have hu':Ae (listed.setIfInBounds i true) L.length <= fuel:=by
   have:=Ec (l:=listed) (l':=listed.setIfInBounds i true) (fun j hj=>(Ld.set_iff (by omega)).2 (.inr hj)) hun ((Ld.set_iff (by omega)).2 (.inl rfl)) L.length hil
   omega
  have hsz':(listed.setIfInBounds i true).size = L.length:=by simp [hsz]
  have go:∀ {a':Act} {w':World} {μ':Mu} {e':Nat},JW M L V TT SS nt μ0 w0 ds (listed.setIfInBounds i true) a' w' μ' e'->wpAnyIn (Fw ro) n P .any ops Q fuel (listed.setIfInBounds i true) a' w':=fun I'=>ih _ _ _ _ _ hsz' I' hu'
  -- an act that comes now is the first that is not listed
  have first:bJ o = true->e <= i/\(∀ p op,e <= p->p < i->L[p]? = some op->bJ op = false):=by
   intro hef
   refine ⟨?_,fun p op h1 h2 h3=>?_⟩
   ·rcases Nat.lt_or_ge i e with h | h
    ·exact absurd (I.lo i o h ho hef) hun
    exact h
   cases hb:bJ op with
   | false=>rfl
   | true=>exact absurd (hmask p (hS.chain p i op o h3 ho hb hef h2)) (I.hi p op h1 h3 hb)
  have efrange:bJ o = true->(∀ p op,p < i + 1->L[p]? = some op->bJ op = true->p = i ∨ Ld listed p)/\(∀ p op,i + 1 <= p->L[p]? = some op->bJ op = true->p ≠ i/\¬ Ld listed p):=by
   intro hef
   obtain ⟨f1,f2⟩:=first hef
   refine ⟨fun p op h1 h2 h3=>?_,fun p op h1 h2 h3=>⟨by omega,I.hi p op (by omega) h2 h3⟩⟩
   by_cases hp:p = i
   ·exact .inl hp
   rcases Nat.lt_or_ge p e with h | h
   ·exact .inr (I.lo p op h h2 h3)
   have:=f2 p op h (by omega) h2
   rw [h3] at this
   cases this
  have nonef:bJ o = false->(∀ p op,p < e->L[p]? = some op->bJ op = true->p = i ∨ Ld listed p)/\(∀ p op,e <= p->L[p]? = some op->bJ op = true->p ≠ i/\¬ Ld listed p):=by
   intro hef
   refine ⟨fun p op h1 h2 h3=>.inr (I.lo p op h1 h2 h3),fun p op h1 h2 h3=>⟨fun hp=>?_,I.hi p op h1 h2 h3⟩⟩
   subst hp
   rw [ho] at h2
   cases h2
   rw [hef] at h3
   cases h3
  unfold wpOpIn
  rw [ho0]
  simp only
  have hwant:∀ b,fu L (TT i) o = some b->Region.wanted o (yielded ops a.tmps) = b:=fun b hb=>by
   have e1:fu L (m5 (TT i) (kq L o)) o = some b:=by
    rw [<- hb]
    exact vL fun t ht=>by rw [kS,if_pos ht]
   rw [<- hL] at e1 hT
   exact uB hT e1
  rcases R.step i o ho with ⟨v,hv,hw,hop,hput⟩ | ⟨hv,hw,hs,hput⟩
  ·-- it is wanted
   rw [if_pos (hwant true hw)]
   have hxv:xv V i = v:=by unfold xv; rw [hv]; rfl
   have hop':f5 P X E (fZ (m5 (TT i) (kq L o))) (SS i) o.op = some (v,SS (i + 1)):=by rw [sW oo]; exact hop
   cases hk:bu o.op with
   | rd =>
    have hef:bJ o = false:=by unfold bJ; rw [hk]
    have hrd:dL P (fZ (TT i)) (SP L V TT SS e) o.op = some v:=by
     have hrd0:dL P (fZ (TT i)) (SS i) o.op = some v:=by
      unfold f5 at hop
      rw [hk] at hop
      simp only [Option.map_eq_some_iff,Prod.mk.injEq] at hop
      obtain ⟨v',h1,rfl,_⟩:=hop
      exact h1
     cases hlk:bE o.op with
     | false=>rw [Hz (s':=SS i) hlk]; exact hrd0
     | true =>
      obtain ⟨m,hm,hall⟩:=rt (L:=L) (V:=V) (TT:=TT) (SS:=SS) (M:=M) L.length 0 (by omega) (by simpa using hfloat) i o v (Nat.zero_le _) ho hv (by rw [hk]; trivial) hlk
      obtain ⟨q,q1,q2,q3,q4⟩:=AX L (L.length - e) e (by have:=I.he; omega)
      obtain ⟨p,p1,p2⟩:=kB (L:=L) (V:=V) (TT:=TT) (SS:=SS) M L.length 0 0 (by omega) q (Nat.zero_le _) q2 q3
      have hst:(⟨if q = L.length then (SS L.length).h else OV L V TT SS q,(SS L.length).nx⟩:St) = SP L V TT SS e:=by
       unfold SP
       rw [qq R q1 q2 q4]
       split
       ·next h=>rw [h,zE]
       rfl
      rw [hst] at p1
      rcases hall _ (by simpa using p1) with h | h | h
      ·exfalso
       rcases p2 with rfl | ⟨j,oj,_,h2,h3,h4,rfl⟩
       ·simp at h
       have hje:j < e:=by
        rcases Nat.lt_or_ge j e with h5 | h5
        ·exact h5
        have:=q4 j oj h5 h2 h3; rw [h4] at this; cases this
       have hjl:=(List.getElem?_eq_some_iff.1 h3).1
       cases hmj:M.get j with
       | none=>rw [hmj] at h; simp at h
       | some mj =>
        rw [hmj] at h
        exact hun (I.down j i (I.lo j oj hje h3 h4) hjl ⟨mj,hmj,h⟩)
      ·exfalso
       have hq:Ld listed q:=hmask q ⟨m,hm,h⟩
       rcases q3 with h3 | ⟨oq,h3,h4⟩
       ·have:=hS.bits.below i ⟨o,ho⟩ q ⟨m,hm,h⟩; omega
       exact I.hi q oq q1 h3 h4 hq
      exact h
    have hopA:f5 P X E (fZ (m5 (TT i) (kq L o))) (SP L V TT SS e) o.op = some (v,SP L V TT SS e):=by
     rw [sW oo]
     unfold f5
     rw [hk]
     simp [hrd]
    refine EW hl S hM I.rel hT hopA (fun o1 h1 h2=>by omega) ?_
    intro μ' w' v' r1 t1 hv'
    obtain ⟨n1,n2⟩:=nonef hef
    exact go (I.after R hS hsz ho hun hmask t1.sub (by rw [hxv]; exact hv') I.he n1 n2 r1 (I.stp.trans t1) (fun o1 h1 h2=>by have:=t1.dom o1 h1 h2; omega) (fun k h1 _ h3=>I.pend k h1 h3))
   | al =>
    have hef:bJ o = false:=by unfold bJ; rw [hk]
    have hmk:dE L V i:=⟨o,v,ho,hv,by rw [hk]; trivial⟩
    obtain ⟨o1,ob,f,ho1,hal,hvf,hnew,_⟩:=R.makes hmk
    rw [ho] at ho1
    cases ho1
    have hal':oT P (fZ (m5 (TT i) (kq L o))) o.op = some (ob,f):=by rw [uq oo]; exact hal
    obtain ⟨O,tot,v',h1,h2,h3⟩:=GK (ko hT) o hal' w
    have hrange:(SS 0).nx <= (SS i).nx/\(SS i).nx < (SS L.length).nx:=by
     have g1:=grow (Nat.zero_le i) (by omega)
     have g2:=grow (show i + 1 <= L.length by omega) (Nat.le_refl _)
     have g3:=(mk hmk).2
     omega
    have hnone:μ (SS i).nx = none:=by
     cases hmu:μ (SS i).nx with
     | none=>rfl
     | some lc =>
      exfalso
      obtain ⟨j,g1,g2,g3,g4⟩:=I.dom (SS i).nx (hfresh _ hrange.1 hrange.2) (by rw [hmu]; simp)
      have:=apart (i:=i) (j:=j) hil g2 (Nat.le_refl _) (by rw [(mk hmk).2]; omega) g3 g4
      subst this
      exact hun g1
    obtain ⟨k1,k2⟩:=h3 (μ.with (SS i).nx (.at_ ⟨w.heap.size,0,tot⟩)) (SS i).nx (Mu.sub_with _ hnone) (Mu.with_same _ _ _)
    have hpend:(SP L V TT SS e).h.get (SS i).nx = some ob:=by
     show (OV L V TT SS e).get (SS i).nx = some ob
     rw [I.pend i hmk hun,hnew]
     exact Tr.get_set_same _ _ _
    have hb:=I.rel.born hnone hpend O ⟨w.heap.size,0,tot⟩ rfl h2 (k2 _ (fc w O))
    have hst:dJ μ0 (SS 0) w0 (μ.with (SS i).nx (.at_ ⟨w.heap.size,0,tot⟩)) (SP L V TT SS e) (w.alloc O):=by
     have t:=I.stp
     refine ⟨t.sub.trans (Mu.sub_with _ hnone),fun o1 g1 g2=>?_,t.nx,t.os,t.tape,t.output,Nat.le_trans t.size (by simp),fun g g1 g2=>?_,fun o1 x1 p1 g1 g2=>?_,t.keep,t.fz⟩
     ·by_cases h:o1 = (SS i).nx
      ·subst h; exact hrange
      rw [Mu.with_ne _ _ h] at g2; exact t.dom o1 g1 g2
     ·exact (Below.heap_alloc w O g (Nat.lt_of_lt_of_le g1 t.size)).trans (t.blk g g1 g2)
     by_cases h:o1 = (SS i).nx
     ·subst h; rw [Mu.with_same] at g2; cases g2; exact .inl t.size
     rw [Mu.with_ne _ _ h] at g2; exact t.own o1 x1 p1 g1 g2
    obtain ⟨n1,n2⟩:=nonef hef
    have hnd:∀ c,o.op ≠ .defer c:=fun c ec=>by rw [ec] at hk; cases hk
    refine ⟨fun _ _=>trivial,?_⟩
    rw [Oper.semAt_eq _ _ _ hnd,h1]
    refine go (I.after R hS hsz ho hun hmask (Mu.sub_with _ hnone) (by
     have:xv V i = f (SS i).nx:=by unfold xv; rw [hvf]; rfl
     rw [this]; exact k1) I.he n1 n2 hb hst (fun o1 g1 g2=>?_) (fun k h1 _ h3=>I.pend k h1 h3))
    by_cases h:o1 = (SS i).nx
    ·subst h; rw [(mk hmk).2]; omega
    rw [Mu.with_ne _ _ h] at g2; exact absurd g1 g2
   | ef =>
    have hef:bJ o = true:=by unfold bJ; rw [hk]
    obtain ⟨f1,f2⟩:=first hef
    obtain ⟨n1,n2⟩:=efrange hef
    have hov:OV L V TT SS e = OV L V TT SS i:=qq R f1 (by omega) f2
    have inOV:∀ {o1:Nat} {x1:AO},(SS i).h.get o1 = some x1->(OV L V TT SS i).get o1 = some x1/\o1 < (SS i).nx:=by
     intro o1 x1 h1
     have hlt:o1 < (SS i).nx:=by
      rcases Nat.lt_or_ge o1 (SS i).nx with h | h
      ·exact h
      rw [hW i (by omega) o1 h] at h1; cases h1
     refine ⟨?_,hlt⟩
     rw [f7 R S (by omega) (fun j g1 g2 g3=>by have:=grow g1 (by have:=(mk g2).1; omega); omega)]
     exact h1
    have hrelS:bA μ (SS i) w:=by
     have h:=I.rel
     unfold SP at h
     rw [hov] at h
     exact h.less (SS i).h (SS i).nx (fun o1 x1 h1=>(inOV h1).1) (fun o1 h1=>hW i (by omega) o1 h1)
    have hnonew:∀ o1,(SS i).nx <= o1->o1 < (SS (i + 1)).nx->μ o1 = none:=by
     intro o1 g1 g2
     cases hmu:μ o1 with
     | none=>rfl
     | some lc =>
      exfalso
      have a1:=grow (Nat.zero_le i) (by omega)
      have a2:=grow (show i + 1 <= L.length by omega) (Nat.le_refl _)
      obtain ⟨j,b1,b2,b3,b4⟩:=I.dom o1 (hfresh o1 (by omega) (by omega)) (by rw [hmu]; simp)
      have:=apart hil b2 g1 g2 b3 b4
      subst this
      exact hun b1
    refine EW hl S hM hrelS hT hop' hnonew ?_
    intro μ' w' v' r1 t1 hv'
    have hstpI:=I.stp
    have hrelI:=I.rel
    have hpendI:=I.pend
    unfold SP at hstpI hrelI
    rw [hov] at hstpI hrelI hpendI
    -- what was made early lies apart
    have early:∀ j,i + 1 <= j->dE L V j->μ' (SS j).nx ≠ none->∃ ob p,(SS (j + 1)).h.get (SS j).nx = some ob/\μ (SS j).nx = some (.at_ p)/\μ' (SS j).nx = some (.at_ p)/\OR μ w (SS j).nx ob/\(∀ n,ob ≠ .nat n)/\p.blk < w.heap.size /\
      (∀ o1 x1 p1,(SS i).h.get o1 = some x1->μ o1 = some (.at_ p1)->p1.blk ≠ p.blk)/\(OV L V TT SS i).get (SS j).nx = some ob:=by
     intro j g1 g2 g3
     have hnxj:=grow g1 (by have:=(mk g2).1; omega)
     have hmu:μ (SS j).nx ≠ none:=fun h=>by have:=t1.dom _ h g3; omega
     obtain ⟨oj,ob,ff,hoj,halj,hvj,hnewj,_⟩:=R.makes g2
     have hget:(SS (j + 1)).h.get (SS j).nx = some ob:=by rw [hnewj]; exact Tr.get_set_same _ _ _
     have hovj:(OV L V TT SS i).get (SS j).nx = some ob:=by rw [rV R S (by omega) (by omega) g2]; exact hget
     have hor:=hrelI.obj _ _ hovj hmu
     have hnn:∀ n,ob ≠ .nat n:=by
      intro n en
      subst en
      have:∀ (ρ:Operand->Option AV) (op:Op) (f:Nat->AV),oT P ρ op ≠ some (.nat n,f):=by
       intro ρ op f hh
       cases op <;> simp only [oT] at hh
       case alloc=>simp only [Option.bind_eq_some_iff] at hh; obtain ⟨_,_,h⟩:=hh; obtain ⟨_,h⟩:=aj h; cases h
       case box=>simp only [Option.bind_eq_some_iff] at hh; obtain ⟨_,_,h⟩:=hh; obtain ⟨_,h⟩:=aj h; cases h
       case buildSlice =>
        split at hh
        ·split at hh
         ·obtain ⟨_,h⟩:=aj hh
          simp only [Option.bind_eq_some_iff] at h
          obtain ⟨_,_,h⟩:=h
          obtain ⟨_,h⟩:=aj h
          cases h
         cases hh
        cases hh
       case makeMap t r =>
        cases r with
        | none=>simp at hh
        | some y=>simp only at hh; split at hh <;> cases hh
       case makeSlice =>
        split at hh
        ·split at hh
         ·obtain ⟨_,h⟩:=aj hh; cases h
         cases hh
        cases hh
       all_goals cases hh
      exact this _ _ _ halj
     cases hlc:μ (SS j).nx with
     | none=>exact absurd hlc hmu
     | some lc =>
      cases lc with
      | val A m c=>obtain ⟨nn,rfl⟩:=hor.val hlc; exact absurd rfl (hnn nn)
      | at_ p =>
       obtain ⟨bb,hbb⟩:=hor.at_ hlc
       refine ⟨ob,p,hget,rfl,t1.sub _ _ hlc,hor,hnn,(Array.getElem?_eq_some_iff.1 hbb).1,fun o1 x1 p1 k1 k2 k3=>?_,hovj⟩
       have:=hrelI.inj o1 (SS j).nx x1 ob p1 p (inOV k1).1 hovj k2 hlc k3
       have:=(inOV k1).2
       have:=grow (show i <= i + 1 by omega) (by omega)
       omega
    have hrel':bA μ' (SP L V TT SS (i + 1)) w':=by
     refine AA R S (by omega) (hW (i + 1) (by omega)) r1 (fun j g1 g2 g3=>?_) (fun j j' p p' g1 g1' g2 g2' m1 m2 hb=>?_)
     ·obtain ⟨ob,p,e1,e2,e3,e4,e5,e6,e7,e8⟩:=early j g1 g2 g3
      refine ⟨ob,p,e1,e3,?_,e5,fun o1 x1 p1 k1 k2 k3=>?_,fun o1 n1 A m c k1 k2=>?_,fun b1 i1 v1 k1 k2=>?_⟩
      ·refine e4.keep t1.sub t1.size (fun q hq=>?_) (fun A m c hq=>?_)
       ·rw [e2] at hq; cases hq
        exact t1.blk _ e6 fun o1 x1 p1 k1 k2=>e7 o1 x1 p1 k1 k2
       rw [e2] at hq; cases hq
      ·rcases t1.own o1 x1 p1 k1 k2 with h | ⟨o2,x2,p2,h1,h2,h3⟩
       ·omega
       exact e7 o2 x2 p2 h1 h2 (h3.trans k3)
      ·refine AY (r1.obj o1 _ k1 (by rw [k2]; simp)) k2 (e4.keep t1.sub t1.size (fun q hq=>?_) (fun A m c hq=>?_)) e3 e5
       ·rw [e2] at hq; cases hq
        exact t1.blk _ e6 fun o1 x1 p1 k1 k2=>e7 o1 x1 p1 k1 k2
       rw [e2] at hq; cases hq
      rcases t1.fz b1 i1 v1 k1 with h | h | ⟨o2,x2,p2,h1,h2,h3⟩ | h
      ·exact (hrelI.fz b1 i1 v1 h).2.2 _ _ p e8 e2 k2
      ·omega
      ·exact e7 o2 x2 p2 h1 h2 (h3.trans k2.symm)
      refine OR.nodig (e4.keep t1.sub t1.size (fun q hq=>?_) (fun A m c hq=>?_)) e3 ⟨i1,v1,by rw [k2]; exact d8 (r1.fz b1 i1 v1 k1).2.1 (lj h),h⟩
      ·rw [e2] at hq; cases hq
       exact t1.blk _ e6 fun o1 x1 p1 k1 k2=>e7 o1 x1 p1 k1 k2
      rw [e2] at hq; cases hq
     obtain ⟨ob,q,_,e2,e3,_,_,_,_,e8⟩:=early j g1 g2 (by rw [m1]; simp)
     obtain ⟨ob',q',_,e2',e3',_,_,_,_,e8'⟩:=early j' g1' g2' (by rw [m2]; simp)
     rw [e3] at m1
     cases m1
     rw [e3'] at m2
     cases m2
     exact hrelI.inj _ _ ob ob' _ _ e8 e8' e2 e2' hb
    have cls:∀ o1 x1,(OV L V TT SS (i + 1)).get o1 = some x1->((SS (i + 1)).h.get o1 = some x1) ∨ ∃ j,i + 1 <= j/\dE L V j/\o1 = (SS j).nx:=by
     intro o1 x1 e1
     by_cases hx:∃ j,i + 1 <= j/\dE L V j/\(SS j).nx = o1
     ·obtain ⟨j,h1,h2,rfl⟩:=hx
      exact .inr ⟨j,h1,h2,rfl⟩
     rw [f7 R S (by omega) (fun j h1 h2 h3=>hx ⟨j,h1,h2,h3⟩)] at e1
     exact .inl e1
    have hst':dJ μ0 (SS 0) w0 μ' (SP L V TT SS (i + 1)) w':=by
     refine ⟨hstpI.sub.trans t1.sub,fun o1 g1 g2=>?_,hstpI.nx,t1.os.trans hstpI.os,t1.tape.trans hstpI.tape,t1.output.trans hstpI.output,Nat.le_trans hstpI.size t1.size,fun g g1 g2=>?_,fun o1 x1 p1 g1 g2=>?_,fun o1 g1 g2=>?_,fun b1 i1 v1 k1=>?_⟩
     ·by_cases hm:μ o1 = none
      ·have b1:=t1.dom o1 hm g2
       have b2:=grow (Nat.zero_le i) (by omega)
       have b3:=grow (show i + 1 <= L.length by omega) (Nat.le_refl _)
       exact ⟨by omega,by show o1 < (SS L.length).nx; omega⟩
      exact hstpI.dom o1 g1 hm
     ·refine (t1.blk g (Nat.lt_of_lt_of_le g1 hstpI.size) fun o1 x1 p1 k1 k2 k3=>?_).trans (hstpI.blk g g1 g2)
      rcases hstpI.own o1 x1 p1 (inOV k1).1 k2 with h | ⟨o0,x0,p0,h1,h2,h3⟩
      ·omega
      exact g2 o0 x0 p0 h1 h2 (h3.trans k3)
     ·rcases cls o1 x1 g1 with h | ⟨j,h1,h2,rfl⟩
      ·rcases t1.own o1 x1 p1 h g2 with h | ⟨o2,x2,p2,h1,h2,h3⟩
       ·exact .inl (Nat.le_trans hstpI.size h)
       rw [<- h3]; exact hstpI.own o2 x2 p2 (inOV h1).1 h2
      obtain ⟨ob,q,_,e2,e3,_,_,_,_,e8⟩:=early j h1 h2 (by rw [g2]; simp)
      rw [e3] at g2
      cases g2
      exact hstpI.own _ ob _ e8 e2
     ·have hlt:∀ j,dE L V j->(SS j).nx ≠ o1:=fun j k1 k2=>by have:=grow (Nat.zero_le j) (by have:=(mk k1).1; omega); omega
      have b2:=grow (Nat.zero_le i) (by omega)
      have hm:μ o1 = none:=by
       cases hmu:μ o1 with
       | none=>rfl
       | some lc=>have:=hstpI.dom o1 g1 (by rw [hmu]; simp); omega
      show (OV L V TT SS (i + 1)).get o1 = _
      rw [f7 R S (by omega) (fun j _ k1 k2=>hlt j k1 k2),t1.keep o1 hm (by omega),<- hstpI.keep o1 g1 g2]
      exact (f7 R S (by omega) (fun j _ k1 k2=>hlt j k1 k2)).symm
     rcases t1.fz b1 i1 v1 k1 with h | h | ⟨o2,x2,p2,h1,h2,h3⟩ | h
     ·exact hstpI.fz b1 i1 v1 h
     ·exact .inr (.inl (Nat.le_trans hstpI.size h))
     ·rcases hstpI.own o2 x2 p2 (inOV h1).1 h2 with h | ⟨o0,x0,p0,q1,q2,q3⟩
      ·exact .inr (.inl (by omega))
      exact .inr (.inr (.inl ⟨o0,x0,p0,q1,q2,q3.trans h3⟩))
     exact .inr (.inr (.inr h))
    refine go (I.after R hS hsz ho hun hmask t1.sub (by rw [hxv]; exact hv') (by omega) n1 n2 hrel' hst' (fun o1 h1 h2=>t1.dom o1 h1 h2) (fun k h1 h2 h3=>?_))
    rcases Nat.lt_or_ge i k with hik | hik
    ·exact rV R S (by omega) hik h1
    have hki:k < i:=by omega
    have hnk:=(mk h1).2
    have hlt:(SS k).nx < (SS i).nx:=by have:=grow (show k + 1 <= i by omega) (by omega); omega
    have hne:∀ f,i <= f->∀ j,f <= j->dE L V j->(SS j).nx ≠ (SS k).nx:=fun f hf j k1 k2 k3=>by have:=grow (show i <= j by omega) (by have:=(mk k2).1; omega); omega
    have hm:μ (SS k).nx = none:=by
     cases hmu:μ (SS k).nx with
     | none=>rfl
     | some lc =>
      exfalso
      have a1:=grow (Nat.zero_le k) (by omega)
      have a2:=grow (show i <= L.length by omega) (Nat.le_refl _)
      obtain ⟨j,b1,b2,b3,b4⟩:=I.dom (SS k).nx (hfresh _ (by omega) (by omega)) (by rw [hmu]; simp)
      have:=apart (i:=k) (j:=j) (by omega) b2 (Nat.le_refl _) (by omega) b3 b4
      subst this
      exact h3 b1
    rw [f7 R S (by omega) (fun j k1 k2=>hne (i + 1) (by omega) j k1 k2),t1.keep _ hm hlt,<- hpendI k h1 h3]
    exact (f7 R S (by omega) (fun j k1 k2=>hne i (Nat.le_refl _) j k1 k2)).symm
  -- it is not wanted
  rw [if_neg (by rw [hwant false hw]; simp)]
  refine ⟨fun _ _=>trivial,?_⟩
  have hxv:xv V i = .tup []:=by unfold xv; rw [hv]; rfl
  cases hef:bJ o with
  | false =>
   obtain ⟨n1,n2⟩:=nonef hef
   exact go (I.after R hS hsz ho hun hmask (gY.refl μ) (by rw [hxv]; exact qu) I.he n1 n2 I.rel I.stp (fun o1 h1 h2=>absurd h1 h2) (fun k h1 _ h3=>I.pend k h1 h3))
  | true =>
   obtain ⟨f1,f2⟩:=first hef
   obtain ⟨n1,n2⟩:=efrange hef
   have hov:OV L V TT SS e = OV L V TT SS (i + 1):=(qq R f1 (by omega) f2).trans (BR R ho (.inr hv))
   have hsp:SP L V TT SS e = SP L V TT SS (i + 1):=by unfold SP; rw [hov]
   exact go (I.after R hS hsz ho hun hmask (gY.refl μ) (by rw [hxv]; exact qu) (by omega) n1 n2 (hsp ▸ I.rel) (hsp ▸ I.stp) (fun o1 h1 h2=>absurd h1 h2) (fun k h1 _ h3=>hov ▸ I.pend k h1 h3))
end
end
section
theorem rz:∀ (k:List Item) (id:Nat) {k':List Item},exitTo id k = some k'->k'.length < k.length
 | [],_,_,h=>by simp [exitTo] at h
 | x :: k,id,k',h=>by
  have rest:exitTo id k = some k'->k'.length < (x :: k).length:=fun h=>by have:=rz k id h; simp; omega
  cases x with
  | inBlock id' =>
   simp only [exitTo] at h
   split at h
   ·cases h; simp
   exact rest h
  | _=>simp only [exitTo] at h; exact rest h

section
variable {F:Fence} {n:Nat} {P:Program} {b:Frame} {a:Act} {k:List Item} {cs:List Frame} {w:World} {Q:Exit->Act->World->Prop}
theorem eO {c:Code}:step P (lone (b.atR a (.code (.scope c) :: k)) cs w) = .next (lone (b.atR a (.code c :: .inScope c :: k)) cs w) :=
 step_lone_go (by simp [stepG,stepG.exec,Frame.atR])
theorem r7 {c:Code}:step P (lone (b.atR a (.inScope c :: k)) cs w) = .next (lone (b.atR a k) cs w) :=
 step_lone_go (by simp [stepG,stepG.exec,Frame.atR])
theorem yD {c:Code} (h:c.wpIn F n P (Exit.noGoto Q) a w):(Code.scope c).wpIn F n P Q a w:=by
 intro b k cs hro hb hr
 have h0:(lone (b.atR a (.code (.scope c) :: k)) cs w).fenced P F:=fenced_calm hb hr rfl
 obtain ⟨e,a₁,w₁,hq,harr⟩:=h b (.inScope c :: k) cs hro hb hr
 cases e with
 | normal=>exact ⟨.normal,a₁,w₁,hq,.head h0 eO (StepsIn.trans harr (.one (fenced_calm hb hr rfl) r7))⟩
 | exit id' =>
  have hx:exitTo id' (.inScope c :: k) = exitTo id' k:=by simp [exitTo]
  exact ⟨.exit id',a₁,w₁,hq,fun k' hk=>.head h0 eO (harr.1 k' (by rw [hx]; exact hk)),
   fun hr' hk=>let ⟨k₁,h1,h2⟩:=harr.2 hr' (by rw [hx]; exact hk); ⟨k₁,h1,.head h0 eO h2⟩⟩
 | goto l=>exact hq.elim
 | ret=>exact ⟨_,a₁,w₁,hq,.of_steps (.one h0 eO) harr⟩
 | panic ch=>exact ⟨_,a₁,w₁,hq,.of_steps (.one h0 eO) harr⟩
 | outgrown=>exact ⟨_,a₁,w₁,hq,.of_steps (.one h0 eO) harr⟩
end
def GO (Q:Exit->Act->World->Prop):Prop:=∀ e a w,Q e a w->(∃ x,e = mz x)
theorem jR {F:Fence} {n:Nat} {P:Program} {c:Code} {Q:Exit->Act->World->Prop} {a:Act} {w:World} (hq:GO Q)(h:c.wpIn F n P (Exit.then (fun a w=>(Code.loop c).wpIn F n P Q a w) Q) a w):(Code.loop c).wpIn F n P Q a w:=by
 intro b k cs hro hb hr
 obtain ⟨e,a₁,w₁,hq1,harr⟩:=h b (.inLoop c :: k) cs hro hb hr
 have s0:StepsIn (Machine.fenced P F) P (lone (b.atR a (.code (.loop c) :: k)) cs w) (lone (b.atR a (.code c :: .inLoop c :: k)) cs w):=.one (fenced_calm hb hr rfl) stepR_loop
 cases e with
 | normal =>
  obtain ⟨e₂,a₂,w₂,hq₂,harr₂⟩:=hq1 b k cs hro hb hr
  have hm:=s0.trans harr
  refine ⟨e₂,a₂,w₂,hq₂,.of_steps hm ?_⟩
  have turn:∀ {T:Machine},T ≠ lone (b.atR a₁ (.code (.loop c) :: k)) cs w₁->StepsIn (Machine.fenced P F) P (lone (b.atR a₁ (.code (.loop c) :: k)) cs w₁) T->StepsIn (Machine.fenced P F) P (lone (b.atR a₁ (.inLoop c :: k)) cs w₁) T:=by
   intro T hT hs
   cases hs with
   | refl=>exact absurd rfl hT
   | head hI h1 h2 =>
    rw [stepR_loop] at h1
    cases h1
    exact .head (fenced_calm hb hr rfl) stepR_inLoop h2
  have ne_todo:∀ {a':Act} {w':World} {todo:List Item},todo ≠ .code (.loop c) :: k->lone (b.atR a' todo) cs w' ≠ lone (b.atR a₁ (.code (.loop c) :: k)) cs w₁:=by
   intro a' w' todo hne e
   have:(lone (b.atR a' todo) cs w').gs[0]? = (lone (b.atR a₁ (.code (.loop c) :: k)) cs w₁).gs[0]?:=by rw [e]
   simp only [lone,Frame.atR] at this
   simp at this
   exact hne this.2.1
  obtain ⟨x,rfl⟩:=hq _ _ _ hq₂
  cases x with
  | normal =>
   exact turn (ne_todo (fun e=>by have:=congrArg List.length e; simp at this)) harr₂
  | exit id =>
   refine ⟨fun k' hk=>turn (ne_todo (fun e=>by have:=congrArg List.length e; have:=rz k id hk; simp at *; omega)) (harr₂.1 k' hk),fun hr' hk=>?_⟩
   obtain ⟨k₁,h1,h2⟩:=harr₂.2 hr' hk
   exact ⟨k₁,h1,turn (ne_todo (fun e=>by cases e)) h2⟩
  | ret =>
   refine ⟨fun hn=>?_,fun hs=>?_⟩
   ·obtain ⟨todo,h2⟩:=harr₂.1 hn
    refine ⟨todo,turn (fun e=>?_) h2⟩
    have:(lone { b.atR a₂ todo with mode:=.returning } cs w₂).gs[0]? = (lone (b.atR a₁ (.code (.loop c) :: k)) cs w₁).gs[0]?:=by rw [e]
    simp only [lone,Frame.atR] at this
    simp at this
   obtain ⟨k₁,h2⟩:=harr₂.2 hs
   exact ⟨k₁,turn (ne_todo (fun e=>by cases e)) h2⟩
 | exit id=>exact ⟨_,a₁,w₁,hq1,.of_steps s0 (.pass (x:=.inLoop c) rfl (fun _ _=>.inl (by simp)) harr)⟩
 | goto l=>exact ⟨_,a₁,w₁,hq1,.of_steps s0 (.pass (x:=.inLoop c) rfl (fun _ _=>.inl (by simp)) harr)⟩
 | ret=>exact ⟨_,a₁,w₁,hq1,.of_steps s0 (.pass (x:=.inLoop c) rfl (fun _ _=>.inl (by simp)) harr)⟩
 | panic ch=>exact ⟨_,a₁,w₁,hq1,.of_steps s0 (.pass (x:=.inLoop c) rfl (fun _ _=>.inl (by simp)) harr)⟩
 | outgrown=>exact ⟨_,a₁,w₁,hq1,.of_steps s0 (.pass (x:=.inLoop c) rfl (fun _ _=>.inl (by simp)) harr)⟩

section
variable {P:Program} {X:dY} {E:Ev}

def kH (P:Program) (c:Code) (fr:Fr) (s:St) (ex:Ex) (fr':Fr) (s':St):Prop :=
 fr'.n = fr.n/\fr'.rd = fr.rd/\(s.nx <= s'.nx/\(Wf s->Wf s'))/\∀ {μ:Mu} {w:World} {a:Act} {ro:Option Nat} (n:Nat) {Q:Exit->Act->World->Prop},bA μ s w->TR μ fr.n fr.T a.tmps->DM μ fr.ms a.defers->Mg μ fr.rd ro->fD μ s s' ->
  (∀ μ' w' a',bA μ' s' w'->dJ μ s w μ' s' w'->TR μ' fr'.n fr'.T a'.tmps->DM μ' fr'.ms a'.defers->Q (mz ex) a' w')->c.wpIn (Fw ro) n P Q a w

theorem zf {μ:Mu} {s s1 s':St} (h:fD μ s s')(h1:s1.nx <= s'.nx):fD μ s s1:=fun o a b=>h o a (by omega)
theorem pw {μ μ1:Mu} {s s1 s':St} {w w1:World} (h:fD μ s s') (t:dJ μ s w μ1 s1 w1):fD μ1 s1 s':=fun o a b=>by
 cases hm:μ1 o with
 | none=>rfl
 | some l =>
  exfalso
  have hn:=t.nx
  by_cases hm0:μ o = none
  ·have:=t.dom o hm0 (by rw [hm]; simp); omega
  exact hm0 (h o (by omega) b)
theorem kH.seq {c1 c2:Code} {fr fr1 fr2:Fr} {s s1 s2:St} {ex:Ex} (h1:kH P c1 fr s .normal fr1 s1)(h2:kH P c2 fr1 s1 ex fr2 s2) :
  fr2.n = fr.n/\fr2.rd = fr.rd/\(s.nx <= s2.nx/\(Wf s->Wf s2))/\∀ {μ:Mu} {w:World} {a:Act} {ro:Option Nat} (n:Nat) {Q:Exit->Act->World->Prop},bA μ s w->TR μ fr.n fr.T a.tmps->DM μ fr.ms a.defers->Mg μ fr.rd ro->fD μ s s2 ->
  (∀ μ' w' a',bA μ' s2 w'->dJ μ s w μ' s2 w'->TR μ' fr2.n fr2.T a'.tmps->DM μ' fr2.ms a'.defers->Q (mz ex) a' w')->c1.wpIn (Fw ro) n P (Exit.then (fun a w=>c2.wpIn (Fw ro) n P Q a w) Q) a w:=by
 refine ⟨h2.1.trans h1.1,h2.2.1.trans h1.2.1,⟨Nat.le_trans h1.2.2.1.1 h2.2.2.1.1,fun hw=>h2.2.2.1.2 (h1.2.2.1.2 hw)⟩,?_⟩
 intro μ w a ro n Q hR hT hD hO hF hQ
 refine h1.2.2.2 n hR hT hD hO (zf hF h2.2.2.1.1) ?_
 intro μ1 w1 a1 r1 t1 tr1 d1
 refine h2.2.2.2 n r1 tr1 d1 (by rw [h1.2.1]; exact hO.mono t1.sub) (pw hF t1) ?_
 intro μ2 w2 a2 r2 t2 tr2 d2
 exact hQ μ2 w2 a2 r2 (t1.trans t2) tr2 d2

theorem Ct (hl:laidOutB P = true)(hmo:P.follows .mixedOrders = true) (S:cX P E)(hM:mI P X) {id:Nat} {ops:Array Oper} {fr:Fr} {s s':St} {T':Tr AV} (draw:Bool)
  (h:(match draw with | true=>px P X E fr.n ops.toList fr.T s | false=>jN P X E fr.n ops.toList ops.toList fr.T s) = some (T',s')):kH P (.region id ops draw) fr s .normal { fr with T:=T' } s':=by
 cases draw with
 | false =>
  simp only at h
  have gr:∀ (os:List Oper) (T T':Tr AV) (s s':St),jN P X E fr.n ops.toList os T s = some (T',s')->aK s s':=by
   intro os
   induction os with
   | nil=>intro T T' s s' h; simp only [jN,Option.some.injEq,Prod.mk.injEq] at h; rw [h.2]; exact aK.refl _
   | cons o os ih =>
    intro T T' s s' h
    simp only [jN] at h
    split at h
    ·split at h
     ·next hop =>
      split at h
      ·exact (ou S hop).trans (ih _ _ _ _ h)
      cases h
     cases h
    ·split at h
     ·exact ih _ _ _ _ h
     cases h
    cases h
  refine ⟨rfl,rfl,gr _ _ _ _ _ h,?_⟩
  intro μ w a ro n Q hR hT hD hO hF hQ
  refine wpIn_region ?_
  have:=yW (ro:=ro) (n:=n) (Q:=Q) hl S hM (fun h=>(ou S h).1) ops.toList 0 (a:=a) (by simp) h hR hT hF (fun μ' w' a' r t tr hd=>hQ μ' w' a' r t tr (by rw [hd]; exact hD.mono t.sub))
  rw [List.range_eq_range']
  simpa using this
 | true =>
  simp only [px] at h
  split at h
  ·next M hM' =>
   split at h
   ·next tr T1 s1 htr =>
    obtain ⟨hfl,h⟩:=aj h
    cases h
    obtain ⟨V,TT,SS,g1,g2,g3,g4,g5,R⟩:=sM _ _ _ htr
    have hS:=pd hM'
    have hGr:=R.grows_to S (Nat.zero_le ops.toList.length) (Nat.le_refl _)
    rw [g2,g4] at hGr
    refine ⟨rfl,rfl,hGr,?_⟩
    intro μ w a ro n Q hR hT hD hO hF hQ
    refine wpIn_region_any hmo ?_
    have hW:∀ i,i <= ops.toList.length->Wf (SS i):=fun i hi=>(R.grows_to S (Nat.zero_le i) hi).2 (by rw [g2]; exact hR.wf)
    have hsz:ops.size = ops.toList.length:=by simp
    rw [hsz]
    have hld:∀ j,¬ Ld (Array.replicate ops.toList.length false) j:=by
     intro j
     unfold Ld
     rw [Array.getD_eq_getD_getElem?,Array.getElem?_replicate]
     split <;> simp
    have ov0:∀ o1 x1,μ o1 ≠ none->(OV ops.toList V TT SS 0).get o1 = some x1->s.h.get o1 = some x1:=by
     intro o1 x1 hm e
     rw [f7 R S (Nat.zero_le _) (fun j _ hmk hjo=>?_),g2] at e
     ·exact e
     obtain ⟨o2,ob,ff,hoj,_,_,hnew,_⟩:=R.makes hmk
     have hj:=(List.getElem?_eq_some_iff.1 hoj).1
     have a1:=(R.grows_to S (Nat.zero_le j) (by omega)).1
     have a2:=(R.grows_to S (show j + 1 <= ops.toList.length by omega) (Nat.le_refl _)).1
     have a3:(SS (j + 1)).nx = (SS j).nx + 1:=by rw [hnew]; rfl
     rw [g2] at a1
     rw [g4] at a2
     exact hm (hjo ▸ hF (SS j).nx (by omega) (by omega))
    have hrel0:bA μ (SP ops.toList V TT SS 0) w.drew:=by
     refine AA R S (Nat.zero_le _) (hW 0 (Nat.zero_le _)) (by rw [g2]; exact hR.drew) (fun j _ hmk hne=>?_) (fun j j' p p' _ _ hmk _ hne _ _=>?_)
     ·exfalso
      obtain ⟨o2,ob,ff,hoj,_,_,hnew,_⟩:=R.makes hmk
      have hj:=(List.getElem?_eq_some_iff.1 hoj).1
      have a1:=(R.grows_to S (Nat.zero_le j) (by omega)).1
      have a2:=(R.grows_to S (show j + 1 <= ops.toList.length by omega) (Nat.le_refl _)).1
      have a3:(SS (j + 1)).nx = (SS j).nx + 1:=by rw [hnew]; rfl
      rw [g2] at a1
      rw [g4] at a2
      exact hne (hF (SS j).nx (by omega) (by omega))
     exfalso
     obtain ⟨o2,ob,ff,hoj,_,_,hnew,_⟩:=R.makes hmk
     have hj:=(List.getElem?_eq_some_iff.1 hoj).1
     have a1:=(R.grows_to S (Nat.zero_le j) (by omega)).1
     have a2:=(R.grows_to S (show j + 1 <= ops.toList.length by omega) (Nat.le_refl _)).1
     have a3:(SS (j + 1)).nx = (SS j).nx + 1:=by rw [hnew]; rfl
     rw [g2] at a1
     rw [g4] at a2
     rw [hF (SS j).nx (by omega) (by omega)] at hne
     cases hne
    have hstp0:dJ μ (SS 0) w μ (SP ops.toList V TT SS 0) w.drew:=by
     refine ⟨gY.refl μ,fun _ h h'=>absurd h h',?_,rfl,rfl,rfl,Nat.le_refl _,fun _ _ _=>rfl,fun o1 x1 p1 e1 e2=>.inr ⟨o1,x1,p1,?_,e2,rfl⟩,fun o1 h1 h2=>?_,fun _ _ _ h=>.inl h⟩
     ·exact (R.grows_to S (Nat.zero_le _) (Nat.le_refl _)).1
     ·rw [g2]; exact ov0 o1 x1 (by rw [e2]; simp) e1
     show (OV ops.toList V TT SS 0).get o1 = _
     refine f7 R S (Nat.zero_le _) (fun j _ hmk hjo=>?_)
     obtain ⟨o2,ob,ff,hoj,_⟩:=R.makes hmk
     have hj:=(List.getElem?_eq_some_iff.1 hoj).1
     have a1:=(R.grows_to S (Nat.zero_le j) (by omega)).1
     omega
    have I0:JW M ops.toList V TT SS fr.n μ w a.defers (Array.replicate ops.toList.length false) a w.drew μ 0 :=
     ⟨Nat.zero_le _,fun p o h=>by omega,fun p o _ _ _=>hld p,fun j k h=>absurd h (hld j),hrel0,hstp0,fun o h h'=>absurd h h',
      fun i hm _=>rV R S (Nat.zero_le _) (Nat.zero_le _) hm,hT.1,fun j o t _ h=>absurd h (hld j),fun t x h1 _=>hT.2 t x (by rw [<- g1]; exact h1),rfl⟩
    refine LU (ds:=a.defers) (μ0:=μ) (w0:=w) hl S hM R hS (by rw [g4]; rw [g5] at hfl; exact hfl) hW (by rw [g2,g4]; exact hF) ?_ ops.toList.length (Array.replicate ops.toList.length false) a w.drew μ 0 (by simp) I0 (vO _)
    intro μ' w' a' r t tr' hd
    rw [g4] at r t
    rw [g2] at t
    rw [g3] at tr'
    exact hQ μ' w' a' r t tr' (by rw [hd]; exact hD.mono t.sub)
   cases h
  cases h
end
end
end Go.Proofs.YtkdhppimhdemjaaGreat
