/- Lemmas on the way: Ev18. -/
import Derived.Test.YtdehimgccmbfkaaGreatT14
set_option linter.all false
set_option maxRecDepth 1000000
set_option maxHeartbeats 32000000
namespace Go.Proofs.YtdehimgccmbfkaaGreat
open Go.RowKit
section
def Ld (listed:Array Bool) (j:Nat):Prop:=listed.getD j false = true
theorem Ld.set_iff {listed:Array Bool} {i j:Nat} (hi:i < listed.size):Ld (listed.setIfInBounds i true) j ↔ j = i ∨ Ld listed j:=by
 unfold Ld
 by_cases h:i = j
 ·subst h; simp [hi]
 rw [getD_set_ne false h]
 constructor
 ·exact .inr
 rintro (e | e)
 ·exact absurd e.symm h
 exact e
theorem unlisted_iff {listed:Array Bool} {j:Nat} (hj:j < listed.size):listed.getD j true = false ↔ ¬ Ld listed j:=by
 unfold Ld
 simp [hj]

def restr (T:Tr AV):List Tmp->Tr AV
 | []=>.nil
 | t :: l=>(restr T l).set t (T.get t)
theorem restr_get (T:Tr AV) (t:Tmp):∀ l:List Tmp,(restr T l).get t = if t ∈ l then T.get t else none
 | []=>rfl
 | u :: l=>by
  rw [restr,Tr.get_set,restr_get T t l]
  by_cases h:t = u
  ·subst h; simp
  rw [if_neg h]; simp [h]

theorem Rel.born {μ:Mu} {s:St} {w:World} (h:Rel μ s w) {k:Nat} (hn:μ k = none) {x:AO} (hk:s.h.get k = some x) (O:Obj) (p:Pl)(hp:p.blk = w.heap.size)(hnn:∀ n,x ≠ .nat n)
  (hx:OR (μ.with k (.at_ p)) (w.alloc O) k x):Rel (μ.with k (.at_ p)) s (w.alloc O):=by
 have hs:=Mu.sub_with (.at_ p) hn
 have hsz:w.heap.size <= (w.alloc O).heap.size:=by simp
 have hold:∀ g,g < w.heap.size->(w.alloc O).heap[g]? = w.heap[g]?:=fun g hg=>Below.heap_alloc w O g hg
 have lt:∀ o x p',s.h.get o = some x->μ o = some (.at_ p')->p'.blk < w.heap.size:=fun o x p' e m=>by
  obtain ⟨b,hb⟩:=(h.obj o x e (by rw [m]; simp)).at_ m
  exact (Array.getElem?_eq_some_iff.1 hb).1
 refine ⟨⟨fun o y e m=>?_,fun o o' y y' q q' e1 e2 m1 m2 hb=>?_,fun o n A m c o' x' p' e1 m1 e2 m2=>?_,h.wf⟩,fun b i v hv=>?_⟩
 ·by_cases e2:o = k
  ·subst e2; rw [hk] at e; cases e; exact hx
  rw [Mu.with_ne _ _ e2] at m
  exact (h.obj o y e m).keep hs hsz (fun q hq=>hold _ (lt o y q e hq)) (fun A m' c hq ad hA hm hlt=>hold _ hlt)
 ·by_cases a:o = k <;> by_cases b:o' = k
  ·rw [a,b]
  ·subst a
   rw [Mu.with_same] at m1
   cases m1
   rw [Mu.with_ne _ _ b] at m2
   have:=lt _ _ _ e2 m2
   omega
  ·subst b
   rw [Mu.with_same] at m2
   cases m2
   rw [Mu.with_ne _ _ a] at m1
   have:=lt _ _ _ e1 m1
   omega
  rw [Mu.with_ne _ _ a] at m1
  rw [Mu.with_ne _ _ b] at m2
  exact h.inj o o' y y' q q' e1 e2 m1 m2 hb
 ·by_cases a:o = k
  ·subst a; rw [hk] at e1; cases e1; exact absurd rfl (hnn n)
  rw [Mu.with_ne _ _ a] at m1
  by_cases b:o' = k
  ·subst b
   rw [Mu.with_same] at m2
   cases m2
   have hv:=h.obj o _ e1 (by rw [m1]; simp)
   simp only [OR] at hv
   obtain ⟨A',m',c',h1,h2⟩:=hv
   rw [m1] at h1
   cases h1
   intro ad n' c'' e hpos
   cases e
   obtain ⟨l,⟨⟨_,A'',c2,e3,_,_,h4⟩,_⟩,_⟩:=h2
   cases e3
   obtain ⟨b,off,e4,hlt,_⟩:=h4 hpos
   cases e4
   simp only
   omega
  rw [Mu.with_ne _ _ b] at m2
  exact h.nat o n A m c o' x' p' e1 m1 e2 m2
 obtain ⟨z1,z2,z3⟩:=h.fz b i v hv
 refine ⟨Nat.lt_of_lt_of_le z1 hsz,by rw [<- z2]; exact World.cell?_of_block (w:=w) (hold b z1),fun o y q e m=>?_⟩
 by_cases a:o = k
 ·subst a; rw [Mu.with_same] at m; cases m; omega
 rw [Mu.with_ne _ _ a] at m; exact z3 o y q e m

section
variable {P:Program} {X:Env} {E:Ev} {nt:Nat} {L:List Oper} {V:Nat->Option AV} {TT:Nat->Tr AV} {SS:Nat->St} {M:Tr Nat}

def SP (L:List Oper) (V:Nat->Option AV) (TT:Nat->Tr AV) (SS:Nat->St) (e:Nat):St:=⟨OV L V TT SS e,(SS L.length).nx⟩

theorem rel_lay (R:Run P X E nt L L V TT SS) (S:Sound P E) {f:Nat} (hf:f <= L.length)(hW:Wf (SS f)) {μ:Mu} {w:World} (h:Rel μ (SS f) w)
  (hj:∀ j,f <= j->Makes L V j->μ (SS j).nx ≠ none->∃ ob p,(SS (j + 1)).h.get (SS j).nx = some ob/\μ (SS j).nx = some (.at_ p)/\OR μ w (SS j).nx ob/\(∀ n,ob ≠ .nat n) /\
   (∀ o x p',(SS f).h.get o = some x->μ o = some (.at_ p')->p'.blk ≠ p.blk)/\(∀ o n A m c,(SS f).h.get o = some (.nat n)->μ o = some (.val A m c)->Off (.slice A m c) p.blk)/\∀ b i v,μ.fz b i = some v->p.blk ≠ b)
  (hjj:∀ j j' p p',f <= j->f <= j'->Makes L V j->Makes L V j'->μ (SS j).nx = some (.at_ p)->μ (SS j').nx = some (.at_ p')->p.blk = p'.blk->(SS j).nx = (SS j').nx):Rel μ (SP L V TT SS f) w:=by
 have cls:∀ o x,(OV L V TT SS f).get o = some x->((SS f).h.get o = some x) ∨ ∃ j,f <= j/\Makes L V j/\o = (SS j).nx/\(SS (j + 1)).h.get (SS j).nx = some x:=by
  intro o x e
  by_cases hx:∃ j,f <= j/\Makes L V j/\(SS j).nx = o
  ·obtain ⟨j,h1,h2,rfl⟩:=hx
   rw [OV_new R S hf h1 h2] at e
   exact .inr ⟨j,h1,h2,rfl,e⟩
  rw [OV_old R S hf (fun j h1 h2 h3=>hx ⟨j,h1,h2,h3⟩)] at e
  exact .inl e
 refine ⟨⟨fun o x e m=>?_,fun o o' x x' p p' e e' m m' hb=>?_,fun o n A m c o' x' p' e m1 e' m2=>?_,fun o ho=>?_⟩,fun b i v hv=>⟨(h.fz b i v hv).1,(h.fz b i v hv).2.1,fun o x p e m=>?_⟩⟩
 ·rcases cls o x e with e1 | ⟨j,h1,h2,rfl,e1⟩
  ·exact h.obj o x e1 m
  obtain ⟨ob,p,g1,_,g3,_⟩:=hj j h1 h2 m
  rw [g1] at e1
  cases e1
  exact g3
 ·rcases cls o x e with e1 | ⟨j,h1,h2,rfl,e1⟩ <;> rcases cls o' x' e' with e2 | ⟨j',h1',h2',rfl,e2⟩
  ·exact h.inj o o' x x' p p' e1 e2 m m' hb
  ·obtain ⟨ob,q,g1,g2,_,_,g5,_⟩:=hj j' h1' h2' (by rw [m']; simp)
   rw [m'] at g2
   cases g2
   exact absurd hb (g5 o x p e1 m)
  ·obtain ⟨ob,q,g1,g2,_,_,g5,_⟩:=hj j h1 h2 (by rw [m]; simp)
   rw [m] at g2
   cases g2
   exact absurd hb.symm (g5 o' x' p' e2 m')
  exact hjj j j' p p' h1 h1' h2 h2' m m' hb
 ·rcases cls o _ e with e1 | ⟨j,h1,h2,rfl,e1⟩
  ·rcases cls o' x' e' with e2 | ⟨j',h1',h2',rfl,e2⟩
   ·exact h.nat o n A m c o' x' p' e1 m1 e2 m2
   obtain ⟨ob,q,g1,g2,_,_,_,g6⟩:=hj j' h1' h2' (by rw [m2]; simp)
   rw [m2] at g2
   cases g2
   exact g6.1 o n A m c e1 m1
  obtain ⟨ob,q,g1,_,_,g4,_⟩:=hj j h1 h2 (by rw [m1]; simp)
  rw [g1] at e1
  cases e1
  exact absurd rfl (g4 n)
 ·have ho':(SS L.length).nx <= o:=ho
  show (OV L V TT SS f).get o = none
  rw [OV_old R S hf (fun j h1 h2 h3=>?_)]
  ·exact hW o (by have:=(R.grows_to S hf (Nat.le_refl _)).1; omega)
  obtain ⟨o1,ob,ff,hoj,_,_,hnew,_⟩:=R.makes h2
  have hl:=(List.getElem?_eq_some_iff.1 hoj).1
  have h4:(SS (j + 1)).nx = (SS j).nx + 1:=by rw [hnew]; rfl
  have h5:=(R.grows_to S (show j + 1 <= L.length by omega) (Nat.le_refl _)).1
  omega
 rcases cls o x e with e1 | ⟨j,h1,h2,rfl,e1⟩
 ·exact (h.fz b i v hv).2.2 o x p e1 m
 obtain ⟨ob,q,g1,g2,_,_,_,_,g7⟩:=hj j h1 h2 (by rw [m]; simp)
 rw [m] at g2
 cases g2
 exact g7 b i v hv

structure Inv (M:Tr Nat) (L:List Oper) (V:Nat->Option AV) (TT:Nat->Tr AV) (SS:Nat->St) (nt:Nat) (μ0:Mu) (w0:World) (ds:List Deferred) (listed:Array Bool) (a:Act) (w:World) (μ:Mu) (e:Nat):Prop where
 he:e <= L.length
 lo:∀ p o,p < e->L[p]? = some o->isEf o = true->Ld listed p
 hi:∀ p o,e <= p->L[p]? = some o->isEf o = true->¬ Ld listed p
 down:∀ j k,Ld listed j->j < L.length->MB M j k->Ld listed k
 rel:Rel μ (SP L V TT SS e) w
 stp:Stp μ0 (SS 0) w0 μ (SP L V TT SS e) w
 dom:∀ o,μ0 o = none->μ o ≠ none->∃ j,Ld listed j/\j < L.length/\(SS j).nx <= o/\o < (SS (j + 1)).nx
 pend:∀ i,Makes L V i->¬ Ld listed i->(OV L V TT SS e).get (SS i).nx = (SS (i + 1)).h.get (SS i).nx
 size:a.tmps.size = nt
 vals:∀ j o t,L[j]? = some o->Ld listed j->o.dst = some t->∃ y,a.tmps[t]? = some y/\VR μ (xv V j) y
 old:∀ t x,(TT 0).get t = some x->(∀ j o,L[j]? = some o->Ld listed j->o.dst ≠ some t)->∃ y,a.tmps[t]? = some y/\VR μ x y
 defers:a.defers = ds

variable {μ0 μ:Mu} {w0 w:World} {ds:List Deferred} {listed:Array Bool} {a:Act} {e:Nat}

theorem Inv.look (R:Run P X E nt L L V TT SS)(hS:Stat L M) (I:Inv M L V TT SS nt μ0 w0 ds listed a w μ e) {i:Nat} {o:Oper} (ho:L[i]? = some o)(hun:¬ Ld listed i)(hmask:∀ k,MB M i k->Ld listed k) :
  TR μ nt (restr (TT i) (looks L o)) a.tmps:=by
 have hi:=(List.getElem?_eq_some_iff.1 ho).1
 refine ⟨I.size,fun t x hx=>?_⟩
 rw [restr_get] at hx
 split at hx
 ·next ht =>
  by_cases hw:∃ (j:Nat) (oj:Oper),L[j]? = some oj/\oj.dst = some t
  ·obtain ⟨j,oj,hj,hd⟩:=hw
   rcases hS.look i j o oj t ho hj hd ht with h | h
   ·have hlt:=hS.bits.below i ⟨o,ho⟩ j h
    obtain ⟨g1,_⟩:=R.T_new hS hj hd hlt (by omega)
    rw [g1] at hx
    cases hx
    exact I.vals j oj t hj (hmask j h) hd
   have hlt:=hS.bits.below j ⟨oj,hj⟩ i h
   rw [R.T_old (by omega) (fun j' o' hj' ho' hd'=>by have:=hS.one j j' oj o' t hj ho' hd hd'; omega)] at hx
   refine I.old t x hx fun j' o' ho' hl hd'=>?_
   have:j' = j:=hS.one j j' oj o' t hj ho' hd hd'
   subst this
   exact hun (I.down j' i hl (List.getElem?_eq_some_iff.1 hj).1 h)
  rw [R.T_old (by omega) (fun j' o' _ ho' hd'=>hw ⟨j',o',ho',hd'⟩)] at hx
  exact I.old t x hx fun j' o' ho' _ hd'=>hw ⟨j',o',ho',hd'⟩
 cases hx
theorem Inv.after (R:Run P X E nt L L V TT SS)(hS:Stat L M) (I:Inv M L V TT SS nt μ0 w0 ds listed a w μ e)(hsz:listed.size = L.length) {i:Nat} {o:Oper} (ho:L[i]? = some o)(hun:¬ Ld listed i)(hmask:∀ k,MB M i k->Ld listed k)
  {μ':Mu} {w':World} {e':Nat} {v:Value} (hsub:Sub μ μ') (hv:VR μ' (xv V i) v) (he':e' <= L.length) (hel:∀ p op,p < e'->L[p]? = some op->isEf op = true->p = i ∨ Ld listed p) (heh:∀ p op,e' <= p->L[p]? = some op->isEf op = true->p ≠ i/\¬ Ld listed p)
  (hrel:Rel μ' (SP L V TT SS e') w')(hstp:Stp μ0 (SS 0) w0 μ' (SP L V TT SS e') w')(hdom:∀ o,μ o = none->μ' o ≠ none->(SS i).nx <= o/\o < (SS (i + 1)).nx)
  (hpend:∀ k,Makes L V k->k ≠ i->¬ Ld listed k->(OV L V TT SS e').get (SS k).nx = (SS (k + 1)).h.get (SS k).nx) :
  Inv M L V TT SS nt μ0 w0 ds (listed.setIfInBounds i true) (a.put o.dst v) w' μ' e':=by
 have hi:=(List.getElem?_eq_some_iff.1 ho).1
 have hil:i < listed.size:=by omega
 have L':=fun j=>Ld.set_iff (listed:=listed) (i:=i) (j:=j) hil
 have tm:∀ t,o.dst ≠ some t->(a.put o.dst v).tmps[t]? = a.tmps[t]?:=fun t ht=>by
  cases hd:o.dst with
  | none=>rfl
  | some d=>simp only [Act.put]; exact Array.getElem?_setIfInBounds_ne (fun e=>ht (by rw [hd,e]))
 refine ⟨he',fun p op h1 h2 h3=>(L' p).2 (hel p op h1 h2 h3),fun p op h1 h2 h3 h4=>?_,fun j k h1 h2 h3=>?_,hrel,hstp,fun o1 h1 h2=>?_,fun k h1 h2=>?_,?_,fun j oj t h1 h2 h3=>?_,fun t x h1 h2=>?_,?_⟩
 ·have:=heh p op h1 h2 h3
  rcases (L' p).1 h4 with h5 | h5
  ·exact this.1 h5
  exact this.2 h5
 ·refine (L' k).2 (.inr ?_)
  rcases (L' j).1 h1 with rfl | h1
  ·exact hmask k h3
  exact I.down j k h1 h2 h3
 ·by_cases hm:μ o1 = none
  ·obtain ⟨g1,g2⟩:=hdom o1 hm h2
   exact ⟨i,(L' i).2 (.inl rfl),hi,g1,g2⟩
  obtain ⟨j,g1,g2,g3⟩:=I.dom o1 h1 hm
  exact ⟨j,(L' j).2 (.inr g1),g2,g3⟩
 ·exact hpend k h1 (fun e=>h2 ((L' k).2 (.inl e))) (fun e=>h2 ((L' k).2 (.inr e)))
 ·cases hd:o.dst with
  | none=>exact I.size
  | some d=>simp [Act.put,I.size]
 ·rcases (L' j).1 h2 with rfl | h5
  ·rw [ho] at h1
   cases h1
   obtain ⟨_,hlt⟩:=R.T_new hS ho h3 (Nat.lt_succ_self j) (by omega)
   refine ⟨v,?_,hv⟩
   rw [h3]
   simp [Act.put,I.size,hlt]
  by_cases hji:j = i
  ·subst hji; exact absurd h5 hun
  obtain ⟨y,g1,g2⟩:=I.vals j oj t h1 h5 h3
  refine ⟨y,?_,g2.mono hsub⟩
  rw [tm t (fun hd=>hji (hS.one i j o oj t ho h1 hd h3))]
  exact g1
 ·obtain ⟨y,g1,g2⟩:=I.old t x h1 (fun j oj h3 h4=>h2 j oj h3 ((L' j).2 (.inr h4)))
  refine ⟨y,?_,g2.mono hsub⟩
  rw [tm t (h2 i o ho ((L' i).2 (.inl rfl)))]
  exact g1
 rw [put_defers]; exact I.defers
end
end
end Go.Proofs.YtdehimgccmbfkaaGreat
