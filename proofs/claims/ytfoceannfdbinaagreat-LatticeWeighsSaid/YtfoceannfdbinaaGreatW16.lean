/- Lemmas. -/
import Derived.Test.YtfoceannfdbinaaGreatW14
import Derived.OrdersIn
import Derived.Scope
set_option linter.all false
set_option maxRecDepth 1000000
set_option maxHeartbeats 32000000
namespace Go.Proofs.YtfoceannfdbinaaGreat
open Go.RowKit
section
def Iq(listed:Array Bool):Nat->Nat
 |0=>0
 |k+1=>Iq listed k+(if listed.getD k false=true then 0 else 1)
theorem MV{l l'}(h:∀j,Ld l j->Ld l' j):∀k,Iq l' k<=Iq l k
 |0=>cC _
 |k+1=>by
  have:=MV h k;unfold Iq;by_cases e:l.getD k false=true
  ·have u:l'.getD k false=true:=h k e;rw[oR e,oR u];omega
  rw[iF e];split<;>omega
theorem MU{l l'}(h:∀j,Ld l j->Ld l' j){i}(A:¬Ld l i)(B:Ld l' i):∀k,i<k->Iq l' k+1<=Iq l k
 |0,hk=>by omega
 |k+1,hk=>by
  unfold Iq;by_cases e:i=k
  ·subst e;have x:¬(l.getD i false=true):=A;have y:l'.getD i false=true:=B;have:=MV h i;rw[oR y,iF x];omega
  have:=MU h A B k (by omega);by_cases u:l.getD k false=true
  ·have C:l'.getD k false=true:=h k u;rw[oR u,oR C];omega
  rw[iF u];split<;>omega
theorem Cu{l}:∀{k:Nat},Iq l k=0->∀j,j<k->Ld l j
 |0,_,j,hj=>by omega
 |k+1,h,j,hj=>by
  unfold Iq at h;by_cases e:j=k
  ·subst e;by_cases u:l.getD j false=true
   ·exact u
   rw[iF u]at h;omega
  exact Cu (k:=k) (by omega) j (by omega)
theorem Cv{l}:∀(k:Nat),Iq l k<=k
 |0=>cC _
 |k+1=>by have:=Cv (l:=l) k;unfold Iq;split<;>omega

section
variable {P:Program}{X:eC}{E:Ev}{nt:Nat}{ops:Array Oper}{V:Nat->Option AV}{TT:Nat->Tr AV}{SS:Nat->St}{M:Tr Nat}

theorem vh{L}(R:fF P X E nt L L V TT SS){e}:∀{f:Nat},e<=f->f<=L.length->(∀p o,e<=p->p<f->L[p]?=some o->cE o=false)->OV L V TT SS e=OV L V TT SS f:=by
 intro f A
 induction f with
 |zero=>intro _ _;rw[show e=0 by omega]
 |succ f ih=>
  intro hf j;rcases By f e with h|h
  ·rw[show e=f+1 by omega]
  rw[ih h (by omega) fun p o x B y=>j p o x (by omega) y];have u:L[f]?=some L[f]:=bY (by omega);exact Kq R u (.inl (j f _ h (by omega) u))
theorem Jh(L:List Oper):∀(k e:Nat),e+k=L.length->∃q,e<=q/\q<=L.length/\(q=L.length∨∃o,L[q]?=some o/\cE o=true)/\∀p o,e<=p->p<q->L[p]?=some o->cE o=false
 |0,e,h=>⟨e,cC _,by omega,.inl (by omega),fun p o y u _=>by omega⟩
 |k+1,e,h=>by
  have A:L[e]?=some L[e]:=bY (by omega);cases hb:cE L[e]with
  |true=>exact⟨e,cC _,by omega,.inr ⟨_,A,hb⟩,fun p o y u _=>by omega⟩
  |false=>
   obtain⟨q,y,u,C,J⟩:=Jh L k (e+1) (by omega);refine⟨q,by omega,u,C,fun p o N B j=>?_⟩;by_cases x:p=e
   ·subst x;rw[A]at j;cases j;exact hb
   exact J p o (by omega) B j
theorem Cs{all T T' o}(h:∀t∈oe all o,T.get t=T'.get t):iK all T o=iK all T' o:=by
 unfold iK;cases hg:o.guard with
 |none=>rfl
 |some g=>
  obtain⟨j,want⟩:=g;simp only;cases hd:(all[j]?).bind (·.dst)with
  |none=>rfl
  |some t=>simp only;rw[h t (by unfold oe;rw[hg];simp[hd])]
theorem sQ{all T o}:∀x∈o.op.operands,js (q5 T (oe all o)) x=js T x:=by
 intro x j;cases x with
 |tmp t=>simp only[js];rw[pc,oR];unfold oe;refine aDu _ (List.mem_filterMap.2 ⟨.tmp t,by simpa using j,rfl⟩)
 |_=>rfl

theorem WS(hl:laidOutB P=true)(S:dJ P E)(hM:kG P X)(R:fF P X E nt ops.toList ops.toList V TT SS)(hS:Q9 ops.toList M)(ca:fJ P M (dP M (SS ops.toList.length) 0 ops.toList 0 (fF.shape ops.toList V TT SS)) ops.toList 0 (fF.shape ops.toList V TT SS)=true){μ0 w0 ds}(hW:∀i,i<=ops.toList.length->Wf (SS i))(a5:iP μ0 (SS 0) (SS ops.toList.length)){ro n Q}(hQ:∀μ' w' a',bU μ' (SS ops.toList.length) w'->fo μ0 (SS 0) w0 μ' (SS ops.toList.length) w'->TR μ' nt (TT ops.toList.length) a'.tmps->a'.defers=ds->Q .normal a' w'):
  ∀(av:Nat)(listed:Array Bool)(a:Act)(w:World)(μ:Mu)(e:Nat),listed.size=ops.toList.length->UN M ops.toList V TT SS nt μ0 w0 ds listed a w μ e->Iq listed ops.toList.length<=av->wpAnyIn (Fw ro) n P .any ops Q av listed a w:=by
 generalize hL:ops.toList=L at *;have b5:∀i:Nat,ops[i]?=L[i]?:=fun i=>by rw[<-hL];simp
 have grow:∀{i j:Nat},i<=j->j<=L.length->(SS i).nx<=(SS j).nx:=fun B J=>(R.grows_to S B J).1;have apart:∀{i j x:Nat},i<L.length->j<L.length->(SS i).nx<=x->x<(SS (i+1)).nx->(SS j).nx<=x->x<(SS (j+1)).nx->j=i:=by
  intro i j x hi hj B J C h4;rcases aBL i j with h|h|h
  ·have:=grow (show i+1<=j by omega) (by omega);omega
  ·exact h.symm
  have:=grow (show j+1<=i by omega) (by omega);omega
 have mk:∀{i:Nat},fD L V i->i<L.length/\(SS (i+1)).nx=(SS i).nx+1:=fun hm=>by obtain⟨o1,ob,ff,bn,_,_,bB,_⟩:=R.makes hm;exact⟨(dO.1 bn).1,by rw[bB];rfl⟩
 have fin:∀(listed:Array Bool)(a:Act)(w:World)(μ:Mu)(e:Nat),UN M L V TT SS nt μ0 w0 ds listed a w μ e->(∀j,j<L.length->Ld listed j)->Q .normal a w:=by
  intro listed a w μ e I a0;have ba:OV L V TT SS e=(SS L.length).h:=by
   rw[vh R I.he (cC _) fun p o B J C=>?_,Hk];cases hb:cE o with
   |false=>rfl
   |true=>exact absurd (a0 p J) (I.hi p o B C hb)
  have b7:SP L V TT SS e=SS L.length:=by unfold SP;rw[ba]
  refine hQ μ w a (by rw[<-b7];exact I.rel) (by rw[<-b7];exact I.stp) ⟨I.size,fun t x hx=>?_⟩ I.defers;by_cases hw:∃(j:Nat)(oj:Oper),L[j]?=some oj/\oj.dst=some t
  ·obtain⟨j,oj,hj,hd⟩:=hw;have bm:=(dO.1 hj).1;rw[(R.T_new hS hj hd bm (cC _)).1]at hx;cases hx;exact I.vals j oj t hj (a0 j bm) hd
  rw[R.T_old (cC _) (fun j' o' _ cp cf=>hw ⟨j',o',cp,cf⟩)]at hx;exact I.old t x hx fun j' o' cp _ cf=>hw ⟨j',o',cp,cf⟩
 intro av
 induction av with
 |zero=>
  intro listed a w μ e bd I hu;have a0:=Cu (show Iq listed L.length=0 by omega);refine⟨?_,fin listed a w μ e I a0⟩;cases hr:Region.ready .any ops listed with
  |nil=>rfl
  |cons x xs=>
   have hx:x∈Region.ready .any ops listed:=by rw[hr];simp
   obtain⟨B,o,ho,_⟩:=mem_ready.1 hx;rw[b5]at ho;have e9:=(dO.1 ho).1;exact absurd (a0 x e9) ((mr (by omega)).1 B)
 |succ av ih=>
  intro listed a w μ e bd I hu;refine⟨fun hr=>fin listed a w μ e I ?_,fun i hi=>?_⟩
  ·intro j
   induction j using Nat.strongRecOn with
   |_ j ihj=>
    intro bm;by_cases hj:Ld listed j
    ·exact hj
    exfalso;have bn:L[j]?=some L[j]:=bY bm;have:j∈Region.ready .any ops listed:=mem_ready.2 ⟨(mr (by omega)).2 hj,L[j],by rw[b5];exact bn,fun ed bo hb=>ihj ed.on (hS.bits.lt j _ bn ed bo hb) (by have:=hS.bits.lt j _ bn ed bo hb;omega)⟩;rw[hr]at this;cases this
  obtain⟨ei,o,dh,dv⟩:=mem_ready.1 hi;have ho:L[i]?=some o:=by rw[<-b5];exact dh
  have ch:=(dO.1 ho).1;have am:=(mr (show i<listed.size by omega)).1 ei;have Y:∀k,MB M i k->Ld listed k:=by
   intro k hk;obtain⟨ed,bo,hb,h⟩:=(hS.bits.iff_ i o ho k).1 hk;have dm:Ld listed ed.on:=dv ed bo hb;rcases h with rfl|h
   ·exact dm
   exact I.down ed.on k dm (by have:=hS.bits.lt i o ho ed bo hb;omega) h
  have hT:=I.look R hS ho am Y;have eV:Iq (listed.setIfInBounds i true) L.length<=av:=by have:=MU (l:=listed) (l':=listed.setIfInBounds i true) (fun j hj=>(Ld.set_iff (by omega)).2 (.inr hj)) am ((Ld.set_iff (by omega)).2 (.inl rfl)) L.length ch;omega
  have eh:(listed.setIfInBounds i true).size=L.length:=by simp[bd]
  have go:∀{a':Act}{w':World}{μ':Mu}{e':Nat},UN M L V TT SS nt μ0 w0 ds (listed.setIfInBounds i true) a' w' μ' e'->wpAnyIn (Fw ro) n P .any ops Q av (listed.setIfInBounds i true) a' w':=fun I'=>ih _ _ _ _ _ eh I' eV;have first:cE o=true->e<=i/\(∀p op,e<=p->p<i->L[p]?=some op->cE op=false):=by
   intro U;refine⟨?_,fun p op B J C=>?_⟩
   ·rcases By i e with h|h
    ·exact absurd (I.lo i o h ho U) am
    exact h
   cases hb:cE op with
   |false=>rfl
   |true=>exact absurd (Y p (hS.chain p i op o C ho hb U J)) (I.hi p op B C hb)
  have a9:cE o=true->(∀p op,p<i+1->L[p]?=some op->cE op=true->p=i∨Ld listed p)/\(∀p op,i+1<=p->L[p]?=some op->cE op=true->p≠i/\¬Ld listed p):=by
   intro U;obtain⟨f1,f2⟩:=first U
   refine⟨fun p op B J C=>?_,fun p op B J C=>⟨by omega,I.hi p op (by omega) J C⟩⟩;by_cases hp:p=i
   ·exact .inl hp
   rcases By p e with h|h
   ·exact .inr (I.lo p op h J C)
   have:=f2 p op h (by omega) J;rw[C]at this;cases this
  have bf:cE o=false->(∀p op,p<e->L[p]?=some op->cE op=true->p=i∨Ld listed p)/\(∀p op,e<=p->L[p]?=some op->cE op=true->p≠i/\¬Ld listed p):=by intro U;refine⟨fun p op B J C=>.inr (I.lo p op B J C),fun p op B J C=>⟨fun hp=>?_,I.hi p op B J C⟩⟩;subst hp;rw[ho]at J;cases J;rw[U]at C;cases C
  unfold wpOpIn;rw[dh];simp only
  have b8:∀b,iK L (TT i) o=some b->Region.wanted o (yielded ops a.tmps)=b:=fun b hb=>by
   have e1:iK L (q5 (TT i) (oe L o)) o=some b:=by rw[<-hb];exact Cs fun t ht=>by rw[pc,oR ht]
   rw[<-hL]at e1 hT;exact qN hT e1
  rcases R.step i o ho with⟨v,hv,hw,b0,ea⟩|⟨hv,hw,hs,ea⟩
  ·rw[oR (b8 true hw)];have b9:xv V i=v:=by unfold xv;rw[hv];rfl
   have dn:iW P X E (js (q5 (TT i) (oe L o))) (SS i) o.op=some (v,SS (i+1)):=by rw[y9 sQ];exact b0
   cases hk:bQ o.op with
   |rd=>
    have U:cE o=false:=by unfold cE;rw[hk]
    have hrd:dY P (js (TT i)) (SP L V TT SS e) o.op=some v:=by
     have eb:dY P (js (TT i)) (SS i) o.op=some v:=by unfold iW at b0;rw[hk]at b0;simp only[iN,Gt]at b0;obtain⟨v',B,rfl,_⟩:=b0;exact B
     cases hlk:cq o.op with
     |false=>rw[Se (s':=SS i) hlk];exact eb
     |true=>
      obtain⟨m,hm,a0⟩:=xg (L:=L) (V:=V) (TT:=TT) (SS:=SS) (M:=M) L.length 0 (by omega) (by simpa using ca) i o v (No _) ho hv (by rw[hk];trivial) hlk;obtain⟨q,q1,q2,q3,q4⟩:=Jh L (L.length-e) e (by have:=I.he;omega);obtain⟨p,p1,p2⟩:=oB (L:=L) (V:=V) (TT:=TT) (SS:=SS) M L.length 0 0 (by omega) q (No _) q2 q3;have c5:(⟨if q=L.length then(SS L.length).h else OV L V TT SS q,(SS L.length).nx⟩:St)=SP L V TT SS e:=by
       unfold SP;rw[vh R q1 q2 q4];split
       ·next h=>rw[h,Hk]
       rfl
      rw[c5]at p1;rcases a0 _ (by simpa using p1)with h|h|h
      ·exfalso;rcases p2 with rfl|⟨j,oj,_,J,C,h4,rfl⟩
       ·simp at h
       have eL:j<e:=by
        rcases By j e with h5|h5
        ·exact h5
        have:=q4 j oj h5 J C;rw[h4]at this;cases this
       have bm:=(dO.1 C).1;cases hmj:M.get j with
       |none=>rw[hmj]at h;simp at h
       |some mj=>rw[hmj]at h;exact am (I.down j i (I.lo j oj eL C h4) bm ⟨mj,hmj,h⟩)
      ·exfalso;have hq:Ld listed q:=Y q ⟨m,hm,h⟩;rcases q3 with C|⟨oq,C,h4⟩
       ·have:=hS.bits.below i ⟨o,ho⟩ q ⟨m,hm,h⟩;omega
       exact I.hi q oq q1 C h4 hq
      exact h
    have du:iW P X E (js (q5 (TT i) (oe L o))) (SP L V TT SS e) o.op=some (v,SP L V TT SS e):=by rw[y9 sQ];unfold iW;rw[hk];simp[hrd]
    refine IZ hl S hM I.rel hT du (fun o1 B J=>by omega) ?_;intro μ' w' v' r1 t1 c6;obtain⟨n1,n2⟩:=bf U;exact go (I.after R hS bd ho am Y t1.sub (by rw[b9];exact c6) I.he n1 n2 r1 (I.stp.trans t1) (fun o1 B J=>by have:=t1.dom o1 B J;omega) (fun k B _ C=>I.pend k B C))
   |al=>
    have U:cE o=false:=by unfold cE;rw[hk]
    have bx:fD L V i:=⟨o,v,ho,hv,by rw[hk];trivial⟩;obtain⟨o1,ob,f,dl,ey,e0,bB,_⟩:=R.makes bx;rw[ho]at dl;cases dl;have c7:tA P (js (q5 (TT i) (oe L o))) o.op=some (ob,f):=by rw[Af sQ];exact ey
    obtain⟨O,tot,v',B,J,C⟩:=QZ (mC hT) o c7 w;have a7:(SS 0).nx<=(SS i).nx/\(SS i).nx<(SS L.length).nx:=by have Z:=grow (No i) (by omega);have N:=grow (show i+1<=L.length by omega) (cC _);have g3:=(mk bx).2;omega
    have a6:μ (SS i).nx=none:=by
     cases a3:μ (SS i).nx with
     |none=>rfl
     |some lc=>exfalso;obtain⟨j,Z,N,g3,g4⟩:=I.dom (SS i).nx (a5 _ a7.1 a7.2) (by rw[a3];simp);have:=apart (i:=i) (j:=j) ch N (cC _) (by rw[(mk bx).2];omega) g3 g4;subst this;exact am Z
    obtain⟨k1,k2⟩:=C (μ.with (SS i).nx (.at_ ⟨w.heap.size,0,tot⟩)) (SS i).nx (Mu.sub_with _ a6) (Mu.with_same _ _ _);have cx:(SP L V TT SS e).h.get (SS i).nx=some ob:=by show(OV L V TT SS e).get (SS i).nx=some ob;rw[I.pend i bx am,bB];exact Tr.get_set_same _ _ _
    have hb:=I.rel.born a6 cx O ⟨w.heap.size,0,tot⟩ rfl J (k2 _ (ir w O));have c5:fo μ0 (SS 0) w0 (μ.with (SS i).nx (.at_ ⟨w.heap.size,0,tot⟩)) (SP L V TT SS e) (w.alloc O):=by
     have t:=I.stp;refine⟨t.sub.trans (Mu.sub_with _ a6),fun o1 Z N=>?_,t.nx,t.os,t.tape,t.output,EM t.size (by simp),fun g Z N=>?_,fun o1 x1 p1 Z N=>?_,t.keep,t.fz⟩
     ·by_cases h:o1=(SS i).nx
      ·subst h;exact a7
      rw[Mu.with_ne _ _ h]at N;exact t.dom o1 Z N
     ·exact(Below.heap_alloc w O g (TK Z t.size)).trans (t.blk g Z N)
     by_cases h:o1=(SS i).nx
     ·subst h;rw[Mu.with_same]at N;cases N;exact .inl t.size
     rw[Mu.with_ne _ _ h]at N;exact t.own o1 x1 p1 Z N
    obtain⟨n1,n2⟩:=bf U;have eO:∀c,o.op≠.defer c:=fun c ec=>by rw[ec]at hk;cases hk
    refine⟨fun _ _=>trivial,?_⟩;rw[Oper.semAt_eq _ _ _ eO,B]
    refine go (I.after R hS bd ho am Y (Mu.sub_with _ a6) (by
     have:xv V i=f (SS i).nx:=by unfold xv;rw[e0];rfl
     rw[this];exact k1) I.he n1 n2 hb c5 (fun o1 Z N=>?_) (fun k B _ C=>I.pend k B C))
    by_cases h:o1=(SS i).nx
    ·subst h;rw[(mk bx).2];omega
    rw[Mu.with_ne _ _ h]at N;exact absurd Z N
   |ef=>
    have U:cE o=true:=by unfold cE;rw[hk]
    obtain⟨f1,f2⟩:=first U
    obtain⟨n1,n2⟩:=a9 U;have ba:OV L V TT SS e=OV L V TT SS i:=vh R f1 (by omega) f2;have a4:∀{o1:Nat}{x1:AO},(SS i).h.get o1=some x1->(OV L V TT SS i).get o1=some x1/\o1<(SS i).nx:=by
     intro o1 x1 B;have hlt:o1<(SS i).nx:=by
      rcases By o1 (SS i).nx with h|h
      ·exact h
      rw[hW i (by omega) o1 h]at B;cases B
     refine⟨?_,hlt⟩;rw[jI R S (by omega) (fun j Z N g3=>by have:=grow Z (by have:=(mk N).1;omega);omega)];exact B
    have c4:bU μ (SS i) w:=by have h:=I.rel;unfold SP at h;rw[ba]at h;exact h.less (SS i).h (SS i).nx (fun o1 x1 B=>(a4 B).1) (fun o1 B=>hW i (by omega) o1 B)
    have cb:∀o1,(SS i).nx<=o1->o1<(SS (i+1)).nx->μ o1=none:=by
     intro o1 Z N;cases a3:μ o1 with
     |none=>rfl
     |some lc=>exfalso;have a1:=grow (No i) (by omega);have a2:=grow (show i+1<=L.length by omega) (cC _);obtain⟨j,b1,b2,b3,b4⟩:=I.dom o1 (a5 o1 (by omega) (by omega)) (by rw[a3];simp);have:=apart ch b2 Z N b3 b4;subst this;exact am b1
    refine IZ hl S hM c4 hT dn cb ?_;intro μ' w' v' r1 t1 c6;have u:=I.stp;have ad:=I.rel;have bj:=I.pend;unfold SP at u ad;rw[ba]at u ad bj;have early:∀j,i+1<=j->fD L V j->μ' (SS j).nx≠none->∃ob p,(SS (j+1)).h.get (SS j).nx=some ob/\μ (SS j).nx=some (.at_ p)/\μ' (SS j).nx=some (.at_ p)/\OR μ w (SS j).nx ob/\(∀n,ob≠.nat n)/\p.blk<w.heap.size /\ (∀o1 x1 p1,(SS i).h.get o1=some x1->μ o1=some (.at_ p1)->p1.blk≠p.blk)/\(OV L V TT SS i).get (SS j).nx=some ob:=by
     intro j Z N g3;have fb:=grow Z (by have:=(mk N).1;omega);have a3:μ (SS j).nx≠none:=fun h=>by have:=t1.dom _ h g3;omega
     obtain⟨oj,ob,ff,bn,c8,fp,cm,_⟩:=R.makes N;have cd:(SS (j+1)).h.get (SS j).nx=some ob:=by rw[cm];exact Tr.get_set_same _ _ _
     have b6:(OV L V TT SS i).get (SS j).nx=some ob:=by rw[x9 R S (by omega) (by omega) N];exact cd
     have cu:=ad.obj _ _ b6 a3;have dd:∀n,ob≠.nat n:=by
      intro n en;subst en;have:∀(ρ:Operand->Option AV)(op:Op)(f:Nat->AV),tA P ρ op≠some (.nat n,f):=by
       intro ρ op f hh;cases op<;>simp only[tA]at hh
       case alloc=>simp only[sT]at hh;obtain⟨_,_,h⟩:=hh;obtain⟨_,h⟩:=ah h;cases h
       case box=>simp only[sT]at hh;obtain⟨_,_,h⟩:=hh;obtain⟨_,h⟩:=ah h;cases h
       case buildSlice=>
        split at hh
        ·split at hh
         ·obtain⟨_,h⟩:=ah hh;simp only[sT]at h;obtain⟨_,_,h⟩:=h;obtain⟨_,h⟩:=ah h;cases h
         cases hh
        cases hh
       case makeMap t r=>
        cases r with
        |none=>simp at hh
        |some y=>simp only at hh;split at hh<;>cases hh
       case makeSlice=>
        split at hh
        ·split at hh
         ·obtain⟨_,h⟩:=ah hh;cases h
         cases hh
        cases hh
       all_goals cases hh
      exact this _ _ _ c8
     cases hlc:μ (SS j).nx with
     |none=>exact absurd hlc a3
     |some lc=>
      cases lc with
      |val A m c=>obtain⟨nn,rfl⟩:=cu.val hlc;exact absurd rfl (dd nn)
      |at_ p=>obtain⟨bb,ez⟩:=cu.at_ hlc;refine⟨ob,p,cd,rfl,t1.sub _ _ hlc,cu,dd,(IF.1 ez).1,fun o1 x1 p1 k1 k2 k3=>?_,b6⟩;have:=ad.inj o1 (SS j).nx x1 ob p1 p (a4 k1).1 b6 k2 hlc k3;have:=(a4 k1).2;have:=grow (show i<=i+1 by omega) (by omega);omega
    have cy:bU μ' (SP L V TT SS (i+1)) w':=by
     refine IK R S (by omega) (hW (i+1) (by omega)) r1 (fun j Z N g3=>?_) (fun j j' p p' Z g1' N g2' m1 m2 hb=>?_)
     ·obtain⟨ob,p,e1,e2,e3,e4,e5,e6,e7,e8⟩:=early j Z N g3;refine⟨ob,p,e1,e3,?_,e5,fun o1 x1 p1 k1 k2 k3=>?_,fun o1 n1 A m c k1 k2=>?_,fun b1 i1 v1 k1 k2=>?_⟩
      ·refine e4.keep t1.sub t1.size (fun q hq=>?_) (fun A m c hq=>?_)
       ·rw[e2]at hq;cases hq;exact t1.blk _ e6 fun o1 x1 p1 k1 k2=>e7 o1 x1 p1 k1 k2
       rw[e2]at hq;cases hq
      ·rcases t1.own o1 x1 p1 k1 k2 with h|⟨o2,x2,p2,B,J,C⟩
       ·omega
       exact e7 o2 x2 p2 B J (C.trans k3)
      ·refine Ji (r1.obj o1 _ k1 (by rw[k2];simp)) k2 (e4.keep t1.sub t1.size (fun q hq=>?_) (fun A m c hq=>?_)) e3 e5
       ·rw[e2]at hq;cases hq;exact t1.blk _ e6 fun o1 x1 p1 k1 k2=>e7 o1 x1 p1 k1 k2
       rw[e2]at hq;cases hq
      rcases t1.fz b1 i1 v1 k1 with h|h|⟨o2,x2,p2,B,J,C⟩|h
      ·exact(ad.fz b1 i1 v1 h).2.2 _ _ p e8 e2 k2
      ·omega
      ·exact e7 o2 x2 p2 B J (C.trans k2.symm)
      refine OR.nodig (e4.keep t1.sub t1.size (fun q hq=>?_) (fun A m c hq=>?_)) e3 ⟨i1,v1,by rw[k2];exact eB (r1.fz b1 i1 v1 k1).2.1 (li h),h⟩
      ·rw[e2]at hq;cases hq;exact t1.blk _ e6 fun o1 x1 p1 k1 k2=>e7 o1 x1 p1 k1 k2
      rw[e2]at hq;cases hq
     obtain⟨ob,q,_,e2,e3,_,_,_,_,e8⟩:=early j Z N (by rw[m1];simp);obtain⟨fa,q',_,eo,er,_,_,_,_,et⟩:=early j' g1' g2' (by rw[m2];simp);rw[e3]at m1;cases m1;rw[er]at m2;cases m2;exact ad.inj _ _ ob fa _ _ e8 et e2 eo hb
    have ej:∀o1 x1,(OV L V TT SS (i+1)).get o1=some x1->((SS (i+1)).h.get o1=some x1)∨∃j,i+1<=j/\fD L V j/\o1=(SS j).nx:=by
     intro o1 x1 e1;by_cases hx:∃j,i+1<=j/\fD L V j/\(SS j).nx=o1
     ·obtain⟨j,B,J,rfl⟩:=hx;exact .inr ⟨j,B,J,rfl⟩
     rw[jI R S (by omega) (fun j B J C=>hx ⟨j,B,J,C⟩)]at e1;exact .inl e1
    have ee:fo μ0 (SS 0) w0 μ' (SP L V TT SS (i+1)) w':=by
     refine⟨u.sub.trans t1.sub,fun o1 Z N=>?_,u.nx,t1.os.trans u.os,t1.tape.trans u.tape,t1.output.trans u.output,EM u.size t1.size,fun g Z N=>?_,fun o1 x1 p1 Z N=>?_,fun o1 Z N=>?_,fun b1 i1 v1 k1=>?_⟩
     ·by_cases hm:μ o1=none
      ·have b1:=t1.dom o1 hm N;have b2:=grow (No i) (by omega);have b3:=grow (show i+1<=L.length by omega) (cC _);exact⟨by omega,by show o1<(SS L.length).nx;omega⟩
      exact u.dom o1 Z hm
     ·refine(t1.blk g (TK Z u.size) fun o1 x1 p1 k1 k2 k3=>?_).trans (u.blk g Z N);rcases u.own o1 x1 p1 (a4 k1).1 k2 with h|⟨o0,x0,p0,B,J,C⟩
      ·omega
      exact N o0 x0 p0 B J (C.trans k3)
     ·rcases ej o1 x1 Z with h|⟨j,B,J,rfl⟩
      ·rcases t1.own o1 x1 p1 h N with h|⟨o2,x2,p2,B,J,C⟩
       ·exact .inl (EM u.size h)
       rw[<-C];exact u.own o2 x2 p2 (a4 B).1 J
      obtain⟨ob,q,_,e2,e3,_,_,_,_,e8⟩:=early j B J (by rw[N];simp);rw[e3]at N;cases N;exact u.own _ ob _ e8 e2
     ·have hlt:∀j,fD L V j->(SS j).nx≠o1:=fun j k1 k2=>by have:=grow (No j) (by have:=(mk k1).1;omega);omega
      have b2:=grow (No i) (by omega);have hm:μ o1=none:=by
       cases a3:μ o1 with
       |none=>rfl
       |some lc=>have:=u.dom o1 Z (by rw[a3];simp);omega
      show(OV L V TT SS (i+1)).get o1=_;rw[jI R S (by omega) (fun j _ k1 k2=>hlt j k1 k2),t1.keep o1 hm (by omega),<-u.keep o1 Z N];exact(jI R S (by omega) (fun j _ k1 k2=>hlt j k1 k2)).symm
     rcases t1.fz b1 i1 v1 k1 with h|h|⟨o2,x2,p2,B,J,C⟩|h
     ·exact u.fz b1 i1 v1 h
     ·exact .inr (.inl (EM u.size h))
     ·rcases u.own o2 x2 p2 (a4 B).1 J with h|⟨o0,x0,p0,q1,q2,q3⟩
      ·exact .inr (.inl (by omega))
      exact .inr (.inr (.inl ⟨o0,x0,p0,q1,q2,q3.trans C⟩))
     exact .inr (.inr (.inr h))
    refine go (I.after R hS bd ho am Y t1.sub (by rw[b9];exact c6) (by omega) n1 n2 cy ee (fun o1 B J=>t1.dom o1 B J) (fun k B J C=>?_));rcases By i k with c9|c9
    ·exact x9 R S (by omega) c9 B
    have fl:k<i:=by omega
    have fm:=(mk B).2;have hlt:(SS k).nx<(SS i).nx:=by have:=grow (show k+1<=i by omega) (by omega);omega
    have db:∀f,i<=f->∀j,f<=j->fD L V j->(SS j).nx≠(SS k).nx:=fun f hf j k1 k2 k3=>by have:=grow (show i<=j by omega) (by have:=(mk k2).1;omega);omega
    have hm:μ (SS k).nx=none:=by
     cases a3:μ (SS k).nx with
     |none=>rfl
     |some lc=>exfalso;have a1:=grow (No k) (by omega);have a2:=grow (show i<=L.length by omega) (cC _);obtain⟨j,b1,b2,b3,b4⟩:=I.dom (SS k).nx (a5 _ (by omega) (by omega)) (by rw[a3];simp);have:=apart (i:=k) (j:=j) (by omega) b2 (cC _) (by omega) b3 b4;subst this;exact C b1
    rw[jI R S (by omega) (fun j k1 k2=>db (i+1) (by omega) j k1 k2),t1.keep _ hm hlt,<-bj k B C];exact(jI R S (by omega) (fun j k1 k2=>db i (cC _) j k1 k2)).symm
  rw[iF (by rw[b8 false hw];simp)];refine⟨fun _ _=>trivial,?_⟩;have b9:xv V i=.tup []:=by unfold xv;rw[hv];rfl
  cases U:cE o with
  |false=>obtain⟨n1,n2⟩:=bf U;exact go (I.after R hS bd ho am Y (lJ.refl μ) (by rw[b9];exact qQ) I.he n1 n2 I.rel I.stp (fun o1 B J=>absurd B J) (fun k B _ C=>I.pend k B C))
  |true=>
   obtain⟨f1,f2⟩:=first U
   obtain⟨n1,n2⟩:=a9 U;have ba:OV L V TT SS e=OV L V TT SS (i+1):=(vh R f1 (by omega) f2).trans (Kq R ho (.inr hv));have b7:SP L V TT SS e=SP L V TT SS (i+1):=by unfold SP;rw[ba]
   exact go (I.after R hS bd ho am Y (lJ.refl μ) (by rw[b9];exact qQ) (by omega) n1 n2 (b7▸I.rel) (b7▸I.stp) (fun o1 B J=>absurd B J) (fun k B _ C=>ba▸I.pend k B C))
end
end
section
theorem xo:∀(k:List Item)(id:Nat){j:List Item},exitTo id k=some j->j.length<k.length
 | [],_,_,h=>by simp[exitTo]at h
 |x::k,id,j,h=>by
  have rest:exitTo id k=some j->j.length<(x::k).length:=fun h=>by have:=xo k id h;simp;omega
  cases x with
  |inBlock id'=>
   simp only[exitTo]at h;split at h
   ·cases h;simp
   exact rest h
  |_=>simp only[exitTo]at h;exact rest h

section
variable {F:Fence}{n:Nat}{P:Program}{b:Frame}{a:Act}{k:List Item}{cs:List Frame}{w:World}{Q:Exit->Act->World->Prop}
theorem gY{c}:step P (lone (b.atR a (.code (.scope c)::k)) cs w)=.next (lone (b.atR a (.code c::.inScope c::k)) cs w):= step_lone_go (by simp[stepG,stepG.exec,Frame.atR])
theorem yf{c}:step P (lone (b.atR a (.inScope c::k)) cs w)=.next (lone (b.atR a k) cs w):= step_lone_go (by simp[stepG,stepG.exec,Frame.atR])
theorem Fq{c}(h:c.wpIn F n P (Exit.noGoto Q) a w):(Code.scope c).wpIn F n P Q a w:=by
 intro b k cs U B J;have u:(lone (b.atR a (.code (.scope c)::k)) cs w).fenced P F:=aEo B J rfl;obtain⟨e,y,A,x,j⟩:=h b (.inScope c::k) cs U B J;cases e with
 |normal=>exact⟨.normal,y,A,x,.head u gY (StepsIn.trans j (.one (aEo B J rfl) yf))⟩
 |exit id'=>
  have Y:exitTo id' (.inScope c::k)=exitTo id' k:=by simp[exitTo]
  exact⟨.exit id',y,A,x,fun Z C=>.head u gY (j.1 Z (by rw[Y];exact C)),fun N C=>let ⟨k₁,h1,h2⟩:=j.2 N (by rw[Y];exact C);⟨k₁,h1,.head u gY h2⟩⟩
 |goto l=>exact x.elim
 |ret=>exact⟨_,y,A,x,.of_steps (.one u gY) j⟩
 |panic ch=>exact⟨_,y,A,x,.of_steps (.one u gY) j⟩
 |outgrown=>exact⟨_,y,A,x,.of_steps (.one u gY) j⟩
end
def Rc(Q:Exit->Act->World->Prop):Prop:=∀e a w,Q e a w->(∃x,e=pI x)
theorem kQ{F n P c Q a w}(hq:Rc Q)(h:c.wpIn F n P (Exit.then (fun a w=>(Code.loop c).wpIn F n P Q a w) Q) a w):(Code.loop c).wpIn F n P Q a w:=by
 intro b k cs Z hb hr;obtain⟨e,C,J,B,y⟩:=h b (.inLoop c::k) cs Z hb hr;have U:StepsIn (Machine.fenced P F) P (lone (b.atR a (.code (.loop c)::k)) cs w) (lone (b.atR a (.code c::.inLoop c::k)) cs w):=.one (aEo hb hr rfl) stepR_loop;cases e with
 |normal=>
  obtain⟨e₂,a₂,w₂,Y,u⟩:=B b k cs Z hb hr;have hm:=U.trans y;refine⟨e₂,a₂,w₂,Y,.of_steps hm ?_⟩;have A:∀{T:Machine},T≠lone (b.atR C (.code (.loop c)::k)) cs J->StepsIn (Machine.fenced P F) P (lone (b.atR C (.code (.loop c)::k)) cs J) T->StepsIn (Machine.fenced P F) P (lone (b.atR C (.inLoop c::k)) cs J) T:=by
   intro T hT hs;cases hs with
   |refl=>exact absurd rfl hT
   |head hI h1 N=>rw[stepR_loop]at h1;cases h1;exact .head (aEo hb hr rfl) stepR_inLoop N
  have j:∀{a':Act}{w':World}{todo:List Item},todo≠.code (.loop c)::k->lone (b.atR a' todo) cs w'≠lone (b.atR C (.code (.loop c)::k)) cs J:=by
   intro a' w' todo ad e;have:(lone (b.atR a' todo) cs w').gs[0]?=(lone (b.atR C (.code (.loop c)::k)) cs J).gs[0]?:=by rw[e]
   simp only[lone,Frame.atR]at this;simp at this;exact ad this.2.1
  obtain⟨x,rfl⟩:=hq _ _ _ Y;cases x with
  |normal=>exact A (j (fun e=>by have:=aAf List.length e;simp at this)) u
  |exit id=>refine⟨fun k' hk=>A (j (fun e=>by have:=aAf List.length e;have:=xo k id hk;simp at *;omega)) (u.1 k' hk),fun hr' hk=>?_⟩;obtain⟨k₁,h1,N⟩:=u.2 hr' hk;exact⟨k₁,h1,A (j (fun e=>by cases e)) N⟩
  |ret=>
   refine⟨fun hn=>?_,fun hs=>?_⟩
   ·obtain⟨todo,N⟩:=u.1 hn;refine⟨todo,A (fun e=>?_) N⟩;have:(lone { b.atR a₂ todo with mode:=.returning } cs w₂).gs[0]?=(lone (b.atR C (.code (.loop c)::k)) cs J).gs[0]?:=by rw[e]
    simp only[lone,Frame.atR]at this;simp at this
   obtain⟨k₁,N⟩:=u.2 hs;exact⟨k₁,A (j (fun e=>by cases e)) N⟩
 |exit id=>exact⟨_,C,J,B,.of_steps U (.pass (x:=.inLoop c) rfl (fun _ _=>.inl (by simp)) y)⟩
 |goto l=>exact⟨_,C,J,B,.of_steps U (.pass (x:=.inLoop c) rfl (fun _ _=>.inl (by simp)) y)⟩
 |ret=>exact⟨_,C,J,B,.of_steps U (.pass (x:=.inLoop c) rfl (fun _ _=>.inl (by simp)) y)⟩
 |panic ch=>exact⟨_,C,J,B,.of_steps U (.pass (x:=.inLoop c) rfl (fun _ _=>.inl (by simp)) y)⟩
 |outgrown=>exact⟨_,C,J,B,.of_steps U (.pass (x:=.inLoop c) rfl (fun _ _=>.inl (by simp)) y)⟩

section
variable {P:Program}{X:eC}{E:Ev}

def oO(P:Program)(c:Code)(fr:Fr)(s:St)(ex:Ex)(fr':Fr)(s':St):Prop:=
 fr'.n=fr.n/\fr'.rd=fr.rd/\(s.nx<=s'.nx/\(Wf s->Wf s'))/\∀{μ:Mu}{w:World}{a:Act}{ro:Option Nat}(n:Nat){Q:Exit->Act->World->Prop},bU μ s w->TR μ fr.n fr.T a.tmps->DM μ fr.ms a.defers->Xj μ fr.rd ro->iP μ s s'->
  (∀μ' w' a',bU μ' s' w'->fo μ s w μ' s' w'->TR μ' fr'.n fr'.T a'.tmps->DM μ' fr'.ms a'.defers->Q (pI ex) a' w')->c.wpIn (Fw ro) n P Q a w

theorem GM{μ s s1 s'}(h:iP μ s s')(j:s1.nx<=s'.nx):iP μ s s1:=fun o a b=>h o a (by omega)
theorem ue{μ μ1 s s1 s' w u}(h:iP μ s s')(t:fo μ s w μ1 s1 u):iP μ1 s1 s':=fun o a b=>by
 cases hm:μ1 o with
 |none=>rfl
 |some l=>
  exfalso;have hn:=t.nx;by_cases j:μ o=none
  ·have:=t.dom o j (by rw[hm];simp);omega
  exact j (h o (by omega) b)
theorem oO.seq{c1 c2 fr fr1 fr2 s s1 s2 ex}(j:oO P c1 fr s .normal fr1 s1)(u:oO P c2 fr1 s1 ex fr2 s2):
  fr2.n=fr.n/\fr2.rd=fr.rd/\(s.nx<=s2.nx/\(Wf s->Wf s2))/\∀{μ:Mu}{w:World}{a:Act}{ro:Option Nat}(n:Nat){Q:Exit->Act->World->Prop},bU μ s w->TR μ fr.n fr.T a.tmps->DM μ fr.ms a.defers->Xj μ fr.rd ro->iP μ s s2->
  (∀μ' w' a',bU μ' s2 w'->fo μ s w μ' s2 w'->TR μ' fr2.n fr2.T a'.tmps->DM μ' fr2.ms a'.defers->Q (pI ex) a' w')->c1.wpIn (Fw ro) n P (Exit.then (fun a w=>c2.wpIn (Fw ro) n P Q a w) Q) a w:=by
 refine⟨u.1.trans j.1,u.2.1.trans j.2.1,⟨EM j.2.2.1.1 u.2.2.1.1,fun U=>u.2.2.1.2 (j.2.2.1.2 U)⟩,?_⟩;intro μ w a ro n Q N hT hD B A J;refine j.2.2.2 n N hT hD B (GM A u.2.2.1.1) ?_;intro μ1 w1 a1 Y t1 x d1;refine u.2.2.2 n Y x d1 (by rw[j.2.1];exact B.mono t1.sub) (ue A t1) ?_;intro μ2 w2 C Z t2 y d2;exact J μ2 w2 C Z (t1.trans t2) y d2

theorem KQ(hl:laidOutB P=true)(a0:P.follows .mixedOrders=true)(S:dJ P E)(hM:kG P X){id:Nat}{ops:Array Oper}{fr:Fr}{s s':St}{T':Tr AV}(draw:Bool)
  (h:(match draw with|true=>ug P X E fr.n ops.toList fr.T s|false=>nr P X E fr.n ops.toList ops.toList fr.T s)=some (T',s')):oO P (.region id ops draw) fr s .normal { fr with T:=T' } s':=by
 cases draw with
 |false=>
  simp only at h;have gr:∀(os:List Oper)(T T':Tr AV)(s s':St),nr P X E fr.n ops.toList os T s=some (T',s')->be s s':=by
   intro os
   induction os with
   |nil=>intro T T' s s' h;simp only[nr,iD,Gt]at h;rw[h.2];exact be.refl _
   |cons o os ih=>
    intro T T' s s' h;simp only[nr]at h;split at h
    ·split at h
     ·next a4=>
      split at h
      ·exact(sR S a4).trans (ih _ _ _ _ h)
      cases h
     cases h
    ·split at h
     ·exact ih _ _ _ _ h
     cases h
    cases h
  refine⟨rfl,rfl,gr _ _ _ _ _ h,?_⟩;intro μ w a ro n Q hR hT hD hO hF hQ;refine wpIn_region ?_;have:=Gi (ro:=ro) (n:=n) (Q:=Q) hl S hM (fun h=>(sR S h).1) ops.toList 0 (a:=a) (by simp) h hR hT hF (fun μ' w' a' r t tr hd=>hQ μ' w' a' r t tr (by rw[hd];exact hD.mono t.sub));rw[List.range_eq_range'];simpa using this
 |true=>
  simp only[ug]at h;split at h
  ·next M av=>
   split at h
   ·next tr T1 s1 a6=>
    obtain⟨al,h⟩:=ah h;cases h;obtain⟨V,TT,SS,g1,B,g3,J,g5,R⟩:=yI _ _ _ a6;have hS:=tQ av;have ad:=R.grows_to S (No ops.toList.length) (cC _);rw[B,J]at ad;refine⟨rfl,rfl,ad,?_⟩;intro μ w a ro n Q hR hT hD hO hF hQ;refine wpIn_region_any a0 ?_;have hW:∀i,i<=ops.toList.length->Wf (SS i):=fun i hi=>(R.grows_to S (No i) hi).2 (by rw[B];exact hR.wf);have a5:ops.size=ops.toList.length:=by simp
    rw[a5];have N:∀j,¬Ld (Array.replicate ops.toList.length false) j:=by intro j;unfold Ld;rw[Array.getD_eq_getD_getElem?,Array.getElem?_replicate];split<;>simp
    have a7:∀o1 x1,μ o1≠none->(OV ops.toList V TT SS 0).get o1=some x1->s.h.get o1=some x1:=by
     intro o1 x1 hm e;rw[jI R S (No _) (fun j _ y am=>?_),B]at e
     ·exact e
     obtain⟨o2,ob,ff,A,_,_,u,_⟩:=R.makes y;have hj:=(dO.1 A).1;have Z:=(R.grows_to S (No j) (by omega)).1;have a2:=(R.grows_to S (show j+1<=ops.toList.length by omega) (cC _)).1;have a3:(SS (j+1)).nx=(SS j).nx+1:=by rw[u];rfl
     rw[B]at Z;rw[J]at a2;exact hm (am▸hF (SS j).nx (by omega) (by omega))
    have U:bU μ (SP ops.toList V TT SS 0) w.drew:=by
     refine IK R S (No _) (hW 0 (No _)) (by rw[B];exact hR.drew) (fun j _ y C=>?_) (fun j j' p p' _ _ y _ C _ _=>?_)
     ·exfalso;obtain⟨o2,ob,ff,A,_,_,u,_⟩:=R.makes y;have hj:=(dO.1 A).1;have Z:=(R.grows_to S (No j) (by omega)).1;have a2:=(R.grows_to S (show j+1<=ops.toList.length by omega) (cC _)).1;have a3:(SS (j+1)).nx=(SS j).nx+1:=by rw[u];rfl
      rw[B]at Z;rw[J]at a2;exact C (hF (SS j).nx (by omega) (by omega))
     exfalso;obtain⟨o2,ob,ff,A,_,_,u,_⟩:=R.makes y;have hj:=(dO.1 A).1;have Z:=(R.grows_to S (No j) (by omega)).1;have a2:=(R.grows_to S (show j+1<=ops.toList.length by omega) (cC _)).1;have a3:(SS (j+1)).nx=(SS j).nx+1:=by rw[u];rfl
     rw[B]at Z;rw[J]at a2;rw[hF (SS j).nx (by omega) (by omega)]at C;cases C
    have Y:fo μ (SS 0) w μ (SP ops.toList V TT SS 0) w.drew:=by
     refine⟨lJ.refl μ,fun _ h h'=>absurd h h',?_,rfl,rfl,rfl,cC _,fun _ _ _=>rfl,fun o1 x1 p1 e1 e2=>.inr ⟨o1,x1,p1,?_,e2,rfl⟩,fun o1 h1 h2=>?_,fun _ _ _ h=>.inl h⟩
     ·exact(R.grows_to S (No _) (cC _)).1
     ·rw[B];exact a7 o1 x1 (by rw[e2];simp) e1
     show(OV ops.toList V TT SS 0).get o1=_;refine jI R S (No _) (fun j _ y am=>?_);obtain⟨o2,ob,ff,A,_⟩:=R.makes y;have hj:=(dO.1 A).1;have Z:=(R.grows_to S (No j) (by omega)).1;omega
    have I0:UN M ops.toList V TT SS fr.n μ w a.defers (Array.replicate ops.toList.length false) a w.drew μ 0:= ⟨No _,fun p o h=>by omega,fun p o _ _ _=>N p,fun j k h=>absurd h (N j),U,Y,fun o h h'=>absurd h h',fun i hm _=>x9 R S (No _) (No _) hm,hT.1,fun j o t _ h=>absurd h (N j),fun t x h1 _=>hT.2 t x (by rw[<-g1];exact h1),rfl⟩;refine WS (ds:=a.defers) (μ0:=μ) (w0:=w) hl S hM R hS (by rw[J];rw[g5]at al;exact al) hW (by rw[B,J];exact hF) ?_ ops.toList.length (Array.replicate ops.toList.length false) a w.drew μ 0 (by simp) I0 (Cv _);intro μ' w' a' r t an hd;rw[J]at r t;rw[B]at t;rw[g3]at an;exact hQ μ' w' a' r t an (by rw[hd];exact hD.mono t.sub)
   cases h
  cases h
end
end
section
section
variable {P:Program}{X:eC}{E:Ev}

theorem OX{μ s w}(h:bU μ s w){l p}(hm:μ l=some (.at_ p)){st j fn n T ps asn body ds}(J:s.h.get l=some (.loop st j fn n T ps asn body ds))(A:st≠.busy): ∃w',(Instr.endLoop p.blk).run P w=.ok j w'/\bU μ (s.set l (.loop .over j fn n T ps asn body ds)) w'/\fo μ s w μ (s.set l (.loop .over j fn n T ps asn body ds)) w':=by have y:=h.obj l _ J (by rw[hm];simp);simp only[OR]at y;obtain⟨p',q,N,u,B,Z,g3,C⟩:=y;rw[hm]at B;cases B;obtain⟨U,Y⟩:=fy (x:=.loop .over j fn n T ps asn body ds) (O:=.loop { state:=.exhausted,pending:=j,fn:=u,tmps:=N,params:=ps.toArray,assign:=asn,body:=body,defers:=q.blk }) h J hm C (by simp) (fun w' hw=>by simp only[OR];exact⟨p,q,N,u,hm,Z,g3,hw⟩);exact⟨_,run_endLoop C (by simp;cases st<;>simp[Yi]at A⊢),U,Y⟩

theorem NQ(S:dJ P E){f ps asn body fr fr' s s' ex}(h:dI P X E (.rangeFunc f ps asn body) fr s=some (ex,fr',s')):oO P (.rangeFunc f ps asn body) fr s ex fr' s':=by
 simp only[dI]at h;split at h
 ·next g fs cs hf=>
  split at h
  ·next ds fr1 s1 j=>
   split at h
   ·next v s2 hc=>
    have a4:be (s1.new (.loop .ready none fr.fn fr.n fr.T ps.toList asn body ds)) s2:=(S.call hc).1.2;have bm:be s s1:=by
     split at j
     ·split at j
      ·cases j;exact be.refl _
      cases j
     cases j;exact be.new _ _
    have J:fr1.n=fr.n/\fr1.rd=fr.rd/\fr1.T=fr.T:=by
     split at j
     ·split at j
      ·cases j;exact⟨rfl,rfl,rfl⟩
      cases j
     cases j;exact⟨rfl,rfl,rfl⟩
    have a1:be s s2:=(bm.trans (be.new _ _)).trans a4
    have fin:∀(st:LS)(pe:Option Code)(Z:FuncId)(n0:Nat)(T0:Tr AV)(al:List Tmp)(C y:Code)(Y:Nat),s2.h.get s1.nx=some (.loop st pe Z n0 T0 al C y Y)->st≠.busy->
      (pe.map fun c=>match c with|.ret=>some Ex.ret|.exit id=>some (.exit id)|_=>none).getD (some .normal)=some ex->fr'=fr1->s'=s2.set s1.nx (.loop .over pe Z n0 T0 al C y Y)->oO P (.rangeFunc f ps asn body) fr s ex fr' s':=by
     intro st pe Z n0 T0 al C y Y ho b0 U bf bB;subst bf;subst bB;refine⟨J.1,J.2.1,a1.trans (be.set _ ho),?_⟩;intro μ w a ro n Q hR hT hD hO hF hQ;have a9:=(S.call hc).1.1;have a3:=mC hT f _ hf;simp only[VR]at a3;obtain⟨a0,av,ef,bj,ba⟩:=a3;refine wpIn_rangeFunc fun A _=>?_;have a6:iP μ s s2:=hF;obtain⟨l,mark,w1,μ1,a2,a7,ad,bn,bd⟩:∃l mark w1 μ1,(Instr.enterLoop A a.tmps ps asn body (Fw ro).round).run P w=.ok (l,mark) w1/\bU μ1 (s1.new (.loop .ready none fr.fn fr.n fr.T ps.toList asn body ds)) w1 /\ fo μ s w μ1 (s1.new (.loop .ready none fr.fn fr.n fr.T ps.toList asn body ds)) w1/\(∃p,μ1 s1.nx=some (.at_ p)/\p.blk=l)/\DM μ1 fr'.ms (mark++a.defers):=by
      have n1:=a4.1;have n2:(s1.new (.loop .ready none fr.fn fr.n fr.T ps.toList asn body ds)).nx=s1.nx+1:=rfl;split at j
      ·next lr hrd=>
       split at j
       ·next b2 bo=>
        cases j;rw[hrd]at hO;obtain⟨p,N,rfl⟩:=hO;have a5:=hR.obj lr _ bo (by rw[N];simp);simp only[OR]at a5;obtain⟨p',q,tm,b3,g1,g2,g3,g4⟩:=a5;rw[N]at g1;cases g1;have x:μ s.nx=none:=hF s.nx (cC _) (by show s.nx<s2.nx;omega);obtain⟨r1,r2⟩:=hR.new x (.loop { state:=.ready,pending:=none,fn:=A,tmps:=a.tmps,params:=ps,assign:=asn,body:=body,defers:=q.blk }) (.loop .ready none _ _ _ ps.toList asn body ds) ⟨w.heap.size,0,0⟩ rfl (by simp only[OR];exact⟨_,q,a.tmps,A,Mu.with_same _ _ _,Mu.sub_with _ x _ _ g2,hT.mono (Mu.sub_with _ x),by rw[aAn];exact ir w _⟩);refine⟨w.heap.size,[],_,_,run_enterLoop_inner g4 A a.tmps ps asn body,r1,r2,⟨_,Mu.with_same _ _ _,rfl⟩,hD.mono r2.sub⟩
       cases j
      next hrd=>
      cases j;rw[hrd]at hO;cases hO;have x:μ s.nx=none:=hF s.nx (cC _) (by have:(s.new AO.defs).nx=s.nx+1:=rfl;show s.nx<s2.nx;omega);obtain⟨r1,r2⟩:=hR.new x (.deferred (some [])) .defs ⟨w.heap.size,0,0⟩ rfl (by simp only[OR];exact⟨_,Mu.with_same _ _ _,ir w _⟩);have u:(μ.with s.nx (.at_ ⟨w.heap.size,0,0⟩)) (s.new .defs).nx=none:=by rw[Mu.with_ne _ _ (by simp[St.new])];exact hF _ (by simp[St.new]) (by show(s.new .defs).nx<s2.nx;omega)
      obtain⟨r3,r4⟩:=r1.new u (.loop { state:=.ready,pending:=none,fn:=A,tmps:=a.tmps,params:=ps,assign:=asn,body:=body,defers:=w.heap.size }) (.loop .ready none fr.fn fr.n fr.T ps.toList asn body s.nx) ⟨w.heap.size+1,0,0⟩ (by simp) (by simp only[OR];refine⟨_,⟨w.heap.size,0,0⟩,a.tmps,A,Mu.with_same _ _ _,Mu.sub_with _ u _ _ (Mu.with_same _ _ _),hT.mono (r2.sub.trans (Mu.sub_with _ u)),?_⟩;rw[aAn];have:=ir (w.alloc (.deferred (some []))) (.loop { state:=.ready,pending:=none,fn:=A,tmps:=a.tmps,params:=ps,assign:=asn,body:=body,defers:=w.heap.size });rw[aAx]at this;exact this);refine⟨w.heap.size+1,[{ target:=.collected w.heap.size,args:=#[] }],_,_,run_enterLoop_outer A a.tmps ps asn body,r3,r2.trans r4,⟨_,Mu.with_same _ _ _,rfl⟩,?_⟩;exact⟨⟨w.heap.size,0,0⟩,a.defers,Mu.sub_with _ u _ _ (Mu.with_same _ _ _),rfl,hD.mono (r2.trans r4).sub⟩
     obtain⟨p,N,rfl⟩:=bn;have b1:VR μ1 (.yl s1.nx) (.func (.yield p.blk) #[] #[]):=by simp only[VR];exact⟨p,N,rfl⟩
     have am:=(ap.mono ad.sub _ bj).append (ap.cons b1 (ap.mono ad.sub _ ba));refine⟨p.blk,mark,w1,{ target:=.fn (.func g) av.toArray,args:=a0.toArray++#[.func (.yield p.blk) #[] #[]] },w1,g,(a0++.func (.yield p.blk) #[] #[]::av).toArray,w1,a2,?_,fun _ _=>trivial,?_,(fun e=>by cases e),?_⟩
     ·simp only[resolve,ef,Deferred.ofValue,aAr];simp[Act.eval]
     ·simp only[invoke];rw[a9];congr 2;apply aDa;simp
     have an:=(S.call hc).2 (n-1) a7 am (ue (s1:=s1.new (.loop .ready none fr.fn fr.n fr.T ps.toList asn body ds)) a6 ad);refine aCi (F:=Fw ro) an ?_;rintro e2 w3 ⟨v',μ2,rfl,r2,t2,_⟩;have bx:=t2.sub _ _ N;obtain⟨w4,k1,k2,k3⟩:=OX (P:=P) r2 bx ho b0;have tt:=(ad.trans t2).trans k3;refine⟨pe,w4,k1,?_⟩;have hq:=hQ μ2 w4 { a with defers:=mark++a.defers } k2 tt (by rw[J.1,J.2.2];exact hT.mono tt.sub) (bd.mono t2.sub);cases pe with
     |none=>simp only[aCA,Option.getD_none,iD]at U;subst U;exact hq
     |some c=>
      simp only[AC,aEb]at U;cases c<;>simp only at U<;>(try cases U)
      ·exact wpIn_exit hq
      exact wpIn_ret hq
    split at h
    ·cases h
    ·next pe Z n0 T0 al C y Y st B ho=>
     split at h
     ·cases h;exact fin _ none _ _ _ _ _ _ _ ho (fun e=>by subst e;exact B rfl) rfl rfl rfl
     ·cases h;exact fin _ (some .ret) _ _ _ _ _ _ _ ho (fun e=>by subst e;exact B rfl) rfl rfl rfl
     ·next id=>cases h;exact fin _ (some (.exit id)) _ _ _ _ _ _ _ ho (fun e=>by subst e;exact B rfl) rfl rfl rfl
     cases h
    cases h
   cases h
  cases h
 cases h
end
end
section
def Vv(P:Program)(X:eC):Prop:=∀{f g},X.orc f=some g->∀{args s v s'},g args s=some (v,s')->(oP P f/\s.nx<=s'.nx/\(Wf s->Wf s'))/\∀{μ:Mu}{w:World}{vs:List Value}(n:Nat),bU μ s w->ap μ args vs->iP μ s s'->
  CallsIn Fence.wide n P f vs.toArray w fun e w'=>∃v' μ',e=.returned v'/\bU μ' s' w'/\fo μ s w μ' s' w'/\VR μ' v v'

section
variable {P:Program}{X:eC}{E:Ev}

theorem Ud(hl:laidOutB P=true)(ad:P.follows .mixedOrders=true)(S:dJ P E)(hM:kG P X){c fr fr' s s' ex}(h:dI P X E c fr s=some (ex,fr',s')):oO P c fr s ex fr' s':=by
 have sub:∀{c fr s ex fr' s'},E.code c fr s=some (ex,fr',s')->oO P c fr s ex fr' s':=fun h=>S.code h;cases c with
 |skip=>simp only[dI,iD,Gt]at h;obtain⟨rfl,rfl,rfl⟩:=h;exact⟨rfl,rfl,be.refl _,fun n _ u hT hD A y j=>wpIn_skip (j _ _ _ u (fo.refl _ _ _) hT hD)⟩
 |label l=>simp only[dI,iD,Gt]at h;obtain⟨rfl,rfl,rfl⟩:=h;exact⟨rfl,rfl,be.refl _,fun n _ u hT hD A y j=>wpIn_label (j _ _ _ u (fo.refl _ _ _) hT hD)⟩
 |ret=>simp only[dI,iD,Gt]at h;obtain⟨rfl,rfl,rfl⟩:=h;exact⟨rfl,rfl,be.refl _,fun n _ u hT hD A y j=>wpIn_ret (j _ _ _ u (fo.refl _ _ _) hT hD)⟩
 |exit id=>simp only[dI,iD,Gt]at h;obtain⟨rfl,rfl,rfl⟩:=h;exact⟨rfl,rfl,be.refl _,fun n _ u hT hD A y j=>wpIn_exit (j _ _ _ u (fo.refl _ _ _) hT hD)⟩
 |seq a b=>
  simp only[dI]at h;split at h
  ·next fr1 s1 Y=>
   obtain⟨B,C,J,N⟩:=(sub Y).seq (sub h);exact⟨B,C,J,fun n _ u hT hD A y j=>wpIn_seq (N n u hT hD A y j)⟩
  next U=>
  obtain⟨B,C,J,N⟩:=sub h;refine⟨B,C,J,fun n Q u hT hD A y j=>wpIn_seq (N n u hT hD A y fun μ' w' a' r t tr d=>?_)⟩;cases ex with
  |normal=>exact(U fr' s' h).elim
  |exit id=>exact j μ' w' a' r t tr d
  |ret=>exact j μ' w' a' r t tr d
 |cond c a b=>
  simp only[dI]at h;split at h
  ·next hc=>
   obtain⟨B,C,J,N⟩:=sub h;refine⟨B,C,J,fun n Q u hT hD A y j=>aEp ?_ (N n u hT hD A y j)⟩;have:=mC hT c _ hc;simpa only[VR]using this
  ·next hc=>
   obtain⟨B,C,J,N⟩:=sub h;refine⟨B,C,J,fun n Q u hT hD A y j=>aEl ?_ (N n u hT hD A y j)⟩;have:=mC hT c _ hc;simpa only[VR]using this
  cases h
 |block id c=>
  simp only[dI]at h;split at h
  ·next Z fr1 s1 Y=>
   obtain⟨B,C,J,N⟩:=sub Y;cases hb:Nat.beq Z id with
   |true=>rw[hb]at h;cases h;have:=ID hb;subst this;exact⟨B,C,J,fun n Q u hT hD A y j=>aEg (N n u hT hD A y fun μ' w' a' r t tr d=>by simp only[pI,Exit.inBlock,aBh];exact j μ' w' a' r t tr d)⟩
   |false=>rw[hb]at h;cases h;have:=BW.1 hb;exact⟨B,C,J,fun n Q u hT hD A y j=>aEg (N n u hT hD A y fun μ' w' a' r t tr d=>by simp only[pI,Exit.inBlock,iF this];exact j μ' w' a' r t tr d)⟩
  next U=>
  obtain⟨B,C,J,N⟩:=sub h;refine⟨B,C,J,fun n Q u hT hD A y j=>aEg (N n u hT hD A y fun μ' w' a' r t tr d=>?_)⟩;cases ex with
  |normal=>exact j μ' w' a' r t tr d
  |exit Z=>exact(U Z fr' s' h).elim
  |ret=>exact j μ' w' a' r t tr d
 |loop c=>
  simp only[dI]at h;have only:∀(Q:Exit->Act->World->Prop),Rc (fun e a w=>(∃x,e=pI x)/\Q e a w):=fun Q e a w h=>h.1;split at h
  ·next fr1 s1 Y=>
   obtain⟨B,C,J,N⟩:=(sub Y).seq (sub h);refine⟨B,C,J,fun n Q u hT hD A y j=>wpIn_mono (kQ (only Q) (N n (Q:=fun e a w=>(∃x,e=pI x)/\Q e a w) u hT hD A y fun μ' w' a' r t tr d=>⟨⟨_,rfl⟩,j μ' w' a' r t tr d⟩)) fun e a w h=>h.2⟩
  next U=>
  obtain⟨B,C,J,N⟩:=sub h;refine⟨B,C,J,fun n Q u hT hD A y j=>wpIn_mono (kQ (only Q) (N n u hT hD A y fun μ' w' a' r t tr d=>?_)) fun e a w h=>h.2⟩;cases ex with
  |normal=>exact(U fr' s' h).elim
  |exit id=>exact⟨⟨_,rfl⟩,j μ' w' a' r t tr d⟩
  |ret=>exact⟨⟨_,rfl⟩,j μ' w' a' r t tr d⟩
 |region id ops draw=>
  simp only[dI]at h;split at h
  ·next T1 s1 Y=>
   cases h;exact KQ hl ad S hM draw Y
  cases h
 |rangeFunc f ps asn body=>exact NQ S h
 |goto l=>simp[dI]at h
 |scope c=>simp only[dI]at h;obtain⟨B,C,J,N⟩:=sub h;refine⟨B,C,J,fun n Q u hT hD A y j=>Fq (N n u hT hD A y fun μ' w' a' r t tr d=>?_)⟩;have:=j μ' w' a' r t tr d;cases ex<;>exact this
 |refuse why=>simp[dI]at h

theorem RS{μ s w}(h:bU μ s w){r p}(hm:μ r=some (.at_ p))(y:s.h.get r=some .defs):∃w',(Instr.takeDeferred p.blk).run P w=.ok [] w'/\bU μ (s.drop r) w'/\fo μ s w μ (s.drop r) w':=by
 have u:=h.obj r _ y (by rw[hm];simp);simp only[OR]at u;obtain⟨Y,C,J⟩:=u;rw[hm]at C;cases C;refine⟨_,run_takeDeferred J,Ba h rfl ⟨?_,?_⟩⟩
 ·have hd:=h.drop r
  have j:∀o x,(s.drop r).h.get o=some x->s.h.get o=some x/\o≠r:=fun o x e=>by
   simp only[St.drop,Tr.get_set]at e;split at e
   ·cases e
   next B=>exact⟨e,B⟩
  refine⟨fun o x e m=>(hd.obj o x e m).keep (lJ.refl μ) (by rw[World.putObj_size];exact cC _) (fun q hq=>World.putObj_heap_other fun eb=>?_) (fun A m' c hq ad hA hpos hlt=>World.putObj_heap_other fun eb=>?_),hd.inj,hd.nat,hd.wf⟩
  ·exact(j o x e).2 (h.inj o r x _ q p (j o x e).1 y hq hm eb)
  obtain⟨N,rfl⟩:=(hd.obj o x e m).val hq;subst hA;exact h.nat o N _ m' c r _ p (j o _ e).1 hq y hm ad m' c rfl hpos eb
 have t:=fo.drop μ s w r (by rw[hm];simp);exact⟨t.sub,t.dom,t.nx,rfl,rfl,rfl,by rw[World.putObj_size];exact cC _,fun g U hn=>World.putObj_heap_other fun eb=>hn r _ p y hm eb.symm,t.own,t.keep,t.fz⟩
theorem sY{fn tmps n R μ}:∀(ms:List Nat)(ds:List Deferred)(s:St)(w:World),bU μ s w->DM μ ms ds->jh s ms=true -> (∀w',bU μ (ms.foldl St.drop s) w'->fo μ s w μ (ms.foldl St.drop s) w'->LeavesInM Fence.wide n P fn tmps R [] .returning w')->LeavesInM Fence.wide n P fn tmps R ds .returning w
 | [],ds,s,w,hR,hD,_,h=>by simp only[DM]at hD;subst hD;exact h w hR (fo.refl _ _ _)
 |r::ms,ds,s,w,hR,hD,j,h=>by
  obtain⟨p,u,hm,rfl,x⟩:=hD;simp only[jh,gE,aAA,aDt,aAs]at j;obtain⟨⟨k1,N⟩,U⟩:=j;have J:s.h.get r=some .defs:=by
   split at k1
   ·assumption
   cases k1
  obtain⟨w',A,B,C⟩:=RS (P:=P) hR hm J;refine⟨by simp,.inl ⟨p.blk,w',rfl,A,?_⟩⟩;have y:jh (s.drop r) ms=true:=by
   have:∀ms:List Nat,¬r∈ms->jh s ms=true->jh (s.drop r) ms=true:=by
    intro ms
    induction ms with
    |nil=>intro _ _;rfl
    |cons r' ms ih=>intro hn j;simp only[Is,not_or]at hn;simp only[jh,gE]at j⊢;refine⟨⟨?_,j.1.2⟩,ih hn.2 j.2⟩;simp only[St.drop];rw[Tr.get_set_ne _ _ (aEt hn.1)];exact j.1.1
   exact this ms N U
  exact sY ms u (s.drop r) w' B x y fun Z Y t2=>h Z Y (C.trans t2)

theorem xw:∀(ms:List Nat)(s:St),be s (ms.foldl St.drop s)
 | [],s=>be.refl s
 |r::ms,s=>(be.drop s r).trans (xw ms _)
def sJ(tm:Array Value):ResultVar->Sem Value:=fun
 | .tmp t=>pure (tm.getD t undef)
 | .cell a t=>do loadVar t (<-asAddr (tm.getD a undef))
theorem vZ(fn:Func)(j:Array Value):results fn j=(do let vs <-fn.results.mapM (sJ j);pure (if h:vs.size=1 then vs[0]else .tuple vs)):=rfl
theorem AX{μ s w}(h:bU μ s w){T nt C}(hT:TR μ nt T C):∀{B:List ResultVar}{l:List AV},nc P T s B=some l -> ∃m,(B.mapM (sJ C)).run P w=.ok m w/\ap μ l m
 | [],l,h1=>by simp only[nc,iD]at h1;subst h1;exact⟨[],rfl,ap.nil_⟩
 |r::B,l,h1=>by
  simp only[nc]at h1;split at h1
  ·next v x=>
   simp only[iN]at h1;obtain⟨l',Y,rfl⟩:=h1;obtain⟨m,N,U⟩:=AX h hT Y;have one:∃y,(sJ C r).run P w=.ok y w/\VR μ v y:=by
    cases r with
    |tmp t=>obtain⟨y,k1,j⟩:=hT.2 t v x;exact⟨y,by simp[sJ,k1],j⟩
    |cell a t=>
     simp only[F7]at x;split at x
     ·next Z hp=>
      obtain⟨y,k1,j⟩:=hT.2 a Z hp;obtain⟨z,A,J⟩:=wM h x j;have u:=x;unfold ju at u;split at u
      ·simp only[VR]at j;obtain⟨p,_,rfl⟩:=j;simp only[Instr.loadAt,Instr.sureAddr,Le,aAr,BY]at A;exact⟨z,by simp[sJ,k1,asAddr,A],J⟩
      ·simp only[VR]at j;obtain⟨b,base,cs,rfl,_⟩:=j;simp only[Instr.loadAt,Instr.sureAddr,Le,aAr,BY]at A;exact⟨z,by simp[sJ,k1,asAddr,A],J⟩
      cases u
     cases x
   obtain⟨y,k1,j⟩:=one;refine⟨y::m,?_,ap.cons j U⟩;rw[aBb,Le,k1];simp only[BY,Le,N,aAr]
  cases h1

theorem Ui(hO:Vv P X)(S:dJ P E){f args s s' v}(h:pY P X E f args s=some (v,s')):(oP P f/\s.nx<=s'.nx/\(Wf s->Wf s'))/\∀{μ:Mu}{w:World}{B:List Value}(n:Nat),bU μ s w->ap μ args B->iP μ s s' -> CallsIn Fence.wide n P f B.toArray w fun e w'=>∃A μ',e=.returned A/\bU μ' s' w'/\fo μ s w μ' s' w'/\VR μ' v A:=by
 unfold pY at h;split at h
 ·next g hg=>exact hO hg h
 split at h
 ·next fn al=>
  split at h
  ·next c hc=>
   obtain ⟨ad,h⟩:=ah h;simp only [gE,aAv,aAA] at ad;obtain ⟨a4,U⟩:=ad;have J:¬ fn.name = "runtime.NumGoroutine":=by simpa using U
   have a0:oP P f:=fun args w=>by simp[callFunc,al,J,hc]
   have main:∀(ex:Ex)(fr:Fr)(s1:St)(l:List AV),E.code c ⟨f,fn.ntmps,Tr.ofList args,none,[]⟩ s=some (ex,fr,s1)->(ex=.normal∨ex=.ret)->jh s1 fr.ms=true->nc P fr.T (fr.ms.foldl St.drop s1) fn.results.toList=some l->s'=fr.ms.foldl St.drop s1->(l=[v]∨(l.length≠1/\v=.tup l))->
     (oP P f/\s.nx<=s'.nx/\(Wf s->Wf s'))/\∀{μ:Mu}{w:World}{B:List Value}(n:Nat),bU μ s w->ap μ args B->iP μ s s'->
     CallsIn Fence.wide n P f B.toArray w fun e w'=>∃A μ',e=.returned A/\bU μ' s' w'/\fo μ s w μ' s' w'/\VR μ' v A:=by
    intro ex fr s1 l j hex C u N hv;obtain⟨g1,g2,g3,g4⟩:=S.code j;have gd:=xw fr.ms s1;have Z:be s s':=by rw[N];exact be.trans g3 gd
    refine⟨⟨a0,Z⟩,?_⟩;intro μ w B n hR an hF;have a5:=an.length;refine callsIn_of_wp_marks (F:=Fence.wide) al hc trivial ?_ rfl;have av:TR μ fn.ntmps (Tr.ofList args) (B.toArray++Array.replicate (fn.ntmps-B.toArray.size) undef):=by refine⟨by simp;omega,fun t x hx=>?_⟩;rw[Tr.get_ofList]at hx;obtain⟨y,h1,h2⟩:=an.get hx;refine⟨y,?_,h2⟩;have hlt:=(dO.1 h1).1;rw[aDk];rw[oR (by simpa using hlt)];simpa using h1
    refine g4 (ro:=none) (a:={ tmps:=B.toArray++Array.replicate (fn.ntmps-B.toArray.size) undef,defers:=[] }) n hR av (by simp[DM]) rfl (fun o a b=>hF o a (by have:=gd.1;rw[N];omega)) ?_;intro μ1 w1 a1 r1 t1 a3 d1;have post:LeavesInM Fence.wide n P fn a1.tmps (fun e w'=>∃A μ',e=.returned A/\bU μ' s' w'/\fo μ s w μ' s' w'/\VR μ' v A) a1.defers .returning w1:=by
     refine sY fr.ms a1.defers s1 w1 r1 d1 C fun w2 r2 t2=>?_;obtain⟨m,k1,k2⟩:=AX (P:=P) r2 a3 u;have am:∃A,(results fn a1.tmps).run P w2=.ok A w2/\VR μ1 v A:=by
      rw[vZ,aCQ];simp only[Le,Sem.run_map,k1];rcases hv with rfl|⟨Y,rfl⟩
      ·simp only[ap]at k2;obtain⟨y,ys,rfl,hy,rfl⟩:=k2;exact⟨y,by simp,hy⟩
      have:m.length≠1:=by rw[<-k2.length];exact Y
      exact⟨.tuple m.toArray,by simp[this],by simp only[VR];exact⟨m,rfl,k2⟩⟩
     obtain⟨A,q1,q2⟩:=am;exact⟨A,q1,A,μ1,rfl,N▸r2,N▸(t1.trans t2),q2⟩
    rcases hex with rfl|rfl<;>exact post
   split at h
   ·cases h
   ·next ex fr s1 Y j=>
    obtain⟨C,h⟩:=ah h;have hex:ex=.normal∨ex=.ret:=by
     cases ex with
     |normal=>exact .inl rfl
     |exit id=>exact(Y id rfl).elim
     |ret=>exact .inr rfl
    split at h
    ·next v1 u=>cases h;exact main ex fr s1 [v] j hex C u rfl (.inl rfl)
    ·next l a2 u=>
     cases h;refine main ex fr s1 l j hex C u rfl (.inr ⟨fun e=>?_,rfl⟩);cases l with
     |nil=>simp at e
     |cons a l'=>
      cases l' with
      |nil=>exact a2 a rfl
      |cons b l''=>simp at e
    cases h
   cases h
  cases h
 cases h

theorem xM(hl:laidOutB P=true)(j:P.follows .mixedOrders=true)(u:kG P X)(x:Vv P X):∀k,dJ P (Ev.at_ P X k)
 |0=>⟨fun h=>(by cases h),fun h=>(by cases h)⟩
 |k+1=>⟨fun h=>Ui x (xM hl j u x k) h,fun h=>Ud hl j (xM hl j u x k) u h⟩

end
end
section
structure Kr(E E':Ev):Prop where
 call:∀{f a s r},E.call f a s=some r->E'.call f a s=some r
 code:∀{c fr s r},E.code c fr s=some r->E'.code c fr s=some r
section
variable {P:Program}{X:eC}{E E':Ev}
theorem MA(L:Kr E E'){l args s r}(h:eA E l args s=some r):eA E' l args s=some r:=by
 unfold eA at h⊢;split at h
 ·next B=>
  obtain⟨y,j⟩:=ah h;rw[y,EQ];clear h;split at j
  ·next u=>
   rw[L.code u];dsimp only;split at j
   ·next A=>
    split at j
    ·next x=>rw[L.code x];exact j
    cases j
   cases j
  cases j
 cases h
theorem WC(L:Kr E E'){ρ s o r}(h:iG P X E ρ s o=some r):iG P X E' ρ s o=some r:=by
 unfold iG at h⊢;split at h
 all_goals first
  |exact h
  |(split at h;(next j=>exact L.call h);(next j=>exact MA L h);(cases h))
  |(split at h;(next j u=>split at h;(next h3=>exact L.call h);(next h3=>split at h;(next h4=>exact L.call h);(cases h));(cases h));(cases h))
theorem Oq(L:Kr E E'){ρ s o r}(h:iW P X E ρ s o=some r):iW P X E' ρ s o=some r:=by
 unfold iW at h⊢;split at h
 ·next j=>exact h
 ·next j=>exact h
 next j=>exact WC L h
theorem Bd(L:Kr E E'){n all}:∀{os:List Oper}{T:Tr AV}{s:St}{r:Tr AV×St},nr P X E n all os T s=some r->nr P X E' n all os T s=some r
 | [],_,_,_,h=>h
 |o::os,T,s,r,h=>by
  simp only[nr]at h⊢;split at h
  ·next j=>
   split at h
   ·next u=>
    rw[Oq L u];dsimp only;split at h
    ·next x=>exact Bd L h
    cases h
   cases h
  ·next j=>
   split at h
   ·next x=>exact Bd L h
   cases h
  cases h
theorem vD(L:Kr E E'){n all}:∀{os:List Oper}{T:Tr AV}{s:St}{r:List (Option AV×Tr AV×St)×Tr AV×St},lR P X E n all os T s=some r->lR P X E' n all os T s=some r
 | [],_,_,_,h=>h
 |o::os,T,s,r,h=>by
  simp only[lR]at h⊢;split at h
  ·next u=>
   split at h
   ·next x=>
    rw[Oq L x];dsimp only;split at h
    ·next y=>
     split at h
     ·next j=>rw[vD L j];exact h
     cases h
    cases h
   cases h
  ·next u=>
   split at h
   ·next y=>
    split at h
    ·next j=>rw[vD L j];exact h
    cases h
   cases h
  cases h
theorem PV(L:Kr E E'){n ops T s r}(h:ug P X E n ops T s=some r):ug P X E' n ops T s=some r:=by
 unfold ug at h⊢;split at h
 ·next u=>
  split at h
  ·next j=>rw[vD L j];exact h
  cases h
 cases h
theorem P8(L:Kr E E'){c fr s r}(h:dI P X E c fr s=some r):dI P X E' c fr s=some r:=by
 cases c with
 |skip=>exact h
 |label l=>exact h
 |ret=>exact h
 |exit id=>exact h
 |goto l=>cases h
 |refuse w=>cases h
 |scope c=>simp only[dI]at h⊢;exact L.code h
 |seq a b=>
  simp only[dI]at h⊢;split at h
  ·next j=>rw[L.code j];exact L.code h
  next j=>rw[L.code h];split<;>simp_all
 |cond x a b=>
  simp only[dI]at h⊢;split at h
  ·exact L.code h
  ·exact L.code h
  cases h
 |block id c=>
  simp only[dI]at h⊢;split at h
  ·next j=>rw[L.code j];exact h
  next j=>rw[L.code h];split<;>simp_all
 |loop c=>
  simp only[dI]at h⊢;split at h
  ·next j=>rw[L.code j];exact L.code h
  next j=>rw[L.code h];split<;>simp_all
 |region id ops draw=>
  simp only[dI]at h⊢;split at h
  ·next j=>
   cases draw with
   |true=>simp only at j⊢;rw[PV L j];exact h
   |false=>simp only at j⊢;rw[Bd L j];exact h
  cases h
 |rangeFunc f ps asn body=>
  simp only[dI]at h⊢;split at h
  ·split at h
   ·split at h
    ·next u=>rw[L.call u];exact h
    cases h
   cases h
  cases h
theorem Qh(L:Kr E E'){f args s r}(h:pY P X E f args s=some r):pY P X E' f args s=some r:=by
 unfold pY at h⊢;split at h
 ·exact h
 split at h
 ·split at h
  ·obtain⟨A,j⟩:=ah h;rw[A,EQ];clear h;generalize u:E.code _ _ _=x at j;cases x with
   |none=>cases j
   |some y=>rw[L.code u];exact j
  cases h
 cases h
end
theorem se P X k:(Ev.at_ P X (k+1)).code=dI P X (Ev.at_ P X k):=rfl
theorem BX P X:∀k,Kr (Ev.at_ P X k) (Ev.at_ P X (k+1))
 |0=>⟨fun h=>(by cases h),fun h=>(by cases h)⟩
 |k+1=>⟨fun h=>Qh (BX P X k) h,fun h=>P8 (BX P X k) h⟩
theorem Kr.trans{E E' j}(h:Kr E E')(k:Kr E' j):Kr E j:=⟨fun x=>k.call (h.call x),fun x=>k.code (h.code x)⟩
theorem Qu P X{k}:∀{m:Nat},k<=m->Kr (Ev.at_ P X k) (Ev.at_ P X m)
 |0,h=>by
  obtain rfl:k=0:=by omega
  exact⟨id,id⟩
 |m+1,h=>by
  rcases By m k with j|j
  ·obtain rfl:k=m+1:=by omega
   exact⟨id,id⟩
  exact(Qu P X j).trans (BX P X m)
def Ci(P:Program)(X:eC)(c:Code)(fr:Fr)(s:St)(ex:Ex)(fr':Fr)(s':St):Prop:=∃k,(Ev.at_ P X k).code c fr s=some (ex,fr',s')
section
variable {P:Program}{X:eC}{c a b:Code}{fr fr1 fr2:Fr}{s s1 s2:St}{ex:Ex}
theorem Ci.of(h:∀E,dI P X E c fr s=some (ex,fr1,s1)):Ci P X c fr s ex fr1 s1:=⟨1,by rw[se];exact h _⟩
theorem Ci.seq(h:Ci P X a fr s .normal fr1 s1)(k:Ci P X b fr1 s1 ex fr2 s2):Ci P X (.seq a b) fr s ex fr2 s2:=by obtain⟨m,hm⟩:=h;obtain⟨n,hn⟩:=k;refine⟨max m n+1,?_⟩;rw[se];simp only[dI];rw[(Qu P X (Nat.le_max_left m n)).code hm];exact(Qu P X (Nat.le_max_right m n)).code hn
theorem Ci.block{id}(h:Ci P X a fr s .normal fr1 s1):Ci P X (.block id a) fr s .normal fr1 s1:=by obtain⟨m,hm⟩:=h;refine⟨m+1,?_⟩;rw[se];simp only[dI];rw[hm]
end
end
section
structure Fp(bb:Nat)(μ:Mu)(s:St)(w:World)(μ':Mu)(s':St)(w':World):Prop where
 base:∀o p,o<bb->μ o=some p->μ' o=some p
 fzm:∀b i v,μ.fz b i=some v->μ'.fz b i=some v
 os:w'.os=w.os
 tape:w'.tape=w.tape
 output:w'.output=w.output
 size:w.heap.size<=w'.heap.size
 blk:∀g,g<w.heap.size->(∀o x p,s.h.get o=some x->μ o=some (.at_ p)->p.blk≠g)->w'.heap[g]?=w.heap[g]?
 own:∀o x p,s'.h.get o=some x->μ' o=some (.at_ p)->w.heap.size<=p.blk∨∃o0 x0 p0,s.h.get o0=some x0/\μ o0=some (.at_ p0)/\p0.blk=p.blk
 fz:∀b i v,μ'.fz b i=some v->μ.fz b i=some v∨w.heap.size<=b∨(∃o x p,s.h.get o=some x/\μ o=some (.at_ p)/\p.blk=b)∨ko v=false
theorem fo.fp{bb μ μ' s s' w w'}(t:fo μ s w μ' s' w'):Fp bb μ s w μ' s' w':=⟨fun o p _ h=>t.sub o p h,t.sub.fz,t.os,t.tape,t.output,t.size,t.blk,t.own,t.fz⟩
theorem Fp.refl{bb}μ s w:Fp bb μ s w μ s w:=(fo.refl μ s w).fp
theorem Fp.trans{bb a b c s t u w v z}(h:Fp bb a s w b t v)(k:Fp bb b t v c u z):Fp bb a s w c u z:=by
 refine⟨fun o p Y hp=>k.base o p Y (h.base o p Y hp),fun b i v hv=>k.fzm b i v (h.fzm b i v hv),k.os.trans h.os,k.tape.trans h.tape,k.output.trans h.output,EM h.size k.size,fun g hg hn=>?_,fun o x p y A=>?_,fun b' i v hv=>?_⟩
 ·exact(k.blk g (TK hg h.size) fun o x p y A=>by
   rcases h.own o x p y A with j|⟨J,U,N,j,B,C⟩
   ·omega
   ·rw[<-C];exact hn J U N j B).trans (h.blk g hg hn)
 ·rcases k.own o x p y A with j|⟨J,U,N,j,B,C⟩
  ·exact .inl (EM h.size j)
  rw[<-C];exact h.own J U N j B
 rcases k.fz b' i v hv with j|j|⟨o,x,p,y,A,Z⟩|j
 ·exact h.fz b' i v j
 ·exact .inr (.inl (EM h.size j))
 ·rcases h.own o x p y A with j|⟨J,U,N,j,B,C⟩
  ·exact .inr (.inl (by omega))
  exact .inr (.inr (.inl ⟨J,U,N,j,B,C.trans Z⟩))
 exact .inr (.inr (.inr j))

structure At(μ:Mu)(fr:Fr)(s:St)(ro:Option Nat)(a:Act)(w:World):Prop where
 rel:bU μ s w
 tr:TR μ fr.n fr.T a.tmps
 dm:DM μ fr.ms a.defers
 ro:Xj μ fr.rd ro
 fresh:∀o,s.nx<=o->μ o=none

def Jb(bb:Nat)(P:Program)(c:Code)(fr:Fr)(s:St)(Q:Ex->Fr->St->Prop):Prop:=
 ∀(n:Nat)(μ:Mu)(w:World)(a:Act)(ro:Option Nat)(R:Exit->Act->World->Prop),At μ fr s ro a w->
  (∀ex fr' s' μ' w' a',Q ex fr' s'->At μ' fr' s' ro a' w'->Fp bb μ s w μ' s' w'->R (pI ex) a' w')->c.wpIn (Fw ro) n P R a w
def gW(K:Fr->St->Prop)(Q:Ex->Fr->St->Prop):Ex->Fr->St->Prop
 | .normal,fr,s=>K fr s
 | .exit id,fr,s=>Q (.exit id) fr s
 | .ret,fr,s=>Q .ret fr s
def bW(id:Nat)(Q:Ex->Fr->St->Prop):Ex->Fr->St->Prop
 | .normal,fr,s=>Q .normal fr s
 | .exit id',fr,s=>if id'=id then Q .normal fr s else Q (.exit id') fr s
 | .ret,fr,s=>Q .ret fr s
section
variable {bb:Nat}{P:Program}{c a b:Code}{fr:Fr}{s:St}{Q Q':Ex->Fr->St->Prop}
theorem Jd.mono(h:Jb bb P c fr s Q)(x:∀ex fr s,Q ex fr s->Q' ex fr s):Jb bb P c fr s Q':=fun n μ w a ro R j u=>h n μ w a ro R j fun ex fr' s' μ' w' a' q=>u ex fr' s' μ' w' a' (x _ _ _ q)
theorem Jd.skip(h:Q .normal fr s):Jb bb P .skip fr s Q:=fun _ μ w a _ _ j u=>wpIn_skip (u _ _ _ μ w a h j (Fp.refl μ s w))
theorem Jd.ret(h:Q .ret fr s):Jb bb P .ret fr s Q:=fun _ μ w a _ _ j u=>wpIn_ret (u .ret _ _ μ w a h j (Fp.refl μ s w))
theorem Jd.exit{id}(h:Q (.exit id) fr s):Jb bb P (.exit id) fr s Q:=fun _ μ w a _ _ j u=>wpIn_exit (u (.exit id) _ _ μ w a h j (Fp.refl μ s w))
theorem Jd.seq(h:Jb bb P a fr s (gW (fun fr s=>Jb bb P b fr s Q) Q)):Jb bb P (.seq a b) fr s Q:=by
 intro n μ w x ro R Y B;refine wpIn_seq (h n μ w x ro _ Y ?_);intro ex fr1 s1 μ1 J u C j f1;cases ex with
 |normal=>exact C n μ1 J u ro R j fun ex y s' μ' w' N q A U=>B ex y s' μ' w' N q A (f1.trans U)
 |exit id=>exact B _ _ _ μ1 J u C j f1
 |ret=>exact B _ _ _ μ1 J u C j f1
theorem Jd.cond_true{x}(y:js fr.T x=some (.b true))(h:Jb bb P a fr s Q):Jb bb P (.cond x a b) fr s Q:=fun n μ w t ro R j u=>
 aEp (by have:=mC j.tr x _ y;simpa only[VR]using this) (h n μ w t ro R j u)
theorem Jd.cond_false{x}(y:js fr.T x=some (.b false))(h:Jb bb P b fr s Q):Jb bb P (.cond x a b) fr s Q:=fun n μ w t ro R j u=>
 aEl (by have:=mC j.tr x _ y;simpa only[VR]using this) (h n μ w t ro R j u)
theorem Jd.cond{x t}(j:js fr.T x=some (.b t))(u:t=true->Jb bb P a fr s Q)(y:t=false->Jb bb P b fr s Q):Jb bb P (.cond x a b) fr s Q:=by
 cases t with
 |true=>exact Jd.cond_true j (u rfl)
 |false=>exact Jd.cond_false j (y rfl)
theorem Jd.block{id}(h:Jb bb P c fr s (bW id Q)):Jb bb P (.block id c) fr s Q:=by
 intro n μ w x ro R C A;refine aEg (h n μ w x ro _ C ?_);intro ex fr1 s1 μ1 B y u j f1;cases ex with
 |normal=>exact A _ _ _ μ1 B y u j f1
 |exit id'=>
  simp only[bW]at u;split at u
  ·next e=>subst e;simp only[pI,Exit.inBlock,aBh];exact A _ _ _ μ1 B y u j f1
  next e=>simp only[pI,Exit.inBlock,iF e];exact A _ _ _ μ1 B y u j f1
 |ret=>exact A _ _ _ μ1 B y u j f1
theorem Jd.loop(h:Jb bb P c fr s (gW (fun fr s=>Jb bb P (.loop c) fr s Q) Q)):Jb bb P (.loop c) fr s Q:=by
 intro n μ w x ro R Y B;refine wpIn_mono (kQ (Q:=fun e a w=>(∃x,e=pI x)/\R e a w) (fun _ _ _ h=>h.1) (h n μ w x ro _ Y ?_)) fun e a w h=>h.2;intro ex fr1 s1 μ1 J u C j f1;cases ex with
 |normal=>exact C n μ1 J u ro _ j fun ex y s' μ' w' N q A U=>⟨⟨_,rfl⟩,B ex y s' μ' w' N q A (f1.trans U)⟩
 |exit id=>exact⟨⟨_,rfl⟩,B _ _ _ μ1 J u C j f1⟩
 |ret=>exact⟨⟨_,rfl⟩,B _ _ _ μ1 J u C j f1⟩
theorem Jd.swap{fr2 s2}(h:∀μ ro a w,At μ fr s ro a w->∃μ2,At μ2 fr2 s2 ro a w/\Fp bb μ s w μ2 s2 w)(k:Jb bb P c fr2 s2 Q):Jb bb P c fr s Q:=by intro n μ w x ro R C J;obtain⟨μ2,y,f2⟩:=h μ ro x w C;exact k n μ2 w x ro R y fun ex j s' μ' w' A q u B=>J ex j s' μ' w' A q u (f2.trans B)
theorem Jd.run{X k}(S:dJ P (Ev.at_ P X k)){ex fr' s'}(h:(Ev.at_ P X k).code c fr s=some (ex,fr',s'))(J:Q ex fr' s'):Jb bb P c fr s Q:=by
 intro n μ w x ro R j C;obtain⟨N,y,U,A⟩:=S.code h;refine A n j.rel j.tr j.dm j.ro (fun o B _=>j.fresh o B) ?_;intro μ' w' u r t tr d;refine C ex fr' s' μ' w' u J ⟨r,tr,d,by rw[y];exact j.ro.mono t.sub,fun o Y=>?_⟩ t.fp;cases e:μ' o with
 |none=>rfl
 |some l=>have hn:=t.nx;have:=t.dom o (j.fresh o (by omega)) (by rw[e];simp);omega
end
abbrev Jd(P:Program)(c:Code)(fr:Fr)(s:St)(Q:Ex->Fr->St->Prop):Prop:=Jb 0 P c fr s Q
end
end Go.Proofs.YtfoceannfdbinaaGreat
