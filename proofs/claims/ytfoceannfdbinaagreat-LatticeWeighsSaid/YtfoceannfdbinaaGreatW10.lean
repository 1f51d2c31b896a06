/- Lemmas. -/
import Derived.Test.YtfoceannfdbinaaGreatW07
import Derived.Deep.MidRow
import Derived.Laws.Cover3
import Derived.Laws.Pointers
set_option linter.all false
set_option maxRecDepth 1000000
set_option maxHeartbeats 32000000
namespace Go.Proofs.YtfoceannfdbinaaGreat
open Go.RowKit
section
theorem jq P{α}w:∀(s:Sem α){a:α},jO P s=some a->s.run P w=.ok a w
 | .pure _,_,h=>by simp only[jO,iD]at h;subst h;rfl
 | .program k,_,h=>by simp only[jO]at h;simp only[Sem.run];exact jq P w (k P) h
 | .load ..,_,h|.store ..,_,h|.new ..,_,h|.shape ..,_,h|.freeze ..,_,h|.frozen ..,_,h|.getObj ..,_,h|.setObj ..,_,h|.choose ..,_,h|.sys ..,_,h|.mark ..,_,h|.halt _,_,h=>by simp[jO]at h

mutual
theorem gQ μ:∀(v:Value){x:AV},bS v=some x->VR μ x v
 | .bool _,_,h=>by simp only[bS,iD]at h;subst h;simp[VR]
 | .int _ _,_,h=>by simp only[bS,iD]at h;subst h;simp[VR]
 | .pointer none,_,h=>by simp only[bS,iD]at h;subst h;simp[VR]
 | .slice none 0 0,_,h=>by simp only[bS,iD]at h;subst h;simp[VR]
 | .map none,_,h=>by simp only[bS,iD]at h;subst h;simp[VR]
 | .nilFunc,_,h=>by simp only[bS,iD]at h;subst h;simp[VR]
 | .nilIface,_,h=>by simp only[bS,iD]at h;subst h;simp[VR]
 | .agg ⟨l⟩,x,h=>by simp only[bS,iN]at h;obtain⟨xs,j,rfl⟩:=h;simp only[VR];exact⟨l,rfl,tW μ l j⟩
 | .tuple ⟨[]⟩,_,h=>by simp only[bS,iD]at h;subst h;simp[VR,ap]
 | .tuple ⟨_::_⟩,_,h|.pointer (some _),_,h|.slice (some _) _ _,_,h|.slice none (_+1) _,_,h|.slice none 0 (_+1),_,h|.map (some _),_,h|.float ..,_,h|.complex ..,_,h|.string _,_,h|.chan _,_,h|.func ..,_,h|.iface ..,_,h=>by simp[bS]at h
theorem tW μ:∀(l:List Value){xs:List AV},ip l=some xs->ap μ xs l
 | [],_,h=>by simp only[ip,iD]at h;subst h;exact ap.nil_
 |v::l,xs,h=>by
  simp only[ip]at h;cases hv:bS v with
  |none=>rw[hv]at h;cases h
  |some x=>rw[hv]at h;simp only[iN]at h;obtain⟨u,j,rfl⟩:=h;exact ap.cons (gQ μ v hv) (tW μ l j)
end
theorem FG{μ x v j}(h:AH x=some v)(u:VR μ x j):j=v:=by cases x<;>simp[AH]at h<;>(subst h;simpa only[VR]using u)
theorem um{μ x v}(h:VR μ x v)(hf:flat x=true):v.oneCell'=true:=by
 cases x<;>simp only[VR]at h<;>simp only[flat]at hf<;>first
  |(subst h;rfl)
  |(obtain⟨_,_,rfl⟩:=h;rfl)
  |(obtain⟨_,_,_,rfl,_⟩:=h;rfl)
  |(obtain⟨_,_,_,_,rfl⟩:=h;rfl)
  |(obtain⟨_,_,rfl,_⟩:=h;rfl)
  |(obtain⟨_,rfl,_⟩:=h;rfl)
  |(obtain⟨_,_,_,_,_,_,rfl,_⟩:=h;rfl)
  |(obtain⟨_,⟨_,_,rfl,_⟩,_⟩:=h;rfl)
  |(obtain⟨_,_,_,rfl,_⟩:=h;rfl)
  |(obtain⟨_,_,_,_,rfl,_⟩:=h;rfl)
  |cases hf

theorem g9{α}:∀{n:Nat}{l:List α}{off:Nat}{r:List α},getR l off n=some r->r.length=n/\∀i,i<n->r[i]?=l[off+i]?
 |0,l,off,r,h=>by simp only[getR,iD]at h;subst h;simp
 |n+1,l,off,r,h=>by
  simp only[getR]at h;split at h
  ·next x A=>
   simp only[iN]at h;obtain⟨B,j,rfl⟩:=h;obtain⟨u,y⟩:=g9 j;refine⟨by simp[u],fun i hi=>?_⟩;cases i with
   |zero=>simp[A]
   |succ i=>rw[Em,y i (by omega)];congr 1;omega
  cases h
theorem ap.getR{μ l m}(h:ap μ l m){off n r}(C:getR l off n=some r):ap μ r ((m.drop off).take n)/\off+n<=m.length∨n=0/\r=[]:=by
 obtain⟨B,A⟩:=g9 C;rcases lE n with hn|hn
 ·right;subst hn;exact⟨rfl,oF B⟩
 left;have j:=A (n-1) (by omega);have:off+n<=l.length:=by
  have:r[n-1]?≠none:=by rw[ne_eq,As];omega
  rw[j]at this;rw[ne_eq,As]at this;omega
 have hl:=h.length;refine⟨ap.of_get (by simp;omega) fun i x u=>?_,by omega⟩;have hi:i<n:=by have:=(dO.1 u).1;omega
 rw[A i hi]at u;obtain⟨y,hy,J⟩:=h.get u;exact⟨y,by rw[aBG hi,aBo];exact hy,J⟩

section
variable {P:Program}{μ:Mu}{s:St}{w:World}

theorem s5{t b}(h:oh P t=some b)w:(isAgg t).run P w=.ok b w:=by
 unfold oh at h;unfold isAgg;cases hu:P.underlying t with
 |none=>rw[hu]at h;cases h
 |some d=>rw[hu]at h;rw[Le,sK hu w];cases d<;>simp_all
theorem bL{t n}(h:bG P t=some n)w:(sizeOf t).run P w=.ok n w:=by unfold bG at h;simp only[iN]at h;obtain⟨i,hi,rfl⟩:=h;simp[sizeOf,typeInfo,hi]
theorem ii{t x}(h:bX P t=some x)w:∃v,(zeroValue t).run P w=.ok v w/\∀μ,VR μ x v:=by unfold bX at h;rw[sT]at h;obtain⟨i,hi,h⟩:=h;rw[sT]at h;obtain⟨v,j,h⟩:=h;exact⟨v,by simp[zeroValue,typeInfo,hi,j],fun μ=>gQ μ v h⟩
theorem Dl{t l m off x}(h:iL P t l off=some x)(hl:ap μ l m)w: ∃v,(part t m.toArray off).run P w=.ok v w/\VR μ x v:=by
 unfold iL at h;split at h
 ·next n ha B=>
  simp only[iN]at h;obtain⟨r,u,rfl⟩:=h;refine⟨.agg (m.toArray.extract off (off+n)),by simp[part,s5 ha,bL B],?_⟩;simp only[VR];rcases hl.getR u with⟨j,_⟩|⟨rfl,rfl⟩
  ·refine⟨_,?_,j⟩;congr 1;apply aDa;simp[List.extract_eq_take_drop]
  exact⟨[],by simp,ap.nil_⟩
 ·next ha=>
  obtain⟨y,hy,A⟩:=hl.get h;exact⟨y,by simp[part,s5 ha,hy],A⟩
 cases h
theorem wN{t c off x b base}(A:∀i y,c[i]?=some y->∃z,w.cell? ⟨b,base+i,none⟩=some z/\VR μ y z)(U:iL P t c off=some x): ∃v,(Instr.loadAt t (.pointer (some ⟨b,base+off,none⟩))).run P w=.ok v w/\VR μ x v:=by
 unfold iL at U;split at U
 ·next n ha Y=>
  simp only[iN]at U;obtain⟨r,hr,rfl⟩:=U;obtain⟨u,B⟩:=g9 hr;have key:∀(k:Nat)(r:List AV)(off:Nat),r.length=k->(∀i,i<k->r[i]?=c[off+i]?)->∃m,m.length=k/\ap μ r m/\∀j v,m[j]?=some v->w.cell? ⟨b,base+off+j,none⟩=some v:=by
   intro k
   induction k with
   |zero=>intro r off u _;exact⟨[],rfl,by rw[oF u];exact ap.nil_,by simp⟩
   |succ k ih=>
    intro r off u B;cases r with
    |nil=>simp at u
    |cons y r=>
     obtain⟨z,Y,hv⟩:=A off y (by have:=B 0 (by omega);simpa using this.symm);obtain⟨m,C,J,N⟩:=ih r (off+1) (by simpa using u) (fun i hi=>by have:=B (i+1) (by omega);rw[Em]at this;rw[this];congr 1;omega);refine⟨z::m,by simp[C],ap.cons hv J,fun j v Z=>?_⟩;cases j with
     |zero=>simp at Z;subst Z;exact Y
     |succ j=>rw[Em]at Z;have:=N j v Z;rw[show base+off+(j+1)=base+(off+1)+j by omega];exact this
  obtain⟨m,C,J,N⟩:=key n r off u B;refine⟨.agg m.toArray,?_,by simp only[VR];exact⟨m,rfl,J⟩⟩;unfold oh at ha;cases hu:P.underlying t with
  |none=>rw[hu]at ha;cases ha
  |some d=>
   rw[hu]at ha;have ad:(P.info? t).map (·.size)=some m.length:=by rw[C];exact Y
   exact run_loadAt_mid (P:=P) w b (base+off) t m d N hu (by cases d<;>simp_all [TypeDesc.isRow]) ad
 ·next ha=>
  obtain⟨z,Y,hv⟩:=A off x U;refine⟨z,?_,hv⟩;simp[Instr.loadAt,Instr.sureAddr,loadVar,s5 ha,Y]
 cases U
theorem PD(h:bU μ s w){b base cs}(hf:Fz μ b base cs){c}(u:ap μ.blind c cs)i y(hy:c[i]?=some y):∃z,w.cell? ⟨b,base+i,none⟩=some z/\VR μ y z:=by obtain⟨z,x,j⟩:=u.get hy;exact⟨z,eB (h.fz _ _ _ (hf i z x)).2.1 j.noM,j.mono μ.blind_sub⟩
theorem wM(h:bU μ s w){t a x A}(j:ju P s t a=some x)(ha:VR μ a A): ∃v,(Instr.loadAt t A).run P w=.ok v w/\VR μ x v:=by
 unfold ju at j;split at j
 ·next o off=>
  split at j
  ·next c e op u=>
   simp only[VR]at ha;obtain⟨p,hm,rfl⟩:=ha;have C:=h.obj o _ u (by rw[hm];simp);simp only[OR]at C;obtain⟨p',cs,B,J,Z,h4,N⟩:=C;rw[hm]at B;cases B;exact wN (fun i y hy=>by obtain⟨z,Y,U⟩:=N i y hy;exact⟨z,by simp[World.cell?,J,Y],U⟩) j
  cases j
 ·next c off=>
  simp only[VR]at ha;obtain⟨b,base,cs,rfl,hf,u⟩:=ha;exact wN (PD h hf u) j
 cases j
end
end
theorem ud{P}(hl:laidOutB P=true){k}(h:pS P k=true):Go.Maps.Keyed P k:=by
 unfold pS at h;cases hu:P.underlying k with
 |none=>rw[hu]at h;cases h
 |some d=>
  rw[hu]at h
  have deep:(match P.underlying k with|some (.array _ _)|some (.struct _)=>true|_=>false)=true->Nat.blt k P.types.size=true->P.keyTypeAt 100 k=true->Go.Maps.Keyed P k:=fun x j u=>
   Go.Maps.Keyed.of_law (deep_law_laid hl (m:=100) (by omega) (by simpa using j) u x)
  cases d<;>simp only[gE,aBF]at h
  case int q=>exact Go.Maps.int_keyed hu
  case array=>exact deep (by rw[hu]) h.1 h.2
  case struct=>exact deep (by rw[hu]) h.1 h.2

theorem zp{μ}:∀{l:List AV}{j:List Int}{m:List Value},rN l=some j->ap μ l m->m=j.map (Value.int .i64)
 | [],_,_,h,k=>by simp only[rN,iD]at h;subst h;simp only[ap]at k;subst k;rfl
 |x::l,j,m,h,k=>by
  cases x with
  |i kd n=>
   cases kd<;>simp only[rN]at h<;>try cases h
   simp only[iN]at h;obtain⟨B,u,rfl⟩:=h;simp only[ap,VR]at k;obtain⟨y,C,rfl,rfl,A⟩:=k;rw[zp u A];rfl
  |_=>simp[rN]at h
theorem uR{μ x q v}(h:gR x=some q)(j:VR μ x v):v=bZ q:=by
 cases x with
 |i k n=>
  cases k<;>simp only[gR,iD]at h<;>try cases h
  simpa [bZ,VR]using j
 |agg l=>simp only[gR,iN]at h;obtain⟨A,u,rfl⟩:=h;simp only[VR]at j;obtain⟨m,rfl,y⟩:=j;rw[zp u y];rfl
 |_=>simp[gR]at h
theorem pr{x q}(h:gR x=some q):q.1=true∨∃n,q=(false,[n]):=by
 cases x with
 |i k n=>
  cases k<;>simp only[gR,iD]at h<;>try cases h
  exact .inr ⟨n,rfl⟩
 |agg l=>simp only[gR,iN]at h;obtain⟨u,j,rfl⟩:=h;exact .inl rfl
 |_=>simp[gR]at h
theorem wT{a b}(ha:a.1=true∨∃n,a=(false,[n]))(u:b.1=true∨∃n,b=(false,[n]))(h:bZ a=bZ b):a=b:=by
 obtain⟨B,A⟩:=a;obtain⟨C,lb⟩:=b;simp only at ha u;have inj:∀l m:List Int,l.map (Value.int .i64)=m.map (Value.int .i64)->l=m:=by
  intro l
  induction l with
  |nil=>intro m e;cases m with
   |nil=>rfl
   |cons=>simp at e
  |cons x l ih=>intro m e;cases m with
   |nil=>simp at e
   |cons y m=>simp at e;rw[e.1,ih m (by simpa using e.2)]
 rcases ha with rfl|⟨n,e⟩
 ·rcases u with rfl|⟨m,j⟩
  ·simp only[bZ,EQ,Value.agg.injEq]at h;have:=aAf Array.toList h;simp only at this;rw[inj A lb this]
  cases j;simp[bZ]at h
 cases e;rcases u with rfl|⟨m,j⟩
 ·simp[bZ]at h
 cases j;simp[bZ]at h;rw[h]

theorem qt{P μ k}:∀{es:List AE}{qs:List (Bool×List Int)}{l:List MapEntry},nh P k es=some qs->lK μ es l -> l.length=es.length/\qs.length=es.length/\(∀e∈l,∃x,keyOf P k e.key=some x)/\∀(i:Nat)(q:Bool×List Int),qs[i]?=some q->∃(e:MapEntry)(a:AE),l[i]?=some e/\es[i]?=some a/\e.key=bZ q/\e.born=a.born/\VR μ a.val e.val/\(q.1=true∨∃n,q=(false,[n]))
 | [],qs,l,h,hr=>by simp only[nh,iD]at h;subst h;simp only[lK]at hr;subst hr;simp
 |e::es,qs,l,h,hr=>by
  simp only[nh]at h;cases hq:gR e.key with
  |none=>rw[hq]at h;cases h
  |some q=>
   rw[hq]at h;simp only at h;cases hk:jK P k q with
   |false=>rw[hk]at h;cases h
   |true=>
    rw[hk]at h;simp only[EQ,iN]at h;obtain⟨Z,J,rfl⟩:=h;obtain⟨kv,v,l',rfl,N,U,Y⟩:=hr;obtain⟨y,A,B,C⟩:=qt J Y;have j:=uR hq N;refine⟨by simp[y],by simp[A],fun u he=>?_,fun i q' hq'=>?_⟩
    ·rcases Is.1 he with rfl|he
     ·unfold jK at hk;rw[<-j]at hk;exact aBI.1 hk
     exact B u he
    cases i with
    |zero=>simp at hq';subst hq';exact⟨_,e,rfl,rfl,j,rfl,U,pr hq⟩
    |succ i=>rw[Em]at hq';simp only[Em];exact C i q' hq'
theorem s7 q:∀(l:List (Bool×List Int))(i:Nat),∀j,j∈oo q l i ↔ ∃k,j=i+k/\l[k]?=some q
 | [],i,j=>by simp[oo]
 |x::l,i,j=>by
  have y:=s7 q l (i+1) j;have u:(x.1 == q.1&&x.2 == q.2)=true↔x=q:=by obtain⟨a,b⟩:=x;obtain⟨c,d⟩:=q;simp
  unfold oo;cases hb:(x.1 == q.1&&x.2 == q.2)with
  |true=>
   rw[hb]at u;simp only[EQ,Is,y];constructor
   ·rintro(rfl|⟨k,rfl,h⟩)
    ·exact⟨0,by simp,by simp[u.1 rfl]⟩
    exact⟨k+1,by omega,by simpa using h⟩
   rintro⟨k,rfl,h⟩;cases k with
   |zero=>left;simp
   |succ k=>right;exact⟨k,by omega,by simpa using h⟩
  |false=>
   rw[hb]at u;simp only[aAj,y];constructor
   ·rintro⟨k,rfl,h⟩;exact⟨k+1,by omega,by simpa using h⟩
   rintro⟨k,rfl,h⟩;cases k with
   |zero=>simp at h;exact absurd (u.2 h) (by simp)
   |succ k=>exact⟨k,by omega,by simpa using h⟩
theorem gO{P μ}(hl:laidOutB P=true){k q}(hq:q.1=true∨∃n,q=(false,[n])){es l r}(h:gZ P k q es=some r)(hr:lK μ es l)w: (∀em,(Instr.checkKey em 10000 k (bZ q)).run P w=.ok () w)/\(Instr.keyThatStays (bZ q) (bZ q)).run P w=.ok (bZ q) w /\ (r=none->(Instr.findKey k (bZ q) l).run P w=.ok none w) /\ ∀i,r=some i->∃e a,l[i]?=some e/\es[i]?=some a/\e.key=bZ q/\e.born=a.born/\VR μ a.val e.val/\(Instr.findKey k (bZ q) l).run P w=.ok (some (i,e.val)) w:=by
 unfold gZ at h;cases hk:(pS P k&&jK P k q)with
 |false=>rw[hk]at h;cases h
 |true=>
  rw[hk]at h;rw[gE]at hk;have K:=ud hl hk.1;obtain⟨lx,x⟩:=aBI.1 hk.2;refine⟨fun em=>K.check w em x,K.stays w x,?_⟩;simp only[EQ]at h;cases hqs:nh P k es with
  |none=>rw[hqs]at h;cases h
  |some qs=>
   rw[hqs]at h;simp only at h;obtain⟨g1,g2,g3,Y⟩:=qt hqs hr;have hh:=s7 q qs 0;rcases K.find w x l g3 with⟨f1,f2⟩|⟨j,e,f1,f2,f3⟩
   ·have u:oo q qs 0=[]:=by
     cases hc:oo q qs 0 with
     |nil=>rfl
     |cons a b=>obtain⟨kk,rfl,N⟩:=(hh a).1 (by rw[hc];simp);obtain⟨e,Z,C,_,J,_⟩:=Y kk q N;exact absurd J (f2 e (eQ C))
    rw[u]at h;cases h;exact⟨fun _=>f1,fun _ e=>by cases e⟩
   obtain⟨y,B⟩:∃y,qs[j]?=some y:=by have:=(dO.1 f2).1;exact⟨_,bY (by omega)⟩
   obtain⟨e',a,C,J,e3,e4,e5,e6⟩:=Y j y B;rw[f2]at C;cases C;have U:y=q:=wT e6 hq (by rw[<-e3,f3]);subst U;have A:j∈oo y qs 0:=(hh j).2 ⟨j,by simp,B⟩;cases hc:oo y qs 0 with
   |nil=>rw[hc]at A;cases A
   |cons Z b'=>
    rw[hc]at h A;cases b' with
    |nil=>simp only[iD]at h;subst h;simp at A;subst A;exact⟨fun e=>(by cases e),fun i' ei=>by cases ei;exact⟨e,a,f2,J,f3,e4,e5,f1⟩⟩
    |cons=>cases h
theorem tR{P μ}(hl:laidOutB P=true){k q}(hq:q.1=true∨∃n,q=(false,[n])){es l' l r}(h:gZ P k q es=some r)(hr:lK μ es l')(hp:l'.Perm l)w: (∀em,(Instr.checkKey em 10000 k (bZ q)).run P w=.ok () w)/\(Instr.keyThatStays (bZ q) (bZ q)).run P w=.ok (bZ q) w /\ (r=none->(Instr.findKey k (bZ q) l).run P w=.ok none w) /\ ∀i,r=some i->∃(e:MapEntry)(a:AE)(j:Nat),es[i]?=some a/\VR μ a.val e.val/\(Instr.findKey k (bZ q) l).run P w=.ok (some (j,e.val)) w:=by
 obtain⟨c1,c2,c3,c4⟩:=gO hl hq h hr w;refine⟨c1,c2,?_⟩;unfold gZ at h;cases hk:(pS P k&&jK P k q)with
 |false=>rw[hk]at h;cases h
 |true=>
  rw[hk]at h;rw[gE]at hk;have K:=ud hl hk.1;obtain⟨lx,A⟩:=aBI.1 hk.2;simp only[EQ]at h;cases hqs:nh P k es with
  |none=>rw[hqs]at h;cases h
  |some qs=>
   rw[hqs]at h;simp only at h;obtain⟨g1,g2,g3,g4⟩:=qt hqs hr;have N:∀e∈l,∃x,keyOf P k e.key=some x:=fun e he=>g3 e (hp.mem_iff.2 he);have one:∀u∈l',∀J∈l',u.key=bZ q->J.key=bZ q->u=J:=by
    have hh:=s7 q qs 0
    have key:∀e∈l',e.key=bZ q->∃j,j∈oo q qs 0/\l'[j]?=some e:=fun e he ad=>by
     obtain⟨j,hj⟩:=aAu.1 he;obtain⟨Y,U⟩:∃Y,qs[j]?=some Y:=by have:=(dO.1 hj).1;exact⟨_,bY (by omega)⟩
     obtain⟨C,a,u,J,e3,e4,e5,e6⟩:=g4 j Y U;rw[hj]at u;cases u;have al:Y=q:=wT e6 hq (by rw[<-e3,ad]);subst al;exact⟨j,(hh j).2 ⟨j,by simp,U⟩,hj⟩
    intro u m1 J m2 k1 k2;obtain⟨j1,B,b1⟩:=key u m1 k1;obtain⟨j2,Z,b2⟩:=key J m2 k2;cases hc:oo q qs 0 with
    |nil=>rw[hc]at B;cases B
    |cons x y=>
     rw[hc]at h B Z;cases y with
     |nil=>simp at B Z;rw[B]at b1;rw[Z]at b2;rw[b1]at b2;exact TO b2
     |cons=>cases h
   refine⟨fun hn=>?_,fun i hi=>?_⟩
   ·rcases K.find w A l N with⟨f1,f2⟩|⟨j,e,f1,f2,f3⟩
    ·exact f1
    rcases K.find w A l' g3 with⟨d1,d2⟩|⟨j',C,d1,d2,d3⟩
    ·exact absurd f3 (d2 e (hp.mem_iff.2 (eQ f2)))
    rw[c3 hn]at d1;cases d1
   obtain⟨e,a,h1,h2,h3,h4,h5,h6⟩:=c4 i hi;have he:e∈l:=hp.mem_iff.1 (eQ h1);rcases K.find w A l N with⟨f1,f2⟩|⟨j,C,f1,f2,f3⟩
   ·exact absurd h3 (f2 e he)
   have:C=e:=one C (hp.mem_iff.2 (eQ f2)) e (eQ h1) f3 h3;subst this;exact⟨C,a,j,h2,h5,f1⟩
theorem Ho{μ}:∀{u j:List AV}{l:List MapEntry},ap μ u (l.map (·.key))->ap μ j (l.map (·.val))->∃es,lK μ es l/\es.map (fun e=>(⟨e.key,e.val,0⟩:AE))=Fn u j/\es.map (·.born)=l.map (·.born)
 | [],j,[],_,_=>⟨[],rfl,by cases j<;>rfl,rfl⟩
 | [],_,_::_,h,_=>by simp[ap]at h
 |_::_,_,[],h,_=>by simp[ap]at h
 |k::u,j,e::l,h,h'=>by
  simp only[OF,ap,rW]at h;obtain⟨_,_,⟨rfl,rfl⟩,B,C⟩:=h;cases j with
  |nil=>simp[ap]at h'
  |cons v j=>simp only[OF,ap,rW]at h';obtain⟨_,_,⟨rfl,rfl⟩,J,N⟩:=h';obtain⟨es,x,y,A⟩:=Ho C N;exact⟨⟨k,v,e.born⟩::es,⟨e.key,e.val,l,rfl,B,J,x⟩,by simp[Fn,y],by simp[A]⟩
theorem wS{P k}:∀(es:List AE),nh P k (es.map fun e=>(⟨e.key,e.val,0⟩:AE))=nh P k es
 | []=>rfl
 |e::es=>by simp only[OF,nh,wS es]
theorem FS{P k q}es:gZ P k q (es.map fun e=>(⟨e.key,e.val,0⟩:AE))=gZ P k q es:=by unfold gZ;rw[wS]
section
section
variable {P:Program}{μ:Mu}{s:St}{w:World}

theorem cH op t x y a b(j:¬(a=.nilIface/\b=.nilIface))(u:∀l m,¬(a=.agg l/\b=.agg m))w:(eqGuard op t x y a b).run P w=.ok () w:=by
 unfold eqGuard
 cases a<;>cases b<;>first
  |(exact absurd ⟨rfl,rfl⟩ j)
  |(exact absurd ⟨rfl,rfl⟩ (u _ _))
  |(cases op<;>rfl)
theorem mS{x v n}(h:qI x=some n)(j:VR μ x v):v=.int .i64 (n:Int):=by
 cases x with
 |i k z=>
  cases k<;>simp only[qI]at h<;>try cases h
  cases z with
  |ofNat z=>simp only[iD]at h;subst h;simp only[VR]at j;exact j
  |negSucc z=>cases h
 |_=>simp[qI]at h
theorem gB{ρ ev}(j:∀x v,ρ x=some v->VR μ v (ev x)):∀{l:List Operand}{xs:List AV},l.mapM ρ=some xs->ap μ xs (l.map ev)
 | [],xs,h=>by simp at h;subst h;exact ap.nil_
 |x::l,xs,h=>by
  simp only[aBb]at h;cases hx:ρ x with
  |none=>rw[hx]at h;simp at h
  |some a=>
   rw[hx]at h;cases hl:l.mapM ρ with
   |none=>rw[hl]at h;simp at h
   |some asn=>rw[hl]at h;simp at h;subst h;exact ap.cons (j x a hx) (gB j hl)
theorem Ql{op t x y a b r C J}(h:lI P op t a b=some r)(ha:VR μ a C)(B:VR μ b J)w: (eqGuard op t x y C J).run P w=.ok () w/\∃v,(binOp op t C J).run P w=.ok v w/\VR μ r v:=by
 have U:∀(c:Bool),Es op c=some r->(∀(z:Value),(op=.eql/\z=.bool c∨op=.neq/\z=.bool !c)->VR μ r z)/\(op=.eql∨op=.neq):=by
  intro c Y;cases op<;>simp only[Es,iD]at Y<;>try cases Y
  ·refine⟨fun z j=>?_,.inl rfl⟩;rcases j with⟨_,N⟩|⟨N,_⟩
   ·subst N;simp[VR]
   cases N
  refine⟨fun z j=>?_,.inr rfl⟩;rcases j with⟨N,_⟩|⟨_,N⟩
  ·cases N
  subst N;simp[VR]
 have u:∀(c:Bool),Es op c=some r->(∀w,(Op.equal t C J).run P w=.ok c w)->(∀z,(binOp op t C J)=z->((op=.eql->z=(do pure (.bool (<-Op.equal t C J))))/\(op=.neq->z=(do pure (.bool (!(<-Op.equal t C J))))))) -> ∃v,(binOp op t C J).run P w=.ok v w/\VR μ r v:=by
  intro c Y he j;obtain⟨n1,n2⟩:=U c Y;obtain⟨z1,z2⟩:=j _ rfl;rcases n2 with rfl|rfl
  ·exact⟨.bool c,by rw[z1 rfl];simp[he],n1 _ (.inl ⟨rfl,rfl⟩)⟩
  exact⟨.bool !c,by rw[z2 rfl];simp[he],n1 _ (.inr ⟨rfl,rfl⟩)⟩
 unfold lI at h;split at h
 ·next k n k' n'=>
  simp only[VR]at ha B;subst ha;subst B;rw[sT]at h;obtain⟨v,hv,h⟩:=h;exact⟨cH _ _ _ _ _ _ (by simp) (by simp) w,v,jq P w _ hv,gQ μ v h⟩
 ·next x1 x2=>
  simp only[VR]at ha B;subst ha;subst B;rw[sT]at h;obtain⟨v,hv,h⟩:=h;exact⟨cH _ _ _ _ _ _ (by simp) (by simp) w,v,jq P w _ hv,gQ μ v h⟩
 split at h<;>(try simp only[VR]at ha B)
 all_goals first
  |(subst ha;subst B;exact⟨cH _ _ _ _ _ _ (by simp) (by simp) w,u _ h (fun w=>by show(Op.equalIn (9999+1) _ _ _).run P w=_;rw[Op.equalIn];simp[sK (P:=P) ‹_›]) (fun z j=>by subst j;exact⟨fun e=>by subst e;rfl,fun e=>by subst e;rfl⟩)⟩)
  |(obtain⟨_,_,rfl⟩:=ha;subst B;exact⟨cH _ _ _ _ _ _ (by simp) (by simp) w,u _ h (fun w=>by show(Op.equalIn (9999+1) _ _ _).run P w=_;rw[Op.equalIn];simp[sK (P:=P) ‹_›]) (fun z j=>by subst j;exact⟨fun e=>by subst e;rfl,fun e=>by subst e;rfl⟩)⟩)
  |(obtain⟨_,_,rfl⟩:=B;subst ha;exact⟨cH _ _ _ _ _ _ (by simp) (by simp) w,u _ h (fun w=>by show(Op.equalIn (9999+1) _ _ _).run P w=_;rw[Op.equalIn];simp[sK (P:=P) ‹_›]) (fun z j=>by subst j;exact⟨fun e=>by subst e;rfl,fun e=>by subst e;rfl⟩)⟩)
  |(obtain⟨_,_,_,rfl,_⟩:=ha;subst B;exact⟨cH _ _ _ _ _ _ (by simp) (by simp) w,u _ h (fun w=>by show(Op.equalIn (9999+1) _ _ _).run P w=_;rw[Op.equalIn];simp[sK (P:=P) ‹_›]) (fun z j=>by subst j;exact⟨fun e=>by subst e;rfl,fun e=>by subst e;rfl⟩)⟩)
  |(obtain⟨_,_,_,_,rfl,_⟩:=ha;subst B;exact⟨cH _ _ _ _ _ _ (by simp) (by simp) w,u _ h (fun w=>by show(Op.equalIn (9999+1) _ _ _).run P w=_;rw[Op.equalIn];simp[sK (P:=P) ‹_›]) (fun z j=>by subst j;exact⟨fun e=>by subst e;rfl,fun e=>by subst e;rfl⟩)⟩)
  |(obtain⟨_,_,_,rfl,_⟩:=B;subst ha;exact⟨cH _ _ _ _ _ _ (by simp) (by simp) w,u _ h (fun w=>by show(Op.equalIn (9999+1) _ _ _).run P w=_;rw[Op.equalIn];simp[sK (P:=P) ‹_›]) (fun z j=>by subst j;exact⟨fun e=>by subst e;rfl,fun e=>by subst e;rfl⟩)⟩)
  |(obtain⟨_,_,_,_,rfl,_⟩:=B;subst ha;exact⟨cH _ _ _ _ _ _ (by simp) (by simp) w,u _ h (fun w=>by show(Op.equalIn (9999+1) _ _ _).run P w=_;rw[Op.equalIn];simp[sK (P:=P) ‹_›]) (fun z j=>by subst j;exact⟨fun e=>by subst e;rfl,fun e=>by subst e;rfl⟩)⟩)
  |(obtain⟨_,_,rfl,_⟩:=ha;subst B;exact⟨cH _ _ _ _ _ _ (by simp) (by simp) w,u _ h (fun w=>by show(Op.equalIn (9999+1) _ _ _).run P w=_;rw[Op.equalIn];simp[sK (P:=P) ‹_›]) (fun z j=>by subst j;exact⟨fun e=>by subst e;rfl,fun e=>by subst e;rfl⟩)⟩)
  |(obtain⟨_,_,rfl,_⟩:=B;subst ha;exact⟨cH _ _ _ _ _ _ (by simp) (by simp) w,u _ h (fun w=>by show(Op.equalIn (9999+1) _ _ _).run P w=_;rw[Op.equalIn];simp[sK (P:=P) ‹_›]) (fun z j=>by subst j;exact⟨fun e=>by subst e;rfl,fun e=>by subst e;rfl⟩)⟩)
  |(obtain⟨_,⟨A,cap,rfl,_,_,Z⟩,_⟩:=ha;obtain⟨_,_,rfl,_⟩:=Z (aDL _);subst B;exact⟨cH _ _ _ _ _ _ (by simp) (by simp) w,u _ h (fun w=>by show(Op.equalIn (9999+1) _ _ _).run P w=_;rw[Op.equalIn];simp[sK (P:=P) ‹_›]) (fun z j=>by subst j;exact⟨fun e=>by subst e;rfl,fun e=>by subst e;rfl⟩)⟩)
  |(obtain⟨_,⟨A,cap,rfl,_,_,Z⟩,_⟩:=B;obtain⟨_,_,rfl,_⟩:=Z (aDL _);subst ha;exact⟨cH _ _ _ _ _ _ (by simp) (by simp) w,u _ h (fun w=>by show(Op.equalIn (9999+1) _ _ _).run P w=_;rw[Op.equalIn];simp[sK (P:=P) ‹_›]) (fun z j=>by subst j;exact⟨fun e=>by subst e;rfl,fun e=>by subst e;rfl⟩)⟩)
  |cases h
theorem xK{ρ}{ev:Operand->Value}(u:∀x v,ρ x=some v->VR μ v (ev x)){d n x}(h:eI ρ d x=some n): (x=none/\n=d)∨∃y,x=some y/\ev y=.int .i64 (n:Int):=by
 cases x with
 |none=>simp only[eI,iD]at h;exact .inl ⟨rfl,h.symm⟩
 |some y=>simp only[eI,sT]at h;obtain⟨v,j,h⟩:=h;exact .inr ⟨y,rfl,mS h (u y v j)⟩
theorem bJ(n m:Nat)(h:n<=m)c w:(Instr.sliceBound (.int .i64 (n:Int)) m c).run P w=.ok n w:=by simp[Instr.sliceBound,asIntOf,h]
theorem gK{ρ ev}(N:∀x v,ρ x=some v->VR μ v (ev x))sl{len cap l h m d lo hi mx}(U:eI ρ 0 lo=some l)(Y:eI ρ len hi=some h)(Z:eI ρ d mx=some m)(B:l<=h)(hm:(mx=none/\h<=cap)∨(h<=m/\m<=cap/\(hi=none->mx=none)))w:
  (Instr.sliceBounds sl len cap (lo.map ev) (hi.map ev) (mx.map ev)).run P w=.ok (l,h,if mx=none then cap else m) w:=by
 have A:=xK N U;have y:=xK N Y;have C:=xK N Z;clear U Y Z;rcases hm with⟨u,j⟩|⟨u,j,J⟩
 ·subst u;rcases A with⟨rfl,rfl⟩|⟨y1,rfl,A⟩<;>rcases y with⟨rfl,rfl⟩|⟨y2,rfl,y⟩
  ·simp[Instr.sliceBounds]
  ·simp[Instr.sliceBounds,y,bJ _ _ j]
  ·simp[Instr.sliceBounds,A,bJ _ _ B]
  simp[Instr.sliceBounds,A,y,bJ _ _ B,bJ _ _ j]
 rcases C with⟨rfl,rfl⟩|⟨y3,rfl,C⟩
 ·rcases A with⟨rfl,rfl⟩|⟨y1,rfl,A⟩<;>rcases y with⟨rfl,rfl⟩|⟨y2,rfl,y⟩
  ·simp[Instr.sliceBounds]
  ·simp[Instr.sliceBounds,y,bJ _ _ (EM u j)]
  ·simp[Instr.sliceBounds,A,bJ _ _ B]
  simp[Instr.sliceBounds,A,y,bJ _ _ B,bJ _ _ (EM u j)]
 rcases y with⟨rfl,rfl⟩|⟨y2,rfl,y⟩
 ·have:=J rfl;cases this
 rcases A with⟨rfl,rfl⟩|⟨y1,rfl,A⟩
 ·simp[Instr.sliceBounds,y,C,bJ _ _ u,bJ _ _ j]
 simp[Instr.sliceBounds,A,y,C,bJ _ _ u,bJ _ _ j,bJ _ _ B]
end
end
section
section
variable {P:Program}{μ:Mu}{s:St}{w:World}

theorem Lp(hl:laidOutB P=true)(h:bU μ s w){t a k r a' k' ok}(u:og P s t a k ok=some r)(ha:VR μ a a')(hk:VR μ k k'): ∃v,(Instr.lookup t a' k' ok).run P w=.ok v w/\VR μ r v:=by
 unfold og at u;split at u
 ·next kt e q hu hq=>
  obtain rfl:=uR hq hk;have U:=pr hq
  have main:∀(es:List AE)(l:List MapEntry),lK μ es l->((a'=.map none/\l=[])∨∃b cl,a'=.map (some b)/\w.heap[b]?=some (.map l.toArray cl))->(match gZ P kt q es with
    |some (some i)=>match es[i]? with
     |some e=>some (cond ok (.tup [e.val,.b true]) e.val)
     |none=>none
    |some none=>(bX P e).map fun v=>cond ok (.tup [v,.b false]) v
    |none=>none)=some r->
    ∃v,(Instr.lookup t a' (bZ q) ok).run P w=.ok v w/\VR μ r v:=by
   intro es l hr C u;split at u
   ·next i B=>
    obtain⟨N,c2,_,A⟩:=gO hl U B hr w;obtain⟨e0,a0,g1,g2,g3,g4,g5,Z⟩:=A _ rfl;rw[g2]at u;simp only[iD]at u;subst u;refine⟨if ok then .tuple #[e0.val,.bool true]else e0.val,?_,?_⟩
    ·rcases C with⟨rfl,rfl⟩|⟨b,cl,rfl,hb⟩
     ·simp[Instr.lookup,sK hu,N,Z]
     simp[Instr.lookup,sK hu,N,Z,getObj,Sem.run,hb]
    cases ok
    ·exact g5
    exact⟨[e0.val,.bool true],rfl,ap.cons g5 (ap.cons rfl ap.nil_)⟩
   ·next B=>
    obtain⟨N,c2,y,_⟩:=gO hl U B hr w;have Z:=y rfl;simp only[iN]at u;obtain⟨z,hz,rfl⟩:=u;obtain⟨zv,Y,J⟩:=ii hz w;refine⟨if ok then .tuple #[zv,.bool false]else zv,?_,?_⟩
    ·rcases C with⟨rfl,rfl⟩|⟨b,cl,rfl,hb⟩
     ·simp[Instr.lookup,sK hu,N,Z,Y]
     simp[Instr.lookup,sK hu,N,Z,getObj,Sem.run,hb,Y]
    cases ok
    ·exact J μ
    exact⟨[zv,.bool false],rfl,ap.cons (J μ) (ap.cons rfl ap.nil_)⟩
   cases u
  split at u
  ·next es x=>
   split at x
   ·simp only[iD]at x;subst x;simp only[VR]at ha;exact main [] [] rfl (.inl ⟨ha,rfl⟩) u
   ·next o=>
    split at x
    ·next al cl ho=>
     simp only[iD]at x;subst x;simp only[VR]at ha;obtain⟨p,hm,e'⟩:=ha;have ad:=h.obj o _ ho (by rw[hm];simp);simp only[OR]at ad;obtain⟨p',l,h1,h2,h3⟩:=ad;rw[hm]at h1;cases h1;exact main al l h3 (.inr ⟨_,_,e',h2⟩) u
    cases x
   ·next ks vs=>
    simp only[iD]at x;subst x;simp only[VR]at ha;obtain⟨b,l,clock,l',rfl,h1,h2,h3,h4,h5,h6⟩:=ha;have hb:=jZ (h.fz _ _ _ h1).2.1;obtain⟨es,g1,g2,g3⟩:=Ho h5 h6;rw[<-g2,FS]at u;split at u
    ·next i B=>
     obtain⟨N,c2,_,A⟩:=tR hl U B g1 h2 w;obtain⟨e0,a0,j,k1,k2,k3⟩:=A _ rfl;rw[mT,k1,AC]at u;simp only[iD]at u;subst u;refine⟨if ok then .tuple #[e0.val,.bool true]else e0.val,?_,?_⟩
     ·simp[Instr.lookup,sK hu,N,k3,getObj,Sem.run,hb]
     have k2:=k2.mono μ.blind_sub;cases ok
     ·exact k2
     exact⟨[e0.val,.bool true],rfl,ap.cons k2 (ap.cons rfl ap.nil_)⟩
    ·next B=>
     obtain⟨N,c2,y,_⟩:=tR hl U B g1 h2 w;have Z:=y rfl;simp only[iN]at u;obtain⟨z,hz,rfl⟩:=u;obtain⟨zv,Y,J⟩:=ii hz w;refine⟨if ok then .tuple #[zv,.bool false]else zv,?_,?_⟩
     ·simp[Instr.lookup,sK hu,N,Z,getObj,Sem.run,hb,Y]
     cases ok
     ·exact J μ
     exact⟨[zv,.bool false],rfl,ap.cons (J μ) (ap.cons rfl ap.nil_)⟩
    cases u
   cases x
  cases u
 cases u
theorem qy{t f fd}(h:lH P t f=some fd):∃j,P.underlying t=some (.struct j)/\j[f]?=some fd:=by
 unfold lH at h;split at h
 ·next j hu=>exact⟨j,hu,h⟩
 cases h
theorem iB b o n:(⟨b,o,none⟩:Addr).add n=⟨b,o+n,none⟩:=Addr.add_mid b o n

theorem FU{ρ ev}(hρ:∀x v,ρ x=some v->VR μ v (ev x)){t a r a' lo hi mx}(hh:hi=none->mx=none)(j:eR P ρ t a lo hi mx=some r)(ha:VR μ a a')w: ∃v,(Instr.sliceAt t a' (lo.map ev) (hi.map ev) (mx.map ev)).run P w=.ok v w/\VR μ r v:=by
 unfold eR at j;split at j
 ·next e o off len cap hu=>
  simp only[VR]at ha;obtain⟨p,c,hm,rfl,al,U⟩:=ha;split at j
  ·next z l h m hz Y Z J=>
   cases B:(Nat.ble l h&&Nat.ble h len&&(mx.isNone ||(Nat.ble h m&&Nat.ble m len))&&Nat.ble len cap)with
   |false=>rw[B]at j;cases j
   |true=>
    rw[B]at j;simp only[gE,aAU,aAv,aDV]at B;obtain⟨⟨⟨g1,g2⟩,C⟩,g4⟩:=B;have a3:len<=c:=by
     by_cases e:cap<bI
     ·rw[al e];exact g4
     exact(U e).1
    have N:=gK (P:=P) hρ true (len:=len) (cap:=c) Y Z J g1 (by
     by_cases e:mx=none
     ·exact .inl ⟨e,by omega⟩
     ·rcases C with C|C
      ·exact absurd C e
      ·exact .inr ⟨C.1,by omega,fun u=>absurd (hh u) e⟩) w
    have run:(Instr.sliceAt t (.slice (some ⟨p.blk,p.base+off,none⟩) len c) (lo.map ev) (hi.map ev) (mx.map ev)).run P w=
      .ok (.slice (if(if mx=none then c else m)=l then some ⟨p.blk,p.base+off,none⟩else some ⟨p.blk,p.base+off+l*z,none⟩) (h-l) ((if mx=none then c else m)-l)) w:=by
     simp[Instr.sliceAt,Instr.slice,sK hu,N,bL hz,iB]
    simp only[EQ]at j;cases hcc:(mx.isNone&&Nat.ble bI cap)with
    |true=>
     rw[hcc]at j;simp only[gE,aAv,aDV]at hcc;obtain⟨rfl,a0⟩:=hcc;simp only[EQ]at j;cases hcd:(Nat.beq cap (bI+z)&&(Nat.beq l 0 ||Nat.blt l len))with
     |false=>
      rw[hcd]at j;obtain⟨he,j⟩:=ah j;simp only[aBc]at he;cases j;obtain⟨q1,q2,_⟩:=U (by omega);refine⟨_,run,?_⟩;simp only[VR];obtain rfl:h=l:=by omega
      simp only[aBh,aAS];exact⟨[],⟨_,c-h,rfl,No _,by have:bI=maxLen+1:=rfl;omega,fun hn=>absurd rfl (Nat.pos_iff_ne_zero.1 hn)⟩,by simp only[ap]⟩
     |true=>
      rw[hcd]at j;simp only[gE,aAU,aBc,ON]at hcd;obtain⟨rfl,a2⟩:=hcd;cases j;obtain⟨q1,q2,q3⟩:=U (by omega);obtain⟨y,hy,ey⟩:∃y,y=bI+z-bI/\y=z:=⟨_,rfl,by omega⟩;rw[<-hy,ey]at q3;have ad:(if c=l then some ⟨p.blk,p.base+off,none⟩else some ⟨p.blk,p.base+off+l*z,none⟩:Option Addr)=some ⟨p.blk,p.base+(off+l*z),none⟩:=by
       split
       ·next e=>
        have:l=0:=by omega
        subst this;simp
       rw[aAo]
      have a1:l*z+(c-l)*z=c*z:=by rw[<-aAl];rw[show l+(c-l)=c by omega]
      refine⟨_,run,?_⟩;simp only[VR,aBh];rw[<-hy,ey,ad];clear hy ey;refine⟨p,c-l,hm,rfl,fun e=>by omega,fun _=>⟨by omega,by omega,?_⟩⟩;omega
    |false=>
     rw[hcc]at j;simp only[aAj]at j;cases hcd:(Nat.beq l 0 ||Nat.blt l m)with
     |false=>rw[hcd]at j;cases j
     |true=>
      rw[hcd]at j;simp only[aAU,aBc,ON]at hcd;cases j;have am:(if mx=none then c else m)=m:=by
       split
       ·next e=>
        subst e;simp only[eI,iD]at J;have:cap<bI:=by simp only[aBY,aAL,<-Bool.not_eq_true,aAv]at hcc;omega
        rw[al this,J]
       rfl
      rw[am]at run;refine⟨_,run,?_⟩;simp only[VR];have av:m-l<bI:=by
       by_cases e:mx=none
       ·subst e;simp only[eI,iD]at J;simp only[aBY,aAL,<-Bool.not_eq_true,aAv]at hcc;omega
       rcases C with C|C
       ·exact absurd C e
       have:c<bI∨¬cap<bI:=by
        by_cases u:cap<bI
        ·left;rw[al u];exact u
        exact .inr u
       rcases this with u|u
       ·omega
       have:=U u;omega
      refine⟨p,m-l,hm,?_,fun _=>rfl,fun e=>absurd av e⟩;congr 1;split
      ·next e=>
       have:l=0:=by omega
       subst this;simp
      rw[aAo]
  cases j
 ·next e c len hu=>
  simp only[VR]at ha;obtain⟨cs,⟨A,cap,rfl,k1,k2,k3⟩,an⟩:=ha;split at j
  ·next z l h hz Y Z=>
   obtain⟨B,j⟩:=ah j;simp only[gE,aAv]at B;cases j;have N:=gK (P:=P) hρ true (len:=len) (cap:=cap) (mx:=none) (d:=cap) Y Z rfl B.1 (.inl ⟨rfl,by omega⟩) w;simp only[aCA,aBh]at N;have run:∃A',(Instr.sliceAt t (.slice A len cap) (lo.map ev) (hi.map ev) none).run P w=.ok (.slice A' (h-l) (cap-l)) w/\(0<len->l<cap->∀b base,A=some ⟨b,base,none⟩->A'=some ⟨b,base+l*z,none⟩):=by refine⟨_,by simp[Instr.sliceAt,Instr.slice,sK hu,N,bL hz];rfl,fun _ hlt b base e=>?_⟩;subst e;rw[iF (by omega)];simp[iB]
   obtain⟨A',r1,r2⟩:=run;refine⟨_,r1,?_⟩;simp only[VR];refine⟨cs.drop (l*z),⟨A',cap-l,rfl,by omega,by omega,fun hn=>?_⟩,an.drop _⟩;obtain⟨b,base,e,hf⟩:=k3 (by omega);exact⟨b,base+l*z,r2 (by omega) (by omega) b base e,hf.drop _⟩
  cases j
 ·next e hu=>
  simp only[VR]at ha;subst ha;split at j
  ·next z hz Y Z J=>
   cases j
   have N:=gK (P:=P) hρ true (len:=0) (cap:=0) Y Z J (cC 0) (by
    by_cases e:mx=none
    ·exact .inl ⟨e,cC 0⟩
    ·exact .inr ⟨cC 0,cC 0,fun u=>absurd (hh u) e⟩) w
   exact⟨.slice none 0 0,by simp[Instr.sliceAt,Instr.slice,sK hu,N,bL hz],by simp[VR]⟩
  cases j
 ·next n e o off hu=>
  simp only[VR]at ha;obtain⟨p,hm,rfl⟩:=ha;split at j
  ·next z l h m hz Y Z J=>
   cases B:(Nat.ble l h&&Nat.ble h m&&Nat.ble m n&&(Nat.beq l 0 ||Nat.blt l m)&&Nat.blt n bI)with
   |false=>rw[B]at j;cases j
   |true=>
    rw[B]at j;simp only[gE,aAU,aAv,aBc,ON]at B;obtain⟨⟨⟨⟨g1,g2⟩,C⟩,g4⟩,g5⟩:=B;cases j
    have N:=gK (P:=P) hρ false (len:=n) (cap:=n) Y Z J g1 (by
     by_cases e:mx=none
     ·exact .inl ⟨e,by omega⟩
     ·exact .inr ⟨by omega,by omega,fun u=>absurd (hh u) e⟩) w
    have am:(if mx=none then n else m)=m:=by
     split
     ·next e=>
      subst e;simp only[eI,iD]at J;exact J
     rfl
    rw[am]at N;refine⟨_,by simp[Instr.sliceAt,Instr.sureAddr,sK hu,N,bL hz,iB];rfl,?_⟩;simp only[VR];refine⟨p,m-l,hm,?_,fun _=>rfl,fun e=>?_⟩
    ·congr 1;split
     ·next e=>
      have:l=0:=by omega
      subst this;simp
     rw[aAo]
    omega
  cases j
 cases j
end
end
section
section
variable {P:Program}{μ:Mu}{s:St}{w:World}

theorem aQ{x v w w'}(h:x.run P w=.ok v w'):((do pure (Next.value (<-x)):Sem Next)).run P w=.ok (.value v) w':=by simp[h]

theorem xi{place ρ}{ev:Operand->Value}(hρ:∀x v,ρ x=some v->VR μ v (ev x)):
  ∀(ps:List (Nat×Operand))(c:List AV)(m:List Value){r:List AV},ap μ c m->k8 ρ place c ps=some r->∃U,Instr.fill place m.toArray (ps.map fun p=>(p.1,ev p.2))=some U.toArray/\ap μ r U:=by
 have wq:∀(j:List Value)(off:Nat)(m:List Value),j.zipIdx.foldl (fun(cs:Array Value) (x:Value×Nat)=>cs.setIfInBounds (off+x.2) x.1) m.toArray=(cz m off j).toArray:=by
  have go:∀(j:List Value)(k off:Nat)(m:List Value),(j.zipIdx k).foldl (fun(cs:Array Value) (x:Value×Nat)=>cs.setIfInBounds (off+x.2) x.1) m.toArray=(cz m (off+k) j).toArray:=by
   intro j
   induction j with
   |nil=>intro k off m;rfl
   |cons v j ih=>intro k off m;simp only[List.zipIdx_cons,aBl,List.setIfInBounds_toArray,cz];rw[ih (k+1) off];rfl
  intro j off m;exact go j 0 off m
 intro ps
 induction ps with
 |nil=>intro c m r N h;simp only[k8,iD]at h;subst h;exact⟨m,rfl,N⟩
 |cons p ps ih=>
  intro c m r N h;simp only[k8]at h;split at h
  case h_2=>cases h
  rename_i _ _ off n v Z g2;cases hcd:(Nat.beq v.cells.length n&&Nat.ble (off+n) c.length)with
  |false=>rw[hcd]at h;cases h
  |true=>
  rw[hcd]at h;simp only[gE,aBc,aAv]at hcd;obtain⟨rfl,g3⟩:=hcd;simp only[EQ]at h;have B:=h;have hv:=hρ _ _ g2;have u:=hv.cells;have C:=u.length;have J:∀(j:List AV)(ms:List Value)(off:Nat)(c:List AV)(m:List Value),ap μ j ms->ap μ c m->ap μ (cz c off j) (cz m off ms):=by
   intro j
   induction j with
   |nil=>intro ms off c m A B;simp only[ap]at A;subst A;exact B
   |cons a j ih=>intro ms off c m A B;simp only[ap]at A;obtain⟨y,ys,rfl,h3,h4⟩:=A;exact ih ys (off+1) _ _ h4 (B.set off h3)
  obtain⟨U,k1,k2⟩:=ih _ _ (J _ _ off c m u N) B;refine⟨U,?_,k2⟩;simp only[OF,Instr.fill,Z];have ad:=N.length;have Y:(ev p.2).cells.size=v.cells.length:=by rw[C];simp
  have e:(ev p.2).cells.zipIdx.foldl (fun(cs:Array Value) (x:Value×Nat)=>cs.setIfInBounds (off+x.2) x.1) m.toArray=(cz m off (ev p.2).cells.toList).toArray:=by rw[<-Array.foldl_toList,Array.toList_zipIdx];exact wq _ _ _
  rw[iF (by rw[Y];simp;omega),<-k1];congr 1
theorem Gd{j pl}(h:mB P j=some pl)w:(j.mapM fun(f:Field)=>(do pure (f.offset,<-sizeOf f.type):Sem (Nat×Nat))).run P w=.ok pl w:=by
 induction j generalizing pl with
 |nil=>simp only[mB,iD]at h;subst h;rfl
 |cons f j ih=>
  simp only[mB]at h;split at h
  ·next n hn=>
   simp only[iN]at h;obtain⟨x,u,rfl⟩:=h;have:=ih u;simp only[aBb,Le,bL hn,BY,aAr,this]
  cases h
theorem Md{ρ:Operand->Option AV}{ev:Operand->Value}(U:∀x v,ρ x=some v->VR μ v (ev x)){t:TypeId}{ps:Array (Nat×Operand)}{r:AV}(j:dY P ρ s (.build t ps)=some r)(w:World) : ∃v,(Instr.build t (ps.map fun(i,x)=>(i,ev x))).run P w=.ok v w/\VR μ r v:=by
 simp only[dY]at j;split at j
 ·next z Z N hu=>
  split at j
  ·next pl J=>
   simp only[iN]at j;obtain⟨c,C,rfl⟩:=j;obtain⟨zv,u,y⟩:=ii N w;obtain⟨m,A,B⟩:=xi U ps.toList z.cells zv.cells.toList (y μ).cells C;refine⟨.agg m.toArray,?_,by simp only[VR];exact⟨m,rfl,B⟩⟩;have hp:=Gd J w;have e:(fun(i:Nat)=>(pl.toArray)[i]?)=fun(i:Nat)=>pl[i]?:=by funext i;simp
   simp only[Instr.build,Le,u,BY,sK hu w,aCQ,Sem.run_map,hp,aBW];rw[e];simp only[aAn]at A;rw[A];rfl
  cases j
 ·next z n e N hu=>
  split at j
  ·next k Y=>
   simp only[iN]at j;obtain⟨c,C,rfl⟩:=j;obtain⟨zv,u,y⟩:=ii N w;obtain⟨m,A,B⟩:=xi U ps.toList z.cells zv.cells.toList (y μ).cells C;refine⟨.agg m.toArray,?_,by simp only[VR];exact⟨m,rfl,B⟩⟩;simp only[Instr.build,Le,u,BY,sK hu w,bL Y,aBW];simp only[aAn]at A;rw[A];rfl
  cases j
 cases j
end
end
section
section
variable {P:Program}{μ:Mu}{s:St}{w:World}

theorem Me{l:List MapEntry}(h:(l.map (·.born)).Nodup){e}(he:e∈l):l.find? (fun x=>x.born == e.born)=some e:=by
 induction l with
 |nil=>cases he
 |cons x l ih=>
  simp only[OF,aBx]at h;rw[aDD];by_cases j:x.born=e.born
  ·rcases Is.1 he with rfl|he
   ·simp
   exact absurd (Ac.2 ⟨e,he,j.symm⟩) h.1
  rcases Is.1 he with rfl|he
  ·exact absurd rfl j
  rw[show(x.born == e.born)=false by simpa using j];exact ih h.2 he
theorem lK.find{es l}(h:lK μ es l)(b:Nat):(∀a,es.find? (fun e=>Nat.beq e.born b)=some a->∃e,l.find? (fun e=>e.born == b)=some e/\VR μ a.key e.key/\VR μ a.val e.val/\e.born=a.born):=by
 induction es generalizing l with
 |nil=>intro a e;cases e
 |cons x es ih=>
  obtain⟨k,v,A,rfl,j,u,y⟩:=h;intro a e;rw[aDD]at e⊢;cases hb:Nat.beq x.born b with
  |true=>
   rw[hb]at e;cases e;have:(x.born == b)=true:=by simpa using hb
   simp only[this];exact⟨_,rfl,j,u,rfl⟩
  |false=>
   rw[hb]at e;have:(x.born == b)=false:=by simpa using (BW.1 hb)
   simp only[this];exact ih y a e

theorem V6(hl:laidOutB P=true)(h:bU μ s w){ρ ev}(C:∀x v,ρ x=some v->VR μ v (ev x))o{r}(j:dY P ρ s o.op=some r): ∃v,(execOp ev o).run P w=.ok (.value v) w/\VR μ r v:=by
 obtain⟨dst,op,type,pos,after,guard⟩:=o;simp only at j;cases op
 case move x=>exact⟨_,rfl,C _ _ (by simpa only[dY]using j)⟩
 case assign x=>exact⟨_,rfl,C _ _ (by simpa only[dY]using j)⟩
 case pick c a b=>
  simp only[dY]at j;split at j
  ·next t J=>
   have a4:=C _ _ J;simp only[VR]at a4;cases t
   ·exact⟨ev b,by simp[execOp,a4,asBool],C _ _ j⟩
   exact⟨ev a,by simp[execOp,a4,asBool],C _ _ j⟩
  cases j
 case load t a=>simp only[dY,sT]at j;obtain⟨x,Y,h2⟩:=j;obtain⟨v,Z,h4⟩:=wM h h2 (C _ _ Y);exact⟨v,aQ Z,h4⟩
 case nilCheck x=>
  simp only[dY]at j;split at j
  ·next o off e=>
   cases j;have:=C _ _ e;refine⟨ev x,?_,this⟩;simp only[VR]at this;obtain⟨p,_,N⟩:=this;simp[execOp,N]
  ·next c off e=>
   cases j;have:=C _ _ e;refine⟨ev x,?_,this⟩;simp only[VR]at this;obtain⟨b,base,cs,N,_⟩:=this;simp[execOp,N]
  ·next f fs cs e=>
   cases j;have:=C _ _ e;refine⟨ev x,?_,this⟩;simp only[VR]at this;obtain⟨a,c,N,_,_⟩:=this;simp[execOp,N]
  ·next l e=>
   cases j;have:=C _ _ e;refine⟨ev x,?_,this⟩;simp only[VR]at this;obtain⟨p,_,N⟩:=this;simp[execOp,N]
  cases j
 case binOp op t x y yt=>
  simp only[dY]at j;split at j
  ·next a b ha hb=>
   obtain⟨Y,v,h2,Z⟩:=Ql (x:=x) (y:=y) j (C _ _ ha) (C _ _ hb) w;exact⟨v,by simp[execOp,Y,h2],Z⟩
  cases j
 case unOp op t x=>simp only[dY,sT]at j;obtain⟨a,Y,v,h2,u,Z,h4⟩:=j;have:=FG h2 (C _ _ Y);exact⟨u,by simp[execOp,this,jq P w _ Z],gQ μ u h4⟩
 case convert src dst x=>
  simp only[dY,sT]at j;obtain⟨a,Y,j⟩:=j;split at j
  ·next k n=>
   rw[sT]at j;obtain⟨u,Z,h4⟩:=j;have:=C _ _ Y;simp only[VR]at this;exact⟨u,by simp[execOp,this,jq P w _ Z],gQ μ u h4⟩
  cases j
 case makeInterface t x=>
  simp only[dY]at j;split at j
  ·cases j
  ·next d hd hu=>
   simp only[iN]at j;obtain⟨a,Y,rfl⟩:=j;refine⟨.iface t (ev x),?_,by simp only[VR];exact⟨_,rfl,C _ _ Y⟩⟩;apply aQ;simp only[Instr.makeInterface,Le,sK hu w,BY];rfl
  cases j
 case makeFunc fn fs cs=>
  cases fn with
  |func f=>simp only[dY,sT,iN]at j;obtain⟨asn,Y,bs,h2,rfl⟩:=j;refine⟨.func (.func f) (fs.map ev) (cs.map ev),rfl,?_⟩;simp only[VR];exact⟨fs.toList.map ev,cs.toList.map ev,by rw[<-aBW,<-aBW,aAn,aAn],gB C Y,gB C h2⟩
  |_=>simp[dY]at j
 case slice t x lo hi mx=>
  simp only[dY]at j;cases J:(hi.isSome ||mx.isNone)with
  |false=>rw[J]at j;cases j
  |true=>rw[J]at j;simp only[EQ,sT]at j;obtain⟨a,Y,h2⟩:=j;obtain⟨v,Z,h4⟩:=FU C (by rintro rfl;simpa using J) h2 (C _ _ Y) w;exact⟨v,aQ Z,h4⟩
 case fieldAddr t x f=>
  simp only[dY]at j;split at j
  ·next fd o off hf ha=>
   obtain⟨fs,hu,an⟩:=qy hf;have B:=C _ _ ha;simp only[VR]at B;obtain⟨p,hm,e⟩:=B;split at j
   ·next n hz=>
    cases j;refine⟨.pointer (some ⟨p.blk,p.base+(off+fd.offset),none⟩),aQ ?_,by simp only[VR];exact⟨p,hm,rfl⟩⟩;simp[Instr.fieldAt,Instr.sureAddr,sK hu,an,e,fieldPlace,bL hz,iB,aAo]
   cases j
  ·next fd c off hf ha=>
   obtain⟨fs,hu,an⟩:=qy hf;have B:=C _ _ ha;simp only[VR]at B;obtain⟨b,base,cs,e,B⟩:=B;split at j
   ·next n hz=>
    cases j;refine⟨.pointer (some ⟨b,base+(off+fd.offset),none⟩),aQ ?_,by simp only[VR];exact⟨b,base,cs,rfl,B⟩⟩;simp[Instr.fieldAt,Instr.sureAddr,sK hu,an,e,fieldPlace,bL hz,iB,aAo]
   cases j
  cases j
 case field t x f=>
  simp only[dY]at j;split at j
  ·next fd l hf ha=>
   obtain⟨fs,hu,an⟩:=qy hf;have B:=C _ _ ha;simp only[VR]at B;obtain⟨m,e,hm⟩:=B;obtain⟨v,Z,h4⟩:=Dl j hm w;refine⟨v,aQ ?_,h4⟩;simp[Instr.field,sK hu,an,e,asAgg,Z]
  cases j
 case indexAddr t x ix=>
  simp only[dY]at j;split at j
  ·next n e o off i hu ha hi=>
   rw[sT]at hi;obtain⟨ia,ad,al⟩:=hi;have ei:=mS al (C _ _ ad);have B:=C _ _ ha;simp only[VR]at B;obtain⟨p,hm,N⟩:=B;split at j
   ·next z hz=>
    cases J:Nat.blt i n with
    |false=>rw[J]at j;cases j
    |true=>rw[J]at j;cases j;rw[ON]at J;refine⟨.pointer (some ⟨p.blk,p.base+(off+i*z),none⟩),aQ ?_,by simp only[VR];exact⟨p,hm,rfl⟩⟩;simp[Instr.indexAt,asIntOf,ei,Instr.sureAddr,sK hu,N,bL hz,iB,aAo,J]
   cases j
  ·next e o off n c i hu ha hi=>
   rw[sT]at hi;obtain⟨ia,ad,al⟩:=hi;have ei:=mS al (C _ _ ad);have B:=C _ _ ha;simp only[VR]at B;obtain⟨p,c',hm,N,_,_⟩:=B;split at j
   ·next z hz=>
    cases J:Nat.blt i n with
    |false=>rw[J]at j;cases j
    |true=>rw[J]at j;cases j;rw[ON]at J;refine⟨.pointer (some ⟨p.blk,p.base+(off+i*z),none⟩),aQ ?_,by simp only[VR];exact⟨p,hm,rfl⟩⟩;simp[Instr.indexAt,asIntOf,ei,sK hu,N,bL hz,iB,aAo,J]
   cases j
  ·next n e c off i hu ha hi=>
   rw[sT]at hi;obtain⟨ia,ad,al⟩:=hi;have ei:=mS al (C _ _ ad);have B:=C _ _ ha;simp only[VR]at B;obtain⟨b,base,cs,N,B⟩:=B;split at j
   ·next z hz=>
    obtain⟨J,j⟩:=ah j;cases j;rw[ON]at J;refine⟨.pointer (some ⟨b,base+(off+i*z),none⟩),aQ ?_,by simp only[VR];exact⟨b,base,cs,rfl,B⟩⟩;simp[Instr.indexAt,asIntOf,ei,Instr.sureAddr,sK hu,N,bL hz,iB,aAo,J]
   cases j
  ·next e c n i hu ha hi=>
   rw[sT]at hi;obtain⟨ia,ad,al⟩:=hi;have ei:=mS al (C _ _ ad);have B:=C _ _ ha;simp only[VR]at B;obtain⟨cs,⟨A,cap,N,_,_,hA⟩,a5⟩:=B;split at j
   ·next z hz=>
    obtain⟨J,j⟩:=ah j;cases j;rw[ON]at J;obtain⟨b,base,rfl,hf⟩:=hA (by omega);refine⟨.pointer (some ⟨b,base+i*z,none⟩),aQ ?_,by simp only[VR];exact⟨b,base,cs,rfl,hf,a5⟩⟩;simp[Instr.indexAt,asIntOf,ei,sK hu,N,bL hz,iB,J]
   cases j
  cases j
 case index t x ix=>
  simp only[dY]at j;split at j
  ·next n e l i hu ha hi=>
   rw[sT]at hi;obtain⟨ia,ad,al⟩:=hi;have ei:=mS al (C _ _ ad);have B:=C _ _ ha;simp only[VR]at B;obtain⟨m,N,hm⟩:=B;split at j
   ·next z hz=>
    cases J:Nat.blt i n with
    |false=>rw[J]at j;cases j
    |true=>rw[J]at j;rw[ON]at J;obtain⟨v,Z,h4⟩:=Dl j hm w;refine⟨v,aQ ?_,h4⟩;simp[Instr.index,asIntOf,ei,sK hu,N,bL hz,J,Z]
   cases j
  cases j
 case lookup t x k ok=>
  simp only[dY]at j;split at j
  ·next a b ha hb=>
   obtain⟨v,Z,h4⟩:=Lp hl h j (C _ _ ha) (C _ _ hb);exact⟨v,aQ Z,h4⟩
  cases j
 case typeAssert x xt t ok=>
  simp only[dY]at j;split at j
  ·cases j
  ·next d t' u hd hu ha=>
   have B:=C _ _ ha;simp only[VR]at B;obtain⟨y,N,hy⟩:=B;cases J:Nat.beq t t' with
   |false=>rw[J]at j;cases j
   |true=>
    rw[J]at j;cases j;have ht:=ID J;subst ht;refine⟨if ok then .tuple #[y,.bool true]else y,aQ ?_,?_⟩
    ·simp only[Instr.typeAssert,Le,sK hu w,BY,N];cases d<;>first|exact absurd rfl (hd _)|simp
    cases ok
    ·exact hy
    simp only[EQ,aBh,VR];exact⟨[y,.bool true],rfl,ap.cons hy (ap.cons (by simp[VR]) ap.nil_)⟩
  cases j
 case extract x k=>
  simp only[dY]at j;split at j
  ·next l ha=>
   have B:=C _ _ ha;simp only[VR]at B;obtain⟨m,N,hm⟩:=B;obtain⟨y,hy,B⟩:=hm.get j;exact⟨y,aQ (by simp[Instr.extract,N,hy]),B⟩
  cases j
 case entry it=>
  simp only[dY]at j;split at j
  ·next o ha=>
   have B:=C _ _ ha;simp only[VR]at B;obtain⟨p,hm,N⟩:=B;split at j
   ·next k1 v1 bd bf ho=>
    cases j;have am:=h.obj o _ ho (by rw[hm];simp);simp only[OR]at am;obtain⟨p',b,l,c,sn,l',Y,h0,h2,Z,h4,h5,h6,h7,h8,h9⟩:=am;rw[hm]at Y;cases Y;obtain⟨e,g1,g2,g3,g4⟩:=h9 _ _ rfl;have hb:=jZ (h.fz _ _ _ Z).2.1;have a6:l.toArray.find? (fun x=>x.born == e.born)=some e:=by have:l.find? (fun x=>x.born == e.born)=some e:=Me h4 g1;simpa using this
    refine⟨.tuple #[e.key,e.val],aQ ?_,by simp only[VR];exact⟨[e.key,e.val],rfl,ap.cons (g3.mono μ.blind_sub) (ap.cons (g4.mono μ.blind_sub) ap.nil_)⟩⟩;have a3:sn.toArray.back? = some e.born:=by simpa using g2
    simp[Instr.entry,N,h0,getObj,Sem.run,h2,hb,a3,a6]
   ·next m x1 seen st ho=>
    have am:=h.obj o _ ho (by rw[hm];simp);simp only[OR]at am;obtain⟨p',m',Y,h0,h2,q,Z,rfl⟩:=am;rw[hm]at Y;cases Y;split at j
    ·next es clock a9=>
     have a0:=h.obj m _ a9 (by rw[Z];simp);simp only[OR]at a0;obtain⟨q',l,h4,h5,h6⟩:=a0;rw[Z]at h4;cases h4;split at j
     ·next b hb=>
      cases J:Nat.beq clock st with
      |false=>rw[J]at j;cases j
      |true=>
       rw[J]at j;simp only[EQ]at j;have a5:=ID J;subst a5;split at j
       ·next a a7=>
        cases j;obtain⟨e,f1,f2,f3,f4⟩:=h6.find b a a7;refine⟨.tuple #[e.key,e.val],aQ ?_,by simp only[VR];exact⟨[e.key,e.val],rfl,ap.cons f2 (ap.cons f3 ap.nil_)⟩⟩;have a3:seen.toArray.back? = some b:=by simpa using hb
        simp[Instr.entry,N,h0,getObj,Sem.run,h2,h5,a3,f1]
       cases j
     cases j
    cases j
   cases j
  cases j
 case build t ps=>obtain⟨v,Z,h4⟩:=Md C j w;exact⟨v,aQ Z,h4⟩
 case call c=>
  obtain⟨callee,args,argTypes⟩:=c;cases callee with
  |builtin b=>
   cases b
   case len=>
    simp only[dY]at j;split at j
    ·next t x ht ha=>
     have U:∀{v},(Builtin.len_ argTypes type (args.map ev)).run P w=.ok v w->(execOp ev ⟨dst,.call ⟨.builtin .len,args,argTypes⟩,type,pos,after,guard⟩).run P w=.ok (.value v) w:=fun B=>by simp[execOp,resolve,invoke,builtin,B]
     have a2:argTypes=#[t]:=by rw[<-aAn (xs:=argTypes),ht]
     have a1:args=#[x]:=by rw[<-aAn (xs:=args),ha]
     subst a2;subst a1;split at j
     ·next n e hu=>
      cases j;exact⟨.int .i64 n,U (by simp[Builtin.len_,sK hu,goInt]),by simp[VR]⟩
     ·next e hu=>
      split at j
      ·next o off n c B=>
       cases j;have B:=C _ _ B;simp only[VR]at B;obtain⟨p,c',hm,N,_,_⟩:=B;exact⟨.int .i64 n,U (by simp[Builtin.len_,sK hu,goInt,N]),by simp[VR]⟩
      ·next c n B=>
       cases j;have B:=C _ _ B;simp only[VR]at B;obtain⟨cs,⟨A,cap,N,_⟩,_⟩:=B;exact⟨.int .i64 n,U (by simp[Builtin.len_,sK hu,goInt,N]),by simp[VR]⟩
      ·next B=>
       cases j;have B:=C _ _ B;simp only[VR]at B;exact⟨.int .i64 0,U (by simp[Builtin.len_,sK hu,goInt,B]),by simp[VR]⟩
      cases j
     ·next kt e hu=>
      split at j
      ·next o B=>
       simp only[Tb,iN]at j;obtain⟨n,hn,rfl⟩:=j;have B:=C _ _ B;simp only[VR]at B;obtain⟨p,hm,N⟩:=B;split at hn
       ·next es clock ho=>
        cases hn;have am:=h.obj o _ ho (by rw[hm];simp);simp only[OR]at am;obtain⟨p',l,Y,h2,Z⟩:=am;rw[hm]at Y;cases Y;have av:∀{es:List AE}{l:List MapEntry},lK μ es l->l.length=es.length:=by
         intro es
         induction es with
         |nil=>intro l h;simp only[lK]at h;subst h;rfl
         |cons a es ih=>intro l h;obtain⟨_,_,l',rfl,_,_,h⟩:=h;simp[ih h]
        exact⟨.int .i64 es.length,U (by simp[Builtin.len_,sK hu,goInt,N,getObj,Sem.run,h2,av Z]),by simp[VR]⟩
       cases hn
      ·next B=>
       cases j;have B:=C _ _ B;simp only[VR]at B;exact⟨.int .i64 0,U (by simp[Builtin.len_,sK hu,goInt,B]),by simp[VR]⟩
      ·next ks vs B=>
       cases j;have B:=C _ _ B;simp only[VR]at B;obtain⟨b,l,clock,l',N,Y,h2,Z,h4,h5,h6⟩:=B;have hb:=jZ (h.fz _ _ _ Y).2.1;have av:l.length=ks.length:=by rw[h5.length,RW,h2.length_eq]
       exact⟨.int .i64 ks.length,U (by simp[Builtin.len_,sK hu,goInt,N,getObj,Sem.run,hb,av]),by simp[VR]⟩
      cases j
     cases j
    cases j
   case cap=>
    simp only[dY]at j;split at j
    ·next t x ht ha=>
     have U:∀{v},(Builtin.cap_ argTypes type (args.map ev)).run P w=.ok v w->(execOp ev ⟨dst,.call ⟨.builtin .cap,args,argTypes⟩,type,pos,after,guard⟩).run P w=.ok (.value v) w:=fun B=>by simp[execOp,resolve,invoke,builtin,B]
     have a2:argTypes=#[t]:=by rw[<-aAn (xs:=argTypes),ht]
     have a1:args=#[x]:=by rw[<-aAn (xs:=args),ha]
     subst a2;subst a1;split at j
     ·next e hu=>
      split at j
      ·next o off n c B=>
       cases J:Nat.blt c bI with
       |false=>rw[J]at j;cases j
       |true=>rw[J]at j;cases j;rw[ON]at J;have B:=C _ _ B;simp only[VR]at B;obtain⟨p,c',hm,N,Y,_⟩:=B;rw[Y J]at N;exact⟨.int .i64 c,U (by simp[Builtin.cap_,sK hu,goInt,N]),by simp[VR]⟩
      ·next B=>
       cases j;have B:=C _ _ B;simp only[VR]at B;exact⟨.int .i64 0,U (by simp[Builtin.cap_,sK hu,goInt,B]),by simp[VR]⟩
      cases j
     cases j
    cases j
   case min=>
    simp only[dY]at j;split at j
    ·next k a k' b hm=>
     cases J:(k == k')with
     |false=>rw[J]at j;cases j
     |true=>
      rw[J]at j;cases j;have B:=gB C hm;simp only[ap,VR]at B;obtain⟨y,ys,e1,rfl,y2,ba,rfl,rfl,rfl⟩:=B;refine⟨.int k (if b<a then b else a),?_,?_⟩
      ·simp[execOp,resolve,invoke,builtin,Builtin.min_,e1,Builtin.min2]
      by_cases e:b<a<;>simp[VR,e]
    cases j
   case max=>
    simp only[dY]at j;split at j
    ·next k a k' b hm=>
     cases J:(k == k')with
     |false=>rw[J]at j;cases j
     |true=>
      rw[J]at j;cases j;have B:=gB C hm;simp only[ap,VR]at B;obtain⟨y,ys,e1,rfl,y2,ba,rfl,rfl,rfl⟩:=B;refine⟨.int k (if b>a then b else a),?_,?_⟩
      ·simp[execOp,resolve,invoke,builtin,Builtin.max_,e1,Builtin.max2]
      by_cases e:b>a<;>simp[VR,e]
    cases j
   all_goals (simp[dY]at j;done)
  |_=>simp[dY]at j
 all_goals (simp[dY]at j;done)
end
end
section
theorem zq(n:Nat)(h:n<9223372036854775808):IntKind.i64.wrap (n:Int)=(n:Int):=by unfold IntKind.wrap;simp only[IntKind.bits,IntKind.signed];have j:(n:Int)%(2^64)=n:=Int.emod_eq_of_lt (by omega) (by omega);simp only[j];rw[iF];simp;omega
theorem qO{z zv}(j:∀μ,ap μ z zv)μ:∀n,ap μ (reps z n) (reps zv n)
 |0=>ap.nil_
 |n+1=>(j μ).append (qO j μ n)
theorem qi(zv:Array Value)(y:0<zv.size)n:((Array.range (n*zv.size)).map (zv[·%zv.size]!))=(reps zv.toList n).toArray:=by
 apply aDa;simp only[aBW,Array.toList_range]
 induction n with
 |zero=>simp[reps]
 |succ n ih=>
  have:(n+1)*zv.size=zv.size+n*zv.size:=by rw[aAl];omega
  rw[this,List.range_add,aAe];have j:(List.range zv.size).map (fun x=>zv[x%zv.size]!)=zv.toList:=by
   apply aAa;intro i;by_cases hi:i<zv.size
   ·simp[hi,aBE hi]
   simp[hi]
  have u:((List.range (n*zv.size)).map (zv.size+·)).map (fun x=>zv[x%zv.size]!)=(List.range (n*zv.size)).map (fun x=>zv[x%zv.size]!):=by rw[aAG];apply aBf;intro x _;simp
  rw[j,u,ih];simp[reps]
theorem sL{z}(h:z.all flat=true):∀n,(reps z n).all flat=true
 |0=>rfl
 |n+1=>by simp only[reps,aCW,gE];exact⟨h,sL h n⟩
section
variable {P:Program}{μ:Mu}{s:St}{w:World}

theorem n8{μ w' o g tot c cs t op}(hm:μ o=some (.at_ ⟨g,0,tot⟩))(C:w'.heap[g]?=some (.cells cs t (0,0)))(hs:cs.size=tot)(hf:c.all flat=true)(J:∃rest,ap μ c rest/\∃j,cs.toList=rest++j/\j.all ko=true):OR μ w' o (.cells c t op):=by obtain⟨rest,u,j,A,B⟩:=J;refine⟨_,cs,hm,C,hs,⟨hf,by rw[A,aCW,fU u hf,B];rfl⟩,fun i x U=>?_⟩;obtain⟨y,hy,N⟩:=u.get U;refine⟨y,?_,N⟩;simp only[SK];rw[<-aBi,A,aAp (dO.1 hy).1];exact hy

theorem QZ{ρ ev}(hρ:∀x v,ρ x=some v->VR μ v (ev x))o{x f}(j:tA P ρ o.op=some (x,f))w: ∃O tot v,(execOp ev o).run P w=.ok (.value v) (w.alloc O)/\(∀n,x≠.nat n) /\ ∀μ' k,lJ μ μ'->μ' k=some (.at_ ⟨w.heap.size,0,tot⟩)->VR μ' (f k) v/\∀w':World,w'.heap[w.heap.size]?=some O->OR μ' w' k x:=by
 obtain⟨dst,op,type,pos,after,guard⟩:=o;simp only at j;cases op
 case alloc t=>
  simp only[tA,sT]at j;obtain⟨z,hz,j⟩:=j;obtain⟨hf,j⟩:=ah j;cases j;obtain⟨zv,C,B⟩:=ii hz w;refine⟨.cells zv.cells t,zv.cells.size,.pointer (some ⟨w.heap.size,0,none⟩),?_,by simp,fun μ' k hs A=>⟨?_,fun w' hw=>?_⟩⟩
  ·apply aQ;simp[Instr.alloc,C,newVar,newRow]
  ·simp only[VR];exact⟨_,A,rfl⟩
  exact n8 A hw rfl hf ⟨zv.cells.toList,(B μ').cells,[],by simp,rfl⟩
 case box t y=>
  simp only[tA,sT]at j;obtain⟨v,hv,j⟩:=j;obtain⟨hf,j⟩:=ah j;cases j;have a4:=hρ _ _ hv;refine⟨.cells (ev y).cells t,(ev y).cells.size,.pointer (some ⟨w.heap.size,0,none⟩),?_,by simp,fun μ' k hs A=>⟨?_,fun w' hw=>?_⟩⟩
  ·apply aQ;simp[Instr.box,newVar,newRow]
  ·simp only[VR];exact⟨_,A,rfl⟩
  exact n8 A hw rfl hf ⟨(ev y).cells.toList,(a4.mono hs).cells,[],by simp,rfl⟩
 case buildSlice t len ps=>
  simp only[tA]at j;split at j
  ·next e hu=>
   split at j
   ·next z n hz hn=>
    obtain⟨hc,j⟩:=ah j;simp only[gE,aBc,ON,aAv]at hc;obtain⟨⟨U,Y⟩,a7⟩:=hc;rw[sT]at j;obtain⟨c,Z,j⟩:=j;obtain⟨hf,j⟩:=ah j;cases j;obtain⟨zv,C,B⟩:=ii hz w;have J:zv.cells.size=n:=by rw[<-U,(B μ).cells.length];simp
    obtain⟨m,h1,h2⟩:=xi hρ ps.toList (reps z.cells len) (reps zv.cells.toList len) (qO (fun μ=>(B μ).cells) μ len) Z;rw[<-qi zv.cells (by omega),J]at h1;refine⟨.cells m.toArray e,m.length,.slice (some ⟨w.heap.size,0,none⟩) len len,?_,by simp,fun μ' k hs A=>⟨?_,fun w' hw=>?_⟩⟩
    ·apply aQ;have e0:(ps.map fun(i,x)=>(i,ev x)).toList=ps.toList.map fun p=>(p.1,ev p.2):=by simp
     have am:¬(len*n>2^24):=by omega
     by_cases h0:len*n=0
     ·have a0:len=0:=by rcases aEj.1 h0 with h|h<;>omega
      subst a0;simp only[Instr.buildSlice,Le,sK hu w,bL hn,BY];have hr:Array.range 0=#[]:=rfl;simp only[aCh,hr,Array.map_empty]at h1⊢;simp only[aBy,aCq,aBh,e0,Le,aAr,BY,gt_iff_lt];rw[h1];rfl
     simp only[Instr.buildSlice,Le,sK hu w,bL hn,BY];rw[iF am,iF h0];simp only[Le,C,BY,aAr,J,e0];rw[h1];rfl
    ·simp only[VR];refine⟨_,len,A,rfl,fun _=>rfl,fun e=>?_⟩;have:len<=len*n:=aBM _ Y;exact absurd (show len<bI by unfold bI;omega) e
    exact n8 A hw (by simp) hf ⟨m,ap.mono hs _ h2,[],by simp,rfl⟩
   cases j
  cases j
 case makeMap t r=>
  cases r with
  |none=>
   simp only[tA,iD,Gt]at j;obtain⟨rfl,rfl⟩:=j;refine⟨.map #[] 0,0,.map (some w.heap.size),by simp[execOp,Instr.makeMap],by simp,fun μ' k hs A=>⟨?_,fun w' hw=>?_⟩⟩
   ·simp only[VR];exact⟨_,A,rfl⟩
   exact⟨_,[],A,hw,rfl⟩
  |some y=>
   simp only[tA]at j;split at j
   ·next kt e k n hu hy=>
    cases j;have:=hρ _ _ hy;simp only[VR]at this;refine⟨.map #[] 0,0,.map (some w.heap.size),aQ (by simp[Instr.makeMap,sK hu,this,asInt,asIntOf]),by simp,fun μ' k hs A=>⟨?_,fun w' hw=>?_⟩⟩
    ·simp only[VR];exact⟨_,A,rfl⟩
    exact⟨_,[],A,hw,rfl⟩
   cases j
 case makeSlice t l c=>
  simp only[tA]at j;split at j
  ·next e ln u hu hl hc=>
   rw[sT]at hl hc;obtain⟨la,a1,a2⟩:=hl;obtain⟨ca,U,Y⟩:=hc;have el:=mS a2 (hρ _ _ a1);have ec:=mS Y (hρ _ _ U);split at j
   ·next z i hz hi=>
    obtain⟨al,j⟩:=ah j;cases j;simp only[gE,aBc,ON,aAv]at al;obtain⟨⟨⟨⟨⟨hf,g1⟩,g2⟩,g3⟩,g4⟩,g5⟩:=al;obtain⟨zv,C,B⟩:=ii hz w;have J:zv.cells.size=i.size:=by rw[<-g1,(B μ).cells.length];simp
    have N:i.bytes*u<=1000000*1000000:=aCo g5 g4;have ad:=sL hf u;refine⟨.cells (reps zv.cells.toList u).toArray e,(reps zv.cells.toList u).length,.slice (some ⟨w.heap.size,0,none⟩) ln u,?_,by simp,fun μ' k hs A=>⟨?_,fun w' hw=>?_⟩⟩
    ·apply aQ;have a5:=zq ln (by omega);have a6:=zq u (by omega);have a3:¬((u:Int)<0):=by omega
     have an:¬((i.bytes:Int)*(u:Int)>2^48):=by have:((i.bytes*u:Nat):Int)<=((1000000*1000000:Nat):Int):=Int.ofNat_le.2 N;rw[aAq]at this;omega
     simp only[Instr.makeSlice,Le,sK hu w,BY,el,ec,asInt,asIntOf,typeInfo,sizeOf,hi,a5,a6,aAr,aEn];have d1:decide ((u:Int)<0)=false:=iS a3;have d2:decide ((i.bytes:Int)*(u:Int)>2^48)=false:=iS an;have d3:decide ((ln:Int)<0)=false:=iS (by omega);have d4:decide ((ln:Int)>(u:Int))=false:=iS (by omega);simp only[d1,d2,d3,d4,Bool.or_false,aBF,aCq,Le,run_askRoom,aEn,hi,aAr,BY,iO];by_cases h0:u*i.size=0
     ·have av:u=0:=by rcases aEj.1 h0 with h|h<;>omega
      subst av;have e0:ln=0:=by omega
      subst e0;have hr:Array.range 0=#[]:=rfl;simp[newRow,reps,hr]
     rw[iF h0];have:=qi zv.cells (by omega) u;rw[J]at this;simp only[Le,C,BY,aAr,J,this];rfl
    ·simp only[VR];exact⟨_,u,A,rfl,fun _=>rfl,fun e=>absurd (show u<bI by unfold bI;omega) e⟩
    exact n8 A hw (by simp) ad ⟨_,qO (fun μ=>(B μ).cells) μ' u,[],by simp,rfl⟩
   cases j
  cases j
 all_goals (simp[tA]at j;done)
end
end
section
theorem lA b t fr:∀(j:List Value)(o:Nat)(w:World)(cs:List Value),w.heap[b]?=some (.cells cs.toArray t fr)->(w.setCells b o j).heap[b]?=some (.cells (cz cs o j).toArray t fr)
 | [],_,_,_,h=>h
 |v::j,o,w,cs,h=>by rw[World.setCells,cz];exact lA b t fr j (o+1) _ _ (by simp[World.setCell,aCb,h])
theorem nU b{g}(u:g≠b):∀(j:List Value)(o:Nat)(w:World),(w.setCells b o j).heap[g]?=w.heap[g]?
 | [],_,_=>rfl
 |v::j,o,w=>by rw[World.setCells,nU b u j,Below.heap_setCell w ⟨b,o,none⟩ v g u]
theorem lB b:∀(j:List Value)(o:Nat)(w:World),(w.setCells b o j).os=w.os/\(w.setCells b o j).tape=w.tape/\(w.setCells b o j).output=w.output/\(w.setCells b o j).heap.size=w.heap.size
 | [],_,_=>⟨rfl,rfl,rfl,rfl⟩
 |v::j,o,w=>by rw[World.setCells];have:=lB b j (o+1) (w.setCell ⟨b,o,none⟩ v);exact⟨this.1,this.2.1,this.2.2.1,this.2.2.2.trans (World.size_setCell w _ v)⟩
theorem nX{α}:∀(j:List α)(c:List α)(o:Nat),(cz c o j).length=c.length
 | [],_,_=>rfl
 |v::j,c,o=>by rw[cz,nX j];simp
theorem jo{α}:∀(j:List α)(c:List α)(o i:Nat),(cz c o j)[i]?=if o<=i/\i<o+j.length/\i<c.length then j[i-o]? else c[i]?
 | [],c,o,i=>by simp only[cz,aAP];rw[iF (by omega)]
 |v::j,c,o,i=>by
  rw[cz,jo j (c.set o v) (o+1) i];simp only[aCV,On];by_cases x:o=i
  ·subst x;rw[iF (by omega)];by_cases u:o<c.length
   ·rw[oR (by omega)];simp[u]
   rw[iF (by omega)];rw[As.2 (by simp;omega),As.2 (by omega)]
  by_cases u:o+1<=i/\i<o+1+j.length/\i<c.length
  ·rw[oR u,oR (by omega),show i-o=(i-(o+1))+1 by omega,Em]
  rw[iF u,iF (by omega),aCf x]
theorem yw{vs}(j:vs.all flat=true):∀{c:List AV}{o:Nat},c.all flat=true->(cz c o vs).all flat=true:=by
 induction vs with
 |nil=>intro c o h;exact h
 |cons v vs ih=>
  intro c o h;simp only[aAR,gE]at j;rw[cz];refine ih j.2 ?_;rw[Of]at h⊢;intro x u;rcases aBA u with u|rfl
  ·exact h x u
  exact j.1
theorem wF{vs}(j:vs.all ko=true):∀{c:List Value}{o:Nat},c.all ko=true->(cz c o vs).all ko=true:=by
 induction vs with
 |nil=>intro c o h;exact h
 |cons v vs ih=>
  intro c o h;simp only[aAR,gE]at j;rw[cz];refine ih j.2 ?_;rw[Of]at h⊢;intro x u;rcases aBA u with u|rfl
  ·exact h x u
  exact j.1
theorem rn{μ}:∀{l:List AV}{m:List Value},ap μ l m->l.all flat=true->∀v∈m,v.oneCell'=true
 | [],m,h,_,v,j=>by simp only[ap]at h;subst h;cases j
 |x::l,m,h,hf,v,j=>by
  simp only[ap]at h;obtain⟨y,B,rfl,u,A⟩:=h;simp only[aAR,gE]at hf;rcases Is.1 j with rfl|j
  ·exact um u hf.1
  exact rn A hf.2 v j

section
variable {P:Program}{μ:Mu}{s:St}{w:World}

theorem pg(h:bU μ s w){o off c t op p}(ho:s.h.get o=some (.cells c t op))(hm:μ o=some (.at_ p)){vs ms}(N:ap μ vs ms)(hf:vs.all flat=true)(ad:off+vs.length<=c.length): (storeCells ⟨p.blk,p.base+off,none⟩ ms).run P w=.ok () (w.setCells p.blk (p.base+off) ms) /\ bU μ (s.set o (.cells (cz c off vs) t op)) (w.setCells p.blk (p.base+off) ms)/\fo μ s w μ (s.set o (.cells (cz c off vs) t op)) (w.setCells p.blk (p.base+off) ms):=by
 have C:=h.obj o _ ho (by rw[hm];simp);simp only[OR]at C;obtain⟨p',cs,h1,U,h3,h4,Y⟩:=C;rw[hm]at h1;cases h1;have hl:=N.length;have A:∀j,j<ms.length->∃y,w.cell? ⟨p.blk,p.base+off+j,none⟩=some y:=fun j Z=>by obtain⟨x,u⟩:∃x,c[off+j]?=some x:=⟨_,bY (by omega)⟩;obtain⟨y,hy,_⟩:=Y _ x u;exact⟨y,by simp[World.cell?,U,aAo,hy]⟩
 have J:=run_storeCells_cells (P:=P) p.blk (p.base+off) ms 0 w (fun j Z=>by obtain⟨y,hy⟩:=A j Z;simp[hy]) (fun j Z=>by simp[World.frozen?,U]) (rn N hf);obtain⟨r1,r2,r3,r4⟩:=lB p.blk ms (p.base+off) w;have B:=lA p.blk t (0,0) ms (p.base+off) w cs.toList (by simpa using U);refine⟨by simpa using J,h.turn ho hm _ r1 r2 r3 r4 (fun g hg=>nU p.blk hg ms _ w) ?_ (by simp)⟩;refine⟨p,_,hm,B,by simp[nX,h3],⟨yw hf h4.1,wF (fU N hf) h4.2⟩,fun i x u=>?_⟩;rw[jo]at u;rw[aBC,jo];have hi:∀y,c[i]?=some y->p.base+i<cs.toList.length:=fun y hy=>by obtain⟨z,hz,_⟩:=Y i y hy;have:=(IF.1 hz).1;simpa using this
 split at u
 ·next e=>
  have:=hi _ (bY e.2.2);rw[oR (by omega),show p.base+i-(p.base+off)=i-off by omega];exact N.get u
 next e=>
 have:=hi _ u;have hc:=(dO.1 u).1;rw[iF (by omega),aBi];exact Y i x u

theorem KJ(h:bU μ s w){t v a y A s'}(j:ke P s t v a=some s')(ha:VR μ a A)(U:VR μ v y): ∃w',(Instr.storeAt t A y).run P w=.ok () w'/\bU μ s' w'/\fo μ s w μ s' w':=by
 unfold ke at j;split at j
 ·next o off=>
  split at j
  ·next c e op N=>
   split at j
   ·next n hn=>
    obtain⟨B,j⟩:=ah j;cases j;simp only[gE,aBc,aAv]at B;obtain⟨⟨C,g2⟩,J⟩:=B;simp only[VR]at ha;obtain⟨p,hm,rfl⟩:=ha;have u:=U.cells;obtain⟨Y,Z,r3⟩:=pg (P:=P) (off:=off) h N hm u J (by omega);refine⟨_,?_,Z,r3⟩;have x:y.cells.size=n:=by rw[<-C,u.length];simp
    simp[Instr.storeAt,Instr.sureAddr,storeVar,bL hn,x,Y]
   cases j
  cases j
 cases j

theorem rf(w:World)g O:(∀k,k≠g->({ w with heap:=w.heap.setIfInBounds g O }:World).heap[k]?=w.heap[k]?)/\({ w with heap:=w.heap.setIfInBounds g O }:World).heap.size=w.heap.size:= ⟨fun k j=>aBz (aEt j),by simp⟩
theorem De{w:World}{g j}O(h:w.heap[g]?=some j):({ w with heap:=w.heap.setIfInBounds g O }:World).heap[g]?=some O:=by have:=(IF.1 h).1;simp[this]
theorem fy(h:bU μ s w){o C x p j O}(A:s.h.get o=some C)(hm:μ o=some (.at_ p))(u:w.heap[p.blk]?=some j)(hn:∀n,x≠.nat n)(B:∀w':World,w'.heap[p.blk]?=some O->OR μ w' o x):bU μ (s.set o x) { w with heap:=w.heap.setIfInBounds p.blk O }/\fo μ s w μ (s.set o x) { w with heap:=w.heap.setIfInBounds p.blk O }:=
 h.turn A hm x rfl rfl rfl (rf w p.blk O).2 (fun g y=>(rf w p.blk O).1 g y) (B _ (De O u)) hn

theorem lK.append{es l}(h:lK μ es l){k v j u}(B:VR μ k j)(C:VR μ v u)b:lK μ (es++[⟨k,v,b⟩]) (l++[⟨j,u,b⟩]):=by
 induction es generalizing l with
 |nil=>simp only[lK]at h;subst h;exact⟨j,u,[],rfl,B,C,rfl⟩
 |cons e es ih=>obtain⟨a,c,J,rfl,x,y,A⟩:=h;exact⟨a,c,_,rfl,x,y,ih A⟩
theorem lK.set{es l}(h:lK μ es l){i k v j u b}(B:VR μ k j)(C:VR μ v u):lK μ (es.set i ⟨k,v,b⟩) (l.set i ⟨j,u,b⟩):=by
 induction es generalizing l i with
 |nil=>simp only[lK]at h;subst h;simp[lK]
 |cons e es ih=>
  obtain⟨a,c,J,rfl,y,A,x⟩:=h;cases i with
  |zero=>exact⟨j,u,J,rfl,B,C,x⟩
  |succ i=>exact⟨a,c,_,rfl,y,A,ih x⟩
theorem lK.get{es l}(h:lK μ es l){i:Nat}{a}(ha:es[i]?=some a):∃e,l[i]?=some e/\VR μ a.key e.key/\VR μ a.val e.val/\e.born=a.born:=by
 induction es generalizing l i with
 |nil=>cases ha
 |cons x es ih=>
  obtain⟨k,c,A,rfl,j,u,y⟩:=h;cases i with
  |zero=>simp at ha;subst ha;exact⟨_,rfl,j,u,rfl⟩
  |succ i=>simp only[Em]at ha⊢;exact ih y ha
theorem qj(l:List MapEntry)i f e(h:l[i]?=some e):l.toArray.modify i f=(l.set i (f e)).toArray:=by
 apply aDa;simp only[Array.toList_modify];apply aAa;intro j;rw[List.getElem?_modify,aAF];by_cases u:i=j
 ·subst u;have:=dO.1 h;simp[this.1,this.2]
 simp[u]
theorem dH{r O}(h:w.heap[r]?=some O)(j:∀c t f,O≠.cells c t f):(getObj r).run P w=.ok O w:=by unfold getObj;simp only[Sem.run,h]
theorem kf{r O}(h:w.heap[r]?=some O)(u:∀c t f,O≠.cells c t f)j:(setObj r j).run P w=.ok () { w with heap:=w.heap.setIfInBounds r j }:=by unfold setObj;simp only[Sem.run,h]

theorem Gu(hl:laidOutB P=true)(h:bU μ s w){t kt et}(hu:P.underlying t=some (.map kt et)){m k v m' k' Z s'}(u:kq P s kt m k v=some s')(hm:VR μ m m')(hk:VR μ k k')(hv:VR μ v Z): ∃w',(Instr.mapUpdate t m' k' Z).run P w=.ok () w'/\bU μ s' w'/\fo μ s w μ s' w':=by
 unfold kq at u;split at u
 ·next o q hq=>
  simp only[VR]at hm;obtain⟨p,j,rfl⟩:=hm;have y:=uR hq hk;have U:=pr hq;split at u
  ·next es clock ho=>
   have N:=h.obj o _ ho (by rw[j];simp);simp only[OR]at N;obtain⟨p',l,h1,J,Y⟩:=N;rw[j]at h1;cases h1;split at u
   ·next i C=>
    obtain⟨c1,c2,_,B⟩:=gO hl U C Y w;obtain⟨e0,a0,g1,g2,g3,g4,g5,g6⟩:=B _ rfl;rw[g2]at u;cases u;obtain⟨r1,r2⟩:=fy (x:=.map (es.set i ⟨k,v,a0.born⟩) clock) (O:=.map (l.set i ⟨bZ q,Z,a0.born⟩).toArray clock) h ho j J (by simp) (fun w' hw=>by simp only[OR];exact⟨p,_,j,hw,Y.set (y▸hk) hv⟩);refine⟨_,?_,r1,r2⟩;subst y;simp only[Instr.mapUpdate,Le,sK hu w,BY,dH J (by simp),c1,g6,aBC,g1,AC,aEb,g3,c2];rw[qj l i _ e0 g1,kf J (by simp),g4]
   ·next C=>
    obtain⟨c1,c2,A,_⟩:=gO hl U C Y w;have g6:=A rfl;cases u;obtain⟨r1,r2⟩:=fy (x:=.map (es++[⟨k,v,clock⟩]) (clock+1)) (O:=.map (l++[(⟨bZ q,Z,clock⟩:MapEntry)]).toArray (clock+1)) h ho j J (by simp) (fun w' hw=>by simp only[OR];exact⟨p,_,j,hw,Y.append (y▸hk) hv clock⟩);refine⟨_,?_,r1,r2⟩;subst y;simp only[Instr.mapUpdate,Le,sK hu w,BY,dH J (by simp),c1,g6];rw[kf J (by simp)];simp
   cases u
  cases u
 cases u
end
end
end Go.Proofs.YtfoceannfdbinaaGreat
