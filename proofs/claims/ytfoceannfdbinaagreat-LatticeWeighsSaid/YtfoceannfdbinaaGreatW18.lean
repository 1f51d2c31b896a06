/- Lemmas. -/
import Derived.Test.YtfoceannfdbinaaGreatW16
import Derived.Deep.DeepCutAuto
set_option linter.all false
set_option maxRecDepth 1000000
set_option maxHeartbeats 32000000
namespace Go.Proofs.YtfoceannfdbinaaGreat
open Go.RowKit
section
mutual
def ig(ρ:Nat->Nat):AV->AV
 | .ptr o f=>.ptr (ρ o) f
 | .sl o f n c=>.sl (ρ o) f n c
 | .nat o=>.nat (ρ o)
 | .mp o=>.mp (ρ o)
 | .fn f a b=>.fn f (cS ρ a) (cS ρ b)
 | .yl l=>.yl (ρ l)
 | .ifc t v=>.ifc t (ig ρ v)
 | .agg l=>.agg (cS ρ l)
 | .tup l=>.tup (cS ρ l)
 | .b x=>.b x
 | .i k n=>.i k n
 | .pnil=>.pnil
 | .snil=>.snil
 | .num n=>.num n
 | .vw c n=>.vw c n
 | .vp c n=>.vp c n
 | .fm a b=>.fm a b
 | .mnil=>.mnil
 | .fnil=>.fnil
 | .inil=>.inil
def cS(ρ:Nat->Nat):List AV->List AV
 | []=>[]
 |x::l=>ig ρ x::cS ρ l
end
def Mu.pull(μ:Mu)(ρ:Nat->Nat):Mu:=⟨fun k=>μ (ρ k),μ.fz⟩
mutual
theorem sM{μ ρ}:∀(x:AV){v:Value},VR μ (ig ρ x) v->VR (μ.pull ρ) x v
 | .b _,_,h|.i _ _,_,h|.pnil,_,h|.snil,_,h|.mnil,_,h|.fnil,_,h|.inil,_,h=>by simpa only[ig,VR]using h
 | .ptr _ _,_,h|.sl _ _ _ _,_,h|.nat _,_,h|.mp _,_,h|.yl _,_,h|.num _,_,h|.vw _ _,_,h|.vp _ _,_,h|.fm _ _,_,h=>by simp only[ig,VR]at h⊢;exact h
 | .fn f a c,_,h=>by simp only[ig,VR]at h⊢;obtain⟨A,B,j,u,C⟩:=h;exact⟨A,B,j,q6 a u,q6 c C⟩
 | .ifc t x,_,h=>by simp only[ig,VR]at h⊢;obtain⟨y,j,u⟩:=h;exact⟨y,j,sM x u⟩
 | .agg l,_,h=>by simp only[ig,VR]at h⊢;obtain⟨y,j,u⟩:=h;exact⟨y,j,q6 l u⟩
 | .tup l,_,h=>by simp only[ig,VR]at h⊢;obtain⟨y,j,u⟩:=h;exact⟨y,j,q6 l u⟩
theorem q6{μ ρ}:∀(l:List AV){m:List Value},ap μ (cS ρ l) m->ap (μ.pull ρ) l m
 | [],_,h=>by simpa only[cS,ap]using h
 |x::xs,_,h=>by simp only[cS,ap]at h⊢;obtain⟨y,B,j,u,A⟩:=h;exact⟨y,B,j,sM x u,q6 xs A⟩
end

def Wk(H:Mu->Prop)(x y:AV):Prop:=(∀μ,H μ->∀v,VR μ x v->VR μ y v)/\(flat x=true->flat y=true)
theorem Wk.refl H x:Wk H x x:=⟨fun _ _ _ h=>h,id⟩
theorem Wk.zero H:Wk H .snil (.num 0):=⟨fun μ _ v h=>by simp only[VR]at h⊢;subst h;exact⟨[],by simp[dQ],rfl,(fun d hd=>by cases hd),none,0,rfl,cC _,No _,fun h=>absurd h (by simp)⟩,fun _=>rfl⟩
theorem Wk.none H:Wk H .snil (.vw [] 0):=⟨fun μ _ v h=>by simp only[VR]at h⊢;subst h;exact⟨[],⟨Option.none,0,rfl,cC _,No _,fun h=>absurd h (by simp)⟩,ap.nil_⟩,fun _=>rfl⟩
inductive nw(H:Mu->Prop):List AV->List AV->Prop
 |nil:nw H [] []
 |cons {x y:AV} {l m:List AV}:Wk H x y->nw H l m->nw H (x::l) (y::m)
theorem nw.refl H:∀l,nw H l l
 | []=>.nil
 |x::l=>.cons (Wk.refl H x) (nw.refl H l)
section
variable {H:Mu->Prop}
theorem nw.length{l m}(h:nw H l m):l.length=m.length:=by induction h with|nil=>rfl|cons _ _ ih=>simp[ih]
theorem nw.vrs{μ}(A:H μ){l m}(h:nw H l m):∀{v:List Value},ap μ l v->ap μ m v:=by
 induction h with
 |nil=>intro v h;exact h
 |cons h1 _ ih=>intro v h;simp only[ap]at h⊢;obtain⟨y,B,j,u,x⟩:=h;exact⟨y,B,j,h1.1 μ A _ u,ih x⟩
theorem nw.flat{l m}(h:nw H l m):l.all flat=true->m.all flat=true:=by
 induction h with
 |nil=>exact id
 |cons h1 _ ih=>intro h;simp only[aAR,gE]at h⊢;exact⟨h1.2 h.1,ih h.2⟩
theorem nw.get{l m}(h:nw H l m):∀{i:Nat}{y:AV},m[i]?=some y->∃x,l[i]?=some x/\Wk H x y:=by
 induction h with
 |nil=>intro i y h;simp at h
 |cons h1 _ ih=>
  intro i y h;cases i with
  |zero=>simp at h;subst h;exact⟨_,rfl,h1⟩
  |succ i=>simpa using ih (by simpa using h)
theorem nw.append{l m l' j}(h:nw H l m)(k:nw H l' j):nw H (l++l') (m++j):=by
 induction h with
 |nil=>exact k
 |cons h1 _ ih=>exact .cons h1 ih
theorem nw.reps{z y}(h:nw H z y):∀n,nw H (reps z n) (reps y n)
 |0=>.nil
 |n+1=>h.append (nw.reps h n)
theorem Wk.agg{l m}(h:nw H l m):Wk H (.agg l) (.agg m):=⟨fun μ y v j=>by simp only[VR]at j⊢;obtain⟨A,u,x⟩:=j;exact⟨A,u,h.vrs y x⟩,fun h=>by cases h⟩
end
def NI(ρ:Nat->Nat)(e:AE):AE:=⟨ig ρ e.key,ig ρ e.val,e.born⟩
def bA(H:Mu->Prop)(ρ:Nat->Nat):AO->AO->Prop
 | .cells c t op,.cells c' t' op'=>t=t'/\op=op'/\nw H c (cS ρ c')
 | .map es k,.map es' k'=>k=k'/\es=es'.map (NI ρ)
 | .map es _,.amap I=>∃es',es=es'.map (NI ρ)/\I es'
 | .amap I,.amap I'=>∀es,I es->∃es',es=es'.map (NI ρ)/\I' es'
 | .walk a b c,.walk a' b' c'=>a=a'/\b=b'/\c=c'
 | .iter m a b c,.iter m' a' b' c'=>m=m'.map ρ/\a=a'/\b=b'/\c=c'
 | .defs,.defs=>True
 | .nat n,.nat n'=>n=n'
 |_,_=>False
theorem bA.cells{H ρ c j t op}(h:c=cS ρ j):bA H ρ (.cells c t op) (.cells j t op):=⟨rfl,rfl,h▸nw.refl H _⟩
theorem q7 ρ:∀(l:List AV)(i:Nat),(cS ρ l)[i]?=(l[i]?).map (ig ρ)
 | [],i=>by simp[cS]
 |x::l,i=>by cases i<;>simp[cS,q7 ρ l]
theorem PK ρ x:flat (ig ρ x)=flat x:=by cases x<;>rfl
theorem pw ρ:∀l:List AV,(cS ρ l).all flat=l.all flat
 | []=>rfl
 |x::l=>by simp only[cS,aAR,PK,pw ρ l]
theorem uV{μ ρ}:∀{es:List AE}{l:List MapEntry},lK μ (es.map (NI ρ)) l->lK (μ.pull ρ) es l
 | [],_,h=>h
 |_::_,_,⟨k,v,l',e,h1,h2,h3⟩=>⟨k,v,l',e,sM _ h1,sM _ h2,uV h3⟩
theorem VL{H μ}(hH:H μ){w ρ k x Y}(h:bA H ρ x Y)(j:OR μ w (ρ k) x):OR (μ.pull ρ) w k Y:=by
 cases x<;>cases Y<;>simp only[bA]at h
 case cells.cells c t op c' t' op'=>obtain⟨rfl,rfl,h⟩:=h;simp only[OR]at j⊢;obtain⟨p,cs,B,C,A,N,h5⟩:=j;refine⟨p,cs,B,C,A,⟨by rw[<-pw ρ];exact h.flat N.1,N.2⟩,fun i y hy=>?_⟩;obtain⟨z,Z,g2⟩:=h.get (i:=i) (y:=ig ρ y) (by rw[q7,hy];rfl);obtain⟨u,g3,g4⟩:=h5 i z Z;exact⟨u,g3,sM _ (g2.1 μ hH _ g4)⟩
 case map.map=>obtain⟨rfl,rfl⟩:=h;simp only[OR]at j⊢;obtain⟨p,l,B,C,A⟩:=j;exact⟨p,l,B,C,uV A⟩
 case map.amap=>obtain⟨J,rfl,U⟩:=h;simp only[OR]at j⊢;obtain⟨p,l,B,C,A⟩:=j;exact⟨p,l,_,J,B,C,uV A,U⟩
 case amap.amap=>simp only[OR]at j⊢;obtain⟨p,l,c,es,B,C,A,N⟩:=j;obtain⟨J,rfl,U⟩:=h es N;exact⟨p,l,c,J,B,C,uV A,U⟩
 case walk.walk=>obtain⟨rfl,rfl,rfl⟩:=h;simp only[OR]at j⊢;exact j
 case iter.iter m a b c m' a' b' c'=>
  obtain⟨rfl,rfl,rfl,rfl⟩:=h;simp only[OR]at j⊢;obtain⟨p,q,B,h0,C,A⟩:=j;refine⟨p,q,B,h0,C,?_⟩;cases m' with
  |none=>exact A
  |some m=>exact A
 case defs.defs=>simp only[OR]at j⊢;exact j
 case nat.nat=>subst h;simp only[OR]at j⊢;exact j

def bC(rl:List Nat)(nx:Nat)(k:Nat):Nat:=rl.getD k (nx+k)
theorem Gm{rl nx k}(h:rl.length<=k):nx<=bC rl nx k:=by unfold bC;rw[eM,As.2 h];simp
theorem DM.pull{μ ρ}:∀{ms:List Nat}{ds:List Deferred},DM μ (ms.map ρ) ds->DM (μ.pull ρ) ms ds
 | [],_,h=>h
 |_::_,_,⟨p,ds',h1,h2,h3⟩=>⟨p,ds',h1,h2,DM.pull h3⟩
structure Ro(H:Mu->Prop)(rl:List Nat)(fr:Fr)(s:St)(fr2:Fr)(s2:St):Prop where
 hn:fr2.n=fr.n
 hms:fr.ms=fr2.ms.map (bC rl s.nx)
 hrd:fr.rd=fr2.rd.map (bC rl s.nx)
 hnx:s2.nx=rl.length
 hT:∀t x2,fr2.T.get t=some x2->∃x,fr.T.get t=some x/\Wk H x (ig (bC rl s.nx) x2)
 hS:∀k x2,s2.h.get k=some x2->k<rl.length/\∃x,s.h.get (bC rl s.nx k)=some x/\bA H (bC rl s.nx) x x2
 hinj:rl.Nodup
section
variable {P:Program}{c:Code}{fr fr2:Fr}{s s2:St}{Q:Ex->Fr->St->Prop}{H:Mu->Prop}{rl:List Nat}
theorem Ro.at_(h:Ro H rl fr s fr2 s2){μ ro a w bb}(U:∀o,o<bb->bC rl s.nx o=o)(u:At μ fr s ro a w)(Y:H μ):At (μ.pull (bC rl s.nx)) fr2 s2 ro a w/\Fp bb μ s w (μ.pull (bC rl s.nx)) s2 w:=by
 obtain⟨hn,hms,hrd,hnx,hT,hS,hinj⟩:=h;refine⟨⟨⟨⟨fun o x e m=>?_,fun o o' x x' p p' e e' m m' U=>?_,fun o n A m c' o' x' p' e m1 e' m2=>?_,fun o ho=>?_⟩,fun b i v hv=>?_⟩,⟨by rw[hn];exact u.tr.1,fun t x e=>?_⟩,?_,?_,fun o ho=>?_⟩,fun o p ho hp=>(by show μ (bC rl s.nx o)=some p;rw[U o ho];exact hp),fun _ _ _ h=>h,rfl,rfl,rfl,cC _,fun _ _ _=>rfl,fun o x p e m=>?_,fun b i v hv=>.inl hv⟩
 ·obtain⟨_,B,j,C⟩:=hS o x e;exact VL Y C (u.rel.obj _ _ j m)
 ·obtain⟨Z,B,j,C⟩:=hS o x e;obtain⟨l2,x1,J,N⟩:=hS o' x' e';have:=u.rel.inj _ _ _ _ _ _ j J m m' U;unfold bC at this;rw[eM,eM,bY Z,bY l2]at this;exact(List.getElem_inj hinj).1 this
 ·obtain⟨Z,B,j,C⟩:=hS o _ e;obtain⟨l2,x1,J,N⟩:=hS o' x' e';have:B=.nat n:=by cases B<;>simp only[bA]at C;rw[C]
  subst this;exact u.rel.nat _ n A m c' _ _ _ j m1 J m2
 ·cases e:s2.h.get o with
  |none=>rfl
  |some x=>have:=(hS o x e).1;omega
 ·obtain⟨z1,z2,z3⟩:=u.rel.fz b i v hv;refine⟨z1,z2,fun o x p e m=>?_⟩;obtain⟨_,B,j,_⟩:=hS o x e;exact z3 _ _ _ j m
 ·obtain⟨B,j,C⟩:=hT t x e;obtain⟨y,J,N⟩:=u.tr.2 t B j;exact⟨y,J,sM _ (C.1 μ Y _ N)⟩
 ·exact DM.pull (by rw[<-hms];exact u.dm)
 ·have:=u.ro;rw[hrd]at this;cases h:fr2.rd with
  |none=>rw[h]at this;exact this
  |some l=>rw[h]at this;exact this
 ·exact u.fresh _ (Gm (by omega))
 obtain⟨_,B,j,_⟩:=hS o x e;exact .inr ⟨_,B,p,j,m,rfl⟩
theorem Jd.weakB{bb}rl(h:Ro (fun _=>True) rl fr s fr2 s2)(u:∀o,o<bb->bC rl s.nx o=o)(k:Jb bb P c fr2 s2 Q):Jb bb P c fr s Q:= Jd.swap (fun _ _ _ _ j=>⟨_,h.at_ u j trivial⟩) k
mutual
def bare:AV->Bool
 | .ptr .. | .sl .. | .nat _|.mp _|.yl _=>false
 | .fn _ a b=>aq a&&aq b
 | .ifc _ v=>bare v
 | .agg l=>aq l
 | .tup l=>aq l
 |_=>true
def aq:List AV->Bool
 | []=>true
 |x::l=>bare x&&aq l
end
mutual
theorem d7{μ μ'}(h:∀b i v,μ.fz b i=some v->μ'.fz b i=some v):∀(x:AV){v:Value},bare x=true->VR μ x v->VR μ' x v
 | .b _,_,_,e|.i _ _,_,_,e|.pnil,_,_,e|.snil,_,_,e|.mnil,_,_,e|.fnil,_,_,e|.inil,_,_,e=>by simpa only[VR]using e
 | .ptr _ _,_,b,_|.sl _ _ _ _,_,b,_|.nat _,_,b,_|.mp _,_,b,_|.yl _,_,b,_=>by simp[bare]at b
 | .num n,_,_,e=>by simp only[VR]at e⊢;obtain⟨l,j,u,B,C⟩:=e;exact⟨l,j,u,B,Vz.mono (μ:=μ.blind) (μ':=μ'.blind) ⟨fun _ _ h=>(by cases h),h⟩ C⟩
 | .vw c n,_,_,e=>by simp only[VR]at e⊢;obtain⟨cs,j,u⟩:=e;exact⟨cs,Vz.mono (μ:=μ.blind) (μ':=μ'.blind) ⟨fun _ _ h=>(by cases h),h⟩ j,ap.mono (μ:=μ.blind) (μ':=μ'.blind) ⟨fun _ _ h=>(by cases h),h⟩ c u⟩
 | .vp c off,_,_,e=>by simp only[VR]at e⊢;obtain⟨b,base,cs,j,u,B⟩:=e;exact⟨b,base,cs,j,Fz.mono (μ:=μ.blind) (μ':=μ'.blind) ⟨fun _ _ h=>(by cases h),h⟩ u,ap.mono (μ:=μ.blind) (μ':=μ'.blind) ⟨fun _ _ h=>(by cases h),h⟩ c B⟩
 | .fm ks vs,_,_,e=>by simp only[VR]at e⊢;obtain⟨b,l,clock,l',j,u,B,C,U,Y,Z⟩:=e;exact⟨b,l,clock,l',j,h _ _ _ u,B,C,U,ap.mono (μ:=μ.blind) (μ':=μ'.blind) ⟨fun _ _ h=>(by cases h),h⟩ ks Y,ap.mono (μ:=μ.blind) (μ':=μ'.blind) ⟨fun _ _ h=>(by cases h),h⟩ vs Z⟩
 | .fn f a c,_,b,e=>by simp only[bare,gE]at b;simp only[VR]at e⊢;obtain⟨J,N,A,j,u⟩:=e;exact⟨J,N,A,iz h a b.1 j,iz h c b.2 u⟩
 | .ifc t x,_,b,e=>by simp only[bare]at b;simp only[VR]at e⊢;obtain⟨y,A,j⟩:=e;exact⟨y,A,d7 h x b j⟩
 | .agg l,_,b,e=>by simp only[bare]at b;simp only[VR]at e⊢;obtain⟨y,A,j⟩:=e;exact⟨y,A,iz h l b j⟩
 | .tup l,_,b,e=>by simp only[bare]at b;simp only[VR]at e⊢;obtain⟨y,A,j⟩:=e;exact⟨y,A,iz h l b j⟩
theorem iz{μ μ'}(h:∀b i v,μ.fz b i=some v->μ'.fz b i=some v):∀(l:List AV){m:List Value},aq l=true->ap μ l m->ap μ' l m
 | [],_,_,e=>by simpa only[ap]using e
 |x::xs,_,b,e=>by simp only[aq,gE]at b;simp only[ap]at e⊢;obtain⟨y,B,j,u,A⟩:=e;exact⟨y,B,j,d7 h x b.1 u,iz h xs b.2 A⟩
end
def Ks(o:Nat)(c:List AV)(μ:Mu):Prop:=∀p,μ o=some (.at_ p)->∃cs,Fz μ p.blk p.base cs/\ap μ.blind c cs
theorem Wk.frz_sl{o c off n cap}(h:n<=cap):Wk (Ks o c) (.sl o off n cap) (.vw (c.drop off) n):=⟨fun μ C v u=>by
 simp only[VR]at u⊢;obtain⟨p,k,hm,rfl,x,y⟩:=u;obtain⟨cs,A,B⟩:=C p hm;have j:n<=k/\k<=maxLen:=by
  by_cases e:cap<bI
  ·have:=x e;subst this;unfold bI at e;unfold maxLen;omega
  have:=y e;unfold bI at this;unfold maxLen;omega
 exact⟨cs.drop off,⟨_,k,rfl,j.1,j.2,fun _=>⟨p.blk,p.base+off,rfl,A.drop off⟩⟩,B.drop off⟩,fun _=>rfl⟩
theorem Wk.frz_ptr{o c off}:Wk (Ks o c) (.ptr o off) (.vp c off):=⟨fun μ y v j=>by simp only[VR]at j⊢;obtain⟨p,hm,rfl⟩:=j;obtain⟨cs,u,x⟩:=y p hm;exact⟨p.blk,p.base,cs,rfl,u,x⟩,fun _=>rfl⟩
theorem At.freeze{bb μ ro a w}(C:At μ fr s ro a w){o c t op}(ho:s.h.get o=some (.cells c t op))(hc:aq c=true):∃μ1,At μ1 fr (s.drop o) ro a w/\Fp bb μ s w μ1 (s.drop o) w/\Ks o c μ1:=by
 have B:∀k x,(s.drop o).h.get k=some x->s.h.get k=some x/\k≠o:=fun k x e=>by
  simp only[St.drop,Tr.get_set]at e;split at e
  ·cases e
  next ad=>exact⟨e,ad⟩
 cases hm:μ o with
 |none=>exact⟨μ,⟨C.rel.drop o,C.tr,C.dm,C.ro,C.fresh⟩,⟨fun _ _ _ h=>h,fun _ _ _ h=>h,rfl,rfl,rfl,cC _,fun _ _ _=>rfl,fun k x p e m=>.inr ⟨k,x,p,(B k x e).1,m,rfl⟩,fun _ _ _ h=>.inl h⟩,fun p h=>by rw[hm]at h;cases h⟩
 |some lc=>
  have U:=C.rel.obj o _ ho (by rw[hm];simp);simp only[OR]at U;obtain⟨p,cs,N,h2,h3,h4,h5⟩:=U;rw[N]at hm;cases hm;obtain⟨μ1,J⟩:∃μ1:Mu,μ1=⟨μ.loc,fun b i=>if b=p.blk then eE w b i else μ.fz b i⟩:=⟨_,rfl⟩;have Y:∀b i v,μ.fz b i=some v->b≠p.blk:=fun b i v u e=>(C.rel.fz b i v u).2.2 o _ p ho N e.symm;have hs:lJ μ μ1:=by subst J;exact⟨fun _ _ h=>h,fun b i v u=>by simp only;rw[iF (Y b i v u)];exact u⟩
  have j:∀k,μ1 k=μ k:=fun k=>by subst J;rfl
  have hd:=C.rel.drop o;refine⟨μ1,⟨⟨⟨fun k x e m=>?_,fun k k' x x' q q' e e' m m' hb=>?_,fun k n A m cc k' x' q' e m1 e' m2=>?_,hd.wf⟩,fun b i v u=>?_⟩,C.tr.mono hs,C.dm.mono hs,C.ro.mono hs,fun k hk=>?_⟩,⟨fun k p _ h=>(by rw[j];exact h),hs.fz,rfl,rfl,rfl,cC _,fun _ _ _=>rfl,fun k x q e m=>?_,fun b i v u=>?_⟩,fun q hq=>?_⟩
  ·exact(hd.obj k x e (by rw[<-j];exact m)).keep hs (cC _) (fun _ _=>rfl) (fun _ _ _ _ _ _ _ _=>rfl)
  ·exact hd.inj k k' x x' q q' e e' (by rw[<-j];exact m) (by rw[<-j];exact m') hb
  ·exact hd.nat k n A m cc k' x' q' e (by rw[<-j];exact m1) e' (by rw[<-j];exact m2)
  ·subst J;simp only at u;split at u
   ·next e=>
    subst e;have hlt:=(IF.1 h2).1;refine⟨hlt,u,fun k x q e m eb=>?_⟩;exact(B k x e).2 (C.rel.inj k o x _ q p (B k x e).1 ho m N eb)
   obtain⟨z1,z2,z3⟩:=hd.fz b i v u;exact⟨z1,z2,fun k x q e m=>z3 k x q e m⟩
  ·rw[j];exact C.fresh k hk
  ·exact .inr ⟨k,x,q,(B k x e).1,by rw[<-j];exact m,rfl⟩
  ·subst J;simp only at u;split at u
   ·next e=>exact .inr (.inr (.inl ⟨o,_,p,ho,N,e.symm⟩))
   exact .inl u
  rw[j,N]at hq;cases hq;have key:∀(k:Nat)(l:List AV)(off:Nat),l.length=k->(∀i x,l[i]?=some x->c[off+i]?=some x)->∃m,ap μ l m/\∀i v,m[i]?=some v->cs[p.base+off+i]?=some v:=by
   intro k
   induction k with
   |zero=>intro l off hl _;exact⟨[],by rw[oF hl];exact ap.nil_,by simp⟩
   |succ k ih=>
    intro l off hl hx;cases l with
    |nil=>simp at hl
    |cons y l=>
     obtain⟨z,hz,u⟩:=h5 off y (hx 0 y rfl);obtain⟨m,Z,g2⟩:=ih l (off+1) (by simpa using hl) (fun i x hi=>by rw[show off+1+i=off+(i+1)by omega];exact hx (i+1) x (by simpa using hi));refine⟨z::m,ap.cons u Z,fun i v hi=>?_⟩;cases i with
     |zero=>simp at hi;subst hi;exact hz
     |succ i=>have:=g2 i v (by simpa using hi);rw[show p.base+off+(i+1)=p.base+(off+1)+i by omega];exact this
  obtain⟨m,Z,g2⟩:=key c.length c 0 rfl (fun i x h=>by rw[SK];exact h);refine⟨m,fun i v hi=>?_,iz (μ:=μ) (μ':=μ1.blind) (fun b i v u=>hs.fz b i v u) c hc Z⟩;subst J;simp only[aBh];have hc:=g2 i v hi;rw[aAh]at hc;exact gU (by simpa [World.cell?,h2]using hc) (ap.noM Z v (eQ hi))
theorem Jd.freeze rl{o cl t op}(x:s.h.get o=some (.cells cl t op))(u:aq cl=true)(h:Ro (Ks o cl) rl fr (s.drop o) fr2 s2)(k:Jd P c fr2 s2 Q):Jd P c fr s Q:= Jd.swap (fun _ _ _ _ j=>let ⟨_,h1,h2,h3⟩:=j.freeze x u;let ⟨h4,h5⟩:=h.at_ (fun _ h=>absurd h (aBy _)) h1 h3;⟨_,h4,h2.trans h5⟩) k
end
end
section
def lN(gl:List (Option Tmp))(T:Tr AV):Option (Nat×Bool)->Option Bool
 |none=>some true
 |some (j,want)=>match gl[j]? with
  |some (some t)=>match T.get t with
   |some (.b x)=>some (x == want)
   |some (.tup [])=>some false
   |_=>none
  |_=>none
theorem nH all T o:iK all T o=lN (all.map (·.dst)) T o.guard:=by
 unfold iK lN;cases o.guard with
 |none=>rfl
 |some g=>
  obtain⟨j,want⟩:=g;simp only[mT];cases h:all[j]? with
  |none=>simp
  |some oj=>
   cases hd:oj.dst with
   |none=>simp[hd]
   |some t=>simp[hd];rfl
def ri(n:Nat)(d:Option Tmp)(v:AV)(T:Tr AV)(K:Tr AV->Prop):Prop:=match d with
 |none=>K T
 |some d=>d<n/\K (T.set d (some v))
theorem jX{n d v T K}(h:ri n d v T K):∃T',np T n d v=some T'/\K T':=by
 cases d with
 |none=>exact⟨T,rfl,h⟩
 |some d=>exact⟨_,by simp only[np];rw[show Nat.blt d n=true from by rw[ON];exact h.1];rfl,h.2⟩
section
variable (P:Program)(X:eC)(E:Ev)(n:Nat)(gl:List (Option Tmp))
def dB(ρ:Operand->Option AV)(s:St)(o:Op)(K:AV->St->Prop):Prop:=match iW P X E ρ s o with
 |some (v,s')=>K v s'
 |none=>False
def kI:List Oper->Tr AV->St->(Tr AV->St->Prop)->Prop
 | [],T,s,K=>K T s
 |o::os,T,s,K=>match lN gl T o.guard with
  |some true=>dB P X E (js T) s o.op fun v s'=>ri n o.dst v T fun T'=>kI os T' s' K
  |some false=>ri n o.dst (.tup []) T fun T'=>kI os T' s K
  |none=>False
def Fg(ρ:Operand->Option AV)(s:St):Op->Option (List Nat)
 | .load _ a=>match ρ a with
  |some (.ptr o _)=>(s.h.get o).map fun _=>[o]
  |some (.vp _ _)=>some []
  |_=>none
 | .lookup _ x _ _=>match ρ x with
  |some (.mp o)=>(s.h.get o).map fun _=>[o]
  |some .mnil=>some []
  |some (.fm _ _)=>some []
  |_=>none
 | .entry it=>match ρ it with
  |some (.ptr o 0)=>match s.h.get o with
   |some (.walk [_,_] _ _)=>some [o]
   |some (.iter (some m) _ _ _)=>(s.h.get m).map fun _=>[o,m]
   |_=>none
  |_=>none
 | .call { callee:=.builtin .len,args,.. }=>match args.toList with
  | [x]=>match ρ x with
   |some (.mp o)=>(s.h.get o).map fun _=>[o]
   |_=>some []
  |_=>none
 |_=>none
def gg(ns:List Nat)(s s':St):Prop:=∀k∈ns,s'.h.get k=s.h.get k
def yB(ex:List (Nat×Nat))(i j:Nat):Prop:=ex.contains (i,j)=true
def Mq(ex:List (Nat×Nat)):Nat->List Oper->Tr AV->St->List (Nat×List Nat)->List (Nat×St×St)->(Tr AV->St->Prop)->Prop
 |_,[],T,s,_,_,K=>K T s
 |i,o::os,T,s,R,W,K=>match lN gl T o.guard with
  |some true=>dB P X E (js T) s o.op fun v s'=>ri n o.dst v T fun T'=>
   match cq o.op with
   |true=>match Fg (js T) s o.op with
    |some ns=>(∀e∈W,yB ex i e.1∨gg ns e.2.1 e.2.2)/\Mq ex (i+1) os T' s' ((i,ns)::R) W K
    |none=>False
   |false=>match cE o with
    |true=>(∀r∈R,yB ex i r.1∨gg r.2 s s')/\Mq ex (i+1) os T' s' R ((i,s,s')::W) K
    |false=>Mq ex (i+1) os T' s' R W K
  |some false=>ri n o.dst (.tup []) T fun T'=>Mq ex (i+1) os T' s R W K
  |none=>False
end
section
variable {P:Program}{X:eC}{E:Ev}{n:Nat}
theorem Aq{all}:∀{os:List Oper}{T:Tr AV}{s:St}{K:Tr AV->St->Prop},kI P X E n (all.map (·.dst)) os T s K->∃T' s',nr P X E n all os T s=some (T',s')/\K T' s'
 | [],T,s,K,h=>⟨T,s,rfl,h⟩
 |o::os,T,s,K,h=>by
  simp only[kI]at h;simp only[nr,nH];split at h
  ·next C=>
   rw[C];unfold dB at h;split at h
   ·next v s1 B=>
    obtain⟨T',u,x⟩:=jX h;obtain⟨j,s2,y,A⟩:=Aq x;exact⟨j,s2,by simp only[B,u];exact y,A⟩
   exact h.elim
  ·next C=>
   rw[C];obtain⟨T',u,x⟩:=jX h;obtain⟨j,s2,y,A⟩:=Aq x;exact⟨j,s2,by simp only[u];exact y,A⟩
  exact h.elim

theorem NJ{ρ s s' o B}(h:Fg ρ s o=some B)(hs:gg B s s'):dY P ρ s' o=dY P ρ s o:=by
 cases o<;>simp only[Fg]at h<;>try cases h
 case load t a=>
  simp only[dY];split at h
  ·next k f ha=>simp only[iN]at h;obtain⟨_,_,rfl⟩:=h;rw[ha];simp only[CC,ju];rw[hs k (by simp)]
  ·next c f ha=>rw[ha];rfl
  cases h
 case lookup t x k ok=>
  simp only[dY];split at h
  ·next o ha=>
   simp only[iN]at h;obtain⟨_,_,rfl⟩:=h;rw[ha];cases ρ k with
   |none=>rfl
   |some kv=>simp only[og];rw[hs o (by simp)]
  ·next ha=>
   rw[ha];cases ρ k<;>rfl
  ·next ha=>
   rw[ha];cases ρ k<;>rfl
  cases h
 case entry it=>
  simp only[dY];split at h
  ·next o ha=>
   split at h
   ·next A=>cases h;rw[ha];simp only;rw[hs o (by simp),A]
   ·next m _ _ _ A=>simp only[iN]at h;obtain⟨_,_,rfl⟩:=h;rw[ha];simp only;rw[hs o (by simp),A];simp only;rw[hs m (by simp)]
   cases h
  cases h
 case call c=>
  obtain⟨callee,args,j⟩:=c;cases callee with
  |builtin b=>
   cases b<;>simp only[Fg]at h<;>try cases h
   simp only[dY];split at h
   ·next x C=>
    rw[C];cases hat:j.toList with
    |nil=>rfl
    |cons t tl=>
     cases tl with
     |cons _ _=>rfl
     |nil=>
      simp only;cases hu:P.underlying t with
      |none=>rfl
      |some d=>
       cases d<;>simp only
       case map=>
        split at h
        ·next o ha=>simp only[iN]at h;obtain⟨_,_,rfl⟩:=h;rw[ha];simp only[Tb];rw[hs o (by simp)]
        next u=>
        cases hr:ρ x with
        |none=>rfl
        |some y=>cases y<;>first|rfl|exact absurd hr (u _)
   cases h
  |_=>simp[Fg]at h
theorem NK{ρ s o u}(h:Fg ρ s o=some u):∀k∈u,s.h.get k≠none:=by
 have one:∀{o:Nat}{u:List Nat},(s.h.get o).map (fun _=>[o])=some u->∀k∈u,s.h.get k≠none:=by intro o u h k j;simp only[iN]at h;obtain⟨x,A,rfl⟩:=h;simp only[aAc]at j;subst j;rw[A];simp
 cases o<;>simp only[Fg]at h<;>try cases h
 case load t a=>
  split at h
  ·exact one h
  ·cases h;intro k j;cases j
  cases h
 case lookup t x k ok=>
  split at h
  ·exact one h
  ·cases h;intro k j;cases j
  ·cases h;intro k j;cases j
  cases h
 case entry it=>
  split at h
  ·next o ha=>
   split at h
   ·next y=>
    cases h;intro k j;simp only[aAc]at j;subst j;rw[y];simp
   ·next m _ _ _ y=>
    simp only[iN]at h;obtain⟨x,A,rfl⟩:=h;intro k j;simp only[Is,aCr,or_false]at j;rcases j with rfl|rfl
    ·rw[y];simp
    rw[A];simp
   cases h
  cases h
 case call c=>
  obtain⟨callee,args,B⟩:=c;cases callee with
  |builtin b=>
   cases b<;>simp only[Fg]at h<;>try cases h
   split at h
   ·split at h
    ·exact one h
    cases h;intro k j;cases j
   cases h
  |_=>simp[Fg]at h

theorem Gw{op}(h:cq op=true):bQ op=.rd:=by
 cases op<;>first|rfl|(simp[cq]at h;done)|skip
 case call c=>
  obtain⟨callee,_,_⟩:=c;cases callee with
  |builtin b=>cases b<;>first|rfl|(simp[cq]at h;done)
  |_=>simp[cq]at h
structure YL(P:Program)(X:eC)(E:Ev)(n:Nat)(all:List Oper)(ex:List (Nat×Nat))(i:Nat)(os:List Oper)(V:Nat->Option AV)(TT:Nat->Tr AV)(SS:Nat->St)(R:List (Nat×List Nat))(W:List (Nat×St×St)):Prop where
 rd:∀a o v,os[a]?=some o->V a=some v->cq o.op=true->∃ns,Fg (js (TT a)) (SS a) o.op=some ns/\(∀e∈W,yB ex (i+a) e.1∨gg ns e.2.1 e.2.2)/\
  ∀b ob u,os[b]?=some ob->V b=some u->cE ob=true->(b<a->yB ex (i+a) (i+b)∨gg ns (SS b) (SS (b+1)))/\(a<b->yB ex (i+b) (i+a)∨gg ns (SS b) (SS (b+1)))
 ef:∀b ob u,os[b]?=some ob->V b=some u->cE ob=true->∀r∈R,yB ex (i+b) r.1∨gg r.2 (SS b) (SS (b+1))
theorem wK{o}(h:cq o.op=true):cE o=false:=by
 obtain⟨_,op,_,_,_,_⟩:=o;unfold cE;cases op<;>first|rfl|(simp[cq]at h;done)|skip
 case call c=>
  obtain⟨callee,_,_⟩:=c;cases callee with
  |builtin b=>cases b<;>first|rfl|(simp[cq]at h;done)
  |_=>simp[cq]at h
theorem Il{all ex}:∀(os:List Oper)(i:Nat)(T:Tr AV)(s:St)(R:List (Nat×List Nat))(W:List (Nat×St×St)){K:Tr AV->St->Prop},Mq P X E n (all.map (·.dst)) ex i os T s R W K -> ∃V TT SS,TT 0=T/\SS 0=s/\K (TT os.length) (SS os.length)/\lR P X E n all os T s=some (fF.shape os V TT SS,TT os.length,SS os.length)/\fF P X E n all os V TT SS/\YL P X E n all ex i os V TT SS R W
 | [],i,T,s,R,W,K,h=>⟨fun _=>none,fun _=>T,fun _=>s,rfl,rfl,h,rfl,⟨fun i o ho=>by simp at ho⟩,⟨fun a o v h=>by simp at h,fun b o v h=>by simp at h⟩⟩
 |o::os,i,T,s,R,W,K,h=>by
  have y:∀(v0:Option AV)(A:Tr AV)(s1:St)(Z:List (Nat×List Nat))(W1:List (Nat×St×St)),Mq P X E n (all.map (·.dst)) ex (i+1) os A s1 Z W1 K -> ((∃v,v0=some v/\iK all T o=some true/\iW P X E (js T) s o.op=some (v,s1)/\np T n o.dst v=some A)∨(v0=none/\iK all T o=some false/\s1=s/\np T n o.dst (.tup [])=some A)) -> (v0≠none->cq o.op=true->∃Y,Fg (js T) s o.op=some Y/\(∀e∈W,yB ex i e.1∨gg Y e.2.1 e.2.2)/\Z=(i,Y)::R/\W1=W) -> (v0≠none->cE o=true->(∀r∈R,yB ex i r.1∨gg r.2 s s1)/\Z=R/\W1=(i,s,s1)::W) -> (∀r∈R,r∈Z)->(∀e∈W,e∈W1) -> ∃V TT SS,TT 0=T/\SS 0=s/\K (TT (o::os).length) (SS (o::os).length)/\lR P X E n all (o::os) T s=some (fF.shape (o::os) V TT SS,TT (o::os).length,SS (o::os).length)/\fF P X E n all (o::os) V TT SS/\YL P X E n all ex i (o::os) V TT SS R W:=by
   intro v0 A s1 Z W1 hk al hrd ad hR hW;obtain⟨V,TT,SS,g1,g2,g3,g4,g5,g6⟩:=Il os (i+1) A s1 Z W1 hk;refine⟨fun i=>match i with|0=>v0|i+1=>V i,fun i=>match i with|0=>T|i+1=>TT i,fun i=>match i with|0=>s|i+1=>SS i,rfl,rfl,g3,?_,⟨fun j oj hj=>?_⟩,⟨fun a oa va ha hva hla=>?_,fun b ob u C hu he r hr=>?_⟩⟩
   ·rw[vO];simp only[lR];rcases al with⟨v,rfl,U,J,N⟩|⟨rfl,U,rfl,N⟩
    ·simp only[U,J,N,g4];rfl
    simp only[U,N,g4];rfl
   ·cases j with
    |zero=>simp at hj;subst hj;simp only[g1,g2];exact al
    |succ j=>exact g5.step j oj (by simpa using hj)
   ·cases a with
    |zero=>
     simp at ha;subst ha;obtain⟨Y,B,x,h3,h4⟩:=hrd (by simp only at hva;rw[hva];simp) hla;refine⟨Y,B,x,fun b ob u C hu he=>⟨fun h=>by omega,fun _=>?_⟩⟩;cases b with
     |zero=>simp at C;subst C;rw[wK hla]at he;cases he
     |succ b=>have:=g6.ef b ob u (by simpa using C) hu he (i,Y) (by rw[h3];simp);rw[show i+(b+1)=i+1+b by omega];exact this
    |succ a=>
     obtain⟨Y,B,x,h3⟩:=g6.rd a oa va (by simpa using ha) hva hla;refine⟨Y,B,fun e he=>by rw[show i+(a+1)=i+1+a by omega];exact x e (hW e he),fun b ob u C hu he=>?_⟩;cases b with
     |zero=>simp at C;subst C;refine⟨fun _=>?_,fun h=>by omega⟩;obtain⟨_,_,h5⟩:=ad (by simp only at hu;rw[hu];simp) he;have:=x (i,s,s1) (by rw[h5];simp);simp only at this;rw[show i+(a+1)=i+1+a by omega,aAh];simp only[SK,g2];exact this
     |succ b=>
      obtain⟨h4,h5⟩:=h3 b ob u (by simpa using C) hu he;refine⟨fun h=>?_,fun h=>?_⟩
      ·have:=h4 (by omega);rw[show i+(a+1)=i+1+a by omega,show i+(b+1)=i+1+b by omega];exact this
      have:=h5 (by omega);rw[show i+(a+1)=i+1+a by omega,show i+(b+1)=i+1+b by omega];exact this
   cases b with
   |zero=>simp at C;subst C;obtain⟨B,_,_⟩:=ad (by simp only at hu;rw[hu];simp) he;have:=B r hr;rw[aAh];simp only[SK,g2];exact this
   |succ b=>have:=g6.ef b ob u (by simpa using C) hu he r (hR r hr);rw[show i+(b+1)=i+1+b by omega];exact this
  simp only[Mq]at h;split at h
  ·next U=>
   rw[<-nH]at U;unfold dB at h;split at h
   ·next v s1 J=>
    obtain⟨A,B,x⟩:=jX h;split at x
    ·next hl=>
     split at x
     ·next Y am=>exact y (some v) A s1 _ _ x.2 (.inl ⟨v,rfl,U,J,B⟩) (fun _ _=>⟨Y,am,x.1,rfl,rfl⟩) (fun _ he=>by rw[wK hl]at he;cases he) (fun r hr=>tK _ hr) (fun e he=>he)
     exact x.elim
    next hl=>
    split at x
    ·next he=>exact y (some v) A s1 _ _ x.2 (.inl ⟨v,rfl,U,J,B⟩) (fun _ h=>by rw[hl]at h;cases h) (fun _ _=>⟨x.1,rfl,rfl⟩) (fun r hr=>hr) (fun e he=>tK _ he)
    next he=>exact y (some v) A s1 _ _ x (.inl ⟨v,rfl,U,J,B⟩) (fun _ h=>by rw[hl]at h;cases h) (fun _ h=>by rw[he]at h;cases h) (fun r hr=>hr) (fun e he=>he)
   exact h.elim
  ·next U=>
   rw[<-nH]at U;obtain⟨A,B,x⟩:=jX h;exact y none A s _ _ x (.inr ⟨rfl,U,rfl,B⟩) (fun h=>absurd rfl h) (fun h=>absurd rfl h) (fun r hr=>hr) (fun e he=>he)
  exact h.elim
end
end
end Go.Proofs.YtfoceannfdbinaaGreat
namespace Go.Proofs.YtfoceannfdbinaaGreat
open Go.RowKit
section
mutual
theorem sG:∀x:AV,same x x=true
 | .b x=>by simp[same]
 | .i k n=>by simp[same]
 | .ptr o f=>by simp[same]
 | .pnil=>rfl
 | .sl o f n c=>by simp[same]
 | .snil=>rfl
 | .nat o=>by simp[same]
 | .num n=>by simp[same]
 | .vw c n=>by simp[same,eg c]
 | .vp c n=>by simp[same,eg c]
 | .fm a b=>by simp[same,eg a,eg b]
 | .mp o=>by simp[same]
 | .mnil=>rfl
 | .fn f a b=>by simp[same,eg a,eg b]
 | .yl l=>by simp[same]
 | .fnil=>rfl
 | .ifc t v=>by simp[same,sG v]
 | .inil=>rfl
 | .agg l=>by simp[same,eg l]
 | .tup l=>by simp[same,eg l]
theorem eg:∀l:List AV,jJ l l=true
 | []=>rfl
 |x::l=>by simp[jJ,sG x,eg l]
end
section
variable {P:Program}{X:eC}{E:Ev}{nt:Nat}{L:List Oper}{V:Nat->Option AV}{TT:Nat->Tr AV}{SS:Nat->St}{M:Tr Nat}

theorem qA M:∀(k f u:Nat),f+k=L.length->∀p,p∈dP M (SS L.length) u (L.drop f) f ((fF.shape L V TT SS).drop f)->
  f<=p.2.1/\p.2.1<=L.length/\(p.2.1=L.length∨∃o,L[p.2.1]?=some o/\cE o=true)/\p.2.2=(⟨if p.2.1=L.length then(SS L.length).h else OV L V TT SS p.2.1,(SS L.length).nx⟩:St) /\ ((p.1=u/\∀j o,f<=j->j<p.2.1->L[j]?=some o->cE o=false)∨∃j o,f<=j/\j<p.2.1/\L[j]?=some o/\cE o=true/\p.1=(M.get j).getD 0/\∀U Z,j<U->U<p.2.1->L[U]?=some Z->cE Z=false)
 |0,f,u,hf,p,hp=>by
  have e:L.drop f=[]:=AS (by omega);have J:(fF.shape L V TT SS).drop f=[]:=AS (by simp[fF.shape];omega);rw[e,J]at hp;simp only[dP,aAc]at hp;subst hp;have N:f=L.length:=by omega
  refine⟨cC _,by show f<=L.length;omega,.inl N,by simp[N],.inl ⟨rfl,fun j o C x=>by simp only at x;omega⟩⟩
 |k+1,f,u,hf,p,hp=>by
  have Y:L[f]?=some L[f]:=bY (by omega);obtain⟨e1,J⟩:=fR (V:=V) (TT:=TT) (SS:=SS) Y;cases hb:cE L[f]with
  |true=>
   have y:dP M (SS L.length) u (L.drop f) f ((fF.shape L V TT SS).drop f)=(u,f,⟨bM (SS L.length) (SS f).h (L.drop (f+1)) ((fF.shape L V TT SS).drop (f+1)),(SS L.length).nx⟩)::dP M (SS L.length) ((M.get f).getD 0) (L.drop (f+1)) (f+1) ((fF.shape L V TT SS).drop (f+1)):=by rw[e1,J];simp only[dP,hb,EQ]
   have ad:OV L V TT SS f=bM (SS L.length) (SS f).h (L.drop (f+1)) ((fF.shape L V TT SS).drop (f+1)):=by
    unfold OV;rw[e1,J];have hk:bQ L[f].op=.ef:=by unfold cE at hb;cases hkk:bQ L[f].op<;>rw[hkk]at hb<;>first|rfl|cases hb
    cases hv:V f with
    |none=>simp only[bM]
    |some v=>simp only[bM,hk]
   rw[y]at hp;rcases Is.1 hp with rfl|hp
   ·exact⟨cC _,by simp only;omega,.inr ⟨_,Y,hb⟩,by simp only;rw[iF (by omega),ad],.inl ⟨rfl,fun j o C x=>by simp only at x;omega⟩⟩
   obtain⟨g1,g2,g3,g4,B⟩:=qA M k (f+1) ((M.get f).getD 0) (by omega) p hp;refine⟨by omega,g2,g3,g4,.inr ?_⟩;rcases B with⟨B,g6⟩|⟨j,o,C,x,A,h4,h5,h6⟩
   ·exact⟨f,_,cC _,by omega,Y,hb,B,fun U Z C x A=>g6 U Z C x A⟩
   exact⟨j,o,by omega,x,A,h4,h5,h6⟩
  |false=>
   have y:dP M (SS L.length) u (L.drop f) f ((fF.shape L V TT SS).drop f)=dP M (SS L.length) u (L.drop (f+1)) (f+1) ((fF.shape L V TT SS).drop (f+1)):=by rw[e1,J];simp only[dP,hb,aAj]
   rw[y]at hp;obtain⟨g1,g2,g3,g4,B⟩:=qA M k (f+1) u (by omega) p hp;refine⟨by omega,g2,g3,g4,?_⟩;rcases B with⟨B,g6⟩|⟨j,o,C,x,A,h4,h5,h6⟩
   ·refine .inl ⟨B,fun j o C x A=>?_⟩;rcases By f j with h|h
    ·exact g6 j o h x A
    have:j=f:=by omega
    subst this;rw[Y]at A;cases A;exact hb
   exact .inr ⟨j,o,by omega,x,A,h4,h5,h6⟩
theorem Ek{ep}(h:∀i o v,L[i]?=some o->V i=some v->cq o.op=true->∃m,M.get i=some m/\∀p∈ep,p.1.testBit i=true∨m.testBit p.2.1=true∨dY P (js (TT i)) p.2.2 o.op=some v): ∀(k f:Nat),f+k=L.length->fJ P M ep (L.drop f) f ((fF.shape L V TT SS).drop f)=true
 |0,f,hf=>by have e:L.drop f=[]:=AS (by omega);rw[e];simp[fJ]
 |k+1,f,hf=>by
  have x:L[f]?=some L[f]:=bY (by omega);obtain⟨A,B⟩:=fR (V:=V) (TT:=TT) (SS:=SS) x;rw[A,B];have y:=Ek h k (f+1) (by omega);cases hv:V f with
  |none=>simpa only[fJ]using y
  |some v=>
   simp only[fJ,gE];refine⟨?_,y⟩;cases hk:bQ L[f].op with
   |rd=>
    simp only;cases hl:cq L[f].op with
    |false=>rfl
    |true=>
     obtain⟨m,hm,hp⟩:=h f _ v x hv hl;simp only[EQ,hm,Of,aAU];intro p u;rcases hp p u with j|j|j
     ·exact .inl (.inl j)
     ·exact .inl (.inr j)
     rw[j];exact .inr (sG v)
   |al=>rfl
   |ef=>rfl
theorem MK{ops:List Oper}{n:Nat}{ex:List (Nat×Nat)}{T:Tr AV}{s:St}{K:Tr AV->St->Prop}(S:dJ P E)(hW:Wf s)(hM:gA ops=some M)(hex:ex.all (fun p=>match M.get p.1 with|some m=>m.testBit p.2|none=>false)=true)(h:Mq P X E n (ops.map (·.dst)) ex 0 ops T s [] [] K):∃T' s',ug P X E n ops T s=some (T',s')/\K T' s':=by
 obtain⟨V,TT,SS,g1,g2,g3,g4,R,D⟩:=Il ops 0 T s [] [] h;have hS:=tQ hM;refine⟨TT ops.length,SS ops.length,?_,g3⟩;have a3:∀i j,yB ex i j->MB M i j:=by
  intro i j he;unfold yB at he;rw[Of]at hex;have:=hex (i,j) (by simpa using he);simp only at this;split at this
  ·next m hm=>exact⟨m,hm,this⟩
  cases this
 have grow:∀{i j},i<=j->j<=ops.length->(SS i).nx<=(SS j).nx:=fun h h'=>(R.grows_to S h h').1;have wf:∀i,i<=ops.length->Wf (SS i):=fun i hi=>(R.grows_to S (No i) hi).2 (by rw[g2];exact hW);have bd:fJ P M (dP M (SS ops.length) 0 ops 0 (fF.shape ops V TT SS)) ops 0 (fF.shape ops V TT SS)=true:=by
  have:=Ek (P:=P) (M:=M) (L:=ops) (V:=V) (TT:=TT) (SS:=SS) (ep:=dP M (SS ops.length) 0 ops 0 (fF.shape ops V TT SS)) ?_ ops.length 0 (by omega)
  ·simpa using this
  intro i o v ho hv hl;have hi:=(dO.1 ho).1;obtain⟨ns,n1,_,n3⟩:=D.rd i o v ho hv hl;have a5:M.get i≠none:=hS.bits.get i o ho;obtain⟨m,hm⟩:=Option.ne_none_iff_exists'.1 a5;refine⟨m,hm,fun p hp=>?_⟩;obtain⟨p1,q,S1⟩:=p;obtain⟨e1,e2,e3,e4,e5⟩:=qA (L:=ops) (V:=V) (TT:=TT) (SS:=SS) M ops.length 0 0 (by omega) (p1,q,S1) (by simpa using hp);simp only at e1 e2 e3 e4 e5⊢;by_cases av:p1.testBit i=true
  ·exact .inl av
  by_cases a4:m.testBit q=true
  ·exact .inr (.inl a4)
  refine .inr (.inr ?_);have hrd:dY P (js (TT i)) (SS i) o.op=some v:=by
   rcases R.step i o ho with⟨v',B,_,A,_⟩|⟨B,_⟩
   ·rw[hv]at B;cases B;have C:=Gw hl;unfold iW at A;rw[C]at A;simp only[iN,Gt]at A;obtain⟨_,h5,rfl,_⟩:=A;exact h5
   rw[hv]at B;cases B
  have Y:=NK n1;rw[<-hrd];refine NJ n1 ?_;have step:∀t,t<ops.length->(∀J,ops[t]?=some J->cE J=true->(t<i->¬MB M i t)/\(i<t->¬MB M t i))->∀k∈ns,(SS (t+1)).h.get k=(SS t).h.get k∨(fD ops V t/\(SS t).nx=k):=by
   intro t ht N k C;have y:ops[t]?=some ops[t]:=bY ht;rcases R.step t _ y with⟨u,B,_,A,_⟩|⟨_,_,A,_⟩
   ·unfold iW at A;split at A
    ·simp only[iN,Gt]at A;obtain⟨_,_,_,h6⟩:=A;rw[<-h6];exact .inl rfl
    ·next a1=>
     simp only[iN,Gt]at A;obtain⟨⟨ob,ff⟩,_,_,h6⟩:=A;by_cases e:(SS t).nx=k
     ·exact .inr ⟨⟨_,u,y,B,by rw[a1];trivial⟩,e⟩
     rw[<-h6];left;simp only[St.new];exact Tr.get_set_ne _ _ (aEt e)
    next a1=>
    have x:cE ops[t]=true:=by unfold cE;rw[a1]
    obtain⟨h5,h6⟩:=n3 t _ u y B x;obtain⟨h7,h8⟩:=N _ y x;left;rcases aBL t i with hlt|a0|al
    ·rcases h5 hlt with h9|h9
     ·exact absurd (a3 _ _ (by simpa using h9)) (h7 hlt)
     exact h9 k C
    ·subst a0;rw[ho]at y;cases y;rw[wK hl]at x;cases x
    rcases h6 al with h9|h9
    ·exact absurd (a3 _ _ (by simpa using h9)) (h8 al)
    exact h9 k C
   rw[A];exact .inl rfl
  have a2:∀k∈ns,k<(SS i).nx:=fun k C=>by
   rcases By k (SS i).nx with h|h
   ·exact h
   exact absurd (wf i (by omega) k h) (Y k C)
  have ad:∀j,fD ops V j->j<ops.length/\(SS (j+1)).nx=(SS j).nx+1:=fun j bj=>by obtain⟨o1,ob,ff,bm,_,_,a7,_⟩:=R.makes bj;exact⟨(dO.1 bm).1,by rw[a7];rfl⟩
  have a9:∀k,S1.h.get k=(OV ops V TT SS q).get k:=fun k=>by
   rw[e4];simp only;split
   ·next e=>rw[e,Hk]
   rfl
  rcases By i q with bn|bo
  ·have N:∀t,i<=t->t<q->∀J,ops[t]?=some J->cE J=true->(t<i->¬MB M i t)/\(i<t->¬MB M t i):=by
    intro t B U J y x;refine⟨fun h=>by omega,fun hit Z=>?_⟩;rcases e5 with⟨_,e6⟩|⟨j,oj,k1,k2,k3,k4,k5,k6⟩
    ·rw[e6 t J (No _) U y]at x;cases x
    have ba:MB M j i->False:=fun⟨m',am,hb⟩=>by rw[k5,am]at av;exact av hb
    rcases aBL t j with hlt|a0|al
    ·exact ba (hS.bits.trans j ⟨oj,k3⟩ t i (hS.chain t j J oj y k3 x k4 hlt) Z)
    ·subst a0;exact ba Z
    rw[k6 t J al U y]at x;cases x
   have keep:∀d,i+d<=q->∀k∈ns,(SS (i+d)).h.get k=(SS i).h.get k:=by
    intro d
    induction d with
    |zero=>intro _ k _;rfl
    |succ d ih=>
     intro hd k C;rw[<-ih (by omega) k C];rcases step (i+d) (by omega) (N (i+d) (by omega) (by omega)) k C with h|⟨_,h⟩
     ·exact h
     have:=a2 k C;have:=grow (show i<=i+d by omega) (by omega);omega
   intro k C;rw[a9,jI R S e2 (fun j B U A=>by have:=a2 k C;have:=grow (show i<=j by omega) (by have:=(ad j U).1;omega);omega)];have:=keep (q-i) (by omega) k C
   rwa [show i+(q-i)=q by omega]at this
  have N:∀t,q<=t->t<i->∀J,ops[t]?=some J->cE J=true->(t<i->¬MB M i t)/\(i<t->¬MB M t i):=by
   intro t B U J y x;refine⟨fun _ Z=>?_,fun h=>by omega⟩;have hq:MB M i q:=by
    rcases e3 with e3|⟨oq,A,h4⟩
    ·omega
    rcases By q t with hlt|hge
    ·exact hS.bits.trans i ⟨o,ho⟩ t q Z (hS.chain q t oq J A y h4 x hlt)
    rw[show q=t by omega];exact Z
   obtain⟨m',am,hb⟩:=hq;rw[hm]at am;cases am;exact a4 hb
  intro k C;have tell:∀d,d<=i-q->(k<(SS (i-d)).nx)->(SS (i-d)).h.get k=(SS i).h.get k:=by
   intro d
   induction d with
   |zero=>intro _ _;rfl
   |succ d ih=>
    intro hd hlt;have e6:i-d=i-(d+1)+1:=by omega
    rw[<-ih (by omega) (by have:=grow (show i-(d+1)<=i-d by omega) (by omega);omega),e6];rcases step (i-(d+1)) (by omega) (N _ (by omega) (by omega)) k C with h|⟨_,h⟩
    ·exact h.symm
    omega
  rw[a9];by_cases a6:k<(SS q).nx
  ·rw[jI R S e2 (fun j B U A=>by have:=grow B (by have:=(ad j U).1;omega);omega)];have:=tell (i-q) (cC _) (by rw[show i-(i-q)=q by omega];exact a6)
   rwa [show i-(i-q)=q by omega]at this
  have find:∀d,d<=i-q->k<(SS (q+d)).nx->∃j,q<=j/\j<q+d/\fD ops V j/\(SS j).nx=k:=by
   intro d
   induction d with
   |zero=>intro _ h;exact absurd h a6
   |succ d ih=>
    intro hd hlt;by_cases bf:k<(SS (q+d)).nx
    ·obtain⟨j,B,U,A,h4⟩:=ih (by omega) bf;exact⟨j,B,by omega,A,h4⟩
    rcases step (q+d) (by omega) (N _ (by omega) (by omega)) k C with h|⟨B,U⟩
    ·exfalso;have h5:(SS (q+d)).h.get k=none:=wf _ (by omega) k (by omega);have h6:=tell (i-(q+d+1)) (by omega) (by rw[show i-(i-(q+d+1))=q+d+1 by omega];exact hlt);rw[show i-(i-(q+d+1))=q+d+1 by omega,h,h5]at h6;exact Y k C h6.symm
    exact⟨q+d,by omega,by omega,B,U⟩
  obtain⟨j,B,U,A,h4⟩:=find (i-q) (cC _) (by rw[show q+(i-q)=i by omega];exact a2 k C);have h5:=x9 R S e2 B A;rw[h4]at h5;rw[h5];have h6:=(ad j A).2;have:=tell (i-(j+1)) (by omega) (by rw[show i-(i-(j+1))=j+1 by omega];omega)
  rwa [show i-(i-(j+1))=j+1 by omega]at this
 unfold ug;rw[hM];simp only[g4,bd,EQ]
end
section
variable {P:Program}{X:eC}{fr:Fr}{s:St}{Q:Ex->Fr->St->Prop}{id:Nat}{ops:Array Oper}{k:Nat}
theorem Jd.region{bb}(S:dJ P (Ev.at_ P X (k+1)))gl(j:ops.toList.map (·.dst)=gl)(h:kI P X (Ev.at_ P X k) fr.n gl ops.toList fr.T s fun T s=>Q .normal { fr with T } s):Jb bb P (.region id ops false) fr s Q:=by subst j;obtain⟨T',s',u,x⟩:=Aq h;refine Jd.run S (ex:=.normal) (fr':={ fr with T:=T' }) (s':=s') ?_ x;rw[se];simp only[dI,u]
theorem Jd.draw{bb:Nat}(S:dJ P (Ev.at_ P X (k+1)))(y:dJ P (Ev.at_ P X k))(gl:List (Option Tmp))(ex:List (Nat×Nat))(u:ops.toList.map (·.dst)=gl)
  (j:(match gA ops.toList with|some M=>ex.all (fun p=>match M.get p.1 with|some m=>m.testBit p.2|none=>false)|none=>false)=true)
  (h:Mq P X (Ev.at_ P X k) fr.n gl ex 0 ops.toList fr.T s [] [] fun T s=>Q .normal { fr with T } s):Jb bb P (.region id ops true) fr s Q:=by
 intro n μ w a ro R x C;subst u;cases hM:gA ops.toList with
 |none=>rw[hM]at j;cases j
 |some M=>rw[hM]at j;obtain⟨T',s',A,B⟩:=MK y x.rel.wf hM j h;refine Jd.run S (ex:=.normal) (fr':={ fr with T:=T' }) (s':=s') ?_ B n μ w a ro R x C;rw[se];simp only[dI,A]
end
end
def cA(neg:Bool)(n d:Nat):Rat:=mkRat (dD neg n) (if d=0 then 1 else d)

def aG(k:Nat)(w:World)(v:Value)(q:Rat):Prop:=∃neg vn vd ln ld,v=.agg #[.bool neg,vn,vd]/\cQ w vn ln/\cQ w vd ld/\
 q=cA neg (val ln) (val ld)/\val ln<2^k/\val ld<2^k/\ln.length<=17592186044416/\ld.length<=17592186044416
theorem aG.below{k w w' v q}(h:aG k w v q)(j:Below w.heap.size w w'):aG k w' v q:=by obtain⟨neg,J,C,B,A,e,u,x,y⟩:=h;exact⟨neg,J,C,B,A,e,u.below j,x.below j,y⟩
theorem aG.qb{k w v q}(h:aG k w v q)(x:0<k):QB k q:=by obtain⟨neg,C,B,A,y,e,_,_,rfl,j,u,_⟩:=h;unfold cA;have:=aAE (n:=k) (by omega);exact QB.red j (by split<;>omega) (by split<;>omega)

theorem take w v q k(h:aG k w v q)(h0:0<k)(hk:k<=17592186044416): Calls Tryz.prog 136 #[v] w fun e w'=>∃v',e=.returned v'/\di w.heap.size w' v' q/\Below w.heap.size w w':=by
 obtain⟨neg,vn,vd,Y,ld,rfl,h1,h2,h3,h4,h5,h6,h7⟩:=h;obtain⟨_,A,c,rfl,bm,bj,_⟩:=h1.open_;obtain⟨_,A',c',rfl,bf,bd,_⟩:=h2.open_;have H1:=aS h1;have H2:=aS h2;have H3:=aS h3;have H4:=aS h4;have H5:=aS h5;clear h1 h2 h3 h4 h5;have HW:Hid (∀o o',Below w.heap.size w ((w.alloc o).alloc o')):=aS (fun o o'=>((Below.refl _ _).alloc (cC _) o).alloc (by simp) o');have a4:0<2^k:=aAg (by omega);have a0:=aAE (n:=k) (by omega);have a3:=aS a0;clear a4 a0;go_enter Tryz.func136,Tryz.ntmps136;go_wp2_with fail;refine(mw _ _ ld ((H2.out.alloc _).alloc _) h7).mono ?_;rintro e w1 ⟨v1,rfl,t1,y⟩;have a6:w.heap.size+2<=w1.heap.size:=by have:=y.size;simpa using this
 have T1:=aS t1;have N1:=aS (((H1.out.alloc _).alloc _).below y);have B1:=aS ((HW.out _ _).trans (y.mono (by simp;omega)));have P1:=aS (((cg.new w 31 [.bool neg,.slice A Y.length c,.slice A' ld.length c']).alloc _).below' y)
 have R1:Hid (cg w1 (w.heap.size+1) 192 [.bool false,.slice none 0 0,.slice none 0 0]):=aS (by
  have:=(cg.new (w.alloc (.cells #[.bool neg,.slice A Y.length c,.slice A' ld.length c'] 31)) 192 [.bool false,.slice none 0 0,.slice none 0 0]).below' y
  rwa [aAx]at this)
 clear y t1;obtain⟨A1,m,c1,rfl,hm,a1⟩:=T1.out.len;have ad:=aS a1;clear a1;obtain⟨p0,p1,p2,_,_,_⟩:=P1.out.three;by_cases av:0<m
 ·have a5:((m:Int) == 0)=false:=by simp;omega
  have hq:q=mkRat (dD neg (val Y)) (val ld):=by rw[H3.out];unfold cA;rw[iF (by have:=ad.out.1 av;omega)]
  have HQ:=aS hq;clear hq;go_wp2_with fail
  go_region_with (first
   |(go_at_call 178;refine(mw _ _ Y ?_ h6).mono ?_;(exact N1.out);rintro e w2 ⟨v2,rfl,t2,u⟩;have j:Below w1.heap.size w1 w2:=(by first|exact u|exact ak u);have T2:=aS t2;have D2:=aS (T1.out.below j);have P2:=aS (P1.out.below' j);have R2:=aS (R1.out.below' j);have B2:=aS (B1.out.trans (j.mono (by omega)));clear t2 j u;obtain⟨a7,a9,ba,_,_,_⟩:=P2.out.three)
   |(go_at_call 180;refine(pf _ neg _ _ (val Y) (val ld) k T2.out D2.out H4.out H5.out hk (ad.out.1 av)).mono ?_;rintro e w3 ⟨v3,rfl,t3,x⟩;obtain⟨A3,m3,c3,Z,am,al,rfl,C,J,N,U⟩:=t3.open_;obtain⟨r0,r1,r2,z0,z1,z2⟩:=(R2.out.below' x).three;have TA:=aS C;have TB:=aS J;have TC:=aS N;have TD:=aS U;have B3:=aS (B2.out.trans (x.mono B2.out.size));have RL:=aS (R2.out.lt);clear t3 C J N U x))
  all_goals
   go_wp2_with fail;refine IN (v:=.agg #[.bool (ay (mkRat (dD neg (val Y)) (val ld))),.slice A3 m3 c3,.slice Z am al]) (by simp[results,Tryz.results136,go_sem,r0,r1,r2]) rfl ⟨_,rfl,?_,au B3.out (aAm _) _ _ _⟩;rw[HQ.out];exact(di.box3 TA.out TB.out TC.out TD.out RL.out _ _ _).mono (by have:=RL.out;omega)
 have a5:((m:Int) == 0)=true:=by simp;omega
 have a2:val ld=0:=by have:=ad.out;omega
 have hq:q=mkRat (dD neg (val Y)) 1:=by rw[H3.out];unfold cA;rw[oR a2]
 have HQ:=aS hq;clear hq a2;go_wp2_with fail;refine(CP w1 1 (by omega)).mono ?_;rintro e an ⟨vs,rfl,ts,B⟩;have T1:=aS ts;have N1:=aS (N1.out.below B);have B1:=aS (B1.out.trans (B.mono (by omega)));have P1:=aS (P1.out.below' B);have R1:=aS (R1.out.below' B);have a6:w.heap.size+2<=an.heap.size:=by have:=B.size;omega
 obtain⟨p0,p1,p2,_,_,_⟩:=P1.out.three;clear ts B;go_wp2_with fail
 go_region_with (first
  |(go_at_call 178;refine(mw _ _ Y ?_ h6).mono ?_;(exact N1.out);rintro e w2 ⟨v2,rfl,t2,u⟩;have j:Below an.heap.size an w2:=(by first|exact u|exact ak u);have T2:=aS t2;have D2:=aS (T1.out.below j);have P2:=aS (P1.out.below' j);have R2:=aS (R1.out.below' j);have B2:=aS (B1.out.trans (j.mono (by omega)));clear t2 j u;obtain⟨a7,a9,ba,_,_,_⟩:=P2.out.three)
  |(go_at_call 180;refine(pf _ neg _ _ (val Y) 1 k T2.out D2.out H4.out a3.out hk (by omega)).mono ?_;rintro e w3 ⟨v3,rfl,t3,x⟩;obtain⟨A3,m3,c3,Z,am,al,rfl,C,J,N,U⟩:=t3.open_;obtain⟨r0,r1,r2,z0,z1,z2⟩:=(R2.out.below' x).three;have TA:=aS C;have TB:=aS J;have TC:=aS N;have TD:=aS U;have B3:=aS (B2.out.trans (x.mono B2.out.size));have RL:=aS (R2.out.lt);clear t3 C J N U x))
 all_goals
  go_wp2_with fail;refine IN (v:=.agg #[.bool (ay (mkRat (dD neg (val Y)) (1))),.slice A3 m3 c3,.slice Z am al]) (by simp[results,Tryz.results136,go_sem,r0,r1,r2]) rfl ⟨_,rfl,?_,au B3.out (aAm _) _ _ _⟩;rw[HQ.out];exact(di.box3 TA.out TB.out TC.out TD.out RL.out _ _ _).mono (by have:=RL.out;omega)
def ie(w:World)(v:Value)(q:Rat):Prop:=∃vn vd,v=.agg #[.bool (ay q),vn,vd]/\ae w vn q.num.natAbs/\ae w vd (if q.den=1 then 0 else q.den)
def aB(B:Nat)(w:World)(v:Value)(q:Rat):Prop:=∃vn vd,v=.agg #[.bool (ay q),vn,vd]/\ae w vn q.num.natAbs/\ae w vd (if q.den=1 then 0 else q.den)/\bP vn B/\bP vd B

theorem tn w v n k(h:ae w v n)(hn:n<2^k)(B:k<=70368744177664): Calls Tryz.prog 181 #[v] w fun e w'=>∃x,e=.returned x/\ae w' x n/\Below w.heap.size w w'/\bP x w.heap.size:=by obtain⟨l,d,t,rfl⟩:=h;refine(jk w v l.length (l.map dg) d.1 (qC l) (by have:=t.length_le hn;omega)).mono ?_;rintro e w' ⟨x,rfl,y,A,base,j,u⟩;exact⟨x,rfl,⟨l,⟨y,d.2⟩,t,rfl⟩,A,(bP.of_own u).mono j⟩

theorem LC w v q k(h:fN w v q)(hb:QB k q)(hk:k<=17592186044416): Calls Tryz.prog 139 #[v] w fun e w'=>∃v',e=.returned v'/\aB w.heap.size w' v' q/\Below w.heap.size w w':=by
 obtain⟨A,m,c,J,U,N,rfl,hm,bf,hp,h1,h2⟩:=h.open_;have H1:=aS h1;have H2:=aS h2;have a0:=aS hb.1;have a7:=aS hb.2
 have HC:Hid (i9 q.den 1=0/\q.den=1∨i9 q.den 1=1/\q.den≠1):=aS (by
  have:=q.den_pos;rcases By 1 q.den with h|h
  ·exact .inr ⟨lk h,by omega⟩
  ·have:q.den=1:=by omega
   exact .inl ⟨by rw[this];exact r8 1,this⟩)
 clear h h1 h2 hb hp;obtain⟨neg,ad⟩:∃b,ay q=b:=⟨_,rfl⟩;have al:=aS ad;rw[ad];clear ad;have HW:Hid (∀o o',Below w.heap.size w ((w.alloc o).alloc o')):=aS (fun o o'=>((Below.refl _ _).alloc (cC _) o).alloc (by simp) o');have a9:Hid (∀o o',ae ((w.alloc o).alloc o') (.slice A m c) q.num.natAbs/\ae ((w.alloc o).alloc o') (.slice J U N) q.den):=aS (fun o o'=>⟨(H1.out.alloc _).alloc _,(H2.out.alloc _).alloc _⟩);have ba:Hid (∀(a b:Array Value) s t,(((w.alloc (.cells a s)).alloc (.cells b t)).heap.size=w.heap.size+2)):=aS (fun _ _ _ _=>by simp);go_enter Tryz.func139,Tryz.ntmps139;go_upto_region 1 with fail
 obtain⟨W,hW⟩:∃W,W=(w.alloc (.cells #[.bool neg,.slice A m c,.slice J U N] 192)).alloc (.cells #[.bool false,.slice none 0 0,.slice none 0 0] 31):=⟨_,rfl⟩;have P0:Hid (cg W w.heap.size 192 [.bool neg,.slice A m c,.slice J U N]):=aS (by rw[hW];exact(cg.new w _ _).alloc _)
 have R0:Hid (cg W (w.heap.size+1) 31 [.bool false,.slice none 0 0,.slice none 0 0]):=aS (by
  rw[hW];have:=cg.new (w.alloc (.cells #[.bool neg,.slice A m c,.slice J U N] 192)) 31 [.bool false,.slice none 0 0,.slice none 0 0]
  rwa [aAx]at this)
 have N0:Hid (ae W (.slice A m c) q.num.natAbs/\ae W (.slice J U N) q.den):=aS (by rw[hW];exact a9.out _ _);have B0:Hid (Below w.heap.size w W):=aS (by rw[hW];exact HW.out _ _);have a5:W.heap.size=w.heap.size+2:=by rw[hW];exact ba.out _ _ _ _
 rw[<-hW];clear hW;obtain⟨p0,p1,p2,_,_,_⟩:=P0.out.three;have an:=aS a5;have bm:w.heap.size+2<=W.heap.size:=by omega
 clear a5;go_cut [3] (fun s3 wx=>∃F A1 m1 c1,s3=.pointer (some ⟨F,0,none⟩)/\w.heap.size+2<=F/\cg wx F 31 [.bool neg,.slice A1 m1 c1,.slice none 0 0] /\ ae wx (.slice A1 m1 c1) q.num.natAbs/\bP (.slice A1 m1 c1) (w.heap.size+2)/\yz (.slice A1 m1 c1) F/\Below (w.heap.size+2) W wx)
 case first=>
  go_region_held3 (fun w'=>w'.cell? ⟨w.heap.size,0,none⟩=some (.bool neg)/\w'.cell? ⟨w.heap.size,1,none⟩=some (.slice A m c)) (first|go_keep|assumption|exact⟨eW hS.1 (show w.heap.size≠_ by(try simp);omega) _ _ _,eW hS.2 (show w.heap.size≠_ by(try simp);omega) _ _ _⟩)
   (first
    |(go_at_call 181;refine(tn _ _ q.num.natAbs k ?_ a0.out (by omega)).mono ?_;(exact(N0.out.1.alloc _).drew);rintro e w1 ⟨v1,rfl,t1,B,f1⟩;have j:=ak B;have Y:=(P0.out.alloc (.cells #[.bool false,.slice none 0 0,.slice none 0 0] 31)).below' j;have hS:=aT Y.three.1 Y.three.2.1;obtain⟨A1,m1,c1,rfl,_⟩:=t1.len;obtain⟨r0,r1,r2,z0,z1,z2⟩:=((cg.new W 31 [.bool false,.slice none 0 0,.slice none 0 0]).below' j).three;have BN:=aS ((cg.new W 31 [.bool false,.slice none 0 0,.slice none 0 0]).below' j);have a6:=j.size;have T1:=aS t1;have F1:=aS (show bP _ (W.heap.size+1)from by simpa using f1);have y:=aS (((Below.refl _ W).alloc (cC _) _).trans (j.mono (by simp)));clear t1 f1 j B)
    |(go_at_call 181;refine(tn _ _ q.num.natAbs k ?_ a0.out (by omega)).mono ?_;(exact N0.out.1.drew);rintro e w1 ⟨v1,rfl,t1,B,f1⟩;have j:=ak B;have Y:=P0.out.below' j;have hS:=aT Y.three.1 Y.three.2.1;obtain⟨A1,m1,c1,rfl,_⟩:=t1.len;have a6:=j.size;have T1:=aS t1;have F1:=aS (show bP _ W.heap.size from f1);have y:=aS j;clear t1 f1 j B))
  ·go_wp2_with fail;go_meet;have e0:=an.out;exact⟨_,_,_,_,rfl,by omega,cg.new w1 31 [.bool neg,.slice A1 m1 c1,.slice none 0 0],T1.out.alloc _,F1.out.mono (by omega),T1.out.off (cC _),(y.out.alloc a6 _).mono (by omega)⟩
  go_wp2_with fail;go_meet;have e0:=an.out;exact⟨_,_,_,_,rfl,by omega,BN.out.box3 _ _ _,T1.out.box3off (F1.out.off (aAV _)) _ _ _,F1.out.mono (by omega),F1.out.off (aAV _),(au y.out (cC _) _ _ _).mono (by omega)⟩
 obtain⟨F,A1,m1,c1,rfl,hF,a2,a3,a1,a4,j⟩:=hcut;have FB:=aS a2;have N1:=aS a3;have F1:=aS a1;have O1:=aS a4;have y:=aS j;have Y:Hid (cg wc w.heap.size 192 [.bool neg,.slice A m c,.slice J U N]):=aS (P0.out.below j (by omega));have D1:Hid (ae wc (.slice J U N) q.den):=aS (N0.out.2.below (j.mono (by have:=an.out;omega)));have bn:W.heap.size<=wc.heap.size:=j.size;clear a2 a3 a1 a4 j p0 p1 p2;obtain⟨p0,p1,p2,_,_,_⟩:=Y.out.three;rcases HC.out with hc|hc
 ·have CM:Hid (∀W v2,ae W (.slice J U N) q.den->ae W v2 1->Calls Tryz.prog 182 #[.slice J U N,v2] W fun e w'=>e=.returned (.int .i64 0)/\∃k,w'=W.drewN k):=aS (fun W v2 h1 h2=>by have:=lj W _ _ _ _ h1 h2;rwa [hc.1]at this);have HD:=aS hc.2;clear hc;go_upto_region 2 with fail
  go_region_held3 (fun w'=>w'.cell? ⟨w.heap.size,2,none⟩=some (.slice J U N)) (first|go_keep|assumption)
   (first
    |(go_at_call 179;refine(CP _ 1 (by omega)).mono ?_;rintro e w2 ⟨v2,rfl,t2,C⟩;have x:=ak C;have hS:=(Y.out.below' x).three.2.2.1;have T2:=aS t2;have u:=aS x;have av:=aS (Y.out.below' x);have D2:=aS (D1.out.below x);clear t2 x C)
    |(go_at_call 182;refine(CM.out _ _ D2.out T2.out).mono ?_;rintro e w3 ⟨rfl,nd,rfl⟩;have hS:=(av.out.drewN nd).three.2.2.1))
  obtain⟨f0,f1,f2,_,_,_⟩:=(FB.out.below' u.out).three;obtain⟨r0,r1,r2,z0,z1,z2⟩:=((R0.out.below y.out (by omega)).below' u.out).three;have BA:=aS (B0.out.trans ((y.out.mono (by omega)).trans (u.out.mono (by omega))));have NA:=aS (N1.out.below u.out);go_wp2_with fail;refine IN (v:=.agg #[.bool neg,.slice A1 m1 c1,.slice none 0 0]) (by simp[results,Tryz.results139,go_sem,r0,r1,r2]) rfl ⟨_,rfl,⟨_,_,by rw[al.out],?_,?_,F1.out.mono (by omega),bP.nil_ _⟩,au (a8 BA.out nd) (aAm _) _ _ _⟩
  ·exact(NA.out.drewN nd).box3 (F1.out.mono (by omega)) _ _ _
  rw[oR HD.out];exact ae.nil_ _
 have CM:Hid (∀W v2,ae W (.slice J U N) q.den->ae W v2 1->Calls Tryz.prog 182 #[.slice J U N,v2] W fun e w'=>e=.returned (.int .i64 1)/\∃k,w'=W.drewN k):=aS (fun W v2 h1 h2=>by have:=lj W _ _ _ _ h1 h2;rwa [hc.1]at this);have HD:=aS hc.2;clear hc;go_upto_region 2 with fail
 go_region_held3 (fun w'=>w'.cell? ⟨w.heap.size,2,none⟩=some (.slice J U N)) (first|go_keep|assumption)
  (first
   |(go_at_call 179;refine(CP _ 1 (by omega)).mono ?_;rintro e w2 ⟨v2,rfl,t2,C⟩;have x:=ak C;have hS:=(Y.out.below' x).three.2.2.1;have T2:=aS t2;have u:=aS x;have av:=aS (Y.out.below' x);have D2:=aS (D1.out.below x);clear t2 x C)
   |(go_at_call 182;refine(CM.out _ _ D2.out T2.out).mono ?_;rintro e w3 ⟨rfl,nd,rfl⟩;have hS:=(av.out.drewN nd).three.2.2.1))
 obtain⟨f0,f1,f2,y0,y1,y2⟩:=(FB.out.below' u.out).three;have BA:=aS (B0.out.trans ((y.out.mono (by omega)).trans (u.out.mono (by omega))));have NA:=aS (N1.out.below u.out);have QA:=aS (Y.out.below' u.out);obtain⟨q0,q1,q2,_,_,_⟩:=QA.out.three;have bo:wc.heap.size<=w2.heap.size:=u.out.size;have RA:=aS ((R0.out.below y.out (by omega)).below' u.out);have FA:=aS (FB.out.below' u.out);go_wp2_with fail;refine(tn _ _ q.den k (D2.out.drewN nd) a7.out (by omega)).mono ?_;rintro e w4 ⟨v4,rfl,t4,am,f4⟩;have Z:=bh am;obtain⟨A4,m4,c4,rfl,_⟩:=t4.len;have R4:=aS (RA.out.below' Z);have FC:=aS (FA.out.below' Z);have N4:=aS (NA.out.below Z);have BC:=aS (BA.out.trans (Z.mono (by omega)));have T4:=aS t4;have F4:=aS (show bP _ w2.heap.size from f4);have bd:F<w2.heap.size:=FA.out.lt;clear t4 Z am f4 f0 f1 f2 y0 y1 y2 q0 q1 q2;obtain⟨f0,f1,f2,y0,y1,y2⟩:=FC.out.three;obtain⟨r0,r1,r2,z0,z1,z2⟩:=R4.out.three;have bj:F≠w.heap.size+1:=by omega
 go_wp2_with fail;refine IN (v:=.agg #[.bool neg,.slice A1 m1 c1,.slice A4 m4 c4]) (by simp[results,Tryz.results139,go_sem,r0,r1,r2]) rfl ⟨_,rfl,⟨_,_,by rw[al.out],?_,?_,F1.out.mono (by omega),F4.out.mono (by omega)⟩,au (BC.out.setCell (p:=⟨F,2,none⟩) (by show w.heap.size<=F;omega) _) (aAm _) _ _ _⟩
 ·exact(N4.out.setOff (p:=⟨F,2,none⟩) O1.out _).box3 (F1.out.mono (by omega)) _ _ _
 rw[iF HD.out];exact(T4.out.setFar (p:=⟨F,2,none⟩) F4.out bd _).box3 (F4.out.mono (by omega)) _ _ _
theorem jB{w g j e B a b c x y A}(h:cg w g e [a,b,c])(u:cg w j B [x,y,A]): w.cell? ⟨g,0,none⟩=some a/\w.cell? ⟨g,1,none⟩=some b/\w.cell? ⟨g,2,none⟩=some c/\w.cell? ⟨j,0,none⟩=some x/\w.cell? ⟨j,1,none⟩=some y/\w.cell? ⟨j,2,none⟩=some A:= ⟨h.three.1,h.three.2.1,h.three.2.2.1,u.three.1,u.three.2.1,u.three.2.2.1⟩

theorem dE{w:World}{g j B a b c J N U}(h:w.cell? ⟨g,0,none⟩=some a/\w.cell? ⟨g,1,none⟩=some b/\w.cell? ⟨g,2,none⟩=some c/\w.cell? ⟨j,0,none⟩=some J/\w.cell? ⟨j,1,none⟩=some N/\w.cell? ⟨j,2,none⟩=some U)(C:g≠B)(u:j≠B)x y A: (((w.setCell ⟨B,0,none⟩ x).setCell ⟨B,1,none⟩ y).setCell ⟨B,2,none⟩ A).cell? ⟨g,0,none⟩=some a/\(((w.setCell ⟨B,0,none⟩ x).setCell ⟨B,1,none⟩ y).setCell ⟨B,2,none⟩ A).cell? ⟨g,1,none⟩=some b/\(((w.setCell ⟨B,0,none⟩ x).setCell ⟨B,1,none⟩ y).setCell ⟨B,2,none⟩ A).cell? ⟨g,2,none⟩=some c/\(((w.setCell ⟨B,0,none⟩ x).setCell ⟨B,1,none⟩ y).setCell ⟨B,2,none⟩ A).cell? ⟨j,0,none⟩=some J/\(((w.setCell ⟨B,0,none⟩ x).setCell ⟨B,1,none⟩ y).setCell ⟨B,2,none⟩ A).cell? ⟨j,1,none⟩=some N/\(((w.setCell ⟨B,0,none⟩ x).setCell ⟨B,1,none⟩ y).setCell ⟨B,2,none⟩ A).cell? ⟨j,2,none⟩=some U:= ⟨eW h.1 C _ _ _,eW h.2.1 C _ _ _,eW h.2.2.1 C _ _ _,eW h.2.2.2.1 u _ _ _,eW h.2.2.2.2.1 u _ _ _,eW h.2.2.2.2.2 u _ _ _⟩

theorem Yc w v v' q r k(h:fN w v q)(h':fN w v' r)(hb:QB k q)(Y:QB k r)(hk:k<=8796093022208): Calls Tryz.prog 146 #[v,v'] w fun e w'=>∃v',e=.returned v'/\di w.heap.size w' v' (q*r)/\Below w.heap.size w w':=by
 obtain⟨A,m,c,A',m',c',rfl,hm,a6,hp,h1,h2⟩:=h.open_;obtain⟨C,n,d,C',n',d',rfl,hn,a7,a9,N,U⟩:=h'.open_;have H1:=aS h1;have H2:=aS h2;have a0:=aS N;have a1:=aS U;have HB:=aS hb;have j:=aS Y;have MS:=aS (Jj q r);have DP:Hid (0<q.den*r.den):=aS (aBg q.den_pos r.den_pos);clear h h' h1 h2 N U hb Y hp a9 hn a7 hm a6;generalize ay q=s at *;generalize ay r=t at *;go_enter Tryz.func146,Tryz.ntmps146;go_upto_region 1 with fail
 obtain⟨W,hW,P0,P1,P2,J,bd⟩:=box3 w 192 [.bool s,.slice A m c,.slice A' m' c'] 192 [.bool t,.slice C n d,.slice C' n' d'] 192 [.bool false,.slice none 0 0,.slice none 0 0];rw[<-hW];clear hW;have N1:=aS (H1.out.below J.out);have N2:=aS (H2.out.below J.out);have a2:=aS (a0.out.below J.out);have a3:=aS (a1.out.below J.out);obtain⟨p0,p1,p2,_,_,_⟩:=P0.out.three;obtain⟨q0,q1,q2,_,_,_⟩:=P1.out.three
 go_region_held3 (fun w'=>w'.cell? ⟨w.heap.size,0,none⟩=some (.bool s)/\w'.cell? ⟨w.heap.size,1,none⟩=some (.slice A m c)/\w'.cell? ⟨w.heap.size,2,none⟩=some (.slice A' m' c')/\w'.cell? ⟨w.heap.size+1,0,none⟩=some (.bool t)/\w'.cell? ⟨w.heap.size+1,1,none⟩=some (.slice C n d)/\w'.cell? ⟨w.heap.size+1,2,none⟩=some (.slice C' n' d')) (first|assumption|(refine dE hS ?_ ?_ _ _ _<;>omega)|go_keep)
  (first
   |(go_at_call_of 185 (Value.slice A m c);refine(mul _ _ _ _ _ k k ?_ ?_ HB.out.1 j.out.1 (by omega) (by omega)).mono ?_;(exact N1.out.drew);(exact a2.out.drew);rintro e w1 ⟨v1,rfl,t1,y⟩;have u:=ak y;have hS:=jB (P0.out.below' u) (P1.out.below' u);have T1:=aS t1;have B1:=aS u;clear t1 u y)
   |(go_at_call_of 185 (Value.slice A' m' c');refine(mul w1 _ _ _ _ k k (N2.out.below B1.out) (a3.out.below B1.out) HB.out.2 j.out.2 (by omega) (by omega)).mono ?_;rintro e w2 ⟨v2,rfl,t2,x⟩;have B:=aS (B1.out.trans (x.mono B1.out.size));have a4:=aS (T1.out.below x);have T2:=aS t2;have hS:=jB (P0.out.below' B.out) (P1.out.below' B.out);clear t2 x)
   |(go_at_call 180;refine(pf w2 (s != t) _ _ _ _ (k+k) a4.out T2.out (bv HB.out.1 j.out.1) (bv HB.out.2 j.out.2) (by omega) DP.out).mono ?_;rintro e w3 ⟨v3,rfl,t3,Z⟩;have B3:=aS (B.out.trans (Z.mono B.out.size));obtain⟨A3,m3,c3,av,ba,a5,rfl,ad,al,am,an⟩:=t3.open_;obtain⟨r0,r1,r2,z0,z1,z2⟩:=(P2.out.below' B3.out).three;have hS:=jB (P0.out.below' B3.out) (P1.out.below' B3.out);have TA:=aS ad;have TB:=aS al;have TC:=aS am;have TD:=aS an;clear t3 ad al am an Z))
 go_wp2_with fail;refine IN (v:=.agg #[.bool (ay (mkRat (dD (s != t) (q.num.natAbs*r.num.natAbs)) (q.den*r.den))),.slice A3 m3 c3,.slice av ba a5]) (by simp[results,Tryz.results146,go_sem,r0,r1,r2]) rfl ⟨_,rfl,?_,au (J.out.trans (B3.out.mono (by omega))) (by omega) _ _ _⟩;rw[MS.out];have x:=B.out.size;exact(di.box3 TA.out TB.out TC.out TD.out (by omega) _ _ _).mono (by omega)
end Go.Proofs.YtfoceannfdbinaaGreat
