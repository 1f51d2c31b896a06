/- Lemmas. -/
import Derived.Test.YtfoceannfdbinaaGreatW28
import Derived.RangeFuncBound
import Derived.RangeFuncCalls
set_option linter.all false
set_option maxRecDepth 1000000
set_option maxHeartbeats 32000000
namespace Go.Proofs.YtfoceannfdbinaaGreat
open Go.RowKit
theorem l0:laidOutB Tryz.prog=true:=by kernel_rfl
theorem oc:Tryz.prog.follows .mixedOrders=true:=by kernel_rfl
section
section
variable {α:Type}{f:α->List AV}{z:Nat}
theorem de(j:∀x,(f x).length=z):∀l:List α,(l.flatMap f).length=l.length*z
 | []=>by simp
 |x::l=>by rw[aAH,Sk,j,de j l,On,aAl];omega
theorem i7(u:∀x,(f x).length=z):∀(l:List α)(i j:Nat),j<z->(l.flatMap f)[i*z+j]?=(l[i]?).bind fun x=>(f x)[j]?
 | [],i,j,_=>by simp
 |x::l,0,j,hj=>by rw[aAH,aAp (by rw[u];omega)];simp
 |x::l,i+1,j,hj=>by rw[aAH,aAd (by rw[u,aAl];omega),u,show(i+1)*z+j-z=i*z+j by rw[aAl];omega,i7 u l i j hj];simp
theorem pt{β}:∀{n:Nat}{l:List β}{off:Nat}{r:List β},r.length=n->(∀i,i<n->l[off+i]?=r[i]?)->getR l off n=some r
 |0,l,off,r,h,_=>by rw[oF h];rfl
 |n+1,l,off,r,h,k=>by
  cases r with
  |nil=>simp at h
  |cons x r=>have j:=k 0 (by omega);simp only[aAh,aAb]at j;rw[getR,j];simp only;rw[pt (r:=r) (by simpa using h) (fun i hi=>by have:=k (i+1) (by omega);rw[Em]at this;rw[<-this];congr 1;omega)];rfl
theorem iw(u:∀x,(f x).length=z){l:List α}{i x}(A:l[i]?=some x):getR (l.flatMap f) (i*z) z=some (f x):= pt (u x) fun j y=>by rw[i7 u l i j y,A];rfl
theorem uv(J:∀x,(f x).length=z){l:List α}{i x}(C:l[i]?=some x){o n r}(N:o+n<=z)(B:getR (f x) o n=some r):getR (l.flatMap f) (i*z+o) n=some r:=by obtain⟨u,y⟩:=g9 B;refine pt u fun j A=>?_;rw[aAo,i7 J l i (o+j) (by omega),C,CC,y j A]
theorem mN(u:∀x,(f x).length=z){l:List α}{i}(hi:i<l.length)y:cz (l.flatMap f) (i*z) (f y)=(l.set i y).flatMap f:=by
 apply aAa;intro k;rw[jo,de u,u];rcases lE z with A|A
 ·have e:∀l:List α,l.flatMap f=[]:=fun l=>oF (by rw[de u,A];simp);rw[e,e,iF (by omega)]
 have C:=aCd k z;have hm:=aBv k A
 have key:∀l:List α,(l.flatMap f)[k]?=(l[k/z]?).bind fun x=>(f x)[k%z]?:=fun l=>by
  have:=i7 u l (k/z) (k%z) hm
  rwa [show k/z*z+k%z=k by rw[aBm];exact C]at this
 rw[key,key,aAF];by_cases e:k/z=i
 ·subst e;have j:k/z*z<=k:=Nat.div_mul_le_self k z;have B:k<k/z*z+z:=by rw[aBm];omega
  have:k/z*z+z<=l.length*z:=by rw[<-Nat.succ_mul];exact Mt _ hi
  rw[oR ⟨j,B,by omega⟩,oR rfl,oR hi,CC];congr 1;rw[aBm]at j⊢;omega
 have:¬(i*z<=k/\k<i*z+z):=fun h=>e (by
  apply Nat.div_eq_of_lt_le
  ·exact h.1
  ·rw[Nat.succ_mul];exact h.2)
 rw[iF (fun h=>this ⟨h.1,h.2.1⟩),iF (aEt e)]
theorem rT(j:∀x,(f x).all flat=true)(l:List α):(l.flatMap f).all flat=true:=by rw[Of];intro y hy;obtain⟨x,_,hy⟩:=List.mem_flatMap.1 hy;exact Of.1 (j x) y hy
theorem rS y:∀n,(List.replicate n y).flatMap f=reps (f y) n
 |0=>rfl
 |n+1=>by rw[aAW,aAH,rS y n];rfl
end
def fr(qs:List Rat):List AV:=qs.flatMap ai
theorem kx q:(ai q).length=3:=rfl
theorem oA q:(ai q).all flat=true:=rfl
theorem iv qs:(fr qs).length=qs.length*3:=de kx qs
theorem i6{qs i q}(h:qs[i]?=some q):getR (fr qs) (i*3) 3=some (ai q):=iw kx h
theorem gp{qs i}(h:i<qs.length)q:cz (fr qs) (i*3) (ai q)=fr (qs.set i q):=mN kx h q
theorem JL qs:(fr qs).all flat=true:=rT oA qs
def bs(l:List Bool):List AV:=l.map .b
theorem Qj l i b:cz (bs l) i [.b b]=bs (l.set i b):=by simp[bs,cz,aBH]
theorem J2 l:(bs l).all flat=true:=by simp[bs,flat]
def is(l:List Int):List AV:=l.map (.i .i64)
theorem GC l i z:cz (is l) i [.i .i64 z]=is (l.set i z):=by simp[is,cz,aBH]
theorem uS l:(is l).all flat=true:=by simp[is,flat]
theorem EO q:(fq q).cells=ai q:=rfl
theorem fM{q r}op(j:qz q<=iY)(u:qz r<=iY):cK op [fq q,fq r]=some (fq (op q r)):=by simp only[cK,bu j,bu u]
theorem df{x y q r}op(j:fg x=some q)(u:fg y=some r):cK op [x,y]=some (fq (op q r)):=by simp only[cK,j,u]
theorem JY{x y q r}(j:fg x=some q)(u:fg y=some r):xD [x,y]=some (.i .i64 (ci (q-r))):=by simp only[xD,j,u]
theorem vN{x q}(j:fg x=some q):kS [x]=some (.i .i64 (ci q)):=by simp only[kS,j,AC]
theorem wD{z}(h:0<=z)(j:z<9223372036854775808):yi [.i .i64 z]=some (fq (z:Rat)):=by obtain⟨n,rfl⟩:∃n:Nat,z=(n:Int):=⟨z.toNat,by omega⟩;show cond (Nat.blt n 9223372036854775808) (some (fq (n:Rat))) none=_;rw[dz (by omega)];rfl
theorem aj{g args v}(h:g args=some v)s:ab g args s=some (v,s):=by unfold ab;rw[h];rfl
theorem Q5 q:AV.agg (ai q)=fq q:=rfl
theorem Qi l i b:(bs l).set i (.b b)=bs (l.set i b):=by simp[bs,aBH]
theorem Pi l i z:(is l).set i (.i .i64 z)=is (l.set i z):=by simp[is,aBH]
theorem fw:type_of% (aT @Q5 (aT @EO (aT @kx (aT @oA (aT @gp (aT @JL (aT @Qj (aT @J2 (aT @GC (aT @Qi (aT @Pi @uS))))))))))):=(aT @Q5 (aT @EO (aT @kx (aT @oA (aT @gp (aT @JL (aT @Qj (aT @J2 (aT @GC (aT @Qi (aT @Pi @uS)))))))))))
theorem Tz q:∀n,fr (List.replicate n q)=reps (ai q) n:=rS q
theorem bA.zfr{H ρ}n t op:bA H ρ (.cells (reps [.b false,.snil,.snil] n) t op) (.cells (fr (List.replicate n 0)) t op):=by refine⟨rfl,rfl,?_⟩;have e:cS ρ (fr (List.replicate n 0))=fr (List.replicate n 0):=rens_bare' ρ n;rw[e,Tz];exact nw.reps (.cons (Wk.refl H _) (.cons (Wk.zero H) (.cons (Wk.zero H) .nil))) n
where rens_bare' (ρ:Nat->Nat):∀n,cS ρ (fr (List.replicate n 0))=fr (List.replicate n 0)
 |0=>rfl
 |n+1=>by
  have e:fr (List.replicate (n+1) 0)=.b (ay 0)::.num (0:Rat).num.natAbs::.num (EE 0)::fr (List.replicate n 0):=by rw[aAW];rfl
  rw[e];simp only[cS,ig,rens_bare' ρ n]
end
section
theorem nB:type_of% (aT @ZR (aT @ev (aT @ZS (aT @fw (aT @ZP (aT @aAh (aT @aAZ (aT @aCh (aT @Int.toNat_zero (aT @true_and (aT @and_true (aT @or_true (aT @true_or (aT @and_self (aT @or_false @false_or))))))))))))))):=aT @ZR (aT @ev (aT @ZS (aT @fw (aT @ZP (aT @aAh (aT @aAZ (aT @aCh (aT @Int.toNat_zero (aT @true_and (aT @and_true (aT @or_true (aT @true_or (aT @and_self (aT @or_false @false_or))))))))))))))
@[congr] theorem ifK_congr {o o':Option Bool} (A B:Prop) (h:tJ o = o'):Tm o A B = Tm o' A B:=by rw [<- h]; rfl
@[congr] theorem bindK_congr {α:Type} {o o':Option α} (k:α->Prop) (h:tJ o = o'):ao o k = ao o' k:=by rw [<- h]; rfl
@[congr] theorem boolK_congr {v v':AV} (k:Bool->Prop) (h:tJ v = v'):J8 v k = J8 v' k:=by rw [<- h]; rfl
@[congr] theorem opK_congr (P:Program) (X:eC) (E:Ev) (ρ:Operand->Option AV) {s s':St} (o:Op) (K:AV->St->Prop) (h:tJ s = s'):dB P X E ρ s o K = dB P X E ρ s' o K:=by rw [<- h]; rfl
@[congr] theorem nxtD_congr (ex:List (Nat × Nat)) (i:Nat) (op:Op) (ρ:Operand->Option AV) {s s' t t':St} {R R':List (Nat × List Nat)} {W W':List (Nat × St × St)} (k:List (Nat × List Nat)->List (Nat × St × St)->Prop) (h1:tJ s = s') (h2:t = t') (h3:R = R') (h4:W = W'):fB ex i op ρ s t R W k = fB ex i op ρ s' t' R' W' k:=by rw [<- h1,h2,h3,h4]; rfl
@[congr] theorem wpO_congr (P:Program) (X:eC) (E:Ev) (n:Nat) (gl:List (Option Tmp)) (l:List Oper) {T T':Tr AV} {s s':St} (K:Tr AV->St->Prop) (h1:tJ T = T') (h2:s = s'):kI P X E n gl l T s K = kI P X E n gl l T' s' K:=by rw [<- h1,h2]; rfl
@[congr] theorem wpE_congr (P:Program) (X:eC) (E:Ev) (n:Nat) (gl:List (Option Tmp)) (ex:List (Nat × Nat)) (i:Nat) (l:List Oper) {T T':Tr AV} {s s':St} {R R':List (Nat × List Nat)} {W W':List (Nat × St × St)} (K:Tr AV->St->Prop) (h1:tJ T = T') (h2:s = s') (h3:R = R') (h4:W = W'):yc P X E n gl ex i l T s R W K = yc P X E n gl ex i l T' s' R' W' K:=by rw [<- h1,h2,h3,h4]; rfl
mutual
theorem bc ρ:∀x:AV,bare x=true->ig ρ x=x
 | .b _,_|.i _ _,_|.pnil,_|.snil,_|.num _,_|.vw _ _,_|.vp _ _,_|.fm _ _,_|.mnil,_|.fnil,_|.inil,_=>rfl
 | .ptr _ _,h|.sl _ _ _ _,h|.nat _,h|.mp _,h|.yl _,h=>by simp[bare]at h
 | .fn f a b,h=>by simp only[bare,gE]at h;simp only[ig,bt ρ a h.1,bt ρ b h.2]
 | .ifc t v,h=>by simp only[bare]at h;simp only[ig,bc ρ v h]
 | .agg l,h=>by simp only[bare]at h;simp only[ig,bt ρ l h]
 | .tup l,h=>by simp only[bare]at h;simp only[ig,bt ρ l h]
theorem bt ρ:∀l:List AV,aq l=true->cS ρ l=l
 | [],_=>rfl
 |x::l,h=>by simp only[aq,gE]at h;simp only[cS,bc ρ x h.1,bt ρ l h.2]
end
theorem jT:∀l m:List AV,aq (l++m)=(aq l&&aq m)
 | [],m=>by simp[aq]
 |x::l,m=>by simp only[aAy,aq,jT l m,Bool.and_assoc]
theorem jl{α:Type}{f}(h:∀x,aq (f x)=true):∀l:List α,aq (l.flatMap f)=true
 | []=>rfl
 |x::l=>by rw[aAH,jT,h x,jl h l];rfl
theorem hZ{α:Type}{f}(h:∀x,bare (f x)=true):∀l:List α,aq (l.map f)=true
 | []=>rfl
 |x::l=>by simp only[OF,aq,h x,hZ h l];rfl
theorem aJ qs:aq (fr qs)=true:=jl (fun _=>rfl) qs
theorem Uj l:aq (bs l)=true:=hZ (fun _=>rfl) l
theorem fH l:aq (is l)=true:=hZ (fun _=>rfl) l
theorem bA.same{H ρ c t op}(h:aq c=true):bA H ρ (.cells c t op) (.cells c t op):=bA.cells (bt ρ c h).symm
theorem Wk.bare{H ρ x}(h:bare x=true):Wk H x (ig ρ x):=by rw[bc ρ x h];exact Wk.refl H x
theorem Wk.i64{H ρ a b}(h:a=b):Wk H (.i .i64 a) (ig ρ (.i .i64 b)):=by rw[h];exact Wk.refl H _
def kO(H:Mu->Prop)(ρ:Nat->Nat)(l:List (Nat×AV)):List (Nat×AV)->Prop
 | []=>True
 |p::l2=>(∃x,gG l p.1=some x/\Wk H x (ig ρ p.2))/\kO H ρ l l2
theorem kO.at_{H ρ l}:∀{l2:List (Nat×AV)},kO H ρ l l2->∀t j,gG l2 t=some j->∃x,gG l t=some x/\Wk H x (ig ρ j)
 | [],_,t,j,e=>by simp[gG]at e
 |p::l2,h,t,j,e=>by
  rw[show gG (p::l2) t=_ from i5 p.1 p.2 l2 t]at e;split at e
  ·next u=>subst u;cases e;exact h.1
  exact kO.at_ h.2 t j e
def ny(H:Mu->Prop)(ρ:Nat->Nat)(nx2:Nat)(l:List (Nat×Option AO)):List (Nat×Option AO)->Prop
 | []=>True
 |p::l2=>(p.1<nx2/\∃x2 x,p.2=some x2/\gF l (ρ p.1)=some x/\bA H ρ x x2)/\ny H ρ nx2 l l2
theorem ny.at_{H ρ nx2 l}:∀{l2:List (Nat×Option AO)},ny H ρ nx2 l l2->∀k j,gF l2 k=some j->k<nx2/\∃x,gF l (ρ k)=some x/\bA H ρ x j
 | [],_,t,j,e=>by cases e
 |p::l2,h,t,j,e=>by
  rw[show gF (p::l2) t=_ from hY p.1 p.2 l2 t]at e;split at e
  ·next u=>
   subst u;obtain⟨⟨A,N,y,B,C,J⟩,_⟩:=h;rw[B]at e;cases e;exact⟨A,y,C,J⟩
  exact ny.at_ h.2 t j e
section
variable {P:Program}{c:Code}{f:FuncId}{n:Nat}{l l2:List (Nat×AV)}{m m2:List (Nat×Option AO)}{nx:Nat}{H:Mu->Prop}{rl:List Nat}
theorem Ro.of(j:rl.Nodup)(hT:kO H (bC rl nx) l l2)(hS:ny H (bC rl nx) rl.length m m2):Ro H rl ⟨f,n,Tr.of l,none,[]⟩ (St.of m nx) ⟨f,n,Tr.of l2,none,[]⟩ (St.of m2 rl.length):= ⟨rfl,rfl,rfl,rfl,fun t u e=>by rw[Tr.of_get]at e;rw[Tr.of_get];exact hT.at_ t u e,fun k u e=>by rw[St.of_get]at e;rw[St.of_nx,St.of_get];exact hS.at_ k u e,j⟩
def To(bb:Nat)(fr:Fr)(s:St)(fr2:Fr)(s2:St):Prop:=∃rl,Ro (fun _=>True) rl fr s fr2 s2/\∀o,o<bb->bC rl s.nx o=o
variable {Q:Ex->Fr->St->Prop}{fr fr2:Fr}{s s2:St}{bb:Nat}
theorem Jd.to(h:To bb fr s fr2 s2)(k:Jb bb P c fr2 s2 Q):Jb bb P c fr s Q:=let ⟨rl,h,hb⟩:=h;Jd.weakB rl h hb k
theorem To.ofL rl l2 m2{nx2}(hnx:rl.length=nx2)(j:rl.Nodup)(u:∀o,o<bb->bC rl nx o=o)(hT:kO (fun _=>True) (bC rl nx) l l2)(hS:ny (fun _=>True) (bC rl nx) rl.length m m2):To bb ⟨f,n,Tr.of l,none,[]⟩ (St.of m nx) ⟨f,n,Tr.of l2,none,[]⟩ (St.of m2 nx2):=by subst hnx;exact⟨rl,Ro.of j hT hS,u⟩
theorem Jb.toL rl l2 m2{nx2}(hnx:rl.length=nx2)(j:rl.Nodup)(u:∀o,o<bb->bC rl nx o=o)(hT:kO (fun _=>True) (bC rl nx) l l2)(hS:ny (fun _=>True) (bC rl nx) rl.length m m2)(k:Jb bb P c ⟨f,n,Tr.of l2,none,[]⟩ (St.of m2 nx2) Q):Jb bb P c ⟨f,n,Tr.of l,none,[]⟩ (St.of m nx) Q:= Jd.to (To.ofL rl l2 m2 hnx j u hT hS) k
theorem Bi{p:Nat->Prop}:∀o,o<0->p o:=fun _ h=>absurd h (aBy _)
theorem Qr{rl nx}o(h:o<1):bC (0::rl) nx o=o:=by
 cases o with
 |zero=>rfl
 |succ o=>omega
theorem Qq{rl nx}o(h:o<2):bC (0::1::rl) nx o=o:=by
 match o,h with
 |0,_=>rfl
 |1,_=>rfl
theorem Jd.toL rl l2 m2{nx2}(hnx:rl.length=nx2)(j:rl.Nodup)(hT:kO (fun _=>True) (bC rl nx) l l2)(hS:ny (fun _=>True) (bC rl nx) rl.length m m2)(k:Jd P c ⟨f,n,Tr.of l2,none,[]⟩ (St.of m2 nx2) Q):Jd P c ⟨f,n,Tr.of l,none,[]⟩ (St.of m nx) Q:= Jb.toL rl l2 m2 hnx j Bi hT hS k
theorem Jd.loopI(I:Nat->Fr->St->Prop)y(B:∃fr2 s2,To bb fr s fr2 s2/\I y fr2 s2)(round:∀k fr s,I k fr s->Jb bb P c fr s (gW (fun fr s=>∃j fr2 s2,j<k/\To bb fr s fr2 s2/\I j fr2 s2) Q)):Jb bb P (.loop c) fr s Q:=by
 have key:∀k fr s,I k fr s->Jb bb P (.loop c) fr s Q:=by
  intro k
  induction k using Nat.strongRecOn with
  |_ k ih=>
   intro fr s h;refine Jd.loop (Jd.mono (round k fr s h) ?_);intro ex A s' u;cases ex with
   |normal=>obtain⟨j,fr2,s2,hlt,x,hi⟩:=u;exact Jd.to x (ih j hlt fr2 s2 hi)
   |exit id=>exact u
   |ret=>exact u
 obtain⟨fr2,s2,x,hi⟩:=B;exact Jd.to x (key y fr2 s2 hi)
theorem Jd.loopB{id}(I:Nat->Fr->St->Prop)u(x:∃fr2 s2,To bb fr s fr2 s2/\I u fr2 s2)(round:∀k fr s,I k fr s->∀Q':Ex->Fr->St->Prop,(∀fr s,Q .normal fr s->Q' (.exit id) fr s)->(∀fr s,Q .ret fr s->Q' .ret fr s)->(∀fr s,(∃j fr2 s2,j<k/\To bb fr s fr2 s2/\I j fr2 s2)->Q' .normal fr s)->Jb bb P c fr s Q'):Jb bb P (.block id (.loop c)) fr s Q:=by refine Jd.block (Jd.loopI I u x fun k fr s hi=>?_);exact round k fr s hi _ (fun fr s h=>bW.out h) (fun fr s h=>h) (fun fr s h=>h)
theorem Jd.freezeL o cl{t op}rl l2 m2{nx2}(x:gF m o=some (.cells cl t op))(u:aq cl=true)(hnx:rl.length=nx2)(j:rl.Nodup)(hT:kO (Ks o cl) (bC rl nx) l l2)(hS:ny (Ks o cl) (bC rl nx) rl.length ((o,none)::m) m2)(k:Jd P c ⟨f,n,Tr.of l2,none,[]⟩ (St.of m2 nx2) Q):Jd P c ⟨f,n,Tr.of l,none,[]⟩ (St.of m nx) Q:=by subst hnx;exact Jd.freeze rl (cl:=cl) (t:=t) (op:=op) ((St.of_get nx o m).trans x) u (Ro.of j hT hS) k
end
end
theorem qU:Fa 57 5 [.snil,.snil,.b false,.snil,.snil]/\ul 57 0 0/\ul 57 1 1/\Fm 57 2 2 3/\Fk 57 [(0,1),(1,1),(2,3)] [.snil,.snil,.b false,.snil,.snil]:=⟨Ff,uw,uw,GP,GV Tryz.underlying57⟩
theorem nK:ux 229 .snil/\Ki 229 39 1 [.i .i64 0]/\Kj 229 39 1/\Vt 229 39 1 [.i .i64 0]/\Mo 229 39 1:=⟨uF,VU,KK,XY,Mr⟩
theorem m9:Fa 132 4 [.i .i64 0,.i .i64 0,.i .i64 0,.i .i64 0]/\Z1 132 3 1 4:=⟨Ff,arP⟩
theorem vA:ux 76 .snil/\Ki 76 51 1 [.snil]/\Kj 76 51 1/\Vt 76 51 1 [.snil]/\Mo 76 51 1:=⟨uF,VU,KK,XY,Mr⟩
theorem m7:Fa 134 5 [.i .i64 0,.i .i64 0,.i .i64 0,.i .i64 0,.i .i64 0]/\ul 134 0 0/\Fm 134 1 1 4/\Fk 134 [(0,1),(1,4)] [.i .i64 0,.i .i64 0,.i .i64 0,.i .i64 0,.i .i64 0]:=⟨Ff,uw,GP,GV Tryz.underlying134⟩
theorem lO:Fa 142 15 [.i .i64 0,.snil,.i .i64 0,.i .i64 0,.snil,.i .i64 0,.b false,.snil,.snil,.snil,.mnil,.snil,.b false,.snil,.snil]/\Fm 142 0 0 2/\Fm 142 1 2 8/\ul 142 2 10/\ul 142 3 11/\Fm 142 4 12 3/\Fk 142 [(0,2),(2,8),(10,1),(11,1),(12,3)] [.i .i64 0,.snil,.i .i64 0,.i .i64 0,.snil,.i .i64 0,.b false,.snil,.snil,.snil,.mnil,.snil,.b false,.snil,.snil]:=⟨Ff,GP,GP,uw,uw,GP,GV Tryz.underlying142⟩
theorem ce:ux 140 .mnil/\Xe 140 132 32:=⟨uF,Xw⟩
theorem fx:ux 163 .mnil/\Xe 163 132 31:=⟨uF,Xw⟩
theorem ft:ux 127 .mnil/\Xe 127 134 31:=⟨uF,Xw⟩
theorem m8:Fa 138 6 [.i .i64 0,.i .i64 0,.i .i64 0,.i .i64 0,.i .i64 0,.i .i64 0]/\Fm 138 0 0 5/\ul 138 1 5/\Fk 138 [(0,5),(5,1)] [.i .i64 0,.i .i64 0,.i .i64 0,.i .i64 0,.i .i64 0,.i .i64 0]:=⟨Ff,GP,uw,GV Tryz.underlying138⟩
theorem fu:ux 136 .mnil/\Xe 136 138 31:=⟨uF,Xw⟩
theorem eK:ux 129 .snil/\Ki 129 163 1 [.mnil]/\Kj 129 163 1/\Vt 129 163 1 [.mnil]/\Mo 129 163 1:=⟨uF,VU,KK,XY,Mr⟩
theorem eJ:ux 135 .snil/\Ki 135 136 1 [.mnil]/\Kj 135 136 1/\Vt 135 136 1 [.mnil]/\Mo 135 136 1:=⟨uF,VU,KK,XY,Mr⟩
theorem pM:Mo 29 178 1:=Mr
theorem vB:Mo 51 3 1:=Mr
theorem m5:Mo 25 123 2:=Mr
theorem m6:Mo 32 31 3:=Mr
theorem nL:Mo 22 45 7:=Mr
theorem tG:Mo 148 4 1:=Mr
theorem ij:type_of% @qU/\type_of% @nK/\type_of% @m9/\type_of% @vA/\type_of% @m7/\type_of% @lO/\type_of% @ce/\type_of% @fx/\type_of% @ft/\type_of% @m8/\type_of% @fu/\type_of% @eK/\type_of% @eJ/\type_of% @pM/\type_of% @vB/\type_of% @m5/\type_of% @m6/\type_of% @nL/\type_of% @tG:=⟨qU,nK,m9,vA,m7,lO,ce,fx,ft,m8,fu,eK,eJ,pM,vB,m5,m6,nL,tG⟩
theorem tF:ux 76 .snil/\Ki 76 51 1 [.snil]/\Kj 76 51 1/\Vt 76 51 1 [.snil]/\Mo 76 51 1:=⟨uF,VU,KK,XY,Mr⟩
theorem iT:type_of% @tF:=tF
theorem Cw:True:=trivial
section
theorem BD{p:Prop}(h:p:=by simp only[↓nD,↓nC,nB,Nat.reduceEqDiff,↓reduceIte,Nat.reduceLT,Nat.reduceAdd,iT,Cw,ij,Cc,NE,NO,iO]<;>rfl):p:=h
theorem LL{p:Prop}(h:p:=by simp only[↓nD,↓nC,nB,Nat.reduceEqDiff,↓reduceIte,Nat.reduceLT,Nat.reduceAdd,iT,Cw,ij,Cc,NE,NO,iO];rfl):p:=h
theorem Er{p:Prop}(h:p:=by simp only[↓nD,↓nC,nB,Nat.reduceEqDiff,↓reduceIte,Nat.reduceLT,Nat.reduceAdd,iT,Cw,ij,Cc,NE,NO,iO]):p:=h
theorem Mf(n:Nat):qI (.i .i64 (n:Int))=some n:=rfl
theorem sX l c:zh l c=cond (Nat.ble l c&&Nat.ble c 1000000) (some ()) none:=rfl
theorem ax{a b}(h:a)(k:b):a/\b:=⟨h,k⟩
section
variable {bb:Nat}{P:Program}{X:eC}{E:Ev}{f:FuncId}{n:Nat}{T:Tr AV}{rd:Option Nat}{ms:List Nat}{s:St}{Q:Ex->Fr->St->Prop}{id:Nat}{ops:Array Oper}
theorem rg{A:Prop}(M:Mc P X E)(a:A){b:Code}{T':Tr AV}{s':St}(h2:Jb bb P b ⟨f,n,T',rd,ms⟩ s' Q)(h1:A->∀(K:Tr AV->St->Prop)(gl:List (Option Tmp)),ops.toList.map (·.dst)=gl->K T' s'->kI P X E n gl ops.toList T s K:=by(intro hA K gl hgl hK;simp only[sv]at hgl;subst hgl;simp (maxSteps:=1000000) (disch:=omega) only[↓nD,↓nC,nB,Nat.reduceEqDiff,↓reduceIte,Nat.reduceLT,Nat.reduceAdd,iT,Cw,ij,Cc,NE,NO,iO,Nat.reduceSub,Int.reduceToNat,Int.reduceSub,hA];exact hK)):Jb bb P (.seq (.region id ops false) b) ⟨f,n,T,rd,ms⟩ s Q:=Jd.regS M (h1 a) h2
theorem aN(M:Mc P X E){b:Code}{T':Tr AV}{s':St}(h2:Jb bb P b ⟨f,n,T',rd,ms⟩ s' Q)(h1:∀(K:Tr AV->St->Prop)(gl:List (Option Tmp)),ops.toList.map (·.dst)=gl->K T' s'->kI P X E n gl ops.toList T s K:=by(intro K gl hgl hK;simp only[sv]at hgl;subst hgl;simp (maxSteps:=1000000) (disch:=omega) only[↓nD,↓nC,nB,Nat.reduceEqDiff,↓reduceIte,Nat.reduceLT,Nat.reduceAdd,iT,Cw,ij,Cc,NE,NO,iO,Nat.reduceSub,Int.reduceToNat,Int.reduceSub];exact hK)):Jb bb P (.seq (.region id ops false) b) ⟨f,n,T,rd,ms⟩ s Q:=Jd.regS M h1 h2
theorem rq{A:Prop}(M:Mc P X E)(a:A){T':Tr AV}{s':St}(h2:Q .normal ⟨f,n,T',rd,ms⟩ s')(h1:A->∀(K:Tr AV->St->Prop)(gl:List (Option Tmp)),ops.toList.map (·.dst)=gl->K T' s'->kI P X E n gl ops.toList T s K:=by(intro hA K gl hgl hK;simp only[sv]at hgl;subst hgl;simp (maxSteps:=1000000) (disch:=omega) only[↓nD,↓nC,nB,Nat.reduceEqDiff,↓reduceIte,Nat.reduceLT,Nat.reduceAdd,iT,Cw,ij,Cc,NE,NO,iO,Nat.reduceSub,Int.reduceToNat,Int.reduceSub,hA];exact hK)):Jb bb P (.region id ops false) ⟨f,n,T,rd,ms⟩ s Q:=Jd.regQ M (h1 a) h2
theorem f6(M:Mc P X E){T':Tr AV}{s':St}(h2:Q .normal ⟨f,n,T',rd,ms⟩ s')(h1:∀(K:Tr AV->St->Prop)(gl:List (Option Tmp)),ops.toList.map (·.dst)=gl->K T' s'->kI P X E n gl ops.toList T s K:=by(intro K gl hgl hK;simp only[sv]at hgl;subst hgl;simp (maxSteps:=1000000) (disch:=omega) only[↓nD,↓nC,nB,Nat.reduceEqDiff,↓reduceIte,Nat.reduceLT,Nat.reduceAdd,iT,Cw,ij,Cc,NE,NO,iO,Nat.reduceSub,Int.reduceToNat,Int.reduceSub];exact hK)):Jb bb P (.region id ops false) ⟨f,n,T,rd,ms⟩ s Q:=Jd.regQ M h1 h2
theorem dr{A:Prop}(M:Mc P X E)(ex:List (Nat×Nat))(a:A){b:Code}{T':Tr AV}{s':St}(y:Jb bb P b ⟨f,n,T',rd,ms⟩ s' Q)
  (u:(match gA ops.toList with|some M=>ex.all (fun p=>match M.get p.1 with|some m=>m.testBit p.2|none=>false)|none=>false)=true:=by kernel_rfl)
  (x:A->∀(K:Tr AV->St->Prop)(gl:List (Option Tmp)),ops.toList.map (·.dst)=gl->K T' s'->yc P X E n gl ex 0 ops.toList T s [] [] K:=by(intro B K gl j hK;simp only[sv]at j;subst j;simp (maxSteps:=1000000) (disch:=omega) only[↓nD,↓nC,nB,Nat.reduceEqDiff,↓reduceIte,Nat.reduceLT,Nat.reduceAdd,iT,Cw,ij,Cc,NE,NO,iO,Nat.reduceSub,Int.reduceToNat,Int.reduceSub,B];exact hK)):Jb bb P (.seq (.region id ops true) b) ⟨f,n,T,rd,ms⟩ s Q:=Jd.drwS M ex u (x a) y
theorem cT{l a b x}(j:LF l x=some (.b true))(h:Jb bb P a ⟨f,n,Tr.of l,rd,ms⟩ s Q):Jb bb P (.cond x a b) ⟨f,n,Tr.of l,rd,ms⟩ s Q:=Jd.cnd j (fun _=>h) (fun e=>by cases e)
theorem cF{l a b x}(j:LF l x=some (.b false))(h:Jb bb P b ⟨f,n,Tr.of l,rd,ms⟩ s Q):Jb bb P (.cond x a b) ⟨f,n,Tr.of l,rd,ms⟩ s Q:=Jd.cnd j (fun e=>by cases e) (fun _=>h)
theorem GU{l a x K}(j:LF l x=some (.b false))(h:K ⟨f,n,Tr.of l,rd,ms⟩ s):Jb bb P (.cond x a .skip) ⟨f,n,Tr.of l,rd,ms⟩ s (gW K Q):=cF j (Jd.skip h)
end
abbrev Oc:=List (FuncId×(List AV->St->Option (AV×St)))
theorem yW{P}{L:Oc}{f g}(h:pick f L=some g)a s:(Ev.at_ P (fK L) 1).call f a s=g a s:=by have e:(Ev.at_ P (fK L) 1).call=pY P (fK L) (Ev.at_ P (fK L) 0):=rfl;rw[e];unfold pY;rw[show(fK L).orc f=some g from h]
def yb:Oc->Prop
 | []=>True
 | [p]=>ag Tryz.prog p.1 p.2
 |p::q::l=>ag Tryz.prog p.1 p.2/\yb (q::l)
def xu:Oc->Bool
 | []=>true
 |p::l=>(l.all fun q=>!Nat.beq q.1 p.1)&&xu l
theorem yb.all:∀{L:Oc},yb L->∀p∈L,ag Tryz.prog p.1 p.2
 | [p],h,q,hq=>by rw[aAc.1 hq];exact h
 |p::q::l,h,r,j=>by
  rcases Is.1 j with rfl|j
  ·exact h.1
  exact yb.all h.2 r j
theorem wv:∀{L:Oc},xu L=true->∀p∈L,pick p.1 L=some p.2
 |p::l,h,q,j=>by
  simp only[xu,gE,Of]at h;unfold pick;rcases Is.1 j with rfl|j
  ·rw[gN];rfl
  have:=h.1 q j;simp only[aAA]at this;rw[this];exact wv h.2 q j
theorem SL L(j:yb L)(hd:xu L=true):∃E,Mc Tryz.prog (fK L) E/\∀p∈L,∀a s,E.call p.1 a s=p.2 a s:= ⟨_,DF l0 oc j.all,fun p hp=>yW (wv hd p hp)⟩
abbrev Ca:=List AV->St->Option (AV×St)
abbrev Cl(E:Ev)(f:FuncId)(g:Ca):Prop:=∀a s,E.call f a s=g a s
theorem ur{a}(j:Ca)(u:yb [(a,j)])(hd:xu [(a,j)]=true):∃E,Mc Tryz.prog (fK [(a,j)]) E/\Cl E a j:=by obtain⟨E,M,h⟩:=SL [(a,j)] (by exact u) hd;exact⟨E,M,h _ (.head _)⟩
theorem Zx{a b}(j u:Ca)(x:yb [(a,j),(b,u)])(hd:xu [(a,j),(b,u)]=true):∃E,Mc Tryz.prog (fK [(a,j),(b,u)]) E/\Cl E a j/\Cl E b u:=by obtain⟨E,M,h⟩:=SL [(a,j),(b,u)] (by exact x) hd;exact⟨E,M,h _ (.head _),h _ (.tail _ (.head _))⟩
theorem SJ{a b c}(j u x:Ca)(y:yb [(a,j),(b,u),(c,x)])(hd:xu [(a,j),(b,u),(c,x)]=true):∃E,Mc Tryz.prog (fK [(a,j),(b,u),(c,x)]) E/\Cl E a j/\Cl E b u/\Cl E c x:=by obtain⟨E,M,h⟩:=SL [(a,j),(b,u),(c,x)] (by exact y) hd;exact⟨E,M,h _ (.head _),h _ (.tail _ (.head _)),h _ (.tail _ (.tail _ (.head _)))⟩
theorem Wn{a b c d}(j u x y:Ca)(A:yb [(a,j),(b,u),(c,x),(d,y)])(hd:xu [(a,j),(b,u),(c,x),(d,y)]=true):∃E,Mc Tryz.prog (fK [(a,j),(b,u),(c,x),(d,y)]) E/\Cl E a j/\Cl E b u/\Cl E c x/\Cl E d y:=by obtain⟨E,M,h⟩:=SL [(a,j),(b,u),(c,x),(d,y)] (by exact A) hd;exact⟨E,M,h _ (.head _),h _ (.tail _ (.head _)),h _ (.tail _ (.tail _ (.head _))),h _ (.tail _ (.tail _ (.tail _ (.head _))))⟩
theorem SI{a b c d e}(j u x y A:Ca)(B:yb [(a,j),(b,u),(c,x),(d,y),(e,A)])(hd:xu [(a,j),(b,u),(c,x),(d,y),(e,A)]=true):∃E,Mc Tryz.prog (fK [(a,j),(b,u),(c,x),(d,y),(e,A)]) E/\Cl E a j/\Cl E b u/\Cl E c x/\Cl E d y/\Cl E e A:=by obtain⟨E,M,h⟩:=SL [(a,j),(b,u),(c,x),(d,y),(e,A)] (by exact B) hd;exact⟨E,M,h _ (.head _),h _ (.tail _ (.head _)),h _ (.tail _ (.tail _ (.head _))),h _ (.tail _ (.tail _ (.tail _ (.head _)))),h _ (.tail _ (.tail _ (.tail _ (.tail _ (.head _)))))⟩
theorem uq:∃E,Mc Tryz.prog (fK []) E:=⟨_,DF l0 oc (fun p hp=>by cases hp)⟩
end
section
def Mp(l:List (Nat×AV)):List (Nat×AV)->Prop
 | []=>True
 |p::l2=>gG l p.1=some p.2/\Mp l l2
theorem Mp.get{l}:∀{l2:List (Nat×AV)},Mp l l2->∀{t:Nat}{x:AV},gG l2 t=some x->gG l t=some x
 | [],_,t,x,e=>by simp[gG]at e
 |p::l2,h,t,x,e=>by
  rw[show gG (p::l2) t=_ from i5 p.1 p.2 l2 t]at e;split at e
  ·next j=>subst j;cases e;exact h.1
  exact h.2.get e
section
variable {bb:Nat}{P:Program}{c:Code}{f:FuncId}{n:Nat}{rd:Option Nat}{ms:List Nat}{s:St}{Q:Ex->Fr->St->Prop}
theorem Jd.sub{l}l2(h:Mp l l2)(k:Jb bb P c ⟨f,n,Tr.of l2,rd,ms⟩ s Q):Jb bb P c ⟨f,n,Tr.of l,rd,ms⟩ s Q:= Jd.swap (fr2:=⟨f,n,Tr.of l2,rd,ms⟩) (s2:=s) (fun μ _ _ w j=>⟨μ,⟨j.rel,⟨j.tr.1,fun t x e=>j.tr.2 t x (by rw[Tr.of_get]at e⊢;exact h.get e)⟩,j.dm,j.ro,j.fresh⟩,Fp.refl μ s w⟩) k
theorem Mp.bare{l:List (Nat×AV)}:∀{l2:List (Nat×AV)},(l2.all fun p=>Go.Proofs.YtfoceannfdbinaaGreat.bare p.2)=true->∀{t:Nat}{x:AV},gG l2 t=some x->Go.Proofs.YtfoceannfdbinaaGreat.bare x=true
 | [],_,t,x,e=>by simp[gG]at e
 |p::l2,h,t,x,e=>by
  rw[aAR,gE]at h;rw[show gG (p::l2) t=_ from i5 p.1 p.2 l2 t]at e;split at e
  ·cases e;exact h.1
  exact Mp.bare (l:=l) h.2 e
end
end
section
def Fj(o z n:Nat):AV:=if n=0 then .snil else .sl o 0 n (bI+z)
def PA(e:TypeId)(n:Nat)(c:List AV):Option AO:=if n=0 then none else some (.cells c e true)
theorem Yq o z n:Fj o z (n+1)=.sl o 0 (n+1) (bI+z):=rfl
theorem Vl e n c:PA e (n+1) c=some (.cells c e true):=rfl
theorem WP{P t e z zv}(hu:P.underlying t=some (.slice e))(B:bX P e=some zv)(y:yd P e zv z=true){n c l m nx o o2 t2 op2}(hl:c.length=n*z)(hm:n*z+z<=1000000)(C:gF m o=PA e n c)(x:gF m o2=some (.cells l t2 op2))(j:l.length=z)(u:n=0->St.of ((o,none)::m) nx=St.of m nx): gc P t t (Fj o z n) (.sl o2 0 1 1) (St.of m nx)=some (.sl nx 0 (n+1) (bI+z),St.of ((nx,some (.cells (c++l) e true))::(o,none)::m) (nx+1)):=by
 have A:Up z ((St.of m nx).h.get o2)=some l:=by rw[St.of_get,x];simp only[Up,l6 j,CC,j,gN,EQ]
 cases n with
 |zero=>rw[show Fj o z 0=.snil from rfl,E0 hu hu B y,A];have e0:c=[]:=oF (by omega);subst e0;show some (AV.sl nx 0 1 (bI+z),(St.of m nx).new _)=_;rw[<-u rfl];rfl
 |succ n=>rw[Yq];refine Ka hu hu B y o o2 (n+1) _ rfl (St.of m nx) ?_;rw[A,CC,St.of_get,C,Vl,WR hl hm];rfl
section
variable {bb:Nat}{P:Program}{c:Code}{f:FuncId}{n:Nat}{Q:Ex->Fr->St->Prop}
end
end
section
def jV(H:Mu->Prop)(ρ:Nat->Nat)(l:List (Nat×Option AO))(p:Nat×Option AO):Prop:=∀x2,p.2=some x2->∃x,gF l (ρ p.1)=some x/\bA H ρ x x2
def oM(H:Mu->Prop)(ρ:Nat->Nat)(nx2:Nat)(l:List (Nat×Option AO)):List (Nat×Option AO)->Prop
 | []=>True
 |p::l2=>(p.1<nx2/\jV H ρ l p)/\oM H ρ nx2 l l2
section
variable {H:Mu->Prop}{ρ:Nat->Nat}{nx2:Nat}{l:List (Nat×Option AO)}
theorem oM.at_:∀{l2:List (Nat×Option AO)},oM H ρ nx2 l l2->∀k j,gF l2 k=some j->k<nx2/\∃x,gF l (ρ k)=some x/\bA H ρ x j
 | [],_,t,j,e=>by cases e
 |p::l2,h,t,j,e=>by
  rw[show gF (p::l2) t=_ from hY p.1 p.2 l2 t]at e;split at e
  ·next u=>subst u;exact⟨h.1.1,h.1.2 j e⟩
  exact oM.at_ h.2 t j e
theorem jV.some_{k x j}(u:gF l (ρ k)=some x)(A:bA H ρ x j):jV H ρ l (k,some j):=fun y e=>by cases e;exact⟨x,u,A⟩
theorem jV.none_{k}:jV H ρ l (k,none):=fun y e=>by cases e
theorem jV.gl{k t n c}(u:gF l (ρ k)=PA t n c)(x:aq c=true):jV H ρ l (k,PA t n c):=fun y e=>by
 have j:PA t n c=some y:=e;rw[j]at u;refine⟨y,u,?_⟩;unfold PA at j;split at j
 ·cases j
 cases j;exact bA.same x
end
section
variable {P:Program}{c:Code}{f:FuncId}{n nx:Nat}{l l2:List (Nat×AV)}{m:List (Nat×Option AO)}{Q:Ex->Fr->St->Prop}
theorem To.of2 rl l2 m2{nx2}(hnx:rl.length=nx2)(j:rl.Nodup)(hT:kO (fun _=>True) (bC rl nx) l l2)(hS:oM (fun _=>True) (bC rl nx) nx2 m m2):To 0 ⟨f,n,Tr.of l,none,[]⟩ (St.of m nx) ⟨f,n,Tr.of l2,none,[]⟩ (St.of m2 nx2):=by subst hnx;exact⟨rl,⟨rfl,rfl,rfl,rfl,fun t u e=>by rw[Tr.of_get]at e;rw[Tr.of_get];exact hT.at_ t u e,fun k u e=>by rw[St.of_get]at e;rw[St.of_nx,St.of_get];exact hS.at_ k u e,j⟩,Bi⟩
theorem Jd.toL2 rl l2 m2{nx2}(hnx:rl.length=nx2)(j:rl.Nodup)(hT:kO (fun _=>True) (bC rl nx) l l2)(hS:oM (fun _=>True) (bC rl nx) nx2 m m2)(k:Jd P c ⟨f,n,Tr.of l2,none,[]⟩ (St.of m2 nx2) Q):Jd P c ⟨f,n,Tr.of l,none,[]⟩ (St.of m nx) Q:= Jd.to (To.of2 rl l2 m2 hnx j hT hS) k
end
end
section
def Gg(μ:Mu)(s:St)(g:Nat):Prop:=∃o x p,s.h.get o=some x/\μ o=some (.at_ p)/\p.blk=g
def VP(μ:Mu)(s:St)(g:Nat):Prop:=Gg μ s g∨∃i v,μ.fz g i=some v
structure US(w w':World):Prop where
 os:w'.os=w.os
 tape:w'.tape=w.tape
 output:w'.output=w.output
 size:w.heap.size<=w'.heap.size
theorem US.refl w:US w w:=⟨rfl,rfl,rfl,cC _⟩
theorem US.trans{a b c}(h:US a b)(k:US b c):US a c:=⟨k.os.trans h.os,k.tape.trans h.tape,k.output.trans h.output,EM h.size k.size⟩
structure Kp(Y:Nat->Prop)(w w':World):Prop where
 amb:US w w'
 same:∀g,g<w.heap.size->Y g->w'.heap[g]?=w.heap[g]?
section
variable {μ μ':Mu}{s s':St}{w w':World}
theorem KZ(h:bU μ s w){g}(y:Gg μ s g):¬wZ w g:=by obtain⟨o,x,p,u,j,rfl⟩:=y;exact(h.obj o x u (by rw[j];simp)).nodig j
theorem Fp.amb{bb}(f:Fp bb μ s w μ' s' w'):US w w':=⟨f.os,f.tape,f.output,f.size⟩
theorem Fp.ownG{bb}(f:Fp bb μ s w μ' s' w'):∀g,Gg μ' s' g->Gg μ s g∨w.heap.size<=g:=by
 rintro g ⟨o,x,p,A,B,rfl⟩;rcases f.own o x p A B with h|⟨C,N,J,j,u,y⟩
 ·exact .inr h
 exact .inl ⟨C,N,J,j,u,y⟩
theorem Fp.terG{bb}(f:Fp bb μ s w μ' s' w')(B:bU μ' s' w'):∀g,VP μ' s' g->VP μ s g∨w.heap.size<=g∨wZ w' g:=by
 rintro g (h|⟨i,v,j⟩)
 ·rcases f.ownG g h with h|h
  ·exact .inl (.inl h)
  exact .inr (.inl h)
 rcases f.fz g i v j with h|h|⟨o,x,p,u,y,A⟩|h
 ·exact .inl (.inr ⟨i,v,h⟩)
 ·exact .inr (.inl h)
 ·exact .inl (.inl ⟨o,x,p,u,y,A⟩)
 exact .inr (.inr ⟨i,v,eB (B.fz g i v j).2.1 (li h),h⟩)
theorem Fp.blkG{bb}(f:Fp bb μ s w μ' s' w'):∀g,g<w.heap.size->¬Gg μ s g->w'.heap[g]?=w.heap[g]?:=fun g j hn=>f.blk g j fun o x p h1 h2 h3=>hn ⟨o,x,p,h1,h2,h3⟩
end
structure Gs where
 inv:Option Nat->(Nat->Prop)->(Nat->Prop)->World->Prop
 stable:∀{i:Option Nat}{Z Y Z' Y':Nat->Prop}{w w':World},inv i Z Y w->(∀g,Z' g->Z g∨w.heap.size<=g)->(∀g,Y' g->Y g∨w.heap.size<=g∨wZ w' g)->(∀g,Z' g->¬wZ w' g)->US w w'->(∀g,g<w.heap.size->¬Z g->w'.heap[g]?=w.heap[g]?)->inv i Z' Y' w'
def jmp:Ex->Option Code
 | .normal=>none
 | .ret=>some .ret
 | .exit id=>some (.exit id)
end
section
theorem Kp.trans{Y a b c}(h:Kp Y a b)(k:Kp Y b c):Kp Y a c:=⟨h.amb.trans k.amb,fun g j hy=>(k.same g (TK j h.amb.size) hy).trans (h.same g j hy)⟩
section
variable {bb:Nat}{P:Program}{gf:FuncId}{caps:List AV}{V:List (List AV)}{asn body:Code}{ps:Array Tmp}{f nt:Nat}{I:Nat->Tr AV->St->Prop}{L:Ex->Tr AV->St->Prop}
end
section
variable {P:Program}{c:Code}{f:FuncId}{n:Nat}{l l2:List (Nat×AV)}{m m2:List (Nat×Option AO)}{nx:Nat}{Q:Ex->Fr->St->Prop}
end
end
section
structure YY(G:Gs)(lb:Nat)(ψ0:Nat->Nat->Option Value)(sz0:Nat)(i:Option Nat)(μ:Mu)(s:St)(w:World):Prop where
 yl:∃p,μ 0=some (.at_ p)/\p.blk=lb
 inv:G.inv i (Gg μ s) (VP μ s) w
 fz0:∀b j v,μ.fz b j=some v->ψ0 b j=some v∨sz0<=b∨ko v=false
 own0:∀g,Gg μ s g->sz0<=g
 size:sz0<=w.heap.size
theorem YY.step{G lb ψ0 sz0 i μ μ' s s' w w'}(h:YY G lb ψ0 sz0 i μ s w)(f:Fp 1 μ s w μ' s' w')(y:bU μ' s' w'):YY G lb ψ0 sz0 i μ' s' w':=by
 obtain⟨⟨p,A,B⟩,hi,hf,x,hs⟩:=h;refine⟨⟨p,f.base 0 _ (by omega) A,B⟩,G.stable hi f.ownG (f.terG y) (fun g u=>KZ y u) f.amb f.blkG,fun b j v hv=>?_,fun g u=>?_,EM hs f.size⟩
 ·rcases f.fz b j v hv with h|h|h|h
  ·exact hf b j v h
  ·exact .inr (.inl (EM hs h))
  ·exact .inr (.inl (x b h))
  exact .inr (.inr h)
 rcases f.ownG g u with h|h
 ·exact x g h
 exact EM hs h
def Jg(G:Gs)(lb:Nat)(ψ0:Nat->Nat->Option Value)(sz0:Nat)(P:Program)(c:Code)(fr:Fr)(s:St)(i:Option Nat)(Q:Ex->Fr->St->Option Nat->Prop):Prop:=
 ∀(n:Nat)(μ:Mu)(w:World)(a:Act)(ro:Option Nat)(R:Exit->Act->World->Prop),At μ fr s ro a w->YY G lb ψ0 sz0 i μ s w->
  (∀ex fr' s' i' μ' w' a',Q ex fr' s' i'->At μ' fr' s' ro a' w'->YY G lb ψ0 sz0 i' μ' s' w'->R (pI ex) a' w')->c.wpIn (Fw ro) n P R a w
def Xd(K:Fr->St->Option Nat->Prop)(Q:Ex->Fr->St->Option Nat->Prop):Ex->Fr->St->Option Nat->Prop
 | .normal,fr,s,i=>K fr s i
 | .exit id,fr,s,i=>Q (.exit id) fr s i
 | .ret,fr,s,i=>Q .ret fr s i
def UP(id:Nat)(Q:Ex->Fr->St->Option Nat->Prop):Ex->Fr->St->Option Nat->Prop
 | .normal,fr,s,i=>Q .normal fr s i
 | .exit id',fr,s,i=>if id'=id then Q .normal fr s i else Q (.exit id') fr s i
 | .ret,fr,s,i=>Q .ret fr s i
section
variable {G:Gs}{lb:Nat}{ψ0:Nat->Nat->Option Value}{sz0:Nat}{P:Program}{c a b:Code}{fr:Fr}{s:St}{i:Option Nat}{Q:Ex->Fr->St->Option Nat->Prop}
theorem Jg.lift{Q'}(h:Jb 1 P c fr s Q')(C:∀ex fr s,Q' ex fr s->Q ex fr s i):Jg G lb ψ0 sz0 P c fr s i Q:=fun n μ w a ro R y A B=>
 h n μ w a ro R y fun ex u s' μ' w' x q j hf=>B ex u s' i μ' w' x (C _ _ _ q) j (A.step hf j.rel)
theorem Jg.mono{Q'}(h:Jg G lb ψ0 sz0 P c fr s i Q')(J:∀ex fr s i,Q' ex fr s i->Q ex fr s i):Jg G lb ψ0 sz0 P c fr s i Q:=fun n μ w a ro R A B C=>
 h n μ w a ro R A B fun ex j s' N μ' w' y q u x=>C ex j s' N μ' w' y (J _ _ _ _ q) u x
theorem Jg.seq(h:Jg G lb ψ0 sz0 P a fr s i (Xd (fun fr s i=>Jg G lb ψ0 sz0 P b fr s i Q) Q)):Jg G lb ψ0 sz0 P (.seq a b) fr s i Q:=by
 intro n μ w x ro R J N A;refine wpIn_seq (h n μ w x ro _ J N ?_);intro ex fr1 s1 U μ1 C y B j u;cases ex with
 |normal=>exact B n μ1 C y ro R j u A
 |exit id=>exact A _ _ _ _ μ1 C y B j u
 |ret=>exact A _ _ _ _ μ1 C y B j u
theorem Jg.cond{x t}(N:js fr.T x=some (.b t))(C:t=true->Jg G lb ψ0 sz0 P a fr s i Q)(J:t=false->Jg G lb ψ0 sz0 P b fr s i Q):Jg G lb ψ0 sz0 P (.cond x a b) fr s i Q:=by
 intro n μ w y ro R j u A;have B:=mC j.tr x _ N;cases t with
 |true=>exact aEp (by simpa only[VR]using B) (C rfl n μ w y ro R j u A)
 |false=>exact aEl (by simpa only[VR]using B) (J rfl n μ w y ro R j u A)
theorem Jg.skip(h:Q .normal fr s i):Jg G lb ψ0 sz0 P .skip fr s i Q:=fun _ μ w a _ _ j u x=>wpIn_skip (x _ _ _ _ μ w a h j u)
theorem Jg.ret(h:Q .ret fr s i):Jg G lb ψ0 sz0 P .ret fr s i Q:=fun _ μ w a _ _ j u x=>wpIn_ret (x .ret _ _ _ μ w a h j u)
theorem Jg.block{id}(h:Jg G lb ψ0 sz0 P c fr s i (UP id Q)):Jg G lb ψ0 sz0 P (.block id c) fr s i Q:=by
 intro n μ w x ro R J N B;refine aEg (h n μ w x ro _ J N ?_);intro ex fr1 s1 U μ1 C A y j u;cases ex with
 |normal=>exact B _ _ _ _ μ1 C A y j u
 |exit id'=>
  simp only[UP]at y;split at y
  ·next e=>subst e;simp only[pI,Exit.inBlock,aBh];exact B _ _ _ _ μ1 C A y j u
  next e=>simp only[pI,Exit.inBlock,iF e];exact B _ _ _ _ μ1 C A y j u
 |ret=>exact B _ _ _ _ μ1 C A y j u
theorem Jg.loop(h:Jg G lb ψ0 sz0 P c fr s i (Xd (fun fr s i=>Jg G lb ψ0 sz0 P (.loop c) fr s i Q) Q)):Jg G lb ψ0 sz0 P (.loop c) fr s i Q:=by
 intro n μ w x ro R Z hI J;refine wpIn_mono (kQ (Q:=fun e a w=>(∃x,e=pI x)/\R e a w) (fun _ _ _ h=>h.1) (h n μ w x ro _ Z hI ?_)) fun e a w h=>h.2;intro ex fr1 s1 i1 μ1 U y N j u;cases ex with
 |normal=>exact N n μ1 U y ro _ j u fun ex A s' i' μ' w' Y q B C=>⟨⟨_,rfl⟩,J ex A s' i' μ' w' Y q B C⟩
 |exit id=>exact⟨⟨_,rfl⟩,J _ _ _ _ μ1 U y N j u⟩
 |ret=>exact⟨⟨_,rfl⟩,J _ _ _ _ μ1 U y N j u⟩
theorem Jg.to{fr2 s2}(h:To 1 fr s fr2 s2)(k:Jg G lb ψ0 sz0 P c fr2 s2 i Q):Jg G lb ψ0 sz0 P c fr s i Q:=by obtain⟨rl,h,C⟩:=h;intro n μ w x ro R y A B;obtain⟨j,u⟩:=h.at_ C y trivial;exact k n _ w x ro R j (A.step u j.rel) B
theorem Jg.loopB{id}(I:Nat->Fr->St->Option Nat->Prop)x(y:∃fr2 s2,To 1 fr s fr2 s2/\I x fr2 s2 i)(round:∀k fr s i,I k fr s i->∀Q':Ex->Fr->St->Option Nat->Prop,(∀fr s i,Q .normal fr s i->Q' (.exit id) fr s i)->(∀fr s i,Q .ret fr s i->Q' .ret fr s i)->(∀fr s i,(∃j fr2 s2,j<k/\To 1 fr s fr2 s2/\I j fr2 s2 i)->Q' .normal fr s i)->Jg G lb ψ0 sz0 P c fr s i Q'):Jg G lb ψ0 sz0 P (.block id (.loop c)) fr s i Q:=by
 refine Jg.block ?_;have key:∀k fr s i,I k fr s i->Jg G lb ψ0 sz0 P (.loop c) fr s i (UP id Q):=by
  intro k
  induction k using Nat.strongRecOn with
  |_ k ih=>
   intro fr s i h;refine Jg.loop (round k fr s i h _ (fun fr s i h=>?_) (fun fr s i h=>?_) (fun fr s i h=>?_))
   ·simp only[Xd,UP,aBh];exact h
   ·exact h
   obtain⟨j,fr2,s2,hlt,u,hi⟩:=h;exact Jg.to u (ih j hlt fr2 s2 i hi)
 obtain⟨fr2,s2,u,hi⟩:=y;exact Jg.to u (key x fr2 s2 i hi)
end
end
section
section
variable {P:Program}{X:eC}{E:Ev}
theorem uC(hl:laidOutB P=true)(S:dJ P E)(Z:kG P X){ops nt ro n Q rest gl}(x:ops.toList.map (·.dst)=gl):
  ∀(os:List Oper)(k:Nat){μ:Mu}{s:St}{w:World}{a:Act}{T:Tr AV}{K:Tr AV->St->Prop},(∀j o,os[j]?=some o->ops[k+j]?=some o)->kI P X E nt gl os T s K->bU μ s w->TR μ nt T a.tmps->(∀o,s.nx<=o->μ o=none)->
  (∀T' s' μ' w' y,K T' s'->bU μ' s' w'->fo μ s w μ' s' w'->TR μ' nt T' y.tmps->(∀o,s'.nx<=o->μ' o=none)->y.defers=a.defers->wpOpsIn (Fw ro) n P ops Q rest y w')->wpOpsIn (Fw ro) n P ops Q (List.range' k os.length++rest) a w
 | [],k,μ,s,w,a,T,K,_,h,hR,hT,hF,hQ=>hQ T s μ w a h hR (fo.refl μ s w) hT hF rfl
 |o::os,k,μ,s,w,a,T,K,ho,h,hR,hT,hF,hQ=>by
  have ad:ops[k]?=some o:=by simpa using ho 0 o rfl
  have C:∀j N,os[j]?=some N->ops[k+1+j]?=some N:=fun j N h=>by
   have:=ho (j+1) N (by simpa using h)
   rwa [show k+(j+1)=k+1+j by omega]at this
  simp only[On,aEc,aAy,wpOpsIn,ad];simp only[kI]at h;split at h
  ·next J=>
   rw[<-x,<-nH]at J;rw[oR (qN hT J)];unfold dB at h;split at h
   ·next v s1 al=>
    obtain⟨T1,u,Y⟩:=jX h;refine IZ hl S Z hR hT al (fun o1 e1 e2=>hF o1 e1) ?_;intro μ1 w1 v' r1 t1 hv;refine uC hl S Z x os (k+1) C Y r1 (AZ (hT.mono t1.sub) hv u) (fun o1 e1=>?_) ?_
    ·cases hmu:μ1 o1 with
     |none=>rfl
     |some lc=>exfalso;have hn:=t1.nx;have:=t1.dom o1 (hF o1 (by omega)) (by rw[hmu];simp);omega
    intro T' s' μ' w' y hk r' t' B U A;exact hQ T' s' μ' w' y hk r' (t1.trans t') B U (by rw[A,gP])
   exact h.elim
  ·next J=>
   rw[<-x,<-nH]at J;rw[iF (by rw[qN hT J];simp)];obtain⟨T1,u,Y⟩:=jX h;refine⟨fun _ _=>trivial,?_⟩;refine uC hl S Z x os (k+1) C Y hR (AZ hT qQ u) hF ?_;intro T' s' μ' w' y hk r' t' B U A;exact hQ T' s' μ' w' y hk r' t' B U (by rw[A,gP])
  exact h.elim
section
variable {G:Gs}{lb:Nat}{ψ0:Nat->Nat->Option Value}{sz0:Nat}{f:FuncId}{n:Nat}{T T':Tr AV}{s s':St}{i:Option Nat}{Q:Ex->Fr->St->Option Nat->Prop}{id:Nat}{ops:Array Oper}
theorem Jg.regQ(M:Mc P X E)(j:∀(K:Tr AV->St->Prop)(gl:List (Option Tmp)),ops.toList.map (·.dst)=gl->K T' s'->kI P X E n gl ops.toList T s K)(u:Q .normal ⟨f,n,T',none,[]⟩ s' i):Jg G lb ψ0 sz0 P (.region id ops false) ⟨f,n,T,none,[]⟩ s i Q:= Jg.lift (Q':=fun ex fr s1=>ex=.normal/\fr=⟨f,n,T',none,[]⟩/\s1=s') (Jd.regQ M j ⟨rfl,rfl,rfl⟩) (fun ex fr s ⟨h,k,l⟩=>by subst h;subst k;subst l;exact u)
theorem Jg.regS(M:Mc P X E){b}(j:∀(K:Tr AV->St->Prop)(gl:List (Option Tmp)),ops.toList.map (·.dst)=gl->K T' s'->kI P X E n gl ops.toList T s K)(u:Jg G lb ψ0 sz0 P b ⟨f,n,T',none,[]⟩ s' i Q):Jg G lb ψ0 sz0 P (.seq (.region id ops false) b) ⟨f,n,T,none,[]⟩ s i Q:= Jg.seq (Jg.regQ M j u)
theorem Jg.cnd{l a b x t}(y:LF l x=some (.b t))(j:t=true->Jg G lb ψ0 sz0 P a ⟨f,n,Tr.of l,none,[]⟩ s i Q)(u:t=false->Jg G lb ψ0 sz0 P b ⟨f,n,Tr.of l,none,[]⟩ s i Q):Jg G lb ψ0 sz0 P (.cond x a b) ⟨f,n,Tr.of l,none,[]⟩ s i Q:= Jg.cond ((Dt l x).trans y) j u
end
end
end
section
theorem sA{μ}:∀{l:List AV}{m:List Value},ap μ l m->∀i,ap μ (l.eraseIdx i) (m.eraseIdx i)
 | [],_,h,i=>by simp only[ap]at h;subst h;exact ap.nil_
 |x::l,_,h,i=>by
  simp only[ap]at h;obtain⟨y,A,rfl,u,j⟩:=h;cases i with
  |zero=>exact j
  |succ i=>exact ap.cons u (sA j i)
theorem xq:∀{l:List MapEntry}{i:Nat}{e:MapEntry},(l.map (·.born)).Nodup->l[i]?=some e->l.eraseIdx i=l.filter fun x=>!(x.born == e.born)
 | [],_,_,_,h=>by simp at h
 |x::l,0,e,hn,h=>by simp only[aAb,iD]at h;subst h;simp only[OF,aBx]at hn;rw[List.eraseIdx_cons_zero,aCs (by simp),List.filter_eq_self.2];intro y hy;have:y.born≠x.born:=fun e=>hn.1 (Ac.2 ⟨y,hy,e⟩);simpa using this
 |x::l,i+1,e,hn,h=>by simp only[Em]at h;simp only[OF,aBx]at hn;have:x.born≠e.born:=fun j=>hn.1 (Ac.2 ⟨e,eQ h,j.symm⟩);rw[aDf,aCt (by simpa using this),xq hn.2 h]
section
variable {P:Program}{μ:Mu}{s:St}{w:World}
theorem Lg(h:bU μ s w){o al A vs p}(ho:s.h.get o=some (.walk al A vs))(hm:μ o=some (.at_ p))ty:p.base=0 /\ ((A=[]/\vs=[]/\(Instr.next (.pointer (some ⟨p.blk,0,none⟩)) false ty).run P w=.ok (.tuple #[.bool false]) w)∨∃i k v kv vv w',A[i]?=some k/\vs[i]?=some v/\(Instr.next (.pointer (some ⟨p.blk,0,none⟩)) false ty).run P w=.ok (.tuple #[.bool true,kv,vv]) w'/\VR μ k kv/\VR μ v vv /\ bU μ (s.set o (.walk [k,v] (A.eraseIdx i) (vs.eraseIdx i))) w'/\fo μ s w μ (s.set o (.walk [k,v] (A.eraseIdx i) (vs.eraseIdx i))) w'):=by
 have Y:=h.obj o _ ho (by rw[hm];simp);simp only[OR]at Y;obtain⟨p',b,l,c,B,l',h1,h0,h2,h3,h4,h5,h6,h7,h8,h9⟩:=Y;rw[hm]at h1;cases h1;refine⟨h0,?_⟩;have hb:=jZ (h.fz _ _ _ h3).2.1;have j:(leftOf l.toArray B.toArray).toList=l.filter fun e=>!B.contains e.born:=by simp[leftOf]
 rcases run_next_at (P:=P) w ty p.blk b c c B.toArray l.toArray c h2 hb (fun x hx=>h5 x (by simpa using hx)) (cC _)with⟨g0,u⟩|⟨e,he,w1,J,u⟩
 ·have hn:l'=[]:=by
   have e1:=h6.length_eq;have e2:(leftOf l.toArray B.toArray).toList.length=0:=by simpa using g0
   rw[j]at e2;exact oF (by omega)
  subst hn;refine .inl ⟨?_,?_,u⟩
  ·exact oF (by have:=h7.length;simpa using this)
  exact oF (by have:=h8.length;simpa using this)
 rw[j]at he;have U:=h6.mem_iff.2 he;obtain⟨i,hi⟩:=aAu.1 U;have a1:=(dO.1 hi).1;have hk:=h7.length;have hv:=h8.length;rw[RW]at hk hv;obtain⟨k,ek⟩:∃k,A[i]?=some k:=⟨_,bY (by omega)⟩;obtain⟨v,ev⟩:∃v,vs[i]?=some v:=⟨_,bY (by omega)⟩;have Z:VR μ.blind k e.key:=by obtain⟨y,N,g2⟩:=h7.get ek;rw[mT,hi]at N;cases N;exact g2
 have ad:VR μ.blind v e.val:=by obtain⟨y,N,g2⟩:=h8.get ev;rw[mT,hi]at N;cases N;exact g2
 have an:e∈l:=(aAC.1 he).1;have am:bU μ s w1:=by rcases J with rfl|rfl;exact h;exact h.drew
 have C:w1.heap=w.heap:=by rcases J with rfl|rfl<;>rfl
 have a0:∀w':World,w'.heap[p.blk]?=some (.mapIter (some b) c (B++[e.born]).toArray c)->OR μ w' o (.walk [k,v] (A.eraseIdx i) (vs.eraseIdx i)):=fun w' hw=>by
  simp only[OR];have av:(l'.map (·.born)).Nodup:=by have:(l'.map (·.born)).Perm ((l.filter fun e=>!B.contains e.born).map (·.born)):=h6.map _;rw[this.nodup_iff];exact h4.sublist ((List.filter_sublist).map _)
  refine⟨p,b,l,c,B++[e.born],l'.eraseIdx i,hm,h0,hw,h3,h4,h5,?_,?_,?_,fun k' v' ee=>?_⟩
  ·rw[xq av hi];refine(h6.filter _).trans ?_;rw[List.filter_filter];refine List.Perm.of_eq (List.filter_congr fun x _=>?_);simp[aDt];rw[aBO];simp;constructor
   ·rintro⟨a,b⟩;exact⟨b,a⟩
   rintro⟨a,b⟩;exact⟨b,a⟩
  ·rw[aDR];exact sA h7 i
  ·rw[aDR];exact sA h8 i
  simp only[rW,and_true]at ee;obtain⟨rfl,rfl⟩:=ee;exact⟨e,an,by simp,Z,ad⟩
 obtain⟨r1,r2⟩:=fy (x:=.walk [k,v] (A.eraseIdx i) (vs.eraseIdx i)) (O:=.mapIter (some b) c (B++[e.born]).toArray c) am ho hm (by rw[C];exact h2) (by simp) a0;refine .inr ⟨i,k,v,e.key,e.val,_,ek,ev,by rw[u];simp only[List.push_toArray];rfl,Z.mono μ.blind_sub,ad.mono μ.blind_sub,r1,?_⟩;rcases J with rfl|rfl
 ·exact r2
 exact r2.drew
end
section
variable {P:Program}{X:eC}{E:Ev}{bb:Nat}{f:FuncId}{n:Nat}{T:Tr AV}{rd:Option Nat}{ms:List Nat}{s:St}{Q:Ex->Fr->St->Prop}{id:Nat}{ops:Array Oper}
theorem DE l:kG P (fK l):=fun t m f via h=>by cases h
theorem Jd.next(hl:laidOutB P=true)(hM:kG P X)(M:Mc P X E)gl(am:ops.toList.map (·.dst)=gl){d J ty pos u os}(y:ops.toList=⟨some d,.next (.tmp J) false,ty,pos,u,none⟩::os)(hd:Nat.blt d n=true){oi a0 ks vs}(a1:T.get J=some (.ptr oi 0))(ho:s.h.get oi=some (.walk a0 ks vs))(h0:ks=[]->vs=[]->kI P X E n gl os (T.set d (some (.tup [.b false]))) s fun T s=>Q .normal ⟨f,n,T,rd,ms⟩ s)(h1:∀i k v,ks[i]?=some k->vs[i]?=some v->kI P X E n gl os (T.set d (some (.tup [.b true,k,v]))) (s.set oi (.walk [k,v] (ks.eraseIdx i) (vs.eraseIdx i))) fun T s=>Q .normal ⟨f,n,T,rd,ms⟩ s):
  Jb bb P (.region id ops false) ⟨f,n,T,rd,ms⟩ s Q:=by
 intro m μ w a ro R x hR;obtain⟨kk,rfl,S,_⟩:=M.is;refine wpIn_region ?_;have an:ops.size=os.length+1:=by rw[<-aDJ,y,On]
 have C:List.range ops.size=0::(List.range' 1 os.length++[]):=by rw[aDF,an,List.range_eq_range',aEc]
 rw[C];have av:ops[0]?=some ⟨some d,.next (.tmp J) false,ty,pos,u,none⟩:=by rw[<-aBi,y];rfl
 simp only[wpOpsIn,av];rw[oR (show Region.wanted ⟨some d,.next (.tmp J) false,ty,pos,u,none⟩ (yielded ops a.tmps)=true from rfl)];refine⟨fun _ _=>trivial,?_⟩;rw[Oper.semAt_eq _ _ _ (fun c e=>by cases e)];have hv:=mC x.tr (.tmp J) _ (show js T (.tmp J)=_ from a1);simp only[VR]at hv;obtain⟨p,hm,ev⟩:=hv;obtain⟨N,Y⟩:=Lg (P:=P) x.rel ho hm ty;rw[N]at ev;have A:∀j o,os[j]?=some o->ops[1+j]?=some o:=fun j o hj=>by rw[<-aBi,y,aDg,Em];exact hj
 have al:d<n:=by rwa [ON]at hd
 rcases Y with⟨e1,e2,B⟩|⟨i,k,v,kv,vv,w',e1,e2,B,g1,g2,g3,g4⟩
 ·have hx:(execOp a.eval ⟨some d,.next (.tmp J) false,ty,pos,u,none⟩).run P w=.ok (.value (.tuple #[.bool false])) w:=by simp only[execOp];exact aQ (by rw[ev];exact B)
  rw[hx];show wpOpsIn (Fw ro) m P ops R (List.range' 1 os.length++[]) (a.put (some d) (.tuple #[.bool false])) w;have ad:TR μ n (T.set d (some (.tup [.b false]))) (a.put (some d) (.tuple #[.bool false])).tmps:=x.tr.put al (by simp only[VR];exact⟨[.bool false],rfl,ap.cons (by simp[VR]) ap.nil_⟩);refine uC hl S hM am os 1 A (h0 e1 e2) x.rel ad x.fresh ?_;intro T' s' μ' w2 a' hq r' t' Z f' U;refine hR .normal _ _ μ' w2 a' hq ⟨r',Z,?_,x.ro.mono t'.sub,f'⟩ t'.fp;rw[U,gP];exact x.dm.mono t'.sub
 have hx:(execOp a.eval ⟨some d,.next (.tmp J) false,ty,pos,u,none⟩).run P w=.ok (.value (.tuple #[.bool true,kv,vv])) w':=by simp only[execOp];exact aQ (by rw[ev];exact B)
 rw[hx];show wpOpsIn (Fw ro) m P ops R (List.range' 1 os.length++[]) (a.put (some d) (.tuple #[.bool true,kv,vv])) w';have ad:TR μ n (T.set d (some (.tup [.b true,k,v]))) (a.put (some d) (.tuple #[.bool true,kv,vv])).tmps:=x.tr.put al (by simp only[VR];exact⟨[.bool true,kv,vv],rfl,ap.cons (by simp[VR]) (ap.cons g1 (ap.cons g2 ap.nil_))⟩);refine uC hl S hM am os 1 A (h1 i k v e1 e2) g3 ad (fun o ho=>x.fresh o ho) ?_;intro T' s' μ' w2 a' hq r' t' Z f' U;have t2:=g4.trans t';refine hR .normal _ _ μ' w2 a' hq ⟨r',Z,?_,x.ro.mono t2.sub,f'⟩ t2.fp;rw[U,gP];exact x.dm.mono t2.sub
end
end
section
section
variable {P:Program}{c:Code}{fr fr2:Fr}{s s2:St}{Q:Ex->Fr->St->Prop}
theorem bU.retell{μ w}(h:bU μ s w){o x B}(N:s.h.get o=some x)(Z:μ o≠none->OR μ w o B)(hn:∀n,B≠.nat n):bU μ (s.set o B) w:=by
 have hlt:o<s.nx:=by
  rcases By o s.nx with C|C
  ·exact C
  rw[h.wf o C]at N;cases N
 have get:∀k y,(s.set o B).h.get k=some y->(k=o/\y=B)∨(k≠o/\s.h.get k=some y):=fun k y e=>by
  simp only[St.set,Tr.get_set]at e;split at e
  ·next j=>cases e;exact .inl ⟨j,rfl⟩
  next j=>exact .inr ⟨j,e⟩
 have old:∀k y,(s.set o B).h.get k=some y->∃z,s.h.get k=some z:=fun k y e=>by
  rcases get k y e with⟨rfl,_⟩|⟨_,j⟩
  ·exact⟨_,N⟩
  exact⟨_,j⟩
 refine⟨⟨fun k y e m=>?_,fun k k' y y' p p' e e' m m' hb=>?_,fun k n A mm cc k' y' p' e m1 e' m2=>?_,fun k hk=>?_⟩,fun b i v hv=>?_⟩
 ·rcases get k y e with⟨rfl,rfl⟩|⟨_,j⟩
  ·exact Z m
  exact h.obj k y j m
 ·obtain⟨z,U⟩:=old k y e;obtain⟨Y,u⟩:=old k' y' e';exact h.inj k k' z Y p p' U u m m' hb
 ·rcases get k _ e with⟨_,j⟩|⟨_,j⟩
  ·exact absurd j.symm (hn n)
  obtain⟨Y,u⟩:=old k' y' e';exact h.nat k n A mm cc k' Y p' j m1 u m2
 ·have J:s.nx<=k:=hk;simp only[St.set,Tr.get_set,iF (show ¬k=o by omega)];exact h.wf k J
 obtain⟨z1,z2,z3⟩:=h.fz b i v hv;refine⟨z1,z2,fun k y p e m=>?_⟩;obtain⟨z,U⟩:=old k y e;exact z3 k z p U m
theorem At.retell{bb μ ro a w}(j:At μ fr s ro a w){o x u}(A:s.h.get o=some x)(C:μ o≠none->OR μ w o u)(hn:∀n,u≠.nat n):At μ fr (s.set o u) ro a w/\Fp bb μ s w μ (s.set o u) w:=by
 refine⟨⟨j.rel.retell A C hn,j.tr,j.dm,j.ro,j.fresh⟩,⟨fun _ _ _ h=>h,fun _ _ _ h=>h,rfl,rfl,rfl,cC _,fun _ _ _=>rfl,fun k y p e m=>?_,fun _ _ _ h=>.inl h⟩⟩;simp only[St.set,Tr.get_set]at e;split at e
 ·next B=>subst B;exact .inr ⟨k,x,p,A,m,rfl⟩
 exact .inr ⟨k,y,p,e,m,rfl⟩
theorem Jd.openM{bb o I}(J:s.h.get o=some (.amap I))(A:∃es,I es)(k:∀es clock,I es->Jb bb P c fr (s.set o (.map es clock)) Q):Jb bb P c fr s Q:=by
 intro n μ w a ro R C hR;have key:∃es clock,I es/\(μ o≠none->OR μ w o (.map es clock)):=by
  cases hm:μ o with
  |none=>obtain⟨es,h⟩:=A;exact⟨es,0,h,fun h=>absurd rfl h⟩
  |some lc=>have j:=C.rel.obj o _ J (by rw[hm];simp);simp only[OR]at j;obtain⟨p,l,clock,es,Y,Z,h3,h4⟩:=j;exact⟨es,clock,h4,fun _=>by simp only[OR];exact⟨p,l,Y,Z,h3⟩⟩
 obtain⟨es,clock,hI,B⟩:=key;obtain⟨y,f2⟩:=C.retell (bb:=bb) J B (by simp);exact k es clock hI n μ w a ro R y fun ex u s' μ' w' N q x U=>hR ex u s' μ' w' N q x (f2.trans U)
theorem xp{μ μ'}(h:∀b i v,μ.fz b i=some v->μ'.fz b i=some v):∀{es:List AE}{l:List MapEntry},(∀e∈es,bare e.key=true/\bare e.val=true)->lK μ es l->lK μ' es l
 | [],_,_,e=>e
 |e::es,_,hb,⟨k,v,l',e1,h1,h2,h3⟩=>
  let ⟨b1,b2⟩:=hb e Do
  ⟨k,v,l',e1,d7 h _ b1 h1,d7 h _ b2 h2,xp h (fun x j=>hb x (tK _ j)) h3⟩
end
end
section
theorem tU ρ:∀l m:List AV,cS ρ (l++m)=cS ρ l++cS ρ m
 | [],_=>rfl
 |x::l,m=>by rw[aAy,cS,cS,tU ρ l m];rfl
section
variable {P:Program}{c:Code}{f:FuncId}{n nx:Nat}{l:List (Nat×AV)}{m:List (Nat×Option AO)}{Q:Ex->Fr->St->Prop}
end
end
section
theorem Qs{rl nx bb}(h:((List.range bb).all fun o=>rl[o]? == some o)=true)o(j:o<bb):bC rl nx o=o:=by
 have:=Of.1 h o (aAk.2 j);have e:rl[o]?=some o:=by simpa using this
 unfold bC;rw[eM,e];rfl
section
variable {bb:Nat}{P:Program}{c:Code}{f:FuncId}{n nx:Nat}{l:List (Nat×AV)}{m:List (Nat×Option AO)}{Q:Ex->Fr->St->Prop}{H:Mu->Prop}{ρ:Nat->Nat}
theorem Jb.freezeL o cl{t op}rl l2 m2{nx2}(B:gF m o=some (.cells cl t op))(A:aq cl=true)(hnx:rl.length=nx2)(j:rl.Nodup)(y:∀o,o<bb->bC rl nx o=o)(hT:kO (Ks o cl) (bC rl nx) l l2)(hS:ny (Ks o cl) (bC rl nx) rl.length ((o,none)::m) m2)(k:Jb bb P c ⟨f,n,Tr.of l2,none,[]⟩ (St.of m2 nx2) Q):Jb bb P c ⟨f,n,Tr.of l,none,[]⟩ (St.of m nx) Q:=by subst hnx;have u:(St.of m nx).h.get o=some (.cells cl t op):=(St.of_get nx o m).trans B;have h:=Ro.of (f:=f) (n:=n) j hT hS;exact Jd.swap (fun _ _ _ _ x=>let ⟨_,h1,h2,h3⟩:=x.freeze u A;let ⟨h4,h5⟩:=h.at_ y h1 h3;⟨_,h4,h2.trans h5⟩) k
theorem bK:kO H ρ l []:=trivial
theorem aM{t:Nat}{x j:AV}{l2:List (Nat×AV)}(y:Wk H x (ig ρ j))(u:kO H ρ l l2)(h:gG l t=some x:=by rfl):kO H ρ l ((t,j)::l2):=⟨⟨x,h,y⟩,u⟩
theorem eU{p:Prop}(h:p:=by first|exact Wk.refl _ _|exact Wk.bare rfl|exact Wk.zero _|exact Wk.none _):p:=h
theorem aK{k}:ny H ρ k m []:=trivial
theorem aF{k nx2:Nat}{x j:AO}{m2:List (Nat×Option AO)}(A:bA H ρ x j)(y:ny H ρ nx2 m m2)(u:k<nx2:=by exact nE rfl)(h:gF m (ρ k)=some x:=by rfl):ny H ρ nx2 m ((k,some j)::m2):=⟨⟨u,j,x,rfl,h,A⟩,y⟩
theorem dj{p:Prop}(h:p:=by first|exact bA.same rfl|exact bA.same (aJ _)|exact bA.same (Uj _)|exact bA.same (fH _)|exact bA.cells rfl):p:=h
theorem bT{p:Prop}(h:p:=by repeat' first|exact bK|refine aM ?_ ?_|exact eU):p:=h
theorem AL{p:Prop}(h:p:=by repeat' first|exact aK|refine aF ?_ ?_|exact dj):p:=h
theorem Qt{p:Prop}(h:p:=by first|exact Bi|exact Qr|exact Qq|exact Qs rfl):p:=h
theorem tX(nx2:Nat)(rl:List Nat)(l2:List (Nat×AV))(m2:List (Nat×Option AO))(hT:kO (fun _=>True) (bC rl nx) l l2)(hS:ny (fun _=>True) (bC rl nx) rl.length m m2)(k:Jb bb P c ⟨f,n,Tr.of l2,none,[]⟩ (St.of m2 nx2) Q)(hnx:rl.length=nx2:=by rfl)(j:rl.Nodup:=by decide)(u:∀o,o<bb->bC rl nx o=o:=by exact Qt):Jb bb P c ⟨f,n,Tr.of l,none,[]⟩ (St.of m nx) Q:=Jb.toL rl l2 m2 hnx j u hT hS k
theorem tO(nx2:Nat)(rl:List Nat)(l2:List (Nat×AV))(m2:List (Nat×Option AO))(k:Jb bb P c ⟨f,n,Tr.of l2,none,[]⟩ (St.of m2 nx2) Q)(hT:kO (fun _=>True) (bC rl nx) l l2:=by exact bT)(hS:ny (fun _=>True) (bC rl nx) rl.length m m2:=by exact AL)(hnx:rl.length=nx2:=by rfl)(j:rl.Nodup:=by decide)(u:∀o,o<bb->bC rl nx o=o:=by exact Qt):Jb bb P c ⟨f,n,Tr.of l,none,[]⟩ (St.of m nx) Q:=Jb.toL rl l2 m2 hnx j u hT hS k
theorem d9(nx2:Nat)(rl:List Nat)(l2:List (Nat×AV))(m2:List (Nat×Option AO))(hT:kO (fun _=>True) (bC rl nx) l l2)(hS:ny (fun _=>True) (bC rl nx) rl.length m m2)(hnx:rl.length=nx2:=by rfl)(j:rl.Nodup:=by decide)(u:∀o,o<bb->bC rl nx o=o:=by exact Qt):To bb ⟨f,n,Tr.of l,none,[]⟩ (St.of m nx) ⟨f,n,Tr.of l2,none,[]⟩ (St.of m2 nx2):=To.ofL rl l2 m2 hnx j u hT hS
theorem Iv(nx2:Nat)(rl:List Nat)(l2:List (Nat×AV))(m2:List (Nat×Option AO))(hT:kO (fun _=>True) (bC rl nx) l l2:=by exact bT)(hS:ny (fun _=>True) (bC rl nx) rl.length m m2:=by exact AL)(hnx:rl.length=nx2:=by rfl)(j:rl.Nodup:=by decide)(u:∀o,o<bb->bC rl nx o=o:=by exact Qt):To bb ⟨f,n,Tr.of l,none,[]⟩ (St.of m nx) ⟨f,n,Tr.of l2,none,[]⟩ (St.of m2 nx2):=To.ofL rl l2 m2 hnx j u hT hS
theorem zX(nx2:Nat)(o:Nat)(cl:List AV)(rl:List Nat)(l2:List (Nat×AV))(m2:List (Nat×Option AO))(x:aq cl=true)(hT:kO (Ks o cl) (bC rl nx) l l2)(hS:ny (Ks o cl) (bC rl nx) rl.length ((o,none)::m) m2)(k:Jb bb P c ⟨f,n,Tr.of l2,none,[]⟩ (St.of m2 nx2) Q){t:TypeId}{op:Bool}(y:gF m o=some (.cells cl t op):=by rfl)(hnx:rl.length=nx2:=by rfl)(j:rl.Nodup:=by decide)(u:∀o,o<bb->bC rl nx o=o:=by exact Qt):Jb bb P c ⟨f,n,Tr.of l,none,[]⟩ (St.of m nx) Q:=Jb.freezeL o cl rl l2 m2 y x hnx j u hT hS k
theorem PC{k}:oM H ρ k m []:=trivial
theorem Ei{k nx2:Nat}{x:Option AO}{m2:List (Nat×Option AO)}(y:jV H ρ m (k,x))(u:oM H ρ nx2 m m2)(j:k<nx2:=by exact nE rfl):oM H ρ nx2 m ((k,x)::m2):=⟨⟨j,y⟩,u⟩
theorem Yt{k:Nat}{x j:AO}(u:bA H ρ x j)(h:gF m (ρ k)=some x:=by rfl):jV H ρ m (k,some j):=jV.some_ h u
theorem Ys{p:Prop}(h:p:=by first|exact Yt dj|exact jV.none_):p:=h
theorem Z9{p:Prop}(h:p:=by repeat' first|exact PC|refine Ei ?_ ?_|exact Ys):p:=h
theorem gX(nx2:Nat)(rl:List Nat)(l2:List (Nat×AV))(m2:List (Nat×Option AO))(hT:kO (fun _=>True) (bC rl nx) l l2)(hS:oM (fun _=>True) (bC rl nx) nx2 m m2)(k:Jd P c ⟨f,n,Tr.of l2,none,[]⟩ (St.of m2 nx2) Q)(hnx:rl.length=nx2:=by rfl)(j:rl.Nodup:=by decide):Jd P c ⟨f,n,Tr.of l,none,[]⟩ (St.of m nx) Q:=Jd.toL2 rl l2 m2 hnx j hT hS k
theorem Y7(nx2:Nat)(rl:List Nat)(l2:List (Nat×AV))(m2:List (Nat×Option AO))(hT:kO (fun _=>True) (bC rl nx) l l2)(hS:oM (fun _=>True) (bC rl nx) nx2 m m2)(hnx:rl.length=nx2:=by rfl)(j:rl.Nodup:=by decide):To 0 ⟨f,n,Tr.of l,none,[]⟩ (St.of m nx) ⟨f,n,Tr.of l2,none,[]⟩ (St.of m2 nx2):=To.of2 rl l2 m2 hnx j hT hS
end
end
def bR(w:World)(v:Value)(l:List Int):Prop:=Sl w 1 v l.length (l.map (Value.int .i64))
theorem bR.below{w w' v l}(h:bR w v l)(j:Below w.heap.size w w'):bR w' v l:=Sl.below h j
theorem bR.drewN{w v l}(h:bR w v l)n:bR (w.drewN n) v l:=h
theorem bR.open_{w v l}(h:bR w v l):∃A c,v=.slice A l.length c/\l.length<=c/\c<=9223372036854775807 /\ ∀j x,l[j]?=some x->∃b off,A=some ⟨b,off,none⟩/\b<w.heap.size/\w.cell? ⟨b,off+j,none⟩=some (.int .i64 x):=by obtain⟨J,A,c,rfl,C,hm,B⟩:=h;refine⟨A,c,rfl,C,by unfold maxLen at hm;omega,fun j x y=>?_⟩;have N:=(dO.1 y).1;obtain⟨b,off,e,hlt,u⟩:=B (by omega);exact⟨b,off,e,hlt,u j _ (by rw[mT,y];rfl)⟩

def cD:List Int->List Int->Int
 |x::a,y::b=>if x=y then cD a b else if x<y then -1 else 1
 |_,_=>0
theorem Bc{a b j x y}(A:a.take j=b.take j)(u:a[j]?=some x)(hy:b[j]?=some y)(B:x≠y):cD a b=if x<y then -1 else 1:=by
 induction j generalizing a b with
 |zero=>
  cases a<;>cases b<;>simp at u hy
  subst u;subst hy;simp[cD,B]
 |succ j ih=>
  cases a with
  |nil=>simp at u
  |cons p a=>
   cases b with
   |nil=>simp at hy
   |cons q b=>simp at A u hy;obtain⟨rfl,A⟩:=A;simp only[cD,aBh];exact ih A u hy
theorem Dq{a b}(h:a=b.take a.length):cD a b=0:=by
 induction a generalizing b with
 |nil=>simp[cD]
 |cons x a ih=>
  cases b with
  |nil=>simp at h
  |cons y b=>simp at h;obtain⟨rfl,h⟩:=h;simp only[cD,aBh];exact ih h
def pU(lo hi:Int)(l:List Int):Bool:=l.all fun x=>decide (lo<=x)&&decide (x<=hi)
theorem Ps{lo hi}{l:List Int}{j x}(u:l[j]?=some x):pU lo hi (l.drop j)=((decide (lo<=x)&&decide (x<=hi))&&pU lo hi (l.drop (j+1))):=by
 have y:=(dO.1 u).1;have:l[j]=x:=by rw[bY y]at u;injection u
 rw[AT y,this];rfl
def dL(o v:Int):Bool:=decide (1<=o)&&decide (o<=4)&&decide (1<=v)&&decide (v<=2000)

theorem VV w o v: Calls Tryz.prog 174 #[.int .i64 o,.int .i64 v] w fun e w'=>e=.returned (.bool (dL o v))/\Below w.heap.size w w':=by
 have y:Hid (dL o v=(decide (1<=o)&&decide (o<=4)&&decide (1<=v)&&decide (v<=2000))):=aS rfl;by_cases u:1<=o
 ·have d1:=lT u;by_cases x:o<=4
  ·have d2:=lT x;by_cases A:1<=v
   ·have d3:=lT A;by_cases B:v<=2000
    ·have d4:=lT B;have j:Hid (dL o v=true):=aS (by rw[y.out,d1,d2,d3,d4];rfl);clear u x A B;go_enter Tryz.func174,Tryz.ntmps174;go_wp2_with fail;go_ret;exact⟨aV j.out.symm,Below.refl _ _⟩
    have d4:=iS B;have j:Hid (dL o v=false):=aS (by rw[y.out,d1,d2,d3,d4];rfl);clear u x A B;go_enter Tryz.func174,Tryz.ntmps174;go_wp2_with fail;go_ret;exact⟨aV j.out.symm,Below.refl _ _⟩
   have d3:=iS A;have j:Hid (dL o v=false):=aS (by rw[y.out,d1,d2,d3];rfl);clear u x A;go_enter Tryz.func174,Tryz.ntmps174;go_wp2_with fail;go_ret;exact⟨aV j.out.symm,Below.refl _ _⟩
  have d2:=iS x;have j:Hid (dL o v=false):=aS (by rw[y.out,d1,d2];rfl);clear u x;go_enter Tryz.func174,Tryz.ntmps174;go_wp2_with fail;go_ret;exact⟨aV j.out.symm,Below.refl _ _⟩
 have d1:=iS u;have j:Hid (dL o v=false):=aS (by rw[y.out,d1];rfl);clear u;go_enter Tryz.func174,Tryz.ntmps174;go_wp2_with fail;go_ret;exact⟨aV j.out.symm,Below.refl _ _⟩

theorem IV{a b}(hl:a.length=b.length):cD a b=0↔a=b:=by
 induction a generalizing b with
 |nil=>cases b<;>simp_all [cD]
 |cons x a ih=>
  cases b with
  |nil=>simp at hl
  |cons y b=>
   simp only[cD];by_cases h:x=y
   ·subst h;rw[oR rfl,ih (by simpa using hl)];simp
   rw[iF h];constructor
   ·intro j;split at j<;>omega
   intro j;simp_all
end Go.Proofs.YtfoceannfdbinaaGreat
