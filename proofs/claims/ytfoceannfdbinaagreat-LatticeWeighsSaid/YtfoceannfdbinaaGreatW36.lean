/- Lemmas. -/
import Derived.Test.YtfoceannfdbinaaGreatW34
import Derived.Maps.OwnSet
import Derived.Deep.DrawnRows
set_option linter.all false
set_option maxRecDepth 1000000
set_option maxHeartbeats 32000000
namespace Go.Proofs.YtfoceannfdbinaaGreat
open Go.RowKit
def UO(L:List (Int×Int))(C:Int->Int):Prop:=(L.map Prod.fst).Nodup/\(∀x,(bD L x).getD 0=C x)/\∀e∈L,0<e.2/\0<=e.1/\e.1<=1000000
theorem oX{l:List Int}{n}(h:l.length=n)(hn:0<n):l=l.take (n-1)++[l.getD (n-1) 0]:=by
 have j:l.drop (n-1)=[l.getD (n-1) 0]:=by rw[AT (by omega),AS (by omega),eM,bY (by omega)];rfl
 rw[<-j,aAM]
theorem qu{n S h}(hS:mh n S)(hn:0<n){x c}(hm:(x,c)∈fW n S h):(h++[x],c)∈S:=by
 unfold fW at hm;obtain⟨e,he,y⟩:=Ac.1 hm;obtain⟨j,u⟩:=aAC.1 he;injection y with hx1 hx2
 have:=oX (hS.2 e j).1 hn;rw[gT u,hx1]at this;rw[<-this,<-hx2];exact j
theorem Lx{n S h}(hl:h.length=n-1){x c}(hm:(h++[x],c)∈S):(x,c)∈fW n S h:=by
 unfold fW;refine Ac.2 ⟨(h++[x],c),aAC.2 ⟨hm,lT ?_⟩,?_⟩
 ·simp only;rw[<-hl,aEs]
 simp only;rw[<-hl,eM,aAd (cC _),aAS];rfl
theorem rO{n S h}(hS:mh n S)(hn:0<n):((fW n S h).map Prod.fst).Nodup:=by unfold fW;rw[aAG];have hp:S.Pairwise (fun a b=>a.1≠b.1):=aAI.1 hS.1;have B:=hp.filter (fun e=>decide (e.1.take (n-1)=h));refine aAI.2 (B.imp_of_mem ?_);intro a b ha C A he;simp only[Function.comp]at he;obtain⟨j,u⟩:=aAC.1 ha;obtain⟨x,y⟩:=aAC.1 C;refine A ?_;rw[oX (hS.2 a j).1 hn,oX (hS.2 b x).1 hn,gT u,gT y,he]
theorem GI{n S T h}(hS:mh n S)(hT:jc S T)(hn:0<n)(hl:h.length=n-1):UO (fW n S h) (fun x=>T (h++[x])):=by
 refine⟨rO hS hn,fun x=>?_,fun e he=>?_⟩
 ·cases hx:bD (fW n S h) x with
  |some c=>have:=hT.of_mem (qu hS hn (dU hx));exact this.symm
  |none=>
   by_cases u:T (h++[x])=0
   ·exact u.symm
   have j:=jt (rO hS hn) (Lx (n:=n) hl (hT.mem u));simp only at j;rw[hx]at j;cases j
 have j:=qu hS hn (x:=e.1) (c:=e.2) he;have y:=hS.2 _ j;have A:=y.2.1.2 e.1 (by simp);exact⟨y.2.2.1,A.1,A.2⟩
theorem Qa{C}(h:∀x,C x=0):UO [] C:=⟨aBK,fun x=>by rw[h x];rfl,fun e he=>by cases he⟩
def Z5(L:List (Int×Int)):Int:=(L.map Prod.snd).sum
def aZ(C:Int->Int)(v:Nat):Int:=((List.range (v+1)).map fun(x:Nat)=>C x).sum
def mO(C:Int->Int)(v:Nat):List (Int×Int):=((List.range (v+1)).map fun(x:Nat)=>((x:Int),C x)).filter fun e=>decide (e.2≠0)
theorem LP{L C}{v:Nat}(h:UO L C)(hv:∀e∈L,e.1<=v):L.Perm (mO C v):=by
 have J:L.Nodup:=(aAI.1 h.1).imp (fun j e=>j (by rw[e]));have N:(mO C v).Nodup:=by
  unfold mO;refine List.Pairwise.filter _ ?_;refine aAI.2 (aCu.imp ?_);intro a b j e;injection e with U
  exact j (by omega)
 refine(aCM J N).2 (fun e=>⟨fun he=>?_,fun he=>?_⟩)
 ·have Y:=h.2.2 e he;have u:=hv e he;have y:=jt h.1 he;have Z:=h.2.1 e.1;rw[y]at Z;have h5:C e.1=e.2:=Z.symm;refine aAC.2 ⟨Ac.2 ⟨e.1.toNat,aAk.2 (by omega),?_⟩,lT (by omega)⟩;have U:((e.1.toNat:Nat):Int)=e.1:=by omega
  rw[U,h5]
 obtain⟨A,B⟩:=aAC.1 he;obtain⟨x,hx,rfl⟩:=Ac.1 A;have Y:C (x:Int)≠0:=gT B;have u:=h.2.1 (x:Int);cases hl:bD L (x:Int)with
 |none=>rw[hl]at u;exact absurd u.symm Y
 |some c=>rw[hl]at u;have y:=dU hl;rwa [show c=C (x:Int)from u]at y
theorem KF(l:List (Int×Int)):((l.filter fun e=>decide (e.2≠0)).map Prod.snd).sum=(l.map Prod.snd).sum:=by
 induction l with
 |nil=>rfl
 |cons e l ih=>
  by_cases h:e.2=0
  ·rw[aCs (by simpa using h),ih,OF,aDp,h,Int.zero_add]
  rw[aCt (by simpa using h),OF,OF,aDp,aDp,ih]
def bw(C:Int->Int)(v:Nat):Nat:=((List.range (v+1)).filter fun(x:Nat)=>decide (C x≠0)).length
def Dn(E M:Nat)(q:Rat):Prop:=∃z:Int,z.natAbs<=M/\q=mkRat z E
theorem Dn.mono{E M j q}(h:Dn E M q)(hm:M<=j):Dn E j q:=by obtain⟨z,x,u⟩:=h;exact⟨z,by omega,u⟩
theorem Dn.zero E M:Dn E M 0:=⟨0,by simp,by simp⟩
theorem Dn.mul{E F M N q r}(h:Dn E M q)(j:Dn F N r):Dn (E*F) (M*N) (q*r):=by obtain⟨z,u,rfl⟩:=h;obtain⟨y,x,rfl⟩:=j;refine⟨z*y,?_,Rat.mkRat_mul_mkRat _ _ _ _⟩;rw[aEm];exact aCo u x
theorem Dn.add{E M N q r}(h:Dn E M q)(j:Dn E N r)(A:0<E):Dn E (M+N) (q+r):=by obtain⟨z,u,rfl⟩:=h;obtain⟨y,x,rfl⟩:=j;refine⟨z+y,by omega,?_⟩;rw[aCT _ _ (by omega) (by omega),<-aEr,Rat.mkRat_mul_right (by omega)]
theorem Dn.qb{E M k q}(h:Dn E M q)(x:0<E)(u:E<2^k)(y:M<2^k):QB k q:=by
 obtain⟨z,A,rfl⟩:=h;have e:z=dD (decide (z<0)) z.natAbs:=by
  unfold dD;by_cases j:z<0
  ·rw[oR (by simpa using j)];omega
  rw[iF (by simpa using j)];omega
 rw[e];exact QB.red (by omega) u x
def aU(O:Nat)(gs:List Gr)(n:Nat)(h:List Int)(x:Int):Int:=tot (O-n) gs (h++[x])
def gw(C:Int->Int):Prop:=∀x,0<=C x/\C x<=21474836480000
theorem iV C v:aZ C (v+1)=aZ C v+C ((v+1:Nat):Int):=by unfold aZ;rw[aCY,aAe,List.sum_append];simp
theorem iU C:aZ C 0=C 0:=by unfold aZ;simp
theorem gJ{C}(h:gw C)v:0<=aZ C v/\aZ C v<=((v+1:Nat):Int)*21474836480000:=by
 induction v with
 |zero=>rw[iU];have:=h 0;omega
 |succ v ih=>rw[iV];have:=h ((v+1:Nat):Int);omega
theorem i4 C v:bw C v<=v+1:=by unfold bw;exact EM (List.length_filter_le _ _) (by simp)
theorem kW C v:bw C (v+1)=bw C v+if C ((v+1:Nat):Int)=0 then 0 else 1:=by
 unfold bw;rw[aCY,aDb,Sk];congr 1;by_cases h:C ((v+1:Nat):Int)=0
 ·rw[oR h,aCs (by simpa using h)];rfl
 rw[iF h,aCt (by simpa using h)];rfl
theorem kV C:bw C 0=if C 0=0 then 0 else 1:=by unfold bw;by_cases h:C 0=0<;>simp[h]
theorem l4{C}(h:gw C)v:0<aZ C v↔0<bw C v:=by
 induction v with
 |zero=>rw[iU,kV];have:=h 0;split<;>omega
 |succ v ih=>rw[iV,kW];have j:=h ((v+1:Nat):Int);have u:=gJ h v;split<;>omega
theorem Fx{C v}(h:bw C v≠v+1):∃x,x<=v/\C (x:Int)=0:=by
 induction v with
 |zero=>
  rw[kV]at h
  exact⟨0,cC _,by
   by_cases j:C 0=0
   ·exact j
   rw[iF j]at h;exact absurd rfl h⟩
 |succ v ih=>
  rw[kW]at h;by_cases j:C ((v+1:Nat):Int)=0
  ·exact⟨v+1,cC _,j⟩
  rw[iF j]at h;obtain⟨x,y,u⟩:=ih (by omega);exact⟨x,by omega,u⟩

theorem eS{k}{z:Int}(h:z.natAbs<2^k)(j:0<k):QB k (z:Rat):=⟨by simpa using h,by simpa using aAE (n:=k) (by omega)⟩
theorem QB.div{j k a b}(ha:QB j a)(u:QB k b)(x:0<k):QB (j+k) (a/b):=by rw[aDv];exact ha.mul (u.inv x)
theorem jf k(j:0<k):QB k 0:=dA (n:=0) (aAg (by omega)) j
theorem gw.qb{C}(h:gw C)x:QB 64 (C x:Rat):=eS (by have:=h x;omega) (by omega)
theorem gw.qbsum{C}(h:gw C){v}(j:v<=8):QB 64 (aZ C v:Rat):=eS (by have:=gJ h v;omega) (by omega)

def bq(n:Nat):Nat:=300*11^n
theorem z8{n}(h:n<=4):bq n<=4392300:=by have:11^n<=11^4:=OK (by omega) h;unfold bq;omega
theorem J4 n:300<=bq n:=by have:1<=11^n:=aAg (by omega);unfold bq;omega
theorem J3 n:bq (n+1)=11*bq n:=by unfold bq;rw[Lt];omega

def cr(v:Nat):List Rat:=List.replicate (v+1) ((1:Rat)/((v+1:Nat):Rat))
def jD(C:Int->Int)(v:Nat):List Rat:=(List.range (v+1)).map fun(x:Nat)=>(C x:Rat)/(aZ C v:Rat)
def dc(C:Int->Int)(ps:List Rat):Nat->Rat
 |0=>0
 |j+1=>if C (j:Int)=0 then dc C ps j+ps.getD j 0 else dc C ps j
def Az(C:Int->Int)(v:Nat)(p:Rat)(x:Nat):Rat:=((C x:Rat)+(bw C v:Rat)*p)/((aZ C v+bw C v:Int):Rat)
def oD(C:Int->Int)(v:Nat)(a rest p:Rat)(x:Nat):Rat:=
 if 0<C x then((C x:Rat)-a)/(aZ C v:Rat)else a*(bw C v:Rat)/(aZ C v:Rat)*p/rest
def gm(T:Nat->List Int->Int->Int)(v:Nat):Nat->List Int->List Rat
 |0,_=>cr v
 |n+1,h=>if aZ (T (n+1) h) v=0 then gm T v n (h.drop 1)else(List.range (v+1)).map fun x=>Az (T (n+1) h) v ((gm T v n (h.drop 1)).getD x 0) x
def gi(T:Nat->List Int->Int->Int)(v:Nat)(a:Rat):Nat->List Int->List Rat
 |0,_=>cr v
 |n+1,h=>if bw (T (n+1) h) v=v+1 then jD (T (n+1) h) v else
  if aZ (T (n+1) h) v=0 then gi T v a n (h.drop 1)else
   (List.range (v+1)).map fun x=>oD (T (n+1) h) v a (dc (T (n+1) h) (gi T v a n (h.drop 1)) (v+1)) ((gi T v a n (h.drop 1)).getD x 0) x
def jS(T:Nat->List Int->Int->Int)(v:Nat)(h:List Int):Nat->List Rat
 |0=>cr v
 |j+1=>if 0<aZ (T (j+1) (h.drop (h.length-j))) v then jD (T (j+1) (h.drop (h.length-j))) v else jS T v h j
def uo(T:Nat->List Int->Int->Int)(v:Nat)(mix:List Rat)(h:List Int)(x:Nat):Nat->Rat
 |0=>0
 |j+1=>uo T v mix h x j+mix.getD j 0*(jS T v h j).getD x 0
def iX(T:Nat->List Int->Int->Int)(v:Nat)(mix:List Rat)(n:Nat)(h:List Int):List Rat:=(List.range (v+1)).map fun x=>uo T v mix h x (n+1)

theorem fk v:(cr v).length=v+1:=by simp[cr]
theorem lz C v:(jD C v).length=v+1:=by simp[jD]
theorem gz T v n h:(gm T v n h).length=v+1:=by
 induction n generalizing h with
 |zero=>exact fk v
 |succ n ih=>unfold gm;split;exact ih _;simp
theorem d6 T v a n h:(gi T v a n h).length=v+1:=by
 induction n generalizing h with
 |zero=>exact fk v
 |succ n ih=>
  unfold gi;split
  ·exact lz _ _
  split
  ·exact ih _
  simp
theorem uf T v h j:(jS T v h j).length=v+1:=by
 induction j with
 |zero=>exact fk v
 |succ n ih=>unfold jS;split;exact lz _ _;exact ih
theorem lF T v mix n h:(iX T v mix n h).length=v+1:=by simp[iX]

theorem l7{l:List Rat}{i}{P:Rat->Prop}(j:P 0)(h:∀q∈l,P q):P (l.getD i 0):=by
 rw[eM];cases hx:l[i]? with
 |none=>exact j
 |some q=>exact h q (eQ hx)
theorem xh{v}(u:v<=8):∀q∈cr v,QB 128 q:=by intro q j;rw[aAK j];exact(dA (n:=1) (k:=64) (by omega) (by omega)).div (dA (n:=v+1) (k:=64) (by omega) (by omega)) (by omega)
theorem yO{C}(h:gw C){v}(u:v<=8):∀q∈jD C v,QB 128 q:=by intro q j;obtain⟨x,_,rfl⟩:=Ac.1 j;exact(h.qb x).div (h.qbsum u) (by omega)
theorem wg C{ps B}(u:0<B)(h:∀q∈ps,QB B q)j:QB (1+j*(B+1)) (dc C ps j):=by
 induction j with
 |zero=>exact jf _ (by omega)
 |succ j ih=>
  unfold dc;split
  ·refine(ih.add (l7 (i:=j) (jf B u) h)).mono ?_;rw[aAl];omega
  exact ih.mono (by rw[aAl];omega)
theorem Ky{C}(h:gw C){v}(y:v<=8){B p}(hp:QB B p)x:QB (B+193) (Az C v p x):=by have j:QB 64 (bw C v:Rat):=dA (by have:=i4 C v;omega) (by omega);have u:QB 64 ((aZ C v+bw C v:Int):Rat):=eS (by have:=gJ h v;have:=i4 C v;omega) (by omega);exact(((h.qb x).add (j.mul hp)).div u (by omega)).mono (by omega)
theorem PX{C}(h:gw C){v}(j:v<=8){B R a rest p}(ha:QB 64 a)(hp:QB B p)(J:QB R rest)(A:0<R)x:QB (193+B+R) (oD C v a rest p x):=by
 have u:QB 64 (bw C v:Rat):=dA (by have:=i4 C v;omega) (by omega);unfold oD;split
 ·have y:QB (64+64+1) ((C x:Rat)-a):=by rw[aBq];exact(h.qb x).add ha.neg
  exact(y.div (h.qbsum j) (by omega)).mono (by omega)
 exact((((ha.mul u).div (h.qbsum j) (by omega)).mul hp).div J A).mono (by omega)
theorem oV{T}(hT:∀n h,gw (T n h)){v}(u:v<=8)n h:∀q∈gm T v n h,QB (bq n) q:=by
 induction n generalizing h with
 |zero=>exact fun q j=>(xh u q j).mono (by have:=J4 0;omega)
 |succ n ih=>
  have y:=J3 n;have A:=J4 n;unfold gm;split
  ·exact fun q j=>(ih _ q j).mono (by omega)
  intro q j;obtain⟨x,_,rfl⟩:=Ac.1 j;exact(Ky (hT _ _) u (l7 (i:=x) (jf (bq n) (by omega)) (ih _)) x).mono (by omega)
theorem r7{T}(hT:∀n h,gw (T n h)){v}(u:v<=8){a}(ha:QB 64 a)n h:∀q∈gi T v a n h,QB (bq n) q:=by
 induction n generalizing h with
 |zero=>exact fun q j=>(xh u q j).mono (by have:=J4 0;omega)
 |succ n ih=>
  have A:=J3 n;have B:=J4 n;unfold gi;split
  ·exact fun q j=>(yO (hT _ _) u q j).mono (by omega)
  split
  ·exact fun q j=>(ih _ q j).mono (by omega)
  intro q j;obtain⟨x,_,rfl⟩:=Ac.1 j;have y:=wg (T (n+1) h) (by omega) (ih (h.drop 1)) (v+1);have hl:1+(v+1)*(bq n+1)<=1+9*(bq n+1):=Nat.add_le_add_left (Mt _ (by omega)) 1;exact(PX (hT _ _) u ha (l7 (i:=x) (jf (bq n) (by omega)) (ih _)) (y.mono hl) (by omega) x).mono (by omega)
theorem BF{T}(hT:∀n h,gw (T n h)){v}(u:v<=8)h j:∀q∈jS T v h j,QB 128 q:=by
 induction j with
 |zero=>exact xh u
 |succ n ih=>unfold jS;split;exact yO (hT _ _) u;exact ih
theorem Bj{T}(hT:∀n h,gw (T n h)){v}(u:v<=8){mix}(hm:∀q∈mix,QB 64 q)h x j:QB (1+j*193) (uo T v mix h x j):=by
 induction j with
 |zero=>exact jf _ (by omega)
 |succ j ih=>unfold uo;exact(ih.add ((l7 (i:=j) (jf 64 (by omega)) hm).mul (l7 (i:=x) (jf 128 (by omega)) (BF hT u h j)))).mono (by omega)
theorem zc{T}(hT:∀n h,gw (T n h)){v}(u:v<=8){mix}(hm:∀q∈mix,QB 64 q){n}(hn:n<=4)h:∀q∈iX T v mix n h,QB 966 q:=by intro q j;obtain⟨x,_,rfl⟩:=Ac.1 j;exact(Bj hT u hm h x (n+1)).mono (by omega)

theorem LI v:∀q∈cr v,0<q:=by intro q j;rw[aAK j,aDv,aDX];exact Rat.inv_pos.2 (by exact_mod_cast aDL v)
theorem FV{C}(h:gw C){v}(j:bw C v=v+1):∀q∈jD C v,0<q:=by
 have hs:0<aZ C v:=(l4 h v).2 (by omega);have u:∀(v:Nat),bw C v=v+1->∀x≤v,C (x:Int)≠0:=by
  intro v
  induction v with
  |zero=>
   intro j x y e;rw[kV]at j;obtain rfl:x=0:=by omega
   rw[oR (show C 0=0 from e)]at j;omega
  |succ v ih=>
   intro j x y e;rw[kW]at j;have:=i4 C v;by_cases A:x=v+1
   ·subst A;rw[oR e]at j;omega
   split at j
   ·omega
   exact ih (by omega) x (by omega) e
 intro q B;obtain⟨x,y,rfl⟩:=Ac.1 B;have J:=u v j x (by have:=aAk.1 y;omega);have N:=h x;rw[aDv];exact aDy (by exact_mod_cast (show 0<C x by omega)) (Rat.inv_pos.2 (by exact_mod_cast hs))
theorem AW C{ps}(h:∀q∈ps,0<q)j:0<=dc C ps j:=by
 induction j with
 |zero=>exact Rat.le_refl
 |succ j ih=>
  unfold dc;split
  ·exact Rat.add_nonneg ih (l7 (i:=j) (P:=fun q=>0<=q) Rat.le_refl (fun q hq=>Rat.le_of_lt (h q hq)))
  exact ih
theorem sH{C ps}(h:∀q∈ps,0<q){j x}(J:x<j)(hl:j<=ps.length)(B:C (x:Int)=0):0<dc C ps j:=by
 induction j with
 |zero=>omega
 |succ j ih=>
  have hp:0<ps.getD j 0:=by rw[eM,bY (by omega)];exact h _ (aAz _)
  unfold dc;by_cases e:x=j
  ·subst e;rw[oR B];have A:=AW C h x;have u:=(Rat.add_lt_add_left (c:=dc C ps x)).2 hp;rw[Rat.add_zero]at u;exact Std.lt_of_le_of_lt A u
  have y:=ih (by omega) (by omega);split
  ·have u:=(Rat.add_lt_add_left (c:=dc C ps j)).2 hp;rw[Rat.add_zero]at u;exact Std.lt_trans y u
  exact y
theorem xz{a b:Rat}(ha:0<a)(j:0<b):0<a/b:=by rw[aDv];exact aDy ha (Rat.inv_pos.2 j)
theorem LU{C v a rest p}(ha:0<a)(u:a<1)(hp:0<p)(N:0<rest)(hs:0<aZ C v)(J:0<bw C v)x:0<oD C v a rest p x:=by
 have j:(0:Rat)<(aZ C v:Rat):=by exact_mod_cast hs
 have y:(0:Rat)<(bw C v:Rat):=by exact_mod_cast J
 unfold oD;split
 ·next h=>
  refine xz ?_ j;have A:(1:Rat)<=(C x:Rat):=by exact_mod_cast (show(1:Int)<=C x by omega)
  have B:a<(C x:Rat):=Std.lt_of_lt_of_le u A;exact(Rat.lt_iff_sub_pos _ _).1 B
 exact xz (aDy (xz (aDy ha y) j) hp) N
theorem zM{T}(hT:∀n h,gw (T n h)){v a}(ha:0<a)(u:a<1)n h:∀q∈gi T v a n h,0<q:=by
 induction n generalizing h with
 |zero=>exact LI v
 |succ n ih=>
  unfold gi;split
  ·next A=>exact FV (hT _ _) A
  next A=>
  split
  ·exact ih _
  next hs=>
  intro q J;obtain⟨x,U,rfl⟩:=Ac.1 J;have B:=aAk.1 U;have j:0<aZ (T (n+1) h) v:=by have:=gJ (hT (n+1) h) v;omega
  obtain⟨y,hy,C⟩:=Fx A;have N:0<dc (T (n+1) h) (gi T v a n (h.drop 1)) (v+1):=sH (ih _) (x:=y) (by omega) (by rw[d6];exact cC _) C;have hp:0<(gi T v a n (h.drop 1)).getD x 0:=by rw[eM,bY (by rw[d6];exact B)];exact ih _ _ (aAz _)
  exact LU ha u hp N j ((l4 (hT _ _) v).1 j) x
theorem CD{gs}(j:∀g∈gs,0<g.2/\g.2<=1073741824)(hl:gs.length<=20000)d h:gw (fun x=>tot d gs (h++[x])):=by intro x;have u:=kR (p:=fun y=>y.drop d == h++[x]) (gs:=gs) (fun g hh=>aBJ (j g hh).1);have A:=Iu (p:=fun y=>y.drop d == h++[x]) (gs:=gs) (M:=1073741824) (fun g hh=>⟨aBJ (j g hh).1,(j g hh).2⟩);simp only[tot];omega
def gu(C:Int->Int)(v:Nat)(a:Rat):List Rat:=(List.range (v+1)).map fun(x:Nat)=>((C x:Rat)+a)/((aZ C v:Rat)+a*((v+1:Nat):Rat))
theorem E5{C}(h:gw C){v}(u:v<=8){a}(ha:QB 64 a):∀q∈gu C v a,QB 322 q:=by intro q j;unfold gu at j;obtain⟨x,_,rfl⟩:=Ac.1 j;exact((h.qb x).add ha).div ((h.qbsum u).add (ha.mul (dA (n:=v+1) (k:=64) (by omega) (by omega)))) (by omega)
structure cR where
 f:Int
 t:Int
 w:Int
 v:Int
 q:Rat
def d8(ac:List cR)(i:Nat):cR:=ac.getD i ⟨0,0,0,0,0⟩
theorem EZ{ac i a}(h:ac[i]?=some a):d8 ac i=a:=by unfold d8;rw[eM,h];rfl
def mQ(a b:Int):Int:=if a<b then -1 else if b<a then 1 else 0
def pH(a b:cR):Int:=if mQ a.f b.f≠0 then mQ a.f b.f else if mQ a.t b.t≠0 then mQ a.t b.t else if mQ a.w b.w≠0 then mQ a.w b.w else mQ a.v b.v
def iJ(T:Int)(a:cR):Bool:=decide (0<=a.f/\a.f<a.t/\a.t<=T/\1<=a.w/\a.w<=2000/\0<=a.v/\0<a.q/\a.q<=1)
def nV(ac:List cR)(i:Nat):Bool:=decide (i=0) ||decide (pH (d8 ac (i-1)) (d8 ac i)<0)
def l8(T:Int)(ac:List cR)(i:Nat):Bool:=iJ T (d8 ac i)&&nV ac i
def i3(T:Int)(ac:List cR):Int:=if 20000<ac.length then 5 else if 0<=T/\T<=1000/\(List.range ac.length).all (l8 T ac)=true then 0 else 2
theorem rL{T ac}(h:i3 T ac=0):ac.length<=20000/\0<=T/\T<=1000/\(∀i,i<ac.length->iJ T (d8 ac i)=true/\nV ac i=true):=by
 unfold i3 at h;split at h
 ·omega
 split at h
 ·next j=>
  refine⟨by omega,j.1,j.2.1,fun i hi=>?_⟩;have:=Of.1 j.2.2 i (aAk.2 hi);unfold l8 at this
  rwa [gE]at this
 omega

def PF(ac:List cR)(t:Nat):List Nat:=(List.range ac.length).filter fun i=>decide ((d8 ac i).f=(t:Int))
theorem rU p j:(List.range (j+1)).filter p=if p j then(List.range j).filter p++[j]else(List.range j).filter p:=by
 rw[aCY,aDb];split
 ·next h=>rw[aDm,oR h];rfl
 next h=>rw[aDm,iF (by simpa using h)];simp

abbrev cO:=List Int
def dq(h:cO)(w:Int):cO:=(h++[w]).drop 1
theorem rD h w:(dq h w).length=h.length:=by simp[dq]
def ck(n v:Nat)(h:cO):Prop:=h.length=n/\∀x∈h,0<=x/\x<=(v:Int)
theorem ck.next{n v h}(hh:ck n v h){w}(u:0<=w)(y:w<=(v:Int)):ck n v (dq h w):=by
 refine⟨by rw[rD,hh.1],fun x j=>?_⟩;rcases aAN.1 (aBa j)with j|j
 ·exact hh.2 x j
 rw[aAc.1 j];exact⟨u,y⟩
def Cq(n:Nat):cO:=List.replicate n 0
theorem My n v:ck n v (Cq n):=⟨aCC,fun x j=>by rw[aAK j];omega⟩
def Hh(v:Nat):Nat->List cO
 |0=>[[]]
 |n+1=>(List.range (v+1)).flatMap fun(x:Nat)=>(Hh v n).map fun h=>((x:Nat):Int)::h
theorem so{v n h}:h∈Hh v n↔ck n v h:=by
 induction n generalizing h with
 |zero=>
  show h∈[[]]↔_;rw[aAc];constructor
  ·rintro rfl;exact⟨rfl,fun x j=>by cases j⟩
  intro hh;exact oF hh.1
 |succ n ih=>
  unfold Hh;rw[List.mem_flatMap];constructor
  ·rintro⟨x,j,hh⟩;obtain⟨g,A,rfl⟩:=Ac.1 hh;have:=ih.1 A;have j:=aAk.1 j;refine⟨by simp[this.1],fun y hy=>?_⟩;rcases Is.1 hy with rfl|hy
   ·exact⟨by omega,by omega⟩
   exact this.2 y hy
  intro hh;cases h with
  |nil=>have:=hh.1;simp at this
  |cons y h=>
   have B:0<=y/\y<=(v:Int):=hh.2 y (by simp);have u:y.toNat<v+1:=by omega
   refine⟨y.toNat,aAk.2 u,Ac.2 ⟨h,ih.2 ⟨by have:=hh.1;simpa using this,fun x j=>hh.2 x (by simp[j])⟩,?_⟩⟩;rw[show((y.toNat:Nat):Int)=y by omega]
theorem xW v n:(Hh v n).Nodup:=by
 induction n with
 |zero=>simp[Hh]
 |succ n ih=>
  unfold Hh;refine List.pairwise_flatMap.2 ⟨fun x _=>?_,?_⟩
  ·exact aAI.2 (ih.imp (fun A e=>A (by injection e)))
  refine List.Pairwise.imp ?_ (aCu);intro a b u x J y N j;obtain⟨U,_,B⟩:=Ac.1 J;obtain⟨Y,_,C⟩:=Ac.1 N;rw[<-B,<-C]at j;injection j with B _
  exact u (by omega)
theorem xR:ag Tryz.prog 26 (ab kS):=Iy (by kernel_rfl) fun w v q k h j _=>lU w v q k h j
theorem UI:ag Tryz.prog 39 (ab xD):=Qb (by kernel_rfl) Ue
theorem Ce:ag Tryz.prog 21 (ab (cK (·+·))):=pD (by kernel_rfl) _ Xa
theorem sm:ag Tryz.prog 27 (ab (cK (·*·))):=pD (by kernel_rfl) _ Yb
theorem Kg:ag Tryz.prog 68 (ab r6):=TU (by kernel_rfl) ZD
theorem xT:ag Tryz.prog 23 (ab yi):=Vb (by kernel_rfl) Y4
theorem oI:ag Tryz.prog 63 (ab pR):=SO (by kernel_rfl) Ye
theorem E3:ag Tryz.prog 22 (ab tS):=R5 (by kernel_rfl) X0
theorem XA:ag Tryz.prog 107 (ab (tq id)):=ES (by kernel_rfl) _ fun w v q k h j u=>WL w v q k h j (by omega)
theorem Ke:ag Tryz.prog 87 (ab kS):=Iy (by kernel_rfl) fun w v q k h j u=>Iz w v q k h j (by omega)
theorem QT:ag Tryz.prog 97 (ab xD):=Qb (by kernel_rfl) fun w v x q r k h j u y=>WJ w v x q r k h j u (by omega)
theorem xV:ag Tryz.prog 82 (ab (cK (·+·))):=pD (by kernel_rfl) _ ZH
theorem qF:ag Tryz.prog 89 (ab (cK (·*·))):=pD (by kernel_rfl) _ Zr
theorem QR:ag Tryz.prog 93 (ab EC):=WF (by kernel_rfl) Yx
theorem Ab:ag Tryz.prog 88 (ab yi):=Vb (by kernel_rfl) X8
theorem QV:ag Tryz.prog 99 (ab (tq id)):=ES (by kernel_rfl) _ fun w v q k h j u=>Yz w v q k h j (by omega)
def kB:List Int->List Int->Int
 | [],[]=>0
 | [],_::_=>-1
 |_::_,[]=>1
 |x::a,y::b=>if x=y then kB a b else if x<y then -1 else 1
theorem Uf{a b j x y}(A:a.take j=b.take j)(u:a[j]?=some x)(hy:b[j]?=some y)(B:x≠y):kB a b=if x<y then -1 else 1:=by
 induction j generalizing a b with
 |zero=>
  cases a<;>cases b<;>simp at u hy
  subst u;subst hy;simp[kB,B]
 |succ j ih=>
  cases a with
  |nil=>simp at u
  |cons p a=>
   cases b with
   |nil=>simp at hy
   |cons q b=>simp at A u hy;obtain⟨rfl,A⟩:=A;simp only[kB,aBh];exact ih A u hy
theorem L8{a b}(h:a.take b.length=b)(hl:b.length<a.length):kB a b=1:=by
 induction b generalizing a with
 |nil=>
  cases a with
  |nil=>simp at hl
  |cons x a=>rfl
 |cons y b ih=>
  cases a with
  |nil=>simp at hl
  |cons x a=>simp at h hl;obtain⟨rfl,h⟩:=h;simp only[kB,aBh];exact ih h hl
theorem Qc{a b}(h:a=b.take a.length):kB a b=if a.length<b.length then -1 else 0:=by
 induction a generalizing b with
 |nil=>
  cases b with
  |nil=>rfl
  |cons y b=>simp[kB]
 |cons x a ih=>
  cases b with
  |nil=>simp at h
  |cons y b=>simp at h;obtain⟨rfl,h⟩:=h;simp only[kB,aBh,On,Nat.add_lt_add_iff_right];exact ih h
theorem xE{a b}(h:a.length=b.length):kB a b=cD a b:=by
 induction a generalizing b with
 |nil=>
  cases b with
  |nil=>rfl
  |cons y b=>simp at h
 |cons x a ih=>
  cases b with
  |nil=>simp at h
  |cons y b=>simp at h;simp only[kB,cD];rw[ih h]

theorem ZE w va vb a b(ha:bR w va a)(hb:bR w vb b): Calls Tryz.prog 209 #[va,vb] w fun e w'=>e=.returned (.int .i64 (kB a b))/\w=w':=by
 obtain⟨A,ca,rfl,ad,av,hA⟩:=ha.open_;obtain⟨B,cb,rfl,al,am,hB⟩:=hb.open_;have HA:=aS hA;have HB:=aS hB;clear ha hb hA hB;obtain⟨n,hn⟩:∃n,a.length=n:=⟨_,rfl⟩;obtain⟨p,hp⟩:∃p,b.length=p:=⟨_,rfl⟩;rw[hn]at ad⊢;rw[hp]at al⊢;have U:=aS hn;have Y:=aS hp;clear hn hp;go_enter Tryz.func209,Tryz.ntmps209;go_wp2_with fail;go_loopg [5,6,7,8,11] n (fun g _ _ _ _ i wr=>∃(j:Nat),wr=w/\i=.int .i64 j/\j+g=n/\j<=p/\Hid (a.take j=b.take j))
 case atStart=>exact⟨0,rfl,rfl,by omega,by omega,aS rfl⟩
 obtain⟨j,rfl,rfl,hj,a2,Z⟩:=hrel;rcases lE gk with h|h
 ·obtain rfl:j=n:=by omega
  have HT:Hid (kB a b=if j<p then -1 else 0):=aS (by
   have h1:=Qc (a:=a) (b:=b) (by have:=Z.out;rw[Ge (by rw[U.out];exact cC _)]at this;rw[U.out];exact this)
   rwa [U.out,Y.out]at h1)
  by_cases hlt:j<p
  ·have hd:decide (j<p)=true:=lT hlt;have N:Hid (kB a b = -1):=aS (by rw[HT.out,oR hlt]);go_wp2_with fail;go_ret;exact⟨aD N.out.symm,rfl⟩
  have hd:decide (j<p)=false:=iS hlt;have N:Hid (kB a b=0):=aS (by rw[HT.out,iF hlt]);go_wp2_with fail;go_ret;exact⟨aD N.out.symm,rfl⟩
 obtain⟨g,rfl⟩:∃g,gk=g+1:=⟨gk-1,by omega⟩;obtain⟨x,hx⟩:∃x,a[j]?=some x:=⟨_,bY (by rw[U.out];omega)⟩;obtain⟨ba,oa,rfl,_,hc⟩:=HA.out j x hx;by_cases a1:j<p
 ·obtain⟨y,hy⟩:∃y,b[j]?=some y:=⟨_,bY (by rw[Y.out];omega)⟩;obtain⟨bb,ob,rfl,_,an⟩:=HB.out j y hy;have HX:=aS hx;have HY:=aS hy;have hd:decide (p<=j)=false:=iS (by omega);have a0:decide ((p:Int)<=(j:Int))=false:=iS (by omega);clear hx hy;by_cases J:x=y
  ·subst J;have C:Lib.compareInt x x=0:=by simp[Lib.compareInt]
   go_wp2_with fail;refine(Tryz.cmp_Compare_int x x _).mono ?_;rintro e w2 ⟨rfl,rfl⟩;rw[C];go_wp2_with fail;go_roundg g
   case measure=>omega
   case rel=>exact⟨j+1,rfl,rfl,by omega,by omega,aS (by rw[aY _ HX.out,aY _ HY.out,Z.out])⟩
  have HF:=aS (Uf Z.out HX.out HY.out J);by_cases hlt:x<y
  ·have C:Lib.compareInt x y = -1:=by simp[Lib.compareInt,hlt]
   have u:Hid (kB a b = -1):=aS (by rw[HF.out,oR hlt]);clear J hlt;go_wp2_with fail;refine(Tryz.cmp_Compare_int x y _).mono ?_;rintro e w2 ⟨rfl,rfl⟩;rw[C];go_wp2_with fail;go_ret;exact⟨aD u.out.symm,rfl⟩
  have C:Lib.compareInt x y=1:=by
   have h1:y<x:=by omega
   have h2:¬x<y:=hlt;simp[Lib.compareInt,h1,h2]
  have u:Hid (kB a b=1):=aS (by rw[HF.out,iF hlt]);clear J hlt;go_wp2_with fail;refine(Tryz.cmp_Compare_int x y _).mono ?_;rintro e w2 ⟨rfl,rfl⟩;rw[C];go_wp2_with fail;go_ret;exact⟨aD u.out.symm,rfl⟩
 obtain rfl:j=p:=by omega
 have u:Hid (kB a b=1):=aS (L8 (by rw[Y.out,Z.out,Ge (by rw[Y.out];exact cC _)]) (by rw[Y.out,U.out];omega));clear hx;go_wp2_with fail;go_ret;exact⟨aD u.out.symm,rfl⟩
end Go.Proofs.YtfoceannfdbinaaGreat

namespace Go.Proofs.YtfoceannfdbinaaGreat
open Go.RowKit
def x8(w:World)(mv:Value)(L:List (Int×Int)):Prop:=(mv=.map none/\L=[])∨∃b,mv=.map (some b)/\cN (Value.int .i64) (Value.int .i64) w 3 b L
theorem x8.below{w w' x L}(h:x8 w x L)(y:Below w.heap.size w w'):x8 w' x L:=by
 rcases h with⟨j,u⟩|⟨b,j,u⟩
 ·exact .inl ⟨j,u⟩
 exact .inr ⟨b,j,u.below y⟩

theorem kN.none_{w b base n S outer}(h:kN w b base n S outer){T}(B:jc S T){hs}(hl:hs.length=n-1)(hn:bD outer hs=none):UO [] (fun x=>T (hs++[x])):=by
 refine Qa fun x=>?_;by_cases y:T (hs++[x])=0
 ·exact y
 exfalso;have j:=h.2.2.2.2.2.1 _ (B.mem y);simp only at j;rw[<-hl,aEs]at j;obtain⟨e,he,u⟩:=Ac.1 j;have A:=jt h.1.nodup he;rw[u,hn]at A;cases A
end Go.Proofs.YtfoceannfdbinaaGreat

namespace Go.Proofs.YtfoceannfdbinaaGreat
open Go.RowKit
section
def uz(base:Nat)(w:World)(b:Nat)(qs:List Rat):Prop:=b<base/\∃xs,cg w b 31 xs/\xs.length=qs.length*3/\
 ∀(i:Nat)(q:Rat),qs[i]?=some q->∃A m c A' m' c',xs[i*3]?=some (.bool (ay q))/\xs[i*3+1]?=some (.slice A m c)/\xs[i*3+2]?=some (.slice A' m' c')/\aB base w (.agg #[.bool (ay q),.slice A m c,.slice A' m' c']) q
section
variable {base:Nat}{w w':World}{b:Nat}{qs:List Rat}
theorem uz.lt(h:uz base w b qs):b<w.heap.size:=by obtain⟨_,xs,j,_⟩:=h;exact j.lt
theorem uz.below(h:uz base w b qs)(j:Below w.heap.size w w'):uz base w' b qs:=by obtain⟨J,xs,N,U,Y⟩:=h;refine⟨J,xs,N.below' j,U,fun i q Z=>?_⟩;obtain⟨A,m,c,u,m',x,e0,y,B,C⟩:=Y i q Z;exact⟨A,m,c,u,m',x,e0,y,B,C.below j⟩
theorem uz.get(h:uz base w b qs){i q}(U:qs[i]?=some q):∃A m c u y x,w.cell? ⟨b,i*3,none⟩=some (.bool (ay q))/\w.cell? ⟨b,i*3+1,none⟩=some (.slice A m c)/\w.cell? ⟨b,i*3+2,none⟩=some (.slice u y x) /\ w.frozen? ⟨b,i*3,none⟩=false/\w.frozen? ⟨b,i*3+1,none⟩=false/\w.frozen? ⟨b,i*3+2,none⟩=false/\aB base w (.agg #[.bool (ay q),.slice A m c,.slice u y x]) q:=by obtain⟨_,xs,j,_,N⟩:=h;obtain⟨A,m,c,u,y,x,e0,B,C,J⟩:=N i q U;exact⟨A,m,c,u,y,x,(j.cell _).trans e0,(j.cell _).trans B,(j.cell _).trans C,j.frozen _,j.frozen _,j.frozen _,J⟩
end
end
structure Xi where
 f:Int
 w:Int
 t:Int
 q:Rat
def Cj(k:Nat)(w:World)(v:Value)(rs:List Xi):Prop:=∃cells,Sl w 6 v rs.length cells/\∀(i:Nat)(r:Xi),rs[i]?=some r->∃a b c,cells[i*6]?=some (.int .i64 r.f)/\cells[i*6+1]?=some (.int .i64 r.w)/\cells[i*6+2]?=some (.int .i64 r.t)/\
 cells[i*6+3]?=some a/\cells[i*6+4]?=some b/\cells[i*6+5]?=some c/\aG k w (.agg #[a,b,c]) r.q
theorem Cj.below{k w w' v rs}(h:Cj k w v rs)(j:Below w.heap.size w w'):Cj k w' v rs:=by obtain⟨cells,C,J⟩:=h;refine⟨cells,C.below j,fun i r N=>?_⟩;obtain⟨a,b,c,e0,u,x,y,A,B,hf⟩:=J i r N;exact⟨a,b,c,e0,u,x,y,A,B,hf.below j⟩
theorem aG.cells3{k w a b c q}(h:aG k w (.agg #[a,b,c]) q):∃s A n cn x U j,a=.bool s/\b=.slice A n cn/\c=.slice x U j:=by
 obtain⟨neg,Z,Y,N,J,e,hn,hd,_⟩:=h;obtain⟨_,B,cn,rfl,_⟩:=hn.open_;obtain⟨_,y,C,rfl,_⟩:=hd.open_;injection e with e
 have u:[a,b,c]=[.bool neg,.slice B N.length cn,.slice y J.length C]:=aAf Array.toList e;simp only[rW,and_true]at u;obtain⟨rfl,rfl,rfl⟩:=u;exact⟨_,_,_,_,_,_,_,rfl,rfl,rfl⟩
theorem Nm q:ci q<0↔¬0<=q:=by
 unfold ci;by_cases j:q=0
 ·subst j;simp
 rw[iF j];by_cases h:q<0
 ·rw[oR h];exact⟨fun _=>Rat.not_le.2 h,fun _=>by omega⟩
 rw[iF h];exact⟨fun h=>by omega,fun h'=>absurd (Rat.not_lt.1 h) h'⟩
section
def oJ:Value->Prop
 | .bool _=>True
 | .slice _ _ _=>True
 |_=>False
theorem cQ.offBlk{w v l b e xs}(h:cQ w v l)(C:cg w b e xs)(N:∀x∈xs,oJ x):yz v b:=by
 obtain⟨⟨h0,A,c,rfl,_,_,B⟩,_⟩:=h;intro U n' Z j hn;cases j;obtain⟨Y,off,j,_,J⟩:=B hn;cases j;simp only;intro u;subst u;cases l with
 |nil=>simp at hn
 |cons d l=>have y:=J 0 (dg d) rfl;rw[C.cell]at y;exact N _ (eQ y)
theorem aG.setOff{k w a b c q}(h:aG k w (.agg #[a,b,c]) q){p}(x:yz b p.block)(y:yz c p.block)u:aG k (w.setCell p u) (.agg #[a,b,c]) q:=by
 obtain⟨s,N,J,C,B,e,hn,hd,A⟩:=h;injection e with e
 have j:[a,b,c]=[.bool s,N,J]:=aAf Array.toList e;simp only[rW,and_true]at j;obtain⟨rfl,rfl,rfl⟩:=j;exact⟨s,_,_,C,B,rfl,⟨hn.1.setOff x u,hn.2⟩,⟨hd.1.setOff y u,hd.2⟩,A⟩
theorem aG.digs{k w a b c q}(h:aG k w (.agg #[a,b,c]) q):∃u j,cQ w b u/\cQ w c j:=by
 obtain⟨s,A,y,u,j,e,hn,hd,B⟩:=h;injection e with e
 have x:[a,b,c]=[.bool s,A,y]:=aAf Array.toList e;simp only[rW,and_true]at x;obtain⟨rfl,rfl,rfl⟩:=x;exact⟨u,j,hn,hd⟩

def nA(k:Nat)(w:World)(b:Nat)(qs:List Rat):Prop:=∃xs,cg w b 31 xs/\xs.length=qs.length*3/\(∀x∈xs,oJ x)/\
 ∀(i:Nat)(q:Rat),qs[i]?=some q->∃s A m c A' m' c',xs[i*3]?=some (.bool s)/\xs[i*3+1]?=some (.slice A m c)/\xs[i*3+2]?=some (.slice A' m' c')/\aG k w (.agg #[.bool s,.slice A m c,.slice A' m' c']) q
section
variable {k:Nat}{w w':World}{b:Nat}{qs:List Rat}
theorem nA.lt(h:nA k w b qs):b<w.heap.size:=by obtain⟨xs,j,_⟩:=h;exact j.lt
theorem nA.below(h:nA k w b qs)(j:Below w.heap.size w w'):nA k w' b qs:=by obtain⟨xs,J,N,Z,U⟩:=h;refine⟨xs,J.below' j,N,Z,fun i q Y=>?_⟩;obtain⟨s,A,m,c,u,m',x,e0,y,B,C⟩:=U i q Y;exact⟨s,A,m,c,u,m',x,e0,y,B,C.below j⟩
theorem nA.get(h:nA k w b qs){i q}(U:qs[i]?=some q):∃s A m c u y x,w.cell? ⟨b,i*3,none⟩=some (.bool s)/\w.cell? ⟨b,i*3+1,none⟩=some (.slice A m c)/\w.cell? ⟨b,i*3+2,none⟩=some (.slice u y x) /\ w.frozen? ⟨b,i*3,none⟩=false/\w.frozen? ⟨b,i*3+1,none⟩=false/\w.frozen? ⟨b,i*3+2,none⟩=false/\aG k w (.agg #[.bool s,.slice A m c,.slice u y x]) q:=by obtain⟨xs,j,_,_,N⟩:=h;obtain⟨s,A,m,c,u,y,x,e0,B,C,J⟩:=N i q U;exact⟨s,A,m,c,u,y,x,(j.cell _).trans e0,(j.cell _).trans B,(j.cell _).trans C,j.frozen _,j.frozen _,j.frozen _,J⟩
theorem Lb{xs:List Value}(j:∀x∈xs,oJ x)i{u}(hu:oJ u):∀x∈xs.set i u,oJ x:=by
 intro x h;rcases aBA h with h|rfl
 ·exact j x h
 exact hu
theorem nA.mono{j}(h:nA k w b qs)(Y:k<=j):nA j w b qs:=by obtain⟨xs,J,N,hx,U⟩:=h;refine⟨xs,J,N,hx,fun i q Z=>?_⟩;obtain⟨s,A,m,c,u,m',x,e0,y,B,C⟩:=U i q Z;exact⟨s,A,m,c,u,m',x,e0,y,B,C.mono Y⟩
theorem uz.zeros{base n}(h:uz base w b (List.replicate n 0))(hk:0<k)(C:k<=17592186044416):nA k w b (List.replicate n 0):=by
 obtain⟨_,xs,h1,Y,Z⟩:=h;refine⟨xs,h1,Y,fun x hx=>?_,fun i q hq=>?_⟩
 ·obtain⟨j,B,rfl⟩:=aBw hx;rw[aCC]at Y;obtain⟨A,m,c,N,m',U,e0,u,y,_⟩:=Z (j/3) 0 (by rw[aDw (by omega)]);rcases (show j=j/3*3∨j=j/3*3+1∨j=j/3*3+2 by omega)with h|h|h
  ·rw[<-h,bY B]at e0;injection e0 with e0;rw[e0];trivial
  ·rw[<-h,bY B]at u;injection u with u;rw[u];trivial
  rw[<-h,bY B]at y;injection y with y;rw[y];trivial
 obtain⟨A,m,c,N,m',U,e0,u,y,e3⟩:=Z i q hq;have J:q=0:=aAK (eQ hq);exact⟨_,A,m,c,N,m',U,e0,u,y,e3.at_.frac (by rw[J];exact dA (n:=0) (aAg (by omega)) hk) C⟩
end
end
end Go.Proofs.YtfoceannfdbinaaGreat


namespace Go.Proofs.YtfoceannfdbinaaGreat
open Go.RowKit
theorem aG.putBlk{k w a b c q g e xs}(h:aG k w (.agg #[a,b,c]) q)(A:cg w g e xs)(B:∀x∈xs,oJ x)i u:aG k (w.setCell ⟨g,i,none⟩ u) (.agg #[a,b,c]) q:=by obtain⟨J,C,j,y⟩:=h.digs;exact h.setOff (p:=⟨g,i,none⟩) (j.offBlk A B) (y.offBlk A B) u
theorem nA.far{k w b g qs e xs}(h:nA k w b qs)(hb:cg w g e xs)(hx:∀x∈xs,oJ x)(B:b≠g)i u:nA k (w.setCell ⟨g,i,none⟩ u) b qs:=by obtain⟨ys,g1,g2,gx,g3⟩:=h;refine⟨ys,g1.far (p:=⟨g,i,none⟩) B u,g2,gx,fun j r hr=>?_⟩;obtain⟨s1,J,m1,N,y,C,A,e0,U,Y,Z⟩:=g3 j r hr;exact⟨s1,J,m1,N,y,C,A,e0,U,Y,Z.putBlk hb hx _ _⟩

def tB(K:Nat)(w:World)(b Ln p g:Nat)(R:Nat->List Rat):Prop:=∃xs,cg w b 32 xs/\xs.length=p+1/\(∀x∈xs,oJ x)/\∀j,g<=j->j<=p->∃rb,xs[j]?=some (.slice (some ⟨rb,0,none⟩) Ln Ln)/\b<rb/\nA K w rb (R j)
def Hl(K:Nat)(w:World)(b cur Ln p t:Nat)(R:Nat->List Rat)(part:List Rat):Prop:=∃xs,cg w b 32 xs/\xs.length=p+1/\(∀x∈xs,oJ x)/\xs[t]?=some (.slice (some ⟨cur,0,none⟩) Ln Ln)/\b<cur/\nA K w cur part/\
 ∀j,t+1<=j->j<=p->∃rb,xs[j]?=some (.slice (some ⟨rb,0,none⟩) Ln Ln)/\b<rb/\rb<cur/\nA K w rb (R j)
theorem tB.below{K w w' b u p g R}(h:tB K w b u p g R)(x:Below w.heap.size w w'):tB K w' b u p g R:=by obtain⟨xs,y,A,B,C⟩:=h;refine⟨xs,y.below' x,A,B,fun j J hp=>?_⟩;obtain⟨N,e,hl,hf⟩:=C j J hp;exact⟨N,e,hl,hf.below x⟩
theorem tB.row{K w b x p g R}(h:tB K w b x p g R){j}(B:g<=j)(hp:j<=p):∃u,w.cell? ⟨b,j,none⟩=some (.slice (some ⟨u,0,none⟩) x x)/\nA K w u (R j)/\b<w.heap.size:=by obtain⟨xs,y,C,J,A⟩:=h;obtain⟨u,e,hl,hf⟩:=A j B hp;exact⟨u,(y.cell j).trans e,hf,y.lt⟩
theorem Hl.below{K w w' b u y p t R part}(h:Hl K w b u y p t R part)(x:Below w.heap.size w w'):Hl K w' b u y p t R part:=by obtain⟨xs,A,B,C,J,N,U,Y⟩:=h;refine⟨xs,A.below' x,B,C,J,N,U.below x,fun j Z hp=>?_⟩;obtain⟨rb,e,hl,hlt,hf⟩:=Y j Z hp;exact⟨rb,e,hl,hlt,hf.below x⟩
theorem Hl.start{K w B b x p t R}(h:tB K w b x p (t+1) R)(hf:uz (w.heap.size+1) B w.heap.size (List.replicate x 0))(J:Below w.heap.size w B)(ht:t<=p)(N:0<K)(hK:K<=17592186044416): Hl K (B.setCell ⟨b,t,none⟩ (.slice (some ⟨w.heap.size,0,none⟩) x x)) b w.heap.size x p t R (List.replicate x 0):=by obtain⟨xs,C,U,A,Y⟩:=h;have hlt:=C.lt;have u:=C.below' J;refine⟨_,u.set_ t _,by simpa using U,Lb A _ (show oJ (.slice _ _ _)from trivial),aCx (by omega),hlt,(hf.zeros N hK).far u A (by omega) _ _,fun j Z hp=>?_⟩;obtain⟨rb,e,hl,y⟩:=Y j Z hp;exact⟨rb,by rw[aCf (by omega)];exact e,hl,y.lt,(y.below J).far u A (by omega) _ _⟩
theorem Hl.cell{K w b j u p t R part}(h:Hl K w b j u p t R part):w.cell? ⟨b,t,none⟩=some (.slice (some ⟨j,0,none⟩) u u)/\j<w.heap.size/\b<w.heap.size:=by obtain⟨xs,x,B,C,y,J,A,_⟩:=h;exact⟨(x.cell t).trans y,A.lt,x.lt⟩
end Go.Proofs.YtfoceannfdbinaaGreat

namespace Go.Proofs.YtfoceannfdbinaaGreat
open Go.RowKit
theorem x8.len{w j L}(h:x8 w j L)ty:(Builtin.len_ #[299] ty #[j]).run Tryz.prog w=.ok (.int .i64 (L.length:Int)) w:=by
 rcases h with⟨rfl,rfl⟩|⟨b,rfl,hm⟩
 ·exact Maps.len_nil (show Tryz.prog.underlying 299=some (.map 3 3)from Tryz.underlying299) ty
 have u:=bE.len hm (show Tryz.prog.underlying 299=some (.map 3 3)from Tryz.underlying299) ty;rw[u];simp[gV]
theorem ja{w w' o}(h:Below (w.alloc o).heap.size (w.alloc o) w'):Below w.heap.size w w':=((Below.refl _ w).alloc (cC _) o).trans (h.mono (by simp))
theorem eX{w w' o}(h:Below (w.alloc o).drew.heap.size (w.alloc o).drew w'):Below w.heap.size w w':=ja (ak h)
theorem ga w o:Below w.heap.size w (w.alloc o):=(Below.refl _ w).alloc (cC _) o
theorem jb w o:Below w.heap.size w (w.alloc o).drew:=(ga w o).trans ⟨rfl,rfl,rfl,cC _,fun _ _=>rfl⟩
theorem Z7 w z(u:0<=z)(x:z<9223372036854775808): Calls Tryz.prog 88 #[.int .i64 z] w fun e w'=>∃j,e=.returned j/\aB w.heap.size w' j (z:Rat)/\Below w.heap.size w w':=by
 obtain⟨n,rfl⟩:=aBN u;have:=X8 w n (by omega)
 rwa [show((n:Int):Rat)=(n:Rat)from aBP n]
def iu(O V:Int)(gs:List Gr)(i:Nat):Bool:=
 decide (((gs.getD i ([],0)).1.length:Int)=O)&&pU 0 V (gs.getD i ([],0)).1&&decide (1<=(gs.getD i ([],0)).2)&&decide ((gs.getD i ([],0)).2<=1073741824) &&
  (decide (i=0) ||decide (cD (gs.getD (i-1) ([],0)).1 (gs.getD i ([],0)).1<0))
def cW(O V:Int)(gs:List Gr):Int:=if 20000<gs.length then 5 else if dL O V=true/\(List.range gs.length).all (iu O V gs)=true then 0 else 2
theorem tN{O V gs}(h:20000<gs.length):cW O V gs=5:=oR h
theorem tM{O V gs}(h:¬20000<gs.length)(hs:dL O V=false):cW O V gs=2:=by unfold cW;rw[iF h,iF];intro j;rw[hs]at j;cases j.1
theorem vH{O V gs i}(h:¬20000<gs.length)(hi:i<gs.length)(j:iu O V gs i=false):cW O V gs=2:=by unfold cW;rw[iF h,iF];intro u;have:=Of.1 u.2 i (aAk.2 hi);rw[j]at this;cases this
theorem tP{O V gs}(h:¬20000<gs.length)(hs:dL O V=true)(j:∀i,i<gs.length->iu O V gs i=true):cW O V gs=0:=by unfold cW;rw[iF h,oR ⟨hs,Of.2 fun i hi=>j i (aAk.1 hi)⟩]
theorem mL{gs:List Gr}{i g}(h:gs[i]?=some g):gs.getD i ([],0)=g:=by rw[eM,h];rfl
theorem rQ{O V gs i g}(u:gs[i]?=some g)(h:¬(g.1.length:Int)=O∨pU 0 V g.1=false∨g.2<1∨1073741824<g.2∨(0<i/\¬cD (gs.getD (i-1) ([],0)).1 g.1<0)):iu O V gs i=false:=by
 unfold iu;rw[mL u];rcases h with h|h|h|h|⟨h,j⟩
 ·rw[iS h];rfl
 ·rw[h,aBk];rfl
 ·rw[iS (show ¬1<=g.2 by omega),aBk];rfl
 ·rw[iS (show ¬g.2<=1073741824 by omega),aBk];rfl
 rw[iS (show ¬i=0 by omega),iS j,Bool.or_self,aBk]
theorem kX{O V gs i g}(y:gs[i]?=some g)(j:(g.1.length:Int)=O)(u:pU 0 V g.1=true)(A:¬g.2<1)(B:¬1073741824<g.2)(x:0<i->cD (gs.getD (i-1) ([],0)).1 g.1<0):iu O V gs i=true:=by
 unfold iu;rw[mL y,lT j,u,lT (show 1<=g.2 by omega),lT (show g.2<=1073741824 by omega)];rcases lE i with h|h
 ·rw[lT h];rfl
 rw[lT (x h),NE];rfl
theorem xa{O V gs i g}(j:gs[i]?=some g)(h:iu O V gs i=true):(g.1.length:Int)=O:=by unfold iu at h;rw[mL j]at h;simp only[gE,IS]at h;exact h.1.1.1.1

theorem EJ w O V lv gs(h:iE w lv gs): Calls Tryz.prog 168 #[.agg #[.int .i64 O,.int .i64 V,lv]] w fun e w'=>e=.returned (.int .i64 (cW O V gs))/\Below w.heap.size w w':=by
 obtain⟨A,c,rfl,b6,b9,bm⟩:=h.open_;have a6:=aS bm;clear h bm;obtain⟨n,hn⟩:∃n,gs.length=n:=⟨_,rfl⟩;rw[hn]at b6⊢;have HN:=aS hn;clear hn;by_cases u:20000<n
 ·have hd:decide (20000<n)=true:=lT u;have bo:decide ((20000:Int)<(n:Int))=true:=lT (by omega);have C:Hid (cW O V gs=5):=aS (tN (by rw[HN.out];exact u));clear u;go_enter Tryz.func168,Tryz.ntmps168;go_wp2_with fail;go_ret;exact⟨aD C.out.symm,(Below.refl _ _).alloc (cC _) _⟩
 have hd:decide (20000<n)=false:=iS u;have bo:decide ((20000:Int)<(n:Int))=false:=iS (by omega);have HL:Hid (¬20000<gs.length):=aS (by rw[HN.out];exact u);clear u;go_enter Tryz.func168,Tryz.ntmps168;go_wp2_with fail;obtain⟨W,hW,P0,PB,b8⟩:=jy w 27 [.int .i64 O,.int .i64 V,.slice A n c];rw[<-hW];clear hW;obtain⟨p0,p1,p2,_,_,_⟩:=P0.out.three;go_wp2_with fail;refine(VW W O V).mono ?_;rintro e w1 ⟨rfl,a1⟩;have P1:=aS (P0.out.below' a1);have U:=aS (PB.out.trans (a1.mono (by omega)));clear p0 p1 p2 a1 P0 PB;obtain⟨p0,p1,p2,_,_,_⟩:=P1.out.three;obtain⟨sb,a4⟩:∃b,dL O V=b:=⟨_,rfl⟩;rw[a4];have a7:=aS a4;clear a4;cases sb
 ·have C:Hid (cW O V gs=2):=aS (tM HL.out a7.out);go_wp2_with fail;go_ret;exact⟨aD C.out.symm,U.out⟩
 clear hd bo;go_wp2_with fail;have s1:w.heap.size<w1.heap.size:=P1.out.lt;go_loopg [3,4,18] n (fun gh _ _ i wz=>∃(j:Nat),i=.int .i64 j/\j+gh=n/\Hid (∀k,k<j->iu O V gs k=true)/\Hid (cg wz w.heap.size 27 [.int .i64 O,.int .i64 V,.slice A n c])/\Hid (Below w.heap.size w wz))
 case atStart=>exact⟨0,rfl,by omega,aS (fun k hk=>by omega),P1,U⟩
 clear p0 p1 p2 P1 U;obtain⟨j,rfl,hj,HG,P1,U⟩:=hrel;obtain⟨p0,p1,p2,_,_,_⟩:=P1.out.three;have s2:w.heap.size<wr.heap.size:=P1.out.lt;have s3:w.heap.size<=wr.heap.size:=by omega
 rcases lE gk with hh|hh
 ·subst hh;obtain rfl:j=n:=by omega
  have C:Hid (cW O V gs=0):=aS (tP HL.out a7.out (fun i hi=>HG.out i (by rw[HN.out]at hi;exact hi)));go_wp2_with fail;go_ret;exact⟨aD C.out.symm,U.out⟩
 obtain⟨gh,rfl⟩:∃g,gk=g+1:=⟨gk-1,by omega⟩;obtain⟨x,hx⟩:∃x,gs[j]?=some x:=⟨_,bY (by rw[HN.out];omega)⟩;obtain⟨ba,oa,a0,rfl,bn,a9,bd,fa⟩:=a6.out j x hx;have d0:=(U.out.cell (p:=⟨ba,oa+j*2,none⟩) bn).trans a9;have d1:=(U.out.cell (p:=⟨ba,oa+j*2+1,none⟩) bn).trans bd;have FA:=aS (fa.below U.out);have HX:=aS hx;have ca:ba<wr.heap.size:=by omega
 clear hx a9 bd;obtain⟨A1,k1,b3⟩:=fa.len;subst b3;clear fa;have B:Hid ((¬(x.1.length:Int)=O∨pU 0 V x.1=false∨x.2<1∨1073741824<x.2∨(0<j/\¬cD (gs.getD (j-1) ([],0)).1 x.1<0))->cW O V gs=2):=aS (fun hc=>vH HL.out (by rw[HN.out];omega) (rQ HX.out hc));obtain⟨x1,x2⟩:=x;simp only at d0 d1 FA B;obtain⟨m,hm⟩:∃m,x1.length=m:=⟨_,rfl⟩;rw[hm]at d0;have HM:=aS hm;rw[hm]at B;clear hm;by_cases Y:(m:Int)=O
 ·have e1:((m:Int) != O)=false:=by simpa using Y
  have an:=aS Y;clear Y;go_wp2_with fail;obtain⟨W2,bj,G0,GB,b7⟩:=jy wr 123 [.slice A1 m k1,.int .i64 x2];rw[<-bj];clear bj;refine(Rq W2 _ x1 0 V (by rw[HM.out]at FA;exact FA.out.below GB.out)).mono ?_;rintro e w3 ⟨rfl,ad⟩;have G3:=aS (G0.out.below' ad);have P3:=aS ((P1.out.below' GB.out).below' ad);have BE:=aS (U.out.trans ((GB.out.trans (ad.mono GB.out.size)).mono U.out.size));have bB:=aS (GB.out.trans (ad.mono GB.out.size));clear d0 d1 p0 p1 p2 ad G0 GB P1 U;obtain⟨p0,p1,p2,_,_,_⟩:=P3.out.three;have g0:=G3.out.cell 0;have g1:=G3.out.cell 1;simp only[aAb,Em]at g0 g1;obtain⟨ib,a3⟩:∃b,pU 0 V x1=b:=⟨_,rfl⟩;rw[a3];have am:=aS a3;clear a3;cases ib
  ·have C:=aS (B.out (.inr (.inl am.out)));go_wp2_with fail;go_ret;exact⟨aD C.out.symm,BE.out⟩
  by_cases J:x2<1
  ·have C:=aS (B.out (.inr (.inr (.inl J))));have e2:decide (x2<1)=true:=lT J;clear J;go_wp2_with fail;go_ret;exact⟨aD C.out.symm,BE.out⟩
  have e2:decide (x2<1)=false:=iS J;by_cases Z:1073741824<x2
  ·have C:=aS (B.out (.inr (.inr (.inr (.inl Z)))));have e3:decide (1073741824<x2)=true:=lT Z;clear J Z;go_wp2_with fail;go_ret;exact⟨aD C.out.symm,BE.out⟩
  have e3:decide (1073741824<x2)=false:=iS Z;have N:=aS (aT J Z);clear J Z;go_wp2_with fail;clear e2 e3;rcases lE j with bx|bx
  ·subst bx;have al:=aS (kX (O:=O) (V:=V) HX.out (by rw[HM.out];exact an.out) am.out (by have:=N.out;simp only;omega) (by have:=N.out;simp only;omega) (fun h=>by omega));go_quiet (fail);go_wp2_with fail;go_roundg gh
   case measure=>omega
   case rel=>exact⟨1,rfl,by omega,aS (fun k hk=>by rw[show k=0 by omega];exact al.out),aS (P3.out.drewN _),aS (a8 BE.out _)⟩
  obtain⟨i,rfl⟩:∃i,j=i+1:=⟨j-1,by omega⟩;obtain⟨y,hy⟩:∃y,gs[i]?=some y:=⟨_,bY (by rw[HN.out];omega)⟩;obtain⟨bb,ob,b0,eb,b5,bf,b2,fb⟩:=a6.out i y hy;cases eb;have d0:=(BE.out.cell (p:=⟨ba,oa+i*2,none⟩) b5).trans bf;have b1:=aS (xa hy (HG.out i (by omega)));obtain⟨A2,k2,b4⟩:=fb.len;subst b4;have FB:=aS (fb.below BE.out);have a5:Hid (bR w3 (.slice A1 m k1) x1):=aS (by rw[<-HM.out];exact FA.out.below bB.out);have av:Hid (kB y.1 x1=cD (gs.getD (i+1-1) ([],0)).1 x1):=aS (by rw[show i+1-1=i by omega,mL hy];exact xE (by have h1:=b1.out;have h2:=an.out;have h3:=HM.out;omega));obtain⟨cv,a2⟩:∃c,kB y.1 x1=c:=⟨_,rfl⟩;rw[a2]at av;obtain⟨p,hp⟩:∃p,y.1.length=p:=⟨_,rfl⟩;rw[hp]at d0 FB;have CM:Hid (∀W',bR W' (.slice A2 p k2) y.1->bR W' (.slice A1 m k1) x1->Calls Tryz.prog 209 #[.slice A2 p k2,.slice A1 m k1] W' fun e w'=>e=.returned (.int .i64 cv)/\w'=W'):=aS (fun W' h1 h2=>by rw[<-a2];exact(ZE W' _ _ _ _ h1 h2).mono (fun e w' ⟨a,b⟩=>⟨a,b.symm⟩));have i1:IntKind.i64.wrap ((i:Int)+1-1)=(i:Int):=by rw[show(i:Int)+1-1=i by omega];exact aAw _ (by omega)
  have i2:IntKind.i64.wrap (i:Int)=(i:Int):=aAw _ (by omega);have j1:(0:Int)<=(i:Int):=by omega
  have j2:(i:Int)<(n:Int):=by omega
  have j3:decide ((0:Int)<(i:Int)+1)=true:=lT (by omega);have j4:decide (0<i+1)=true:=lT (by omega);clear hy bf b2 fb a2 hp;by_cases hc:cv<0
  ·have e5:decide (0<=cv)=false:=iS (by omega);have al:=aS (kX (O:=O) (V:=V) HX.out (by rw[HM.out];exact an.out) am.out (by have:=N.out;simp only;omega) (by have:=N.out;simp only;omega) (fun _=>by rw[<-av.out];exact hc));clear hc;go_quiet ((go_at_call 209;exact Calls.quiet_of_same (CM.out _ (FB.out.drewN _) (a5.out.drewN _))));go_wp2_with fail;go_roundg gh
   case measure=>omega
   case rel=>exact⟨i+1+1,rfl,by omega,aS (fun k hk=>by
    by_cases e:k=i+1
    ·rw[e];exact al.out
    ·exact HG.out k (by omega)),aS (P3.out.drewN _),aS (a8 BE.out _)⟩
  have e5:decide (0<=cv)=true:=lT (by omega);have C:=aS (B.out (.inr (.inr (.inr (.inr ⟨by omega,by rw[<-av.out];omega⟩)))));clear hc;go_quiet ((go_at_call 209;exact Calls.quiet_of_same (CM.out _ (FB.out.drewN _) (a5.out.drewN _))));go_wp2_with fail;go_ret;exact⟨aD C.out.symm,a8 BE.out _⟩
 have e1:((m:Int) != O)=true:=by simpa using Y
 have C:=aS (B.out (.inl Y));have BE:=aS (U.out.trans ((ga wr (.cells #[.slice A1 m k1,.int .i64 x2] 123)).mono U.out.size));clear Y;go_wp2_with fail;go_ret;exact⟨aD C.out.symm,BE.out⟩
section
theorem ie.open_{w v q}(h:ie w v q):∃A m c j B u,v=.agg #[.bool (ay q),.slice A m c,.slice j B u]:=by obtain⟨J,C,rfl,x,y⟩:=h;obtain⟨_,⟨⟨_,A,c,rfl,_⟩,_⟩,_⟩:=x;obtain⟨_,⟨⟨_,j,u,rfl,_⟩,_⟩,_⟩:=y;exact⟨_,_,_,_,_,_,rfl⟩

def uA(w:World)(b:Nat)(qs:List Rat):Prop:=∃xs,cg w b 31 xs/\xs.length=qs.length*3/\(∀x∈xs,oJ x)/\
 ∀(i:Nat)(q:Rat),qs[i]?=some q->∃A m c A' m' c',xs[i*3]?=some (.bool (ay q))/\xs[i*3+1]?=some (.slice A m c)/\xs[i*3+2]?=some (.slice A' m' c')/\ie w (.agg #[.bool (ay q),.slice A m c,.slice A' m' c']) q
section
variable {w w':World}{b:Nat}{qs:List Rat}
theorem uz.arc{base}(h:uz base w b qs):uA w b qs:=by
 obtain⟨_,xs,h1,h2,U⟩:=h;refine⟨xs,h1,h2,fun x hx=>?_,fun i q C=>?_⟩
 ·obtain⟨j,u⟩:=aAu.1 hx;have ad:=(dO.1 u).1;obtain⟨q,C⟩:∃q,qs[j/3]?=some q:=⟨_,bY (by omega)⟩;obtain⟨A,m,c,J,Y,N,e0,y,B,_⟩:=U _ q C;have hm:j=j/3*3∨j=j/3*3+1∨j=j/3*3+2:=by omega
  rcases hm with e|e|e
  ·rw[e,e0]at u;cases u;trivial
  ·rw[e,y]at u;cases u;trivial
  rw[e,B]at u;cases u;trivial
 obtain⟨A,m,c,J,Y,N,e0,y,B,Z⟩:=U i q C;exact⟨A,m,c,J,Y,N,e0,y,B,Z.at_⟩
theorem uA.lt(h:uA w b qs):b<w.heap.size:=by obtain⟨xs,j,_⟩:=h;exact j.lt
theorem uA.below(h:uA w b qs)(j:Below w.heap.size w w'):uA w' b qs:=by obtain⟨xs,J,N,Z,U⟩:=h;refine⟨xs,J.below' j,N,Z,fun i q Y=>?_⟩;obtain⟨A,m,c,u,m',x,e0,y,B,C⟩:=U i q Y;exact⟨A,m,c,u,m',x,e0,y,B,C.below j⟩
theorem uA.get(h:uA w b qs){i q}(U:qs[i]?=some q):∃A m c u y x,w.cell? ⟨b,i*3,none⟩=some (.bool (ay q))/\w.cell? ⟨b,i*3+1,none⟩=some (.slice A m c)/\w.cell? ⟨b,i*3+2,none⟩=some (.slice u y x) /\ w.frozen? ⟨b,i*3,none⟩=false/\w.frozen? ⟨b,i*3+1,none⟩=false/\w.frozen? ⟨b,i*3+2,none⟩=false/\ie w (.agg #[.bool (ay q),.slice A m c,.slice u y x]) q:=by obtain⟨xs,j,_,_,N⟩:=h;obtain⟨A,m,c,u,y,x,e0,B,C,J⟩:=N i q U;exact⟨A,m,c,u,y,x,(j.cell _).trans e0,(j.cell _).trans B,(j.cell _).trans C,j.frozen _,j.frozen _,j.frozen _,J⟩
end

def pL(w:World)(b:Nat)(q:Rat):Prop:=uA w b [q]
section
variable {w w':World}{b:Nat}{q:Rat}
theorem pL.below(h:pL w b q)(j:Below w.heap.size w w'):pL w' b q:=uA.below h j
theorem pL.lt(h:pL w b q):b<w.heap.size:=uA.lt h
theorem pL.get(h:pL w b q):∃A m c j x u,w.cell? ⟨b,0,none⟩=some (.bool (ay q))/\w.cell? ⟨b,1,none⟩=some (.slice A m c)/\w.cell? ⟨b,2,none⟩=some (.slice j x u) /\ w.frozen? ⟨b,0,none⟩=false/\w.frozen? ⟨b,1,none⟩=false/\w.frozen? ⟨b,2,none⟩=false/\ie w (.agg #[.bool (ay q),.slice A m c,.slice j x u]) q:=by have:=uA.get h (i:=0) (q:=q) rfl;simpa using this
theorem pL.of{A j m c y u}(h:cg w b 31 [.bool (ay q),.slice A m c,.slice j y u])(J:ie w (.agg #[.bool (ay q),.slice A m c,.slice j y u]) q):pL w b q:=by
 refine⟨_,h,rfl,?_,fun i r B=>?_⟩
 ·intro x C;simp only[Is,aCr,or_false]at C;rcases C with rfl|rfl|rfl<;>trivial
 cases i with
 |succ i=>simp at B
 |zero=>cases B;exact⟨A,m,c,j,y,u,rfl,rfl,rfl,J⟩
theorem pL.new{A j m c y u}(J:ie w (.agg #[.bool (ay q),.slice A m c,.slice j y u]) q):pL (w.alloc (.cells #[.bool (ay q),.slice A m c,.slice j y u] 31)) w.heap.size q:=by
 refine⟨_,cg.new w 31 [.bool (ay q),.slice A m c,.slice j y u],rfl,?_,fun i r B=>?_⟩
 ·intro x C;simp only[Is,aCr,or_false]at C;rcases C with rfl|rfl|rfl<;>trivial
 cases i with
 |succ i=>simp at B
 |zero=>cases B;exact⟨A,m,c,j,y,u,rfl,rfl,rfl,J.below ((Below.refl _ w).alloc (cC _) _)⟩
theorem pL.zero(w:World):pL (w.alloc (.cells #[.bool false,.slice none 0 0,.slice none 0 0] 31)) w.heap.size 0:=pL.new (w:=w) (q:=0) ((aB.zero_ 0 w).at_)
end
theorem row_at f j g:((List.range j).map f++List.replicate (g+1) (0:Rat))[j]?=some 0:=by rw[aAd (by simp),RW,aCk,aAS];rfl
end
def aR(k:Int)(a:Rat)(mix:List Rat)(O:Int):Bool:=
 if k=1 then decide (0<ci a)&&((mix.length:Int) == 0)
 else if k=2 then(ci a == 0)&&((mix.length:Int) == O+1)&&ni mix&&decide (0<ci (mix.getD 0 0))
 else if k=3 then !decide (0<=ci (a-1))&&(decide (0<ci a)&&((mix.length:Int) == 0))
 else if k=4 then(ci a == 0)&&((mix.length:Int) == 0)else false

theorem jx{w g e j u x y A B C J}(h:cg w g e [j,u,x,y,A,B,C,J]): w.cell? ⟨g,0,none⟩=some j/\w.cell? ⟨g,1,none⟩=some u/\w.cell? ⟨g,2,none⟩=some x/\w.cell? ⟨g,3,none⟩=some y/\w.cell? ⟨g,4,none⟩=some A/\w.cell? ⟨g,5,none⟩=some B/\w.cell? ⟨g,6,none⟩=some C/\w.cell? ⟨g,7,none⟩=some J:= ⟨h.cell 0,h.cell 1,h.cell 2,h.cell 3,h.cell 4,h.cell 5,h.cell 6,h.cell 7⟩

def uc(O V:Int)(lv:Value)(k:Int)(s:Bool)(A A':Option Addr)(m c m' c':Nat)(mv:Value):Value:=.agg #[.int .i64 O,.int .i64 V,lv,.int .i64 k,.bool s,.slice A m c,.slice A' m' c',mv]

theorem ct.open_{k w v qs}(h:ct k w v qs):∃A c,v=.slice A qs.length c/\qs.length<=c/\c<=9223372036854775807 /\ ∀j q,qs[j]?=some q->∃b off y B C,A=some ⟨b,off,none⟩/\b<w.heap.size/\w.cell? ⟨b,off+j*3,none⟩=some y/\w.cell? ⟨b,off+j*3+1,none⟩=some B/\w.cell? ⟨b,off+j*3+2,none⟩=some C/\aG k w (.agg #[y,B,C]) q:=by obtain⟨cells,Y,Z⟩:=h;obtain⟨h0,A,c,rfl,hc,hm,h5⟩:=Y;refine⟨A,c,rfl,hc,by unfold maxLen at hm;omega,fun j x J=>?_⟩;have hj:=(dO.1 J).1;obtain⟨b,off,e,hlt,u⟩:=h5 (by omega);obtain⟨y,B,C,e0,N,U,hf⟩:=Z j x J;exact⟨b,off,y,B,C,e,hlt,u _ _ e0,by have:=u _ _ N;rwa [<-aAo]at this,by have:=u _ _ U;rwa [<-aAo]at this,hf⟩

theorem VO w O V lv k s A A' m c m' c' mv a mix(ha:aG 64 w (.agg #[.bool s,.slice A m c,.slice A' m' c']) a)(hm:ct 64 w mv mix)(hl:mix.length<=1000000)(hO:1<=O/\O<=4)Al nl cl(bx:lv=.slice Al nl cl): Calls Tryz.prog 169 #[uc O V lv k s A A' m c m' c' mv] w fun e w'=>e=.returned (.bool (aR k a mix O))/\Below w.heap.size w w':=by
 subst bx;obtain⟨Am,cm,rfl,bB,b9,a4⟩:=hm.open_;have HM:=aS hm;have HA:=aS ha;have a9:=aS a4;have QA:=aS (ha.qb (by omega));clear hm ha a4;obtain⟨ml,al⟩:∃n,mix.length=n:=⟨_,rfl⟩;have bf:Hid (ct 64 w (.slice Am ml cm) mix):=aS (by rw[<-al];exact HM.out);rw[al]at bB hl⊢;have J:=aS al;clear al HM;unfold uc;go_enter Tryz.func169,Tryz.ntmps169;go_wp2_with fail;obtain⟨W,hW,P0,PB,b7⟩:=jy w 34 [.int .i64 O,.int .i64 V,.slice Al nl cl,.int .i64 k,.bool s,.slice A m c,.slice A' m' c',.slice Am ml cm];rw[<-hW];clear hW;obtain⟨p0,p1,p2,p3,p4,p5,p6,p7⟩:=jx P0.out;refine(Z7 W 1 (by omega) (by omega)).mono ?_;rintro e w1 ⟨u1,rfl,t1,j⟩;obtain⟨un,a1⟩:∃x:Rat,((1:Int):Rat)=x:=⟨_,rfl⟩;rw[a1]at t1;have a2:Hid (un=1):=aS (by rw[<-a1];rfl);clear a1;obtain⟨Ao,mo,co,a7,b4,bn,rfl⟩:=t1.at_.open_;have T1:=aS t1;have P1:=aS (P0.out.below' j);have B1:=aS (PB.out.trans (j.mono PB.out.size));clear p0 p1 p2 p3 p4 p5 p6 p7 t1 j P0 PB;obtain⟨p0,p1,p2,p3,p4,p5,p6,p7⟩:=jx P1.out;have s1:w.heap.size<w1.heap.size:=P1.out.lt;go_wp2_with fail;obtain⟨W2,a3,G0,GB,b6⟩:=jy w1 31 [.bool (ay un),.slice Ao mo co,.slice a7 b4 bn];rw[<-a3];clear a3;refine(Iz W2 _ a 64 ((HA.out.below B1.out).below GB.out) (by omega) (by omega)).mono ?_;rintro e w3 ⟨rfl,B⟩;have G3:Hid (pL w3 w1.heap.size un):=aS ((pL.of G0.out (T1.out.at_.below GB.out)).below B);have P3:=aS ((P1.out.below' GB.out).below' B);have N:=aS ((B1.out.trans (GB.out.mono B1.out.size)).trans (B.mono (by have:=B1.out.size;omega)));obtain⟨sg,a0⟩:∃z,ci a=z:=⟨_,rfl⟩;rw[a0];have ad:=aS a0;clear p0 p1 p2 p3 p4 p5 p6 p7 B G0 GB B1 P1 a0;obtain⟨p0,p1,p2,p3,p4,p5,p6,p7⟩:=jx P3.out;by_cases h1:k=1
 ·subst h1;obtain⟨U,j⟩:∃b,decide (0<sg)=b:=⟨_,rfl⟩;obtain⟨Y,y⟩:∃b,((ml:Int) == 0)=b:=⟨_,rfl⟩;have u:Hid (aR 1 a mix O=(U&&Y)):=aS (by unfold aR;rw[oR rfl,ad.out,J.out,j,y]);cases U<;>cases Y
  all_goals
   go_wp2_with fail;go_ret;exact⟨aV u.out.symm,N.out⟩
 have n1:(k == 1)=false:=by simpa using h1
 by_cases h2:k=2
 ·subst h2;clear n1 h1;obtain⟨U,j⟩:∃b,(sg == 0)=b:=⟨_,rfl⟩;obtain⟨Y,y⟩:∃b,((ml:Int) == O+1)=b:=⟨_,rfl⟩;obtain⟨b3,B⟩:∃b,ni mix=b:=⟨_,rfl⟩;obtain⟨s0,av⟩:∃z,ci (mix.getD 0 0)=z:=⟨_,rfl⟩;have u:Hid (aR 2 a mix O=(U&&Y&&b3&&decide (0<s0))):=aS (by unfold aR;rw[iF (by decide),oR rfl,ad.out,J.out,j,y,B,av]);have ba:=aS B;have bj:=aS av;clear B av;cases U
  ·simp only[aBZ]at u;go_wp2_with fail;go_ret;exact⟨aV u.out.symm,N.out⟩
  cases Y
  ·simp only[aBZ,aBk]at u;go_wp2_with fail;go_ret;exact⟨aV u.out.symm,N.out⟩
  have a6:0<ml:=by
   have:(ml:Int)=O+1:=by simpa using y
   omega
  obtain⟨x,hx⟩:∃x,mix[0]?=some x:=⟨_,bY (by rw[J.out];exact a6)⟩;obtain⟨bm,om,c0,c1,c2,rfl,am,e0,e1,e2,hf⟩:=a9.out 0 x hx;have HX:Hid (ci x=s0):=aS (by rw[<-bj.out,eM,hx];rfl);have HF:=aS hf;clear hx hf;rw[aCh,aAh]at e0 e1 e2;rw[aAh]at e1 e2;obtain⟨sx,A1,n1,k1,A2,n2,k2,rfl,rfl,rfl⟩:=HF.out.cells3;go_wp2_with fail;refine(yu w3 64 _ mix (bf.out.below N.out) (by omega) (by rw[J.out];omega)).mono ?_;rintro e w4 ⟨rfl,C⟩;rw[ba.out];have P4:=aS (P3.out.below' C);have Z:=aS (N.out.trans (C.mono N.out.size));have f0:=(Z.out.cell (p:=⟨bm,om,none⟩) am).trans e0;have f1:=(Z.out.cell (p:=⟨bm,om+1,none⟩) am).trans e1;have f2:=(Z.out.cell (p:=⟨bm,om+2,none⟩) am).trans e2;clear p0 p1 p2 p3 p4 p5 p6 p7 C P3 e0 e1 e2;obtain⟨p0,p1,p2,p3,p4,p5,p6,p7⟩:=jx P4.out;cases b3
  ·simp only[aBZ,aBk]at u;go_wp2_with fail;go_ret;exact⟨aV u.out.symm,Z.out⟩
  simp only[aAL]at u;go_wp2_with fail;refine(Iz w4 _ x 64 (HF.out.below Z.out) (by omega) (by omega)).mono ?_;rintro e w5 ⟨rfl,a5⟩;rw[HX.out];have B5:=aS (Z.out.trans (a5.mono Z.out.size));clear a5;go_wp2_with fail;go_ret;exact⟨aV u.out.symm,B5.out⟩
 have n2:(k == 2)=false:=by simpa using h2
 by_cases h3:k=3
 ·subst h3;clear n1 n2 h1 h2;obtain⟨Ax,mx,cx,b5,ca,b8,x0,x1,x2,_,_,_,tx⟩:=G3.out.get;have TX:=aS (tx.frac (k:=64) ((by rw[a2.out];exact dA (n:=1) (k:=64) (by omega) (by omega))) (by omega));clear tx;obtain⟨cv,an⟩:∃z,ci (a-un)=z:=⟨_,rfl⟩;obtain⟨b0,bo⟩:∃b,decide (0<=cv)=b:=⟨_,rfl⟩;obtain⟨U,j⟩:∃b,decide (0<sg)=b:=⟨_,rfl⟩;obtain⟨Y,y⟩:∃b,((ml:Int) == 0)=b:=⟨_,rfl⟩;have u:Hid (aR 3 a mix O=(!b0&&(U&&Y))):=aS (by unfold aR;rw[iF (by decide),iF (by decide),oR rfl,ad.out,J.out,<-a2.out,an,bo,j,y]);have bd:=aS an;clear an;go_wp2_with fail;refine(WJ w3 _ _ a un 64 (HA.out.below N.out) TX.out (by omega) (by omega)).mono ?_;rintro e w4 ⟨rfl,C⟩;rw[bd.out];have P4:=aS (P3.out.below' C);have Z:=aS (N.out.trans (C.mono N.out.size));clear p0 p1 p2 p3 p4 p5 p6 p7 x0 x1 x2 C P3;obtain⟨p0,p1,p2,p3,p4,p5,p6,p7⟩:=jx P4.out;cases b0
  ·cases U<;>cases Y
   all_goals
    go_wp2_with fail;go_ret;exact⟨aV u.out.symm,Z.out⟩
  simp only[aBu,aBZ]at u;go_wp2_with fail;go_ret;exact⟨aV u.out.symm,Z.out⟩
 have n3:(k == 3)=false:=by simpa using h3
 by_cases h4:k=4
 ·subst h4;clear n1 n2 n3 h1 h2 h3;obtain⟨U,j⟩:∃b,(sg == 0)=b:=⟨_,rfl⟩;obtain⟨Y,y⟩:∃b,((ml:Int) == 0)=b:=⟨_,rfl⟩;have u:Hid (aR 4 a mix O=(U&&Y)):=aS (by unfold aR;rw[iF (by decide),iF (by decide),iF (by decide),oR rfl,ad.out,J.out,j,y]);cases U<;>cases Y
  all_goals
   go_wp2_with fail;go_ret;exact⟨aV u.out.symm,N.out⟩
 have n4:(k == 4)=false:=by simpa using h4
 have u:Hid (aR k a mix O=false):=aS (by unfold aR;rw[iF h1,iF h2,iF h3,iF h4]);clear h1 h2 h3 h4;go_wp2_with fail;go_ret;exact⟨aV u.out.symm,N.out⟩
end Go.Proofs.YtfoceannfdbinaaGreat

namespace Go.Proofs.YtfoceannfdbinaaGreat
open Go.RowKit
def Ch(gs:List Gr)(v:Nat):Prop:=(∀g∈gs,0<g.2/\g.2<=1073741824)/\gs.length<=20000/\(∀g∈gs,∀x∈g.1,x<=(v:Int))/\v<=8
theorem Ch.mild{gs v}(h:Ch gs v)O n hs:gw (aU O gs n hs):=CD h.1 h.2.1 (O-n) hs
end Go.Proofs.YtfoceannfdbinaaGreat
