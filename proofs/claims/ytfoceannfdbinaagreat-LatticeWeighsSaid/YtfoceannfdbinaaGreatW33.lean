/- Lemmas. -/
import Derived.Test.YtfoceannfdbinaaGreatW30
import Derived.Deep.RegionLaw
import Derived.Maps.RangeRun
set_option linter.all false
set_option maxRecDepth 1000000
set_option maxHeartbeats 32000000
namespace Go.Proofs.YtfoceannfdbinaaGreat
open Go.RowKit
abbrev Gr:=List Int×Int
def Y0(v u:Value):Prop:=∀ad n c,u=.slice (some ad) n c->yz v ad.block
def Xq(w:World)(u:Value)(base:Nat)(cells:List Value)(gs:List Gr):Prop:=
 ∀i g,gs[i]?=some g->∃c0,cells[i*2]?=some c0/\cells[i*2+1]?=some (.int .i64 g.2)/\bR w c0 g.1/\bP c0 base/\Y0 c0 u
def yA(base:Nat)(w:World)(v:Value)(gs:List Gr):Prop:=∃cells,w.ownsRow base 123 2 v gs.length cells/\Xq w v base cells gs
def iE(w:World)(v:Value)(gs:List Gr):Prop:=∃cells,Sl w 2 v gs.length cells/\∀i g,gs[i]?=some g->∃c0,cells[i*2]?=some c0/\cells[i*2+1]?=some (.int .i64 g.2)/\bR w c0 g.1
theorem yA.at_{base w v gs}(h:yA base w v gs):iE w v gs:=by obtain⟨cells,y,A⟩:=h;refine⟨cells,Sl.of_own y,fun i g B=>?_⟩;obtain⟨j,e0,u,x,_⟩:=A i g B;exact⟨j,e0,u,x⟩
theorem iE.below{w w' v gs}(h:iE w v gs)(j:Below w.heap.size w w'):iE w' v gs:=by obtain⟨cells,A,B⟩:=h;refine⟨cells,A.below j,fun i g C=>?_⟩;obtain⟨u,e0,x,y⟩:=B i g C;exact⟨u,e0,x,y.below j⟩
theorem K2{w w' base e sz v n xs}(h:w.ownsRow base e sz v n xs)(y:Below w.heap.size w w'):w'.ownsRow base e sz v n xs:=by
 obtain⟨u,x|⟨g,cap,j,C,A,hh,B⟩⟩:=h
 ·exact⟨u,.inl x⟩
 exact⟨u,.inr ⟨g,cap,j,C,A,(y.block g (IF.1 hh).1).trans hh,B⟩⟩
theorem yA.below{base w w' v gs}(h:yA base w v gs)(j:Below w.heap.size w w'):yA base w' v gs:=by obtain⟨cells,C,J⟩:=h;refine⟨cells,K2 C j,fun i g N=>?_⟩;obtain⟨u,e0,x,y,A,B⟩:=J i g N;exact⟨u,e0,x,y.below j,A,B⟩
theorem iE.open_{w v gs}(h:iE w v gs):∃A c,v=.slice A gs.length c/\gs.length<=c/\c<=9223372036854775807 /\ ∀j g,gs[j]?=some g->∃b off y,A=some ⟨b,off,none⟩/\b<w.heap.size/\w.cell? ⟨b,off+j*2,none⟩=some y/\w.cell? ⟨b,off+j*2+1,none⟩=some (.int .i64 g.2)/\bR w y g.1:=by obtain⟨cells,J,N⟩:=h;obtain⟨Z,A,c,rfl,Y,hm,U⟩:=J;refine⟨A,c,rfl,Y,by unfold maxLen at hm;omega,fun j x B=>?_⟩;have hj:=(dO.1 B).1;obtain⟨b,off,e,hlt,u⟩:=U (by omega);obtain⟨y,e0,C,hf⟩:=N j x B;exact⟨b,off,y,e,hlt,u _ _ e0,by have:=u _ _ C;rwa [<-aAo]at this,hf⟩

theorem bR.len{w v l}(h:bR w v l):∃A c,v=.slice A l.length c:=by obtain⟨A,c,e,_⟩:=h.open_;exact⟨A,c,e⟩
theorem Sl.head{w sz A c n k xs}(h:Sl w sz (.slice A n c) n xs)(N:k<=n):Sl w sz (.slice A k c) k (xs.take (k*sz)):=by obtain⟨h0,Z,c',x,h2,y,B⟩:=h;cases x;have Y:k*sz<=n*sz:=Mt _ N;refine⟨by rw[Io];omega,A,c,rfl,by omega,y,fun U=>?_⟩;obtain⟨b,off,rfl,C,J⟩:=B (by omega);exact⟨b,off,rfl,C,fun j u hu=>J j u (by rw[aBD]at hu;split at hu<;>simp_all)⟩
theorem Sl.tail{w sz b off c n k xs}(h:Sl w sz (.slice (some ⟨b,off,none⟩) n c) n xs)(hk:k<=n):Sl w sz (.slice (some ⟨b,off+k*sz,none⟩) (n-k) (c-k)) (n-k) (xs.drop (k*sz)):=by obtain⟨y,U,Z,A,h2,h3,B⟩:=h;cases A;refine⟨by rw[Rw,y,Nat.sub_mul],_,_,rfl,by omega,by omega,fun N=>?_⟩;obtain⟨Y,x,e,C,J⟩:=B (by omega);cases e;refine⟨b,off+k*sz,rfl,C,fun j u hu=>?_⟩;rw[aBo]at hu;rw[aAo];exact J _ u hu
theorem Sl.none_ w sz A c(j:c<=maxLen):Sl w sz (.slice A 0 c) 0 []:=⟨by simp,A,c,rfl,No _,j,fun h=>absurd h (by omega)⟩
theorem zH{α:Type}{l:List α}{k x}(h:l[k]?=some x):l.drop k=x::l.drop (k+1):=by obtain⟨j,rfl⟩:=dO.1 h;exact AT j
theorem Og{w:World}{base j e sz v n xs}(h:w.ownsRow base e sz v n xs)(A:j<=base):w.ownsRow j e sz v n xs:=by
 obtain⟨x,y|⟨g,cap,u,J,B,C⟩⟩:=h
 ·exact⟨x,.inl y⟩
 exact⟨x,.inr ⟨g,cap,u,J,EM A B,C⟩⟩
theorem Sl.two(w:World)x y e:Sl (w.alloc (.cells #[x,y] e)) 2 (.slice (some ⟨w.heap.size,0,none⟩) 1 1) 1 [x,y]:=by have:=(cg.new w e [x,y]).sl (sz:=2) (n:=1) (c:=1) (by simp) (by omega) (by unfold maxLen;omega);simpa using this
theorem bR.off{w v l}(h:bR w v l){F}(hf:w.heap.size<=F):yz v F:=Sl.off h hf
def putL:List Gr->List Int->Int->List Gr
 | [],ws,n=>[(ws,n)]
 |g::gs,ws,n=>if cD g.1 ws<0 then g::putL gs ws n else if cD g.1 ws=0 then(g.1,g.2+n)::gs else(ws,n)::g::gs
theorem IQ{gs ws n k}(h:∀i g,i<k->gs[i]?=some g->cD g.1 ws<0)(j:k<=gs.length):putL gs ws n=gs.take k++putL (gs.drop k) ws n:=by
 induction k generalizing gs with
 |zero=>simp
 |succ k ih=>
  cases gs with
  |nil=>simp at j
  |cons g gs=>have u:=h 0 g (by omega) rfl;simp only[putL,oR u,List.take_succ_cons,List.drop_succ_cons,aAy];rw[ih (fun i x hi y=>h (i+1) x (by omega) (by simpa using y)) (by simpa using j)]
def vi(w:World)(v:Value)(ls:List (List Int)):Prop:=∃cells,Sl w 1 v ls.length cells/\∀(i:Nat)(l:List Int),ls[i]?=some l->∃c0,cells[i]?=some c0/\bR w c0 l
theorem vi.below{w w' v u}(h:vi w v u)(j:Below w.heap.size w w'):vi w' v u:=by obtain⟨cells,A,B⟩:=h;refine⟨cells,A.below j,fun i l hl=>?_⟩;obtain⟨x,e0,y⟩:=B i l hl;exact⟨x,e0,y.below j⟩
def oL(F:Nat)(w:World)(v:Value)(ls:List (List Int)):Prop:=∃cells,Sl w 1 v ls.length cells/\bP v F/\∀(i:Nat)(l:List Int),ls[i]?=some l->∃c0,cells[i]?=some c0/\bR w c0 l/\bP c0 F
theorem oL.at_{F w v j}(h:oL F w v j):vi w v j:=by obtain⟨cells,y,_,A⟩:=h;exact⟨cells,y,fun i l hl=>by obtain⟨u,e0,x,_⟩:=A i l hl;exact⟨u,e0,x⟩⟩
def YO(F:Nat)(w w':World):Prop:=w.heap.size<=w'.heap.size/\∀b,F<=b->b<w.heap.size->w'.heap[b]?=w.heap[b]?
theorem BQ{w w':World}{b}(h:w'.heap[b]?=w.heap[b]?)o:w'.cell? ⟨b,o,none⟩=w.cell? ⟨b,o,none⟩:=by simp only[World.cell?,h]
theorem Sl.same{F w w' sz v n xs}(h:Sl w sz v n xs)(hf:bP v F)(hs:YO F w w'):Sl w' sz v n xs:=by obtain⟨x,A,c,rfl,y,B,C⟩:=h;refine⟨x,A,c,rfl,y,B,fun hn=>?_⟩;obtain⟨b,off,e,hlt,J⟩:=C hn;subst e;exact⟨b,off,rfl,TK hlt hs.1,fun j u hu=>(BQ (hs.2 b (hf _ _ _ rfl) hlt) _).trans (J j u hu)⟩
theorem oL.same{F w w' v u}(h:oL F w v u)(hs:YO F w w'):oL F w' v u:=by obtain⟨cells,A,hf,B⟩:=h;refine⟨cells,A.same hf hs,hf,fun i l hl=>?_⟩;obtain⟨x,e0,y,j⟩:=B i l hl;exact⟨x,e0,Sl.same y j hs,j⟩
def Ri(m:Nat)(K:Nat)(gs:List Gr):Prop:=gs.length<=K/\∀g∈gs,g.1.length=m+1/\0<=g.2/\g.2<=K
theorem rh{gs ws n g}(h:g∈putL gs ws n):g∈gs∨g=(ws,n)∨∃x∈gs,g=(x.1,x.2+n):=by
 induction gs with
 |nil=>simp[putL]at h;exact .inr (.inl h)
 |cons x gs ih=>
  unfold putL at h;split at h
  ·rcases Is.1 h with rfl|h
   ·exact .inl (by simp)
   rcases ih h with h|h|⟨y,hy,e⟩
   ·exact .inl (by simp[h])
   ·exact .inr (.inl h)
   exact .inr (.inr ⟨y,by simp[hy],e⟩)
  split at h
  ·rcases Is.1 h with rfl|h
   ·exact .inr (.inr ⟨x,by simp,rfl⟩)
   exact .inl (by simp[h])
  rcases Is.1 h with rfl|h
  ·exact .inr (.inl rfl)
  exact .inl h
theorem Dg gs ws n:(putL gs ws n).length<=gs.length+1:=by
 induction gs with
 |nil=>simp[putL]
 |cons x gs ih=>
  unfold putL;split
  ·simp;omega
  split<;>simp
theorem Ri.mono{m K j gs}(h:Ri m K gs)(x:K<=j):Ri m j gs:=⟨EM h.1 x,fun g u=>by have:=h.2 g u;omega⟩

theorem yA.mono{base j w v gs}(h:yA base w v gs)(u:j<=base):yA j w v gs:=by obtain⟨cells,J,N⟩:=h;refine⟨cells,Og J u,fun i g U=>?_⟩;obtain⟨x,e0,y,A,B,C⟩:=N i g U;exact⟨x,e0,y,A,B.mono u,C⟩
theorem yA.len{base w v gs}(h:yA base w v gs):∃A c,v=.slice A gs.length c:=by obtain⟨A,c,e,_⟩:=h.at_.open_;exact⟨A,c,e⟩
end Go.Proofs.YtfoceannfdbinaaGreat

namespace Go.Proofs.YtfoceannfdbinaaGreat
open Go.RowKit
def iy{α:Type}(P:α->Bool):List α->Nat->Int
 | [],_=>-1
 |x::l,j=>if P x then(j:Int)else iy P l (j+1)
theorem GN{α}P(l:List α)j:decide (0<=iy P l j)=l.any P:=by
 induction l generalizing j with
 |nil=>simp[iy]
 |cons x l ih=>
  unfold iy;cases h:P x
  ·simp[h,ih (j+1)]
  simp[h]
theorem Ep{α}P{l:List α}{j x}(h:l[j]?=some x):iy P (l.drop j) j=if P x then(j:Int)else iy P (l.drop (j+1)) (j+1):=by
 have u:j<l.length:=(dO.1 h).1;rw[AT u];have:l[j]=x:=by rw[bY u]at h;injection h
 rw[this];rfl

theorem Pr w v l(F:Nat)caps P(h:bR w v l)(hn:l.length<=9223372036854775807)(hF:∀(W:World)(args:Array Value),(callFunc F args).run Tryz.prog W=.ok (.enter F args) W)(hf:∀W x a,Below w.heap.size w W->x∈l->a=Value.int .i64 x->Calls Tryz.prog F (#[a]++caps) W fun e w'=>e=.returned (.bool (P x))/\Below W.heap.size W w'): Calls Tryz.prog 176 #[v,.func (.func F) #[] caps] w fun e w'=>e=.returned (.int .i64 (iy P l 0))/\Below w.heap.size w w':=by
 obtain⟨A,c,rfl,am,an,N⟩:=h.open_;have ad:=aS N;have HF:=aS hf;clear h N hf;obtain⟨n,B⟩:∃n,l.length=n:=⟨_,rfl⟩;have C:=aS B;rw[B]at am hn⊢;clear B;go_enter Tryz.func176,Tryz.ntmps176;go_wp2_with fail;go_loopg [5,8] n (fun g _ i wr=>∃(j:Nat),i=.int .i64 j/\j+g=n/\Hid (iy P l 0=iy P (l.drop j) j)/\Hid (Below w.heap.size w wr))
 case atStart=>exact⟨0,rfl,by omega,aS rfl,aS (Below.refl _ _)⟩
 obtain⟨j,rfl,hj,HQ,u⟩:=hrel;have U:w.heap.size<=wr.heap.size:=u.out.size;rcases lE gk with h|h
 ·obtain rfl:j=n:=by omega
  have J:Hid (iy P l 0 = -1):=aS (by rw[HQ.out,AS (by rw[C.out];exact cC _)];rfl);go_wp2_with fail;go_ret;exact⟨aD J.out.symm,u.out⟩
 obtain⟨g,rfl⟩:∃g,gk=g+1:=⟨gk-1,by omega⟩;obtain⟨x,Z⟩:∃x,l[j]?=some x:=⟨_,bY (by rw[C.out];omega)⟩;obtain⟨ba,oa,rfl,al,e0⟩:=ad.out j x Z;have d0:=(u.out.cell (p:=⟨ba,oa+j,none⟩) al).trans e0;clear e0;have DR:=aS (Ep P Z);have HX:=aS Z;clear Z;have hlt:(j:Int)<(n:Int):=by omega
 have Y:=HF.out wr x _ u.out (eQ HX.out) rfl;cases hd:P x with
 |true=>rw[hd]at Y;have J:Hid (iy P l 0=j):=aS (by rw[HQ.out,DR.out,hd,oR rfl]);clear hd;go_wp2_with fail;refine Y.mono ?_;rintro e w1 ⟨rfl,y⟩;have B1:=aS y;clear y;go_wp2_with fail;go_ret;exact⟨aD J.out.symm,u.out.trans (B1.out.mono U)⟩
 |false=>
  rw[hd]at Y;have J:Hid (iy P l 0=iy P (l.drop (j+1)) (j+1)):=aS (by rw[HQ.out,DR.out,hd];rfl);clear hd;go_wp2_with fail;refine Y.mono ?_;rintro e w1 ⟨rfl,y⟩;have B1:=aS y;clear y;go_wp2_with fail;go_roundg g
  case measure=>omega
  case rel=>exact⟨j+1,rfl,by omega,J,aS (u.out.trans (B1.out.mono U))⟩

theorem EI w v l(F:Nat)caps P(h:bR w v l)(hn:l.length<=9223372036854775807)(C:∀(W:World)(args:Array Value),(callFunc F args).run Tryz.prog W=.ok (.enter F args) W)(hf:∀W x a,Below w.heap.size w W->x∈l->a=Value.int .i64 x->Calls Tryz.prog F (#[a]++caps) W fun e w'=>e=.returned (.bool (P x))/\Below W.heap.size W w'): Calls Tryz.prog 133 #[v,.func (.func F) #[] caps] w fun e w'=>e=.returned (.bool (l.any P))/\Below w.heap.size w w':=by have B:=aS (Pr w v l F caps P h hn C hf);have y:=aS (GN P l 0);obtain⟨A,c,rfl,N,J,_⟩:=h.open_;clear h hf;generalize iy P l 0=r at *;go_enter Tryz.func133,Tryz.ntmps133;go_wp2_with fail;refine B.out.mono ?_;rintro e U ⟨rfl,j⟩;have u:=aS j;clear j;go_wp2_with fail;go_ret;exact⟨aV (by rw[<-y.out]),u.out⟩

theorem VW w o v: Calls Tryz.prog 207 #[.int .i64 o,.int .i64 v] w fun e w'=>e=.returned (.bool (dL o v))/\Below w.heap.size w w':=by
 have y:Hid (dL o v=(decide (1<=o)&&decide (o<=4)&&decide (1<=v)&&decide (v<=2000))):=aS rfl;by_cases u:1<=o
 ·have d1:=lT u;by_cases x:o<=4
  ·have d2:=lT x;by_cases A:1<=v
   ·have d3:=lT A;by_cases B:v<=2000
    ·have d4:=lT B;have j:Hid (dL o v=true):=aS (by rw[y.out,d1,d2,d3,d4];rfl);clear u x A B;go_enter Tryz.func207,Tryz.ntmps207;go_wp2_with fail;go_ret;exact⟨aV j.out.symm,Below.refl _ _⟩
    have d4:=iS B;have j:Hid (dL o v=false):=aS (by rw[y.out,d1,d2,d3,d4];rfl);clear u x A B;go_enter Tryz.func207,Tryz.ntmps207;go_wp2_with fail;go_ret;exact⟨aV j.out.symm,Below.refl _ _⟩
   have d3:=iS A;have j:Hid (dL o v=false):=aS (by rw[y.out,d1,d2,d3];rfl);clear u x A;go_enter Tryz.func207,Tryz.ntmps207;go_wp2_with fail;go_ret;exact⟨aV j.out.symm,Below.refl _ _⟩
  have d2:=iS x;have j:Hid (dL o v=false):=aS (by rw[y.out,d1,d2];rfl);clear u x;go_enter Tryz.func207,Tryz.ntmps207;go_wp2_with fail;go_ret;exact⟨aV j.out.symm,Below.refl _ _⟩
 have d1:=iS u;have j:Hid (dL o v=false):=aS (by rw[y.out,d1];rfl);clear u;go_enter Tryz.func207,Tryz.ntmps207;go_wp2_with fail;go_ret;exact⟨aV j.out.symm,Below.refl _ _⟩

theorem Rr w x lo hi y A(J:w.cell? ⟨y,0,none⟩=some (.int .i64 lo))(N:w.cell? ⟨A,0,none⟩=some (.int .i64 hi)): Calls Tryz.prog 219 #[.int .i64 x,.pointer (some ⟨y,0,none⟩),.pointer (some ⟨A,0,none⟩)] w fun e w'=>e=.returned (.bool (!(decide (lo<=x)&&decide (x<=hi))))/\Below w.heap.size w w':=by
 by_cases d:lo<=x
 ·have j:=aS (lT d);have C:decide (x<lo)=false:=iS (by omega);by_cases d2:x<=hi
  ·have u:=aS (lT d2);have B:decide (hi<x)=false:=iS (by omega);clear d d2;go_enter Tryz.func219,Tryz.ntmps219;go_wp2_with fail;go_ret;exact⟨aV (by rw[j.out,u.out];rfl),Below.refl _ _⟩
  have u:=aS (iS d2);have B:decide (hi<x)=true:=lT (by omega);clear d d2;go_enter Tryz.func219,Tryz.ntmps219;go_wp2_with fail;go_ret;exact⟨aV (by rw[j.out,u.out];rfl),Below.refl _ _⟩
 have j:=aS (iS d);have C:decide (x<lo)=true:=lT (by omega);clear d;go_enter Tryz.func219,Tryz.ntmps219;go_wp2_with fail;go_ret;exact⟨aV (by rw[j.out];rfl),Below.refl _ _⟩

theorem Uq lo hi l:(!l.any fun x=>!(decide (lo<=x)&&decide (x<=hi)))=pU lo hi l:=by
 induction l with
 |nil=>rfl
 |cons x l ih=>simp only[List.any_cons,pU,aAR]at ih⊢;rw[Bool.not_or,Bool.not_not,ih]

theorem Rq w v l lo hi(h:bR w v l): Calls Tryz.prog 208 #[v,.int .i64 lo,.int .i64 hi] w fun e w'=>e=.returned (.bool (pU lo hi l))/\Below w.heap.size w w':=by have u:=aS h;have N:=aS (Uq lo hi l);obtain⟨A,c,rfl,am,al,_⟩:=h.open_;clear h;go_enter Tryz.func208,Tryz.ntmps208;go_wp2_with fail;obtain⟨W,B,Y,Z,y,ad⟩:=mb w 3 [.int .i64 lo] 3 [.int .i64 hi];rw[<-B];clear B;have J:=aS (EI W _ l 219 #[.pointer (some ⟨w.heap.size,0,none⟩),.pointer (some ⟨w.heap.size+1,0,none⟩)] (fun x=>!(decide (lo<=x)&&decide (x<=hi))) (u.out.below y.out) (by have:=u.out.le;unfold maxLen at this;omega) (fun _ _=>by kernel_rfl) (fun U x a hb hx e=>by subst e;exact Rr U x lo hi _ _ ((Y.out.below' hb).cell 0) ((Z.out.below' hb).cell 0)));go_wp2_with fail;refine J.out.mono ?_;rintro e w1 ⟨rfl,j⟩;have C:=aS (y.out.trans (j.mono (by omega)));clear j;go_wp2_with fail;go_ret;exact⟨aV (by have:=N.out;simpa using this),C.out⟩
def fV(l:List Int):List Int:=l.map (·+1)++List.replicate (4-l.length) 0
def d5(l:List Int):Value:=.agg ((fV l).map (Value.int .i64)).toArray
theorem fc{l}(h:l.length<=4):(fV l).length=4:=by simp[fV];omega
theorem zn{l:List Int}{j x}(h:l.length<=4)(y:l[j]?=some x):(fV (l.take j)).set j (x+1)=fV (l.take (j+1)):=by
 have B:=(dO.1 y).1;have u:(l.take j).length=j:=by rw[Io];omega
 have A:(l.take (j+1)).length=j+1:=by rw[Io];omega
 unfold fV;rw[u,A,aY l y,aCc _ _ (by simp;omega),aAe,List.append_assoc];congr 1;rw[RW,u,aAS,show 4-j=(4-(j+1))+1 by omega,aAW];rfl
theorem PI{l:List Int}(h:l.length=4):∃a b c d,l=[a,b,c,d]:=by
 match l,h with
 | [a,b,c,d],_=>exact⟨a,b,c,d,rfl⟩

theorem Pc w v l(h:bR w v l)(hl:l.length<=4)(hb:∀x∈l,-1000000<=x/\x<=1000000): Calls Tryz.prog 226 #[v] w fun e w'=>e=.returned (d5 l)/\Below w.heap.size w w':=by
 obtain⟨A,c,rfl,al,an,N⟩:=h.open_;have Z:=aS N;have HB:=aS hb;have HL:=aS hl;clear h N hb;obtain⟨n,hn⟩:∃n,l.length=n:=⟨_,rfl⟩;rw[hn]at al hl⊢;have HN:=aS hn;clear hn;obtain⟨k0,k1,k2,k3,hk⟩:=PI (fc HL.out);have HK:=aS hk;clear hk;go_enter Tryz.func226,Tryz.ntmps226;go_wp2_with fail;obtain⟨W,hW,P0,P1,PB,am⟩:=mb w 295 [.int .i64 0,.int .i64 0,.int .i64 0,.int .i64 0] 295 [.int .i64 0,.int .i64 0,.int .i64 0,.int .i64 0];rw[<-hW];clear hW;go_loopg [4,5,8] n (fun gh _ _ i wr=>∃(j:Nat),i=.int .i64 j/\j+gh=n/\Hid (cg wr (w.heap.size+1) 295 ((fV (l.take j)).map (Value.int .i64)))/\Hid (cg wr w.heap.size 295 [.int .i64 0,.int .i64 0,.int .i64 0,.int .i64 0])/\Hid (Below w.heap.size w wr))
 case atStart=>exact⟨0,rfl,by omega,P1,P0,PB⟩
 obtain⟨j,rfl,hj,U,B,J⟩:=hrel;rcases lE gk with h|h
 ·obtain rfl:j=n:=by omega
  have HE:Hid ((fV (l.take j)).map (Value.int .i64)=[.int .i64 k0,.int .i64 k1,.int .i64 k2,.int .i64 k3]):=aS (by rw[Ge (by rw[HN.out];exact cC _),HK.out];rfl);have y:Hid (cg wr (w.heap.size+1) 295 [.int .i64 k0,.int .i64 k1,.int .i64 k2,.int .i64 k3]):=aS (by rw[<-HE.out];exact U.out);have b0:=y.out.cell 0;have b1:=y.out.cell 1;have b2:=y.out.cell 2;have b3:=y.out.cell 3;have r0:=B.out.cell 0;have r1:=B.out.cell 1;have r2:=B.out.cell 2;have r3:=B.out.cell 3;have z0:=B.out.frozen 0;have z1:=B.out.frozen 1;have z2:=B.out.frozen 2;have z3:=B.out.frozen 3;simp only[aAb,Em]at b0 b1 b2 b3 r0 r1 r2 r3;go_wp2_with fail;refine IN (v:=.agg #[.int .i64 k0,.int .i64 k1,.int .i64 k2,.int .i64 k3]) (by simp[results,Tryz.results226,go_sem,r0,r1,r2,r3]) rfl ⟨by unfold d5;rw[HK.out];rfl,?_⟩;exact(((J.out.setCell (p:=⟨w.heap.size,0,none⟩) (cC _) _).setCell (p:=⟨w.heap.size,1,none⟩) (cC _) _).setCell (p:=⟨w.heap.size,2,none⟩) (cC _) _).setCell (p:=⟨w.heap.size,3,none⟩) (cC _) _
 obtain⟨g,rfl⟩:∃g,gk=g+1:=⟨gk-1,by omega⟩;obtain⟨x,Y⟩:∃x,l[j]?=some x:=⟨_,bY (by rw[HN.out];omega)⟩;obtain⟨ba,oa,rfl,ad,e0⟩:=Z.out j x Y;have d0:=(J.out.cell (p:=⟨ba,oa+j,none⟩) ad).trans e0;have av:=HB.out x (eQ Y);have ST:=aS (zn HL.out Y);have C:j<((fV (l.take j)).map (Value.int .i64)).length:=by rw[RW,fc (by rw[Io];omega)];omega
 obtain⟨u,hu⟩:∃u,((fV (l.take j)).map (Value.int .i64))[j]?=some u:=⟨_,bY C⟩;have b0:wr.cell? ⟨w.heap.size+1,j,none⟩=some u:=(U.out.cell j).trans hu;have z0:=U.out.frozen j;clear Y e0 C hu;go_wp2_with fail;go_roundg g
 case measure=>omega
 case rel=>exact⟨j+1,rfl,by omega,aS (by have:=U.out.set_ j (.int .i64 (x+1));rw[<-aBH,ST.out]at this;exact this),aS (B.out.far (p:=⟨w.heap.size+1,j,none⟩) (by show w.heap.size≠w.heap.size+1;omega) _),aS (J.out.setCell (p:=⟨w.heap.size+1,j,none⟩) (by show w.heap.size<=w.heap.size+1;omega) _)⟩
section
open Go.Maps (Keyed)
open Go.ChangeMaps (setBlock)
open Go.MapKept

def eH(es:List (Value×Value)):List MapEntry:=es.mapIdx fun i e=>⟨e.1,e.2,i⟩
def bE(P:Program)(w:World)(k:TypeId)(b:Nat)(es:List (Value×Value)):Prop:=
 w.heap[b]?=some (.map (eH es).toArray es.length)/\(∀e∈es,∃l,keyOf P k e.1=some l)/\(es.map Prod.fst).Nodup
theorem dy es(i:Nat):(eH es)[i]?=(es[i]?).map fun e=>⟨e.1,e.2,i⟩:=by unfold eH;rw[List.getElem?_mapIdx]
theorem rV{es e}(h:e∈eH es):∃i x,es[i]?=some x/\e=⟨x.1,x.2,i⟩:=by
 obtain⟨i,hi⟩:=aAu.1 h;rw[dy]at hi;cases hx:es[i]? with
 |none=>rw[hx]at hi;cases hi
 |some x=>rw[hx]at hi;cases hi;exact⟨i,x,hx,rfl⟩
theorem cP es:(eH es).length=es.length:=by simp[eH]
theorem zF es x:eH (es++[x])=eH es++[⟨x.1,x.2,es.length⟩]:=by
 apply aAa;intro i;rw[dy];rcases aBL i es.length with h|h|h
 ·rw[aAp h,aAp (by rw[cP];exact h),dy]
 ·subst h;rw[aAd (cC _),aAd (by rw[cP];exact cC _)];simp[cP]
 rw[aAd (by omega),aAd (by rw[cP];omega),As.2 (by simp;omega),As.2 (by simp[cP];omega)];rfl

section
variable {P:Program}{k e t:TypeId}{w:World}{b:Nat}{es:List (Value×Value)}
theorem bE.lt(h:bE P w k b es):b<w.heap.size:=(IF.1 h.1).1
theorem bE.kept{w' row}(h:bE P w k b es)(u:w.grownBy w' row)(j:some b≠row):bE P w' k b es:=⟨(u.block b h.lt j).trans h.1,h.2⟩
theorem bE.below{w'}(h:bE P w k b es)(j:Below w.heap.size w w'):bE P w' k b es:=⟨(j.block b h.lt).trans h.1,h.2⟩
theorem bE.alloc(h:bE P w k b es)o:bE P (w.alloc o) k b es:=h.below ((Below.refl _ w).alloc (cC _) o)
theorem bE.far(h:bE P w k b es){p}(hp:b≠p.block)u:bE P (w.setCell p u) k b es:=⟨(Below.heap_setCell w p u b hp).trans h.1,h.2⟩
theorem bE.made P(w:World)k:bE P (w.alloc (.map #[] 0)) k w.heap.size []:=⟨aDM w _,by simp,by simp⟩

theorem bE.find(h:bE P w k b es)(K:Keyed P k){key}(A:∃l,keyOf P k key=some l): (∃(j:Nat)(v:Value),es[j]?=some (key,v)/\(Instr.findKey k key (eH es)).run P w=.ok (some (j,v)) w)∨((∀x∈es,x.1≠key)/\(Instr.findKey k key (eH es)).run P w=.ok none w):=by
 obtain⟨l,hl⟩:=A;rcases K.find w hl (eH es) (fun x u=>by obtain⟨i,y,hy,rfl⟩:=rV u;exact h.2.1 y (eQ hy))with⟨h1,h2⟩|⟨j,e0,h1,h2,h3⟩
 ·refine .inr ⟨fun x u=>?_,h1⟩;obtain⟨i,hi⟩:=aAu.1 u;exact h2 ⟨x.1,x.2,i⟩ (eQ (i:=i) (by rw[dy,hi];rfl))
 rw[dy]at h2;cases u:es[j]? with
 |none=>rw[u]at h2;cases h2
 |some x=>rw[u]at h2;cases h2;simp only at h3 h1;refine .inl ⟨j,x.2,?_,h1⟩;rw[u,<-h3]

theorem bE.look(h:bE P w k b es)(K:Keyed P k)(B:P.underlying t=some (.map k e)){z}(C:(zeroValue e).run P w=.ok z w){key}(u:∃l,keyOf P k key=some l)c:
  (∃(j:Nat)(v:Value),es[j]?=some (key,v)/\(Instr.lookup t (.map (some b)) key c).run P w=.ok (if c then .tuple #[v,.bool true]else v) w)∨((∀x∈es,x.1≠key)/\(Instr.lookup t (.map (some b)) key c).run P w=.ok (if c then .tuple #[z,.bool false]else z) w):=by
 obtain⟨l,hl⟩:=id u;rcases h.find K u with⟨j,v,y,A⟩|⟨y,A⟩
 ·exact .inl ⟨j,v,y,by simp[Instr.lookup,sK B,aAT h.1,K.check w _ hl,A,Result.andThen]⟩
 exact .inr ⟨y,by simp[Instr.lookup,sK B,aAT h.1,K.check w _ hl,A,C,Result.andThen]⟩

theorem eF{j}(h:w.heap[b]?=some j)o:(setBlock w b o).heap[b]?=some o:=by have:=(IF.1 h).1;simp[setBlock,this]
theorem qv w{b i}(hi:i≠b)o:(setBlock w b o).heap[i]?=w.heap[i]?:=by simp only[setBlock];rw[aBz (by omega)]
theorem eT(w:World)b o:w.grownBy (setBlock w b o) (some b):=⟨rfl,rfl,rfl,by simp[setBlock],fun i _ hi=>qv w (fun e=>hi (by rw[e])) _⟩

theorem bE.entry(h:bE P w k b es)(K:Keyed P k)(U:P.underlying t=some (.map k e)){z}(hz:(zeroValue e).run P w=.ok z w){key}(u:∃l,keyOf P k key=some l): (∃(j:Nat)(v:Value)(w':World),es[j]?=some (key,v)/\(Instr.mapEntry t (.map (some b)) key).run P w=.ok (.tuple #[v,.int .i64 j]) w'/\bE P w' k b es/\w.grownBy w' (some b))∨((∀x∈es,x.1≠key)/\∃w',(Instr.mapEntry t (.map (some b)) key).run P w=.ok (.tuple #[z,.int .i64 es.length]) w'/\bE P w' k b (es++[(key,z)])/\w.grownBy w' (some b)):=by
 obtain⟨l,hl⟩:=id u;rcases h.find K u with⟨j,v,B,J⟩|⟨B,J⟩
 ·refine .inl ⟨j,v,setBlock w b (.map (eH es).toArray es.length),B,?_,⟨eF h.1 _,h.2⟩,eT _ _ _⟩;have N:(eH es)[j]?=some ⟨key,v,j⟩:=by rw[dy,B];rfl
  have C:(eH es).toArray.modify j (fun x=>{ x with key:=key })=(eH es).toArray:=by
   apply aDS;intro i;rw[aCb];split
   ·next hi=>subst hi;simp[N]
   rfl
  simp only[Instr.mapEntry,sK U,Le,aAr,BY,aAT h.1,K.check w _ hl,J];have Y:((((eH es).toArray[j]?).map (·.key)).getD key)=key:=by simp[N]
  have Z:(((eH es).toArray[j]?).map (fun x=>(x.born:Int))).getD 0=(j:Int):=by simp[N]
  rw[Y,Z];simp only[K.stays w hl,BY,C,aBR _ h.1];rfl
 refine .inr ⟨B,setBlock w b (.map ((eH es).toArray.push ⟨key,z,es.length⟩) (es.length+1)),?_,⟨?_,?_,?_⟩,eT _ _ _⟩
 ·simp only[Instr.mapEntry,sK U,Le,aAr,BY,aAT h.1,K.check w _ hl,J,hz,aBR _ h.1];rfl
 ·rw[eF h.1];rw[zF,Sk,aAt];simp
 ·intro x A;rcases aAN.1 A with A|A
  ·exact h.2.1 x A
  obtain rfl:=aAc.1 A;exact⟨l,hl⟩
 rw[aAe,aDT];refine aCj.2 ⟨h.2.2,by simp,?_⟩;intro x A y hy;obtain rfl:=aAc.1 hy;obtain⟨p,hp,rfl⟩:=Ac.1 A;exact B p hp

theorem PO es j x:eH (es.set j x)=(eH es).set j ⟨x.1,x.2,j⟩:=by
 apply aAa;intro i;rw[dy,aAF,aAF,dy,cP];split
 ·next h=>subst h;split<;>rfl
 rfl
theorem bE.setVal(h:bE P w k b es){j key A}(u:es[j]?=some (key,A))val: bE P (setBlock w b (.map ((eH es).set j ⟨key,val,j⟩).toArray es.length)) k b (es.set j (key,val)):=by
 refine⟨?_,?_,?_⟩
 ·rw[eF h.1,PO,aCV]
 ·intro x y;rcases aBA y with y|rfl
  ·exact h.2.1 x y
  exact h.2.1 (key,A) (eQ u)
 have e:(es.set j (key,val)).map Prod.fst=es.map Prod.fst:=by
  rw[aBH];apply aAa;intro i;rw[aAF];split
  ·next hi=>subst hi;simp[u];exact(dO.1 u).1
  rfl
 rw[e];exact h.2.2
theorem bE.store(h:bE P w k b es){j:Nat}{key C}(B:es[j]?=some (key,C))val: ∃w',(Instr.entryStore t (.map (some b)) (.int .i64 j) val).run P w=.ok () w'/\bE P w' k b (es.set j (key,val))/\w.grownBy w' (some b):=by
 refine⟨_,?_,h.setVal B val,eT _ _ _⟩;have u:=(dO.1 B).1;have hf:(eH es).toArray.findIdx? (fun e=>(e.born:Int) == (j:Int))=some j:=by
  rw[List.findIdx?_toArray,List.findIdx?_eq_some_iff_getElem];refine⟨by rw[cP];exact u,?_,?_⟩
  ·have:(eH es)[j]?=some ⟨key,C,j⟩:=by rw[dy,B];rfl
   rw[bY (by rw[cP];exact u)]at this;injection this with this
   rw[this];simp
  intro i hi;have y:i<es.length:=by omega
  have:(eH es)[i]?=some ⟨es[i].1,es[i].2,i⟩:=by rw[dy,bY y];rfl
  rw[bY (by rw[cP];exact y)]at this;injection this with this
  rw[this];simp;omega
 have A:(eH es).toArray.modify j (fun x=>{ x with val:=val })=((eH es).set j ⟨key,val,j⟩).toArray:=by
  apply aDS;intro i;rw[aCb];simp only[aBC];rw[aAF,dy,cP];split
  ·next hi=>subst hi;simp[u];exact aAf Prod.fst (TO ((bY u).symm.trans B))
  rfl
 simp only[Instr.entryStore,Le,aAr,BY,aAT h.1,asInt,asIntOf,hf,A,aBR _ h.1];rfl
theorem bE.update(h:bE P w k b es)(K:Keyed P k)(U:P.underlying t=some (.map k e)){key}(u:∃l,keyOf P k key=some l)val: (∃(j:Nat)(v:Value)(w':World),es[j]?=some (key,v)/\(Instr.mapUpdate t (.map (some b)) key val).run P w=.ok () w'/\bE P w' k b (es.set j (key,val))/\w.grownBy w' (some b))∨((∀x∈es,x.1≠key)/\∃w',(Instr.mapUpdate t (.map (some b)) key val).run P w=.ok () w'/\bE P w' k b (es++[(key,val)])/\w.grownBy w' (some b)):=by
 obtain⟨l,hl⟩:=id u;rcases h.find K u with⟨j,v,A,J⟩|⟨A,J⟩
 ·refine .inl ⟨j,v,_,A,?_,h.setVal A val,eT _ _ _⟩;have Z:(eH es)[j]?=some ⟨key,v,j⟩:=by rw[dy,A];rfl
  have N:=(dO.1 A).1;have C:(eH es).toArray.modify j (fun x=>{ x with key:=key,val:=val })=((eH es).set j ⟨key,val,j⟩).toArray:=by
   apply aDS;intro i;rw[aCb];simp only[aBC];rw[aAF,dy,cP];split
   ·next hi=>subst hi;simp[N]
   rfl
  simp only[Instr.mapUpdate,sK U,Le,BY,aAT h.1,K.check w _ hl,J];have Y:((((eH es).toArray[j]?).map (·.key)).getD key)=key:=by simp[Z]
  rw[Y];simp only[K.stays w hl,BY,C,aBR _ h.1];rfl
 refine .inr ⟨A,setBlock w b (.map ((eH es).toArray.push ⟨key,val,es.length⟩) (es.length+1)),?_,⟨?_,?_,?_⟩,eT _ _ _⟩
 ·simp only[Instr.mapUpdate,sK U,Le,BY,aAT h.1,K.check w _ hl,J,aBR _ h.1];rfl
 ·rw[eF h.1];rw[zF,Sk,aAt];simp
 ·intro x B;rcases aAN.1 B with B|B
  ·exact h.2.1 x B
  obtain rfl:=aAc.1 B;exact⟨l,hl⟩
 rw[aAe,aDT];refine aCj.2 ⟨h.2.2,by simp,?_⟩;intro x B y hy;obtain rfl:=aAc.1 hy;obtain⟨p,hp,rfl⟩:=Ac.1 B;exact A p hp
theorem bE.len(h:bE P w k b es)(j:P.underlying t=some (.map k e))ty:(Builtin.len_ #[t] ty #[.map (some b)]).run P w=.ok (.int .i64 es.length) w:=by simp[Builtin.len_,sK j,aAT h.1,cP,goInt]
end
end
section
open Go.Maps (Keyed)
open Go.ChangeMaps (setBlock)
open Go.MapKept

def dK(w:World)(r b n:Nat)(vis:List Nat):Prop:=w.heap[r]?=some (.mapIter (some b) n vis.toArray n)

section
variable {P:Program}{k e t:TypeId}{w:World}{b r:Nat}{es:List (Value×Value)}{vis:List Nat}
theorem dK.lt{n}(h:dK w r b n vis):r<w.heap.size:=(IF.1 h).1
theorem dK.kept{n w' row}(h:dK w r b n vis)(u:w.grownBy w' row)(j:some r≠row):dK w' r b n vis:=(u.block r h.lt j).trans h
theorem dK.below{n w'}(h:dK w r b n vis)(j:Below w.heap.size w w'):dK w' r b n vis:=(j.block r h.lt).trans h
theorem dK.ne{n}(h:dK w r b n vis)(hm:bE P w k b es):r≠b:=by intro e;subst e;have:=h.symm.trans hm.1;simp at this

theorem bE.range(h:bE P w k b es)(j:P.underlying t=some (.map k e)) : ∃w',(Instr.range t (.map (some b))).run P w=.ok (.pointer (some ⟨w.heap.size,0,none⟩)) w'/\bE P w' k b es/\dK w' w.heap.size b es.length []/\Below w.heap.size w w'/\w'.heap.size=w.heap.size+1:=by exact⟨_,run_range_map w t k e b _ _ j h.1,h.alloc _,aDM w _,(Below.refl _ w).alloc (cC _) _,by simp⟩

theorem LM es:(eH es).map (·.born)=List.range es.length:=by
 apply aAa;intro i;rw[mT,dy];rcases By i es.length with h|h
 ·rw[bY h,MT h];rfl
 rw[As.2 h,As.2 (by simpa using h)];rfl

theorem bE.next(h:bE P w k b es)(Z:dK w r b es.length vis)ty: ((∀j,j<es.length->j∈vis)/\(Instr.next (.pointer (some ⟨r,0,none⟩)) false ty).run P w=.ok (.tuple #[.bool false]) w)∨∃(j:Nat)(x:Value×Value)(w':World),es[j]?=some x/\j∉vis/\(Instr.next (.pointer (some ⟨r,0,none⟩)) false ty).run P w=.ok (.tuple #[.bool true,x.1,x.2]) w'/\bE P w' k b es/\dK w' r b es.length (vis++[j]) /\ (Instr.entry (.pointer (some ⟨r,0,none⟩))).run P w'=.ok (.tuple #[x.1,x.2]) w'/\w.grownBy w' (some r)/\w'.heap.size=w.heap.size:=by
 have Y:=Z.ne h;rcases run_next_at (P:=P) w ty r b es.length es.length vis.toArray (eH es).toArray es.length Z h.1 (fun x C=>by obtain⟨i,y,hy,rfl⟩:=rV (by simpa using C);exact(dO.1 hy).1) (cC _)with⟨h0,hrun⟩|⟨x,C,w1,hw1,hrun⟩
 ·refine .inl ⟨fun j hj=>?_,hrun⟩;have hm:(⟨es[j].1,es[j].2,j⟩:MapEntry)∈eH es:=eQ (i:=j) (by rw[dy,bY hj];rfl);by_cases hv:j∈vis
  ·exact hv
  exfalso;have:(⟨es[j].1,es[j].2,j⟩:MapEntry)∈leftOf (eH es).toArray vis.toArray:=by unfold leftOf;simp[hm,hv]
  rw[Array.eq_empty_of_size_eq_zero h0]at this;simp at this
 unfold leftOf at C;simp only[Array.toList_filter,aAC,aAA,List.contains_toArray]at C;obtain⟨J,al⟩:=C;obtain⟨j,y,hy,rfl⟩:=rV (by simpa using J);have U:j∉vis:=by simpa using al
 have u:w1.heap=w.heap:=by rcases hw1 with rfl|rfl<;>rfl
 have N:w1.heap[b]?=some (.map (eH es).toArray es.length):=by rw[u];exact h.1
 have ad:w1.heap[r]?=some (.mapIter (some b) es.length vis.toArray es.length):=by rw[u];exact Z
 have A:(setBlock w1 r (.mapIter (some b) es.length (vis.toArray.push j) es.length)).heap[b]?=some (.map (eH es).toArray es.length):=(qv w1 (fun e=>Y e.symm) _).trans N;have B:(setBlock w1 r (.mapIter (some b) es.length (vis.toArray.push j) es.length)).heap[r]?=some (.mapIter (some b) es.length (vis.toArray.push j) es.length):=eF ad _;refine .inr ⟨j,y,_,hy,U,hrun,⟨A,h.2⟩,?_,?_,?_,?_⟩
 ·unfold dK;rw[B];simp
 ·exact run_entry_at _ r b es.length vis.toArray (eH es).toArray es.length ⟨y.1,y.2,j⟩ B A (by simpa using J) (by have:=LM es;simp only[List.toList_toArray];rw[this];exact aCu)
 ·rcases hw1 with rfl|rfl
  ·exact eT _ _ _
  exact⟨rfl,rfl,rfl,by simp[setBlock],fun i _ hi=>qv w.drew (fun e=>hi (by rw[e])) _⟩
 rcases hw1 with rfl|rfl<;>simp[setBlock]

theorem vk{ops rest o a Q}(y:o.guard=none)m t(x:o.op=Op.range t m)k e(A:P.underlying t=some (.map k e))b es(hm:a.eval m=.map (some b))(h:bE P w k b es)(hK:∀w',bE P w' k b es->dK w' w.heap.size b es.length []->Below w.heap.size w w'->w'.heap.size=w.heap.size+1->wpList P ops Q rest (a.put o.dst (.pointer (some ⟨w.heap.size,0,none⟩))) w'): wpList P ops Q (o::rest) a w:=by refine wpList_plain y fun U u=>?_;obtain⟨w',j,B,C,J,N⟩:=h.range A;unfold Oper.wp;simp[execOp,x,hm,j,Result.andThen];exact u _ _ (hK w' B C J N)
theorem ye{ops rest o a Q}(hg:o.guard=none)N(J:o.op=Op.next N false)k b r es vis(C:a.eval N=.pointer (some ⟨r,0,none⟩))(h:bE P w k b es)(hr:dK w r b es.length vis)(y:(∀j,j<es.length->j∈vis)->wpList P ops Q rest (a.put o.dst (.tuple #[.bool false])) w)(A:∀(j:Nat)(x:Value×Value)(w':World),es[j]?=some x->j∉vis->bE P w' k b es->dK w' r b es.length (vis++[j])->(Instr.entry (.pointer (some ⟨r,0,none⟩))).run P w'=.ok (.tuple #[x.1,x.2]) w'->w.grownBy w' (some r)->w'.heap.size=w.heap.size -> wpList P ops Q rest (a.put o.dst (.tuple #[.bool true,x.1,x.2])) w'): wpList P ops Q (o::rest) a w:=by
 refine wpList_plain hg fun K' B=>?_;unfold Oper.wp;rcases h.next hr o.type with⟨U,u⟩|⟨j,x,w',Y,Z,u,h3,h4,h5,h6,h7⟩
 ·simp[execOp,J,C,u,Result.andThen];exact B _ _ (y U)
 simp[execOp,J,C,u,Result.andThen];exact B _ _ (A j x w' Y Z h3 h4 h5 h6 h7)
end
end
section
open Go.Maps (Keyed)

theorem wU:Keyed Tryz.prog 295:=Keyed.of_law (deep_law_laid (by kernel_rfl) (m:=100) (by omega) (gT (by kernel_rfl)) (by kernel_rfl) (by kernel_rfl))
theorem Wv:Keyed Tryz.prog 3:=Go.Maps.int_keyed Tryz.underlying3
theorem nG{x}(j:-9223372036854775808<=x)(u:x<=9223372036854775807):(Lit.int .i64 x).wf=true:=WalkArith.wf_i64 ⟨j,u⟩
theorem JB d{x}(j:(Lit.int .i64 x).wf=true):Tryz.prog.keyLits (d+1) 3 [.int .i64 x]=some [.int .i64 x]:=by unfold Program.keyLits;rw[show Tryz.prog.underlying 3=some (.int .i64)from Tryz.underlying3];simp[j]
theorem Yl d{a b c e}(ha:(Lit.int .i64 a).wf=true)(x:(Lit.int .i64 b).wf=true)(y:(Lit.int .i64 c).wf=true)(he:(Lit.int .i64 e).wf=true): Tryz.prog.keyLits (d+2) 295 [.int .i64 a,.int .i64 b,.int .i64 c,.int .i64 e]=some [.int .i64 a,.int .i64 b,.int .i64 c,.int .i64 e]:=by
 have j:Tryz.prog.cellsOf 295=4:=by kernel_rfl
 have u:Tryz.prog.cellsOf 3=1:=by kernel_rfl
 unfold Program.keyLits;rw[show Tryz.prog.underlying 295=some (.array 4 3)from Tryz.underlying295];simp only[j,u];simp[aCY,JB d ha,JB d x,JB d y,JB d he]
theorem Pf{l}(hl:l.length<=4)(C:∀x∈l,-1000000<=x/\x<=1000000):∃U,keyOf Tryz.prog 295 (d5 l)=some U:=by
 obtain⟨a,b,c,d,j⟩:=PI (fc hl);have hm:∀y∈fV l,-1000000<=y/\y<=1000001:=by
  intro y hy;unfold fV at hy;rcases aAN.1 hy with h|h
  ·obtain⟨x,N,rfl⟩:=Ac.1 h;have:=C x N;omega
  have:=aAK h;omega
 rw[j]at hm;have ha:=hm a (by simp);have J:=hm b (by simp);have hc:=hm c (by simp);have hd:=hm d (by simp);have Z:=nG (x:=a) (by omega) (by omega);have wb:=nG (x:=b) (by omega) (by omega);have wc:=nG (x:=c) (by omega) (by omega);have wd:=nG (x:=d) (by omega) (by omega);unfold d5;rw[j];unfold keyOf;rw[show Tryz.prog.underlying 295=some (.array 4 3)from Tryz.underlying295];have u:Tryz.prog.keyType 295=true:=by kernel_rfl
 have B:Tryz.prog.cellsOf 295=4:=by kernel_rfl
 have A:(Value.agg #[.int .i64 a,.int .i64 b,.int .i64 c,.int .i64 d]).formed Tryz.prog 295=true:=by unfold Value.formed;rw[show Tryz.prog.underlying 295=some (.array 4 3)from Tryz.underlying295];simp[B]
 have hT:=gT (show decide (1<=Tryz.prog.types.size)=true by kernel_rfl);obtain⟨D,hD⟩:∃D,Tryz.prog.types.size+1=D+2:=⟨Tryz.prog.types.size-1,by omega⟩;refine⟨.string (keyBytes [.int .i64 a,.int .i64 b,.int .i64 c,.int .i64 d]),?_⟩
 show(if(Tryz.prog.keyType 295&&Value.formed Tryz.prog 295 (Value.agg #[.int .i64 a,.int .i64 b,.int .i64 c,.int .i64 d]))=true then
  Option.map (fun Y=>Lit.string (keyBytes Y)) (Tryz.prog.keyLits (Tryz.prog.types.size+1) 295 [.int .i64 a,.int .i64 b,.int .i64 c,.int .i64 d])else none)=_
 rw[u,A,hD,Yl D Z wb wc wd];rfl
theorem DZ{x}(j:-9223372036854775808<=x)(u:x<=9223372036854775807):∃y,keyOf Tryz.prog 3 (.int .i64 x)=some y:=⟨_,Go.Maps.keyOf_int_mk Tryz.underlying3 (nG j u)⟩

def U0(k:List Int):List Int:=(k.filter (fun x=>decide (0<x))).map (·-1)
theorem vy{l}(h:∀x∈l,0<=x):U0 (fV l)=l:=by
 unfold U0 fV;rw[aDb,aAe];have j:(List.replicate (4-l.length) (0:Int)).filter (fun x=>decide (0<x))=[]:=by rw[aBS];intro x u;rw[aAK u];simp
 rw[j,aCw,aDF];clear j
 induction l with
 |nil=>rfl
 |cons x l ih=>have u:=h x (by simp);rw[OF,aDm,oR (by simpa using (show 0<x+1 by omega)),OF,ih (fun y hy=>h y (by simp[hy]))];congr 1;omega
def f5(l:List Int):Prop:=l.length<=4/\∀x∈l,0<=x/\x<=1000000
theorem f5.inj{l m}(hl:f5 l)(hm:f5 m)(h:d5 l=d5 m):l=m:=by
 unfold d5 at h;injection h with h
 have u:(fV l).map (Value.int .i64)=(fV m).map (Value.int .i64):=aAf Array.toList h;have y:fV l=fV m:=(List.map_inj_right (fun a b e=>by injection e)).1 u;rw[<-vy (fun x j=>(hl.2 x j).1),y,vy (fun x j=>(hm.2 x j).1)]
theorem f5.good{l}(hl:f5 l):∃u,keyOf Tryz.prog 295 (d5 l)=some u:=Pf hl.1 (fun x j=>by have:=hl.2 x j;omega)

section
variable {K V:Type}[DecidableEq K]
def bD(m:List (K×V))(k:K):Option V:=(m.find? (fun e=>decide (e.1=k))).map (·.2)
def kh(m:List (K×V))(k:K)(v:V):List (K×V):=if k∈m.map Prod.fst then m.map (fun e=>if e.1=k then(e.1,v)else e)else m++[(k,v)]
def gV(ek:K->Value)(ev:V->Value)(m:List (K×V)):List (Value×Value):=m.map fun e=>(ek e.1,ev e.2)
theorem wL{m}(hn:(m.map Prod.fst).Nodup){j:Nat}{k:K}{v:V}(h:m[j]?=some (k,v)):bD m k=some v:=by
 induction m generalizing j with
 |nil=>simp at h
 |cons e m ih=>
  rw[OF,aBx]at hn;unfold bD;rw[aDD];cases j with
  |zero=>simp at h;subst h;simp
  |succ j=>simp at h;have u:e.1≠k:=fun he=>hn.1 (by rw[he];exact Ac.2 ⟨(k,v),eQ h,rfl⟩);simp only[u,decide_false];exact ih hn.2 h
theorem kr{m:List (K×V)}{k}(h:∀e∈m,e.1≠k):bD m k=none:=by unfold bD;rw[List.find?_eq_none.2 (fun e he=>by simpa using h e he)];rfl
theorem ra{m}{k:K}{v:V}(h:∀e∈m,e.1≠k):kh m k v=m++[(k,v)]:=by unfold kh;rw[iF];intro j;obtain⟨e,he,rfl⟩:=Ac.1 j;exact h e he rfl
theorem Dd{m}(hn:(m.map Prod.fst).Nodup){j}{k:K}{y v:V}(h:m[j]?=some (k,y)):kh m k v=m.set j (k,v):=by
 unfold kh;rw[oR (Ac.2 ⟨(k,y),eQ h,rfl⟩)];apply aAa;intro i;rw[mT,aAF];have x:=(dO.1 h).1;split
 ·next hi=>subst hi;rw[h];simp[x]
 next hi=>
 cases hx:m[i]? with
 |none=>rfl
 |some e=>
  have C:=(dO.1 hx).1;have u:e.1≠k:=by
   intro he;have A:(m.map Prod.fst)[i]?=some k:=by rw[mT,hx];simp[he]
   have B:(m.map Prod.fst)[j]?=some k:=by rw[mT,h];rfl
   exact hi ((aCH (by simpa using x) hn).1 (B.trans A.symm))
  simp[u]

def cN(ek:K->Value)(ev:V->Value)(w:World)(kt:TypeId)(b:Nat)(m:List (K×V)):Prop:=bE Tryz.prog w kt b (gV ek ev m)
def Xf(ek:K->Value)(ev:V->Value)(w:World)(kt:TypeId)(b:Nat)(m:List (K×V))(k:K)(j:Nat):Prop:=
 ∃es v0,bE Tryz.prog w kt b es/\es[j]?=some (ek k,v0)/\∀v,es.set j (ek k,ev v)=gV ek ev (kh m k v)
variable {ek:K->Value}{ev:V->Value}{w:World}{kt e t:TypeId}{b:Nat}{m:List (K×V)}{k:K}
theorem cN.nodup(h:cN ek ev w kt b m):(m.map Prod.fst).Nodup:=by have:=h.2.2;unfold gV at this;rw[aAG]at this;have e:(Prod.fst∘fun e:K×V=>(ek e.1,ev e.2))=ek∘Prod.fst:=rfl;rw[e,<-aAG]at this;exact(aAI.1 this).imp (fun h e=>h (by rw[e]))
theorem rY ek ev(m:List (K×V))(j:Nat):(gV ek ev m)[j]?=(m[j]?).map fun e=>(ek e.1,ev e.2):=by simp[gV]
theorem cN.look(h:cN ek ev w kt b m)(L:Keyed Tryz.prog kt)(J:Tryz.prog.underlying t=some (.map kt e)){z}(N:(zeroValue e).run Tryz.prog w=.ok z w)(C:∃U,keyOf Tryz.prog kt (ek k)=some U)(inj:∀x∈m,ek x.1=ek k->x.1=k): (Instr.lookup t (.map (some b)) (ek k) false).run Tryz.prog w=.ok ((bD m k).elim z ev) w:=by
 rcases bE.look h L J N C false with⟨j,v,u,A⟩|⟨u,A⟩
 ·rw[rY]at u;cases y:m[j]? with
  |none=>rw[y]at u;cases u
  |some x=>rw[y]at u;simp only[AC,iD,Gt]at u;have B:=inj x (eQ y) u.1;rw[A,wL h.nodup (j:=j) (v:=x.2) (by rw[y,<-B]),<-u.2];rfl
 rw[A,kr (fun x y he=>u (ek x.1,ev x.2) (Ac.2 ⟨x,y,rfl⟩) (by rw[he]))];rfl
theorem cN.entry(h:cN ek ev w kt b m)(L:Keyed Tryz.prog kt)(ht:Tryz.prog.underlying t=some (.map kt e)){z}(hz:∀w,(zeroValue e).run Tryz.prog w=.ok z w)(Z:∃kl,keyOf Tryz.prog kt (ek k)=some kl)(inj:∀x∈m,ek x.1=ek k->x.1=k): ∃(j:Nat)(w':World),(Instr.mapEntry t (.map (some b)) (ek k)).run Tryz.prog w=.ok (.tuple #[(bD m k).elim z ev,.int .i64 j]) w'/\Xf ek ev w' kt b m k j/\w.grownBy w' (some b)/\(Instr.lookup t (.map (some b)) (ek k) false).run Tryz.prog w'=.ok ((bD m k).elim z ev) w':=by
 have hn:=h.nodup;rcases bE.entry h L ht (hz w) Z with⟨j,v,w',y,U,B,Y⟩|⟨y,w',U,B,Y⟩
 ·have N:=y;rw[rY]at y;cases J:m[j]? with
  |none=>rw[J]at y;cases y
  |some x=>
   rw[J]at y;simp only[AC,iD,Gt]at y;have ad:=inj x (eQ J) y.1;have hm:m[j]?=some (k,x.2):=by rw[J,<-ad]
   have hl:bD m k=some x.2:=wL hn hm;refine⟨j,w',by rw[U,hl,<-y.2];rfl,⟨_,v,B,N,fun v'=>?_⟩,Y,cN.look B L ht (hz w') Z inj⟩;rw[Dd hn hm];unfold gV;rw[aBH]
 have A:∀x∈m,x.1≠k:=fun x J he=>y (ek x.1,ev x.2) (Ac.2 ⟨x,J,rfl⟩) (by rw[he]);have hl:bD m k=none:=kr A;have u:(gV ek ev m++[(ek k,z)])[(gV ek ev m).length]?=some (ek k,z):=by rw[aAd (cC _),aAS];rfl
 refine⟨_,w',by rw[U,hl];rfl,⟨_,z,B,u,fun v=>?_⟩,Y,?_⟩
 ·rw[ra A,aCc _ _ (cC _),aAS];simp[gV]
 rw[hl];rcases B.look L ht (hz w') Z false with⟨j,v,C,h6⟩|⟨C,_⟩
 ·have hj:j=(gV ek ev m).length:=by
   have h7:((gV ek ev m++[(ek k,z)]).map Prod.fst)[j]?=some (ek k):=by rw[mT,C];rfl
   have h8:((gV ek ev m++[(ek k,z)]).map Prod.fst)[(gV ek ev m).length]?=some (ek k):=by rw[mT,u];rfl
   exact(aCH (by have:=(dO.1 C).1;simpa using this) B.2.2).1 (h7.trans h8.symm)
  subst hj;rw[u]at C;cases C;rw[h6];rfl
 exact absurd rfl (C (ek k,z) (by simp))
theorem Xf.store{j}(h:Xf ek ev w kt b m k j)v:∃w',(Instr.entryStore t (.map (some b)) (.int .i64 j) (ev v)).run Tryz.prog w=.ok () w'/\cN ek ev w' kt b (kh m k v)/\w.grownBy w' (some b):=by obtain⟨es,J,x,y,A⟩:=h;obtain⟨w',B,u,C⟩:=x.store (t:=t) y (ev v);exact⟨w',B,by rw[A v]at u;exact u,C⟩
end
end
theorem Hq w:(zeroValue 3).run Tryz.prog w=.ok (.int .i64 0) w:=by kernel_rfl

def Cg{K:Type}[DecidableEq K](m:List (K×Int))(e:K×Int):List (K×Int):=kh m e.1 ((bD m e.1).getD 0+e.2)
theorem dU{K V}[DecidableEq K]{m}{k:K}{v:V}(h:bD m k=some v):(k,v)∈m:=by
 unfold bD at h;cases hf:m.find? (fun e=>decide (e.1=k))with
 |none=>rw[hf]at h;cases h
 |some e=>rw[hf]at h;have u:=List.mem_of_find?_eq_some hf;have j:=List.find?_some hf;simp at h j;rw[<-h,<-j];exact u
theorem rc{K V}[DecidableEq K]{m k v}{e:K×V}(h:e∈kh m k v):e∈m∨e=(k,v):=by
 unfold kh at h;split at h
 ·obtain⟨x,u,rfl⟩:=Ac.1 h;split
  ·next j=>exact .inr (by rw[j])
  exact .inl u
 rcases aAN.1 h with h|h
 ·exact .inl h
 exact .inr (aAc.1 h)
def Fd(M:Int)(m:List (List Int×Int)):Prop:=∀e∈m,f5 e.1/\0<=e.2/\e.2<=M
theorem Fd.look{M m}(h:Fd M m)(j:0<=M)k:0<=(bD m k).getD 0/\(bD m k).getD 0<=M:=by
 cases hl:bD m k with
 |none=>simpa using j
 |some v=>exact(h _ (dU hl)).2
theorem Fd.add{M a m}(h:Fd M m)(j:0<=M){k}(u:f5 k){c}(x:0<=c/\c<=a):Fd (M+a) (Cg m (k,c)):=by
 intro e he;rcases rc he with he|rfl
 ·have:=h e he;exact⟨this.1,by omega,by omega⟩
 have:=h.look j k;exact⟨u,by simp only;omega,by simp only;omega⟩
theorem LQ(o:Option Int):o.elim (Value.int .i64 0) (Value.int .i64)=.int .i64 (o.getD 0):=by cases o<;>rfl

theorem cg.grown{w w' g e xs row}(h:cg w g e xs)(u:w.grownBy w' row)(j:some g≠row):cg w' g e xs:=(u.block g h.lt j).trans h
def eN(p:List Int->Bool)(gs:List (List Int×Int)):Int:=gs.foldl (fun s g=>if p g.1 then s+g.2 else s) 0
theorem sB p gs g:eN p (gs++[g])=eN p gs+(if p g.1 then g.2 else 0):=by unfold eN;rw[aCF];simp only[aBl,aCI];split<;>omega
theorem vE p:eN p []=0:=rfl
theorem bF p g gs:eN p (g::gs)=(if p g.1 then g.2 else 0)+eN p gs:=by
 unfold eN;rw[aBl];have key:∀(l:List (List Int×Int))(a:Int),l.foldl (fun s g=>if p g.1 then s+g.2 else s) a=a+l.foldl (fun s g=>if p g.1 then s+g.2 else s) 0:=by
  intro l
  induction l with
  |nil=>intro a;simp
  |cons x l ih=>intro a;rw[aBl,ih,aBl,ih (if p x.1 then 0+x.2 else 0)];split<;>omega
 rw[key];split<;>omega
theorem kR{p gs}(h:∀g∈gs,0<=g.2):0<=eN p gs:=by
 induction gs with
 |nil=>exact aCv _
 |cons g gs ih=>rw[bF];have:=ih (fun x j=>h x (tK _ j));have u:=h g Do;split<;>omega
theorem Iu{p gs M}(h:∀g∈gs,0<=g.2/\g.2<=M):eN p gs<=gs.length*M:=by
 induction gs with
 |nil=>simp[vE]
 |cons g gs ih=>
  rw[bF,On];have:=ih (fun x j=>h x (tK _ j));have u:=h g Do;have e:((gs.length+1:Nat):Int)*M=gs.length*M+M:=by rw[aCz,aEr];simp
  rw[e];split<;>omega
theorem CE{p gs}(h:∀g∈gs,0<g.2):0<eN p gs ↔ ∃g∈gs,p g.1=true:=by
 induction gs with
 |nil=>simp[vE]
 |cons g gs ih=>
  rw[bF];have B:=kR (p:=p) (gs:=gs) (fun x j=>aBJ (h x (tK _ j)));have C:=h g Do;have y:=ih (fun x j=>h x (tK _ j));constructor
  ·intro hp;by_cases A:p g.1=true
   ·exact⟨g,Do,A⟩
   rw[iF A]at hp;obtain⟨x,j,u⟩:=y.1 (by omega);exact⟨x,tK _ j,u⟩
  rintro⟨x,j,u⟩;rcases Is.1 j with rfl|j
  ·rw[oR u];omega
  have:=y.2 ⟨x,j,u⟩;split<;>omega
theorem FE{p q gs}(h:∀g∈gs,p g.1=q g.1):eN p gs=eN q gs:=by
 induction gs with
 |nil=>rfl
 |cons g gs ih=>rw[bF,bF,h g Do,ih (fun x j=>h x (tK _ j))]
theorem vF l:eN (fun _=>false) l=0:=by
 induction l with
 |nil=>rfl
 |cons x l ih=>rw[bF,ih];rfl
def tot(d:Nat)(gs:List (List Int×Int))(k:List Int):Int:=eN (fun x=>x.drop d == k) gs

def jc(m:List (List Int×Int))(T:List Int->Int):Prop:=(m.map Prod.fst).Nodup/\(∀k,(bD m k).getD 0=T k)/\∀e∈m,0<e.2
theorem jc.nil:jc [] (fun _=>0):=⟨aBK,fun k=>by simp[bD],fun e he=>by cases he⟩
theorem jt{K V m}(hn:(m.map Prod.fst).Nodup){e:K×V}(he:e∈m)[DecidableEq K]:bD m e.1=some e.2:=by obtain⟨j,x,u⟩:=aBw he;exact wL hn (j:=j) (by rw[bY x,u])
theorem jc.of_mem{m T}(h:jc m T){e}(he:e∈m):T e.1=e.2:=by rw[<-h.2.1,jt h.1 he];rfl
theorem jc.mem{m T}(h:jc m T){k}(u:T k≠0):(k,T k)∈m:=by
 have j:=h.2.1 k;cases hl:bD m k with
 |none=>rw[hl]at j;exact absurd j.symm u
 |some v=>rw[hl]at j;have:=dU hl;rwa [show v=T k from j]at this
theorem jc.congr{m T T'}(h:jc m T)(e:∀k,T k=T' k):jc m T':=⟨h.1,fun k=>(h.2.1 k).trans (e k),h.2.2⟩
theorem rH{K V}[DecidableEq K](m l:List (K×V))k:bD (m++l) k=(bD m k).or (bD l k):=by unfold bD;rw[List.find?_append];cases List.find? (fun e=>decide (e.1=k)) m<;>simp
theorem Lo{K V}[DecidableEq K]m k(v:V)(j:K):bD (kh m k v) j=if j=k then some v else bD m j:=by
 unfold kh;split
 ·next y=>
  unfold bD;rw[List.find?_map];have ef:((fun e:K×V=>decide (e.1=j))∘fun e:K×V=>if e.1=k then(e.1,v)else e)=fun e:K×V=>decide (e.1=j):=by funext e;simp only[Function.comp];split<;>rfl
  rw[ef];cases hf:m.find? (fun e=>decide (e.1=j))with
  |none=>
   rw[iF]
   ·rfl
   intro e;subst e;obtain⟨x,u,A⟩:=Ac.1 y;have:=List.find?_eq_none.1 hf x u;simp[A]at this
  |some e=>have B:=List.find?_some hf;simp at B;simp only[AC,B];split<;>rfl
 next y=>
 rw[rH];by_cases e:j=k
 ·subst e;rw[oR rfl,kr (fun x u he=>y (Ac.2 ⟨x,u,he⟩))];simp[bD]
 rw[iF e];have:bD [(k,v)] j=none:=kr (by intro x u;rw[aAc.1 u];exact fun h=>e h.symm);rw[this];cases bD m j<;>rfl
theorem wt{K V}[DecidableEq K]{m}(hn:(m.map Prod.fst).Nodup)(k:K)(v:V):((kh m k v).map Prod.fst).Nodup:=by
 unfold kh;split
 ·rw[aAG];have e:(Prod.fst∘fun e:K×V=>if e.1=k then(e.1,v)else e)=Prod.fst:=by funext e;simp only[Function.comp];split<;>rfl
  rw[e];exact hn
 next u=>
 rw[aAe,aCj];refine⟨hn,by simp,?_⟩;intro a ha b j e;simp at j;rw[e,j]at ha;exact u ha
theorem jc.add{m T}(h:jc m T){k c}(u:0<c):jc (Cg m (k,c)) (fun x=>T x+if x=k then c else 0):=by
 have j:0<=(bD m k).getD 0:=by
  cases hl:bD m k with
  |none=>exact aCv _
  |some v=>exact aBJ (h.2.2 _ (dU hl))
 refine⟨wt h.1 _ _,fun x=>?_,fun e he=>?_⟩
 ·unfold Cg;rw[Lo];simp only;by_cases e:x=k
  ·subst e;rw[oR rfl,oR rfl,<-h.2.1 x];rfl
  rw[iF e,iF e,h.2.1];omega
 rcases rc he with he|rfl
 ·exact h.2.2 e he
 simp only;omega
theorem jc.new{m T}(h:jc m T){k}(u:T k=0){c}(j:0<c):jc (kh m k c) (fun x=>T x+if x=k then c else 0):=by have:=h.add (k:=k) j;unfold Cg at this;simp only at this;rw[h.2.1,u,Int.zero_add]at this;exact this
theorem jc.perm{m j T}(h:jc m T)(hn:(j.map Prod.fst).Nodup)(he:∀e,e∈j↔e∈m):jc j T:=by
 refine⟨hn,fun k=>?_,fun e h'=>h.2.2 e ((he e).1 h')⟩;rw[<-h.2.1];cases hl:bD j k with
 |none=>
  cases hl2:bD m k with
  |none=>rfl
  |some v=>have:=jt hn ((he _).2 (dU hl2));simp only at this;rw[hl]at this;cases this
 |some v=>have:=jt h.1 ((he _).1 (dU hl));simp only at this;rw[this]
theorem Kz{m d gs}(h:jc m (tot d gs))(Z:∀g∈gs,0<g.2)k:eN (fun x=>x.drop 1 == k) m=tot (d+1) gs k:=by
 have key:∀(m:List (List Int×Int)) ,(m.map Prod.fst).Nodup->(∀e∈m,tot d gs e.1=e.2)->(∀g∈gs,g.1.drop d∈m.map Prod.fst∨(g.1.drop d).drop 1≠k∨True)->True:=fun _ _ _ _=>trivial;clear key
 suffices hs:∀(m:List (List Int×Int)),(m.map Prod.fst).Nodup->(∀e∈m,e.2=tot d gs e.1)->eN (fun x=>x.drop 1 == k) m=eN (fun x=>decide (x.drop d∈m.map Prod.fst)&&((x.drop d).drop 1 == k)) gs by
  rw[hs m h.1 (fun e he=>(h.of_mem he).symm)];unfold tot;refine FE fun g A=>?_;have hm:g.1.drop d∈m.map Prod.fst:=by have hp:0<tot d gs (g.1.drop d):=(CE Z).2 ⟨g,A,by simp⟩;exact Ac.2 ⟨_,h.mem (k:=g.1.drop d) (by omega),rfl⟩
  simp only[hm,decide_true,aAL,aCJ]
 intro m
 induction m with
 |nil=>intro _ _;simp only[aCw,aCr,decide_false,aBZ];rw[vE,vF]
 |cons e m ih=>
  intro hn he;rw[OF,aBx]at hn;rw[bF,ih hn.2 (fun x u=>he x (tK _ u))];have Y:=he e Do;rw[Y];have j:∀(p q r:List Int->Bool)(l:List (List Int×Int)),(∀x,r x=(p x ||q x))->(∀x,¬(p x=true/\q x=true))->eN r l=eN p l+eN q l:=by
   intro p q r l J hd
   induction l with
   |nil=>rfl
   |cons x l ih'=>rw[bF,bF,bF,ih',J];have:=hd x.1;cases hp:p x.1<;>cases hq:q x.1<;>simp[hp,hq]at this⊢ <;> omega
  have J:eN (fun x=>decide (x.drop d∈(e::m).map Prod.fst)&&((x.drop d).drop 1 == k)) gs=eN (fun x=>x.drop d == e.1&&(e.1.drop 1 == k)) gs+eN (fun x=>decide (x.drop d∈m.map Prod.fst)&&((x.drop d).drop 1 == k)) gs:=by
   refine j _ _ _ gs (fun x=>?_) (fun x=>?_)
   ·by_cases u:x.drop d=e.1
    ·have C:¬(e.1∈m.map Prod.fst):=hn.1;simp only[OF,u,Is,true_or,decide_true,aAL,beq_self_eq_true,C,decide_false,aBZ,Bool.or_false]
    have:(x.drop d == e.1)=false:=by simpa using u
    simp only[this,OF,Is,u,false_or,aBZ,aAi]
   rintro⟨N,y⟩;simp only[gE,aBp,IS]at N y;rw[N.1]at y;exact hn.1 y.1
  rw[J];congr 1;by_cases U:(e.1.drop 1 == k)=true
  ·simp only[U,aBh,aBj];rfl
  have B:(e.1.drop 1 == k)=false:=by simpa using U
  simp only[B,aBk];rw[vF];rfl
theorem MW{gs}{g:List Int×Int}(h:∀x∈gs,x.1≠g.1):tot 0 gs g.1=0:=by
 unfold tot
 induction gs with
 |nil=>rfl
 |cons x gs ih=>rw[bF,ih (fun y hy=>h y (tK _ hy))];have:=h x Do;simp[this]
theorem MX d gs g k:tot d (gs++[g]) k=tot d gs k+if g.1.drop d=k then g.2 else 0:=by unfold tot;rw[sB];by_cases h:g.1.drop d=k<;>simp[h]
section
open Go.Maps (Keyed)

section
variable {K V:Type}[DecidableEq K]{ek:K->Value}{ev:V->Value}{w w':World}{kt e t:TypeId}{b:Nat}{m:List (K×V)}{k:K}
theorem cN.below(h:cN ek ev w kt b m)(j:Below w.heap.size w w'):cN ek ev w' kt b m:=bE.below h j
theorem cN.drew(h:cN ek ev w kt b m):cN ek ev w.drew kt b m:=h
theorem cN.lt(h:cN ek ev w kt b m):b<w.heap.size:=bE.lt h
theorem cN.kept{row}(h:cN ek ev w kt b m)(u:w.grownBy w' row)(j:some b≠row):cN ek ev w' kt b m:=bE.kept h u j
theorem cN.far(h:cN ek ev w kt b m){p}(hp:b≠p.block)u:cN ek ev (w.setCell p u) kt b m:=bE.far h hp u
theorem cN.ne(h:cN ek ev w kt b m){p u}(hp:w.cell? p=some u):b≠p.block:=by intro e;have j:=h.1;subst e;unfold World.cell? at hp;rw[j]at hp;simp at hp
theorem cN.made(w:World)ek ev kt:cN ek ev (w.alloc (.map #[] 0)) kt w.heap.size ([]:List (K×V)):=bE.made Tryz.prog w kt
theorem cN.low(h:cN ek ev w kt b m){B}(j:b<B)(u:Below B w w'):cN ek ev w' kt b m:=⟨(u.block b j).trans h.1,h.2⟩
theorem cN.update(h:cN ek ev w kt b m)(L:Keyed Tryz.prog kt)(U:Tryz.prog.underlying t=some (.map kt e))(N:∃Y,keyOf Tryz.prog kt (ek k)=some Y)(inj:∀x∈m,ek x.1=ek k->x.1=k)v: ∃w',(Instr.mapUpdate t (.map (some b)) (ek k) (ev v)).run Tryz.prog w=.ok () w'/\cN ek ev w' kt b (kh m k v)/\w.grownBy w' (some b):=by
 rcases bE.update h L U N (ev v)with⟨j,Z,w',u,B,A,C⟩|⟨u,w',B,A,C⟩
 ·refine⟨w',B,?_,C⟩;rw[rY]at u;cases y:m[j]? with
  |none=>rw[y]at u;cases u
  |some x=>
   rw[y]at u;simp only[AC,iD,Gt]at u;have J:=inj x (eQ y) u.1;have hm:m[j]?=some (k,x.2):=by rw[y,<-J]
   unfold cN;rw[Dd h.nodup hm];unfold gV at A⊢;rw[aBH];exact A
 refine⟨w',B,?_,C⟩;unfold cN;rw[ra (fun x y he=>u (ek x.1,ev x.2) (Ac.2 ⟨x,y,rfl⟩) (by rw[he]))];unfold gV at A⊢;rw[aAe];exact A
end

theorem Fo w:(zeroValue 299).run Tryz.prog w=.ok (.map none) w:=by kernel_rfl
def WN(b:Nat):Value:=.map (some b)
def fW(n:Nat)(S:List (List Int×Int))(h:List Int):List (Int×Int):=(S.filter (fun e=>decide (e.1.take (n-1)=h))).map fun e=>(e.1.getD (n-1) 0,e.2)
def mh(n:Nat)(S:List (List Int×Int)):Prop:=(S.map Prod.fst).Nodup/\∀e∈S,e.1.length=n/\f5 e.1/\0<e.2/\e.2<=21474836480000
def kN(w:World)(b base n:Nat)(S:List (List Int×Int))(outer:List (List Int×Nat)):Prop:=
 cN d5 WN w 295 b outer/\(outer.map Prod.snd).Nodup/\b<base/\(∀e∈outer,base<=e.2)/\(∀e∈outer,cN (Value.int .i64) (Value.int .i64) w 3 e.2 (fW n S e.1))/\(∀e∈S,e.1.take (n-1)∈outer.map Prod.fst)/\∀e∈outer,f5 e.1
def ZO(n:Nat)(S:List (List Int×Int))(outer:List (List Int×Nat)):Prop:=∀e∈outer,∃x∈S,x.1.take (n-1)=e.1
def iM(w:World)(b base n:Nat)(S:List (List Int×Int)):Prop:=∃outer,kN w b base n S outer/\ZO n S outer

section
variable {w w':World}{b base n:Nat}{S:List (List Int×Int)}{outer:List (List Int×Nat)}
theorem kN.below(h:kN w b base n S outer)(j:Below w.heap.size w w'):kN w' b base n S outer:= ⟨h.1.below j,h.2.1,h.2.2.1,h.2.2.2.1,fun e he=>(h.2.2.2.2.1 e he).below j,h.2.2.2.2.2⟩
theorem iM.below(h:iM w b base n S)(j:Below w.heap.size w w'):iM w' b base n S:=by obtain⟨outer,u,hf⟩:=h;exact⟨outer,u.below j,hf⟩
theorem kN.kept{r}(h:kN w b base n S outer)(j:w.grownBy w' (some r))(u:r≠b)(x:r<base):kN w' b base n S outer:= ⟨h.1.kept j (fun e=>by cases e;exact u rfl),h.2.1,h.2.2.1,h.2.2.2.1,fun e he=>(h.2.2.2.2.1 e he).kept j (fun e'=>by cases e';have:=h.2.2.2.1 e he;omega),h.2.2.2.2.2⟩
theorem iM.kept{r}(h:iM w b base n S)(x:w.grownBy w' (some r))(j:r≠b)(u:r<base):iM w' b base n S:=by obtain⟨outer,y,hf⟩:=h;exact⟨outer,y.kept x j u,hf⟩
theorem iM.lt(h:iM w b base n S):b<w.heap.size:=by obtain⟨outer,j,_⟩:=h;exact j.1.lt
theorem iM.far(h:iM w b base n S){p x}(hp:w.cell? p=some x)u:iM (w.setCell p u) b base n S:=by obtain⟨outer,j,hf⟩:=h;exact⟨outer,⟨j.1.far (j.1.ne hp) u,j.2.1,j.2.2.1,j.2.2.2.1,fun e he=>(j.2.2.2.2.1 e he).far ((j.2.2.2.2.1 e he).ne hp) u,j.2.2.2.2.2⟩,hf⟩
theorem kN.start(w:World)n base(h:w.heap.size<base):kN (w.alloc (.map #[] 0)) w.heap.size base n [] []:= ⟨cN.made w _ _ _,aBK,h,(fun e he=>by cases he),(fun e he=>by cases he),(fun e he=>by cases he),(fun e he=>by cases he)⟩
theorem kN.look(u:kN w b base n S outer){h}(j:f5 h):(Instr.lookup 298 (.map (some b)) (d5 h) false).run Tryz.prog w=.ok ((bD outer h).elim (.map none) WN) w:= u.1.look wU Tryz.underlying298 (Fo w) j.good (fun x y he=>(u.2.2.2.2.2.2 x y).inj j he)
theorem kN.insert(j:kN w b base n S outer){h}(U:f5 h)(hl:bD outer h=none){nb}(hm:cN (Value.int .i64) (Value.int .i64) w 3 nb ([]:List (Int×Int)))(Y:base<=nb)(N:∀e∈outer,e.2≠nb): ∃w',(Instr.mapUpdate 298 (.map (some b)) (d5 h) (.map (some nb))).run Tryz.prog w=.ok () w'/\kN w' b base n S (outer++[(h,nb)])/\w.grownBy w' (some b):=by
 have u:∀e∈outer,e.1≠h:=by intro e he e1;have:=jt j.1.nodup he;rw[e1,hl]at this;cases this
 obtain⟨w',h1,h2,C⟩:=j.1.update (t:=298) wU Tryz.underlying298 U.good (fun x A he=>(j.2.2.2.2.2.2 x A).inj U he) nb;rw[ra u]at h2;have hb:b<base:=j.2.2.1;refine⟨w',h1,⟨h2,?_,hb,?_,?_,?_,?_⟩,C⟩
 ·rw[aAe,aCj];refine⟨j.2.1,by simp,?_⟩;intro x A y hy;simp at hy;obtain⟨e,he,rfl⟩:=Ac.1 A;rw[hy];exact N e he
 ·intro e he;rcases aAN.1 he with he|he
  ·exact j.2.2.2.1 e he
  rw[aAc.1 he];exact Y
 ·intro e he;rcases aAN.1 he with he|he
  ·exact(j.2.2.2.2.1 e he).kept C (fun B=>by cases B;have:=j.2.2.2.1 e he;omega)
  rw[aAc.1 he];have:fW n S h=[]:=by unfold fW;rw[aBS.2,aCw];intro e J hd;have:=j.2.2.2.2.2.1 e J;rw[gT hd]at this;obtain⟨x,A,Z⟩:=Ac.1 this;exact u x A Z
  simp only;rw[this];exact hm.kept C (fun B=>by cases B;omega)
 ·intro e he;rw[aAe];exact aDu _ (j.2.2.2.2.2.1 e he)
 intro e he;rcases aAN.1 he with he|he
 ·exact j.2.2.2.2.2.2 e he
 rw[aAc.1 he];exact U
theorem D5 n S e h:fW n (S++[e]) h=if e.1.take (n-1)=h then fW n S h++[(e.1.getD (n-1) 0,e.2)]else fW n S h:=by
 unfold fW;rw[aDb,aAe];by_cases hh:e.1.take (n-1)=h
 ·rw[oR hh,aCt (by simpa using hh)];rfl
 rw[iF hh,aCs (by simpa using hh)];simp
theorem kN.put(B:kN w b base n S outer){e:List Int×Int}{bi}(hn:0<n)(hl:e.1.length=n)(hk:f5 e.1)(hS:∀x∈S,x.1.length=n/\x.1≠e.1)(A:bD outer (e.1.take (n-1))=some bi): ∃w',(Instr.mapUpdate 299 (.map (some bi)) (.int .i64 (e.1.getD (n-1) 0)) (.int .i64 e.2)).run Tryz.prog w=.ok () w'/\kN w' b base n (S++[e]) outer/\w.grownBy w' (some bi):=by
 have hm:=dU A;have hT:=B.2.2.2.2.1 _ hm;have J:∀l:List Int,l.length=n->l=l.take (n-1)++[l.getD (n-1) 0]:=by
  intro l hl;have e1:l.drop (n-1)=[l.getD (n-1) 0]:=by rw[AT (by omega),AS (by omega),eM,bY (by omega)];rfl
  rw[<-e1,aAM]
 have C:∀x∈fW n S (e.1.take (n-1)),x.1≠e.1.getD (n-1) 0:=by intro x u he;unfold fW at u;obtain⟨y,hy,rfl⟩:=Ac.1 u;obtain⟨ad,al⟩:=aAC.1 hy;have:=hS y ad;refine this.2 ?_;rw[J y.1 this.1,J e.1 hl,gT al,show y.1.getD (n-1) 0=e.1.getD (n-1) 0 from he]
 have hg:∃kl,keyOf Tryz.prog 3 (.int .i64 (e.1.getD (n-1) 0))=some kl:=by
  have hb:0<=e.1.getD (n-1) 0/\e.1.getD (n-1) 0<=1000000:=by rw[eM,bY (by omega)];exact hk.2 _ (aAz _)
  exact DZ (by omega) (by omega)
 obtain⟨w',h1,Z,N⟩:=hT.update (t:=299) Wv Tryz.underlying299 hg (fun x u he=>by injection he) e.2;simp only at h1 Z N;rw[ra C]at Z;have hb:b<base:=B.2.2.1;have am:base<=bi:=B.2.2.2.1 _ hm;refine⟨w',h1,⟨B.1.kept N (fun U=>by cases U;omega),B.2.1,hb,B.2.2.2.1,?_,?_,B.2.2.2.2.2.2⟩,N⟩
 ·intro x u;rw[D5];by_cases hh:e.1.take (n-1)=x.1
  ·rw[oR hh];have:x.2=bi:=by have h5:=jt B.1.nodup u;rw[<-hh,A]at h5;exact(TO h5).symm
   rw[this,<-hh];exact Z
  rw[iF hh];refine(B.2.2.2.2.1 x u).kept N (fun U=>hh ?_);cases U;have hi:=aBw u;have hj:=aBw hm;obtain⟨i,hi,ei⟩:=hi;obtain⟨j,hj,Y⟩:=hj;have:i=j:=(aCH (l:=outer.map Prod.snd) (by simpa using hi) B.2.1).1 (by rw[mT,mT,bY hi,bY hj,ei,Y];rfl);subst this;rw[ei]at Y;rw[Y]
 intro x u;rcases aAN.1 u with u|u
 ·exact B.2.2.2.2.2.1 x u
 rw[aAc.1 u];exact Ac.2 ⟨_,hm,rfl⟩
end
end
theorem SN w:(binOp BinOp.eql 299 (Value.map none) (Value.map none)).run Tryz.prog w=.ok (.bool true) w:=by kernel_rfl
theorem SM b w:(binOp BinOp.eql 299 (Value.map (some b)) (Value.map none)).run Tryz.prog w=.ok (.bool false) w:=by kernel_rfl

def jM(m:List (List Int×Int))(vis:List Nat):List (List Int×Int):=vis.map fun i=>m.getD i ([],0)
theorem Kv m vis{j e}(h:m[j]?=some e):jM m (vis++[j])=jM m vis++[e]:=by unfold jM;rw[aAe,aDT,eM,h];rfl
theorem MO{m vis}(j:∀i∈vis,i<m.length):∀x∈jM m vis,x∈m:=by intro x u;obtain⟨i,hi,rfl⟩:=Ac.1 u;rw[eM,bY (j i hi)];exact aAz _
theorem Kw{m vis}(hn:vis.Nodup)(A:∀i∈vis,i<m.length)(u:∀j,j<m.length->j∈vis):(jM m vis).Perm m:=by
 have hp:vis.Perm (List.range m.length):=(aCM hn aCu).2 (fun a=>⟨fun h=>aAk.2 (A a h),fun h=>u a (aAk.1 h)⟩);have x:=hp.map (fun i=>m.getD i ([],0));have y:(List.range m.length).map (fun i=>m.getD i ([],0))=m:=by
  apply aAa;intro i;rw[mT];by_cases hi:i<m.length
  ·rw[MT hi,bY hi];simp[eM,hi]
  rw[As.2 (by simpa using hi),As.2 (by omega)];rfl
 rw[y]at x;exact x
theorem Fu{m vis}(hm:(m.map Prod.fst).Nodup)(C:∀i∈vis,i<m.length){j}(B:j∉vis){e}(he:m[j]?=some e):∀x∈jM m vis,x.1≠e.1:=by
 intro x J h;obtain⟨i,hi,rfl⟩:=Ac.1 J;have u:=C i hi;have y:(m.map Prod.fst)[i]?=some e.1:=by rw[mT,bY u,<-h,eM,bY u];rfl
 have A:(m.map Prod.fst)[j]?=some e.1:=by rw[mT,he];rfl
 have:=(aCH (l:=m.map Prod.fst) (by rw[RW];exact u) hm).1 (y.trans A.symm);exact B (this▸hi)
theorem KC{p a b}(h:a.Perm b):eN p a=eN p b:=by
 induction h with
 |nil=>rfl
 |cons x _ ih=>rw[bF,bF,ih]
 |swap x y l=>rw[bF,bF,bF,bF];omega
 |trans _ _ ih1 ih2=>exact ih1.trans ih2
theorem jc.of_perm{m j T}(h:jc m T)(hp:j.Perm m):jc j T:=h.perm ((hp.map Prod.fst).nodup_iff.2 h.1) (fun e=>hp.mem_iff)
theorem mh.of_perm{n m j}(h:mh n m)(hp:j.Perm m):mh n j:=⟨(hp.map Prod.fst).nodup_iff.2 h.1,fun e he=>h.2 e (hp.mem_iff.1 he)⟩
theorem Ph{l d}(hl:l.length=d+1)(B:l.length<=4):(fV l).set d 0=fV (l.take d):=by
 obtain⟨x,C⟩:∃x,l[d]?=some x:=⟨_,bY (by omega)⟩;have u:(fV (l.take d)).set d (x+1)=fV l:=by
  have y:=zn B C;have A:l.take (d+1)=l:=Ge (by omega)
  rwa [A]at y
 rw[<-u,List.set_set];have j:(l.take d).length=d:=by rw[Io];omega
 apply aAa;intro i;rw[aAF];split
 ·next hi=>
  subst hi;split
  ·unfold fV;rw[j,aAd (by simp;omega),RW,j,aAS,aDw (by omega)]
  next h=>rw[fc (by omega)]at h;omega
 rfl
theorem Tg{l d}(h:d<l.length):(fV l)[d]?=some (l.getD d 0+1):=by unfold fV;rw[aAp (by simpa using h),mT,bY h,eM,bY h];rfl
theorem Pg{l d}(hl:l.length=d+1)(j:d<=3):((fV l).drop 1).take d++List.replicate (4-d) 0=fV (l.drop 1):=by
 have e:(l.drop 1).length=d:=by rw[Rw];omega
 unfold fV;rw[e];congr 1;rw[aDx (by rw[RW];omega),aDr (by rw[Rw,RW];omega),<-aCl,Ge (by rw[RW,e];exact cC _)]

def Mw(d nv:Nat)(nx:List (List Int×Int)):Prop:=nx.length<=nv/\∀e∈nx,e.1.length=d/\f5 e.1/\0<e.2/\e.2<=nv*21474836480000
theorem E9{K}[DecidableEq K]m(e:K×Int):(Cg m e).length<=m.length+1:=by
 unfold Cg kh;split
 ·rw[RW];omega
 rw[Sk];exact cC _
theorem Mw.add{d j nx}(h:Mw d j nx){k}(u:k.length=d)(hn:f5 k){c}(y:0<c/\c<=21474836480000):Mw d (j+1) (Cg nx (k,c)):=by
 refine⟨EM (E9 _ _) (by have:=h.1;omega),fun e he=>?_⟩;have x:0<=(bD nx k).getD 0/\(bD nx k).getD 0<=j*21474836480000:=by
  cases hl:bD nx k with
  |none=>exact⟨aCv _,by show(0:Int)<=_;omega⟩
  |some v=>have:=h.2 _ (dU hl);exact⟨aBJ this.2.2.1,this.2.2.2⟩
 rcases rc he with he|rfl
 ·have:=h.2 e he;exact⟨this.1,this.2.1,this.2.2.1,by have:=this.2.2.2;omega⟩
 exact⟨u,hn,by simp only;omega,by simp only;omega⟩
theorem Sx{m nx vis i j c v}(h:jc nx (fun k=>eN (fun x=>x.drop 1 == k) (jM m vis)))(hS:jM m (vis++[i])=jM m vis++[(j,c)])(y:0<c)(A:(bD nx (j.drop 1)).getD 0=v): jc (kh nx (j.drop 1) (v+c)) (fun k=>eN (fun x=>x.drop 1 == k) (jM m (vis++[i]))):=by
 have u:=h.add (k:=j.drop 1) y;unfold Cg at u;simp only at u;rw[A]at u;refine u.congr (fun k=>?_);rw[hS,sB];by_cases e:k=j.drop 1
 ·subst e;simp
 rw[iF e,iF];simp only[aBp];exact fun h=>e h.symm
theorem Oy{n}:∀{l:List Nat},l.Nodup->(∀i∈l,i<n)->l.length<=n:=by
 induction n with
 |zero=>
  intro l _ h;cases l with
  |nil=>exact cC _
  |cons a l=>have:=h a Do;omega
 |succ n ih=>
  intro l hn h;by_cases hm:n∈l
  ·have j:=ih (hn.erase n) (fun i hi=>by have u:=(hn.mem_erase_iff).1 hi;have x:=h i u.2;have y:=u.1;omega);rw[List.length_erase_of_mem hm]at j;omega
  have j:=ih hn (fun i hi=>by have x:=h i hi;have y:i≠n:=fun e=>hm (e▸hi);omega);omega
end Go.Proofs.YtfoceannfdbinaaGreat
