/- Lemmas. -/
import Derived.Test.YtfoceannfdbinaaGreatW36
set_option linter.all false
set_option maxRecDepth 1000000
set_option maxHeartbeats 32000000
namespace Go.Proofs.YtfoceannfdbinaaGreat
open Go.RowKit
def cj(O V:Int)(gs:List Gr)(k:Int)(a:Rat)(mix:List Rat):Int:=if cW O V gs≠0 then cW O V gs else if aR k a mix O then 0 else 2
structure qH(w:World)(lv:Value)(gs:List Gr)(s:Bool)(A A':Option Addr)(m c m' c':Nat)(a:Rat)(mv:Value)(mix:List Rat):Prop where
 grams:iE w lv gs
 amount:aG 64 w (.agg #[.bool s,.slice A m c,.slice A' m' c']) a
 mixes:ct 64 w mv mix
 short:mix.length<=1000000
theorem qH.below{w w' y gs s A u m c B x a C mix}(h:qH w y gs s A u m c B x a C mix)(j:Below w.heap.size w w'):qH w' y gs s A u m c B x a C mix:= ⟨h.grams.below j,h.amount.below j,h.mixes.below j,h.short⟩
theorem sC{O V gs}(h:cW O V gs=0):gs.length<=20000/\dL O V=true/\∀i,i<gs.length->iu O V gs i=true:=by
 unfold cW at h;split at h
 ·cases h
 split at h
 ·next u j=>exact⟨by omega,j.1,fun i hi=>Of.1 j.2 i (aAk.2 hi)⟩
 cases h
theorem vM{O V}(h:dL O V=true):1<=O/\O<=4/\1<=V/\V<=2000:=by unfold dL at h;simp only[gE,IS]at h;omega

theorem Uh w O V lv gs k s A J m c m' Y mv a mix(h:qH w lv gs s A J m c m' Y a mv mix): Calls Tryz.prog 123 #[uc O V lv k s A J m c m' Y mv] w fun e w'=>e=.returned (.int .i64 (cj O V gs k a mix))/\Below w.heap.size w w':=by
 obtain⟨Al,cl,rfl,_,_,_⟩:=h.grams.open_;obtain⟨Am,cm,rfl,_,_,_⟩:=h.mixes.open_;have N:=aS h;clear h;unfold uc;go_enter Tryz.func123,Tryz.ntmps123;go_wp2_with fail;obtain⟨W,hW,P0,U,ad⟩:=jy w 34 [.int .i64 O,.int .i64 V,.slice Al gs.length cl,.int .i64 k,.bool s,.slice A m c,.slice J m' Y,.slice Am mix.length cm];rw[<-hW];clear hW;obtain⟨p0,p1,p2,p3,p4,p5,p6,p7⟩:=jx P0.out;go_wp2_with fail;refine(EJ W O V _ gs (N.out.grams.below U.out)).mono ?_;rintro e w1 ⟨rfl,u⟩;have P1:=aS (P0.out.below' u);have B:=aS (U.out.trans (u.mono U.out.size));clear p0 p1 p2 p3 p4 p5 p6 p7 u P0 U;obtain⟨p0,p1,p2,p3,p4,p5,p6,p7⟩:=jx P1.out;obtain⟨te,x⟩:∃z,cW O V gs=z:=⟨_,rfl⟩;rw[x];have j:=aS x;clear x;by_cases Z:te=0
 ·subst Z;have HO:=vM (sC j.out).2.1;go_wp2_with fail;refine(VO w1 O V (.slice Al gs.length cl) k s A J m c m' Y _ a mix (N.out.amount.below B.out) (N.out.mixes.below B.out) N.out.short (by omega) _ _ _ rfl).mono ?_;rintro e w2 ⟨rfl,C⟩;have B2:=aS (B.out.trans (C.mono B.out.size));obtain⟨vb,y⟩:∃b,aR k a mix O=b:=⟨_,rfl⟩;rw[y];have HE:Hid (cj O V gs k a mix=if vb=true then 0 else 2):=aS (by unfold cj;rw[j.out,y];rfl);clear C y;cases vb
  all_goals
   go_wp2_with fail;go_ret;exact⟨aD HE.out.symm,B2.out⟩
 have e1:(te != 0)=true:=by simpa using Z
 have HE:Hid (cj O V gs k a mix=te):=aS (by unfold cj;rw[j.out,oR Z]);clear Z;go_wp2_with fail;go_ret;exact⟨aD HE.out.symm,B.out⟩

def Yo(O V:Int)(gs:List Gr)(k:Int)(a:Rat)(mix:List Rat)(h:List Int):Int:=
 if cj O V gs k a mix≠0 then cj O V gs k a mix else if(h.length:Int)=O-1/\pU 0 V h=true then 0 else 2
end Go.Proofs.YtfoceannfdbinaaGreat

namespace Go.Proofs.YtfoceannfdbinaaGreat
open Go.RowKit
theorem sP a:cD a a=0:=by
 induction a with
 |nil=>rfl
 |cons x a ih=>simp only[cD,aBh];exact ih
theorem pQ{a b c}(B:a.length=b.length)(C:b.length=c.length)(u:cD a b<0)(j:cD b c<0):cD a c<0:=by
 induction a generalizing b c with
 |nil=>
  cases b with
  |nil=>simp[cD]at u
  |cons y b=>simp at B
 |cons x a ih=>
  cases b with
  |nil=>simp at B
  |cons y b=>
   cases c with
   |nil=>simp at C
   |cons z c=>
    simp only[On,Nat.add_right_cancel_iff]at B C;simp only[cD]at u j⊢;by_cases N:x=y
    ·subst N;rw[oR rfl]at u;by_cases A:x=z
     ·subst A;rw[oR rfl]at j;rw[oR rfl];exact ih B C u j
     rw[iF A]at j⊢;exact j
    rw[iF N]at u;have J:x<y:=by
     by_cases h:x<y
     ·exact h
     rw[iF h]at u;omega
    by_cases A:y=z
    ·subst A;rw[iF (by omega),oR J];omega
    rw[iF A]at j;have U:y<z:=by
     by_cases h:y<z
     ·exact h
     rw[iF h]at j;omega
    rw[iF (by omega),oR (by omega)];omega
def mg(gs:List Gr):Prop:=gs.Pairwise (fun a b=>cD a.1 b.1<0)
theorem Nz{gs n}(hl:∀g∈gs,g.1.length=n)(h:∀i,0<i->i<gs.length->cD (gs.getD (i-1) ([],0)).1 (gs.getD i ([],0)).1<0):mg gs:=by
 unfold mg;rw[List.pairwise_iff_getElem];intro i j hi A y;have key:∀d,(hd:i+d+1<gs.length)->cD (gs[i]'(by omega)).1 (gs[i+d+1]).1<0:=by
  intro d
  induction d with
  |zero=>intro hd;have:=h (i+1) (by omega) hd;rw[show i+1-1=i by omega,eM,eM,bY (by omega),bY (by omega)]at this;exact this
  |succ d ih=>intro hd;have x:=ih (by omega);have u:=h (i+(d+1)+1) (by omega) hd;rw[show i+(d+1)+1-1=i+d+1 by omega,eM,eM,bY (by omega),bY (by omega)]at u;exact pQ (by rw[hl _ (aAz _),hl _ (aAz _)]) (by rw[hl _ (aAz _)];exact(hl _ (aAz _)).symm) x u
 have:=key (j-i-1) (by omega);have e:i+(j-i-1)+1=j:=by omega
 simp only[e]at this;exact this
theorem mg.nodup{gs}(h:mg gs):(gs.map Prod.fst).Nodup:=by refine aAI.2 (List.Pairwise.imp ?_ h);intro a b j e;rw[e,sP]at j;omega
theorem xb{O V gs i g}(j:gs[i]?=some g)(h:iu O V gs i=true):(g.1.length:Int)=O/\pU 0 V g.1=true/\1<=g.2/\g.2<=1073741824/\(0<i->cD (gs.getD (i-1) ([],0)).1 g.1<0):=by unfold iu at h;rw[mL j]at h;simp only[gE,aAU,IS]at h;exact⟨h.1.1.1.1,h.1.1.1.2,h.1.1.2,h.1.2,fun hi=>h.2.resolve_left (by omega)⟩
theorem Tl{lo hi l}(h:pU lo hi l=true):∀x∈l,lo<=x/\x<=hi:=by intro x j;have:=Of.1 h x j;simpa using this
theorem lS{O V gs}(h:cW O V gs=0):gs.length<=20000/\1<=O/\O<=4/\1<=V/\V<=2000/\(∀g∈gs,(g.1.length:Int)=O/\(∀x∈g.1,0<=x/\x<=V)/\1<=g.2/\g.2<=1073741824)/\mg gs:=by
 obtain⟨A,B,y⟩:=sC h;have u:=vM B;have hm:∀g∈gs,(g.1.length:Int)=O/\(∀x∈g.1,0<=x/\x<=V)/\1<=g.2/\g.2<=1073741824:=by intro g j;obtain⟨i,hi⟩:=aAu.1 j;have:=xb hi (y i (dO.1 hi).1);exact⟨this.1,Tl this.2.1,this.2.2.1,this.2.2.2.1⟩
 refine⟨A,u.1,u.2.1,u.2.2.1,u.2.2.2,hm,Nz (n:=O.toNat) (fun g j=>by have:=(hm g j).1;omega) (fun i hi hl=>?_)⟩;have j:gs[i]?=some gs[i]:=bY hl;have:=(xb j (y i hl)).2.2.2.2 hi;rw[mL j];exact this
theorem CH{O v:Nat}{gs}(h:cW O v gs=0)(A:v<=8):Ch gs v:=by obtain⟨y,B,C,J,N,u,U⟩:=lS h;exact⟨fun g j=>by have:=u g j;omega,y,fun g j x hx=>((u g j).2.1 x hx).2,A⟩
theorem oG{O V gs k a mix}(h:cj O V gs k a mix=0):cW O V gs=0/\aR k a mix O=true:=by
 unfold cj at h;split at h
 ·next j=>exact absurd h j
 next j=>
 split at h
 ·next u=>exact⟨by simpa using j,u⟩
 cases h
theorem vP{q}(h:0<ci q):0<q:=by
 unfold ci at h;split at h
 ·omega
 next j=>
 split at h
 ·omega
 next u=>exact Rat.not_le.1 (fun h2=>j (Rat.le_antisymm h2 (Rat.not_lt.1 u)))
theorem tD{a mix O}(h:aR 1 a mix O=true):0<a/\mix=[]:=by unfold aR at h;rw[oR rfl]at h;simp only[gE,IS,aBp]at h;exact⟨vP h.1,oF (by omega)⟩
theorem qc{a mix O}(h:aR 3 a mix O=true):0<a/\a<1/\mix=[]:=by
 unfold aR at h;rw[iF (by decide),iF (by decide),oR rfl]at h;simp only[gE,IS,aBp,aAA,aAs]at h;have j:=(Nm (a-1)).1 (by omega);have u:a-1<0:=Rat.not_le.1 j;refine⟨vP h.2.1,?_,oF (by omega)⟩;have x:=(Rat.add_lt_add_right (c:=1)).2 u
 rwa [Rat.zero_add,aBq,Rat.add_assoc,Rat.neg_add_cancel,Rat.add_zero]at x
end Go.Proofs.YtfoceannfdbinaaGreat


namespace Go.Proofs.YtfoceannfdbinaaGreat
open Go.RowKit
section
def pX:AV->Bool
 | .sl _ _ n c=>Nat.ble n c
 |_=>true
def n9:List AV->Option (List Int)
 | []=>some []
 | .i .i64 n::l=>(n9 l).map (n::·)
 |_=>none
def pT(s:St)(x:AV):Option (List Int):=match bV s 1 x with
 |some l=>cond (pX x) (n9 l) none
 |none=>none
def ou(s:St):List AV->Option (List Gr)
 | []=>some []
 |x::.i .i64 k::l=>match pT s x,ou s l with
  |some g,some r=>some ((g,k)::r)
  |_,_=>none
 |_=>none
def qw(s:St)(x:AV):Option (List Gr):=match bV s 2 x with
 |some l=>cond (pX x) (ou s l) none
 |none=>none
def kg(x:AV):Option Rat:=(n5 x).bind fun p=>cond (Nat.blt p.2.1 (2^64)&&Nat.blt p.2.2 (2^64)) (some (cA p.1 p.2.1 p.2.2)) none
def q9:List AV->Option (List Rat)
 | []=>some []
 |a::b::c::l=>match kg (.agg [a,b,c]),q9 l with
  |some q,some r=>some (q::r)
  |_,_=>none
 |_=>none
def Db(s:St)(x:AV):Option (List Rat):=match bV s 3 x with
 |some l=>cond (pX x) (q9 l) none
 |none=>none
def zk(s:St):AV->Option (Int×Int×List Gr×Int×Rat×List Rat)
 | .agg [.i .i64 O,.i .i64 V,lv,.i .i64 k,.b neg,x,y,mx]=>match qw s lv,kg (.agg [.b neg,x,y]),Db s mx with
  |some gs,some a,some mix=>cond (Nat.ble mix.length 1000000) (some (O,V,gs,k,a,mix)) none
  |_,_,_=>none
 |_=>none

section
variable {P:Program}{μ:Mu}{s:St}{w w':World}
theorem q8(h:bU μ s w){z}(hz:0<z){x v l}(hx:bV s z x=some l)(Y:VR μ x v)(y:pX x=true):∃n m,Sl w z v n m/\ap μ l m/\l.length=n*z:=by
 obtain⟨m,J,_,h3⟩:=lW h hx Y (fun _ _ _ _ _=>.inr trivial);have B:=J.length;rcases h3 with⟨rfl,rfl,rfl⟩|⟨o,off,n,c,N,p,rfl,hl,hm,rfl,j,u⟩|⟨c,n,cap,A,rfl,hl,rfl,g1,g2,g3⟩
 ·have:m=[]:=oF (by simpa using B.symm);subst this;exact⟨0,[],Sl.nil_ w z,J,by simp⟩
 ·have U:n<=c:=by simpa [pX]using y
  simp only[VR]at Y;obtain⟨p',c2,C,e,k1,Z⟩:=Y;rw[hm]at C;cases C;simp only[Value.slice.injEq,true_and]at e;obtain⟨_,rfl⟩:=e;have hc:n<=N/\N<bI:=by
   by_cases e:c<bI
   ·rw[k1 e];exact⟨U,e⟩
   have:=Z e;exact⟨this.1,this.2.1⟩
  exact⟨n,m,⟨by omega,_,N,rfl,hc.1,by have:=hc.2;unfold bI at this;unfold maxLen;omega,fun _=>⟨p.blk,p.base+off,rfl,u,j⟩⟩,J,hl⟩
 refine⟨n,m,⟨by omega,A,cap,rfl,g1,g2,fun hn=>?_⟩,J,hl⟩;obtain⟨b,base,e,k1,Z⟩:=g3 hn;exact⟨b,base,e,Z hz,k1⟩
theorem Dz:∀{l:List AV}{m:List Value}{j:List Int},n9 l=some j->ap μ l m->m=j.map (Value.int .i64)
 | [],m,j,hx,hv=>by simp only[n9,iD]at hx;subst hx;simp only[ap]at hv;subst hv;rfl
 |x::l,m,j,hx,hv=>by
  obtain⟨n,rfl⟩:∃n,x=.i .i64 n:=by
   cases x with
   |i k n=>cases k with
    |i64=>exact⟨n,rfl⟩
    |_=>simp[n9]at hx
   |_=>simp[n9]at hx
  simp only[n9,iN]at hx;obtain⟨B,u,rfl⟩:=hx;simp only[ap,VR]at hv;obtain⟨y,C,rfl,rfl,A⟩:=hv;rw[Dz u A];rfl
theorem wW(h:bU μ s w){x v u}(j:pT s x=some u)(C:VR μ x v):bR w v u:=by
 unfold pT at j;split at j
 ·next l hl=>
  obtain⟨B,j⟩:=ah j;obtain⟨n,m,A,y,J⟩:=q8 h (by omega) hl C B;have e:=Dz j y;subst e;have hn:n=u.length:=by have:=y.length;simp at this;omega
  subst hn;exact A
 cases j
theorem Ed(h:bU μ s w):∀{l:List AV}{m:List Value}{gs:List Gr},ou s l=some gs->ap μ l m->m.length=gs.length*2/\∀(i:Nat)(g:Gr),gs[i]?=some g->∃u,m[i*2]?=some u/\m[i*2+1]?=some (.int .i64 g.2)/\bR w u g.1
 | [],m,gs,hx,hv=>by simp only[ou,iD]at hx;subst hx;simp only[ap]at hv;subst hv;simp
 | [_],_,_,hx,_=>by simp[ou]at hx
 |a::b::l,m,gs,hx,hv=>by
  obtain⟨n,rfl⟩:∃n,b=.i .i64 n:=by
   cases b with
   |i k n=>cases k with
    |i64=>exact⟨n,rfl⟩
    |_=>simp[ou]at hx
   |_=>simp[ou]at hx
  simp only[ou]at hx;split at hx
  ·next g r C J=>
   simp only[iD]at hx;subst hx;simp only[ap,VR]at hv;obtain⟨U,_,rfl,B,Z,Y,rfl,rfl,hl⟩:=hv;obtain⟨k1,N⟩:=Ed h J hl;refine⟨by simp[k1];omega,fun i A j=>?_⟩;cases i with
   |zero=>simp at j;subst j;exact⟨U,rfl,rfl,wW h C B⟩
   |succ i=>
    obtain⟨u,e0,x,y⟩:=N i A (by simpa using j);refine⟨u,?_,?_,y⟩
    ·rw[show(i+1)*2=i*2+1+1 by omega];simpa using e0
    rw[show(i+1)*2+1=i*2+1+1+1 by omega];simpa using x
  cases hx
theorem zw(h:bU μ s w){x v gs}(j:qw s x=some gs)(C:VR μ x v):iE w v gs:=by
 unfold qw at j;split at j
 ·next l hl=>
  obtain⟨B,j⟩:=ah j;obtain⟨n,m,A,u,N⟩:=q8 h (by omega) hl C B;obtain⟨J,y⟩:=Ed h j u;have hn:n=gs.length:=by have:=u.length;omega
  subst hn;exact⟨m,A,y⟩
 cases j
theorem Dc(h:bU μ s w){x v q}(C:kg x=some q)(U:VR μ x v):aG 64 w v q:=by
 unfold kg at C;simp only[sT]at C;obtain⟨⟨neg,n,d⟩,j,y⟩:=C;obtain⟨u,y⟩:=ah y;cases y;simp only[gE,ON]at u;unfold n5 at j;split at j
 ·next Y xn xd=>
  split at j
  ·next n' d' hn hd=>
   obtain⟨_,j⟩:=ah j;cases j;simp only[VR,ap]at U;obtain⟨l,rfl,y0,_,rfl,rfl,y1,_,rfl,A,y2,_,rfl,B,rfl⟩:=U;obtain⟨l1,Z,J,a3⟩:=uP h hn u.1 (by omega) A;obtain⟨l2,b1,N,b3⟩:=uP h hd u.2 (by omega) B;exact⟨neg,y1,y2,l1,l2,rfl,Z,b1,by rw[J,N],J▸u.1,N▸u.2,a3,b3⟩
  cases j
 cases j
theorem Da(h:bU μ s w):∀{l:List AV}{m:List Value}{qs:List Rat},q9 l=some qs->ap μ l m->m.length=qs.length*3/\∀(i:Nat)(q:Rat),qs[i]?=some q->∃u x y,m[i*3]?=some u/\m[i*3+1]?=some x/\m[i*3+2]?=some y/\aG 64 w (.agg #[u,x,y]) q
 | [],m,qs,hx,hv=>by simp only[q9,iD]at hx;subst hx;simp only[ap]at hv;subst hv;simp
 | [_],_,_,hx,_|[_,_],_,_,hx,_=>by simp[q9]at hx
 |a::b::c::l,m,qs,hx,hv=>by
  simp only[q9]at hx;split at hx
  ·next q r hq hr=>
   simp only[iD]at hx;subst hx;simp only[ap]at hv;obtain⟨A,_,rfl,Y,B,_,rfl,Z,C,m',rfl,g2,hl⟩:=hv;obtain⟨k1,k2⟩:=Da h hr hl;refine⟨by simp[k1];omega,fun i q' j=>?_⟩;cases i with
   |zero=>simp at j;subst j;exact⟨A,B,C,rfl,rfl,rfl,Dc h hq (v:=.agg #[A,B,C]) (by simp only[VR];exact⟨[A,B,C],rfl,ap.cons Y (ap.cons Z (ap.cons g2 ap.nil_))⟩)⟩
   |succ i=>
    obtain⟨u,x,y,e0,J,N,U⟩:=k2 i q' (by simpa using j);refine⟨u,x,y,?_,?_,?_,U⟩
    ·rw[show(i+1)*3=i*3+1+1+1 by omega];simpa using e0
    ·rw[show(i+1)*3+1=i*3+1+1+1+1 by omega];simpa using J
    rw[show(i+1)*3+2=i*3+2+1+1+1 by omega];simpa using N
  cases hx
theorem NP(h:bU μ s w){x v qs}(j:Db s x=some qs)(C:VR μ x v):ct 64 w v qs:=by
 unfold Db at j;split at j
 ·next l hl=>
  obtain⟨B,j⟩:=ah j;obtain⟨n,m,A,u,N⟩:=q8 h (by omega) hl C B;obtain⟨J,y⟩:=Da h j u;have hn:n=qs.length:=by have:=u.length;omega
  subst hn;exact⟨m,A,y⟩
 cases j
theorem O5(h:bU μ s w){x v O V gs k a mix}(j:zk s x=some (O,V,gs,k,a,mix))(Y:VR μ x v): ∃C b A u m c Z N mv,v=uc O V C k b A u m c Z N mv/\qH w C gs b A u m c Z N a mv mix:=by
 unfold zk at j;split at j
 ·next O' V' C k' neg x y mx=>
  split at j
  ·next al a' ad hg ha hm=>
   obtain⟨U,j⟩:=ah j;simp only[aAv]at U;simp only[iD,Gt]at j;obtain⟨rfl,rfl,rfl,rfl,rfl,rfl⟩:=j;simp only[VR,ap]at Y;obtain⟨l,rfl,y0,_,rfl,rfl,y1,_,rfl,rfl,y2,_,rfl,h2,y3,_,rfl,rfl,y4,_,rfl,rfl,y5,_,rfl,h5,y6,_,rfl,h6,y7,_,rfl,h7,rfl⟩:=Y;have J:=Dc h ha (v:=.agg #[.bool neg,y5,y6]) (by simp only[VR];exact⟨[_,y5,y6],rfl,ap.cons (by simp[VR]) (ap.cons h5 (ap.cons h6 ap.nil_))⟩);obtain⟨s',A,n,cn,u,n',B,e1,rfl,rfl⟩:=J.cells3;exact⟨y2,neg,A,u,n,cn,n',B,y7,rfl,zw h hg h2,J,NP h hm h7,U⟩
  cases j
 cases j

def fI(args:List AV)(s:St):Option (AV×St):=
 match args with
 | [x]=>(zk s x).map fun(O,V,gs,k,a,mix)=>(.i .i64 (cj O V gs k a mix),s)
 |_=>none
theorem zx{f}(U:dt P f=true)(Z:∀(w:World)(O V:Int)(C:Value)(gs:List Gr)(k:Int)(s:Bool)(A u:Option Addr)(m c J B:Nat)(N:Value)(a:Rat)(mix:List Rat),qH w C gs s A u m c J B a N mix->Calls P f #[uc O V C k s A u m c J B N] w fun e w'=>e=.returned (.int .i64 (cj O V gs k a mix))/\Below w.heap.size w w'):ag P f fI:=by
 intro args s v s' h;unfold fI at h;split at h
 ·next x=>
  simp only[iN]at h;obtain⟨⟨O,V,gs,k,a,mix⟩,hq,h⟩:=h;simp only[Gt]at h;obtain⟨rfl,rfl⟩:=h;refine⟨⟨pB U,cC _,id⟩,?_⟩;intro μ w vs n Y j hF;simp only[ap]at j;obtain⟨y,_,rfl,ha,rfl⟩:=j;obtain⟨C,b,A,u,m,c,J,B,N,rfl,hL⟩:=O5 Y hq ha;exact pb Y (by simp[VR]) (Z w O V C gs k b A u m c J B N a mix hL)
 cases h
def Yp(ok:Int->Bool)(row:Int->Nat->List Gr->Nat->Rat->List Rat->List Int->List Rat)(args:List AV)(s:St):Option (AV×St):=
 match args with
 | [x,y]=>match zk s x,pT s y with
  |some (O,V,gs,k,a,mix),some hl=>
   cond (decide (0<=O)&&decide (0<=V)&&decide (V<=8)&&ok k&&decide (Yo O V gs k a mix hl=0))
    (some (.tup [.vw (fr (row k O.toNat gs V.toNat a mix hl)) (V.toNat+1),.i .i64 0],s)) none
  |_,_=>none
 |_=>none
end
theorem Ae:ag Tryz.prog 123 fI:=zx (by kernel_rfl) Uh
def Zn(k:Int):Bool:=decide (k=1)
def W9(_:Int)(O:Nat)(gs:List Gr)(v:Nat)(a:Rat)(_:List Rat)(hl:List Int):List Rat:=gu (aU O gs O hl) v a
end
section
noncomputable def ofE{D:Type}(enc:D->List AV)(Ok:D->Prop)(f:D->AV)(args:List AV):Option AV:=by
 classical exact if h:∃d,Ok d/\enc d=args then some (f h.choose)else none
section
variable {D:Type}{enc:D->List AV}{Ok:D->Prop}{f:D->AV}{args:List AV}{v:AV}{d:D}
theorem cU(h:ofE enc Ok f args=some v):∃d,Ok d/\args=enc d/\v=f d:=by
 unfold ofE at h;split at h
 ·next hex=>
  have e:f hex.choose=v:=TO h;exact⟨_,hex.choose_spec.1,hex.choose_spec.2.symm,e.symm⟩
 cases h
theorem Ss(inj:∀d j,enc d=enc j->d=j)(h:Ok d):ofE enc Ok f (enc d)=some (f d):=by unfold ofE;have hex:∃j,Ok j/\enc j=enc d:=⟨d,h,rfl⟩;rw[dif_pos hex];exact aAf (some∘f) (inj _ _ hex.choose_spec.2)
theorem fT(inj:∀d j,enc d=enc j->d=j)(h:Ok d)s:ab (ofE enc Ok f) (enc d) s=some (f d,s):=aj (Ss inj h) s
end
section
variable {α:Type}{f:α->List AV}{z:Nat}
theorem th(j:∀x,(f x).length=z)(hf:∀x y,f x=f y->x=y):∀{l m:List α},l.length=m.length->l.flatMap f=m.flatMap f->l=m
 | [],[],_,_=>rfl
 | [],_::_,h,_=>by cases h
 |_::_,[],h,_=>by cases h
 |x::l,y::m,h,e=>by rw[aAH,aAH]at e;obtain⟨u,A⟩:=List.append_inj e (by rw[j,j]);rw[hf _ _ u,th j hf (by simpa using h) A]
theorem JM(u:∀x,(f x).length=z){l:List α}{i o x}(h:l[i]?=some x)(j:o<z):(l.flatMap f)[i*z+o]?=(f x)[o]?:=by rw[i7 u l i o j,h];rfl
theorem PJ(u:∀x,(f x).length=z){l:List α}{i x}(h:l[i]?=some x)(j:0<z):(l.flatMap f)[i*z]?=(f x)[0]?:=JM (o:=0) u h j
theorem Jn{g:α->AV}(j:∀x y,g x=g y->x=y):∀{l m:List α},l.map g=m.map g->l=m
 | [],[],_=>rfl
 | [],_::_,h=>by cases h
 |_::_,[],h=>by cases h
 |x::l,y::m,h=>by simp only[OF,rW]at h;rw[j _ _ h.1,Jn j h.2]
end
structure RF where
 neg:Bool
 n:AV
 d:AV
def rC(x:RF):List AV:=[.b x.neg,x.n,x.d]
def KP(l:List RF):List AV:=l.flatMap rC
abbrev aP(l:List RF):AV:=.vw (KP l) l.length
theorem wm x:(rC x).length=3:=rfl
theorem V7 x y(h:rC x=rC y):x=y:=by cases x;cases y;simp only[rC,rW,AV.b.injEq,and_true]at h;obtain⟨rfl,rfl,rfl⟩:=h;rfl
theorem C6{l m}(h:aP l=aP m):l=m:=by simp only[AV.vw.injEq]at h;exact th wm V7 h.2 h.1
theorem AQ{l i x}(h:l[i]?=some x):getR (KP l) (i*3) 3=some (rC x):=iw wm h
theorem U9{l i x}(h:l[i]?=some x):(KP l)[i*3+1]?=some x.n:=JM wm h (by omega)
theorem X4{l i x}(h:l[i]?=some x):(KP l)[i*3+2]?=some x.d:=JM wm h (by omega)
structure MD where
 start:List RF
 move:List (List RF)
 fin:List RF
 say:List (List RF)
structure VD where
 ph:List Int
 w:RF
theorem eu{l m}(h:is l=is m):l=m:=Jn (fun x y e=>by simpa using e) h
structure LG where
 O:Int
 V:Int
 gs:List Gr
 k:Int
 am:RF
 mix:List RF
def Pz(g:Gr):List AV:=[.vw (is g.1) g.1.length,.i .i64 g.2]
def br(l:List Gr):List AV:=l.flatMap Pz
theorem gL g:(Pz g).length=2:=rfl
theorem Bv x y(h:Pz x=Pz y):x=y:=by obtain⟨p,n⟩:=x;obtain⟨q,n'⟩:=y;simp only[Pz,rW,AV.i.injEq,AV.vw.injEq,and_true,true_and]at h;obtain⟨⟨j,_⟩,rfl⟩:=h;rw[eu j]
theorem mJ{l i x}(h:l[i]?=some x):(br l)[i*2]?=some (.vw (is x.1) x.1.length):=PJ gL h (by omega)
def LG.cells(L:LG):List AV:=[.i .i64 L.O,.i .i64 L.V,.vw (br L.gs) L.gs.length,.i .i64 L.k,.b L.am.neg,L.am.n,L.am.d,aP L.mix]
theorem LG.inj(x y:LG)(h:x.cells=y.cells):x=y:=by
 obtain⟨a,b,c,d,e,f⟩:=x;obtain⟨a',b',c',d',e',f'⟩:=y;obtain⟨B,C,J⟩:=e;obtain⟨e1',e2',e3'⟩:=e';have j:aP f=aP f':=by simp only[LG.cells,rW,and_true]at h;exact h.2.2.2.2.2.2.2
 simp only[LG.cells,rW,AV.i.injEq,AV.b.injEq,AV.vw.injEq,and_true,true_and]at h;obtain⟨rfl,rfl,⟨u,A⟩,rfl,rfl,rfl,rfl,_⟩:=h;rw[th gL Bv A u,C6 j]
structure TD where
 ms:List MD
 ws:List (List VD)
 L:LG
def RF.q(x:RF):Rat:=(kg (.agg (rC x))).getD 0
structure RF.Ok(x:RF):Prop where
 v:kg (.agg (rC x))=some x.q
 bn:bare x.n=true
 bd:bare x.d=true
 fn:flat x.n=true
 fd:flat x.d=true
theorem RF.Ok.flat{x}(h:x.Ok):(rC x).all Go.Proofs.YtfoceannfdbinaaGreat.flat=true:=by simp only[rC,aAR,h.fn,h.fd];rfl
theorem RF.Ok.bare{x}(h:x.Ok):aq (rC x)=true:=by simp only[rC,aq,Go.Proofs.YtfoceannfdbinaaGreat.bare,h.bn,h.bd];rfl
theorem lX{x q}(h:kg x=some q):fg x=some q:=by unfold kg at h;simp only[sT]at h;obtain⟨⟨neg,n,d⟩,u,j⟩:=h;obtain⟨_,j⟩:=ah j;cases j;unfold fg;rw[u];rfl
theorem RF.Ok.r{x}(h:x.Ok):fg (.agg (rC x))=some x.q:=lX h.v
def jG(l:List RF):List Rat:=l.map RF.q
theorem yV:∀{l:List RF},(∀x∈l,x.Ok)->q9 (KP l)=some (jG l)
 | [],_=>rfl
 |x::l,h=>by have j:=(h x Do).v;have u:=yV (l:=l) fun y hy=>h y (tK _ hy);show q9 (rC x++KP l)=_;simp only[rC,aAy,aAB,q9]at j⊢;rw[j,u];rfl
theorem ND{l}(h:∀x∈l,x.Ok):(KP l).all flat=true:=by
 induction l with
 |nil=>rfl
 |cons x l ih=>show(rC x++KP l).all flat=true;rw[aCW,(h x Do).flat,ih fun y hy=>h y (tK _ hy)];rfl
theorem Sc l:(KP l).length=l.length*3:=de wm l
end
def RO(m:MD):Nat:=(m.say.head?.map List.length).getD 0
def IG(l:List (List RF))(n k:Nat):Bool:=Nat.beq l.length n&&l.all fun r=>Nat.beq r.length k
def Zi(m:MD)(i:Nat):List Rat:=jG (m.move.getD i [])++[(m.fin[i]?.map RF.q).getD 0]
def VQ(m:MD)(i:Nat):Bool:=ni (jG (m.say.getD i []))&&ni (Zi m i)
def Nl(m:MD):Bool:=decide (1<=m.start.length)&&decide (1<=RO m)&&Nat.beq m.fin.length m.start.length&&IG m.move m.start.length m.start.length&&IG m.say m.start.length (RO m)
def MP(m:MD):Bool:=Nl m&&ni (jG m.start)&&(List.range m.start.length).all (VQ m)
def LG.qs(L:LG):List Rat:=jG L.mix
def LG.err(L:LG):Int:=cj L.O L.V L.gs L.k L.am.q L.qs
structure MD.Ok(m:MD):Prop where
 hs:(∀x∈m.start,x.Ok)/\m.start.length<=1000
 hm:(∀r∈m.move,(∀x∈r,x.Ok)/\r.length<=1000)/\m.move.length<=1000
 hf:(∀x∈m.fin,x.Ok)/\m.fin.length<=1000
 hy:(∀r∈m.say,(∀x∈r,x.Ok)/\r.length<=1000)/\m.say.length<=1000
structure LG.Ok(L:LG):Prop where
 ham:L.am.Ok
 hmix:(∀x∈L.mix,x.Ok)/\L.mix.length<=1000
 hgs:L.gs.length<=1000
structure TD.Ok(t:TD):Prop where
 hms:(∀m∈t.ms,m.Ok)/\t.ms.length<=1000
 hws:(∀l∈t.ws,(∀v∈l,v.w.Ok/\v.ph.length<=9223372036854775807)/\l.length<=9223372036854775807)/\t.ws.length<=1000
 hL:t.L.Ok
def iH:AV->Nat
 | .vw _ n=>n
 |_=>0
def pJ:AV->Bool
 | .vw c _=>aq c
 | .snil=>true
 |_=>false
theorem ma{x}(h:pJ x=true):Ls x=some (.i .i64 (iH x)):=by cases x<;>first|rfl|simp[pJ]at h
theorem dV{x}(h:pJ x=true):bare x=true/\flat x=true:=by cases x<;>first|exact⟨rfl,rfl⟩|simp[pJ]at h
theorem pA E f cs asn s:xJ E (.fn f [] cs) asn s=E.call f (asn++cs) s:=by simp[xJ]
noncomputable def relV(R:List AV->AV->Prop)(args:List AV):Option AV:=by
 classical exact if h:∃v,R args v then some h.choose else none
theorem il{R args v}(hu:∀j,R args j->j=v)(h:R args v):relV R args=some v:=by unfold relV;have hex:∃v,R args v:=⟨v,h⟩;rw[dif_pos hex];exact aAf some (hu _ hex.choose_spec)
theorem dR{R args v}(h:relV R args=some v):R args v:=by
 unfold relV at h;split at h
 ·next hex=>
  have e:hex.choose=v:=TO h;rw[<-e];exact hex.choose_spec
 cases h
noncomputable def relS(R:List AV->St->AV->St->Prop)(args:List AV)(s:St):Option (AV×St):=by
 classical exact if h:∃p:AV×St,R args s p.1 p.2 then some h.choose else none
theorem uI{R args s s' v}(hu:∀j s2,R args s j s2->j=v/\s2=s')(h:R args s v s'):relS R args s=some (v,s'):=by unfold relS;have hex:∃p:AV×St,R args s p.1 p.2:=⟨(v,s'),h⟩;rw[dif_pos hex];have:=hu _ _ hex.choose_spec;exact aAf some (Prod.ext this.1 this.2)
theorem pd{R args s s' v}(h:relS R args s=some (v,s')):R args s v s':=by
 unfold relS at h;split at h
 ·next hex=>
  have e:hex.choose=(v,s'):=TO h;have:=hex.choose_spec;rw[e]at this;exact this
 cases h
theorem aw.mono{P fn Q Q'}(h:∀v s,Q v s->Q' v s){ex fr s}(hd:aw P fn Q ex fr s):aw P fn Q' ex fr s:=by
 unfold aw at hd⊢;obtain⟨u,x,l,y,j⟩:=hd;refine⟨u,x,l,y,?_⟩;split at j
 ·exact h _ _ j
 exact h _ _ j
section
theorem od{α:Type}(g:α->AV):∀l:List α,l.flatMap (fun x=>[g x])=l.map g
 | []=>rfl
 |x::l=>by rw[aAH,OF,od g l];rfl
def Vr(L:Oc)(cv:AV)(asn:List AV)(b:Bool):Prop:=match cv with
 | .fn f fs cs=>∃g,pick f L=some g/\∀s,g (fs++asn++cs) s=some (.b b,s)
 |_=>False
theorem xF{P L cv asn b}(h:Vr L cv asn b)s:xJ (Ev.at_ P (fK L) 1) cv asn s=some (.b b,s):=by
 cases cv<;>simp only[Vr]at h
 obtain⟨g,j,u⟩:=h;show(Ev.at_ P (fK L) 1).call _ _ s=_;rw[yW j,u]
theorem Yy{L cv asn b c}(h:Vr L cv asn b)(k:Vr L cv asn c):b=c:=by have j:=(xF (P:=default) h ⟨.nil,0⟩).symm.trans (xF k ⟨.nil,0⟩);simpa using j
section
variable {α:Type}
def uu(p:α->Bool):List α->Nat->Int
 | [],_=>-1
 |x::l,i=>cond (p x) (i:Int) (uu p l (i+1))
theorem rP p:∀(l:List α)(i:Nat),decide (uu p l i≥0)=l.any p
 | [],_=>rfl
 |x::l,i=>by
  unfold uu;rw[List.any_cons];cases p x with
  |true=>simp
  |false=>exact rP p l (i+1)
theorem wX{p q}:∀{l:List α}(i:Nat),(∀x∈l,p x=q x)->uu p l i=uu q l i
 | [],_,_=>rfl
 |x::l,i,h=>by unfold uu;rw[h x Do,wX (i+1) fun y hy=>h y (tK _ hy)]
theorem Lz{p}{l:List α}{i x}(j:l[i]?=some x):uu p (l.drop i) i=cond (p x) (i:Int) (uu p (l.drop (i+1)) (i+1)):=by obtain⟨hl,h⟩:=dO.1 j;rw[AT hl,h];rfl
def Pt(p:α->Bool)(l:List α):AV:=.i .i64 (uu p l 0)
def Us(p:α->Bool)(l:List α):AV:=.b (l.any p)
def Yu(L:Oc)(cell:α->List AV)(el:α->AV)(res:(α->Bool)->List α->AV)(args:List AV)(v:AV):Prop:=
 ∃(l:List α)(cv:AV)(p:α->Bool),args=[.vw (l.flatMap cell) l.length,cv]/\bare cv=true/\l.length<=9223372036854775807/\(∀x∈l,Vr L cv [el x] (p x))/\v=res p l
variable {L:Oc}{cell:α->List AV}{el:α->AV}{z:Nat}{l:List α}{cv:AV}{p:α->Bool}
theorem Vo{j}(Y:∀x,(cell x).length=z)(hi:∀x y,cell x=cell y->x=y)(u:∀p q l,(∀x∈l,p x=q x)->j p l=j q l)(U:bare cv=true)(hl:l.length<=9223372036854775807)(hp:∀x∈l,Vr L cv [el x] (p x)):relV (Yu L cell el j) [.vw (l.flatMap cell) l.length,cv]=some (j p l):=by refine il ?_ ⟨l,cv,p,rfl,U,hl,hp,rfl⟩;rintro v' ⟨Z,C,p',e,_,_,A,rfl⟩;simp only[rW,AV.vw.injEq,and_true]at e;obtain⟨⟨J,N⟩,rfl⟩:=e;obtain rfl:=th Y hi N J;exact u _ _ _ fun x B=>Yy (A x B) (hp x B)
theorem Yn(u:∀x,(cell x).length=z)(hi:∀x y,cell x=cell y->x=y)(j:bare cv=true)(hl:l.length<=9223372036854775807)(hp:∀x∈l,Vr L cv [el x] (p x))s:ab (relV (Yu L cell el Pt)) [.vw (l.flatMap cell) l.length,cv] s=some (.i .i64 (uu p l 0),s):= aj (Vo u hi (fun p q l h=>by unfold Pt;rw[wX 0 h]) j hl hp) s
theorem YH(u:∀x,(cell x).length=z)(hi:∀x y,cell x=cell y->x=y)(j:bare cv=true)(hl:l.length<=9223372036854775807)(hp:∀x∈l,Vr L cv [el x] (p x))s:ab (relV (Yu L cell el Us)) [.vw (l.flatMap cell) l.length,cv] s=some (.b (l.any p),s):= aj (Vo u hi (fun p q l h=>by unfold Us;rw[<-rP p l 0,<-rP q l 0,wX 0 h]) j hl hp) s
end
end
def kD(x:Int):List AV:=[.i .i64 x]
theorem tp x:(kD x).length=1:=rfl
theorem zY x y(h:kD x=kD y):x=y:=by simpa [kD]using h
noncomputable abbrev idxVI(L:Oc):=relV (Yu L kD (fun x:Int=>.i .i64 x) Pt)
noncomputable abbrev anyVI(L:Oc):=relV (Yu L kD (fun x:Int=>.i .i64 x) Us)
theorem UG L(hL:∀p∈L,ag Tryz.prog p.1 p.2):ag Tryz.prog 176 (ab (idxVI L)):=by
 refine aE (by kernel_rfl) Tryz.func176 Tryz.ntmps176 rfl ?_;have M:Mc Tryz.prog (fK L) (Ev.at_ Tryz.prog (fK L) 1):=DF l0 oc hL;intro args v h;obtain⟨l,cv,p,rfl,A,hn,hp,rfl⟩:=dR h;refine⟨by simp only[aq,bare,A];rfl,rfl,nE rfl,?_⟩;rw[cZ,St.of_nil];refine aN M ?_;refine Jd.seq ?_;refine aN M ?_;refine Jd.loopB (fun k g s=>∃i:Nat,i+k=l.length/\uu p l 0=uu p (l.drop i) i/\g=⟨176,19,Tr.of [(8,.i .i64 (i:Int)),(7,.i .i64 (l.length:Int)),(6,.vw (l.flatMap kD) l.length),(1,cv),(0,.vw (l.flatMap kD) l.length)],none,[]⟩/\s=St.of [] 0) l.length ?_ ?_
 ·exact⟨_,_,(d9 0 [] [(8,.i .i64 ((0:Nat):Int)),(7,.i .i64 (l.length:Int)),(6,.vw (l.flatMap kD) l.length),(1,cv),(0,.vw (l.flatMap kD) l.length)] [] (by repeat' first|exact bK|refine aM ?_ ?_|exact Wk.bare A|exact eU) aK),0,by omega,rfl,rfl,rfl⟩
 rintro k _ _ ⟨i,hi,j,rfl,rfl⟩ Q' hex u B;refine aN M ?_;refine Jd.seq ?_;refine Jd.cnd rfl (fun y=>?_) (fun y=>?_);rotate_left
 ·refine Jd.exitT (hex _ _ ?_);show Jb _ _ _ _ _ _;have C:i=l.length:=by have:=io y;omega
  subst C;refine aN M ?_;refine Jd.ret (aw.one rfl rfl ?_);rw[Pt,j,aAQ];rfl
 have J:i<l.length:=by have:=gT y;omega
 obtain⟨x,U⟩:∃x,l[i]?=some x:=⟨_,bY J⟩;rw[Lz U]at j;have N:=xF (P:=Tryz.prog) (hp x (eQ U));dsimp only at N;have Y:(l.flatMap kD)[i]?=some (.i .i64 x):=by have:=PJ tp U (by omega);rwa [aAZ]at this
 refine Jd.skipT ?_;refine Jd.seq (Jd.block ?_);clear hex;refine aN M ?_;obtain⟨e,he⟩:∃e,p x=e:=⟨_,rfl⟩;rw[he]at N j;refine rg M (ax @iO (ax @Y @N)) ?_;cases e with
 |true=>refine cT rfl ?_;refine aN M ?_;refine Jd.ret ?_;refine u _ _ ?_;refine gW.r (aw.one rfl rfl ?_);rw[Pt,j];rfl
 |false=>refine cF rfl ?_;refine Jd.skip ?_;refine bW.norm ?_;show Jb _ _ _ _ _ _;refine f6 M ?_;exact B _ _ ⟨k-1,_,_,by omega,(d9 0 [] [(8,.i .i64 ((i+1:Nat):Int)),(7,.i .i64 (l.length:Int)),(6,.vw (l.flatMap kD) l.length),(1,cv),(0,.vw (l.flatMap kD) l.length)] [] (by repeat' first|exact bK|refine aM ?_ ?_|exact Wk.bare A|exact eU) aK),i+1,by omega,j,rfl,rfl⟩
theorem UJ L(hL:∀p∈L,ag Tryz.prog p.1 p.2):ag Tryz.prog 133 (ab (anyVI L)):=by obtain⟨E,M,u⟩:=ur (ab (idxVI L)) (UG L hL) rfl;refine aE (by kernel_rfl) Tryz.func133 Tryz.ntmps133 rfl ?_;intro args v h;obtain⟨l,cv,p,rfl,j,hn,hp,rfl⟩:=dR h;refine⟨by simp only[aq,bare,j];rfl,rfl,nE rfl,?_⟩;have hi:=Yn tp zY j hn hp;rw[cZ,St.of_nil];refine aN M ?_;refine rg M (ax @u @hi) ?_;exact Jd.ret (aw.one rfl rfl (by rw[Us,<-rP p l 0]))
end Go.Proofs.YtfoceannfdbinaaGreat
namespace Go.Proofs.YtfoceannfdbinaaGreat
open Go.RowKit
section
mutual
def low(n:Nat):AV->Bool
 | .ptr o _=>Nat.blt o n
 | .sl o _ _ _=>Nat.blt o n
 | .nat _|.yl _=>false
 | .mp o=>Nat.blt o n
 | .fn _ a b=>lG n a&&lG n b
 | .ifc _ v=>low n v
 | .agg l=>lG n l
 | .tup l=>lG n l
 |_=>true
def lG(n:Nat):List AV->Bool
 | []=>true
 |x::l=>low n x&&lG n l
end
mutual
theorem dG n:∀x:AV,bare x=true->low n x=true
 | .ptr ..,h|.sl ..,h|.nat _,h|.yl _,h|.mp _,h=>by cases h
 | .fn _ a b,h=>by simp only[bare,gE]at h;simp only[low,dS n a h.1,dS n b h.2];rfl
 | .ifc _ v,h=>by simp only[bare]at h;simp only[low,dG n v h]
 | .agg l,h=>by simp only[bare]at h;simp only[low,dS n l h]
 | .tup l,h=>by simp only[bare]at h;simp only[low,dS n l h]
 | .b _,_|.i _ _,_|.pnil,_|.snil,_|.num _,_|.vw _ _,_|.vp _ _,_|.fm _ _,_|.mnil,_|.fnil,_|.inil,_=>rfl
theorem dS n:∀l:List AV,aq l=true->lG n l=true
 | [],_=>rfl
 |x::l,h=>by simp only[aq,gE]at h;simp only[lG,dG n x h.1,dS n l h.2];rfl
end
theorem wI{n}:∀{l:List AV},lG n l=true->∀{i:Nat}{x:AV},l[i]?=some x->low n x=true
 | [],_,_,_,h=>by simp at h
 |y::l,h,i,x,hx=>by
  simp only[lG,gE]at h;cases i with
  |zero=>simp at hx;subst hx;exact h.1
  |succ i=>exact wI h.2 (by simpa using hx)
mutual
theorem Bo{μ μ' n ρ}(hl:∀o l,o<n->μ o=some l->μ' (ρ o)=some l)(u:∀b i v,μ.fz b i=some v->μ'.fz b i=some v):∀(x:AV){v:Value},low n x=true->VR μ x v->VR μ' (ig ρ x) v
 | .b _,_,_,e|.i _ _,_,_,e|.pnil,_,_,e|.snil,_,_,e|.mnil,_,_,e|.fnil,_,_,e|.inil,_,_,e=>by simpa only[VR,ig]using e
 | .nat _,_,h,_|.yl _,_,h,_=>by cases h
 | .ptr o _,_,h,e=>by simp only[low,ON]at h;simp only[VR,ig]at e⊢;obtain⟨p,j,B⟩:=e;exact⟨p,hl o _ h j,B⟩
 | .sl o _ _ _,_,h,e=>by simp only[low,ON]at h;simp only[VR,ig]at e⊢;obtain⟨p,c,j,B⟩:=e;exact⟨p,c,hl o _ h j,B⟩
 | .mp o,_,h,e=>by simp only[low,ON]at h;simp only[VR,ig]at e⊢;obtain⟨p,j,B⟩:=e;exact⟨p,hl o _ h j,B⟩
 | .num n,_,_,e=>d7 u (.num n) rfl e
 | .vw c n,_,_,e=>d7 u (.vw c n) rfl e
 | .vp c n,_,_,e=>d7 u (.vp c n) rfl e
 | .fm a b,_,_,e=>d7 u (.fm a b) rfl e
 | .fn f a c,_,h,e=>by simp only[low,gE]at h;simp only[VR,ig]at e⊢;obtain⟨C,J,A,j,B⟩:=e;exact⟨C,J,A,rF hl u a h.1 j,rF hl u c h.2 B⟩
 | .ifc t x,_,h,e=>by simp only[low]at h;simp only[VR,ig]at e⊢;obtain⟨y,A,j⟩:=e;exact⟨y,A,Bo hl u x h j⟩
 | .agg l,_,h,e=>by simp only[low]at h;simp only[VR,ig]at e⊢;obtain⟨y,A,j⟩:=e;exact⟨y,A,rF hl u l h j⟩
 | .tup l,_,h,e=>by simp only[low]at h;simp only[VR,ig]at e⊢;obtain⟨y,A,j⟩:=e;exact⟨y,A,rF hl u l h j⟩
theorem rF{μ μ' n ρ}(hl:∀o l,o<n->μ o=some l->μ' (ρ o)=some l)(j:∀b i v,μ.fz b i=some v->μ'.fz b i=some v):∀(l:List AV){m:List Value},lG n l=true->ap μ l m->ap μ' (cS ρ l) m
 | [],_,_,e=>by simpa only[ap,cS]using e
 |x::xs,_,h,e=>by simp only[lG,gE]at h;simp only[ap,cS]at e⊢;obtain⟨y,C,u,A,B⟩:=e;exact⟨y,C,u,Bo hl j x h.1 A,rF hl j xs h.2 B⟩
end
mutual
theorem wJ{μ μ' n ρ}(hl:∀o l,o<n->μ (ρ o)=some l->μ' o=some l)(u:∀b i v,μ.fz b i=some v->μ'.fz b i=some v):∀(x:AV){v:Value},low n x=true->VR μ (ig ρ x) v->VR μ' x v
 | .b _,_,_,e|.i _ _,_,_,e|.pnil,_,_,e|.snil,_,_,e|.mnil,_,_,e|.fnil,_,_,e|.inil,_,_,e=>by simpa only[VR,ig]using e
 | .nat _,_,h,_|.yl _,_,h,_=>by cases h
 | .ptr o _,_,h,e=>by simp only[low,ON]at h;simp only[VR,ig]at e⊢;obtain⟨p,j,B⟩:=e;exact⟨p,hl o _ h j,B⟩
 | .sl o _ _ _,_,h,e=>by simp only[low,ON]at h;simp only[VR,ig]at e⊢;obtain⟨p,c,j,B⟩:=e;exact⟨p,c,hl o _ h j,B⟩
 | .mp o,_,h,e=>by simp only[low,ON]at h;simp only[VR,ig]at e⊢;obtain⟨p,j,B⟩:=e;exact⟨p,hl o _ h j,B⟩
 | .num n,_,_,e=>d7 u (.num n) rfl e
 | .vw c n,_,_,e=>d7 u (.vw c n) rfl e
 | .vp c n,_,_,e=>d7 u (.vp c n) rfl e
 | .fm a b,_,_,e=>d7 u (.fm a b) rfl e
 | .fn f a c,_,h,e=>by simp only[low,gE]at h;simp only[VR,ig]at e⊢;obtain⟨C,J,A,j,B⟩:=e;exact⟨C,J,A,j6 hl u a h.1 j,j6 hl u c h.2 B⟩
 | .ifc t x,_,h,e=>by simp only[low]at h;simp only[VR,ig]at e⊢;obtain⟨y,A,j⟩:=e;exact⟨y,A,wJ hl u x h j⟩
 | .agg l,_,h,e=>by simp only[low]at h;simp only[VR,ig]at e⊢;obtain⟨y,A,j⟩:=e;exact⟨y,A,j6 hl u l h j⟩
 | .tup l,_,h,e=>by simp only[low]at h;simp only[VR,ig]at e⊢;obtain⟨y,A,j⟩:=e;exact⟨y,A,j6 hl u l h j⟩
theorem j6{μ μ' n ρ}(hl:∀o l,o<n->μ (ρ o)=some l->μ' o=some l)(j:∀b i v,μ.fz b i=some v->μ'.fz b i=some v):∀(l:List AV){m:List Value},lG n l=true->ap μ (cS ρ l) m->ap μ' l m
 | [],_,_,e=>by simpa only[ap,cS]using e
 |x::xs,_,h,e=>by simp only[lG,gE]at h;simp only[ap,cS]at e⊢;obtain⟨y,C,u,A,B⟩:=e;exact⟨y,C,u,wJ hl j x h.1 A,j6 hl j xs h.2 B⟩
end
def ql(n:Nat):AO->Prop
 | .cells c _ _=>lG n c=true
 | .amap I=>∀es,I es->∀e∈es,bare e.key=true/\bare e.val=true
 | .defs=>True
 |_=>False
def jF(ρ:Nat->Nat):AO->AO
 | .cells c t op=>.cells (cS ρ c) t op
 |x=>x
theorem X6{μ μ' w n k ρ}(hl:∀o l,o<n->μ o=some l->μ' (ρ o)=some l)(Y:∀b i v,μ.fz b i=some v->μ'.fz b i=some v)(N:k<n){x}(U:ql n x)(h:OR μ w k x):OR μ' w (ρ k) (jF ρ x):=by
 cases x<;>simp only[ql]at U
 case cells c t op=>simp only[OR,jF]at h⊢;obtain⟨p,cs,j,A,J,B,h5⟩:=h;refine⟨p,cs,hl _ _ N j,A,J,⟨by rw[pw];exact B.1,B.2⟩,fun i y hy=>?_⟩;rw[q7,iN]at hy;obtain⟨Z,C,rfl⟩:=hy;obtain⟨u,g1,g2⟩:=h5 i Z C;exact⟨u,g1,Bo hl Y Z (wI U C) g2⟩
 case amap I=>simp only[OR,jF]at h⊢;obtain⟨p,l,c,es,j,A,J,B⟩:=h;exact⟨p,l,c,es,hl _ _ N j,A,xp Y (U es B) J,B⟩
 case defs=>simp only[OR,jF]at h⊢;obtain⟨p,j,A⟩:=h;exact⟨p,hl _ _ N j,A⟩
theorem So{μ μ' w n k ρ}(hl:∀o l,o<n->μ (ρ o)=some l->μ' o=some l)(U:∀b i v,μ.fz b i=some v->μ'.fz b i=some v)(J:k<n){x}(N:ql n x)(h:OR μ w (ρ k) (jF ρ x)):OR μ' w k x:=by
 cases x<;>simp only[ql]at N
 case cells c t op=>simp only[OR,jF]at h⊢;obtain⟨p,cs,j,A,C,B,h5⟩:=h;refine⟨p,cs,hl _ _ J j,A,C,⟨by rw[<-pw ρ];exact B.1,B.2⟩,fun i y hy=>?_⟩;obtain⟨u,Y,Z⟩:=h5 i (ig ρ y) (by rw[q7,hy];rfl);exact⟨u,Y,wJ hl U y (wI N hy) Z⟩
 case amap I=>simp only[OR,jF]at h⊢;obtain⟨p,l,c,es,j,A,C,B⟩:=h;exact⟨p,l,c,es,hl _ _ J j,A,xp U (N es B) C,B⟩
 case defs=>simp only[OR,jF]at h⊢;obtain⟨p,j,A⟩:=h;exact⟨p,hl _ _ J j,A⟩
section
variable {P:Program}
theorem oH{f fn c nt}(b6:dt P f=true)(b7:P.funcs[f]?=some fn)(hn:fn.ntmps=nt)(hc:fn.body=some c){g}(H:∀{args s v s'},g args s=some (v,s')->∃(n m:Nat)(ρ:Nat->Nat)(J:List AV)(s2:St)(v2:AV),(∀k k',k<n->k'<n->ρ k=ρ k'->k=k')/\(∀j,j<m->ρ (n+j)=s.nx+j)/\s2.nx=n /\ (∀k x,s2.h.get k=some x->k<n/\ql n x/\s.h.get (ρ k)=some (jF ρ x))/\(∀k,k<n->s2.h.get k≠none) /\ args=cS ρ J/\lG n J=true/\J.length<=nt/\v=ig ρ v2/\low (n+m) v2=true/\s'.nx=s.nx+m/\(∀o,o<s.nx->(∀k,k<n->ρ k≠o)->s'.h.get o=s.h.get o)/\(Wf s->∀o,s.nx+m<=o->s'.h.get o=none)/\
   (∀{μ:Mu}{w:World}{vs:List Value},bU μ s w->ap μ args vs->∀k,k<n->∃p,μ (ρ k)=some (.at_ p))/\
   Jb n P c ⟨f,nt,Tr.ofList J,none,[]⟩ s2 (aw P fn fun v' t=>v'=v2/\∀k,k<n+m->∃x,t.h.get k=some x/\ql (n+m) x/\s'.h.get (ρ k)=some (jF ρ x))):ag P f g:=by
 subst hn;intro args s v s' hg;obtain⟨n,m,ρ,J,s2,v2,hinj,Z,hnx,hS,bf,bd,bx,bo,hv,b8,b9,am,a7,a6,hJ⟩:=H hg;obtain⟨N,hN⟩:∃N,s.nx=N:=⟨_,rfl⟩;rw[hN]at Z b9 a7 am
 have hex:∀k,k<n->∃x,s2.h.get k=some x/\ql n x/\s.h.get (ρ k)=some (jF ρ x):=fun k B=>by
  cases e:s2.h.get k with
  |none=>exact absurd e (bf k B)
  |some x=>exact⟨x,rfl,(hS k x e).2.1,(hS k x e).2.2⟩
 refine⟨⟨pB b6,by omega,fun hW o ho=>a7 hW o (by omega)⟩,?_⟩;intro μ w vs nn hR bj hF;have hW:Wf s:=hR.wf
 have hlt:∀k,k<n->ρ k<N:=fun k B=>by
  rcases By (ρ k) N with h|h
  ·exact h
  obtain⟨x,_,_,U⟩:=hex k B;rw[hW (ρ k) (by omega)]at U;cases U
 obtain⟨μ2,e2⟩:∃μ2:Mu,μ2=⟨fun k=>if k<n then μ (ρ k)else none,μ.fz⟩:=⟨_,rfl⟩;have m2:∀k,k<n->μ2 k=μ (ρ k):=fun k B=>by subst e2;exact oR B
 have cd:∀k,n<=k->μ2 k=none:=fun k B=>by subst e2;exact iF (by omega)
 have z2:μ2.fz=μ.fz:=by subst e2;rfl
 have b4:bU μ2 s2 w:=by
  refine⟨⟨fun k x e hm=>?_,fun k k' x x' p p' e e' hm a4 hb=>?_,fun k q A mm c k' x' p' e m1 e' mm2=>?_,fun k B=>?_⟩,fun b i v hv=>?_⟩
  ·obtain⟨u,C,U⟩:=hS k x e;rw[m2 k u]at hm;exact So (fun o l ho h=>by rw[m2 o ho];exact h) (fun b i v h=>by rw[z2];exact h) u C (hR.obj _ _ U hm)
  ·obtain⟨u,C,U⟩:=hS k x e;obtain⟨bn,cf,bB⟩:=hS k' x' e';rw[m2 k u]at hm;rw[m2 k' bn]at a4;exact hinj k k' u bn (hR.inj _ _ _ _ _ _ U bB hm a4 hb)
  ·obtain⟨u,C,U⟩:=hS k _ e;exact C.elim
  ·cases e:s2.h.get k with
   |none=>rfl
   |some x=>have:=(hS k x e).1;omega
  rw[z2]at hv;obtain⟨u,C,U⟩:=hR.fz b i v hv;refine⟨u,C,fun k x p e hm=>?_⟩;obtain⟨g1,g2,g3⟩:=hS k x e;rw[m2 k g1]at hm;exact U _ _ p g3 hm
 have cb:ap μ2 J vs:=by rw[bd]at bj;exact j6 (fun o l ho h=>by rw[m2 o ho];exact h) (fun b i v h=>by rw[z2];exact h) J bx bj
 have ba:=a6 hR bj;refine aCi (ui b7 hc bo hJ nn b4 cb (fun k B=>cd k (by omega))) ?_;rintro e w' ⟨v1,v',t,μ',rfl,⟨rfl,al⟩,a0,Y,ca⟩;have place:∀k p,k<n->μ (ρ k)=some (.at_ p)->μ' k=some (.at_ p):=fun k p B h=>Y.base k _ B (by rw[m2 k B];exact h);have same:∀g,g<w.heap.size->(∀k p,k<n->μ (ρ k)=some (.at_ p)->p.blk≠g)->w'.heap[g]?=w.heap[g]?:=fun g hg h=>Y.blk g hg fun k x p e hm=>by obtain⟨u,_,_⟩:=hS k x e;rw[m2 k u]at hm;exact h k p u hm
 have lt:∀o x p,s.h.get o=some x->μ o=some (.at_ p)->p.blk<w.heap.size:=fun o x p e hm=>by obtain⟨b,hb⟩:=(hR.obj o x e (by rw[hm];simp)).at_ hm;exact(IF.1 hb).1
 have ge:∀j x p,j<m->t.h.get (n+j)=some x->μ' (n+j)=some (.at_ p)->w.heap.size<=p.blk:=fun j x p hj e hm=>by
  rcases Y.own _ x p e hm with h|⟨k,x0,p0,u,C,U⟩
  ·exact h
  exfalso;have B:=(hS k x0 u).1;rw[m2 k B]at C;obtain⟨y,q1,_,_⟩:=al k (by omega);have:=a0.inj _ _ _ _ _ _ q1 e (place k p0 B C) hm U;omega
 obtain⟨μ3,e3⟩:∃μ3:Mu,μ3=⟨fun o=>if o<N then μ o else if o<N+m then μ' (n+(o-N))else μ o,μ'.fz⟩:=⟨_,rfl⟩;have l1:∀o,o<N->μ3 o=μ o:=fun o h=>by subst e3;exact oR h
 have l2:∀j,j<m->μ3 (N+j)=μ' (n+j):=fun j h=>by subst e3;show(if N+j<N then μ (N+j)else if N+j<N+m then μ' (n+(N+j-N))else μ (N+j))=_;rw[iF (by omega),oR (by omega),aAY]
 have l3:∀o,N+m<=o->μ3 o=μ o:=fun o h=>by subst e3;show(if o<N then μ o else if o<N+m then μ' (n+(o-N))else μ o)=_;rw[iF (by omega),iF (by omega)]
 have z3:μ3.fz=μ'.fz:=by subst e3;rfl
 have b0:∀o,N<=o->o<N+m->μ o=none:=fun o ho C=>hF o (by omega) (by omega);have a9:lJ μ μ3:=by
  refine⟨fun o l h=>?_,fun b i v hv=>by rw[z3];exact Y.fzm b i v (by rw[z2];exact hv)⟩;rcases By o N with u|u
  ·rw[l1 o u];exact h
  rcases By o (N+m)with C|C
  ·rw[b0 o u C]at h;cases h
  rw[l3 o C];exact h
 have up:∀k l,k<n+m->μ' k=some l->μ3 (ρ k)=some l:=fun k l B h=>by
  rcases By k n with u|u
  ·rw[l1 _ (hlt k u)];obtain⟨p,hp⟩:=ba k u;rw[place k p u hp]at h;rw[hp];exact h
  obtain⟨j,rfl⟩:∃j,k=n+j:=⟨k-n,by omega⟩;rw[Z j (by omega),l2 j (by omega)];exact h
 have an:∀o x,s'.h.get o=some x->(∃k,k<n+m/\ρ k=o)∨(o<N/\(∀k,k<n->ρ k≠o)/\s.h.get o=some x):=fun o x e=>by
  rcases By o N with h|h
  ·by_cases C:∃k,k<n/\ρ k=o
   ·obtain⟨k,B,U⟩:=C;exact .inl ⟨k,by omega,U⟩
   have av:∀k,k<n->ρ k≠o:=fun k B e2=>C ⟨k,B,e2⟩;rw[am o h av]at e;exact .inr ⟨h,av,e⟩
  rcases By o (N+m)with C|C
  ·exact .inl ⟨n+(o-N),by omega,by rw[Z _ (by omega)];omega⟩
  rw[a7 hW o C]at e;cases e
 have a5:∀o x,s'.h.get o=some x->μ3 o≠none->OR μ3 w' o x:=fun o x e hm=>by
  rcases an o x e with⟨k,B,rfl⟩|⟨h,av,e0⟩
  ·obtain⟨y,q1,q2,q3⟩:=al k B;rw[q3]at e;cases e;refine X6 up (fun b i v h=>by rw[z3];exact h) B q2 (a0.obj k y q1 fun h0=>?_);rcases By k n with u|u
   ·obtain⟨p,hp⟩:=ba k u;rw[place k p u hp]at h0;cases h0
   obtain⟨j,rfl⟩:∃j,k=n+j:=⟨k-n,by omega⟩;rw[Z j (by omega),l2 j (by omega)]at hm;exact hm h0
  rw[l1 o h]at hm;refine(hR.obj o x e0 hm).keep a9 Y.size (fun p hp=>same _ (lt o x p e0 hp) fun k q B hq eb=>?_) (fun A mm c hv ad hA hpos hl=>same _ hl fun k q B hq eb=>?_)
  ·obtain⟨y,_,_,U⟩:=hex k B;exact av k B (hR.inj _ _ _ _ _ _ U e0 hq hp eb)
  obtain⟨n0,rfl⟩:=(hR.obj o x e0 hm).val hv;obtain⟨y,_,_,U⟩:=hex k B;subst hA;exact hR.nat o n0 (some ad) mm c _ _ q e0 hv U hq ad mm c rfl hpos eb.symm
 have pl:∀o x p,s'.h.get o=some x->μ3 o=some (.at_ p)->(∃y,s.h.get o=some y/\μ o=some (.at_ p))∨∃j y,j<m/\o=N+j/\t.h.get (n+j)=some y/\μ' (n+j)=some (.at_ p)/\w.heap.size<=p.blk:=fun o x p e hm=>by
  rcases an o x e with⟨k,B,rfl⟩|⟨h,av,e0⟩
  ·rcases By k n with u|u
   ·obtain⟨y,_,_,U⟩:=hex k u;rw[l1 _ (hlt k u)]at hm;exact .inl ⟨_,U,hm⟩
   obtain⟨j,rfl⟩:∃j,k=n+j:=⟨k-n,by omega⟩;obtain⟨y,q1,_,_⟩:=al _ B;have hj:j<m:=by omega
   rw[Z j hj,l2 j hj]at hm;exact .inr ⟨j,y,hj,Z j hj,q1,hm,ge j y p hj q1 hm⟩
  rw[l1 o h]at hm;exact .inl ⟨x,e0,hm⟩
 have bm:∀(y:AO) q,ql (n+m) y->jF ρ y≠.nat q:=fun y q h e=>by cases y<;>simp only[jF]at e<;>first|exact h.elim|cases e
 have b5:bU μ3 s' w':=by
  refine⟨⟨a5,fun o o' x x' p p' e e' hm a4 hb=>?_,fun o q A mm c o' x' p' e m1 e' m2'=>?_,fun o ho=>?_⟩,fun b i v hv=>?_⟩
  ·rcases pl o x p e hm with⟨y,a1,a2⟩|⟨j,y,hj,rfl,a1,a2,a3⟩<;>rcases pl o' x' p' e' a4 with⟨y',b1,b2⟩|⟨j',y',ch,rfl,b1,b2,b3⟩
   ·exact hR.inj _ _ _ _ _ _ a1 b1 a2 b2 hb
   ·have:=lt _ _ _ a1 a2;omega
   ·have:=lt _ _ _ b1 b2;omega
   have:=a0.inj _ _ _ _ _ _ a1 b1 a2 b2 hb;omega
  ·refine Ji (a5 o _ e (by rw[m1];simp)) m1 (a5 o' x' e' (by rw[m2'];simp)) m2' fun n' hx=>?_;subst hx;rcases an o' _ e' with⟨k,B,rfl⟩|⟨h,av,e0⟩
   ·obtain⟨y,q1,q2,q3⟩:=al k B;rw[q3]at e';exact bm y n' q2 (TO e')
   rw[l1 o' h]at m2';have:=hR.obj o' _ e0 (by rw[m2'];simp);simp only[OR]at this;obtain⟨_,_,_,u,_⟩:=this;rw[u]at m2';cases m2'
  ·exact a7 hW o (by omega)
  rw[z3]at hv;obtain⟨g1,g2,g3⟩:=a0.fz b i v hv;refine⟨g1,g2,fun o x p e hm eb=>?_⟩;rcases pl o x p e hm with⟨y,a1,a2⟩|⟨j,y,hj,rfl,a1,a2,a3⟩
  ·rcases Y.fz b i v hv with h4|h4|⟨k,x0,p0,u,C,U⟩|h4
   ·rw[z2]at h4;exact(hR.fz b i v h4).2.2 o y p a1 a2 eb
   ·have:=lt _ _ _ a1 a2;omega
   ·have B:=(hS k x0 u).1;rw[m2 k B]at C;obtain⟨y0,q1,_,_⟩:=al k (by omega);exact g3 k y0 p0 q1 (place k p0 B C) U
   exact(a5 o x e (by rw[hm];simp)).nodig hm ⟨i,v,by rw[eb];exact eB g2 (li h4),h4⟩
  exact g3 _ y p a1 a2 eb
 refine⟨v',μ3,rfl,b5,⟨a9,fun o u C=>?_,by omega,Y.os,Y.tape,Y.output,Y.size,fun g hg h=>?_,fun o x p e hm=>?_,fun o u C=>?_,fun b i v hv=>?_⟩,?_⟩
 ·rcases By o N with h|h
  ·rw[l1 o h]at C;exact absurd u C
  rcases By o (N+m)with U|U
  ·exact⟨by omega,by omega⟩
  rw[l3 o U]at C;exact absurd u C
 ·refine same g hg fun k p B hp=>?_;obtain⟨y,_,_,U⟩:=hex k B;exact h _ _ p U hp
 ·rcases pl o x p e hm with⟨y,a1,a2⟩|⟨j,y,hj,rfl,a1,a2,a3⟩
  ·exact .inr ⟨o,y,p,a1,a2,rfl⟩
  exact .inl a3
 ·refine am o (by omega) fun k B e=>?_;obtain⟨p,hp⟩:=ba k B;rw[e,u]at hp;cases hp
 ·rw[z3]at hv;rcases Y.fz b i v hv with h4|h4|⟨k,x0,p0,u,C,U⟩|h4
  ·rw[z2]at h4;exact .inl h4
  ·exact .inr (.inl h4)
  ·exfalso;have B:=(hS k x0 u).1;rw[m2 k B]at C;obtain⟨y0,q1,_,_⟩:=al k (by omega);exact(a0.fz b i v hv).2.2 k y0 p0 q1 (place k p0 B C) U
  exact .inr (.inr (.inr h4))
 rw[hv];exact Bo up (fun b i v h=>by rw[z3];exact h) v1 b8 ca
theorem pZ{f fn c nt}(Y:dt P f=true)(Z:P.funcs[f]?=some fn)(hn:fn.ntmps=nt)(hc:fn.body=some c){g}(H:∀{args s v s'},g args s=some (v,s')->∃(rl:List Nat)(u:List AV)(s2:St)(U:AV),rl.Nodup/\s2.nx=rl.length /\ (∀k x,s2.h.get k=some x->k<rl.length/\ql rl.length x/\s.h.get (rl.getD k 0)=some (jF (rl.getD · 0) x))/\(∀k,k<rl.length->s2.h.get k≠none) /\ args=cS (rl.getD · 0) u/\lG rl.length u=true/\u.length<=nt/\v=ig (rl.getD · 0) U/\low rl.length U=true/\s'.nx=s.nx/\(∀o,(∀k,k<rl.length->rl.getD k 0≠o)->s'.h.get o=s.h.get o)/\
   (∀{μ:Mu}{w:World}{vs:List Value},bU μ s w->ap μ args vs->∀k,k<rl.length->∃p,μ (rl.getD k 0)=some (.at_ p))/\
   Jb rl.length P c ⟨f,nt,Tr.ofList u,none,[]⟩ s2 (aw P fn fun v' t=>v'=U/\∀k,k<rl.length->∃x,t.h.get k=some x/\ql rl.length x/\s'.h.get (rl.getD k 0)=some (jF (rl.getD · 0) x))):ag P f g:=by
 refine oH Y Z hn hc fun {args s v s'} hg=>?_;obtain⟨rl,u,s2,U,al,hnx,hS,A,C,N,J,hv,ad,am,y,B,hJ⟩:=H hg;refine⟨rl.length,0,(rl.getD · 0),u,s2,U,fun k k' h1 h2 e=>?_,fun j hj=>by omega,hnx,hS,A,C,N,J,hv,ad,am,fun o _ h=>y o h,fun hW o ho=>?_,B,hJ⟩
 ·simp only at e;rw[eM,eM,bY h1,bY h2]at e;exact(List.getElem_inj al).1 e
 rw[y o fun k hk e=>?_]
 ·exact hW o ho
 cases e2:s2.h.get k with
 |none=>exact A k hk e2
 |some x=>have:=(hS k x e2).2.2;rw[hW _ (by omega)]at this;cases this
theorem p8{f fn c nt}(B:dt P f=true)(C:P.funcs[f]?=some fn)(hn:fn.ntmps=nt)(hc:fn.body=some c){g}(H:∀{args s v s'},g args s=some (v,s')->∃(m:Nat)(A:AV),aq args=true/\args.length<=nt/\v=ig (s.nx+·) A/\low m A=true/\s'.nx=s.nx+m/\(∀o,o<s.nx->s'.h.get o=s.h.get o)/\(Wf s->∀o,s.nx+m<=o->s'.h.get o=none) /\ Jd P c ⟨f,nt,Tr.ofList args,none,[]⟩ ⟨.nil,0⟩ (aw P fn fun v' t=>v'=A/\∀k,k<m->∃x,t.h.get k=some x/\ql m x/\s'.h.get (s.nx+k)=some (jF (s.nx+·) x))):ag P f g:=by
 refine oH B C hn hc fun {args s v s'} hg=>?_;obtain⟨m,A,Y,u,hv,J,N,y,U,Z⟩:=H hg;refine⟨0,m,(s.nx+·),args,⟨.nil,0⟩,A,fun k k' h1 _ _=>by omega,fun j _=>by rw[SK],rfl,fun k x e=>(by cases e),fun k hk=>by omega,(bt _ _ Y).symm,dS _ _ Y,u,hv,by rw[SK];exact J,N,fun o ho _=>y o ho,U,fun _ _ k hk=>by omega,?_⟩;rw[SK];exact Z
end
end
section
section
variable {P:Program}
end
theorem ox{l:List AV}{n}(h:l.length=n):getR l 0 n=some l:=pt h fun j u=>by rw[SK]
theorem mK{s:St}{x o}(h:o<s.nx):(s.new x).h.get o=s.h.get o:=Tr.get_set_ne _ _ (by omega)
theorem ow(s:St)x:(s.new x).h.get s.nx=some x:=Tr.get_set_same _ _ _
def Wu(d:List RF×RF):List AV:=[aP d.1,.agg (rC d.2)]
def Tc(d:List RF×RF):Prop:=(∀x∈d.1,x.Ok)/\d.2.Ok/\1<=d.1.length/\d.1.length<=1000
noncomputable def leavingV:=ofE Wu Tc fun d=>aP (d.1++[d.2])
end
def Sy:List Oper->Nat->Option Oper
 | [],_=>none
 |o::_,0=>some o
 |_::l,i+1=>Sy l i
theorem Jf l:∀i,l[i]?=Sy l i:=by
 induction l with
 |nil=>intro i;rfl
 |cons o l ih=>
  intro i;cases i with
  |zero=>rfl
  |succ i=>exact(Em).trans (ih i)
theorem RH{P md ops Q S}i{u}v{j listed a w}(hi:Sy ops.toList i=some u)(y:(Region.noSelect ops&&Region.free md ops listed i&&(Region.ready md ops listed).contains i)=true)(A:Region.wanted u (yielded ops a.tmps)=true)(hS:S w)(hy:∀w',S w'->(execOp a.eval u).run P w'=.ok (.value v) w')(x:∀c a w,Q (.panic c) (a.put u.dst v) w->Q (.panic c) a w)(h:wpAnyH P md ops Q S j (listed.setIfInBounds i true) (a.put u.dst v) w):wpAnyH P md ops Q S (j+1) listed a w:= tk i v (by rw[<-Jf]at hi;simpa using hi) y A hS hy x h
theorem XX{P md ops Q S}i{u j listed a w}(hi:Sy ops.toList i=some u)(y:(Region.noSelect ops&&Region.free md ops listed i&&(Region.ready md ops listed).contains i)=true)(A:Region.wanted u (yielded ops a.tmps)=false)(hS:S w)(x:∀c a w,Q (.panic c) (a.put u.dst undef) w->Q (.panic c) a w)(h:wpAnyH P md ops Q S j (listed.setIfInBounds i true) (a.put u.dst undef) w):wpAnyH P md ops Q S (j+1) listed a w:= sk i (by rw[<-Jf]at hi;simpa using hi) y A hS x h
theorem Yv w v l hi(h:bR w v l): Calls Tryz.prog 175 #[v,.int .i64 hi] w fun e w'=>e=.returned (.bool (pU 0 hi l))/\w'=w:=by
 obtain⟨A,ca,rfl,C,ad,Y⟩:=h.open_;have Z:=aS Y;clear h Y;obtain⟨n,hn⟩:∃n,l.length=n:=⟨_,rfl⟩;rw[hn]at C⊢;have N:=aS hn;clear hn;go_enter Tryz.func175,Tryz.ntmps175;go_wp2_with fail;go_loopg [5] n (fun g i wr=>∃(j:Nat),wr=w/\i=.int .i64 j/\j+g=n/\Hid (pU 0 hi l=pU 0 hi (l.drop j)))
 case atStart=>exact⟨0,rfl,rfl,by omega,aS rfl⟩
 obtain⟨j,rfl,rfl,hj,U⟩:=hrel;rcases lE gk with h|h
 ·obtain rfl:j=n:=by omega
  have u:Hid (pU 0 hi l=true):=aS (by rw[U.out,AS (by rw[N.out];exact cC _)];rfl);go_wp2_with fail;go_ret;exact⟨aV u.out.symm,rfl⟩
 obtain⟨g,rfl⟩:∃g,gk=g+1:=⟨gk-1,by omega⟩;obtain⟨x,J⟩:∃x,l[j]?=some x:=⟨_,bY (by rw[N.out];omega)⟩;obtain⟨ba,oa,rfl,_,hc⟩:=Z.out j x J;have ST:=aS (U.out.trans (Ps J));clear J;by_cases y:0<=x
 ·by_cases B:x<=hi
  ·have d1:decide (x<0)=false:=iS (by omega);have d2:decide (hi<x)=false:=iS (by omega);have u:Hid (pU 0 hi l=pU 0 hi (l.drop (j+1))):=aS (by rw[ST.out,lT y,lT B];rfl);clear y B;go_wp2_with fail;go_roundg g
   case measure=>omega
   case rel=>exact⟨j+1,rfl,rfl,by omega,u⟩
  have d1:decide (x<0)=false:=iS (by omega);have d2:decide (hi<x)=true:=lT (by omega);have u:Hid (pU 0 hi l=false):=aS (by rw[ST.out,lT y,iS B];rfl);clear y B;go_wp2_with fail;go_ret;exact⟨aV u.out.symm,rfl⟩
 have d1:decide (x<0)=true:=lT (by omega);have u:Hid (pU 0 hi l=false):=aS (by rw[ST.out,iS y];rfl);clear y;go_wp2_with fail;go_ret;exact⟨aV u.out.symm,rfl⟩

theorem Zj w va vb a b(ha:bR w va a)(hb:bR w vb b)(hl:a.length<=b.length): Calls Tryz.prog 109 #[va,vb] w fun e w'=>e=.returned (.int .i64 (cD a b))/\∃m,w'=w.drewN m:=by
 obtain⟨A,ca,rfl,Y,an,hA⟩:=ha.open_;obtain⟨B,cb,rfl,Z,al,hB⟩:=hb.open_;have HA:=aS hA;have HB:=aS hB;clear ha hb hA hB;obtain⟨n,hn⟩:∃n,a.length=n:=⟨_,rfl⟩;obtain⟨p,hp⟩:∃p,b.length=p:=⟨_,rfl⟩;rw[hn]at Y hl⊢;rw[hp]at Z hl⊢;have N:=aS hn;have HP:=aS hp;clear hn hp;go_enter Tryz.func109,Tryz.ntmps109;go_wp2_with fail;go_loopg [5] n (fun g i wr=>∃(j:Nat),(∃d,wr=w.drewN d)/\i=.int .i64 j/\j+g=n/\Hid (a.take j=b.take j))
 case atStart=>exact⟨0,⟨0,rfl⟩,rfl,by omega,aS rfl⟩
 obtain⟨j,⟨nd,rfl⟩,rfl,hj,U⟩:=hrel;rcases lE gk with h|h
 ·obtain rfl:j=n:=by omega
  have HT:Hid (cD a b=0):=aS (Dq (by have:=U.out;rw[Ge (by rw[N.out];exact cC _)]at this;rw[N.out];exact this));go_wp2_with fail;go_ret;exact⟨aD HT.out.symm,⟨_,by first|rfl|exact World.drewN_drewN _ _ _|exact(aAf (fun u=>World.drewN u _) (World.drewN_drewN _ _ _)).trans (World.drewN_drewN _ _ _)⟩⟩
 obtain⟨g,rfl⟩:∃g,gk=g+1:=⟨gk-1,by omega⟩;obtain⟨x,hx⟩:∃x,a[j]?=some x:=⟨_,bY (by rw[N.out];omega)⟩;obtain⟨y,hy⟩:∃y,b[j]?=some y:=⟨_,bY (by rw[HP.out];omega)⟩;obtain⟨ba,oa,rfl,_,hc⟩:=HA.out j x hx;obtain⟨bb,ob,rfl,_,am⟩:=HB.out j y hy;have HX:=aS hx;have HY:=aS hy;clear hx hy;by_cases C:x=y
 ·subst C;have ad:(x != x)=false:=by simp
  go_wp2_with fail;go_quiet (fail);go_wp2_with fail;go_roundg g
  case measure=>omega
  case rel=>exact⟨j+1,⟨_,rfl⟩,rfl,by omega,aS (by rw[aY _ HX.out,aY _ HY.out,U.out])⟩
 have ad:(x != y)=true:=by simpa using C
 have HF:=aS (Bc U.out HX.out HY.out C);clear C;by_cases hlt:x<y
 ·have J:Hid (cD a b = -1):=aS (by rw[HF.out,oR hlt]);have hd:decide (x<y)=true:=lT hlt;clear hlt;go_wp2_with fail;go_quiet (fail);go_wp2_with fail;go_quiet (fail);go_wp2_with fail;go_ret;exact⟨aD J.out.symm,⟨_,by first|rfl|exact World.drewN_drewN _ _ _|exact(aAf (fun u=>World.drewN u _) (World.drewN_drewN _ _ _)).trans (World.drewN_drewN _ _ _)⟩⟩
 have J:Hid (cD a b=1):=aS (by rw[HF.out,iF hlt]);have hd:decide (x<y)=false:=iS hlt;clear hlt;go_wp2_with fail;go_quiet (fail);go_wp2_with fail;go_quiet (fail);go_wp2_with fail;go_ret;exact⟨aD J.out.symm,⟨_,by first|rfl|exact World.drewN_drewN _ _ _|exact(aAf (fun u=>World.drewN u _) (World.drewN_drewN _ _ _)).trans (World.drewN_drewN _ _ _)⟩⟩


theorem wi w O V lv gs(h:iE w lv gs): Calls Tryz.prog 130 #[.agg #[.int .i64 O,.int .i64 V,lv]] w fun e w'=>e=.returned (.int .i64 (cW O V gs))/\Below w.heap.size w w':=by
 obtain⟨A,c,rfl,b4,b7,bj⟩:=h.open_;have a5:=aS bj;clear h bj;obtain⟨n,hn⟩:∃n,gs.length=n:=⟨_,rfl⟩;rw[hn]at b4⊢;have HN:=aS hn;clear hn;by_cases B:20000<n
 ·have bn:decide ((20000:Int)<(n:Int))=true:=lT (by omega);have J:Hid (cW O V gs=5):=aS (tN (by rw[HN.out];exact B));clear B;go_enter Tryz.func130,Tryz.ntmps130;go_wp2_with fail;go_ret;exact⟨aD J.out.symm,(Below.refl _ _).alloc (cC _) _⟩
 have bn:decide ((20000:Int)<(n:Int))=false:=iS (by omega);have HL:Hid (¬20000<gs.length):=aS (by rw[HN.out];exact B);clear B;go_enter Tryz.func130,Tryz.ntmps130;go_wp2_with fail;obtain⟨W,hW,P0,PB,b6⟩:=jy w 27 [.int .i64 O,.int .i64 V,.slice A n c];rw[<-hW];clear hW;refine(VV W O V).mono ?_;rintro e w1 ⟨rfl,av⟩;have P1:=aS (P0.out.below' av);have B1:=aS (PB.out.trans (av.mono (by omega)));clear av P0 PB;obtain⟨p0,p1,p2,_,_,_⟩:=P1.out.three;obtain⟨sb,a3⟩:∃b,dL O V=b:=⟨_,rfl⟩;rw[a3];have a6:=aS a3;clear a3;cases sb
 ·have J:Hid (cW O V gs=2):=aS (tM HL.out a6.out);go_wp2_with fail;go_ret;exact⟨aD J.out.symm,B1.out⟩
 clear bn;go_wp2_with fail;go_loopg [3] n (fun gh i wz=>∃(j:Nat),i=.int .i64 j/\j+gh=n/\Hid (∀k,k<j->iu O V gs k=true)/\Hid (cg wz w.heap.size 27 [.int .i64 O,.int .i64 V,.slice A n c])/\Hid (Below w.heap.size w wz))
 case atStart=>exact⟨0,rfl,by omega,aS (fun k hk=>by omega),P1,B1⟩
 clear p0 p1 p2 P1 B1;obtain⟨j,rfl,hj,HG,P1,B1⟩:=hrel;obtain⟨p0,p1,p2,_,_,_⟩:=P1.out.three;have s2:w.heap.size<wr.heap.size:=P1.out.lt;rcases lE gk with hh|hh
 ·subst hh;obtain rfl:j=n:=by omega
  have J:Hid (cW O V gs=0):=aS (tP HL.out a6.out (fun i hi=>HG.out i (by rw[HN.out]at hi;exact hi)));go_wp2_with fail;go_ret;exact⟨aD J.out.symm,B1.out⟩
 obtain⟨gh,rfl⟩:∃g,gk=g+1:=⟨gk-1,by omega⟩;obtain⟨x,hx⟩:∃x,gs[j]?=some x:=⟨_,bY (by rw[HN.out];omega)⟩;obtain⟨ba,oa,a0,rfl,bm,a7,a9,fa⟩:=a5.out j x hx;have d0:=(B1.out.cell (p:=⟨ba,oa+j*2,none⟩) bm).trans a7;have d1:=(B1.out.cell (p:=⟨ba,oa+j*2+1,none⟩) bm).trans a9;have FA:=aS (fa.below B1.out);have HX:=aS hx;have b8:ba<wr.heap.size:=by omega
 clear hx a7 a9;obtain⟨A1,k1,b1⟩:=fa.len;subst b1;clear fa;have u:Hid ((¬(x.1.length:Int)=O∨pU 0 V x.1=false∨x.2<1∨1073741824<x.2∨(0<j/\¬cD (gs.getD (j-1) ([],0)).1 x.1<0))->cW O V gs=2):=aS (fun hc=>vH HL.out (by rw[HN.out];omega) (rQ HX.out hc));obtain⟨x1,x2⟩:=x;simp only at d0 d1 FA u;obtain⟨m,hm⟩:∃m,x1.length=m:=⟨_,rfl⟩;rw[hm]at d0;have HM:=aS hm;rw[hm]at u;have a4:Hid (bR wr (.slice A1 m k1) x1):=aS (by rw[<-hm];exact FA.out);clear hm FA;go_wp2_with fail;obtain⟨W2,bf,G0,GB,b5⟩:=jy wr 123 [.slice A1 m k1,.int .i64 x2];rw[<-bf];clear bf;have P3:=aS (P1.out.below' GB.out);have BE:=aS (B1.out.trans (GB.out.mono B1.out.size));have C:=aS (a4.out.below GB.out);have FI:Hid (∀W',bR W' (.slice A1 m k1) x1->Calls Tryz.prog 175 #[.slice A1 m k1,.int .i64 V] W' fun e w'=>e=.returned (.bool (pU 0 V x1))/\w'=W'):=aS (fun W' h=>Yv W' _ x1 V h);clear p0 p1 p2 d0 d1 P1 B1 a4 GB;obtain⟨p0,p1,p2,_,_,_⟩:=P3.out.three;have g0:=G0.out.cell 0;have g1:=G0.out.cell 1;simp only[aAb,Em]at g0 g1;obtain⟨ib,a2⟩:∃b,pU 0 V x1=b:=⟨_,rfl⟩;rw[a2]at FI;have al:=aS a2;clear a2;by_cases Y:(m:Int)=O
 ·have e1:((m:Int) != O)=false:=by simpa using Y
  have am:=aS Y;clear Y;cases ib
  ·have J:=aS (u.out (.inr (.inl al.out)));go_quiet ((go_at_call 175;exact Calls.quiet_of_same (FI.out _ (C.out.drewN _))));go_wp2_with fail;go_ret;exact⟨aD J.out.symm,a8 BE.out _⟩
  by_cases N:x2<1
  ·have J:=aS (u.out (.inr (.inr (.inl N))));have e2:decide (x2<1)=true:=lT N;clear N;go_quiet ((go_at_call 175;exact Calls.quiet_of_same (FI.out _ (C.out.drewN _))));go_wp2_with fail;go_ret;exact⟨aD J.out.symm,a8 BE.out _⟩
  have e2:decide (x2<1)=false:=iS N;by_cases Z:1073741824<x2
  ·have J:=aS (u.out (.inr (.inr (.inr (.inl Z)))));have e3:decide (1073741824<x2)=true:=lT Z;clear N Z;go_quiet ((go_at_call 175;exact Calls.quiet_of_same (FI.out _ (C.out.drewN _))));go_wp2_with fail;go_ret;exact⟨aD J.out.symm,a8 BE.out _⟩
  have e3:decide (1073741824<x2)=false:=iS Z;have U:=aS (aT N Z);clear N Z;rcases lE j with bo|bo
  ·subst bo;have ad:=aS (kX (O:=O) (V:=V) HX.out (by rw[HM.out];exact am.out) al.out (by have:=U.out;simp only;omega) (by have:=U.out;simp only;omega) (fun h=>by omega));go_quiet ((go_at_call 175;exact Calls.quiet_of_same (FI.out _ (C.out.drewN _))));go_wp2_with fail;go_roundg gh
   case measure=>omega
   case rel=>exact⟨1,rfl,by omega,aS (fun k hk=>by rw[show k=0 by omega];exact ad.out),aS (P3.out.drewN _),aS (a8 BE.out _)⟩
  obtain⟨i,rfl⟩:∃i,j=i+1:=⟨j-1,by omega⟩;obtain⟨y,hy⟩:∃y,gs[i]?=some y:=⟨_,bY (by rw[HN.out];omega)⟩;obtain⟨bb,ob,b0,eb,b3,bd,bB,fb⟩:=a5.out i y hy;cases eb;have d0:=(BE.out.cell (p:=⟨ba,oa+i*2,none⟩) b3).trans bd;have bx:=aS (xa hy (HG.out i (by omega)));obtain⟨A2,k2,b2⟩:=fb.len;subst b2;have FB:=aS (fb.below BE.out);have an:Hid (cD y.1 x1=cD (gs.getD (i+1-1) ([],0)).1 x1):=aS (by rw[show i+1-1=i by omega,mL hy]);obtain⟨cv,a1⟩:∃c,cD y.1 x1=c:=⟨_,rfl⟩;rw[a1]at an;obtain⟨p,hp⟩:∃p,y.1.length=p:=⟨_,rfl⟩;rw[hp]at d0 FB;have CM:Hid (∀W',bR W' (.slice A2 p k2) y.1->bR W' (.slice A1 m k1) x1->Calls Tryz.prog 109 #[.slice A2 p k2,.slice A1 m k1] W' fun e w'=>e=.returned (.int .i64 cv)/\∃m,w'=W'.drewN m):=aS (fun W' h1 h2=>by rw[<-a1];exact Zj W' _ _ _ _ h1 h2 (by have h1:=bx.out;have h2:=am.out;have h3:=HM.out;omega));have i1:IntKind.i64.wrap ((i:Int)+1-1)=(i:Int):=by rw[show(i:Int)+1-1=i by omega];exact aAw _ (by omega)
  have i2:IntKind.i64.wrap (i:Int)=(i:Int):=aAw _ (by omega);have j1:(0:Int)<=(i:Int):=by omega
  have j2:(i:Int)<(n:Int):=by omega
  have j3:decide ((0:Int)<(i:Int)+1)=true:=lT (by omega);have j4:decide (0<i+1)=true:=lT (by omega);clear hy bd bB fb a1 hp;by_cases hc:cv<0
  ·have e5:decide (0<=cv)=false:=iS (by omega);have ad:=aS (kX (O:=O) (V:=V) HX.out (by rw[HM.out];exact am.out) al.out (by have:=U.out;simp only;omega) (by have:=U.out;simp only;omega) (fun _=>by rw[<-an.out];exact hc));clear hc;go_quiet (first|(go_at_call 175;exact Calls.quiet_of_same (FI.out _ (C.out.drewN _)))|(go_at_call 109;exact Calls.quiet_of (CM.out _ (FB.out.drewN _) (C.out.drewN _))));go_wp2_with fail;go_roundg gh
   case measure=>omega
   case rel=>exact⟨i+1+1,rfl,by omega,aS (fun k hk=>by
    by_cases e:k=i+1
    ·rw[e];exact ad.out
    ·exact HG.out k (by omega)),aS (P3.out.drewN _),aS (a8 BE.out _)⟩
  have e5:decide (0<=cv)=true:=lT (by omega);have J:=aS (u.out (.inr (.inr (.inr (.inr ⟨by omega,by rw[<-an.out];omega⟩)))));clear hc;go_quiet (first|(go_at_call 175;exact Calls.quiet_of_same (FI.out _ (C.out.drewN _)))|(go_at_call 109;exact Calls.quiet_of (CM.out _ (FB.out.drewN _) (C.out.drewN _))));go_wp2_with fail;go_ret;exact⟨aD J.out.symm,a8 BE.out _⟩
 have e1:((m:Int) != O)=true:=by simpa using Y
 have J:=aS (u.out (.inl Y));clear Y;go_quiet (fail);go_wp2_with fail;go_ret;exact⟨aD J.out.symm,a8 BE.out _⟩
end Go.Proofs.YtfoceannfdbinaaGreat
