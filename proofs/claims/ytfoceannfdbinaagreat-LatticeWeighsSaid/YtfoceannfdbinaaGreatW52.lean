/- Lemmas. -/
import Derived.Test.YtfoceannfdbinaaGreatW50
set_option linter.all false
set_option maxRecDepth 1000000
set_option maxHeartbeats 32000000
namespace Go.Proofs.YtfoceannfdbinaaGreat
open Go.RowKit
def Gf(args:List AV)(v:AV):Prop:=∃(T:Int)(l:List aW)(zs:List Int),args=[dk T l,.vw (is zs) zs.length]/\(∀x∈l,x.Ok)/\l.length<=20000/\zs.length<=1000000/\v=.b (decide (cX l 0 zs=some T))
theorem Oa{T:Int}{l:List aW}{j:List Int}(hl:∀x∈l,x.Ok)(hn:l.length<=20000)(C:j.length<=1000000):relV Gf [dk T l,.vw (is j) j.length]=some (.b (decide (cX l 0 j=some T))):=by refine il ?_ ⟨T,l,j,rfl,hl,hn,C,rfl⟩;rintro U ⟨T',N,J,e,u,_,_,rfl⟩;simp only[dk,rW,AV.vw.injEq,AV.agg.injEq,AV.i.injEq,and_true,true_and]at e;obtain⟨⟨rfl,y,A⟩,B,_⟩:=e;rw[jv hl u y A,eu B]
theorem QJ:ag Tryz.prog 48 (ab (relV Gf)):=by
 obtain⟨E,M⟩:=uq;refine aE (by kernel_rfl) Tryz.func48 Tryz.ntmps48 rfl ?_;intro args v h;obtain⟨T,l,u,rfl,ok,hn,an,rfl⟩:=dR h;refine⟨rfl,rfl,nE rfl,?_⟩;rw[cZ,St.of_nil];unfold dk;refine aN M ?_;refine aN M ?_;refine Jd.seq ?_;refine aN M ?_;refine Jd.loopB (fun k g s=>∃(i:Nat)(p:Int),i+k=u.length/\cX l 0 u=cX l p (u.drop i)/\g=⟨48,54,Tr.of [(6,.i .i64 (i:Int)),(5,.i .i64 p),(2,.ptr 0 0),(1,.vw (is u) u.length)],none,[]⟩/\s=St.of [(0,some (.cells [.i .i64 T,.vw (ar l) l.length] 24 false))] 1) u.length ?_ ?_
 ·exact⟨_,_,(Iv 1 [0] [(6,.i .i64 ((0:Nat):Int)),(5,.i .i64 0),(2,.ptr 0 0),(1,.vw (is u) u.length)] [(0,some (.cells [.i .i64 T,.vw (ar l) l.length] 24 false))]),0,0,by omega,rfl,rfl,rfl⟩
 rintro k _ _ ⟨i,p,hi,hp,rfl,rfl⟩ Q' hex y al;refine Jd.seq ?_;refine aN M ?_;refine Jd.cnd rfl (fun h1=>?_) (fun h1=>?_);rotate_left
 ·refine Jd.exitT (hex _ _ ?_);show Jb _ _ _ _ _ _;have am:i=u.length:=by have:=io h1;omega
  subst am;refine aN M ?_;refine Jd.ret (aw.one rfl rfl ?_);rw[hp,aAQ];simp only[cX,iD]
 have B:i<u.length:=by have:=gT h1;omega
 obtain⟨z,hz⟩:∃z,u[i]?=some z:=⟨_,bY B⟩;have A:(is u)[i]?=some (.i .i64 z):=by unfold is;rw[mT,hz];rfl
 have ad:u.drop i=z::u.drop (i+1):=by rw[AT B];rw[bY B]at hz;cases hz;rfl
 rw[ad]at hp;refine Jd.skipT ?_;refine Jd.seq (Jd.block ?_);clear hex;refine Jd.seq ?_;obtain⟨b1,J⟩:∃b,decide (z<0)=b:=⟨_,rfl⟩;obtain⟨b2,N⟩:∃b,decide (z≥(l.length:Int))=b:=⟨_,rfl⟩;cases b1;rotate_left
 ·have j:cX l p (z::u.drop (i+1))=none:=by have U:z<0:=gT J;simp only[cX,U,aBh]
  refine dr M [] (ax @aAZ (ax @A @J)) ?_;refine cT rfl ?_;refine aN M ?_;refine Jd.ret ?_;refine y _ _ ?_;refine gW.r (aw.one rfl rfl ?_);rw[hp,j];rfl
 have U:¬z<0:=io J;cases b2;rotate_left
 ·have j:cX l p (z::u.drop (i+1))=none:=by have h2:z≥(l.length:Int):=gT N;simp only[cX,iF U,aCD (show l.length<=z.toNat by omega)]
  refine dr M [] (ax @aAZ (ax @A (ax @J @N))) ?_;refine cT rfl ?_;refine aN M ?_;refine Jd.ret ?_;refine y _ _ ?_;refine gW.r (aw.one rfl rfl ?_);rw[hp,j];rfl
 have h2:¬z≥(l.length:Int):=io N;obtain⟨x,hx⟩:∃x,l[z.toNat]?=some x:=⟨_,bY (by omega)⟩;have av:z.toNat<l.length:=by omega
 have a0:=ZV hx;have a1:=ZU hx;obtain⟨b3,Z⟩:∃b,decide (x.a.f=p)=b:=⟨_,rfl⟩;cases b3
 ·have j:cX l p (z::u.drop (i+1))=none:=by have h3:¬x.a.f=p:=io Z;simp only[cX,iF U,hx,oR h3]
  refine dr M [] (ax @aAZ (ax @A (ax @J (ax @N (ax @Z (ax @a0 @aBd)))))) ?_;refine cT rfl ?_;refine aN M ?_;refine Jd.ret ?_;refine y _ _ ?_;refine gW.r (aw.one rfl rfl ?_);rw[hp,j];rfl
 have h3:x.a.f=p:=gT Z;have C:cX l p (z::u.drop (i+1))=cX l x.a.t (u.drop (i+1)):=by simp only[cX,iF U,hx,h3,ne_eq,not_true_eq_false,aCq]
 refine dr M [] (ax @aAZ (ax @A (ax @J (ax @N (ax @Z (ax @a0 @aBu)))))) ?_;refine GU rfl ?_;show Jb _ _ _ _ _ _;apply Jd.drwQ M [] (by kernel_rfl);(· intro K gl Y hK;simp only[sv]at Y;subst Y;simp (maxSteps:=1000000) (disch:=omega) only[↓nD,↓nC,nB,Nat.reduceEqDiff,↓reduceIte,Nat.reduceLT,Nat.reduceAdd,ij,Cc,NE,NO,iO, aAZ,A,a1];exact hK)
 refine bW.norm ?_;show Jb _ _ _ _ _ _;refine f6 M ?_;exact al _ _ ⟨k-1,_,_,by omega,(Iv 1 [0] [(6,.i .i64 ((i+1:Nat):Int)),(5,.i .i64 x.a.t),(2,.ptr 0 0),(1,.vw (is u) u.length)] [(0,some (.cells [.i .i64 T,.vw (ar l) l.length] 24 false))]),i+1,x.a.t,by omega,hp.trans C,rfl,rfl⟩
def iR(ac:List cR)(zs:List Int):List Int:=zs.map fun z=>(d8 ac z.toNat).w
theorem yD{ac:List cR}{j:List Int}{i:Nat}{z:Int}(h:j[i]?=some z):iR ac (j.take (i+1))=iR ac (j.take i)++[(d8 ac z.toNat).w]:=by unfold iR;rw[aAX,h];simp
def Fs(args:List AV)(v:AV):Prop:=∃(T:Int)(l:List aW)(zs:List Int),args=[dk T l,.vw (is zs) zs.length]/\(∀x∈l,x.Ok)/\l.length<=20000/\zs.length<=1000/\(∀z∈zs,0<=z/\z<(l.length:Int))/\v=.vw (is (iR (aL l) zs)) (iR (aL l) zs).length
theorem ML{T:Int}{l:List aW}{j:List Int}(hl:∀x∈l,x.Ok)(hn:l.length<=20000)(J:j.length<=1000)(C:∀z∈j,0<=z/\z<(l.length:Int)):relV Fs [dk T l,.vw (is j) j.length]=some (.vw (is (iR (aL l) j)) (iR (aL l) j).length):=by refine il ?_ ⟨T,l,j,rfl,hl,hn,J,C,rfl⟩;rintro Y ⟨T',U,N,e,u,_,_,_,rfl⟩;simp only[dk,rW,AV.vw.injEq,AV.agg.injEq,AV.i.injEq,and_true,true_and]at e;obtain⟨⟨rfl,y,A⟩,B,_⟩:=e;rw[jv hl u y A,eu B]
theorem Qz:ag Tryz.prog 64 (ab (relV Fs)):=by
 obtain⟨E,M⟩:=uq;refine aE (by kernel_rfl) Tryz.func64 Tryz.ntmps64 rfl ?_;intro args v h;obtain⟨T,l,j,rfl,ok,hn,an,hr,rfl⟩:=dR h;refine⟨rfl,rfl,nE rfl,?_⟩;rw[cZ,St.of_nil];unfold dk;refine aN M ?_;refine aN M ?_;refine Jd.seq ?_;refine aN M ?_;refine Jd.loopB (fun k g s=>∃i:Nat,i+k=j.length/\((i=0/\g=⟨64,26,Tr.of [(6,.i .i64 (i:Int)),(5,.snil),(2,.ptr 0 0),(1,.vw (is j) j.length)],none,[]⟩/\s=St.of [(0,some (.cells [.i .i64 T,.vw (ar l) l.length] 24 false))] 1)∨(g=⟨64,26,Tr.of [(6,.i .i64 (i:Int)),(5,.sl 1 0 (iR (aL l) (j.take i)).length (bI+1)),(2,.ptr 0 0),(1,.vw (is j) j.length)],none,[]⟩/\s=St.of [(1,some (.cells (is (iR (aL l) (j.take i))) 3 true)),(0,some (.cells [.i .i64 T,.vw (ar l) l.length] 24 false))] 2))) j.length ?_ ?_
 ·exact⟨_,_,(Iv 1 [0] [(6,.i .i64 ((0:Nat):Int)),(5,.snil),(2,.ptr 0 0),(1,.vw (is j) j.length)] [(0,some (.cells [.i .i64 T,.vw (ar l) l.length] 24 false))]),0,by omega,.inl ⟨rfl,rfl,rfl⟩⟩
 rintro k _ _ ⟨i,hi,al⟩ Q' hex B Z;have key:∀{i:Nat},i<j.length->∃z x,j[i]?=some z/\(is j)[i]?=some (.i .i64 z)/\l[z.toNat]?=some x/\0<=z/\z.toNat<l.length/\(d8 (aL l) z.toNat).w=x.a.w:=fun {i} y=>by obtain⟨z,N⟩:∃z,j[i]?=some z:=⟨_,bY y⟩;obtain⟨z0,z1⟩:=hr z (eQ N);obtain⟨x,Y⟩:∃x,l[z.toNat]?=some x:=⟨_,bY (by omega)⟩;exact⟨z,x,N,by unfold is;rw[mT,N];rfl,Y,z0,by omega,by rw[fY Y]⟩
 rcases al with⟨rfl,rfl,rfl⟩|⟨rfl,rfl⟩
 ·refine Jd.seq ?_;refine aN M ?_;refine Jd.cnd rfl (fun C=>?_) (fun C=>?_);rotate_left
  ·refine Jd.exitT (hex _ _ ?_);show Jb _ _ _ _ _ _;have J:j.length=0:=by have:=io C;omega
   obtain rfl:j=[]:=oF J;refine aN M ?_;refine tX 0 [] [(4,.vw [] 0)] [] bT aK ?_;exact Jd.ret (aw.one rfl rfl rfl)
  have y:0<j.length:=by have:=gT C;omega
  obtain⟨z,x,N,U,Y,z0,zl,hw⟩:=key (i:=0) y;have A:=yD (ac:=aL l) N;rw[hw,show iR (aL l) (j.take 0)=[]from rfl,aAB]at A;have a2:=Y8 Y;refine Jd.skipT ?_;refine Jd.seq (Jd.block ?_);clear hex B;apply Jd.drwQ M [] (by kernel_rfl);(· intro K gl u hK;simp only[sv]at u;subst u;simp (maxSteps:=1000000) (disch:=omega) only[↓nD,↓nC,nB,Nat.reduceEqDiff,↓reduceIte,Nat.reduceLT,Nat.reduceAdd,ij,Cc,NE,NO,iO, aAZ,U,a2];exact hK)
  refine bW.norm ?_;show Jb _ _ _ _ _ _;refine f6 M ?_;refine Z _ _ ⟨k-1,_,_,by omega,(d9 2 [0,2] [(6,.i .i64 ((0+1:Nat):Int)),(5,.sl 1 0 [x.a.w].length (bI+1)),(2,.ptr 0 0),(1,.vw (is j) j.length)] [(1,some (.cells (is [x.a.w]) 3 true)),(0,some (.cells [.i .i64 T,.vw (ar l) l.length] 24 false))] bT (by repeat' first|exact aK|refine aF ?_ ?_|exact bA.cells rfl|exact dj)),0+1,by omega,.inr (by rw[A];exact⟨rfl,rfl⟩)⟩
 obtain⟨ws,hws⟩:∃ws,iR (aL l) (j.take i)=ws:=⟨_,rfl⟩;have am:ws.length=i:=by rw[<-hws];unfold iR;rw[RW,Io];omega
 have ad:(is ws).length=ws.length*1:=by simp[is]
 rw[hws];refine Jd.seq ?_;refine aN M ?_;refine Jd.cnd rfl (fun C=>?_) (fun C=>?_);rotate_left
 ·refine Jd.exitT (hex _ _ ?_);show Jb _ _ _ _ _ _;have J:i=j.length:=by have:=io C;omega
  rw[J,aCO]at hws;rw[hws];refine aN M ?_;refine zX 0 1 (is ws) [] [(4,.vw (is ws) ws.length)] [] ?_ (by repeat' first|exact bK|refine aM ?_ ?_|exact Wk.frz_sl (off:=0) (by have:=dW;omega)|exact eU) aK ?_
  ·exact fH _
  exact Jd.ret (aw.one rfl rfl rfl)
 have y:i<j.length:=by have:=gT C;omega
 obtain⟨z,x,N,U,Y,z0,zl,hw⟩:=key (i:=i) y;have A:=yD (ac:=aL l) N;rw[hw,hws]at A;have a2:=Y8 Y;refine Jd.skipT ?_;refine Jd.seq (Jd.block ?_);clear hex B;apply Jd.drwQ M [] (by kernel_rfl);(· intro K gl u hK;simp only[sv]at u;subst u;simp (maxSteps:=1000000) (disch:=omega) only[↓nD,↓nC,nB,Nat.reduceEqDiff,↓reduceIte,Nat.reduceLT,Nat.reduceAdd,ij,Cc,NE,NO,iO, aAZ,U,a2,ad];exact hK)
 refine bW.norm ?_;show Jb _ _ _ _ _ _;refine f6 M ?_;refine Z _ _ ⟨k-1,_,_,by omega,(d9 2 [0,3] [(6,.i .i64 ((i+1:Nat):Int)),(5,.sl 1 0 (ws.length+1) (bI+1)),(2,.ptr 0 0),(1,.vw (is j) j.length)] [(1,some (.cells (is (ws++[x.a.w])) 3 true)),(0,some (.cells [.i .i64 T,.vw (ar l) l.length] 24 false))] bT (by repeat' first|exact aK|refine aF ?_ ?_|exact bA.cells (Pj _ _ _)|exact dj)),i+1,by omega,.inr (by rw[A,Sk];exact⟨rfl,rfl⟩)⟩
theorem SR{d j:LW}(h:∀x∈d.l,x.Ok)(C:∀x∈j.l,x.Ok)(e:Mv d=Mv j):d=j:=by obtain⟨T,l,L,p⟩:=d;obtain⟨T',l',L',p'⟩:=j;simp only[Mv,dk,rW,AV.agg.injEq,AV.i.injEq,AV.vw.injEq,true_and,and_true]at e;obtain⟨⟨rfl,u,y⟩,A,B,_⟩:=e;obtain rfl:=jv h C u y;obtain rfl:=LG.inj _ _ A;obtain rfl:=eu B;rfl
def Rk(ac:List cR)(q:Rat)(zs:List Int):Rat:=zs.foldl (fun w z=>w*(d8 ac z.toNat).q) q
theorem C3{row:List Int->List Rat}(h:∀h,∀q∈row h,QB 5000000 q):∀(s:List Int)(hs:List Int),QB (5000000*(s.length+1)) (jn row hs s)
 | [],hs=>by
  unfold jn;rw[eM];cases e:(row hs)[0]? with
  |none=>exact(jf 5000000 (by omega)).mono (by simp)
  |some q=>exact(h hs q (eQ e)).mono (by simp)
 |x::s,hs=>by
  unfold jn;have j:QB 5000000 ((row hs).getD x.toNat 0):=by
   rw[eM];cases e:(row hs)[x.toNat]? with
   |none=>exact jf 5000000 (by omega)
   |some q=>exact h hs q (eQ e)
  exact(j.mul (C3 h s _)).mono (by simp only[On];omega)
structure YI(d:LW)(n v:Nat):Prop where
 ok:∀x∈d.l,x.Ok
 hl:d.l.length<=20000
 q64:∀x∈d.l,QB 64 x.a.q
 hp:∀z∈d.p,0<=z/\z<(d.l.length:Int)
 few:d.p.length<=12
 sy:yx (d.L,iR (aL d.l) d.p) n v
def Xr(d:LW):Rat:=Rk (aL d.l) (jn (jE d.L) (List.replicate (d.L.o-1) 0) (iR (aL d.l) d.p)) d.p
def Za(args:List AV)(v:AV):Prop:=∃d,(∃n v,YI d n v)/\args=Mv d/\v=fq (Xr d)
theorem XK{d:LW}{n v:Nat}(ok:YI d n v)(s:St):ab (relV Za) (Mv d) s=some (fq (Xr d),s):=by refine aj (il ?_ ⟨d,⟨n,v,ok⟩,rfl,rfl⟩) s;rintro x ⟨u,⟨_,_,j⟩,e,rfl⟩;rw[SR ok.ok j.ok e]
theorem Hb:ag Tryz.prog 45 (ab (relV Za)):=by
 obtain⟨E,M,c1,c2,c3⟩:=SJ (ab (relV Fs)) (ab saysRV) (ab (cK (·*·))) ⟨Qz,QF,sm⟩ rfl;refine aE (by kernel_rfl) Tryz.func45 Tryz.ntmps45 rfl ?_;intro args x h0;obtain⟨⟨T,l,L,p⟩,⟨n,v,ok⟩,rfl,rfl⟩:=dR h0;clear h0;obtain⟨u,hl,hq,hp,few,sy⟩:=ok;dsimp only at u hl hq hp few sy;have Z:=aj (ML (T:=T) u hl (show p.length<=1000 by omega) hp);have j:=Np sy;have C:=C3 (fun h=>(sy.qb h).2) (iR (aL l) p) (List.replicate n 0);have a0:(iR (aL l) p).length=p.length:=by simp[iR]
 have eo:L.o=n+1:=by unfold LG.o;rw[show L.O=((n+1:Nat):Int)from sy.eO];rfl
 have hx:Xr ⟨T,l,L,p⟩=Rk (aL l) (jn (jE L) (List.replicate n 0) (iR (aL l) p)) p:=by unfold Xr;dsimp only;rw[eo,aAD]
 rw[hx];obtain⟨S,hS⟩:∃S,jn (jE L) (List.replicate n 0) (iR (aL l) p)=S:=⟨_,rfl⟩;rw[hS]at j C⊢;rw[a0]at C;obtain⟨LO,LV,gs,k,am,mx⟩:=L;have b1:=sy.hL.ham.bn;have b2:=sy.hL.ham.bd;have f1:=sy.hL.ham.fn;have f2:=sy.hL.ham.fd;dsimp only at b1 b2 f1 f2;have N:=me u;refine⟨by show aq [AV.agg [.i .i64 T,.vw (ar l) l.length],AV.agg [.i .i64 LO,.i .i64 LV,.vw (br gs) gs.length,.i .i64 k,.b am.neg,am.n,am.d,aP mx],_]=true;simp only[aq,bare,b1,b2,N];rfl,rfl,nE rfl,?_⟩;unfold Mv dk LG.cells;unfold dk at Z;unfold LG.cells at j;dsimp only at Z j⊢;simp only[bp]at Z j;rw[dZ,St.of_nil];refine rg M (ax @f1 @f2) ?_;refine dr M [] (ax @f1 (ax @f2 (ax @c1 (ax @Z (ax @c2 (ax @j @cY)))))) ?_;have A:aq [AV.i .i64 T,.vw (ar l) l.length]=true:=by simp only[aq,bare,N];rfl
 refine tX 3 [2,0,3] [(7,.ptr 2 0),(6,.ptr 0 0),(3,.ptr 1 0),(2,bp p)] [(2,some (.cells (ai S) 31 false)),(1,some (.cells [.i .i64 T,.vw (ar l) l.length] 24 false)),(0,some (.cells [.b false,.snil,.snil] 31 false))] bT (by repeat' first|exact aK|refine aF ?_ ?_|exact bA.same (fc_bare _)|exact bA.same A|exact dj) ?_;refine Jd.seq ?_;refine Jd.seq ?_;refine f6 M ?_;show Jb _ _ _ _ _ _;refine Jd.loopB (fun k' g s=>∃(i:Nat)(q:Rat),i+k'=p.length/\QB (5000000*(p.length+1)+i*64) q/\Rk (aL l) q (p.drop i)=Rk (aL l) S p/\g=⟨45,32,Tr.of [(8,.i .i64 (i:Int)),(7,.ptr 2 0),(6,.ptr 0 0),(3,.ptr 1 0),(2,bp p)],none,[]⟩/\s=St.of [(2,some (.cells (ai q) 31 false)),(1,some (.cells [.i .i64 T,.vw (ar l) l.length] 24 false)),(0,some (.cells [.b false,.snil,.snil] 31 false))] 3) p.length ?_ ?_
 ·exact⟨_,_,(d9 3 [0,1,2] [(8,.i .i64 ((0:Nat):Int)),(7,.ptr 2 0),(6,.ptr 0 0),(3,.ptr 1 0),(2,bp p)] [(2,some (.cells (ai S) 31 false)),(1,some (.cells [.i .i64 T,.vw (ar l) l.length] 24 false)),(0,some (.cells [.b false,.snil,.snil] 31 false))] bT (by repeat' first|exact aK|refine aF ?_ ?_|exact bA.same (fc_bare _)|exact bA.same A|exact dj)),0,S,by omega,C.mono (by omega),rfl,rfl,rfl⟩
 rintro k' _ _ ⟨i,q,hi,Y,J,rfl,rfl⟩ Q1 hex a4 al;refine Jd.seq ?_;refine aN M ?_;refine Jd.cnd rfl (fun h1=>?_) (fun h1=>?_);rotate_left
 ·obtain rfl:i=p.length:=by have:=io h1;omega
  refine Jd.exitT (hex _ _ ?_);show Jb _ _ _ _ _ _;rw[aAQ]at J;refine rg M (ax @ew @cY) ?_;exact Jd.ret (aw.c1 rfl rfl BD (by rw[<-J];rfl))
 have B:i<p.length:=by have:=gT h1;omega
 obtain⟨z,hz⟩:∃z,p[i]?=some z:=⟨_,bY B⟩;have a5:=hp z (eQ hz);obtain⟨m,rfl⟩:∃m:Nat,z=(m:Int):=⟨z.toNat,by omega⟩;have an:m<l.length:=by omega
 obtain⟨x,y⟩:∃x,l[m]?=some x:=⟨_,bY an⟩;have a1:=u x (eQ y);have a2:=hq x (eQ y);have a3:=rM hz;have ad:=ar4 y;have av:=aj (df (·*·) (bu (aO Y (by omega))) a1.1);refine Jd.skipT ?_;refine Jd.seq (Jd.block ?_);clear hex;apply Jd.drwQ M [(11,0)] (by kernel_rfl);(· intro K gl U hK;simp only[sv]at U;subst U;simp (maxSteps:=1000000) (disch:=omega) only[↓nD,↓nC,nB,Nat.reduceEqDiff,↓reduceIte,Nat.reduceLT,Nat.reduceAdd,iT,ij,Cc,NE,NO,iO, ew,A5,a3,ad,c3,av,iO];exact hK)
 refine bW.norm ?_;show Jb _ _ _ _ _ _;refine f6 M ?_;refine al _ _ ⟨k'-1,_,_,by omega,(d9 3 [0,1,2] [(8,.i .i64 ((i+1:Nat):Int)),(7,.ptr 2 0),(6,.ptr 0 0),(3,.ptr 1 0),(2,bp p)] [(2,some (.cells (ai (q*x.a.q)) 31 false)),(1,some (.cells [.i .i64 T,.vw (ar l) l.length] 24 false)),(0,some (.cells [.b false,.snil,.snil] 31 false))] bT (by repeat' first|exact aK|refine aF ?_ ?_|exact bA.same (fc_bare _)|exact bA.same A|exact dj)),i+1,q*x.a.q,by omega,(Y.mul a2).mono (by omega),?_,rfl,rfl⟩;rw[<-J,AT B,show p[i]=(m:Int)from TO ((bY B).symm.trans hz)];show _=Rk (aL l) (q*(d8 (aL l) (m:Int).toNat).q) (p.drop (i+1));rw[iO,fY y]
def iQ(V:Int)(l:List Int):Bool:=l.all fun x=>decide (1<=x)&&decide (x<=V)
noncomputable def sntV:=ofE Wl (fun d=>d.1.length<=1000000) fun d=>.b (iQ d.2 d.1)
theorem VT{l:List Int}(hl:l.length<=1000000)(V:Int)(s:St):ab sntV [bp l,.i .i64 V] s=some (.b (iQ V l),s):=fT (d:=(l,V)) Je hl s
theorem WV:ag Tryz.prog 80 (ab sntV):=by
 obtain⟨E,M⟩:=uq;refine aE (by kernel_rfl) Tryz.func80 Tryz.ntmps80 rfl ?_;intro args v Y;obtain⟨⟨l,V⟩,hl,rfl,rfl⟩:=cU Y;have hl:l.length<=1000000:=hl;clear Y;refine⟨rfl,rfl,nE rfl,?_⟩;unfold Wl;rw[cZ,St.of_nil];dsimp only;refine aN M ?_;refine Jd.seq ?_;refine Jd.seq ?_;refine f6 M ?_;show Jb _ _ _ _ _ _;refine Jd.loopB (fun k g s=>∃i:Nat,i+k=l.length/\iQ V l=iQ V (l.drop i)/\g=⟨80,25,Tr.of [(5,.i .i64 (i:Int)),(4,.b false),(1,.i .i64 V),(0,bp l)],none,[]⟩/\s=St.of [] 0) l.length ?_ ?_
 ·exact⟨_,_,(d9 0 [] [(5,.i .i64 ((0:Nat):Int)),(4,.b false),(1,.i .i64 V),(0,bp l)] [] bT aK),0,by omega,rfl,rfl,rfl⟩
 rintro k _ _ ⟨i,hi,U,rfl,rfl⟩ Q1 hex u N;refine Jd.seq ?_;refine aN M ?_;refine Jd.cnd rfl (fun J=>?_) (fun J=>?_);rotate_left
 ·obtain rfl:i=l.length:=by have:=io J;omega
  refine Jd.exitT (hex _ _ ?_);show Jb _ _ _ _ _ _;refine aN M ?_;refine Jd.ret (aw.one rfl rfl ?_);rw[U,aAQ];rfl
 have y:i<l.length:=by have:=gT J;omega
 obtain⟨x,hx⟩:∃x,l[i]?=some x:=⟨_,bY y⟩;have B:=rM hx;have hd:iQ V (l.drop i)=(decide (1<=x)&&decide (x<=V)&&iQ V (l.drop (i+1))):=by rw[AT y,show l[i]=x from TO ((bY y).symm.trans hx)];rfl
 refine Jd.skipT ?_;refine Jd.seq (Jd.block ?_);clear hex;have j:¬(1<=x/\x<=V)->iQ V l=false:=fun h=>by rw[U,hd,<-Bool.decide_and,iS h];rfl
 by_cases Z:x<1
 ·have C:decide (x<1)=true:=lT Z;refine rg M (ax @B @C) ?_;refine cT rfl ?_;refine aN M ?_;refine Jd.ret ?_;refine u _ _ ?_;exact gW.r (aw.one rfl rfl (by rw[j (by omega)]))
 have C:decide (x<1)=false:=iS Z;refine rg M (ax @B @C) ?_;refine Jd.cnd rfl (fun A=>?_) (fun A=>?_)
 ·have A:=gT A;refine aN M ?_;refine Jd.ret ?_;refine u _ _ ?_;exact gW.r (aw.one rfl rfl (by rw[j (by omega)]))
 have A:=io A;refine Jd.skip ?_;refine bW.norm ?_;show Jb _ _ _ _ _ _;refine f6 M ?_;refine N _ _ ⟨k-1,_,_,by omega,(d9 0 [] [(5,.i .i64 ((i+1:Nat):Int)),(4,.b false),(1,.i .i64 V),(0,bp l)] [] bT aK),i+1,by omega,?_,rfl,rfl⟩;rw[U,hd,lT (show 1<=x by omega),lT (show x<=V by omega)];rfl
def AY(T:Int)(l:List aW)(L:LG)(ws:List Int):Int:=
 if i3 T (aL l)=5∨L.err=5∨20<ws.length then 5 else
 if i3 T (aL l)≠0∨L.err≠0∨iQ L.V ws=false then 2 else
 if(l.any fun x=>decide (x.a.w>L.V))=true then 2 else 0
structure Xl(d:LW):Prop where
 ok:∀x∈d.l,x.Ok
 hl:d.l.length<=1000000
 hL:d.L.Ok
 hp:d.p.length<=1000000
def V5(args:List AV)(v:AV):Prop:=∃d W,Xl d/\((W=.snil/\d.p=[])∨W=bp d.p)/\args=[dk d.T d.l,.agg d.L.cells,W]/\v=.i .i64 (AY d.T d.l d.L d.p)
theorem V1{T:Int}{l:List aW}{L:LG}(ok:Xl ⟨T,l,L,[]⟩)(s:St):ab (relV V5) [dk T l,.agg L.cells,.snil] s=some (.i .i64 (AY T l L []),s):=by
 refine aj (il ?_ ⟨⟨T,l,L,[]⟩,.snil,ok,.inl ⟨rfl,rfl⟩,rfl,rfl⟩) s;rintro Y ⟨⟨T',N,C,U⟩,J,j,B,e,rfl⟩;simp only[dk,rW,AV.agg.injEq,AV.i.injEq,AV.vw.injEq,true_and,and_true]at e;obtain⟨⟨rfl,u,x⟩,y,A⟩:=e;obtain rfl:=jv ok.ok j.ok u x;obtain rfl:=LG.inj _ _ y;rcases B with⟨_,h⟩|h
 ·dsimp only at h;rw[h]
 rw[<-A]at h;cases h
theorem Zg{X:eC}{E:Ev}(M:Mc Tryz.prog X E)(c1:∀a s,E.call 28 a s=ab kC a s)(c2:∀a s,E.call 79 a s=fI a s)(c3:∀a s,E.call 80 a s=ab sntV a s){c:Code}(hc:(Tryz.f25).body=some c){T:Int}{l:List aW}{L:LG}{ws:List Int}(ok:Xl ⟨T,l,L,ws⟩){W:AV}(hW:(W=.snil/\ws=[])∨W=bp ws) : Jd Tryz.prog c ⟨25,56,Tr.ofList [dk T l,.agg L.cells,W],none,[]⟩ ⟨.nil,0⟩ (aw Tryz.prog Tryz.f25 fun v _=>v=.i .i64 (AY T l L ws)):=by
 obtain rfl:_=c:=TO hc;clear hc;obtain⟨Z,hl,hL,hp⟩:=ok;dsimp only at Z hl hL hp;have a4:bare W=true:=by rcases hW with⟨rfl,_⟩|rfl<;>rfl
 have ad:∀H,Wk H W (bp ws):=fun H=>by
  rcases hW with⟨rfl,h⟩|rfl
  ·exact Wk.vwn h
  exact Wk.refl _ _
 have al:∀s,ab kC [.agg [.i .i64 T,.vw (ar l) l.length]] s=some (.i .i64 (i3 T (aL l)),s):=aj (by show(Gx (dk T l)).map _=_;rw[O3 Z];rfl);have U:=tg hL;obtain⟨a,ha⟩:∃e,i3 T (aL l)=e:=⟨_,rfl⟩;obtain⟨b,hb⟩:∃e,L.err=e:=⟨_,rfl⟩;have a1:AY T l L ws=if a=5∨b=5∨20<ws.length then 5 else if a≠0∨b≠0∨iQ L.V ws=false then 2 else if(l.any fun x=>decide (x.a.w>L.V))=true then 2 else 0:=by unfold AY;rw[ha,hb]
 rw[ha]at al;rw[hb]at U;rw[a1];obtain⟨J,u,gs,k,am,mx⟩:=L;have b1:=hL.ham.bn;have b2:=hL.ham.bd;have f1:=hL.ham.fn;have f2:=hL.ham.fd;dsimp only at b1 b2 f1 f2 U⊢;have av:=me Z;have C:aq [.i .i64 J,.i .i64 u,.vw (br gs) gs.length,.i .i64 k,.b am.neg,am.n,am.d,aP mx]=true:=by simp only[aq,bare,b1,b2];rfl
 have B:aq [.i .i64 T,.vw (ar l) l.length]=true:=by simp only[aq,bare,av];rfl
 rw[dZ,St.of_nil];unfold dk LG.cells;refine rg M (ax @f1 @f2) ?_;refine zX 1 0 ([.i .i64 T,.vw (ar l) l.length]) [1] [(6,.i .i64 0),(4,.ptr 0 0),(3,.vp [.i .i64 T,.vw (ar l) l.length] 0),(2,bp ws)] [(0,some (.cells [.i .i64 J,.i .i64 u,.vw (br gs) gs.length,.i .i64 k,.b am.neg,am.n,am.d,aP mx] 34 false))] ?_ (by repeat' first|exact bK|refine aM ?_ ?_|exact Wk.frz_ptr|exact ad _|exact eU) (by repeat' first|exact aK|refine aF ?_ ?_|exact bA.same C|exact ad _|exact dj) ?_
 ·exact B
 refine zX 0 0 ([.i .i64 J,.i .i64 u,.vw (br gs) gs.length,.i .i64 k,.b am.neg,am.n,am.d,aP mx]) [] [(6,.i .i64 0),(4,.vp [.i .i64 J,.i .i64 u,.vw (br gs) gs.length,.i .i64 k,.b am.neg,am.n,am.d,aP mx] 0),(3,.vp [.i .i64 T,.vw (ar l) l.length] 0),(2,bp ws)] [] ?_ (by repeat' first|exact bK|refine aM ?_ ?_|exact Wk.frz_ptr|exact Wk.bare B|exact eU) aK ?_
 ·exact C
 refine dr M [] (ax @f1 (ax @f2 (ax @c1 (ax @al (ax @c2 @U))))) ?_;have a2:=VT hp u;refine Jd.seq ?_;by_cases hA:a=5
 ·have e1:decide (a=5)=true:=lT hA;refine rg M @e1 ?_;refine cT rfl ?_;refine aN M ?_;exact Jd.retT (aw.one rfl rfl (by rw[oR (.inl hA)]))
 have e1:decide (a=5)=false:=iS hA;by_cases hB:b=5
 ·have e2:decide (b=5)=true:=lT hB;refine rg M (ax @e1 @e2) ?_;refine cT rfl ?_;refine aN M ?_;exact Jd.retT (aw.one rfl rfl (by rw[oR (.inr (.inl hB))]))
 have e2:decide (b=5)=false:=iS hB;refine rg M (ax @e1 @e2) ?_;refine Jd.cnd rfl (fun h3=>?_) (fun h3=>?_)
 ·have h3:=gT h3;refine aN M ?_;exact Jd.retT (aw.one rfl rfl (by rw[oR (.inr (.inr (by omega)))]))
 have h3:=io h3;rw[iF (show ¬(a=5∨b=5∨20<ws.length)by omega)];refine Jd.skipT ?_;refine Jd.seq ?_;by_cases y:a=0;rotate_left
 ·have e4:decide (a=0)=false:=iS y;refine rg M (ax @e4 @aBd) ?_;refine cT rfl ?_;refine aN M ?_;exact Jd.retT (aw.one rfl rfl (by rw[oR (.inl y)]))
 have e4:decide (a=0)=true:=lT y;by_cases A:b=0;rotate_left
 ·have e5:decide (b=0)=false:=iS A;refine rg M (ax @e4 (ax @e5 (ax @aBd @aBu))) ?_;refine cT rfl ?_;refine aN M ?_;exact Jd.retT (aw.one rfl rfl (by rw[oR (.inr (.inl A))]))
 have e5:decide (b=0)=true:=lT A;refine rg M (ax @e4 (ax @e5 (ax @aBd (ax @aBu (ax @c3 @a2))))) ?_;refine Jd.cnd rfl (fun N=>?_) (fun N=>?_)
 ·have N:iQ u ws=false:=by simpa using N
  refine aN M ?_;exact Jd.retT (aw.one rfl rfl (by rw[oR (.inr (.inr N))]))
 have N:iQ u ws=true:=by simpa using N
 rw[iF (show ¬(a≠0∨b≠0∨iQ u ws=false)by rw[N];simp[y,A])];refine Jd.skipT ?_;refine Jd.seq ?_;refine Jd.seq ?_;refine f6 M ?_;show Jb _ _ _ _ _ _;refine Jd.loopB (fun k' g s=>∃i:Nat,i+k'=l.length/\(l.any fun x=>decide (x.a.w>u))=((l.drop i).any fun x=>decide (x.a.w>u))/\g=⟨25,56,Tr.of [(9,.i .i64 (i:Int)),(6,.i .i64 0),(4,.vp [.i .i64 J,.i .i64 u,.vw (br gs) gs.length,.i .i64 k,.b am.neg,am.n,am.d,aP mx] 0),(3,.vp [.i .i64 T,.vw (ar l) l.length] 0),(2,bp ws)],none,[]⟩/\s=St.of [] 0) l.length ?_ ?_
 ·exact⟨_,_,(d9 0 [] [(9,.i .i64 ((0:Nat):Int)),(6,.i .i64 0),(4,.vp [.i .i64 J,.i .i64 u,.vw (br gs) gs.length,.i .i64 k,.b am.neg,am.n,am.d,aP mx] 0),(3,.vp [.i .i64 T,.vw (ar l) l.length] 0),(2,bp ws)] [] (by repeat' first|exact bK|refine aM ?_ ?_|exact Wk.bare C|exact Wk.bare B|exact eU) aK),0,by omega,rfl,rfl,rfl⟩
 rintro k' _ _ ⟨i,hi,hw,rfl,rfl⟩ Q1 hex an a0;refine Jd.seq ?_;refine aN M ?_;refine Jd.cnd rfl (fun h1=>?_) (fun h1=>?_);rotate_left
 ·obtain rfl:i=l.length:=by have:=io h1;omega
  refine Jd.exitT (hex _ _ ?_);show Jb _ _ _ _ _ _;refine aN M ?_;exact Jd.ret (aw.one rfl rfl (by rw[hw,aAQ];rfl))
 have Y:i<l.length:=by have:=gT h1;omega
 obtain⟨x,hx⟩:∃x,l[i]?=some x:=⟨_,bY Y⟩;have hd:((l.drop i).any fun x=>decide (x.a.w>u))=(decide (x.a.w>u) ||(l.drop (i+1)).any fun x=>decide (x.a.w>u)):=by rw[AT Y,show l[i]=x from TO ((bY Y).symm.trans hx)];rfl
 have a3:=Aa hx (j:=2) (v:=.i .i64 x.a.w) (by omega) rfl;refine Jd.skipT ?_;refine Jd.seq (Jd.block ?_);clear hex;refine dr M [] @a3 ?_;refine Jd.cnd rfl (fun h5=>?_) (fun h5=>?_)
 ·refine aN M ?_;refine Jd.ret ?_;refine an _ _ ?_;exact gW.r (aw.one rfl rfl (by rw[hw,hd,h5];rfl))
 refine Jd.skip ?_;refine bW.norm ?_;show Jb _ _ _ _ _ _;refine f6 M ?_;refine a0 _ _ ⟨k'-1,_,_,by omega,(d9 0 [] [(9,.i .i64 ((i+1:Nat):Int)),(6,.i .i64 0),(4,.vp [.i .i64 J,.i .i64 u,.vw (br gs) gs.length,.i .i64 k,.b am.neg,am.n,am.d,aP mx] 0),(3,.vp [.i .i64 T,.vw (ar l) l.length] 0),(2,bp ws)] [] (by repeat' first|exact bK|refine aM ?_ ?_|exact Wk.bare C|exact Wk.bare B|exact eU) aK),i+1,by omega,by rw[hw,hd,h5,aAi],rfl,rfl⟩
theorem Uy:ag Tryz.prog 25 (ab (relV V5)):=by
 obtain⟨E,M,C,J,N⟩:=SJ (ab kC) fI (ab sntV) ⟨Mm,Hg,WV⟩ rfl;refine aE (by kernel_rfl) Tryz.func25 Tryz.ntmps25 rfl ?_;intro args x U;obtain⟨⟨T,l,L,p⟩,W,ok,B,rfl,rfl⟩:=dR U;have j:=me ok.ok;have y:=ok.hL.ham.bn;have A:=ok.hL.ham.bd;dsimp only at j y A;refine⟨?_,rfl,nE rfl,Zg M C J N rfl ok B⟩;have u:bare W=true:=by rcases B with⟨rfl,_⟩|rfl<;>rfl
 simp only[dk,LG.cells,aq,bare,j,y,A,u];rfl
def aW.raw(x:aW):aW:=⟨⟨x.a.f,x.a.t,x.a.w,x.a.v,0⟩,x.neg,x.n,x.d⟩
def IM:List AV->Option (List aW)
 | []=>some []
 | .i .i64 f::.i .i64 t::.i .i64 w::.i .i64 v::.b neg::n::d::l=>cond (pJ n&&pJ d) ((IM l).map (⟨⟨f,t,w,v,0⟩,neg,n,d⟩::·)) none
 |_=>none
theorem wj:∀{l:List aW},(∀x∈l,pJ x.n=true/\pJ x.d=true)->IM (ar l)=some (l.map aW.raw)
 | [],_=>rfl
 |x::l,h=>by obtain⟨j,u⟩:=h x Do;show IM (aC x++ar l)=_;simp only[aC,aAy,aAB,IM,j,u,wj fun y hy=>h y (tK _ hy),aBU,EQ,AC];rfl
theorem ZT{l:List aW}{i:Nat}{x:aW}(h:l[i]?=some x):(ar l)[i*7+4+1]?=some x.n:=Aa h (j:=5) (by omega) rfl
theorem ar6{l:List aW}{i:Nat}{x:aW}(h:l[i]?=some x):(ar l)[i*7+4+2]?=some x.d:=Aa h (j:=6) (by omega) rfl
def fQ(x:aW):Bool:=decide (iH x.n<=2)&&decide (iH x.d<=2)
def mz(T:Int)(l:List aW):Bool:=!((decide (T>8)&&decide (T<=1000)) ||decide (l.length>30))&&l.all fQ
def jC(x:RF):Bool:=decide (iH x.n<=1)&&decide (iH x.d<=1)
def je(g:Gr):Bool:=decide (g.1.length<=5)
def o5(L:LG):Bool:=!(decide (L.gs.length>30) ||decide (L.V>5) ||decide (L.mix.length>6) ||decide (iH L.am.n>1) ||decide (iH L.am.d>1))&&L.mix.all jC&&L.gs.all je
structure Xg(l:List aW)(L:LG):Prop where
 hl:∀x∈l,pJ x.n=true/\pJ x.d=true
 ha:pJ L.am.n=true/\pJ L.am.d=true
 hm:∀x∈L.mix,pJ x.n=true/\pJ x.d=true
def Zf(args:List AV)(v:AV):Prop:=∃T l L,Xg l L/\args=[dk T l,.agg L.cells]/\v=.b (mz T l&&o5 L)
theorem Ix(T:Int)(l:List aW):mz T (l.map aW.raw)=mz T l:=by unfold mz;rw[RW,List.all_map];rfl
theorem XW{T:Int}{l:List aW}{L:LG}(ok:Xg l L)(s:St):ab (relV Zf) [dk T l,.agg L.cells] s=some (.b (mz T l&&o5 L),s):=by refine aj (il ?_ ⟨T,l,L,ok,rfl,rfl⟩) s;rintro J ⟨T',B,C,j,e,rfl⟩;simp only[dk,rW,AV.agg.injEq,AV.i.injEq,AV.vw.injEq,true_and,and_true]at e;obtain⟨⟨rfl,x,_⟩,y⟩:=e;obtain rfl:=LG.inj _ _ y;have u:=wj ok.hl;have A:=wj j.hl;rw[x,A]at u;rw[<-Ix T l,<-Ix T B,TO u]
theorem xy{α:Type}(f:α->Bool){l:List α}{i:Nat}{x:α}(h:l[i]?=some x):(l.drop i).all f=(f x&&(l.drop (i+1)).all f):=by have hi:=(dO.1 h).1;rw[AT hi,show l[i]=x from TO ((bY hi).symm.trans h)];rfl
theorem xA{a b:Nat}{t:Bool}(h:decide ((a:Int)>(b:Int))=t):decide (a<=b) = !t:=by rw[<-h,<-decide_not];exact aCN.2 (by omega)
theorem Mj:ag Tryz.prog 24 (ab (relV Zf)):=by
 obtain⟨E,M⟩:=uq;refine aE (by kernel_rfl) Tryz.func24 Tryz.ntmps24 rfl ?_;intro args v h0;obtain⟨T,l,L,⟨hd,ha,hm⟩,rfl,rfl⟩:=dR h0;clear h0;obtain⟨N,B,gs,k,am,mx⟩:=L;dsimp only at ha hm;obtain⟨b1,f1⟩:=dV ha.1;obtain⟨b2,f2⟩:=dV ha.2;have n1:=ma ha.1;have n2:=ma ha.2;have C:aq [.i .i64 T,.vw (ar l) l.length]=true:=by simp only[aq,bare];rfl
 have J:aq [.i .i64 N,.i .i64 B,.vw (br gs) gs.length,.i .i64 k,.b am.neg,am.n,am.d,aP mx]=true:=by simp only[aq,bare,b1,b2];rfl
 refine⟨by show aq [AV.agg [.i .i64 T,.vw (ar l) l.length],AV.agg [.i .i64 N,.i .i64 B,.vw (br gs) gs.length,.i .i64 k,.b am.neg,am.n,am.d,aP mx]]=true;simp only[aq,bare,b1,b2];rfl,rfl,nE rfl,?_⟩;unfold dk LG.cells;rw[cZ,St.of_nil];dsimp only;obtain⟨t1,e1⟩:∃b,decide (T>8)=b:=⟨_,rfl⟩;obtain⟨t2,e2⟩:∃b,decide (T<=1000)=b:=⟨_,rfl⟩;obtain⟨t3,e3⟩:∃b,decide ((l.length:Int)>30)=b:=⟨_,rfl⟩;obtain⟨t4,e4⟩:∃b,decide ((gs.length:Int)>30)=b:=⟨_,rfl⟩;obtain⟨t5,e5⟩:∃b,decide (B>5)=b:=⟨_,rfl⟩;obtain⟨t6,e6⟩:∃b,decide ((mx.length:Int)>6)=b:=⟨_,rfl⟩;obtain⟨t7,e7⟩:∃b,decide ((iH am.n:Int)>1)=b:=⟨_,rfl⟩;obtain⟨t8,e8⟩:∃b,decide ((iH am.d:Int)>1)=b:=⟨_,rfl⟩;have hB:(mz T l&&o5 ⟨N,B,gs,k,am,mx⟩)=(!((t1&&t2) ||t3)&&l.all fQ&&(!(t4 ||t5 ||t6 ||t7 ||t8)&&mx.all jC&&gs.all je)):=by have hc:∀(a b:Nat),decide (a>b)=decide ((a:Int)>(b:Int)):=fun a b=>aCN.2 (by omega);rw[<-e1,<-e2,<-e3,<-e4,<-e5,<-e6,<-e7,<-e8];show(!((decide (T>8)&&decide (T<=1000)) ||decide (l.length>30))&&l.all fQ&&(!(decide (gs.length>30) ||decide (B>5) ||decide (mx.length>6) ||decide (iH am.n>1) ||decide (iH am.d>1))&&mx.all jC&&gs.all je))=_;rw[hc l.length 30,hc gs.length 30,hc mx.length 6,hc (iH am.n) 1,hc (iH am.d) 1];rfl
 rw[hB];refine rg M (ax @f1 @f2) ?_;cases hbad:((t1&&t2) ||t3 ||t4 ||t5 ||t6 ||t7 ||t8)with
 |true=>
  refine Jd.seq ?_;cases t1<;>cases t2
  all_goals
   cases t3 with
   |true=>(refine rg M (ax @e1 (ax @e2 @e3)) ?_;refine cT rfl ?_;refine aN M ?_;exact Jd.retT (aw.one rfl rfl (by simp)))
   |false=>
   cases t4 with
   |true=>(refine rg M (ax @e1 (ax @e2 (ax @e3 @e4))) ?_;refine cT rfl ?_;refine aN M ?_;exact Jd.retT (aw.one rfl rfl (by simp)))
   |false=>
   cases t5 with
   |true=>(refine rg M (ax @e1 (ax @e2 (ax @e3 (ax @e4 @e5)))) ?_;refine cT rfl ?_;refine aN M ?_;exact Jd.retT (aw.one rfl rfl (by simp)))
   |false=>
   cases t6 with
   |true=>(refine rg M (ax @e1 (ax @e2 (ax @e3 (ax @e4 (ax @e5 @e6))))) ?_;refine cT rfl ?_;refine aN M ?_;exact Jd.retT (aw.one rfl rfl (by simp)))
   |false=>
   cases t7 with
   |true=>(refine rg M (ax @e1 (ax @e2 (ax @e3 (ax @e4 (ax @e5 (ax @e6 (ax @e7 @n1))))))) ?_;refine cT rfl ?_;refine aN M ?_;exact Jd.retT (aw.one rfl rfl (by simp)))
   |false=>
   cases t8 with
   |true=>(refine rg M (ax @e1 (ax @e2 (ax @e3 (ax @e4 (ax @e5 (ax @e6 (ax @e7 (ax @e8 (ax @n1 @n2))))))))) ?_;refine cT rfl ?_;refine aN M ?_;exact Jd.retT (aw.one rfl rfl (by simp)))
   |false=>first|(exact absurd hbad (by decide))|(refine rg M (ax @e1 @e2) ?_;refine cT rfl ?_;refine aN M ?_;exact Jd.retT (aw.one rfl rfl (by simp)))
 |false=>
 simp only[Bool.or_eq_false_iff]at hbad;obtain⟨⟨⟨⟨⟨⟨an,rfl⟩,rfl⟩,rfl⟩,rfl⟩,rfl⟩,rfl⟩:=hbad;rw[an];refine Jd.cut ⟨24,124,Tr.of [(4,.b false),(3,.ptr 1 0),(2,.ptr 0 0)],none,[]⟩ (St.of [(1,some (.cells [.i .i64 N,.i .i64 B,.vw (br gs) gs.length,.i .i64 k,.b am.neg,am.n,am.d,aP mx] 34 false)),(0,some (.cells [.i .i64 T,.vw (ar l) l.length] 24 false))] 2) ?_ fun Q2 av _ _=>?_;rotate_left
 ·cases t1<;>cases t2
  all_goals first|(exact absurd an (by decide))|skip
  all_goals
   refine rg M (ax @e1 (ax @e2 (ax @e3 (ax @e4 (ax @e5 (ax @e6 (ax @e7 (ax @e8 (ax @n1 @n2))))))))) ?_;refine cF rfl ?_;exact Jd.skip (av _ _ (d9 2 [0,1] [(4,.b false),(3,.ptr 1 0),(2,.ptr 0 0)] [(1,some (.cells [.i .i64 N,.i .i64 B,.vw (br gs) gs.length,.i .i64 k,.b am.neg,am.n,am.d,aP mx] 34 false)),(0,some (.cells [.i .i64 T,.vw (ar l) l.length] 24 false))] bT (by repeat' first|exact aK|refine aF ?_ ?_|exact bA.same C|exact bA.same J|exact dj)))
 have a2:l.length<=30:=by have:=io e3;omega
 have a1:gs.length<=30:=by have:=io e4;omega
 have a3:mx.length<=6:=by have:=io e6;omega
 show Jb _ _ _ _ _ (aw _ _ fun v' _=>v'=.b (l.all fQ&&(mx.all jC&&gs.all je)));obtain⟨a4,u⟩:∃r,(l.all fQ&&(mx.all jC&&gs.all je))=r:=⟨_,rfl⟩;rw[u];refine Jd.seq ?_;refine Jd.seq ?_;refine f6 M ?_;show Jb _ _ _ _ _ _;refine Jd.loopB (fun k' g s=>∃i:Nat,i+k'=l.length/\l.all fQ=(l.drop i).all fQ/\g=⟨24,124,Tr.of [(5,.i .i64 (i:Int)),(4,.b false),(3,.ptr 1 0),(2,.ptr 0 0)],none,[]⟩/\s=St.of [(1,some (.cells [.i .i64 N,.i .i64 B,.vw (br gs) gs.length,.i .i64 k,.b am.neg,am.n,am.d,aP mx] 34 false)),(0,some (.cells [.i .i64 T,.vw (ar l) l.length] 24 false))] 2) l.length ?_ ?_
 ·exact⟨_,_,(d9 2 [0,1] [(5,.i .i64 ((0:Nat):Int)),(4,.b false),(3,.ptr 1 0),(2,.ptr 0 0)] [(1,some (.cells [.i .i64 N,.i .i64 B,.vw (br gs) gs.length,.i .i64 k,.b am.neg,am.n,am.d,aP mx] 34 false)),(0,some (.cells [.i .i64 T,.vw (ar l) l.length] 24 false))] bT (by repeat' first|exact aK|refine aF ?_ ?_|exact bA.same C|exact bA.same J|exact dj)),0,by omega,rfl,rfl,rfl⟩
 rintro k' _ _ ⟨i,hi,j,rfl,rfl⟩ Q1 hex y A;refine Jd.seq ?_;refine aN M ?_;refine Jd.cnd rfl (fun Y=>?_) (fun Y=>?_)
 ·have Z:i<l.length:=by have:=gT Y;omega
  obtain⟨x,U⟩:∃x,l[i]?=some x:=⟨_,bY Z⟩;obtain⟨d1,d2⟩:=hd x (eQ U);have ad:=ma d1;have al:=ma d2;obtain⟨u1,g1⟩:∃b,decide ((iH x.n:Int)>2)=b:=⟨_,rfl⟩;obtain⟨u2,g2⟩:∃b,decide ((iH x.d:Int)>2)=b:=⟨_,rfl⟩;have hA:fQ x = !(u1 ||u2):=by unfold fQ;rw[xA (b:=2) g1,xA (b:=2) g2,Bool.not_or]
  rw[xy fQ U,hA]at j;refine Jd.skipT ?_;refine Jd.seq (Jd.block ?_);clear hex;cases u1 with
  |true=>refine rg M (ax @iO (ax (ZT U) (ax @ad @g1))) ?_;refine cT rfl ?_;refine aN M ?_;refine Jd.ret ?_;refine y _ _ ?_;exact gW.r (aw.one rfl rfl (by rw[<-u,j];rfl))
  |false=>
  refine rg M (ax @iO (ax (ZT U) (ax (ar6 U) (ax @ad (ax @al (ax @g1 @g2)))))) ?_;refine Jd.cnd rfl (fun ht=>?_) (fun ht=>?_)
  ·refine aN M ?_;refine Jd.ret ?_;refine y _ _ ?_;exact gW.r (aw.one rfl rfl (by rw[<-u,j,ht];rfl))
  refine Jd.skip ?_;refine bW.norm ?_;show Jb _ _ _ _ _ _;refine f6 M ?_;refine A _ _ ⟨k'-1,_,_,by omega,(d9 2 [0,1] [(5,.i .i64 ((i+1:Nat):Int)),(4,.b false),(3,.ptr 1 0),(2,.ptr 0 0)] [(1,some (.cells [.i .i64 N,.i .i64 B,.vw (br gs) gs.length,.i .i64 k,.b am.neg,am.n,am.d,aP mx] 34 false)),(0,some (.cells [.i .i64 T,.vw (ar l) l.length] 24 false))] bT (by repeat' first|exact aK|refine aF ?_ ?_|exact bA.same C|exact bA.same J|exact dj)),i+1,by omega,by rw[j,ht];rfl,rfl,rfl⟩
 obtain rfl:i=l.length:=by have:=io Y;omega
 rw[aAQ]at j;rw[j]at u;refine Jd.exitT (hex _ _ ?_);clear hex y A;show Jb _ _ _ _ _ _;refine Jd.seq ?_;refine Jd.seq ?_;refine f6 M ?_;show Jb _ _ _ _ _ _;refine Jd.loopB (fun k' g s=>∃i:Nat,i+k'=mx.length/\mx.all jC=(mx.drop i).all jC/\g=⟨24,124,Tr.of [(6,.i .i64 (i:Int)),(4,.b false),(3,.ptr 1 0),(2,.ptr 0 0)],none,[]⟩/\s=St.of [(1,some (.cells [.i .i64 N,.i .i64 B,.vw (br gs) gs.length,.i .i64 k,.b am.neg,am.n,am.d,aP mx] 34 false)),(0,some (.cells [.i .i64 T,.vw (ar l) l.length] 24 false))] 2) mx.length ?_ ?_
 ·exact⟨_,_,(d9 2 [0,1] [(6,.i .i64 ((0:Nat):Int)),(4,.b false),(3,.ptr 1 0),(2,.ptr 0 0)] [(1,some (.cells [.i .i64 N,.i .i64 B,.vw (br gs) gs.length,.i .i64 k,.b am.neg,am.n,am.d,aP mx] 34 false)),(0,some (.cells [.i .i64 T,.vw (ar l) l.length] 24 false))] bT (by repeat' first|exact aK|refine aF ?_ ?_|exact bA.same C|exact bA.same J|exact dj)),0,by omega,rfl,rfl,rfl⟩
 rintro k' _ _ ⟨i,hi,j,rfl,rfl⟩ Q1 hex y A;refine Jd.seq ?_;refine aN M ?_;refine Jd.cnd rfl (fun Y=>?_) (fun Y=>?_)
 ·have Z:i<mx.length:=by have:=gT Y;omega
  obtain⟨x,U⟩:∃x,mx[i]?=some x:=⟨_,bY Z⟩;obtain⟨d1,d2⟩:=hm x (eQ U);have ad:=ma d1;have al:=ma d2;obtain⟨u1,g1⟩:∃b,decide ((iH x.n:Int)>1)=b:=⟨_,rfl⟩;obtain⟨u2,g2⟩:∃b,decide ((iH x.d:Int)>1)=b:=⟨_,rfl⟩;have hA:jC x = !(u1 ||u2):=by unfold jC;rw[xA (b:=1) g1,xA (b:=1) g2,Bool.not_or]
  rw[xy jC U,hA]at j;refine Jd.skipT ?_;refine Jd.seq (Jd.block ?_);clear hex;cases u1 with
  |true=>refine rg M (ax @iO (ax (U9 U) (ax @ad @g1))) ?_;refine cT rfl ?_;refine aN M ?_;refine Jd.ret ?_;refine y _ _ ?_;exact gW.r (aw.one rfl rfl (by rw[<-u,j];rfl))
  |false=>
  refine rg M (ax @iO (ax (U9 U) (ax (X4 U) (ax @ad (ax @al (ax @g1 @g2)))))) ?_;refine Jd.cnd rfl (fun ht=>?_) (fun ht=>?_)
  ·refine aN M ?_;refine Jd.ret ?_;refine y _ _ ?_;exact gW.r (aw.one rfl rfl (by rw[<-u,j,ht];rfl))
  refine Jd.skip ?_;refine bW.norm ?_;show Jb _ _ _ _ _ _;refine f6 M ?_;refine A _ _ ⟨k'-1,_,_,by omega,(d9 2 [0,1] [(6,.i .i64 ((i+1:Nat):Int)),(4,.b false),(3,.ptr 1 0),(2,.ptr 0 0)] [(1,some (.cells [.i .i64 N,.i .i64 B,.vw (br gs) gs.length,.i .i64 k,.b am.neg,am.n,am.d,aP mx] 34 false)),(0,some (.cells [.i .i64 T,.vw (ar l) l.length] 24 false))] bT (by repeat' first|exact aK|refine aF ?_ ?_|exact bA.same C|exact bA.same J|exact dj)),i+1,by omega,by rw[j,ht];rfl,rfl,rfl⟩
 obtain rfl:i=mx.length:=by have:=io Y;omega
 rw[aAQ]at j;rw[j]at u;refine Jd.exitT (hex _ _ ?_);clear hex y A;show Jb _ _ _ _ _ _;refine Jd.seq ?_;refine Jd.seq ?_;refine f6 M ?_;show Jb _ _ _ _ _ _;refine Jd.loopB (fun k' g s=>∃i:Nat,i+k'=gs.length/\gs.all je=(gs.drop i).all je/\g=⟨24,124,Tr.of [(7,.i .i64 (i:Int)),(4,.b false),(3,.ptr 1 0),(2,.ptr 0 0)],none,[]⟩/\s=St.of [(1,some (.cells [.i .i64 N,.i .i64 B,.vw (br gs) gs.length,.i .i64 k,.b am.neg,am.n,am.d,aP mx] 34 false)),(0,some (.cells [.i .i64 T,.vw (ar l) l.length] 24 false))] 2) gs.length ?_ ?_
 ·exact⟨_,_,(d9 2 [0,1] [(7,.i .i64 ((0:Nat):Int)),(4,.b false),(3,.ptr 1 0),(2,.ptr 0 0)] [(1,some (.cells [.i .i64 N,.i .i64 B,.vw (br gs) gs.length,.i .i64 k,.b am.neg,am.n,am.d,aP mx] 34 false)),(0,some (.cells [.i .i64 T,.vw (ar l) l.length] 24 false))] bT (by repeat' first|exact aK|refine aF ?_ ?_|exact bA.same C|exact bA.same J|exact dj)),0,by omega,rfl,rfl,rfl⟩
 rintro k' _ _ ⟨i,hi,j,rfl,rfl⟩ Q1 hex y A;refine Jd.seq ?_;refine aN M ?_;refine Jd.cnd rfl (fun Y=>?_) (fun Y=>?_)
 ·have Z:i<gs.length:=by have:=gT Y;omega
  obtain⟨x,U⟩:∃x,gs[i]?=some x:=⟨_,bY Z⟩;have a0:=mJ U;obtain⟨u1,g1⟩:∃b,decide ((x.1.length:Int)>5)=b:=⟨_,rfl⟩;have hA:je x = !u1:=by unfold je;rw[xA (b:=5) g1]
  rw[xy je U,hA]at j;refine Jd.skipT ?_;refine Jd.seq (Jd.block ?_);clear hex;refine rg M (ax @iO (ax @a0 @g1)) ?_;refine Jd.cnd rfl (fun ht=>?_) (fun ht=>?_)
  ·refine aN M ?_;refine Jd.ret ?_;refine y _ _ ?_;exact gW.r (aw.one rfl rfl (by rw[<-u,j,ht];rfl))
  refine Jd.skip ?_;refine bW.norm ?_;show Jb _ _ _ _ _ _;refine f6 M ?_;refine A _ _ ⟨k'-1,_,_,by omega,(d9 2 [0,1] [(7,.i .i64 ((i+1:Nat):Int)),(4,.b false),(3,.ptr 1 0),(2,.ptr 0 0)] [(1,some (.cells [.i .i64 N,.i .i64 B,.vw (br gs) gs.length,.i .i64 k,.b am.neg,am.n,am.d,aP mx] 34 false)),(0,some (.cells [.i .i64 T,.vw (ar l) l.length] 24 false))] bT (by repeat' first|exact aK|refine aF ?_ ?_|exact bA.same C|exact bA.same J|exact dj)),i+1,by omega,by rw[j,ht];rfl,rfl,rfl⟩
 obtain rfl:i=gs.length:=by have:=io Y;omega
 rw[aAQ]at j;rw[j]at u;refine Jd.exitT (hex _ _ ?_);clear hex y A;show Jb _ _ _ _ _ _;refine aN M ?_;exact Jd.ret (aw.one rfl rfl (by rw[<-u];rfl))
theorem vX(D:GD)(ac:List cR):∀(j:List Int)(s:Int×cO×Rat×List Int),(j.foldl (U8 D ac) s).2.2.1*(D.row (j.foldl (U8 D ac) s).2.1).getD 0 0=Rk ac (s.2.2.1*jn D.row s.2.1 (iR ac j)) j
 | [],s=>rfl
 |z::j,s=>by
  rw[aBl,vX D ac j];show Rk ac (s.2.2.1*((d8 ac z.toNat).q*(D.row s.2.1).getD (d8 ac z.toNat).w.toNat 0)*jn D.row (dq s.2.1 (d8 ac z.toNat).w) (iR ac j)) j=Rk ac (s.2.2.1*((D.row s.2.1).getD (d8 ac z.toNat).w.toNat 0*jn D.row (dq s.2.1 (d8 ac z.toNat).w) (iR ac j))*(d8 ac z.toNat).q) j;congr 1
  grind
theorem Nv{L:LG}(h:L.o≠0):L.row=jE L:=by funext hs;unfold jE LG.row;rw[iF h];rfl
theorem Aw{T:Int}{l:List aW}{L:LG}{p:List Int}(h:L.o≠0):lD (mM T.toNat l L) (aL l) p=Xr ⟨T,l,L,p⟩:=by unfold lD yh Xr;rw[vX];show Rk (aL l) (1*jn L.row (Cq (L.o-1)) (iR (aL l) p)) p=Rk (aL l) (jn (jE L) (List.replicate (L.o-1) 0) (iR (aL l) p)) p;rw[aDX,Nv h];rfl
theorem KR{T:Int}{l:List aW}{L:LG}:AY T l L []=0↔dw T l L false=0:=by
 constructor
 ·intro h;unfold AY at h;split at h
  ·cases h
  split at h
  ·cases h
  next u=>
  split at h
  ·cases h
  next y=>
  have ha:i3 T (aL l)=0:=aDW fun e=>u (.inl e);have j:L.err=0:=aDW fun e=>u (.inr (.inl e));have A:=(rL ha).1;rw[pF]at A;have J:=(lS (oG j).1).1;unfold dw;rw[iF (by omega),iF (by rw[ha];decide),iF (by rw[j];decide),iF];rintro(h|h)
  ·exact y h
  cases h
 intro h;obtain⟨ha,j,B⟩:=nQ h;unfold AY;rw[iF (by rw[ha,j];simp),iF (by rw[ha,j];simp[iQ]),iF];rw[List.any_eq_true];rintro⟨x,C,h⟩;have:=B x C;have:=gT h;omega
theorem yx.of{L:LG}{ws:List Int}(hL:L.Ok)(he:L.err=0)(h5:L.V<=5)(B:L.gs.length<=30)(few:ws.length<=12)(N:∀x∈ws,0<=x/\x<=L.V):∃n v,yx (L,ws) n v/\L.o=n+1:=by
 obtain⟨A,J⟩:=oG he;obtain⟨U,Y,Z,g4,g5,_,_⟩:=lS A;obtain⟨n,hn⟩:∃n:Nat,L.O=((n+1:Nat):Int):=⟨L.O.toNat-1,by omega⟩;obtain⟨v,j⟩:∃v:Nat,L.V=(v:Int):=⟨L.V.toNat,by omega⟩;have C:=RM (O:=n+1) (v:=v) (by rw[<-hn,<-j];exact A) (by omega);refine⟨n,v,⟨hn,j,hL,C,by omega,by omega,wk hL.ham.v,fun x y=>wk (hL.hmix.1 x y).v,?_,few,fun x y=>by have:=N x y;show 0<=x/\x<=(v:Int);omega⟩,by unfold LG.o;rw[hn];rfl⟩;dsimp only;have hV:aR L.k L.am.q L.qs L.O=true:=J;have u:L.qs.length=L.mix.length:=by simp[LG.qs,jG]
 rcases Fv hV with h|h|h|h<;>rw[h]at hV
 ·exact .inl ⟨h,(tD hV).1⟩
 ·rw[hn]at hV;exact .inr (.inl ⟨h,by rw[<-u];exact(Ct hV).1⟩)
 ·exact .inr (.inr (.inl ⟨h,(qc hV).1,(qc hV).2.1⟩))
 exact .inr (.inr (.inr h))
structure Xc(T:Int)(l:List aW)(L:LG):Prop where
 raw:Xg l L
 arcs:∀x∈l,fQ x=true->x.Ok/\QB 64 x.a.q
 lang:iH L.am.n<=1->iH L.am.d<=1->(∀x∈L.mix,jC x=true)->L.gs.length<=30->L.mix.length<=6->L.Ok
def Z4(args:List AV)(v:AV):Prop:=∃T l L p,Xc T l L/\args=[dk T l,.agg L.cells,bp p]/\v=.b true
theorem CO{T:Int}{l:List aW}{L:LG}(h:Xc T l L)(hs:(mz T l&&o5 L)=true):(∀x∈l,x.Ok/\QB 64 x.a.q)/\l.length<=30/\L.Ok/\L.V<=5/\L.gs.length<=30:=by rw[gE]at hs;obtain⟨ha,y⟩:=hs;unfold mz at ha;unfold o5 at y;simp only[gE,aAA,Bool.or_eq_false_iff,aAs,Of]at ha y;obtain⟨j,u⟩:=ha;obtain⟨⟨A,B⟩,_⟩:=y;obtain⟨⟨⟨⟨J,N⟩,U⟩,Y⟩,Z⟩:=A;exact⟨fun x C=>h.arcs x C (u x C),by have:=j.2;omega,h.lang (by omega) (by omega) B (by omega) (by omega),by omega,by omega⟩
theorem Nq(q:Rat):tS [fq q,fq q]=some (.b true):=by have h:GS (fq q)=some q:=BR q;simp only[tS,h,decide_true]
theorem Mi(hK:ag Tryz.prog 16 (ab (Rm [] (.b true)))):ag Tryz.prog 8 (ab (relV Z4)):=by
 obtain⟨E,M,hL⟩:=SL [(24,ab (relV Zf)),(25,ab (relV V5)),(16,ab (Rm [] (.b true))),(47,ab (relV Zz)),(48,ab (relV Gf)),(26,ab kS),(45,ab (relV Za)),(22,ab tS)] ⟨Mj,Uy,hK,Hc,QJ,xR,Hb,E3⟩ rfl;simp only[aAJ]at hL;obtain⟨c1,c2,c3,c4,c5,c6,c7,c8,_⟩:=hL;refine aE (by kernel_rfl) Tryz.func8 Tryz.ntmps8 rfl ?_;intro args x h0;obtain⟨T,l,L,p,ok,rfl,rfl⟩:=dR h0;clear h0;have Y:∀s,ab (Rm [] (.b true)) [] s=some (.b true,s):=aj rfl;have J:=XW (T:=T) ok.raw;have j:=CO ok;obtain⟨b1,f1⟩:=dV ok.raw.ha.1;obtain⟨b2,f2⟩:=dV ok.raw.ha.2;obtain⟨U,B,gs,k,am,mx⟩:=L;dsimp only at b1 b2 f1 f2;have a9:aq [.i .i64 T,.vw (ar l) l.length]=true:=rfl;have bd:aq [.i .i64 U,.i .i64 B,.vw (br gs) gs.length,.i .i64 k,.b am.neg,am.n,am.d,aP mx]=true:=by simp only[aq,bare,b1,b2];rfl
 refine⟨by show aq [AV.agg [.i .i64 T,.vw (ar l) l.length],AV.agg [.i .i64 U,.i .i64 B,.vw (br gs) gs.length,.i .i64 k,.b am.neg,am.n,am.d,aP mx],_]=true;simp only[aq,bare,b1,b2];rfl,rfl,nE rfl,?_⟩;obtain⟨b,hb⟩:∃b,(mz T l&&o5 ⟨U,B,gs,k,am,mx⟩)=b:=⟨_,rfl⟩;rw[hb]at J j;rw[dZ,St.of_nil];unfold dk LG.cells at *;dsimp only at *;refine rg M (ax @f1 @f2) ?_;refine Jd.seq ?_;cases b with
 |false=>refine rg M (ax @f1 (ax @f2 (ax @c1 (ax @J @aBd)))) ?_;refine cT rfl ?_;refine rg M (ax @c3 @Y) ?_;exact Jd.retT (aw.one rfl rfl rfl)
 |true=>
 obtain⟨a2,bm,a1,ba,a4⟩:=j rfl;have C:∀x∈l,x.Ok:=fun x hx=>(a2 x hx).1;have A:=V1 (T:=T) (l:=l) (L:=⟨U,B,gs,k,am,mx⟩) ⟨C,by show l.length<=1000000;omega,a1,by simp⟩;have an:=KR (T:=T) (l:=l) (L:=⟨U,B,gs,k,am,mx⟩);obtain⟨r,hr⟩:∃r,AY T l ⟨U,B,gs,k,am,mx⟩ []=r:=⟨_,rfl⟩;rw[hr]at A an;unfold dk LG.cells at A;dsimp only at A;by_cases hz:r=0;rotate_left
 ·have e1:decide (r=0)=false:=iS hz;refine rg M (ax @f1 (ax @f2 (ax @c1 (ax @J (ax @c2 (ax @A (ax @e1 (ax @aBd @aBu)))))))) ?_;refine cT rfl ?_;refine rg M (ax @c3 @Y) ?_;exact Jd.retT (aw.one rfl rfl rfl)
 have e1:decide (r=0)=true:=lT hz;refine rg M (ax @f1 (ax @f2 (ax @c1 (ax @J (ax @c2 (ax @A (ax @e1 (ax @aBd @aBu)))))))) ?_;refine Jd.cnd rfl (fun _=>?_) (fun al=>?_)
 ·refine rg M (ax @c3 @Y) ?_;exact Jd.retT (aw.one rfl rfl rfl)
 have al:p.length<=12:=by have:=io al;omega
 have a7:=an.1 hz;have hS:Hj T l ⟨U,B,gs,k,am,mx⟩ false:=⟨C,a1,fun _=>by show B<=8;omega,by omega⟩;have u:=Yh (d:=⟨T,l,⟨U,B,gs,k,am,mx⟩,p⟩) ⟨hS,a7,fun x hx=>(a2 x hx).2,al⟩;unfold Mv Y5 dk LG.cells at u;dsimp only at u;have y:=aj (Oa (T:=T) C (by omega) (show p.length<=1000000 by omega));unfold dk at y;simp only[bp]at u y;refine Jd.skipT ?_;by_cases hp:cX l 0 p=some T
 ·rw[oR hp]at u;rw[lT hp]at y;obtain⟨bf,a3,Z⟩:=nQ a7;obtain⟨_,_,_,a0⟩:=rL bf;have a5:=A8 hp;have ad:∀w∈iR (aL l) p,0<=w/\w<=B:=fun w hw=>by obtain⟨z,hz,rfl⟩:=Ac.1 hw;have bn:=a5 z hz;obtain⟨x,hx⟩:∃x,l[z.toNat]?=some x:=⟨_,bY (by omega)⟩;have h1:=(a0 z.toNat (by rw[pF];omega)).1;have h2:=Z x (eQ hx);rw[fY hx]at h1⊢;unfold iJ at h1;have h1:=gT h1;exact⟨by omega,h2⟩
  obtain⟨n,v,sy,ho⟩:=yx.of (L:=⟨U,B,gs,k,am,mx⟩) (ws:=iR (aL l) p) a1 a3 ba a4 (by simp[iR];omega) ad;have N:=XK (d:=⟨T,l,⟨U,B,gs,k,am,mx⟩,p⟩) ⟨C,by show l.length<=20000;omega,fun x hx=>(a2 x hx).2,a5,al,sy⟩;rw[<-Aw (by omega)]at N;unfold Mv dk LG.cells at N;dsimp only at N;simp only[bp]at N;obtain⟨q,hq⟩:∃q,lD (mM T.toNat l ⟨U,B,gs,k,am,mx⟩) (aL l) p=q:=⟨_,rfl⟩;rw[hq]at u N;have bj:=aj (Nq q);refine rg M (ax @f1 (ax @f2 (ax @c4 (ax @u @cY)))) ?_;refine Jd.seq ?_;refine rg M (ax @c5 (ax @y @aBu)) ?_;refine GU rfl ?_;clear J A u y j ad a0 Z an;refine tX 3 [0,1,2] [(8,.i .i64 0),(7,.ptr 2 0),(6,.b false),(4,.ptr 1 0),(3,.ptr 0 0),(2,bp p)] [(2,some (.cells (ai q) 31 false)),(1,some (.cells [.i .i64 U,.i .i64 B,.vw (br gs) gs.length,.i .i64 k,.b am.neg,am.n,am.d,aP mx] 34 false)),(0,some (.cells [.i .i64 T,.vw (ar l) l.length] 24 false))] bT (by repeat' first|exact aK|refine aF ?_ ?_|exact bA.same (fc_bare _)|exact bA.same bd|exact bA.same a9|exact dj) ?_;refine dr M [] (ax @f1 (ax @f2 (ax @ew (ax @c7 (ax @N (ax @c8 (ax @bj (ax @c3 (ax @Y @decide_true))))))))) ?_;exact Jd.ret (aw.one rfl rfl rfl)
 rw[iF hp]at u;rw[iS hp]at y;obtain⟨z0,av⟩:∃q:Rat,q=0:=⟨0,rfl⟩;have a6:=aj (vN (bu (q:=z0) (aO (by rw[av];exact jf 1 (by omega)) (by omega:1<=100000000))));rw[show ci z0=0 by rw[av];rfl]at a6;rw[<-av]at u;clear J A j an av;refine rg M (ax @f1 (ax @f2 (ax @c4 (ax @u @cY)))) ?_;refine Jd.seq ?_;refine rg M (ax @c5 (ax @y @aBd)) ?_;refine cT rfl ?_;refine rg M (ax @ew (ax @c6 (ax @a6 (ax @c3 (ax @Y @decide_true))))) ?_;exact Jd.retT (aw.one rfl rfl rfl)
section
section
variable {P:Program}{k:Nat}{t:TypeId}{xs:List AV}
theorem kJ.bool(hu:P.underlying t=some .bool)(h:kJ P k t xs):∃b,xs=[.b b]:=by
 cases k with
 |zero=>exact h.elim
 |succ k=>simpa only[kJ,hu,aAD]using h
theorem kJ.int{i:IntKind}(hu:P.underlying t=some (.int i))(h:kJ P k t xs):∃n,xs=[.i i n]/\(Lit.int i n).wf=true:=by
 cases k with
 |zero=>exact h.elim
 |succ k=>simpa only[kJ,hu,aAD]using h
theorem kJ.slB{e:TypeId}(hu:P.underlying t=some (.slice e))(h:kJ P k t xs):∃j:List (List AV),j.length<=maxLen/\(∀l∈j,l.length=P.cellsOf e/\kJ P (k-1) e l)/\xs=[.vw j.flatten j.length]:=by
 cases k with
 |zero=>exact h.elim
 |succ k=>simpa only[kJ,hu,aAD]using h
theorem kJ.sl{e:TypeId}(hu:P.underlying t=some (.slice e))(h:kJ P k t xs):∃j:List (List AV),(∀l∈j,l.length=P.cellsOf e/\kJ P (k-1) e l)/\xs=[.vw j.flatten j.length]:=let ⟨j,_,h1,h2⟩:=h.slB hu;⟨j,h1,h2⟩
theorem kJ.each{α:Type}{e:TypeId}{C:α->List AV}{Q:α->Prop}(hu:P.underlying t=some (.slice e))(h:kJ P k t xs)(U:∀l,kJ P (k-1) e l->∃x,l=C x/\Q x):∃l:List α,xs=[.vw (l.flatMap C) l.length]/\(∀x∈l,Q x)/\l.length<=maxLen:=by
 obtain⟨j,Y,N,rfl⟩:=h.slB hu
 suffices hs:∃l:List α,l.length=j.length/\l.flatMap C=j.flatten/\∀x∈l,Q x by obtain⟨l,u,A,B⟩:=hs;exact⟨l,by rw[u,A],B,by omega⟩
 clear h Y
 induction j with
 |nil=>exact⟨[],rfl,rfl,fun n hn=>by cases hn⟩
 |cons x j ih=>
  obtain⟨l,u,A,B⟩:=ih fun y hy=>N y (tK _ hy);obtain⟨y,rfl,hy⟩:=U x (N x Do).2;refine⟨y::l,by simp[u],by rw[aDZ,aAH,A],fun z J=>?_⟩;rcases Is.1 J with rfl|J
  ·exact hy
  exact B z J
theorem kJ.str{j:Array Field}(hu:P.underlying t=some (.struct j))(h:kJ P k t xs):UK (kJ P (k-1)) P.cellsOf j.toList xs:=by
 cases k with
 |zero=>exact h.elim
 |succ k=>simpa only[kJ,hu,aAD]using h
theorem kJ.i64(hu:P.underlying t=some (.int .i64))(h:kJ P k t xs):∃n,xs=[.i .i64 n]/\-9223372036854775808<=n/\n<=9223372036854775807:=by obtain⟨n,j,u⟩:=h.int hu;simp[Lit.wf,IntKind.min,IntKind.max,IntKind.signed,IntKind.bits]at u;exact⟨n,j,by omega,by omega⟩
end
def kP(x:AV):Prop:=∃l:List Nat,Ok l/\x=.vw (l.map fun d:Nat=>AV.i .u32 (d:Int)) l.length
theorem kP.x{x:AV}(h:kP x):pJ x=true:=by obtain⟨l,_,rfl⟩:=h;simp only[pJ];exact hZ (fun _=>rfl) l
theorem LZ{l:List Nat}(h:Ok l):pW (l.map fun d:Nat=>AV.i .u32 (d:Int))=some l:=by
 induction l with
 |nil=>rfl
 |cons d l ih=>
  have j:Nat.blt d 4294967296=true:=by rw[ON];exact h d Do
  show cond (Nat.blt d 4294967296) ((pW (l.map fun d:Nat=>AV.i .u32 (d:Int))).map (d::·)) none=_;rw[j,ih fun e he=>h e (tK _ he)];rfl
theorem kP.nat{x:AV}(h:kP x){m:Nat}(hm:iH x<=m)(u:m<=17592186044416):∃n,yk x=some n/\n<2^(32*m):=by
 obtain⟨l,j,rfl⟩:=h;have hl:l.length<=m:=hm;refine⟨val l,?_,?_⟩
 ·simp only[yk,PZ,LZ j];rw[show(Nat.beq l.length l.length&&Nat.ble l.length 17592186044416)=true by simp;omega];rfl
 refine TK (gj l j) ?_;rw[show(4294967296:Nat)=2^32 from rfl,<-aDq];exact OK (by omega) (by omega)
theorem kP.rat{n d:AV}(hn:kP n)(hd:kP d){m:Nat}(y:iH n<=m)(A:iH d<=m)(B:0<m)(hm:32*m<=iY)(neg:Bool):∃a b,yk n=some a/\yk d=some b/\a<2^(32*m)/\b<2^(32*m)/\n5 (.agg [.b neg,n,d])=some (neg,a,b)/\fg (.agg [.b neg,n,d])=some (cA neg a b):=by
 have j:m<=17592186044416:=by unfold iY at hm;omega
 obtain⟨a,ha,x⟩:=hn.nat y j;obtain⟨b,u,lb⟩:=hd.nat A j;have hs:sF a b=true:=by unfold sF;rw[aAv];have:=log2_lt x (by omega);have:=log2_lt lb (by omega);omega
 have hp:n5 (.agg [.b neg,n,d])=some (neg,a,b):=by simp only[n5,ha,u,hs,EQ]
 exact⟨a,b,ha,u,x,lb,hp,by simp only[fg,hp,AC]⟩
theorem CW{k:Nat}{xs:List AV}(h:kJ Tryz.prog k 29 xs):∃x,xs=[x]/\kP x:=by
 obtain⟨j,C,rfl⟩:=h.sl Tryz.underlying29;refine⟨_,rfl,?_⟩
 suffices hs:∃l:List Nat,l.length=j.length/\Ok l/\(l.map fun d:Nat=>AV.i .u32 (d:Int))=j.flatten by obtain⟨l,u,A,B⟩:=hs;exact⟨l,A,by rw[u,B]⟩
 clear h
 induction j with
 |nil=>exact⟨[],rfl,fun d hd=>(by cases hd),rfl⟩
 |cons x j ih=>
  obtain⟨l,u,A,B⟩:=ih fun y hy=>C y (tK _ hy);obtain⟨n,rfl,J⟩:=(C x Do).2.int Tryz.underlying178;simp[Lit.wf,IntKind.min,IntKind.max,IntKind.signed,IntKind.bits]at J;obtain⟨d,rfl⟩:∃d:Nat,n=d:=⟨n.toNat,by omega⟩;refine⟨d::l,by simp[u],fun e he=>?_,by rw[aDZ,<-B];rfl⟩;rcases Is.1 he with rfl|he
  ·omega
  exact A e he
theorem CV{k:Nat}{xs:List AV}(h:kJ Tryz.prog k 31 xs):∃neg n d,xs=[.b neg,n,d]/\kP n/\kP d:=by obtain⟨a,_,rfl,_,j,b,_,rfl,_,u,c,_,rfl,_,x,rfl⟩:=h.str Tryz.underlying31;obtain⟨neg,rfl⟩:=j.bool Tryz.underlying4;obtain⟨n,rfl,y⟩:=CW u;obtain⟨d,rfl,A⟩:=CW x;exact⟨neg,n,d,rfl,y,A⟩
end
def RF.DO(x:RF):Prop:=kP x.n/\kP x.d
theorem Nj{k:Nat}{xs:List AV}(h:kJ Tryz.prog k 31 xs):∃x:RF,xs=rC x/\x.DO:=by obtain⟨neg,n,d,rfl,j,u⟩:=CV h;exact⟨⟨neg,n,d⟩,rfl,j,u⟩
def YP(r:List RF):Prop:=(∀x∈r,x.DO)/\r.length<=maxLen
theorem RT{k:Nat}{xs:List AV}(h:kJ Tryz.prog k 32 xs):∃r:List RF,xs=[aP r]/\YP r:=by obtain⟨r,j,u,x⟩:=h.each Tryz.underlying32 (fun l hl=>Nj hl);exact⟨r,j,u,x⟩
theorem AK{k:Nat}{xs:List AV}(h:kJ Tryz.prog k 3 xs):∃n:Int,xs=[.i .i64 n]/\-9223372036854775808<=n/\n<=9223372036854775807:=h.i64 Tryz.underlying3
theorem CU{k:Nat}{xs:List AV}(h:kJ Tryz.prog k 51 xs):∃l:List Int,xs=[.vw (is l) l.length]/\l.length<=maxLen:=by obtain⟨r,j,y,u⟩:=h.each (C:=fun x:Int=>[AV.i .i64 x]) Tryz.underlying51 (fun l hl=>AK hl);exact⟨r,by rw[j,od];rfl,u⟩
theorem Nk{k:Nat}{xs:List AV}(h:kJ Tryz.prog k 123 xs):∃g:Gr,xs=Pz g/\True:=by obtain⟨a,_,rfl,_,j,b,_,rfl,_,u,rfl⟩:=h.str Tryz.underlying123;obtain⟨l,rfl,x⟩:=CU j;obtain⟨n,rfl,_⟩:=AK u;exact⟨(l,n),rfl,trivial⟩
def LG.DO(L:LG):Prop:=L.am.DO/\YP L.mix
theorem AJ{k:Nat}{xs:List AV}(h:kJ Tryz.prog k 34 xs):∃L:LG,xs=L.cells/\L.DO:=by obtain⟨a,_,rfl,_,A,b,_,rfl,_,B,c,_,rfl,_,C,d,_,rfl,_,J,rfl⟩:=h.str Tryz.underlying34;obtain⟨a,_,rfl,_,N,b,_,rfl,_,U,Z,_,rfl,_,Y,rfl⟩:=A.str Tryz.underlying27;obtain⟨O,rfl,_⟩:=AK N;obtain⟨V,rfl,_⟩:=AK U;obtain⟨gs,rfl,_,_⟩:=Y.each Tryz.underlying25 (fun l hl=>Nk hl);obtain⟨j,rfl,_⟩:=B.i64 Tryz.underlying28;obtain⟨x,rfl,u⟩:=Nj C;obtain⟨mx,rfl,y⟩:=RT J;exact⟨⟨O,V,gs,j,x,mx⟩,rfl,u,y⟩
theorem RU{k:Nat}{xs:List AV}(h:kJ Tryz.prog k 45 xs):∃x:aW,xs=aC x/\kP x.n/\kP x.d/\(fQ x=true->x.Ok):=by
 obtain⟨a,_,rfl,_,y,b,_,rfl,_,A,c,_,rfl,_,B,d,_,rfl,_,C,e,_,rfl,_,J,rfl⟩:=h.str Tryz.underlying45;obtain⟨f,rfl,_⟩:=y.i64 Tryz.underlying3;obtain⟨t,rfl,_⟩:=A.i64 Tryz.underlying3;obtain⟨w,rfl,_⟩:=B.i64 Tryz.underlying3;obtain⟨v,rfl,_⟩:=C.i64 Tryz.underlying3;obtain⟨neg,n,d,rfl,j,u⟩:=CV J;by_cases hs:iH n<=2/\iH d<=2
 ·obtain⟨p,q,_,_,_,_,_,N⟩:=j.rat u hs.1 hs.2 (by omega) (by unfold iY;omega) neg;exact⟨⟨⟨f,t,w,v,cA neg p q⟩,neg,n,d⟩,rfl,j,u,fun _=>⟨N,(dV j.x).1,(dV u.x).1,(dV j.x).2,(dV u.x).2⟩⟩
 refine⟨⟨⟨f,t,w,v,0⟩,neg,n,d⟩,rfl,j,u,fun h=>absurd ?_ hs⟩;simp only[fQ,gE,IS]at h;exact h
theorem CT{k:Nat}{xs:List AV}(h:kJ Tryz.prog k 24 xs):∃(T:Int)(l:List aW),.agg xs=dk T l/\(∀x∈l,kP x.n/\kP x.d)/\(∀x∈l,fQ x=true->x.Ok)/\-9223372036854775808<=T/\T<=9223372036854775807:=by
 obtain⟨a,_,rfl,_,Z,b,_,rfl,hq,U,rfl⟩:=h.str Tryz.underlying24;obtain⟨T,rfl,hT⟩:=Z.i64 Tryz.underlying3;obtain⟨u,Y,rfl⟩:=U.sl Tryz.underlying22
 suffices hs:∃l:List aW,l.length=u.length/\ar l=u.flatten/\(∀x∈l,kP x.n/\kP x.d)/\∀x∈l,fQ x=true->x.Ok by obtain⟨l,A,B,C,J⟩:=hs;refine⟨T,l,?_,C,J,hT⟩;unfold dk;rw[A,B];rfl
 clear h U hq
 induction u with
 |nil=>exact⟨[],rfl,rfl,fun x N=>(by cases N),fun x N=>(by cases N)⟩
 |cons x u ih=>
  obtain⟨l,A,B,C,J⟩:=ih fun y hy=>Y y (tK _ hy);obtain⟨y,rfl,k1,k2,k3⟩:=RU (Y x Do).2;refine⟨y::l,by simp[A],by rw[aDZ,<-B];rfl,fun z j=>?_,fun z j=>?_⟩
  ·rcases Is.1 j with rfl|j
   ·exact⟨k1,k2⟩
   exact C z j
  rcases Is.1 j with rfl|j
  ·exact k3
  exact J z j
theorem zO{n d:AV}(hn:kP n)(hd:kP d)(u:iH n<=2)(x:iH d<=2)(neg:Bool):∃q,kg (.agg [.b neg,n,d])=some q/\fg (.agg [.b neg,n,d])=some q:=by obtain⟨a,b,_,_,A,lb,j,y⟩:=hn.rat hd u x (by omega) (by unfold iY;omega) neg;refine⟨cA neg a b,?_,y⟩;unfold kg;rw[j];simp only[CC];rw[dz (show a<2^64 by omega),dz (show b<2^64 by omega)];rfl
theorem RF.DO.ok2{x:RF}(h:x.DO)(j:iH x.n<=2)(u:iH x.d<=2):x.Ok:=by obtain⟨q,y,_⟩:=zO h.1 h.2 j u x.neg;have A:kg (.agg (rC x))=some q:=y;exact⟨by unfold RF.q;rw[A];rfl,(dV h.1.x).1,(dV h.2.x).1,(dV h.1.x).2,(dV h.2.x).2⟩
theorem XL{T:Int}{l:List aW}{L:LG}(u:∀x∈l,kP x.n/\kP x.d)(y:∀x∈l,fQ x=true->x.Ok)(hL:L.DO):Xc T l L:=by
 refine⟨⟨fun x j=>⟨(u x j).1.x,(u x j).2.x⟩,⟨hL.1.1.x,hL.1.2.x⟩,fun x j=>⟨(hL.2.1 x j).1.x,(hL.2.1 x j).2.x⟩⟩,fun x j hs=>?_,fun h1 h2 h3 h4 h5=>?_⟩
 ·have ok:=y x j hs;simp only[fQ,gE,IS]at hs;obtain⟨q,A,B⟩:=zO (u x j).1 (u x j).2 hs.1 hs.2 x.neg;have e:q=x.a.q:=TO (B.symm.trans ok.1);exact⟨ok,by rw[<-e];exact wk A⟩
 refine⟨hL.1.ok2 (by omega) (by omega),⟨fun x j=>?_,by omega⟩,by omega⟩;have:=h3 x j;simp only[jC,gE,IS]at this;exact(hL.2.1 x j).ok2 (by omega) (by omega)
end Go.Proofs.YtfoceannfdbinaaGreat
