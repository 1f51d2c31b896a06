/- Lemmas. -/
import Derived.Test.YtfoceannfdbinaaGreatW40
set_option linter.all false
set_option maxRecDepth 1000000
set_option maxHeartbeats 32000000
namespace Go.Proofs.YtfoceannfdbinaaGreat
open Go.RowKit
def da(ps qs:List Rat)(i:Nat):List Rat:=qs.take i++ps.drop i
theorem fC{ps qs}(h:ps.length=qs.length){i}(hi:i<=qs.length):(da ps qs i).length=qs.length:=by simp[da];omega
theorem f7 ps qs:da ps qs 0=ps:=by simp[da]
theorem lZ{ps qs}(h:ps.length=qs.length):da ps qs qs.length=qs:=by simp[da,h]
theorem uQ{ps qs}(h:ps.length=qs.length){i}(hi:i<qs.length):(da ps qs i)[i]?=ps[i]?:=by unfold da;rw[aAd (by rw[Io];omega),Io,aAO (by omega),aAS,aBo,aAh]
theorem jY{ps qs}(h:ps.length=qs.length){i q}(j:qs[i]?=some q):(da ps qs i).set i q=da ps qs (i+1):=by have hi:i<qs.length:=(dO.1 j).1;unfold da;rw[aCc _ _ (by simp;omega),Io,aAO (by omega),aAS,AT (by omega),List.set_cons_zero,aAX,j];simp
theorem Jm(N:Nat):Yd (.i .i64 1) (.i .i64 (N:Int))=some (.i .i64 ((min 1 N:Nat):Int)):=by
 have:cond (decide ((N:Int)<1)) (N:Int) 1=((min 1 N:Nat):Int):=by
  by_cases h:(N:Int)<1
  ·rw[lT h];show(N:Int)=_;omega
  rw[iS h];show(1:Int)=_;omega
 show some (AV.i .i64 (cond (decide ((N:Int)<1)) (N:Int) 1))=_;rw[this]
theorem Ew{h N}(hN:h.length=N):(is h).drop (min 1 N)=is (h.drop 1)/\N-min 1 N=N-1/\Nat.ble (min 1 N) N=true:=by
 refine⟨?_,by omega,aX (by omega)⟩;unfold is;rw[aCl];by_cases e:N=0
 ·subst e;rw[oF hN];rfl
 rw[aAO (by omega)]
theorem Zd:Mo 51 3 1:=Mr
theorem Fy:Fa 281 2 [.snil,.i .i64 0]/\Fm 281 0 0 2:=⟨Ff,GP⟩
def Xt(O V:Nat)(gs:List Gr)(d:Nat×cO):List AV:=[.agg (mP O V gs),.i .i64 d.1,.vw (is d.2) d.2.length]
theorem RD O V gs x y(h:Xt O V gs x=Xt O V gs y):x=y:=by obtain⟨b,c⟩:=x;obtain⟨b',c'⟩:=y;simp only[Xt,rW,AV.vw.injEq,AV.i.injEq,and_true,true_and]at h;rw[show b=b' by omega,eu h.2.1]
structure uy(O V n:Nat)(h:cO):Prop where
 nO:n<=O
 hh:ck (n-1) V h
theorem uy.low{O V n h}(hl:uy O V (n+1) h):uy O V n (h.drop 1):=by have j:h.length=n:=hl.hh.1;exact⟨by have:=hl.nO;omega,by rw[Rw,j],fun x u=>hl.hh.2 x (aBa u)⟩
theorem xP{f g}(h:∀a qs,g a=some qs->False):ag Tryz.prog f (fS g):=by intro args s v s' j;unfold fS at j;rw[iN]at j;obtain⟨qs,u,_⟩:=j;exact(h _ _ u).elim
noncomputable def typedF(O V:Nat)(gs:List Gr)(k:Nat):=ofG (Xt O V gs) (fun d=>d.1<k/\uy O V d.1 d.2) fun d=>gm (aU O gs) V d.1 d.2
theorem Cx{O V}gs{k n h}(j:n<k)(u:uy O V n h)s:fS (typedF O V gs k) [.agg [.vw (kL O V gs) (O+1),.i .i64 ((V+1:Nat):Int)],.i .i64 n,.vw (is h) h.length] s=some (.sl s.nx 0 (V+1) (V+1),s.new (.cells (fr (gm (aU O gs) V n h)) 31 false)):=qY (rp (enc:=Xt O V gs) (Ok:=fun d=>d.1<k/\uy O V d.1 d.2) (f:=fun d=>gm (aU O gs) V d.1 d.2) (d:=(n,h)) (RD O V gs) ⟨j,u⟩) (gz _ _ _ _) s
theorem QC{O V gs}(ok:ic O V gs):∀k,ag Tryz.prog 255 (fS (typedF O V gs k)):=by
 intro k
 induction k with
 |zero=>exact xP fun a qs hg=>by obtain⟨_,⟨h,_⟩,_⟩:=kj hg;exact absurd h (aBy _)
 |succ k ih=>
 obtain⟨E,M,c1,c2,c3,c4,c5,c6,c7⟩:∃E,Mc Tryz.prog (fK [(251,ab (seenV O V gs)),(88,ab yi),(89,ab (cK (·*·))),(82,ab (cK (·+·))),(254,ab AF),(249,fS (flatF O V gs)),(255,fS (typedF O V gs k))]) E/\(∀a s,E.call 251 a s=ab (seenV O V gs) a s)/\(∀a s,E.call 88 a s=ab yi a s)/\(∀a s,E.call 89 a s=ab (cK (·*·)) a s)/\(∀a s,E.call 82 a s=ab (cK (·+·)) a s)/\(∀a s,E.call 254 a s=ab AF a s)/\(∀a s,E.call 249 a s=fS (flatF O V gs) a s)/\(∀a s,E.call 255 a s=fS (typedF O V gs k) a s):= ⟨_,DF l0 oc (by simp only[aAJ];exact⟨uZ ok,Ab,qF,xV,xS,Cd O V gs,ih,fun p hp=>by cases hp⟩),fun _ _=>rfl,fun _ _=>rfl,fun _ _=>rfl,fun _ _=>rfl,fun _ _=>rfl,fun _ _=>rfl,fun _ _=>rfl⟩;refine jA (by kernel_rfl) Tryz.func255 Tryz.ntmps255 rfl ?_;intro args qs h0;obtain⟨⟨n,h⟩,⟨an,Y⟩,rfl,y⟩:=kj h0;clear h0;have an:n<k+1:=an;have Y:uy O V n h:=Y;have y:qs=gm (aU O gs) V n h:=y;have v8:=ok.v8;have hl:qs.length=V+1:=by rw[y];exact gz _ _ _ _
 refine⟨rfl,nE rfl,?_⟩;unfold Xt;dsimp only;obtain⟨N,hN⟩:∃N,h.length=N:=⟨_,rfl⟩;rw[hl,hN,dZ,St.of_nil];unfold mP;refine aN M ?_;refine zX 0 0 (mP O V gs) [] [(3,.vp (mP O V gs) 0),(2,.vw (is h) N),(1,.i .i64 (n:Int))] [] ?_ (by repeat' first|exact bK|refine aM ?_ ?_|exact Wk.frz_ptr|exact eU) aK ?_
 ·rfl
 unfold mP;refine Jd.seq ?_;refine aN M ?_;refine Jd.cnd rfl (fun A=>?_) (fun A=>?_)
 ·obtain rfl:n=0:=by have:=gT A;omega
  have hf:=Bz gs v8 (O:=O);unfold mP at hf;refine rg M (ax @Fy (ax @cJ (ax @c6 @hf))) ?_;exact Jd.retT (aw.one rfl rfl ⟨rfl,by rw[y,St.of_get];rfl⟩)
 obtain⟨n,rfl⟩:∃m,n=m+1:=⟨n-1,by have:=io A;omega⟩;refine Jd.skipT ?_;have u:=Cx gs (k:=k) (by omega) Y.low;have b3:N=n:=by rw[<-hN];exact Y.hh.1
 obtain⟨d1,d2,d3⟩:=Ew hN;rw[Rw,hN]at u;have am:=Jm N;obtain⟨ps,U⟩:∃ps,gm (aU O gs) V n (h.drop 1)=ps:=⟨_,rfl⟩;rw[U]at u;obtain⟨M1,a1⟩:∃m,min 1 N=m:=⟨_,rfl⟩;rw[a1]at d1 d2 d3 am;have bj:((n+1:Nat):Int)-1=(n:Int):=by omega
 have b1:IntKind.i64.wrap (n:Int)=n:=aAw _ (by have:=Y.nO;have:=ok.o4;omega);refine dr M [] (ax @Fy (ax @cJ (ax @Zd (ax @Vx (ax @Ov (ax @b1 (ax @am (ax @d1 (ax @d2 (ax @d3 (ax @bj (ax @c7 (ax @u @iO))))))))))))) ?_;have hs:=uG gs (n:=n+1) (by omega) Y.nO Y.hh ((V+1:Nat):Int);rw[hN]at hs;have hm:gw (aU O gs (n+1) h):=ok.mild (O-(n+1)) h;have j:qs=if aZ (aU O gs (n+1) h) V=0 then ps else(List.range (V+1)).map fun x=>Az (aU O gs (n+1) h) V (ps.getD x 0) x:=by rw[y,<-U];rfl
 have bB:∀q∈ps,QB 4392300 q:=fun q hq=>by rw[<-U]at hq;exact(oV (fun n h=>ok.mild (O-n) h) v8 n (h.drop 1) q hq).mono (z8 (by have:=Y.nO;have:=ok.o4;omega))
 have b0:ps.length=V+1:=by rw[<-U];exact gz _ _ _ _
 clear y u U;generalize aU O gs (n+1) h=C at *;have b5:=gJ hm V;have b4:=i4 C V;refine rg M (ax @Fy (ax @cJ (ax @c1 @hs))) ?_;refine Jd.seq ?_;refine aN M ?_;refine Jd.cnd rfl (fun A=>?_) (fun A=>?_)
 ·have h0:aZ C V=0:=gT A;rw[oR h0]at j;subst j;refine aN M ?_;exact Jd.retT (aw.one rfl rfl ⟨rfl,by rw[St.of_get];rfl⟩)
 have h0:aZ C V≠0:=io A;rw[iF h0]at j;have B:ps.length=qs.length:=by rw[b0,hl]
 refine Jd.skipT ?_;refine Jd.seq ?_;refine aN M ?_;refine Jd.loopB (fun k g s=>∃i:Nat,i+k=V+1/\g=⟨255,65,Tr.of [(39,.i .i64 (i:Int)),(38,.i .i64 ((V+1:Nat):Int)),(37,.sl 0 0 (V+1) (V+1)),(9,.i .i64 (aZ C V)),(8,eY C V),(7,.sl 0 0 (V+1) (V+1))],none,[]⟩/\s=St.of [(0,some (.cells (fr (da ps qs (i))) 31 false))] 1) (V+1) ?_ ?_
 ·exact⟨_,_,(d9 1 [0] [(39,.i .i64 ((0:Nat):Int)),(38,.i .i64 ((V+1:Nat):Int)),(37,.sl 0 0 (V+1) (V+1)),(9,.i .i64 (aZ C V)),(8,eY C V),(7,.sl 0 0 (V+1) (V+1))] [(0,some (.cells (fr (da ps qs (0))) 31 false))] (by repeat' first|exact bK|refine aM ?_ ?_|exact Wk.bare (cw _ _)|exact(by rw[f7];exact bA.same (aJ _))|exact eU) (by repeat' first|exact aK|refine aF ?_ ?_|exact(by rw[f7];exact bA.same (aJ _))|exact dj)),0,by omega,rfl,rfl⟩
 rintro k' _ _ ⟨i,hi,rfl,rfl⟩ Q1 hex b2 a5;refine aN M ?_;refine Jd.seq (Jd.cnd rfl (fun A=>?_) (fun A=>?_));rotate_left
 ·refine Jd.exitT (hex _ _ ?_);show Jb _ _ _ _ _ _;obtain rfl:i=V+1:=by have:=io A;omega
  rw[<-hl,lZ B,hl];refine aN M ?_;exact Jd.ret (aw.one rfl rfl ⟨rfl,by rw[St.of_get];rfl⟩)
 have a9:i<V+1:=by have:=gT A;omega
 have av:=hm (i:Int);have ad:QB 64 ((C (i:Int):Int):Rat):=eS (by omega) (by omega);have Z:QB 64 (((bw C V:Nat):Int):Rat):=eS (by omega) (by omega);have a2:QB 64 ((aZ C V+((bw C V:Nat):Int):Int):Rat):=eS (by omega) (by omega);obtain⟨p,hp⟩:∃p,ps[i]?=some p:=⟨_,bY (by omega)⟩;have J:=bB p (eQ hp);have a0:((aZ C V+((bw C V:Nat):Int):Int):Rat)≠0:=by exact_mod_cast (by omega:aZ C V+((bw C V:Nat):Int)≠0)
 have a6:ps.getD i 0=p:=by rw[eM,hp];rfl
 have hq:qs[i]?=some ((((C (i:Int):Int):Rat)+(((bw C V:Nat):Int):Rat)*p)/((aZ C V+((bw C V:Nat):Int):Int):Rat)):=by rw[j,mT,MT a9,AC,a6];rfl
 have bd:=pq (C:=C) (fun x=>(hm x).1) v8 (x:=(i:Int)) (by omega) (by omega);have bm:=Fh (z:=C (i:Int)) av.1 (by omega);have bn:=Fh (z:=((bw C V:Nat):Int)) (by omega) (by omega);have bo:=Fh (z:=aZ C V+((bw C V:Nat):Int)) (by omega) (by omega);have bf:=aj (fM (·*·) (aO Z (by omega)) (aO J (by omega)));have a3:=aj (fM (·+·) (aO ad (by omega)) (aO (Z.mul J) (by omega)));have bx:=rj (aO (ad.add (Z.mul J)) (by omega)) (aO a2 (by omega)) a0;have a7:=i6 ((uQ B (by omega)).trans hp);refine Jd.skipT ?_;refine Jd.seq (Jd.block ?_);clear hex;have eF:=gp (qs:=da ps qs i) (i:=i) (by rw[fC B (by omega)];omega) ((((C (i:Int):Int):Rat)+(((bw C V:Nat):Int):Rat)*p)/((aZ C V+((bw C V:Nat):Int):Int):Rat));rw[jY B hq]at eF;have a4:(fr (da ps qs i)).length=(V+1)*3:=by rw[iv,fC B (by omega),hl]
 have ba:=DW (V:=V) hm;refine rg M (ax @a7 (ax @cY @iO)) ?_;apply Jd.drwQ M [] (by kernel_rfl);(· intro K gl al hK;simp only[sv]at al;subst al;simp (maxSteps:=1000000) (disch:=omega) only[↓nD,↓nC,nB,Nat.reduceEqDiff,↓reduceIte,Nat.reduceLT,Nat.reduceAdd,iT,Cc,NE,NO,iO, Gq,ba,zf,wH,bd,c2,c3,c4,c5,bm,bn,bo,bf,a3,bx,eF,a4,ew,iO];exact hK)
 refine bW.norm ?_;show Jb _ _ _ _ _ _;refine f6 M ?_;refine a5 _ _ ⟨k'-1,_,_,by omega,(d9 1 [0] [(39,.i .i64 ((i+1:Nat):Int)),(38,.i .i64 ((V+1:Nat):Int)),(37,.sl 0 0 (V+1) (V+1)),(9,.i .i64 (aZ C V)),(8,eY C V),(7,.sl 0 0 (V+1) (V+1))] [(0,some (.cells (fr (da ps qs (i+1))) 31 false))] (by repeat' first|exact bK|refine aM ?_ ?_|exact Wk.bare (cw _ _)|exact eU) (by repeat' first|exact aK|refine aF ?_ ?_|exact bA.same (aJ _)|exact dj)),i+1,by omega,rfl,rfl⟩
theorem qf:Fa 279 5 [.snil,.i .i64 0,.b false,.snil,.snil]/\Fm 279 0 0 2/\Fm 279 1 2 3:=⟨Ff,GP,GP⟩
structure RF.Dm(x:RF):Prop extends x.Am where
 one:x.q<1
noncomputable def discF(O V:Nat)(gs:List Gr)(k:Nat):=ofG (QY O V gs) (fun d=>d.2.1<k/\d.1.Dm/\uy O V d.2.1 d.2.2) fun d=>gi (aU O gs) V d.1.q d.2.1 d.2.2
theorem JT{O V}gs{k n}{am:RF}{h}(j:n<k)(x:am.Dm)(u:uy O V n h)s:fS (discF O V gs k) [.agg [.vw (kL O V gs) (O+1),.i .i64 ((V+1:Nat):Int),.b am.neg,am.n,am.d],.i .i64 n,.vw (is h) h.length] s=some (.sl s.nx 0 (V+1) (V+1),s.new (.cells (fr (gi (aU O gs) V am.q n h)) 31 false)):=qY (rp (enc:=QY O V gs) (Ok:=fun d=>d.2.1<k/\d.1.Dm/\uy O V d.2.1 d.2.2) (f:=fun d=>gi (aU O gs) V d.1.q d.2.1 d.2.2) (d:=(am,n,h)) (Kh O V gs) ⟨j,x,u⟩) (d6 _ _ _ _ _) s
theorem Kc:ag Tryz.prog 94 (ab (cK (·-·))):=pD (by kernel_rfl) _ XU
theorem bA.zf1{H ρ}t op:bA H ρ (.cells [.b false,.snil,.snil] t op) (.cells (ai 0) t op):=bA.zfr 1 t op
theorem AR C ps j:dc C ps (j+1)=if C (j:Int)=0 then dc C ps j+ps.getD j 0 else dc C ps j:=rfl
theorem UH{O V gs}(ok:ic O V gs):∀k,ag Tryz.prog 253 (fS (discF O V gs k)):=by
 intro k
 induction k with
 |zero=>exact xP fun a qs hg=>by obtain⟨_,⟨h,_⟩,_⟩:=kj hg;exact absurd h (aBy _)
 |succ k ih=>
 obtain⟨E,M,hL⟩:=SL [(251,ab (seenV O V gs)),(88,ab yi),(89,ab (cK (·*·))),(82,ab (cK (·+·))),(254,ab AF),(249,fS (flatF O V gs)),(253,fS (discF O V gs k)),(94,ab (cK (·-·))),(252,ab sV)] ⟨uZ ok,Ab,qF,xV,xS,Cd O V gs,ih,Kc,xU⟩ rfl;simp only[aAJ]at hL;obtain⟨c1,c2,c3,c4,c5,c6,c7,c8,c9,_⟩:=hL;refine jA (by kernel_rfl) Tryz.func253 Tryz.ntmps253 rfl ?_;intro args qs h0;obtain⟨⟨am,n,h⟩,cy,rfl,J⟩:=kj h0;clear h0;obtain⟨ea,hA,hH⟩:n<k+1/\am.Dm/\uy O V n h:=cy;have J:qs=gi (aU O gs) V am.q n h:=J;have v8:=ok.v8;have hl:qs.length=V+1:=by rw[J];exact d6 _ _ _ _ _
 have b3:aq (gI O V gs am)=true:=by simp only[gI,aq,bare,hA.bn,hA.bd];rfl
 refine⟨by simp only[QY,aq,bare,b3];rfl,nE rfl,?_⟩;unfold QY;dsimp only;obtain⟨N,hN⟩:∃N,h.length=N:=⟨_,rfl⟩;rw[hl,hN,dZ,St.of_nil];unfold gI;refine rg M (ax @hA.fn @hA.fd) ?_;refine zX 0 0 (gI O V gs am) [] [(3,.vp (gI O V gs am) 0),(2,.vw (is h) N),(1,.i .i64 (n:Int))] [] ?_ (by repeat' first|exact bK|refine aM ?_ ?_|exact Wk.frz_ptr|exact eU) aK ?_
 ·exact b3
 unfold gI;refine Jd.seq ?_;refine aN M ?_;refine Jd.cnd rfl (fun A=>?_) (fun A=>?_)
 ·obtain rfl:n=0:=by have:=gT A;omega
  have hf:=Bz gs v8 (O:=O);unfold mP at hf;refine rg M (ax @qf (ax @cJ (ax @c6 @hf))) ?_;exact Jd.retT (aw.one rfl rfl ⟨rfl,by rw[J,St.of_get];rfl⟩)
 obtain⟨n,rfl⟩:∃m,n=m+1:=⟨n-1,by have:=io A;omega⟩;refine Jd.skipT ?_;have hs:=uG gs (n:=n+1) (by omega) hH.nO hH.hh ((V+1:Nat):Int);rw[hN]at hs;have hT:∀n h,gw (aU O gs n h):=fun n h=>ok.mild (O-n) h;have hm:=hT (n+1) h;have U:=JT gs (k:=k) (by omega) hA hH.low;have du:N=n:=by rw[<-hN];exact hH.hh.1
 obtain⟨d1,d2,d3⟩:=Ew hN;rw[Rw,hN]at U;have b5:=Jm N;obtain⟨a,ha⟩:∃a,am.q=a:=⟨_,rfl⟩;have a3:=hA.r;have al:=hA.qb;have b0:=hA.pos;have b1:=hA.one;rw[ha]at a3 al J U b0 b1;unfold rC at a3;obtain⟨ps,Z⟩:∃ps,gi (aU O gs) V a n (h.drop 1)=ps:=⟨_,rfl⟩;rw[Z]at U;obtain⟨M1,b9⟩:∃m,min 1 N=m:=⟨_,rfl⟩;rw[b9]at d1 d2 d3 b5;have cp:((n+1:Nat):Int)-1=(n:Int):=by omega
 have dm:IntKind.i64.wrap (n:Int)=n:=aAw _ (by have:=hH.nO;have:=ok.o4;omega);have u:qs=if bw (aU O gs (n+1) h) V=V+1 then jD (aU O gs (n+1) h) V else if aZ (aU O gs (n+1) h) V=0 then ps else(List.range (V+1)).map fun x=>oD (aU O gs (n+1) h) V a (dc (aU O gs (n+1) h) ps (V+1)) (ps.getD x 0) x:=by rw[J,<-Z];rfl
 have bm:∀q∈ps,QB 4392300 q:=fun q hq=>by rw[<-Z]at hq;exact(r7 hT v8 al n (h.drop 1) q hq).mono (z8 (by have:=hH.nO;have:=ok.o4;omega))
 have dd:∀q∈ps,0<q:=by rw[<-Z];exact zM hT b0 b1 n (h.drop 1)
 have db:ps.length=V+1:=by rw[<-Z];exact d6 _ _ _ _ _
 clear J Z hT;generalize aU O gs (n+1) h=C at *;have dh:=gJ hm V;have dv:=i4 C V;have b4:=DW (V:=V) hm;have cf:=l4 hm V;refine rg M (ax @qf (ax @cJ (ax @c1 @hs))) ?_;refine Jd.seq ?_;refine rg M (ax @qf (ax @cJ (ax @Gq @b4))) ?_;refine Jd.cnd rfl (fun A=>?_) (fun A=>?_)
 ·have a9:bw C V=V+1:=by have:=gT A;omega
  rw[oR a9]at u;have a5:0<aZ C V:=cf.2 (by omega);have a0:cL qs 0=List.replicate (V+1) 0:=by rw[dC,hl]
  refine rg M (ax @qf @cJ) ?_;refine Jd.seq ?_;refine aN M ?_;refine Jd.loopB (fun k g s=>∃i:Nat,i+k=V+1/\g=⟨253,130,Tr.of [(43,.i .i64 (i:Int)),(42,.i .i64 ((V+1:Nat):Int)),(9,.sl 0 0 (V+1) (V+1)),(8,.i .i64 (aZ C V)),(7,eY C V)],none,[]⟩/\s=St.of [(0,some (.cells (fr (cL qs (i))) 31 false))] 1) (V+1) ?_ ?_
  ·exact⟨_,_,(d9 1 [0] [(43,.i .i64 ((0:Nat):Int)),(42,.i .i64 ((V+1:Nat):Int)),(9,.sl 0 0 (V+1) (V+1)),(8,.i .i64 (aZ C V)),(7,eY C V)] [(0,some (.cells (fr (cL qs (0))) 31 false))] (by repeat' first|exact bK|refine aM ?_ ?_|exact Wk.bare (cw _ _)|exact(by rw[a0];exact bA.zfr _ _ _)|exact eU) (by repeat' first|exact aK|refine aF ?_ ?_|exact(by rw[a0];exact bA.zfr _ _ _)|exact dj)),0,by omega,rfl,rfl⟩
  rintro k' _ _ ⟨i,hi,rfl,rfl⟩ Q1 hex a2 B;refine aN M ?_;refine Jd.seq (Jd.cnd rfl (fun A=>?_) (fun A=>?_));rotate_left
  ·refine Jd.exitT (hex _ _ ?_);show Jb _ _ _ _ _ _;obtain rfl:i=V+1:=by have:=io A;omega
   rw[<-hl,jr,hl];refine aN M ?_;exact Jd.retT (aw.one rfl rfl ⟨rfl,by rw[St.of_get];rfl⟩)
  have a7:i<V+1:=by have:=gT A;omega
  have a4:=hm (i:Int);have hq:qs[i]?=some (((C (i:Int):Int):Rat)/((aZ C V:Int):Rat)):=by rw[u];unfold jD;rw[mT,MT a7];rfl
  have Y:=pq (C:=C) (fun x=>(hm x).1) v8 (x:=(i:Int)) (by omega) (by omega);have ch:=aj (sU (a:=C (i:Int)) (b:=aZ C V) a4.1 (by omega) a5 (by omega));refine Jd.skipT ?_;refine Jd.seq (Jd.block ?_);clear hex;have eF:=gp (qs:=cL qs i) (i:=i) (by rw[dx _ (by omega)];omega) (((C (i:Int):Int):Rat)/((aZ C V:Int):Rat));rw[g8 hq]at eF;have a6:(fr (cL qs i)).length=(V+1)*3:=by rw[iv,dx _ (by omega),hl]
  refine aN M ?_;refine rq M (ax @cJ (ax @Y (ax @c9 (ax @ch (ax @eF (ax @a6 @iO)))))) ?_;refine bW.norm ?_;show Jb _ _ _ _ _ _;refine f6 M ?_;refine B _ _ ⟨k'-1,_,_,by omega,(d9 1 [0] [(43,.i .i64 ((i+1:Nat):Int)),(42,.i .i64 ((V+1:Nat):Int)),(9,.sl 0 0 (V+1) (V+1)),(8,.i .i64 (aZ C V)),(7,eY C V)] [(0,some (.cells (fr (cL qs (i+1))) 31 false))] (by repeat' first|exact bK|refine aM ?_ ?_|exact Wk.bare (cw _ _)|exact eU) (by repeat' first|exact aK|refine aF ?_ ?_|exact bA.same (aJ _)|exact dj)),i+1,by omega,rfl,rfl⟩
 have a9:bw C V≠V+1:=by have:=io A;omega
 refine Jd.skipT ?_;refine dr M [] (ax @qf (ax @cJ (ax @Zd (ax @Vx (ax @Ov (ax @dm (ax @b5 (ax @d1 (ax @d2 (ax @d3 (ax @cp (ax @c7 (ax @U @iO))))))))))))) ?_;rw[iF a9]at u;refine Jd.seq ?_;refine aN M ?_;refine Jd.cnd rfl (fun A=>?_) (fun A=>?_)
 ·have h0:aZ C V=0:=gT A;rw[oR h0]at u;subst u;refine aN M ?_;exact Jd.retT (aw.one rfl rfl ⟨rfl,by rw[St.of_get];rfl⟩)
 have h0:aZ C V≠0:=io A;rw[iF h0]at u;refine Jd.skipT ?_;have a1:ps.length=qs.length:=by rw[db,hl]
 obtain⟨y,hy,dn⟩:=Fx a9;have ca:0<dc C ps (V+1):=sH dd (x:=y) (by omega) (by omega) dn;have bB:∀j,j<=V+1->QB 39530710 (dc C ps j):=fun j hj=>(wg C (by omega) bm j).mono (by have:j*4392301<=9*4392301:=Mt _ (by omega);omega);refine rg M @cY ?_;refine Jd.seq ?_;refine aN M ?_;refine Jd.loopB (fun k g s=>∃i:Nat,i+k=V+1/\g=⟨253,130,Tr.of [(74,.i .i64 (i:Int)),(73,.i .i64 ((V+1:Nat):Int)),(72,.sl 0 0 (V+1) (V+1)),(12,.ptr 1 0),(11,.sl 0 0 (V+1) (V+1)),(8,.i .i64 (aZ C V)),(7,eY C V),(3,.vp (gI O V gs am) 0)],none,[]⟩/\s=St.of [(1,some (.cells (ai (dc C ps (i))) 31 false)),(0,some (.cells (fr ps) 31 false))] 2) (V+1) ?_ ?_
 ·exact⟨_,_,(d9 2 [0,1] [(74,.i .i64 ((0:Nat):Int)),(73,.i .i64 ((V+1:Nat):Int)),(72,.sl 0 0 (V+1) (V+1)),(12,.ptr 1 0),(11,.sl 0 0 (V+1) (V+1)),(8,.i .i64 (aZ C V)),(7,eY C V),(3,.vp (gI O V gs am) 0)] [(1,some (.cells (ai (dc C ps (0))) 31 false)),(0,some (.cells (fr ps) 31 false))] (by repeat' first|exact bK|refine aM ?_ ?_|exact Wk.bare (cw _ _)|exact eU) (by repeat' first|exact aK|refine aF ?_ ?_|exact bA.same (aJ _)|exact bA.zf1 _ _|exact dj)),0,by omega,rfl,rfl⟩
 rintro k' _ _ ⟨i,hi,rfl,rfl⟩ Q1 hex a2 B;refine aN M ?_;refine Jd.seq (Jd.cnd rfl (fun A=>?_) (fun A=>?_));rotate_left
 ·refine Jd.exitT (hex _ _ ?_);show Jb _ _ _ _ _ _;obtain rfl:i=V+1:=by have:=io A;omega
  obtain⟨R,hR⟩:∃R,dc C ps (V+1)=R:=⟨_,rfl⟩;have bx:=bB _ (cC _);rw[hR]at ca u bx⊢;refine zX 1 1 (ai R) [0] [(12,.vp (ai R) 0),(11,.sl 0 0 (V+1) (V+1)),(8,.i .i64 (aZ C V)),(7,eY C V),(3,.vp (gI O V gs am) 0)] [(0,some (.cells (fr ps) 31 false))] ?_ (by repeat' first|exact bK|refine aM ?_ ?_|exact Wk.frz_ptr|exact Wk.bare (cw _ _)|exact eU) AL ?_
  ·rfl
  have bd:QB 64 (((bw C V:Nat):Int):Rat):=eS (by omega) (by omega);have bf:QB 64 ((aZ C V:Int):Rat):=eS (by omega) (by omega);have a5:((aZ C V:Int):Rat)≠0:=by exact_mod_cast h0
  have cu:=Fh (z:=((bw C V:Nat):Int)) (by omega) (by omega);have b7:=Fh (z:=aZ C V) dh.1 (by omega);have cm:=aj (df (·*·) a3 (bu (aO bd (by omega))));have b8:=rj (aO (al.mul bd) (by omega)) (aO bf (by omega)) a5;obtain⟨F,hF⟩:∃F,a*(((bw C V:Nat):Int):Rat)/((aZ C V:Int):Rat)=F:=⟨_,rfl⟩;have bo:QB 200 F:=by rw[<-hF];exact((al.mul bd).div bf (by omega)).mono (by omega)
  rw[hF]at b8;unfold gI;refine dr M [] (ax @qf (ax @Gq (ax @b4 (ax @zf (ax @c2 (ax @c3 (ax @c5 (ax @cu (ax @b7 (ax @cm (ax @b8 @cY))))))))))) ?_;refine zX 1 1 (ai F) [0] [(15,.vp (ai F) 0),(12,.vp (ai R) 0),(11,.sl 0 0 (V+1) (V+1)),(8,.i .i64 (aZ C V)),(7,eY C V),(3,.vp (gI O V gs am) 0)] [(0,some (.cells (fr ps) 31 false))] ?_ (by repeat' first|exact bK|refine aM ?_ ?_|exact Wk.frz_ptr|exact Wk.bare (cw _ _)|exact eU) AL ?_
  ·rfl
  refine Jd.seq ?_;refine aN M ?_;have a0:da ps qs 0=ps:=f7 _ _;clear hex a2 B;refine Jd.loopB (fun k g s=>∃i:Nat,i+k=V+1/\g=⟨253,130,Tr.of [(98,.i .i64 (i:Int)),(97,.i .i64 ((V+1:Nat):Int)),(96,.sl 0 0 (V+1) (V+1)),(15,.vp (ai F) 0),(12,.vp (ai R) 0),(11,.sl 0 0 (V+1) (V+1)),(8,.i .i64 (aZ C V)),(7,eY C V),(3,.vp (gI O V gs am) 0)],none,[]⟩/\s=St.of [(0,some (.cells (fr (da ps qs (i))) 31 false))] 1) (V+1) ?_ ?_
  ·exact⟨_,_,(d9 1 [0] [(98,.i .i64 ((0:Nat):Int)),(97,.i .i64 ((V+1:Nat):Int)),(96,.sl 0 0 (V+1) (V+1)),(15,.vp (ai F) 0),(12,.vp (ai R) 0),(11,.sl 0 0 (V+1) (V+1)),(8,.i .i64 (aZ C V)),(7,eY C V),(3,.vp (gI O V gs am) 0)] [(0,some (.cells (fr (da ps qs (0))) 31 false))] (by repeat' first|exact bK|refine aM ?_ ?_|exact Wk.bare (cw _ _)|exact(by rw[a0];exact bA.same (aJ _))|exact eU) (by repeat' first|exact aK|refine aF ?_ ?_|exact(by rw[a0];exact bA.same (aJ _))|exact dj)),0,by omega,rfl,rfl⟩
  rintro k' _ _ ⟨i,hi,rfl,rfl⟩ Q1 hex a2 B;unfold gI;refine aN M ?_;refine Jd.seq (Jd.cnd rfl (fun A=>?_) (fun A=>?_));rotate_left
  ·refine Jd.exitT (hex _ _ ?_);show Jb _ _ _ _ _ _;obtain rfl:i=V+1:=by have:=io A;omega
   rw[<-hl,lZ a1,hl];refine aN M ?_;exact Jd.ret (aw.one rfl rfl ⟨rfl,by rw[St.of_get];rfl⟩)
  have a7:i<V+1:=by have:=gT A;omega
  have a4:=hm (i:Int);have bn:QB 64 ((C (i:Int):Int):Rat):=eS (by omega) (by omega);obtain⟨p,hp⟩:∃p,ps[i]?=some p:=⟨_,bY (by omega)⟩;have ba:=bm p (eQ hp);have bj:ps.getD i 0=p:=by rw[eM,hp];rfl
  have hq:qs[i]?=some (oD C V a R p i):=by rw[u,mT,MT a7,AC,bj]
  have Y:=pq (C:=C) (fun x=>(hm x).1) v8 (x:=(i:Int)) (by omega) (by omega);have cx:=Fh (z:=C (i:Int)) a4.1 (by omega);have cd:=i6 ((uQ a1 (by omega)).trans hp);refine Jd.skipT ?_;refine Jd.seq (Jd.block ?_);clear hex;have eF:=gp (qs:=da ps qs i) (i:=i) (by rw[fC a1 (by omega)];omega) (oD C V a R p i);rw[jY a1 hq]at eF;have a6:(fr (da ps qs i)).length=(V+1)*3:=by rw[iv,fC a1 (by omega),hl]
  obtain⟨b,hb⟩:∃b,decide (C (i:Int)>0)=b:=⟨_,rfl⟩;refine rg M (ax @cd (ax @cY @iO)) ?_;refine rg M (ax @cJ (ax @Y @hb)) ?_;cases b with
  |true=>
   have hw:oD C V a R p i=(((C (i:Int):Int):Rat)-a)/((aZ C V:Int):Rat):=oR (gT hb);have cb:QB (64+64+1) (((C (i:Int):Int):Rat)-a):=by rw[aBq];exact bn.add al.neg
   have dl:=aj (df (·-·) (bu (aO bn (by omega))) a3);have av:=rj (aO cb (by omega)) (aO bf (by omega)) a5;rw[hw]at eF;refine cT rfl ?_;apply Jd.drwQ M [] (by kernel_rfl);(· intro K gl an hK;simp only[sv]at an;subst an;simp (maxSteps:=1000000) (disch:=omega) only[↓nD,↓nC,nB,Nat.reduceEqDiff,↓reduceIte,Nat.reduceLT,Nat.reduceAdd,iT,Cc,NE,NO,iO, qf,cJ,wH,Y,c2,c5,c8,b7,cx,dl,av,eF,a6,ew,iO];exact hK)
   refine bW.norm ?_;show Jb _ _ _ _ _ _;refine f6 M ?_;refine B _ _ ⟨k'-1,_,_,by omega,(d9 1 [0] [(98,.i .i64 ((i+1:Nat):Int)),(97,.i .i64 ((V+1:Nat):Int)),(96,.sl 0 0 (V+1) (V+1)),(15,.vp (ai F) 0),(12,.vp (ai R) 0),(11,.sl 0 0 (V+1) (V+1)),(8,.i .i64 (aZ C V)),(7,eY C V),(3,.vp (gI O V gs am) 0)] [(0,some (.cells (fr (da ps qs (i+1))) 31 false))] (by repeat' first|exact bK|refine aM ?_ ?_|exact Wk.bare (cw _ _)|exact eU) (by repeat' first|exact aK|refine aF ?_ ?_|exact bA.same (aJ _)|exact dj)),i+1,by omega,rfl,rfl⟩
  |false=>
   have hw:oD C V a R p i=F*p/R:=by rw[<-hF];exact iF (io hb)
   have b6:=aj (fM (·*·) (aO bo (by omega)) (aO ba (by omega)));have av:=rj (aO (bo.mul ba) (by omega)) (aO bx (by omega)) (show R≠0 by grind);rw[hw]at eF;refine cF rfl ?_;apply Jd.drwQ M [] (by kernel_rfl);(· intro K gl an hK;simp only[sv]at an;subst an;simp (maxSteps:=1000000) (disch:=omega) only[↓nD,↓nC,nB,Nat.reduceEqDiff,↓reduceIte,Nat.reduceLT,Nat.reduceAdd,iT,Cc,NE,NO,iO, c3,c5,b6,av,eF,a6,ew,iO];exact hK)
   refine bW.norm ?_;show Jb _ _ _ _ _ _;refine f6 M ?_;refine B _ _ ⟨k'-1,_,_,by omega,(d9 1 [0] [(98,.i .i64 ((i+1:Nat):Int)),(97,.i .i64 ((V+1:Nat):Int)),(96,.sl 0 0 (V+1) (V+1)),(15,.vp (ai F) 0),(12,.vp (ai R) 0),(11,.sl 0 0 (V+1) (V+1)),(8,.i .i64 (aZ C V)),(7,eY C V),(3,.vp (gI O V gs am) 0)] [(0,some (.cells (fr (da ps qs (i+1))) 31 false))] (by repeat' first|exact bK|refine aM ?_ ?_|exact Wk.bare (cw _ _)|exact eU) (by repeat' first|exact aK|refine aF ?_ ?_|exact bA.same (aJ _)|exact dj)),i+1,by omega,rfl,rfl⟩
 have a7:i<V+1:=by have:=gT A;omega
 have a4:=hm (i:Int);obtain⟨p,hp⟩:∃p,ps[i]?=some p:=⟨_,bY (by omega)⟩;have bj:ps.getD i 0=p:=by rw[eM,hp];rfl
 have ad:=AR C ps i;rw[bj]at ad;have Y:=pq (C:=C) (fun x=>(hm x).1) v8 (x:=(i:Int)) (by omega) (by omega);refine Jd.skipT ?_;refine Jd.seq (Jd.block ?_);clear hex;refine rg M (ax (i6 hp) (ax @cY @iO)) ?_;obtain⟨b,hb⟩:∃b,decide (C (i:Int)=0)=b:=⟨_,rfl⟩;refine rg M (ax @cJ (ax @Y @hb)) ?_;cases b with
 |true=>rw[oR (gT hb)]at ad;have b2:=aj (fM (·+·) (aO (bB i (by omega)) (by omega)) (aO (bm p (eQ hp)) (by omega)));rw[<-ad]at b2;refine cT rfl ?_;refine rq M (ax @c4 (ax @b2 (ax @ew @A5))) ?_;refine bW.norm ?_;show Jb _ _ _ _ _ _;refine f6 M ?_;refine B _ _ ⟨k'-1,_,_,by omega,(d9 2 [0,1] [(74,.i .i64 ((i+1:Nat):Int)),(73,.i .i64 ((V+1:Nat):Int)),(72,.sl 0 0 (V+1) (V+1)),(12,.ptr 1 0),(11,.sl 0 0 (V+1) (V+1)),(8,.i .i64 (aZ C V)),(7,eY C V),(3,.vp (gI O V gs am) 0)] [(1,some (.cells (ai (dc C ps (i+1))) 31 false)),(0,some (.cells (fr ps) 31 false))] (by repeat' first|exact bK|refine aM ?_ ?_|exact Wk.bare (cw _ _)|exact eU) (by repeat' first|exact aK|refine aF ?_ ?_|exact bA.same (aJ _)|exact dj)),i+1,by omega,rfl,rfl⟩
 |false=>rw[iF (io hb)]at ad;refine cF rfl ?_;refine Jd.skip ?_;refine bW.norm ?_;show Jb _ _ _ _ _ _;refine f6 M ?_;refine B _ _ ⟨k'-1,_,_,by omega,(d9 2 [0,1] [(74,.i .i64 ((i+1:Nat):Int)),(73,.i .i64 ((V+1:Nat):Int)),(72,.sl 0 0 (V+1) (V+1)),(12,.ptr 1 0),(11,.sl 0 0 (V+1) (V+1)),(8,.i .i64 (aZ C V)),(7,eY C V),(3,.vp (gI O V gs am) 0)] [(1,some (.cells (ai (dc C ps (i+1))) 31 false)),(0,some (.cells (fr ps) 31 false))] (by repeat' first|exact bK|refine aM ?_ ?_|exact Wk.bare (cw _ _)|exact(by rw[ad];exact bA.same rfl)|exact eU) (by repeat' first|exact aK|refine aF ?_ ?_|exact(by rw[ad];exact bA.same rfl)|exact bA.same (aJ _)|exact dj)),i+1,by omega,rfl,rfl⟩
theorem AB:Fa 277 3 [.snil,.i .i64 0,.snil]/\Fm 277 0 0 2/\ul 277 1 2:=⟨Ff,GP,uw⟩
def kp(O V:Nat)(gs:List Gr)(mx:List RF):List AV:=[.vw (kL O V gs) (O+1),.i .i64 ((V+1:Nat):Int),aP mx]
def Lj(O V:Nat)(gs:List Gr)(d:List RF×Nat×cO):List AV:=[.agg (kp O V gs d.1),.i .i64 d.2.1,.vw (is d.2.2) d.2.2.length]
theorem OI O V gs x y(h:Lj O V gs x=Lj O V gs y):x=y:=by obtain⟨a,b,c⟩:=x;obtain⟨a',b',c'⟩:=y;simp only[Lj,kp,rW,AV.agg.injEq,and_true,true_and]at h;obtain⟨u,A,j⟩:=h;simp only[AV.vw.injEq,AV.i.injEq,true_and]at A j;rw[C6 u,show b=b' by omega,eu j.1]
structure Rg(O:Nat)(mx:List RF):Prop where
 len:mx.length=O+1
 ok:∀x∈mx,x.Ok/\QB 64 x.q
noncomputable def mixedF(O V:Nat)(gs:List Gr):=ofG (Lj O V gs) (fun d=>Rg O d.1/\su O V d.2.1 d.2.2) fun d=>iX (aU O gs) V (jG d.1) d.2.1 d.2.2
theorem OH{O V}gs{mx n h}(j:Rg O mx)(u:su O V n h)s:fS (mixedF O V gs) [.agg [.vw (kL O V gs) (O+1),.i .i64 ((V+1:Nat):Int),aP mx],.i .i64 n,.vw (is h) h.length] s=some (.sl s.nx 0 (V+1) (V+1),s.new (.cells (fr (iX (aU O gs) V (jG mx) n h)) 31 false)):=qY (rp (enc:=Lj O V gs) (Ok:=fun d=>Rg O d.1/\su O V d.2.1 d.2.2) (f:=fun d=>iX (aU O gs) V (jG d.1) d.2.1 d.2.2) (d:=(mx,n,h)) (OI O V gs) ⟨j,u⟩) (lF _ _ _ _ _) s
theorem Jd.cut{bb P a b fr s Q}fr2 s2(u:Jb bb P b fr2 s2 Q)(j:∀Q':Ex->Fr->St->Prop,(∀fr s,To bb fr s fr2 s2->Q' .normal fr s)->(∀fr s,Q .ret fr s->Q' .ret fr s)->(∀i fr s,Q (.exit i) fr s->Q' (.exit i) fr s)->Jb bb P a fr s Q'):Jb bb P (.seq a b) fr s Q:= Jd.seq (j _ (fun _ _ x=>Jd.to x u) (fun _ _ h=>h) (fun _ _ _ h=>h))
def n7(T:Nat->List Int->Int->Int)(v:Nat)(mix:List Rat)(h:List Int)(j:Nat):List Rat:=(List.range (v+1)).map fun x=>uo T v mix h x j
theorem lY T v mix h j:(n7 T v mix h j).length=v+1:=by simp[n7]
theorem rk{T v mix h j x}(u:x<v+1):(n7 T v mix h j)[x]?=some (uo T v mix h x j):=by unfold n7;rw[mT,MT u];rfl
theorem yY T v mix h:n7 T v mix h 0=List.replicate (v+1) 0:=by refine List.eq_replicate_iff.2 ⟨lY _ _ _ _ _,fun q j=>?_⟩;obtain⟨x,_,rfl⟩:=Ac.1 j;rfl
theorem QL{O V gs}(ok:ic O V gs):ag Tryz.prog 250 (fS (mixedF O V gs)):=by
 obtain⟨E,M,c1,c2,c3,c4,c5⟩:=SI (ab (seenV O V gs)) (ab (cK (·*·))) (ab (cK (·+·))) (fS (flatF O V gs)) (ab sV) ⟨uZ ok,qF,xV,Cd O V gs,xU⟩ rfl;refine jA (by kernel_rfl) Tryz.func250 Tryz.ntmps250 rfl ?_;intro args qs h0;obtain⟨⟨mx,n,h⟩,b6,rfl,av⟩:=kj h0;clear h0;obtain⟨hX,hH⟩:Rg O mx/\su O V n h:=b6;have av:qs=iX (aU O gs) V (jG mx) n h:=av;have v8:=ok.v8;have o4:=ok.o4;have n1:=hH.n1;have nO:=hH.nO;have hl:qs.length=V+1:=by rw[av];exact lF _ _ _ _ _
 have b8:qs=n7 (aU O gs) V (jG mx) h (n+1):=av;refine⟨rfl,nE rfl,?_⟩;unfold Lj;dsimp only;obtain⟨N,hN⟩:∃N,h.length=N:=⟨_,rfl⟩;have cm:N=n-1:=by rw[<-hN];exact hH.hh.1
 have hT:∀n h,gw (aU O gs n h):=fun n h=>ok.mild (O-n) h;have cf:∀q∈jG mx,QB 64 q:=fun q hq=>by obtain⟨x,hx,rfl⟩:=Ac.1 hq;exact(hX.ok x hx).2
 have bB:∀j,∀q∈jS (aU O gs) V h j,QB 128 q:=fun j=>BF hT v8 h j;have a6:∀j,(jS (aU O gs) V h j).length=V+1:=fun j=>uf _ _ _ j;have b3:∀x j,j<=5->QB 966 (uo (aU O gs) V (jG mx) h x j):=fun x j hj=>(Bj hT v8 cf h x j).mono (by omega);rw[hl,hN,dZ,St.of_nil];have hf:=Bz gs v8 (O:=O);unfold mP at hf;unfold kp;refine aN M ?_;refine zX 0 0 (kp O V gs mx) [] [(3,.vp (kp O V gs mx) 0),(2,.vw (is h) N),(1,.i .i64 (n:Int))] [] ?_ (by repeat' first|exact bK|refine aM ?_ ?_|exact Wk.frz_ptr|exact eU) aK ?_
 ·rfl
 unfold kp;refine rg M (ax @AB @cJ) ?_;refine rg M (ax @AB (ax @cJ (ax @c4 @hf))) ?_;refine Jd.seq ?_;refine aN M ?_;refine Jd.loopB (fun k g s=>∃j:Nat,j+k=n+1/\g=⟨250,86,Tr.of [(9,.i .i64 (j:Int)),(8,.sl 1 0 (V+1) (V+1)),(7,.sl 0 0 (V+1) (V+1)),(3,.vp (kp O V gs mx) 0),(2,.vw (is h) N),(1,.i .i64 (n:Int))],none,[]⟩/\s=St.of [(1,some (.cells (fr (jS (aU O gs) V h (j-1))) 31 false)),(0,some (.cells (fr (n7 (aU O gs) V (jG mx) h j)) 31 false))] 2) (n+1) ?_ ?_
 ·exact⟨_,_,(d9 2 [0,1] [(9,.i .i64 ((0:Nat):Int)),(8,.sl 1 0 (V+1) (V+1)),(7,.sl 0 0 (V+1) (V+1)),(3,.vp (kp O V gs mx) 0),(2,.vw (is h) N),(1,.i .i64 (n:Int))] [(1,some (.cells (fr (cr V)) 31 false)),(0,some (.cells (fr (n7 (aU O gs) V (jG mx) h 0)) 31 false))] (by repeat' first|exact bK|refine aM ?_ ?_|exact(by rw[yY];exact bA.zfr _ _ _)|exact eU) (by repeat' first|exact aK|refine aF ?_ ?_|exact(by rw[yY];exact bA.zfr _ _ _)|exact dj)),0,by omega,rfl,rfl⟩
 rintro k _ _ ⟨j,hj,rfl,rfl⟩ Q1 hex ch b0;unfold kp;refine Jd.seq ?_;refine aN M ?_;refine Jd.cnd rfl (fun A=>?_) (fun A=>?_);rotate_left
 ·refine Jd.exitT (hex _ _ ?_);show Jb _ _ _ _ _ _;obtain rfl:j=n+1:=by have:=io A;omega
  rw[<-b8];refine aN M ?_;exact Jd.ret (aw.one rfl rfl ⟨rfl,by rw[St.of_get];rfl⟩)
 have cp:j<=n:=by have:=gT A;omega
 refine Jd.skipT ?_;refine Jd.seq (Jd.block ?_);clear hex;obtain⟨es,B⟩:∃l,jS (aU O gs) V h j=l:=⟨_,rfl⟩;obtain⟨os,a3⟩:∃l,n7 (aU O gs) V (jG mx) h j=l:=⟨_,rfl⟩;obtain⟨qo,Y⟩:∃l,n7 (aU O gs) V (jG mx) h (j+1)=l:=⟨_,rfl⟩;have al:os.length=V+1:=by rw[<-a3];exact lY _ _ _ _ _
 have U:qo.length=V+1:=by rw[<-Y];exact lY _ _ _ _ _
 rw[a3];refine Jd.cut ⟨250,86,Tr.of [(9,.i .i64 (j:Int)),(8,.sl 1 0 (V+1) (V+1)),(7,.sl 0 0 (V+1) (V+1)),(3,.vp (kp O V gs mx) 0),(2,.vw (is h) N),(1,.i .i64 (n:Int))],none,[]⟩ (St.of [(1,some (.cells (fr es) 31 false)),(0,some (.cells (fr os) 31 false))] 2) ?_ fun Q2 Z _ _=>?_
 ·unfold kp;refine aN M ?_;refine Jd.loopB (fun k g s=>∃i:Nat,i+k=V+1/\g=⟨250,86,Tr.of [(63,.i .i64 (i:Int)),(62,.i .i64 ((V+1:Nat):Int)),(9,.i .i64 (j:Int)),(8,.sl 1 0 (V+1) (V+1)),(7,.sl 0 0 (V+1) (V+1)),(3,.vp (kp O V gs mx) 0),(2,.vw (is h) N),(1,.i .i64 (n:Int))],none,[]⟩/\s=St.of [(1,some (.cells (fr es) 31 false)),(0,some (.cells (fr (da os qo i)) 31 false))] 2) (V+1) ?_ ?_
  ·exact⟨_,_,(d9 2 [0,1] [(63,.i .i64 ((0:Nat):Int)),(62,.i .i64 ((V+1:Nat):Int)),(9,.i .i64 (j:Int)),(8,.sl 1 0 (V+1) (V+1)),(7,.sl 0 0 (V+1) (V+1)),(3,.vp (kp O V gs mx) 0),(2,.vw (is h) N),(1,.i .i64 (n:Int))] [(1,some (.cells (fr es) 31 false)),(0,some (.cells (fr (da os qo 0)) 31 false))] (by repeat' first|exact bK|refine aM ?_ ?_|exact(by rw[f7];exact bA.same (aJ _))|exact eU) (by repeat' first|exact aK|refine aF ?_ ?_|exact(by rw[f7];exact bA.same (aJ _))|exact bA.same (aJ _)|exact dj)),0,by omega,rfl,rfl⟩
  rintro k' _ _ ⟨i,hi,rfl,rfl⟩ Q3 J a4 ad;unfold kp;refine aN M ?_;refine Jd.seq (Jd.cnd rfl (fun A=>?_) (fun A=>?_));rotate_left
  ·refine Jd.exitT (J _ _ ?_);obtain rfl:i=V+1:=by have:=io A;omega
   rw[<-U,lZ (al.trans U.symm),U];refine bW.norm ?_;show Jb _ _ _ _ _ _;refine f6 M ?_;refine b0 _ _ ⟨k-1,_,_,by omega,(d9 2 [0,1] [(9,.i .i64 ((j+1:Nat):Int)),(8,.sl 1 0 (V+1) (V+1)),(7,.sl 0 0 (V+1) (V+1)),(3,.vp (kp O V gs mx) 0),(2,.vw (is h) N),(1,.i .i64 (n:Int))] [(1,some (.cells (fr (jS (aU O gs) V h (j+1-1))) 31 false)),(0,some (.cells (fr (n7 (aU O gs) V (jG mx) h (j+1))) 31 false))] (by repeat' first|exact bK|refine aM ?_ ?_|exact(by rw[Y];exact bA.same (aJ _))|exact(by rw[aAD,B];exact bA.same (aJ _))|exact eU) (by repeat' first|exact aK|refine aF ?_ ?_|exact(by rw[Y];exact bA.same (aJ _))|exact(by rw[aAD,B];exact bA.same (aJ _))|exact dj)),j+1,by omega,rfl,rfl⟩
  have am:i<V+1:=by have:=gT A;omega
  obtain⟨x,hx⟩:∃x,mx[j]?=some x:=⟨_,bY (by have:=hX.len;omega)⟩;have bd:=hX.ok x (eQ hx);have cd:(jG mx).getD j 0=x.q:=by rw[eM];simp[jG,hx]
  obtain⟨e,he⟩:∃e,es[i]?=some e:=⟨_,bY (by rw[<-B,a6];omega)⟩;have a7:QB 128 e:=bB j e (by rw[B];exact eQ he);have hge:(jS (aU O gs) V h j).getD i 0=e:=by rw[B,eM,he];rfl
  obtain⟨u,hu⟩:∃u,uo (aU O gs) V (jG mx) h i j=u:=⟨_,rfl⟩;have b9:QB 966 u:=by rw[<-hu];exact b3 i j (by omega)
  have b7:os[i]?=some u:=by rw[<-a3,rk am,hu]
  have hq:qo[i]?=some (u+x.q*e):=by rw[<-Y,rk am];show some (uo (aU O gs) V (jG mx) h i j+(jG mx).getD j 0*(jS (aU O gs) V h j).getD i 0)=_;rw[hu,cd,hge]
  have b5:=aj (df (·*·) bd.1.r (bu (aO a7 (by omega))));have bm:=aj (fM (·+·) (aO b9 (by omega)) (aO (bd.2.mul a7) (by omega)));have b1:=i6 ((uQ (al.trans U.symm) (by omega)).trans b7);refine Jd.skipT ?_;refine Jd.seq (Jd.block ?_);clear J;have eF:=gp (qs:=da os qo i) (i:=i) (by rw[fC (al.trans U.symm) (by omega)];omega) (u+x.q*e);rw[jY (al.trans U.symm) hq]at eF;have a2:(fr (da os qo i)).length=(V+1)*3:=by rw[iv,fC (al.trans U.symm) (by omega),U]
  have cb:=hX.len;refine aN M ?_;apply Jd.drwQ M [(18,5)] (by kernel_rfl);(· intro K gl a9 hK;simp only[sv]at a9;subst a9;simp (maxSteps:=1000000) (disch:=omega) only[↓nD,↓nC,nB,Nat.reduceEqDiff,↓reduceIte,Nat.reduceLT,Nat.reduceAdd,iT,Cc,NE,NO,iO, AB,b1,i6 he,AQ hx,cb,c2,c3,b5,bm,eF,a2,iO];exact hK)
  refine bW.norm ?_;show Jb _ _ _ _ _ _;refine f6 M ?_;refine ad _ _ ⟨k'-1,_,_,by omega,(d9 2 [0,1] [(63,.i .i64 ((i+1:Nat):Int)),(62,.i .i64 ((V+1:Nat):Int)),(9,.i .i64 (j:Int)),(8,.sl 1 0 (V+1) (V+1)),(7,.sl 0 0 (V+1) (V+1)),(3,.vp (kp O V gs mx) 0),(2,.vw (is h) N),(1,.i .i64 (n:Int))] [(1,some (.cells (fr es) 31 false)),(0,some (.cells (fr (da os qo (i+1))) 31 false))] bT (by repeat' first|exact aK|refine aF ?_ ?_|exact bA.same (aJ _)|exact dj)),i+1,by omega,rfl,rfl⟩
 refine aN M ?_;refine Jd.cnd rfl (fun A=>?_) (fun A=>?_);rotate_left
 ·obtain rfl:j=0:=by have:=io A;omega
  refine Jd.skip (Z _ _ (d9 2 [0,1] [(9,.i .i64 ((0:Nat):Int)),(8,.sl 1 0 (V+1) (V+1)),(7,.sl 0 0 (V+1) (V+1)),(3,.vp (kp O V gs mx) 0),(2,.vw (is h) N),(1,.i .i64 (n:Int))] [(1,some (.cells (fr es) 31 false)),(0,some (.cells (fr os) 31 false))] (by repeat' first|exact bK|refine aM ?_ ?_|exact(by rw[<-B];exact bA.same (aJ _))|exact eU) (by repeat' first|exact aK|refine aF ?_ ?_|exact(by rw[<-B];exact bA.same (aJ _))|exact bA.same (aJ _)|exact dj)))
 obtain⟨j,rfl⟩:∃i,j=i+1:=⟨j-1,by have:=gT A;omega⟩;obtain⟨c,hc⟩:∃c,N-j=c:=⟨_,rfl⟩;have bn:(N:Int)-((j+1:Nat):Int)+1=(c:Int):=by omega
 have ca:IntKind.i64.wrap (c:Int)=c:=aAw _ (by omega);have bo:(is h).drop c=is (h.drop c):=by simp[is,aCl]
 have ba:(h.drop c).length=N-c:=by rw[Rw,hN]
 have a5:Nat.ble c N=true:=aX (by omega);have bj:ck (j+1-1) V (h.drop c):=⟨by rw[ba];omega,fun x hx=>hH.hh.2 x (aBa hx)⟩;have hs:=uG gs (O:=O) (n:=j+1) (by omega) (by omega) bj ((V+1:Nat):Int);rw[ba]at hs;have hm:=hT (j+1) (h.drop c);have y:es=if 0<aZ (aU O gs (j+1) (h.drop c)) V then jD (aU O gs (j+1) (h.drop c)) V else jS (aU O gs) V h j:=by rw[<-B,<-hc,<-hN];rfl
 have a1:=a6 j;simp only[aAD];generalize aU O gs (j+1) (h.drop c)=C at *

 refine dr M [] (ax @AB (ax @cJ (ax @Zd (ax @bn (ax @ca (ax @bo (ax @a5 (ax @c1 (ax @hs @iO))))))))) ?_
 have cu:=gJ hm V
 refine aN M ?_
 refine Jd.cnd rfl (fun A=>?_) (fun A=>?_)
 rotate_left
 ·have hS:¬0<aZ C V:=io A
  rw[iF hS]at y
  refine Jd.skip (Z _ _ (d9 2 [0,1] [(9,.i .i64 ((j+1:Nat):Int)),(8,.sl 1 0 (V+1) (V+1)),(7,.sl 0 0 (V+1) (V+1)),(3,.vp (kp O V gs mx) 0),(2,.vw (is h) N),(1,.i .i64 (n:Int))] [(1,some (.cells (fr es) 31 false)),(0,some (.cells (fr os) 31 false))] (by repeat' first|exact bK|refine aM ?_ ?_|exact(by rw[y];exact bA.same (aJ _))|exact eU) (by repeat' first|exact aK|refine aF ?_ ?_|exact(by rw[y];exact bA.same (aJ _))|exact bA.same (aJ _)|exact dj)))
 have hS:0<aZ C V:=gT A
 rw[oR hS]at y
 have a0:es.length=V+1:=by rw[y];exact lz _ _
 obtain⟨e0,bx⟩:∃l,jS (aU O gs) V h j=l:=⟨_,rfl⟩
 rw[bx]at a1⊢
 have an:e0.length=es.length:=by rw[a1,a0]
 refine aN M ?_
 refine Jd.loopB (fun k g s=>∃i:Nat,i+k=V+1/\g=⟨250,86,Tr.of [(46,.i .i64 (i:Int)),(45,.i .i64 ((V+1:Nat):Int)),(11,.i .i64 (aZ C V)),(10,eY C V),(9,.i .i64 ((j+1:Nat):Int)),(8,.sl 1 0 (V+1) (V+1)),(7,.sl 0 0 (V+1) (V+1)),(3,.vp (kp O V gs mx) 0),(2,.vw (is h) N),(1,.i .i64 (n:Int))],none,[]⟩/\s=St.of [(1,some (.cells (fr (da e0 es i)) 31 false)),(0,some (.cells (fr os) 31 false))] 2) (V+1) ?_ ?_
 ·exact⟨_,_,(d9 2 [0,1] [(46,.i .i64 ((0:Nat):Int)),(45,.i .i64 ((V+1:Nat):Int)),(11,.i .i64 (aZ C V)),(10,eY C V),(9,.i .i64 ((j+1:Nat):Int)),(8,.sl 1 0 (V+1) (V+1)),(7,.sl 0 0 (V+1) (V+1)),(3,.vp (kp O V gs mx) 0),(2,.vw (is h) N),(1,.i .i64 (n:Int))] [(1,some (.cells (fr (da e0 es 0)) 31 false)),(0,some (.cells (fr os) 31 false))] (by repeat' first|exact bK|refine aM ?_ ?_|exact Wk.bare (cw _ _)|exact(by rw[f7];exact bA.same (aJ _))|exact eU) (by repeat' first|exact aK|refine aF ?_ ?_|exact(by rw[f7];exact bA.same (aJ _))|exact bA.same (aJ _)|exact dj)),0,by omega,rfl,rfl⟩
 rintro k' _ _ ⟨i,hi,rfl,rfl⟩ Q3 J a4 ad
 unfold kp
 refine aN M ?_
 refine Jd.seq (Jd.cnd rfl (fun A=>?_) (fun A=>?_))
 rotate_left
 ·refine Jd.exitT (J _ _ ?_)
  obtain rfl:i=V+1:=by have:=io A;omega
  rw[<-a0,lZ an,a0]
  refine Z _ _ (Iv 2 [0,1] [(9,.i .i64 ((j+1:Nat):Int)),(8,.sl 1 0 (V+1) (V+1)),(7,.sl 0 0 (V+1) (V+1)),(3,.vp (kp O V gs mx) 0),(2,.vw (is h) N),(1,.i .i64 (n:Int))] [(1,some (.cells (fr es) 31 false)),(0,some (.cells (fr os) 31 false))])
 have am:i<V+1:=by have:=gT A;omega
 have bf:=hm (i:Int)
 have hq:es[i]?=some (((C (i:Int):Int):Rat)/((aZ C V:Int):Rat)):=by
  rw[y]
  unfold jD
  rw[mT,MT am]
  rfl
 have b2:=pq (C:=C) (fun x=>(hm x).1) v8 (x:=(i:Int)) (by omega) (by omega)
 have b4:=aj (sU (a:=C (i:Int)) (b:=aZ C V) bf.1 (by omega) hS (by omega))
 refine Jd.skipT ?_
 refine Jd.seq (Jd.block ?_)
 clear J
 have eF:=gp (qs:=da e0 es i) (i:=i) (by rw[fC an (by omega)];omega) (((C (i:Int):Int):Rat)/((aZ C V:Int):Rat))
 rw[jY an hq]at eF
 have a2:(fr (da e0 es i)).length=(V+1)*3:=by rw[iv,fC an (by omega),a0]
 refine aN M ?_
 refine rq M (ax @cJ (ax @b2 (ax @c5 (ax @b4 (ax @eF (ax @a2 @iO)))))) ?_
 refine bW.norm ?_
 show Jb _ _ _ _ _ _
 refine f6 M ?_
 refine ad _ _ ⟨k'-1,_,_,by omega,(d9 2 [0,1] [(46,.i .i64 ((i+1:Nat):Int)),(45,.i .i64 ((V+1:Nat):Int)),(11,.i .i64 (aZ C V)),(10,eY C V),(9,.i .i64 ((j+1:Nat):Int)),(8,.sl 1 0 (V+1) (V+1)),(7,.sl 0 0 (V+1) (V+1)),(3,.vp (kp O V gs mx) 0),(2,.vw (is h) N),(1,.i .i64 (n:Int))] [(1,some (.cells (fr (da e0 es (i+1))) 31 false)),(0,some (.cells (fr os) 31 false))] (by repeat' first|exact bK|refine aM ?_ ?_|exact Wk.bare (cw _ _)|exact eU) (by repeat' first|exact aK|refine aF ?_ ?_|exact bA.same (aJ _)|exact dj)),i+1,by omega,rfl,rfl⟩
def XN(d:Int×Int×Int):List AV:=[.i .i64 d.1,.vp [.i .i64 d.2.1] 0,.vp [.i .i64 d.2.2] 0]
theorem Rv(x y:Int×Int×Int)(h:XN x=XN y):x=y:=by obtain⟨a,b,c⟩:=x;obtain⟨a',b',c'⟩:=y;simp only[XN,rW,AV.i.injEq,AV.vp.injEq,and_true,true_and]at h;rw[h.1,h.2.1,h.2.2]
noncomputable def w1V:=ofE XN (fun _=>True) fun d=>.b (decide (d.1<d.2.1) ||decide (d.1>d.2.2))
theorem Ha:ag Tryz.prog 219 (ab w1V):=by
 obtain⟨E,M⟩:=uq;refine aE (by kernel_rfl) Tryz.func219 Tryz.ntmps219 rfl ?_;intro args v h;obtain⟨⟨x,lo,hi⟩,_,rfl,rfl⟩:=cU h;refine⟨rfl,rfl,nE rfl,?_⟩;unfold XN;dsimp only;rw[dZ,St.of_nil];obtain⟨y,j⟩:∃b,decide (x<lo)=b:=⟨_,rfl⟩;obtain⟨A,u⟩:∃b,decide (x>hi)=b:=⟨_,rfl⟩;rw[j,u];refine aN M ?_;cases y with
 |true=>refine rg M @j ?_;exact Jd.ret (aw.one rfl rfl rfl)
 |false=>refine rg M (ax @j @u) ?_;exact Jd.ret (aw.one rfl rfl rfl)
noncomputable def ocWi:Oc:=[(219,ab w1V)]
theorem Su:∀p∈ocWi,ag Tryz.prog p.1 p.2:=by unfold ocWi;simp only[aAJ];exact⟨Ha,fun p hp=>by cases hp⟩
theorem Ur(lo hi:Int)(l:List Int):(l.any fun x=>decide (x<lo) ||decide (x>hi)) = !pU lo hi l:=by unfold pU;rw[List.not_all_eq_any_not];refine aAf (List.any l) (funext fun x=>?_);by_cases j:x<lo<;>by_cases u:x>hi<;>simp[j,u]<;>omega
theorem ZF(lo hi:Int){l:List Int}(hl:l.length<=1000000)(s:St):ab (anyVI ocWi) [.vw (is l) l.length,.fn 219 [] [.vp [.i .i64 lo] 0,.vp [.i .i64 hi] 0]] s=some (.b (!pU lo hi l),s):=by have h:=YH (L:=ocWi) (cell:=kD) (el:=fun x=>.i .i64 x) (l:=l) (cv:=.fn 219 [] [.vp [.i .i64 lo] 0,.vp [.i .i64 hi] 0]) (p:=fun x=>decide (x<lo) ||decide (x>hi)) tp zY rfl (by omega) (fun x hx=>⟨_,rfl,fun s=>fT (d:=(x,lo,hi)) Rv trivial s⟩) s;rw[show l.flatMap kD=is l from od _ _,Ur]at h;exact h
def XM(d:List Int×Int×Int):List AV:=[.vw (is d.1) d.1.length,.i .i64 d.2.1,.i .i64 d.2.2]
theorem Rt(x y:List Int×Int×Int)(h:XM x=XM y):x=y:=by obtain⟨a,b,c⟩:=x;obtain⟨a',b',c'⟩:=y;simp only[XM,rW,AV.i.injEq,AV.vw.injEq,and_true,true_and]at h;rw[eu h.1.1,h.2.1,h.2.2]
noncomputable def withinV:=ofE XM (fun d=>d.1.length<=1000000) fun d=>.b (pU d.2.1 d.2.2 d.1)
theorem Ku(lo hi:Int){l:List Int}(hl:l.length<=1000000)(s:St):ab withinV [.vw (is l) l.length,.i .i64 lo,.i .i64 hi] s=some (.b (pU lo hi l),s):=fT (Ok:=fun d:List Int×Int×Int=>d.1.length<=1000000) (f:=fun d=>.b (pU d.2.1 d.2.2 d.1)) (d:=(l,lo,hi)) Rt hl s
theorem Mh:ag Tryz.prog 208 (ab withinV):=by
 obtain⟨E,M,j⟩:=ur (ab (anyVI ocWi)) (UJ ocWi Su) rfl;refine aE (by kernel_rfl) Tryz.func208 Tryz.ntmps208 rfl ?_;intro args v h;obtain⟨⟨l,lo,hi⟩,hl,rfl,rfl⟩:=cU h;have hl:l.length<=1000000:=hl;refine⟨rfl,rfl,nE rfl,?_⟩;have hh:=ZF lo hi hl;unfold XM;dsimp only;rw[dZ,St.of_nil];refine aN M ?_;refine zX 1 1 ([.i .i64 hi]) [0] [(5,.vp [.i .i64 hi] 0),(4,.ptr 0 0),(0,.vw (is l) l.length)] [(0,some (.cells [.i .i64 lo] 3 false))] ?_ (by repeat' first|exact bK|refine aM ?_ ?_|exact Wk.frz_ptr|exact eU) AL ?_
 ·rfl
 refine zX 0 0 ([.i .i64 lo]) [] [(5,.vp [.i .i64 hi] 0),(4,.vp [.i .i64 lo] 0),(0,.vw (is l) l.length)] [] ?_ (by repeat' first|exact bK|refine aM ?_ ?_|exact Wk.frz_ptr|exact eU) aK ?_
 ·rfl
 refine rg M (ax @YT (ax @pA (ax @aAy.{0} (ax @aAB.{0} (ax @j @hh))))) ?_;exact Jd.ret (aw.one rfl rfl (by rw[Bool.not_not]))
theorem ER{z:Int}(h:0<z):(0:Rat)<(z:Rat):=by exact_mod_cast h
theorem Gl{a:Rat}(h:0<a):a≠0:=fun e=>Rat.lt_irrefl (e▸h)

def qX(k:Int)(O:Nat)(gs:List Gr)(v:Nat)(a:Rat)(mix:List Rat)(h:List Int):List Rat:=
 if k=1 then gu (aU O gs O h) v a else if k=2 then iX (aU O gs) v mix O h else if k=3 then gi (aU O gs) v a O h else gm (aU O gs) v O h
theorem Nn{q:Rat}(h:ci q=0):q=0:=by
 unfold ci at h;split at h
 ·assumption
 split at h<;>omega
theorem CX{q:Rat}(h:¬ci q<0):0<=q:=by
 unfold ci at h;split at h
 ·next e=>rw[e];exact Rat.le_refl
 split at h
 ·omega
 next j=>exact Rat.not_lt.1 j
theorem LR{qs:List Rat}:ni qs=true↔(∀q∈qs,0<=q)/\nm qs=1:=by
 unfold ni;rw[gE,aAA,aAs,IS,yo];constructor
 ·rintro⟨j,u⟩;refine⟨fun q x=>CX (fun h=>j ⟨q,x,h⟩),?_⟩;have:=Nn u
  grind
 rintro⟨j,u⟩;refine⟨?_,?_⟩
 ·rintro⟨q,x,h⟩;have y:=j q x;unfold ci at h;split at h
  ·omega
  split at h
  ·next A=>exact absurd A (Rat.not_lt.2 y)
  omega
 rw[u,Rat.sub_self];rfl
theorem Ct{a:Rat}{mix:List Rat}{O:Nat}(h:aR 2 a mix O=true):mix.length=O+1/\(∀q∈mix,0<=q)/\nm mix=1/\0<mix.getD 0 0:=by unfold aR at h;rw[iF (by decide),oR rfl]at h;simp only[gE,IS,aBp]at h;obtain⟨⟨⟨_,x⟩,j⟩,u⟩:=h;have:=LR.1 j;exact⟨by omega,this.1,this.2,vP u⟩
theorem Fv{k:Int}{a:Rat}{mix:List Rat}{O:Int}(h:aR k a mix O=true):k=1∨k=2∨k=3∨k=4:=by
 unfold aR at h;by_cases j:k=1
 ·exact Or.inl j
 by_cases u:k=2
 ·exact Or.inr (Or.inl u)
 by_cases x:k=3
 ·exact Or.inr (Or.inr (Or.inl x))
 by_cases y:k=4
 ·exact Or.inr (Or.inr (Or.inr y))
 rw[iF j,iF u,iF x,iF y]at h;cases h
structure Fl(L:LG):Prop where
 ok:L.Ok
 err:L.err=0
 few:L.V<=8
def LG.o(L:LG):Nat:=L.O.toNat
def LG.v(L:LG):Nat:=L.V.toNat
def LG.row(L:LG)(h:List Int):List Rat:=qX L.k L.o L.gs L.v L.am.q L.qs h
theorem Fl.tab{L:LG}(h:Fl L):L.O=L.o/\L.V=L.v/\1<=L.v/\ic L.o L.v L.gs:=by
 obtain⟨y,_⟩:=oG h.err;obtain⟨N,U,Y,Z,h6,A,B⟩:=lS y;have j:L.O=L.o:=by unfold LG.o;omega
 have u:L.V=L.v:=by unfold LG.v;omega
 have hf:=h.few;refine⟨j,u,by omega,fun g C=>?_,by omega,by omega,h.ok.hgs,B.nodup,by omega⟩;obtain⟨a,b,c,d⟩:=A g C;exact⟨by omega,fun x J=>by have:=b x J;omega,by omega,d⟩
theorem vT(k:Int)(O:Nat)(gs:List Gr)(v:Nat)(a:Rat)(mix:List Rat)(h:List Int):(qX k O gs v a mix h).length=v+1:=by
 unfold qX;split
 ·simp[gu]
 split
 ·exact lF ..
 split
 ·exact d6 ..
 exact gz ..
def SX(d:LG×cO):List AV:=[.agg d.1.cells,.vw (is d.2) d.2.length]
theorem Jr(x y:LG×cO)(h:SX x=SX y):x=y:=by obtain⟨a,b⟩:=x;obtain⟨a',b'⟩:=y;simp only[SX,rW,AV.agg.injEq,AV.vw.injEq,and_true]at h;rw[LG.inj _ _ h.1,eu h.2.1]
def UM(d:LG×cO):Prop:=Fl d.1/\ck (d.1.o-1) d.1.v d.2
theorem mR{L:LG}(h:L.Ok):aq L.cells=true:=by simp only[LG.cells,aq,bare,h.ham.bn,h.ham.bd];rfl
noncomputable def ckHV:=ofE SX UM fun _=>.i .i64 0
theorem WK{L:LG}{h:cO}(hL:Fl L)(hh:ck (L.o-1) L.v h)(s:St):ab ckHV [.agg L.cells,.vw (is h) h.length] s=some (.i .i64 0,s):=fT (Ok:=UM) (f:=fun _=>.i .i64 0) (d:=(L,h)) Jr ⟨hL,hh⟩ s
theorem Ts{L:LG}{h:cO}(hh:ck (L.o-1) L.v h):pU 0 L.v h=true:=by unfold pU;rw[Of];intro x j;have:=hh.2 x j;simp only[gE,IS];omega
theorem WZ:ag Tryz.prog 183 (ab ckHV):=by obtain⟨E,M,C,J⟩:=Zx fI (ab withinV) ⟨Ae,Mh⟩ rfl;refine aE (by kernel_rfl) Tryz.func183 Tryz.ntmps183 rfl ?_;intro args v B;obtain⟨⟨L,h⟩,y,rfl,rfl⟩:=cU B;clear B;obtain⟨hL,hh⟩:Fl L/\ck (L.o-1) L.v h:=y;obtain⟨eO,eV,U,ok⟩:=hL.tab;have o1:=ok.o1;have o4:=ok.o4;have j:=tg hL.ok;rw[hL.err]at j;have hN:h.length=L.o-1:=hh.1;have A:=Ku 0 (L.v:Int) (l:=h) (by omega);rw[Ts hh]at A;rw[eO,eV]at j;obtain⟨N,u⟩:∃N,h.length=N:=⟨_,rfl⟩;refine⟨by simp only[SX,aq,bare,mR hL.ok];rfl,rfl,nE rfl,?_⟩;have f1:=hL.ok.ham.fn;have f2:=hL.ok.ham.fd;unfold SX LG.cells;dsimp only;rw[eO,eV,cZ,St.of_nil];rw[u]at A hN⊢;have x:decide ((N:Int)=(L.o:Int)-1)=true:=lT (by omega);refine rg M (ax @f1 @f2) ?_;refine Jd.seq ?_;refine rg M (ax @C @j) ?_;refine aN M ?_;refine GU rfl ?_;refine Jd.seq ?_;refine rg M (ax @x (ax @J @A)) ?_;refine GU rfl ?_;refine aN M ?_;exact Jd.ret (aw.one rfl rfl rfl)
section
section
variable {P:Program}{X:eC}{E:Ev}{ρ:Operand->Option AV}{s s':St}{K:AV->St->Prop}
def D6(P:Program)(t:TypeId)(a:AV):Option AV:=match P.underlying t with
 |some (.interface _)=>none
 |some _=>some (.ifc t a)
 |none=>none
theorem Km(t:TypeId)(x:Operand):dB P X E ρ s (.makeInterface t x) K=ao (ρ x) fun a=>ao (D6 P t a) fun v=>K v s:=by
 rw[uJ rfl];simp only[dY,D6];cases ρ x with
 |none=>cases P.underlying t with|none=>rfl|some d=>cases d<;>rfl
 |some a=>cases P.underlying t with|none=>rfl|some d=>cases d<;>rfl
theorem uT{t:TypeId}{j:Array Field}(h:P.underlying t=some (.struct j))(a:AV):D6 P t a=some (.ifc t a):=by simp only[D6,h]
def Tj(P:Program)(X:eC)(E:Ev)(rv:AV)(m:String)(asn:List AV)(s:St):Option (AV×St):=match rv with
 | .ifc t v=>match X.meth t m with
  |some (f,.same)=>E.call f (v::asn) s
  |some (f,.deref e)=>match ju P s e v with
   |some v=>E.call f (v::asn) s
   |none=>none
  |none=>none
 |_=>none
theorem YU(r:Operand)(m:String)(args:Array Operand)(u:Array TypeId):dB P X E ρ s (.call ⟨.invoke r m,args,u⟩) K=ao (ρ r) fun j=>ym ρ args.toList fun asn=>ao (Tj P X E j m asn s) fun p=>K p.1 p.2:=by
 rw[BI rfl];simp only[iG,Tj];cases ρ r with
 |none=>rfl
 |some j=>
  rw[aA,<-Bl];cases args.toList.mapM ρ with
  |none=>cases j<;>rfl
  |some asn=>cases j<;>rfl
theorem Pn{t:TypeId}{m:String}{f:FuncId}(h:X.meth t m=some (f,.same))(v:AV)(asn:List AV)(s:St):Tj P X E (.ifc t v) m asn s=E.call f (v::asn) s:=by simp only[Tj,h]
variable {n:Nat}{gl:List (Option Tmp)}{ex:List (Nat×Nat)}{i:Nat}{R:List (Nat×List Nat)}{W:List (Nat×St×St)}{k:List (Nat×List Nat)->List (Nat×St×St)->Prop}
theorem Wi(r:Operand)(m:String)(xs:Array Operand)(j:Array TypeId):fB ex i (.call ⟨.invoke r m,xs,j⟩) ρ s s' R W k=(I3 ex i s s' R/\k R ((i,s,s')::W)):=rfl
end
theorem I8:bS .nilIface=some .inil:=rfl
def sw(L:LG):AV:=
 if L.k=2 then .ifc 277 (.agg [.vw (kL L.o L.v L.gs) (L.o+1),.i .i64 ((L.v+1:Nat):Int),aP L.mix])
 else if L.k=3 then .ifc 279 (.agg [.vw (kL L.o L.v L.gs) (L.o+1),.i .i64 ((L.v+1:Nat):Int),.b L.am.neg,L.am.n,L.am.d])
 else if L.k=4 then .ifc 281 (.agg [.vw (kL L.o L.v L.gs) (L.o+1),.i .i64 ((L.v+1:Nat):Int)])
 else .ifc 282 (.agg [.vw (kL L.o L.v L.gs) (L.o+1),.i .i64 ((L.v+1:Nat):Int),.b L.am.neg,L.am.n,L.am.d])
def Xx(L:LG):List AV:=[.agg L.cells]
theorem SY(x y:LG)(h:Xx x=Xx y):x=y:=by simp only[Xx,rW,AV.agg.injEq,and_true]at h;exact LG.inj _ _ h
noncomputable def wayP:=ofE Xx Fl sw
theorem VN{L:LG}(hL:Fl L)(s:St):ab wayP [.agg L.cells] s=some (sw L,s):=fT (Ok:=Fl) (f:=sw) (d:=L) SY hL s
theorem Cz:Fk 274 [(0,1),(1,1)] [.snil,.i .i64 0]/\Fk 277 [(0,2),(2,1)] [.snil,.i .i64 0,.snil]/\Fk 279 [(0,2),(2,3)] [.snil,.i .i64 0,.b false,.snil,.snil]/\Fk 281 [(0,2)] [.snil,.i .i64 0]/\Fk 282 [(0,2),(2,3)] [.snil,.i .i64 0,.b false,.snil,.snil]:=⟨GV Tryz.underlying274,GV Tryz.underlying277,GV Tryz.underlying279,GV Tryz.underlying281,GV Tryz.underlying282⟩
theorem Jl:(∀a,D6 Tryz.prog 277 a=some (.ifc 277 a))/\(∀a,D6 Tryz.prog 279 a=some (.ifc 279 a))/\(∀a,D6 Tryz.prog 281 a=some (.ifc 281 a))/\∀a,D6 Tryz.prog 282 a=some (.ifc 282 a):=⟨uT Tryz.underlying277,uT Tryz.underlying279,uT Tryz.underlying281,uT Tryz.underlying282⟩
theorem Uu:ag Tryz.prog 184 (ab wayP):=by
 obtain⟨E,M,c1⟩:=ur (ab levelsV) Mk rfl;refine aE (by kernel_rfl) Tryz.func184 Tryz.ntmps184 rfl ?_;intro args v U;obtain⟨L,hL,rfl,rfl⟩:=cU U;clear U;have hL:Fl L:=hL;obtain⟨eO,eV,v1,ok⟩:=hL.tab;have o4:=ok.o4;have v8:=ok.v8;have J:=Lr ok;have f1:=hL.ok.ham.fn;have f2:=hL.ok.ham.fd;refine⟨by simp only[Xx,aq,bare,mR hL.ok];rfl,by unfold sw;split<;>(try split)<;>(try split)<;>simp only[bare,aq,hL.ok.ham.bn,hL.ok.ham.bd]<;>rfl,nE rfl,?_⟩;unfold Xx LG.cells;rw[eO,eV,pk,St.of_nil];have hw:(L.v:Int)+1=((L.v+1:Nat):Int):=by omega
 have N:IntKind.i64.wrap ((L.v+1:Nat):Int)=((L.v+1:Nat):Int):=aAw _ (by omega);refine rg M (ax @f1 (ax @f2 @I8)) ?_;refine zX 0 0 ([.i .i64 (L.o:Int),.i .i64 (L.v:Int),.vw (br L.gs) L.gs.length,.i .i64 L.k,.b L.am.neg,L.am.n,L.am.d,aP L.mix]) [] [(1,.vp [.i .i64 (L.o:Int),.i .i64 (L.v:Int),.vw (br L.gs) L.gs.length,.i .i64 L.k,.b L.am.neg,L.am.n,L.am.d,aP L.mix] 0)] [] ?_ (by repeat' first|exact bK|refine aM ?_ ?_|exact Wk.frz_ptr|exact eU) aK ?_
 ·simp only[aq,bare,hL.ok.ham.bn,hL.ok.ham.bd];rfl
 refine rg M (ax @cJ (ax @Cz (ax @hw @N))) ?_;refine rg M (ax @cJ (ax @c1 @J)) ?_;refine aN M ?_;obtain⟨Y,y⟩:∃b,decide (L.k=2)=b:=⟨_,rfl⟩;obtain⟨Z,A⟩:∃b,decide (L.k=3)=b:=⟨_,rfl⟩;obtain⟨b4,B⟩:∃b,decide (L.k=4)=b:=⟨_,rfl⟩;refine Jd.seq ?_;refine aN M ?_;refine Jd.block ?_;iterate 3 refine Jd.seq (Jd.block ?_)
 iterate 2 refine Jd.seq ?_
 refine rg M @y ?_;cases Y with
 |true=>have u:L.k=2:=gT y;refine Jd.cnd rfl (fun _=>Jd.exit ?_) (fun h=>by cases h);simp only[gW];refine bW.out ?_;show Jb _ _ _ _ _ _;refine Jd.seq ?_;refine rg M (ax @cJ (ax @Cz (ax @Km @Jl))) ?_;refine Jd.ret ?_;simp only[gW,bW];exact aw.one rfl rfl (by unfold sw;rw[oR u])
 |false=>
 have j:L.k≠2:=io y;refine GU rfl ?_;refine Jd.seq ?_;refine rg M @A ?_;cases Z with
 |true=>
  have u:L.k=3:=gT A;refine Jd.cnd rfl (fun _=>Jd.exit ?_) (fun h=>by cases h);simp only[gW];refine bW.far (by decide) ?_;simp only[gW];refine bW.out ?_;show Jb _ _ _ _ _ _;refine f6 M ?_;refine bW.norm ?_;show Jb _ _ _ _ _ _;iterate 2 refine Jd.seq ?_
  refine aN M ?_;refine cT rfl ?_;refine rg M (ax @cJ (ax @Cz (ax @Km @Jl))) ?_;refine Jd.ret ?_;simp only[gW,bW];exact aw.one rfl rfl (by unfold sw;rw[iF j,oR u])
 |false=>
 have x:L.k≠3:=io A;refine GU rfl ?_;refine rg M @B ?_;cases b4 with
 |true=>
  have u:L.k=4:=gT B;refine Jd.cnd rfl (fun _=>Jd.exit ?_) (fun h=>by cases h);simp only[gW];refine bW.far (by decide) ?_;simp only[gW];refine bW.far (by decide) ?_;simp only[gW];refine bW.out ?_;show Jb _ _ _ _ _ _;iterate 2 refine Jd.seq ?_
  refine aN M ?_;refine GU rfl ?_;refine rg M (ax @cJ (ax @Cz (ax @Km @Jl))) ?_;refine Jd.ret ?_;simp only[gW,bW];exact aw.one rfl rfl (by unfold sw;rw[iF j,iF x,oR u])
 |false=>
 have C:L.k≠4:=io B;refine cF rfl ?_;refine Jd.skip ?_;show Jb _ _ _ _ _ _;refine Jd.exit ?_;refine bW.far (by decide) ?_;simp only[gW];refine bW.far (by decide) ?_;simp only[gW];refine bW.far (by decide) ?_;simp only[gW];refine bW.out ?_;show Jb _ _ _ _ _ _;refine rg M (ax @cJ (ax @Cz (ax @Km @Jl))) ?_;exact Jd.ret (aw.one rfl rfl (by unfold sw;rw[iF j,iF x,iF C]))
def Vh(t:TypeId)(m:String):Option (FuncId×YK):=
 cond (m == "earshot/gram.row") (cond (Nat.beq t 277) (some (250,.same)) (cond (Nat.beq t 279) (some (253,.same)) (cond (Nat.beq t 281) (some (255,.same)) (cond (Nat.beq t 282) (some (256,.same)) none)))) none
def BG(l:Oc):eC:=⟨fun f=>pick f l,Vh⟩
theorem Zt (v:Value) (w:World):(method 422 277 v "earshot/gram.row").run Tryz.prog w = .ok (250,v) w:=by kernel_rfl
theorem Zu (v:Value) (w:World):(method 422 279 v "earshot/gram.row").run Tryz.prog w = .ok (253,v) w:=by kernel_rfl
theorem Zs (v:Value) (w:World):(method 422 281 v "earshot/gram.row").run Tryz.prog w = .ok (255,v) w:=by kernel_rfl
theorem Zv (v:Value) (w:World):(method 422 282 v "earshot/gram.row").run Tryz.prog w = .ok (256,v) w:=by kernel_rfl
theorem JK:Tryz.prog.types.size+Made.depth=422:=by kernel_rfl
theorem OO(l:Oc):kG Tryz.prog (BG l):=by
 intro t m f via h;simp only [BG,Vh] at h;obtain ⟨hm,h⟩:=ah h;have hm:m = "earshot/gram.row":=by simpa using hm
 subst hm
 have key:∀{t j:TypeId}{u:FuncId}{r:Option (FuncId×YK)},cond (Nat.beq t j) (some (u,YK.same)) r=some (f,via)->(t=j/\f=u/\via=.same)∨r=some (f,via):=fun {t j u r} h=>by
  cases e:Nat.beq t j with
  |false=>rw[e]at h;exact .inr h
  |true=>rw[e]at h;cases h;exact .inl ⟨ID e,rfl,rfl⟩
 rcases key h with⟨rfl,rfl,rfl⟩|h
 ·rw[JK];exact Zt
 rcases key h with⟨rfl,rfl,rfl⟩|h
 ·rw[JK];exact Zu
 rcases key h with⟨rfl,rfl,rfl⟩|h
 ·rw[JK];exact Zs
 rcases key h with⟨rfl,rfl,rfl⟩|h
 ·rw[JK];exact Zv
 cases h
theorem Qg{P:Program}{X:eC}{f:FuncId}{g:List AV->St->Option (AV×St)}(h:X.orc f=some g)(a:List AV)(s:St):(Ev.at_ P X 1).call f a s=g a s:=by have e:(Ev.at_ P X 1).call=pY P X (Ev.at_ P X 0):=rfl;rw[e];unfold pY;rw[h]
theorem Zw(L:Oc)(j:yb L)(hd:xu L=true):∃E,Mc Tryz.prog (BG L) E/\∀p∈L,∀a s,E.call p.1 a s=p.2 a s:=by have hs:=fun k=>xM l0 oc (OO L) (fun {f g} h=>pj j.all h) k;exact⟨_,⟨1,rfl,hs 1,hs 2⟩,fun p hp a s=>Qg (X:=BG L) (wv hd p hp) a s⟩
theorem OP (L:Oc):(BG L).meth 277 "earshot/gram.row" = some (250,.same)/\(BG L).meth 279 "earshot/gram.row" = some (253,.same)/\(BG L).meth 281 "earshot/gram.row" = some (255,.same)/\(BG L).meth 282 "earshot/gram.row" = some (256,.same):=⟨by kernel_rfl,by kernel_rfl,by kernel_rfl,by kernel_rfl⟩
noncomputable def rowP:=ofE SX UM fun d=>.tup [TG (d.1.row d.2),.i .i64 0]
theorem R8{L:LG}{h:cO}(hL:Fl L)(hh:ck (L.o-1) L.v h)(s:St):ab rowP [.agg L.cells,.vw (is h) h.length] s=some (.tup [TG (L.row h),.i .i64 0],s):=fT (Ok:=UM) (f:=fun d=>.tup [TG (d.1.row d.2),.i .i64 0]) (d:=(L,h)) Jr ⟨hL,hh⟩ s
theorem Ux:ag Tryz.prog 141 (ab rowP):=by
 refine aE (by kernel_rfl) Tryz.func141 Tryz.ntmps141 rfl ?_;intro args v h0;obtain ⟨⟨L,h⟩,am,rfl,rfl⟩:=cU h0;clear h0;obtain ⟨hL,hh⟩:Fl L/\ck (L.o - 1) L.v h:=am;obtain ⟨eO,eV,v1,ok⟩:=hL.tab;obtain ⟨E,M,hc⟩:=Zw [(183,ab ckHV),(184,ab wayP),(250,fS (mixedF L.o L.v L.gs)),(253,fS (discF L.o L.v L.gs (L.o + 1))),(255,fS (typedF L.o L.v L.gs (L.o + 1))),(256,fS (addedF L.o L.v L.gs))] ⟨WZ,Uu,QL ok,UH ok _,QC ok _,QW ok⟩ rfl;simp only [aAJ] at hc;obtain ⟨c1,c2,c3,c4,c5,c6,_⟩:=hc;have u:=WK hL hh;have y:=VN hL;obtain ⟨m1,m2,m3,m4⟩:=OP [(183,ab ckHV),(184,ab wayP),(250,fS (mixedF L.o L.v L.gs)),(253,fS (discF L.o L.v L.gs (L.o + 1))),(255,fS (typedF L.o L.v L.gs (L.o + 1))),(256,fS (addedF L.o L.v L.gs))];have hH:su L.o L.v L.o h:=⟨ok.o1,cC _,hh⟩;have C:uy L.o L.v L.o h:=⟨cC _,hh⟩;have key:∃ t f x,sw L = .ifc t x/\(BG [(183,ab ckHV),(184,ab wayP),(250,fS (mixedF L.o L.v L.gs)),(253,fS (discF L.o L.v L.gs (L.o + 1))),(255,fS (typedF L.o L.v L.gs (L.o + 1))),(256,fS (addedF L.o L.v L.gs))]).meth t "earshot/gram.row" = some (f,.same)/\∀ s,E.call f [x,.i .i64 (L.o:Int),.vw (is h) h.length] s = some (.sl s.nx 0 (L.v + 1) (L.v + 1),s.new (.cells (fr (L.row h)) 31 false)):=by
  obtain⟨hT,j⟩:=oG hL.err;by_cases A:L.k=2
  ·rw[A]at j;have ad:L.qs.length=L.o+1:=by unfold aR at j;simp only[iF (show ¬(2:Int)=1 by decide),oR,gE,aBp]at j;have:=j.1.1.2;omega
   have Z:Rg L.o L.mix:=⟨by simpa [LG.qs,jG]using ad,fun x Z=>⟨hL.ok.hmix.1 x Z,(hL.ok.hmix.1 x Z).qb⟩⟩;refine⟨_,_,_,by unfold sw;rw[oR A],m1,fun s=>?_⟩;rw[c3,OH L.gs Z hH];unfold LG.row qX;rw[iF (by omega),oR A];rfl
  by_cases B:L.k=3
  ·rw[B]at j;obtain⟨a0,a1,_⟩:=qc j;refine⟨_,_,_,by unfold sw;rw[iF A,oR B],m2,fun s=>?_⟩;rw[c4,JT L.gs (aAV _) ⟨⟨hL.ok.ham,hL.ok.ham.qb,a0⟩,a1⟩ C];unfold LG.row qX;rw[iF (by omega),iF A,oR B]
  by_cases k4:L.k=4
  ·refine⟨_,_,_,by unfold sw;rw[iF A,iF B,oR k4],m3,fun s=>?_⟩;rw[c5,Cx L.gs (aAV _) C];unfold LG.row qX;rw[iF (by omega),iF A,iF B]
  have k1:L.k=1:=by
   unfold aR at j;by_cases h1:L.k=1
   ·exact h1
   rw[iF h1,iF A,iF B,iF k4]at j;cases j
  rw[k1]at j;obtain⟨a0,_⟩:=tD j;refine⟨_,_,_,by unfold sw;rw[iF A,iF B,iF k4],m4,fun s=>?_⟩;rw[c6,Q6 L.gs ⟨hL.ok.ham,hL.ok.ham.qb,a0⟩ hH];unfold LG.row qX;rw[oR k1]
 obtain ⟨t,f,x,Y,al,U⟩:=key;rw [Y] at y;have an:(L.row h).length = L.v + 1:=vT _ _ _ _ _ _ _;generalize L.row h = qs at *;clear m1 m2 m3 m4 Y c3 c4 c5 c6;have f1:=hL.ok.ham.fn;have f2:=hL.ok.ham.fd;refine ⟨by simp only [SX,aq,bare,mR hL.ok]; rfl,rfl,nE rfl,?_⟩;unfold SX;dsimp only;obtain ⟨N,hN⟩:∃ N,h.length = N:=⟨_,rfl⟩;unfold LG.cells at u y ⊢;rw [eO,eV] at u y ⊢;rw [cZ,St.of_nil];unfold TG;rw [hN] at u U ⊢;rw [an];have J:=fun v asn s=>Pn (P:=Tryz.prog) (E:=E) (m:="earshot/gram.row") al v asn s;refine rg M (ax @f1 @f2) ?_;refine zX 0 0 ([.i .i64 (L.o:Int),.i .i64 (L.v:Int),.vw (br L.gs) L.gs.length,.i .i64 L.k,.b L.am.neg,L.am.n,L.am.d,aP L.mix]) [] [(2,.vp [.i .i64 (L.o:Int),.i .i64 (L.v:Int),.vw (br L.gs) L.gs.length,.i .i64 L.k,.b L.am.neg,L.am.n,L.am.d,aP L.mix] 0),(1,.vw (is h) N)] [] ?_ (by repeat' first | exact bK | refine aM ?_ ?_ | exact Wk.frz_ptr | exact eU) aK ?_
 ·simp only[aq,bare,hL.ok.ham.bn,hL.ok.ham.bd];rfl
 refine Jd.seq ?_;refine rg M (ax @c1 @u) ?_;refine aN M ?_;refine GU rfl ?_;refine dr M [] (ax @cJ (ax @c2 (ax @y (ax @YU (ax @Wi (ax @J @U)))))) ?_;refine zX 0 0 (fr qs) [] [(5,.i .i64 0),(4,.vw (fr qs) (L.v+1))] [] ?_ (by repeat' first|exact bK|refine aM ?_ ?_|exact Wk.frz_sl (off:=0) (cC _)|exact eU) aK ?_
 ·exact aJ _
 exact Jd.ret (aw.two rfl rfl rfl rfl)
end
def Py:List AV->Option (List Gr)
 | []=>some []
 | .vw c n::.i .i64 m::r=>(rN c).bind fun l=>(Py r).bind fun gs=>cond (Nat.beq l.length n) (some ((l,m)::gs)) none
 |_=>none
def Xu(x:RF):Bool:=(kg (.agg (rC x))).isSome&&bare x.n&&bare x.d&&flat x.n&&flat x.d
theorem NG{x:RF}(h:Xu x=true):x.Ok:=by unfold Xu at h;simp only[gE]at h;obtain⟨⟨⟨⟨j,u⟩,y⟩,A⟩,B⟩:=h;refine⟨?_,u,y,A,B⟩;obtain⟨q,C⟩:=aBI.1 j;unfold RF.q;rw[C];rfl
def NF:List AV->Option (List RF)
 | []=>some []
 | .b s::x::y::r=>(NF r).map (⟨s,x,y⟩::·)
 |_=>none
def Pa:AV->Option LG
 | .agg [.i .i64 O,.i .i64 V,.vw c _,.i .i64 k,.b s,x,y,.vw m _]=>(Py c).bind fun gs=>(NF m).map fun mx=>⟨O,V,gs,k,⟨s,x,y⟩,mx⟩
 |_=>none
def DY(x:AV):Option LG:=(Pa x).bind fun L=>cond (jJ [x] [.agg L.cells]) (some L) none
theorem Gy{x:AV}{L:LG}(h:DY x=some L):x=.agg L.cells:=by unfold DY at h;rw[sT]at h;obtain⟨u,_,h⟩:=h;obtain⟨j,h⟩:=ah h;cases h;have:=fA _ _ j;simpa using this
theorem Ef:∀gs:List Gr,Py (br gs)=some gs
 | []=>rfl
 |(l,m)::gs=>by show Py (.vw (is l) l.length::.i .i64 m::br gs)=_;simp only[Py,wV,Ef gs,CC,aEf,EQ]
theorem C8:∀l:List RF,NF (KP l)=some l
 | []=>rfl
 |x::l=>by show NF (.b x.neg::x.n::x.d::KP l)=_;simp only[NF,C8 l,AC]
theorem DX(L:LG):DY (.agg L.cells)=some L:=by
 have h:Pa (.agg L.cells)=some L:=by simp only[LG.cells,Pa,Ef,C8,CC,AC]
 simp only[DY,h,CC,eg,EQ]
def Yj(L:LG):Bool:=Xu L.am&&L.mix.all Xu&&Nat.ble L.mix.length 1000&&Nat.ble L.gs.length 1000&&decide (L.err=0)&&decide (L.V<=8)
theorem Wq{L:LG}(h:Yj L=true):Fl L:=by unfold Yj at h;simp only[gE,Of,aAv,IS]at h;obtain⟨⟨⟨⟨⟨j,u⟩,y⟩,A⟩,B⟩,C⟩:=h;exact⟨⟨NG j,⟨fun x J=>NG (u x J),y⟩,A⟩,B,C⟩
theorem NH{x:RF}(h:x.Ok):Xu x=true:=by unfold Xu;rw[h.v,h.bn,h.bd,h.fn,h.fd];rfl
theorem Wr{L:LG}(h:Fl L):Yj L=true:=by unfold Yj;simp only[gE,Of,aAv,IS];exact⟨⟨⟨⟨⟨NH h.ok.ham,fun x j=>NH (h.ok.hmix.1 x j)⟩,h.ok.hmix.2⟩,h.ok.hgs⟩,h.err⟩,h.few⟩
def Pv(L:LG)(h:cO):Bool:=Nat.beq h.length (L.o-1)&&h.all fun x=>decide (0<=x)&&decide (x<=(L.v:Int))
theorem Ea{L:LG}{h:cO}:Pv L h=true↔ck (L.o-1) L.v h:=by unfold Pv;simp only[gE,Of,IS,aBc];exact Iff.rfl
def zt(args:List AV)(s:St):Option (AV×St):=match args with
 | [x,y]=>(DY x).bind fun L=>(pT s y).bind fun h=>cond (Yj L&&Pv L h) (some (.tup [TG (L.row h),.i .i64 0],s)) none
 |_=>none
def Rl(μ:Mu)(w:World):Mu:=⟨fun _=>none,fun b i=>match μ.fz b i with
 |some u=>some u
 |none=>match eE w b i with
  |some (.int .i64 z)=>some (.int .i64 z)
  |_=>none⟩
theorem OE(μ:Mu)(w:World){b i:Nat}{u:Value}(h:(Rl μ w).fz b i=some u):μ.fz b i=some u∨eE w b i=some u/\∃z,u=.int .i64 z:=by
 simp only[Rl]at h;split at h
 ·next j e=>cases h;exact .inl e
 split at h
 ·next z e=>cases h;exact .inr ⟨e,z,rfl⟩
 cases h
theorem SD(μ:Mu)(w:World){b i:Nat}{u:Value}(h:μ.fz b i=some u):(Rl μ w).fz b i=some u:=by simp only[Rl,h]
theorem SE{μ:Mu}{s:St}{w:World}(x:bU μ s w){b i:Nat}{z:Int}(h:w.cell? ⟨b,i,none⟩=some (.int .i64 z)):(Rl μ w).fz b i=some (.int .i64 z):=by
 have j:=gU h rfl;simp only[Rl];cases e:μ.fz b i with
 |none=>simp only[j]
 |some u=>have:=(x.fz b i u e).2.1;rw[j]at this;simp only[iD]at this;rw[this]
theorem SB{μ:Mu}{s:St}{w:World}(j:bU μ s w):bU (Rl μ w) ⟨.nil,0⟩ w:=⟨⟨fun o x e=>(by cases e),fun o o' x x' p p' e=>(by cases e),fun o n A m c o' x' p' e=>(by cases e),fun o _=>rfl⟩,fun b i v hv=>by
 rcases OE μ w hv with h|⟨h,_⟩
 ·obtain⟨a,c,_⟩:=j.fz b i v h;exact⟨a,c,fun o x p e=>(by cases e)⟩
 exact⟨xc h,h,fun o x p e=>(by cases e)⟩⟩
theorem Wm{μ:Mu}{s:St}{w:World}(J:bU μ s w){v:Value}{l:List Int}(h:bR w v l):VR (Rl μ w) (.vw (is l) l.length) v:=by obtain⟨A,c,rfl,N,hm,y⟩:=h.open_;simp only[VR];refine⟨l.map (Value.int .i64),⟨A,c,rfl,N,by unfold maxLen;omega,fun hl=>?_⟩,qP fun x _=>by simp[VR]⟩;obtain⟨b,off,e,_,_⟩:=y 0 _ (bY hl);refine⟨b,off,e,fun i u hu=>?_⟩;rw[mT,iN]at hu;obtain⟨x,U,rfl⟩:=hu;obtain⟨Y,C,B,_,j⟩:=y i x U;rw[e]at B;cases B;exact SE J j
theorem TF{μ μ2:Mu}(Y:∀b i u,μ.fz b i=some u->(∀z,u≠.int .i64 z)->μ2.fz b i=some u){qs:List Rat}{n:Nat}{v:Value}(h:VR μ (.vw (fr qs) n) v):VR μ2 (.vw (fr qs) n) v:=by
 have key:∀{qs:List Rat}{cs:List Value},ap μ.blind (fr qs) cs->ap μ2.blind (fr qs) cs/\∀u∈cs,∀z,u≠.int .i64 z:=by
  intro qs
  induction qs with
  |nil=>intro cs h;simp only[fr,List.flatMap_nil,ap]at h;subst h;exact⟨ap.nil_,fun u hu=>by cases hu⟩
  |cons q qs ih=>
   intro cs h;have h:ap μ.blind (ai q++fr qs) cs:=h;simp only[ai,aAy,aAB,ap]at h;obtain⟨x,_,rfl,j,y,_,rfl,B,z,cs,rfl,C,U⟩:=h;obtain⟨J,N⟩:=ih U;have num:∀{m:Nat}{u:Value},VR μ.blind (.num m) u->VR μ2.blind (.num m) u/\∀z,u≠.int .i64 z:=by intro m u hu;simp only[VR]at hu⊢;obtain⟨l,Z,a2,a3,A,cap,rfl,a4,a5,a6⟩:=hu;refine⟨⟨l,Z,a2,a3,A,cap,rfl,a4,a5,fun hl=>?_⟩,fun z e=>by cases e⟩;obtain⟨b,base,e,hf⟩:=a6 hl;refine⟨b,base,e,fun i u hu=>Y _ _ _ (hf i u hu) fun z ez=>?_⟩;rw[mT,iN]at hu;obtain⟨d,_,rfl⟩:=hu;cases ez
   refine⟨ap.cons (by simpa only[VR]using j) (ap.cons (num B).1 (ap.cons (num C).1 J)),fun u hu=>?_⟩;simp only[Is]at hu;rcases hu with rfl|rfl|rfl|hu
   ·simp only[VR]at j;subst j;exact fun z e=>by cases e
   ·exact(num B).2
   ·exact(num C).2
   exact N u hu
 simp only[VR]at h⊢;obtain⟨cs,⟨A,cap,rfl,j,B,C⟩,U⟩:=h;obtain⟨J,N⟩:=key U;refine⟨cs,⟨A,cap,rfl,j,B,fun hn=>?_⟩,J⟩;obtain⟨b,base,e,hf⟩:=C hn;exact⟨b,base,e,fun i u hu=>Y _ _ _ (hf i u hu) (N u (eQ hu))⟩
theorem E4:ag Tryz.prog 141 zt:=by
 intro args s v s' h;unfold zt at h;split at h
 ·next x y=>
  simp only[sT]at h;obtain⟨L,h1,hs,h2,N⟩:=h;obtain⟨U,N⟩:=ah N;cases N;simp only[gE]at U;have hL:=Wq U.1;have hh:=Ea.1 U.2;obtain rfl:=Gy h1;obtain⟨⟨co,_,_⟩,hr⟩:=Ux (R8 hL hh ⟨.nil,0⟩);refine⟨⟨co,cC _,id⟩,?_⟩;intro μ w vs n J C hF;simp only[ap]at C;obtain⟨x',_,rfl,ha,y',_,rfl,hb,rfl⟩:=C;have hx:VR (Rl μ w) (.agg L.cells) x':=d7 (μ:=μ) (fun b i v j=>SD μ w j) _ (by simp only[bare];exact mR hL.ok) ha;have hy:=Wm J (wW J h2 hb);refine(hr (μ:=Rl μ w) n (SB J) (ap.cons hx (ap.cons hy ap.nil_)) (fun _ _ _=>rfl)).mono ?_;rintro e w' ⟨v',μ',rfl,r,t,j⟩;have A:Below w.heap.size w w':=⟨t.os,t.tape,t.output,t.size,fun g hg=>t.blk g hg fun o x p e=>(by cases e)⟩;obtain⟨μ2,r2,t2,n2,_,d2⟩:=jw J A;refine⟨v',μ2,rfl,r2,t2,?_⟩;simp only[VR]at j;obtain⟨l',rfl,j⟩:=j;simp only[ap]at j;obtain⟨u,_,rfl,hu,u2,_,rfl,B,rfl⟩:=j
  have Z:=TF (μ2:=μ2) (fun b i u hz Y=>by
   rcases t.fz b i u hz with h|h|⟨o,x,p,e,_⟩|h
   ·rcases OE μ w h with h|⟨_,z,rfl⟩
    ·exact t2.sub.fz b i u h
    exact absurd rfl (Y z)
   ·exact n2 b i u h (r.fz b i u hz).2.1
   ·cases e
   ·exact d2 b i u (eB (r.fz b i u hz).2.1 (li h)) h) hu
  simp only[VR]at B;subst B;simp only[VR];exact⟨[u,.int .i64 0],rfl,ap.cons Z (ap.cons (by simp[VR]) ap.nil_)⟩
 cases h
end Go.Proofs.YtfoceannfdbinaaGreat
