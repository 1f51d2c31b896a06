/- Lemmas. -/
import Derived.Test.YtfoceannfdbinaaGreatW43
set_option linter.all false
set_option maxRecDepth 1000000
set_option maxHeartbeats 32000000
namespace Go.Proofs.YtfoceannfdbinaaGreat
open Go.RowKit
def Xv(args:List AV)(s:St)(v:AV)(s':St):Prop:=∃(o:Nat)(a b:Int),args=[.sl o 0 2 2]/\s.h.get o=some (.cells [.i .i64 a,.i .i64 b] 39 false)/\v=.i .i64 (if a=0 then b else a)/\s'=s
theorem X7{s:St}{o:Nat}{a b:Int}(h:s.h.get o=some (.cells [.i .i64 a,.i .i64 b] 39 false)):relS Xv [.sl o 0 2 2] s=some (.i .i64 (if a=0 then b else a),s):=by refine uI ?_ ⟨o,a,b,rfl,h,rfl,rfl⟩;rintro A s2 ⟨y,u,x,e,j,rfl,rfl⟩;simp only[rW,AV.sl.injEq,and_true]at e;subst e;rw[h]at j;simp only[iD,AO.cells.injEq,rW,AV.i.injEq,true_and,and_true]at j;obtain⟨rfl,rfl⟩:=j;exact⟨rfl,rfl⟩
theorem WX:ag Tryz.prog 122 (relS Xv):=by
 obtain⟨E,M⟩:=uq;refine pZ (by kernel_rfl) Tryz.func122 Tryz.ntmps122 rfl fun {args s v s'} h=>?_;obtain⟨o,a,b,rfl,Z,rfl,rfl⟩:=pd h;have y:s'.h.get o=some (jF ([o].getD · 0) (.cells [.i .i64 a,.i .i64 b] 39 false)):=Z;have u:∀j,(St.of [(0,some (.cells [.i .i64 a,.i .i64 b] 39 false))] 1).h.get j=gF [(0,some (.cells [.i .i64 a,.i .i64 b] 39 false))] j:=fun j=>St.of_get 1 j _;refine⟨[o],[.sl 0 0 2 2],St.of [(0,some (.cells [.i .i64 a,.i .i64 b] 39 false))] 1,.i .i64 (if a=0 then b else a),by simp,rfl,fun j x C=>?_,fun j hj=>?_,rfl,rfl,nE rfl,rfl,rfl,rfl,fun _ _=>rfl,fun {μ w vs} hR hvs j hj=>?_,?_⟩
 ·rw[u]at C
  match j,C with
  |0,C=>cases C;exact⟨by simp,rfl,y⟩
  |_+1,C=>cases C
 ·rw[u];have:j=0:=by simp at hj;omega
  subst this;intro Y;cases Y
 ·have:j=0:=by simp at hj;omega
  subst this;simp only[ap,VR]at hvs;obtain⟨_,_,_,⟨p,_,hp,_⟩,_⟩:=hvs;exact⟨p,hp⟩
 suffices hJ:Jb 1 Tryz.prog _ ⟨_,_,Tr.ofList [.sl 0 0 2 2],none,[]⟩ (St.of [(0,some (.cells [.i .i64 a,.i .i64 b] 39 false))] 1) (aw Tryz.prog _ fun N t=>N=.i .i64 (if a=0 then b else a)/\t.h.get 0=some (.cells [.i .i64 a,.i .i64 b] 39 false))from
  Jd.mono hJ fun ex fr s q=>aw.mono (fun N t hv=>⟨hv.1,fun k hk=>by
   obtain rfl:k=0:=by simp at hk;omega
   exact⟨_,hv.2,rfl,y⟩⟩) q
 rw[pk];refine aN M ?_;refine aN M ?_;refine Jd.seq ?_;refine aN M ?_;refine Jd.loopB (fun k g s=>∃i:Nat,i+k=2/\(1<=i->a=0)/\(2<=i->b=0)/\g=⟨122,18,Tr.of [(8,.i .i64 (i:Int)),(7,.i .i64 2),(6,.sl 0 0 2 2),(3,.i .i64 0)],none,[]⟩/\s=St.of [(0,some (.cells [.i .i64 a,.i .i64 b] 39 false))] 1) 2 ?_ ?_
 ·exact⟨_,_,(Iv 1 [0] [(8,.i .i64 ((0:Nat):Int)),(7,.i .i64 2),(6,.sl 0 0 2 2),(3,.i .i64 0)] [(0,some (.cells [.i .i64 a,.i .i64 b] 39 false))]),0,by omega,by omega,by omega,rfl,rfl⟩
 rintro k _ _ ⟨i,hi,ha,U,rfl,rfl⟩ Q' hex A J
 match i,hi with
 |0,hi=>
  refine aN M ?_;refine Jd.seq ?_;refine Jd.cnd rfl (fun _=>?_) (fun h=>absurd h (by decide));refine Jd.skipT ?_;refine Jd.seq (Jd.block ?_);clear hex;refine aN M ?_;obtain⟨e,he⟩:∃e,decide (a=0)=e:=⟨_,rfl⟩;cases e with
  |false=>have B:¬a=0:=io he;refine rg M (ax @he @aBd) ?_;refine cT rfl ?_;refine aN M ?_;refine Jd.ret ?_;refine A _ _ ?_;refine gW.r (aw.one rfl rfl ⟨?_,Er⟩);rw[iF B]
  |true=>have B:a=0:=gT he;refine rg M (ax @he @aBu) ?_;refine cF rfl ?_;refine Jd.skip ?_;refine bW.norm ?_;show Jb _ _ _ _ _ _;refine f6 M ?_;exact J _ _ ⟨k-1,_,_,by omega,(Iv 1 [0] [(8,.i .i64 ((1:Nat):Int)),(7,.i .i64 2),(6,.sl 0 0 2 2),(3,.i .i64 0)] [(0,some (.cells [.i .i64 a,.i .i64 b] 39 false))]),1,by omega,fun _=>B,by omega,rfl,rfl⟩
 |1,hi=>
  refine aN M ?_;refine Jd.seq ?_;refine Jd.cnd rfl (fun _=>?_) (fun h=>absurd h (by decide));refine Jd.skipT ?_;refine Jd.seq (Jd.block ?_);clear hex;refine aN M ?_;obtain⟨e,he⟩:∃e,decide (b=0)=e:=⟨_,rfl⟩;cases e with
  |false=>have B:¬b=0:=io he;refine rg M (ax @he @aBd) ?_;refine cT rfl ?_;refine aN M ?_;refine Jd.ret ?_;refine A _ _ ?_;refine gW.r (aw.one rfl rfl ⟨?_,Er⟩);rw[oR (ha (by omega))]
  |true=>have B:b=0:=gT he;refine rg M (ax @he @aBu) ?_;refine cF rfl ?_;refine Jd.skip ?_;refine bW.norm ?_;show Jb _ _ _ _ _ _;refine f6 M ?_;exact J _ _ ⟨k-1,_,_,by omega,(Iv 1 [0] [(8,.i .i64 ((2:Nat):Int)),(7,.i .i64 2),(6,.sl 0 0 2 2),(3,.i .i64 0)] [(0,some (.cells [.i .i64 a,.i .i64 b] 39 false))]),2,by omega,fun _=>ha (by omega),fun _=>B,rfl,rfl⟩
 |2,hi=>refine aN M ?_;refine Jd.seq ?_;refine Jd.cnd rfl (fun h=>absurd h (by decide)) (fun _=>?_);refine Jd.exitT (hex _ _ ?_);show Jb _ _ _ _ _ _;refine aN M ?_;refine Jd.ret (aw.one rfl rfl ⟨?_,Er⟩);rw[oR (ha (by omega)),U (by omega)]
 |_+3,hi=>omega
def Po(f n c:Nat):Option AO->Option (List Int)
 |some (.cells l _ _)=>match getR l f (n*1)with
  |some l=>cond (Nat.ble n c) (n9 l) none
  |none=>none
 |_=>none
theorem Pp(s:St)(o f n c:Nat):pT s (.sl o f n c)=Po f n c (s.h.get o):=by
 have key:∀r:Option AO,(match (match r with
   |some (.cells l _ _)=>getR l f (n*1)
   |_=>none)with
  |some l=>cond (Nat.ble n c) (n9 l) none
  |none=>none)=Po f n c r:=by
  intro r;cases r with
  |none=>rfl
  |some y=>cases y<;>rfl
 exact key (s.h.get o)
theorem GG{n:Nat}(hn:n<=3){h:List Int}(hl:h.length=n)(t:TypeId):Po 0 n 4 (some (.cells [.i .i64 (h.getD 0 0),.i .i64 (h.getD 1 0),.i .i64 (h.getD 2 0),.i .i64 (h.getD 3 0)] t false))=some h:=by
 subst hl
 match h,hn with
 | [],_=>rfl
 | [_],_=>rfl
 | [_,_],_=>rfl
 | [_,_,_],_=>rfl
def Px(D:GD)(s:St):Option (List Int)->Option (AV×St)
 |some hl=>cond (Pv D.L hl) (some (.tup [TG (D.row hl),.i .i64 0],s)) none
 |none=>none
theorem Wy{D:GD}(hD:D.Ok)(y:AV)(s:St):zt [.agg [.i .i64 D.O,.i .i64 D.V,D.lv,.i .i64 D.k,.b D.neg,D.x,D.y,D.mx],y] s=Px D s (pT s y):=by have h:=DX D.L;rw[hD.cells]at h;unfold lC at h;simp only[zt,h,CC,Wr hD.lg,aAL];cases pT s y<;>rfl
theorem GJ{D:GD}(hD:D.Ok){h:cO}(hh:ck D.h D.V h)(s:St):Px D s (some h)=some (.tup [.vw (fr (D.row h)) (D.V+1),.i .i64 0],s):=by have j:Pv D.L h=true:=Ea.2 (by rw[hD.o,hD.v];exact hh);simp only[Px,j,EQ,TG,hD.row_len]
theorem mF{D:GD}{es:List AE}(j:bO D es)(H:Mu->Prop)(ρ:Nat->Nat)(k:Nat):bA H ρ (.map es k) (.amap (bO D)):=by
 refine⟨es,?_,j⟩;obtain⟨hs,_,_,A,B⟩:=j
 have:∀e∈es,NI ρ e=e:=fun e he=>by
  have k1:=aBQ (f:=AE.key) he;have u:=aBQ (f:=AE.val) he;rw[A]at k1;rw[B]at u;obtain⟨a,_,x⟩:=Ac.1 k1;obtain⟨b,_,y⟩:=Ac.1 u;cases e with
  |mk ky vl bo=>subst x;subst y;rfl
 exact((aBf this).trans (List.map_id _)).symm
theorem kw{D:GD}(hD:D.Ok){t:TC}(j:bare t.u=true)(u:bare t.v=true)(H:Mu->Prop)(rl:List Nat)(nx:Nat):bA H (bC (0::1::rl) nx) (.cells (gC D 1 t) 142 false) (.cells (gC D 1 t) 142 false):=by refine bA.cells ?_;simp only[gC,cS,ig,bc _ _ hD.bl,bc _ _ hD.bx,bc _ _ hD.by_,bc _ _ hD.bm,bc _ _ j,bc _ _ u];rfl
def vQ(D:GD)(_:TC)(X:List AV)(v:AV):Prop:=∃(h:cO)(w:Nat),X=[.agg (cB h),.i .i64 (w:Int)]/\ck D.h D.V h/\w<=D.V/\v=fq ((D.row h).getD w 0)
theorem SH(D:GD):∃es,bO D es:=⟨[],[],aBK,fun _ h=>absurd h (aCr),rfl,rfl⟩
theorem Un(c:List AV)(n:Nat):lI Tryz.prog .eql 32 (.vw c (n+1)) .snil=some (.b false):=by simp only[lI,Tryz.underlying32];rfl
theorem Uo:lI Tryz.prog .eql 32 .snil .snil=some (.b true):=by simp only[lI,Tryz.underlying32];rfl
theorem Kf:ag Tryz.prog 90 (relS (fj vQ)):=by
 obtain⟨E,M,c1⟩:=ur zt E4 rfl;refine mf (by kernel_rfl) Tryz.func90 Tryz.ntmps90 rfl (k:=2) (nE rfl) ?_;rintro D t X v hD tu tv hX ⟨h,w,rfl,hh,hw,rfl⟩;refine⟨rfl,?_⟩;obtain⟨o1,o2,v1⟩:=hD.sizes;have hn:=hD.len;rw[dZ];have U:(D.O:Int)-1=(D.h:Int):=by unfold GD.h;omega
 have u:=GG hn hh.1 132;have Z:=GJ hD hh;have Y:=Wy hD;have al:(D.row h).length=D.V+1:=hD.row_len _;obtain⟨q,hq⟩:∃q,(D.row h)[w]?=some q:=⟨_,bY (by omega)⟩;have ad:(D.row h).getD w 0=q:=by rw[eM,hq];rfl
 have y:=i6 hq;have j:∀{es:List AE},bO D es->∀clock,_:=fun J clock=>Lk hD J hh clock;unfold cB at j⊢;generalize h.getD 0 0=a0 at u j⊢;generalize h.getD 1 0=a1 at u j⊢;generalize h.getD 2 0=a2 at u j⊢;generalize h.getD 3 0=a3 at u j⊢;unfold gS gC;rw[ad];refine aN M ?_;refine Jd.openM (o:=1) (I:=bO D) (Er) (SH D) fun es clock J=>?_;simp only[St.of_set];refine Jd.seq ?_;rcases j J clock with x|⟨x,am,C,N,B⟩
 ·refine dr M [] (ax @x @Un) ?_;refine GU rfl ?_;show Jb _ _ _ _ _ _;refine dr M [] (ax @x (ax @iO @y)) ?_;refine tX 4 [0,1,2,3] [(6,.ptr 3 0)] [(3,some (.cells (ai q) 31 false)),(1,some (.amap (bO D))),(0,some (.cells (gC D 1 t) 142 false))] bT (by repeat' first|exact aK|refine aF ?_ ?_|exact mF J _ _ _|exact kw hD tu tv _ _ _|exact dj) ?_;refine Jd.ret (aw.c1 rfl rfl BD ⟨rfl,LL,Er⟩)
 refine dr M [] (ax @x @Uo) ?_;refine cT rfl ?_;apply Jd.drwQ M [] (by kernel_rfl);(· intro K gl A hK;simp only[sv]at A;subst A;simp (maxSteps:=1000000) (disch:=omega) only[↓nD,↓nC,nB,Nat.reduceEqDiff,↓reduceIte,Nat.reduceLT,Nat.reduceAdd,ij,Cc,NE,NO,iO, c1,U,Y,Pp,u,Z,C];exact hK)
 show Jb _ _ _ _ _ _;refine dr M [] (ax @B (ax @iO @y)) ?_;refine tX 4 [0,1,2,3] [(6,.ptr 3 0)] [(3,some (.cells (ai q) 31 false)),(1,some (.amap (bO D))),(0,some (.cells (gC D 1 t) 142 false))] bT (by repeat' first|exact aK|refine aF ?_ ?_|exact mF N _ _ _|exact kw hD tu tv _ _ _|exact dj) ?_;refine Jd.ret (aw.c1 rfl rfl BD ⟨rfl,LL,Er⟩)
def P7(s:St)(z o off n n' off':Nat):Option AO->Option AO->Option (AV×St)
 |some (.cells c t op),some (.cells c' _ _)=>match getR c' off' (min n n'*z)with
   |some l=>cond (Nat.ble (off+l.length) c.length) (some (.i .i64 (min n n':Nat),s.set o (.cells (cz c off l) t op))) none
   |none=>none
 |_,_=>none
theorem P6{P:Program}{e:TypeId}{z:Nat}(B:bG P e=some z)(s:St)(o off n c A j u x:Nat):oE P s e (.sl o off n c) (.sl A j u x)=P7 s z o off n u j (s.h.get o) (s.h.get A):=by
 have key:∀r y:Option AO,(match r,y with
  |some (.cells c t op),some (.cells x _ _)=>match getR x j (min n u*z)with
   |some l=>cond (Nat.ble (off+l.length) c.length) (some (AV.i .i64 (min n u:Nat),s.set o (.cells (cz c off l) t op))) none
   |none=>none
  |_,_=>none)=P7 s z o off n u j r y:=by
  intro r y;unfold P7;rfl
 unfold oE;rw[B];exact key _ _
theorem xB(s:St)(o off n c x j u y:Nat):oE Tryz.prog s 3 (.sl o off n c) (.sl x j u y)=P7 s 1 o off n u j (s.h.get o) (s.h.get x):=P6 FD.1 s o off n c x j u y
theorem BM(s:St)(z o off n u j:Nat)(c y:List AV)(t t':TypeId)(op x:Bool):P7 s z o off n u j (some (.cells c t op)) (some (.cells y t' x))=(getR y j (min n u*z)).bind fun l=>cond (Nat.ble (off+l.length) c.length) (some (.i .i64 (min n u:Nat),s.set o (.cells (cz c off l) t op))) none:=by
 have key:∀g:Option (List AV),(match g with
   |some l=>cond (Nat.ble (off+l.length) c.length) (some (AV.i .i64 (min n u:Nat),s.set o (.cells (cz c off l) t op))) none
   |none=>none)=g.bind fun l=>cond (Nat.ble (off+l.length) c.length) (some (.i .i64 (min n u:Nat),s.set o (.cells (cz c off l) t op))) none:=fun g=>by cases g<;>rfl
 exact key _
theorem fL(D:GD)(H:Mu->Prop)(ρ:Nat->Nat):bA H ρ (.amap (bO D)) (.amap (bO D)):=fun _ j=>mF j H ρ 0
def DA(D:GD)(_:TC)(X:List AV)(v:AV):Prop:=∃(h:cO)(w:Nat),X=[.agg (cB h),.i .i64 (w:Int)]/\ck D.h D.V h/\v=.agg (cB (dq h w))
theorem UE:ag Tryz.prog 144 (relS (fj DA)):=by
 obtain⟨E,M⟩:=uq;refine mf (by kernel_rfl) Tryz.func144 Tryz.ntmps144 rfl (k:=2) (nE rfl) ?_;rintro D t X v hD A B C ⟨h,w,rfl,hh,rfl⟩;refine⟨rfl,?_⟩;obtain⟨o1,J,N⟩:=hD.sizes;have hn:=hD.len;rw[dZ];have hl:=hh.1;have j:(D.O:Int)-1=(D.h:Int):=by unfold GD.h;omega
 unfold gS gC
 match h,hl with
 | [],hl=>
  have y:(D.h:Int)=0:=by rw[<-hl];rfl
  rw[y]at j;have u:cB []=[.i .i64 0,.i .i64 0,.i .i64 0,.i .i64 0]:=rfl;have x:cB (dq [] (w:Int))=[.i .i64 0,.i .i64 0,.i .i64 0,.i .i64 0]:=rfl;rw[u,x];refine aN M ?_;refine Jd.seq ?_;refine rg M @j ?_;refine aN M ?_;refine GU rfl ?_;show Jb _ _ _ _ _ _;refine aN M ?_;refine tX 4 [0,1,2,3] [(6,.ptr 3 0)] [(3,some (.cells [.i .i64 0,.i .i64 0,.i .i64 0,.i .i64 0] 132 false)),(1,some (.amap (bO D))),(0,some (.cells (gC D 1 t) 142 false))] bT (by repeat' first|exact aK|refine aF ?_ ?_|exact fL D _ _|exact kw hD A B _ _ _|exact dj) ?_;refine Jd.ret (aw.c1 rfl rfl BD ⟨rfl,LL,Er⟩)
 | [b0],hl=>
  have y:(D.h:Int)=1:=by rw[<-hl];rfl
  rw[y]at j;have u:cB [b0]=[.i .i64 b0,.i .i64 0,.i .i64 0,.i .i64 0]:=rfl;have x:cB (dq [b0] (w:Int))=[.i .i64 (w:Int),.i .i64 0,.i .i64 0,.i .i64 0]:=rfl;rw[u,x];refine aN M ?_;refine Jd.seq ?_;refine rg M @j ?_;refine aN M ?_;refine cT rfl ?_;refine dr M [] (ax @xB (ax @BM (ax (show min 1 0=0 from rfl) (ax (show min 2 1=1 from rfl) (ax (show min 3 2=2 from rfl) @CC.{0,0}))))) ?_;refine f6 M ?_;show Jb _ _ _ _ _ _;refine aN M ?_;refine tX 4 [0,1,2,3] [(6,.ptr 3 0)] [(3,some (.cells [.i .i64 (w:Int),.i .i64 0,.i .i64 0,.i .i64 0] 132 false)),(1,some (.amap (bO D))),(0,some (.cells (gC D 1 t) 142 false))] bT (by repeat' first|exact aK|refine aF ?_ ?_|exact fL D _ _|exact kw hD A B _ _ _|exact dj) ?_;refine Jd.ret (aw.c1 rfl rfl BD ⟨rfl,LL,Er⟩)
 | [b0,b1],hl=>
  have y:(D.h:Int)=2:=by rw[<-hl];rfl
  rw[y]at j;have u:cB [b0,b1]=[.i .i64 b0,.i .i64 b1,.i .i64 0,.i .i64 0]:=rfl;have x:cB (dq [b0,b1] (w:Int))=[.i .i64 b1,.i .i64 (w:Int),.i .i64 0,.i .i64 0]:=rfl;rw[u,x];refine aN M ?_;refine Jd.seq ?_;refine rg M @j ?_;refine aN M ?_;refine cT rfl ?_;refine dr M [] (ax @xB (ax @BM (ax (show min 1 0=0 from rfl) (ax (show min 2 1=1 from rfl) (ax (show min 3 2=2 from rfl) @CC.{0,0}))))) ?_;refine f6 M ?_;show Jb _ _ _ _ _ _;refine aN M ?_;refine tX 4 [0,1,2,3] [(6,.ptr 3 0)] [(3,some (.cells [.i .i64 b1,.i .i64 (w:Int),.i .i64 0,.i .i64 0] 132 false)),(1,some (.amap (bO D))),(0,some (.cells (gC D 1 t) 142 false))] bT (by repeat' first|exact aK|refine aF ?_ ?_|exact fL D _ _|exact kw hD A B _ _ _|exact dj) ?_;refine Jd.ret (aw.c1 rfl rfl BD ⟨rfl,LL,Er⟩)
 | [b0,b1,b2],hl=>
  have y:(D.h:Int)=3:=by rw[<-hl];rfl
  rw[y]at j;have u:cB [b0,b1,b2]=[.i .i64 b0,.i .i64 b1,.i .i64 b2,.i .i64 0]:=rfl;have x:cB (dq [b0,b1,b2] (w:Int))=[.i .i64 b1,.i .i64 b2,.i .i64 (w:Int),.i .i64 0]:=rfl;rw[u,x];refine aN M ?_;refine Jd.seq ?_;refine rg M @j ?_;refine aN M ?_;refine cT rfl ?_;refine dr M [] (ax @xB (ax @BM (ax (show min 1 0=0 from rfl) (ax (show min 2 1=1 from rfl) (ax (show min 3 2=2 from rfl) @CC.{0,0}))))) ?_;refine f6 M ?_;show Jb _ _ _ _ _ _;refine aN M ?_;refine tX 4 [0,1,2,3] [(6,.ptr 3 0)] [(3,some (.cells [.i .i64 b1,.i .i64 b2,.i .i64 (w:Int),.i .i64 0] 132 false)),(1,some (.amap (bO D))),(0,some (.cells (gC D 1 t) 142 false))] bT (by repeat' first|exact aK|refine aF ?_ ?_|exact fL D _ _|exact kw hD A B _ _ _|exact dj) ?_;refine Jd.ret (aw.c1 rfl rfl BD ⟨rfl,LL,Er⟩)
 |_::_::_::_::l,hl=>exact absurd hn (by rw[<-hl];simp)
end Go.Proofs.YtfoceannfdbinaaGreat

namespace Go.Proofs.YtfoceannfdbinaaGreat
open Go.RowKit
structure aW where
 a:cR
 neg:Bool
 n:AV
 d:AV
def aC(x:aW):List AV:=[.i .i64 x.a.f,.i .i64 x.a.t,.i .i64 x.a.w,.i .i64 x.a.v,.b x.neg,x.n,x.d]
def aW.Ok(x:aW):Prop:=fg (.agg [.b x.neg,x.n,x.d])=some x.a.q/\bare x.n=true/\bare x.d=true/\flat x.n=true/\flat x.d=true
def B8:AV->Option aW
 | .agg [.i .i64 f,.i .i64 t,.i .i64 w,.i .i64 v,.b neg,n,d]=>match fg (.agg [.b neg,n,d])with
  |some q=>cond (bare n&&bare d&&flat n&&flat d) (some ⟨⟨f,t,w,v,q⟩,neg,n,d⟩) none
  |none=>none
 |_=>none
theorem mc{x:AV}{r:aW}(h:B8 x=some r):x=.agg (aC r)/\r.Ok:=by
 unfold B8 at h;split at h
 ·split at h
  ·next q u=>
   obtain⟨j,h⟩:=ah h;cases h;simp only[gE]at j;exact⟨rfl,u,j.1.1.1,j.1.1.2,j.1.2,j.2⟩
  cases h
 cases h
theorem sh{x:aW}(h:x.Ok):B8 (.agg (aC x))=some x:=by obtain⟨j,u,y,A,B⟩:=h;simp only[B8,aC,j,u,y,A,B];rfl
theorem aW.Ok.flat{x:aW}(h:x.Ok):(aC x).all flat=true:=by obtain⟨_,_,_,j,u⟩:=h;simp only[aC,aAR,j,u];rfl
theorem aW.Ok.bare{x:aW}(h:x.Ok):aq (aC x)=true:=by obtain⟨_,j,u,_,_⟩:=h;simp only[aC,aq,j,u];rfl
def sf:List AV->Option (List aW)
 | []=>some []
 |a::b::c::d::e::n::m::l=>match B8 (.agg [a,b,c,d,e,n,m])with
  |some x=>(sf l).map (x::·)
  |none=>none
 |_=>none
def ar(l:List aW):List AV:=l.flatMap aC
theorem xN:∀{c:List AV}{l:List aW},sf c=some l->c=ar l/\∀x∈l,x.Ok
 | [],l,h=>by simp only[sf,iD]at h;subst h;exact⟨rfl,fun x j=>by cases j⟩
 | [_],_,h|[_,_],_,h|[_,_,_],_,h|[_,_,_,_],_,h|[_,_,_,_,_],_,h|[_,_,_,_,_,_],_,h=>by simp[sf]at h
 |a::b::c::d::e::n::m::l,r,h=>by
  simp only[sf]at h;split at h
  ·next x j=>
   simp only[iN]at h;obtain⟨A,B,rfl⟩:=h;obtain⟨u,ok⟩:=mc j;obtain⟨rfl,C⟩:=xN B;simp only[AV.agg.injEq]at u;refine⟨?_,fun y hy=>?_⟩
   ·show [a,b,c,d,e,n,m]++ar A=aC x++ar A;rw[u]
   rcases Is.1 hy with rfl|hy
   ·exact ok
   exact C y hy
  cases h
theorem EW:∀{l:List aW},(∀x∈l,x.Ok)->sf (ar l)=some l
 | [],_=>rfl
 |x::l,h=>by show sf (aC x++ar l)=_;have j:=sh (h x Do);simp only[aC]at j;simp only[aC,aAy,aAB,sf,j,EW fun y hy=>h y (tK _ hy),AC]
def Gx:AV->Option (Int×List aW)
 | .agg [.i .i64 T,.snil]=>some (T,[])
 | .agg [.i .i64 T,.vw c n]=>match sf c with
  |some l=>cond (Nat.beq l.length n) (some (T,l)) none
  |none=>none
 |_=>none
def dk(T:Int)(l:List aW):AV:=.agg [.i .i64 T,.vw (ar l) l.length]
theorem zi{x:AV}{T:Int}{l:List aW}(h:Gx x=some (T,l)):(x=dk T l∨(x=.agg [.i .i64 T,.snil]/\l=[]))/\bare x=true/\∀y∈l,y.Ok:=by
 unfold Gx at h;split at h
 ·cases h;exact⟨.inr ⟨rfl,rfl⟩,rfl,fun y hy=>by cases hy⟩
 ·split at h
  ·next r A=>
   obtain⟨j,h⟩:=ah h;cases h;obtain⟨rfl,u⟩:=xN A;rw[aBc]at j;subst j;exact⟨.inl rfl,rfl,u⟩
  cases h
 cases h
theorem O3{T:Int}{l:List aW}(h:∀x∈l,x.Ok):Gx (dk T l)=some (T,l):=by simp only[Gx,dk,EW h,show Nat.beq l.length l.length=true from by simp,EQ]
theorem Wk.lat(H:Mu->Prop)(T:Int){x:AV}{l:List aW}(h:x=dk T l∨(x=.agg [.i .i64 T,.snil]/\l=[])):Wk H x (dk T l):=by
 rcases h with rfl|⟨rfl,rfl⟩
 ·exact Wk.refl H _
 exact Wk.agg (.cons (Wk.refl H _) (.cons (Wk.none H) .nil))
theorem qG(x:aW):(aC x).length=7:=rfl
theorem Q8(x:aW):getR (aC x) 0 7=some (aC x):=rfl
theorem Z0(x:aW):(aC x)[0]?=some (.i .i64 x.a.f):=rfl
theorem ZZ(x:aW):(aC x)[1]?=some (.i .i64 x.a.t):=rfl
theorem ZY(x:aW):(aC x)[2]?=some (.i .i64 x.a.w):=rfl
theorem ZX(x:aW):(aC x)[3]?=some (.i .i64 x.a.v):=rfl
theorem ZW(x:aW):getR (aC x) 4 3=some [.b x.neg,x.n,x.d]:=rfl
theorem Q7(x:aW)(a b c d e f g:AV):cz [a,b,c,d,e,f,g] 0 (aC x)=aC x:=rfl
theorem ac:type_of% (aT @Q8 (aT @Z0 (aT @ZZ (aT @ZY (aT @ZX (aT @ZW (aT @Q7 @qG))))))):=aT @Q8 (aT @Z0 (aT @ZZ (aT @ZY (aT @ZX (aT @ZW (aT @Q7 @qG))))))
theorem mU{l:List aW}{i:Nat}{x:aW}(h:l[i]?=some x):getR (ar l) (i*7) 7=some (aC x):=iw qG h
theorem NR:qz ((1:Int):Rat)<=iY:=EM (V8 1 (by omega)) (by unfold iY;omega)
theorem PN(a b c d e f g h:Bool):(a=true)∨(a=false/\b=true)∨(a=false/\b=false/\c=true)∨(a=false/\b=false/\c=false/\d=true)∨(a=false/\b=false/\c=false/\d=false/\e=true)∨(a=false/\b=false/\c=false/\d=false/\e=false/\f=true)∨(a=false/\b=false/\c=false/\d=false/\e=false/\f=false/\g=true)∨(a=false/\b=false/\c=false/\d=false/\e=false/\f=false/\g=false/\h=true)∨(a=false/\b=false/\c=false/\d=false/\e=false/\f=false/\g=false/\h=false):=by
 cases a;all_goals cases b
 all_goals cases c
 all_goals cases d
 all_goals cases e
 all_goals cases f
 all_goals cases g
 all_goals cases h
 all_goals simp
def pE:List AV->Option AV
 | [x,y]=>match B8 x,B8 y with
  |some a,some b=>some (.b (decide (pH a.a b.a<0)))
  |_,_=>none
 |_=>none
theorem GW{a b:aW}(ha:a.Ok)(j:b.Ok):pE [.agg (aC a),.agg (aC b)]=some (.b (decide (pH a.a b.a<0))):=by simp only[pE,sh ha,sh j]
theorem uX(a:Int):mQ a a=0:=by unfold mQ;simp
theorem uW{a b:Int}(h:¬a=b):mQ a b≠0/\(mQ a b<0↔a<b):=by
 unfold mQ;rcases Int.lt_or_lt_of_ne h with h|h
 ·simp[h]
 have:¬a<b:=by omega
 simp[this,h]
theorem Qd(a b:Int):mQ a b<0↔a<b:=by
 by_cases h:a=b
 ·subst h;simp[uX]
 exact(uW h).2
theorem Mn:ag Tryz.prog 81 (ab pE):=by
 obtain⟨E,M⟩:=uq;refine aE (by kernel_rfl) Tryz.func81 Tryz.ntmps81 rfl ?_;intro args v h;unfold pE at h;split at h
 ·next x y=>
  split at h
  ·next a b ha B=>
   cases h;obtain⟨rfl,C⟩:=mc ha;obtain⟨rfl,J⟩:=mc B;have N:=C.flat;have U:=J.flat;refine⟨by simp only[aq,bare,C.bare,J.bare];rfl,rfl,nE rfl,?_⟩;clear ha B;rw[cZ,St.of_nil];refine rg M (ax @N @U) ?_;refine Jd.seq ?_;refine rg M @ac ?_;refine Jd.cnd rfl (fun j=>?_) (fun j=>?_)
   ·refine rg M @ac ?_;refine Jd.retT (aw.one rfl rfl ?_);have:=uW (a:=a.a.f) (b:=b.a.f) (by simpa using j);simp only[pH,oR this.1,this.2]
   refine Jd.skipT ?_;refine Jd.seq ?_;refine rg M @ac ?_;refine Jd.cnd rfl (fun u=>?_) (fun u=>?_)
   ·refine rg M @ac ?_;refine Jd.retT (aw.one rfl rfl ?_);have:=uW (a:=a.a.t) (b:=b.a.t) (by simpa using u);have j:a.a.f=b.a.f:=by simpa using j
    simp only[pH,j,uX,ne_eq,not_true,aCq,oR this.1,this.2]
   refine Jd.skipT ?_;refine Jd.seq ?_;refine rg M @ac ?_;refine Jd.cnd rfl (fun A=>?_) (fun A=>?_)
   ·refine rg M @ac ?_;refine Jd.retT (aw.one rfl rfl ?_);have:=uW (a:=a.a.w) (b:=b.a.w) (by simpa using A);have j:a.a.f=b.a.f:=by simpa using j
    have u:a.a.t=b.a.t:=by simpa using u
    simp only[pH,j,u,uX,ne_eq,not_true,aCq,oR this.1,this.2]
   refine Jd.skipT ?_;refine rg M @ac ?_;refine Jd.ret (aw.one rfl rfl ?_);have j:a.a.f=b.a.f:=by simpa using j
   have u:a.a.t=b.a.t:=by simpa using u
   have A:a.a.w=b.a.w:=by simpa using A
   simp only[pH,j,u,A,uX,ne_eq,not_true,aCq,Qd]
  cases h
 cases h
def aL(l:List aW):List cR:=l.map (·.a)
theorem pF(l:List aW):(aL l).length=l.length:=by simp[aL]
theorem fY{l:List aW}{i:Nat}{x:aW}(h:l[i]?=some x):d8 (aL l) i=x.a:=EZ (by simp[aL,h])
def kC:List AV->Option AV
 | [x]=>(Gx x).map fun p=>.i .i64 (i3 p.1 (aL p.2))
 |_=>none
theorem wP{T:Int}{ac:List cR}{i:Nat}(hl:ac.length<=20000)(hi:i<ac.length)(h:l8 T ac i=false):i3 T ac=2:=by unfold i3;rw[iF (by omega),iF];rintro⟨_,_,j⟩;have:=Of.1 j i (aAk.2 hi);rw[h]at this;cases this
theorem Bp{T:Int}{ac:List cR}(hl:ac.length<=20000)(h:¬(0<=T/\T<=1000)):i3 T ac=2:=by unfold i3;rw[iF (by omega),iF];rintro⟨j,u,_⟩;exact h ⟨j,u⟩
theorem zj{T:Int}{ac:List cR}(hl:ac.length<=20000)(j:0<=T)(u:T<=1000)(h:∀i,i<ac.length->l8 T ac i=true):i3 T ac=0:=by unfold i3;rw[iF (by omega),oR ⟨j,u,Of.2 fun i hi=>h i (aAk.1 hi)⟩]
theorem IA{q:Rat}:ci q<=0↔¬0<q:=by unfold ci;split<;>(try split)<;>simp_all<;>grind
theorem RZ{q:Rat}:ci q>0↔0<q:=by have:=IA (q:=q);constructor<;>intro h<;>grind
theorem gH(T:Int)(r:cR):(decide (r.f<0) ||(decide (r.f≥r.t) ||(decide (r.t>T) ||(decide (r.w<1) ||(decide (r.w>2000) ||(decide (r.v<0) ||(decide (ci r.q<=0) ||decide (ci (r.q-((1:Int):Rat))>0)))))))) = !iJ T r:=by
 have x:(ci (r.q-((1:Int):Rat))>0)↔¬r.q<=1:=by
  rw[RZ];have:((1:Int):Rat)=1:=rfl;rw[this]
  grind
 unfold iJ;rw[aBO];simp only[aAU,IS,aAA,aAs,IA,x];by_cases j:0<r.q
 ·by_cases u:r.q<=1
  ·simp only[j,u];simp;omega
  simp only[j,u];simp
 simp only[j];simp
theorem gq{T:Int}{l:List aW}{i:Nat}{x:cR}(hl:l.length<=20000)(hi:i<l.length)(j:d8 (aL l) i=x)(h:iJ T x=false):AV.i .i64 2=AV.i .i64 (i3 T (aL l)):=by rw[wP (by simpa [aL]using hl) (i:=i) (by simpa [aL]using hi) (by unfold l8;rw[j,h];rfl)]
theorem Mm:ag Tryz.prog 28 (ab kC):=by
 obtain⟨E,M,c1,c2,c3,c4⟩:∃E,Mc Tryz.prog (fK [(26,ab kS),(23,ab yi),(39,ab xD),(81,ab pE)]) E/\(∀a s,E.call 26 a s=ab kS a s)/\(∀a s,E.call 23 a s=ab yi a s)/\(∀a s,E.call 39 a s=ab xD a s)/\(∀a s,E.call 81 a s=ab pE a s):= ⟨_,DF l0 oc (by simp only[aAJ];exact⟨xR,xT,UI,Mn,fun p hp=>by cases hp⟩),fun _ _=>rfl,fun _ _=>rfl,fun _ _=>rfl,fun _ _=>rfl⟩;refine aE (by kernel_rfl) Tryz.func28 Tryz.ntmps28 rfl ?_;intro args v h;unfold kC at h;split at h
 ·next x=>
  simp only[iN]at h;obtain⟨⟨T,l⟩,hx,rfl⟩:=h;obtain⟨hx,hb,ok⟩:=zi hx;refine⟨by simp only[aq,hb];rfl,rfl,nE rfl,?_⟩;dsimp only;rw[pk,St.of_nil];refine Jd.toL [] [(0,dk T l)] [] rfl .nil ⟨⟨_,rfl,Wk.lat _ T hx⟩,trivial⟩ trivial ?_;clear hx hb;unfold dk;refine aN M ?_;refine Jd.seq ?_;refine aN M ?_;have av:=pF l;refine Jd.cnd rfl (fun h1=>?_) (fun h1=>?_)
  ·refine aN M ?_;refine Jd.retT (aw.one rfl rfl ?_);have:20000<l.length:=by simp at h1;omega
   simp only[i3,av,oR this]
  refine Jd.skipT ?_;have hl:l.length<=20000:=by simp at h1;omega
  clear h1;refine Jd.seq ?_;obtain⟨b,hb⟩:∃b,decide (T<0)=b:=⟨_,rfl⟩;cases b with
  |true=>refine rg M @hb ?_;refine Jd.cnd rfl (fun _=>?_) (fun h1=>by cases h1);refine aN M ?_;refine Jd.retT (aw.one rfl rfl ?_);rw[Bp (by omega) (by simp at hb;omega)]
  |false=>
   refine rg M @hb ?_;refine Jd.cnd rfl (fun h1=>?_) (fun h1=>?_)
   ·refine aN M ?_;refine Jd.retT (aw.one rfl rfl ?_);rw[Bp (by omega) (by simp at h1;omega)]
   refine Jd.skipT ?_;simp at hb h1;refine Jd.seq ?_;refine aN M ?_;refine Jd.loopB (fun k fr s=>∃i:Nat,i+k=l.length/\(∀j,j<i->l8 T (aL l) j=true)/\fr=⟨28,89,Tr.of [(3,.i .i64 i),(2,.i .i64 0),(1,.ptr 0 0)],none,[]⟩/\s=St.of [(0,some (.cells [.i .i64 T,.vw (ar l) l.length] 24 false))] 1) l.length ?_ ?_
   ·exact⟨_,_,(Iv 1 [0] [(3,.i .i64 ((0:Nat):Int)),(2,.i .i64 0),(1,.ptr 0 0)] [(0,some (.cells [.i .i64 T,.vw (ar l) l.length] 24 false))]),0,by omega,fun j hj=>by omega,rfl,rfl⟩
   rintro k _ _ ⟨i,hi,hf,rfl,rfl⟩ Q' hex u an;refine Jd.seq ?_;refine aN M ?_;refine Jd.cnd rfl (fun h1=>?_) (fun h1=>?_);rotate_left
   ·refine Jd.exitT (hex _ _ ?_);show Jb _ _ _ _ _ _;refine aN M ?_;refine Jd.ret (aw.one rfl rfl ?_);have hn:i=l.length:=by simp at h1;omega
    rw[zj (by omega) (by omega) (by omega) fun j hj=>hf j (by omega)]
   have B:i<l.length:=by simp at h1;omega
   obtain⟨x,hx⟩:∃x,l[i]?=some x:=⟨_,bY B⟩;have ad:=ok x (eQ hx);refine Jd.skipT ?_;refine Jd.seq (Jd.block ?_);clear hex;refine rg M (ax @iO (ax (mU hx) (ax @ac @ad.flat))) ?_;have A:=fY hx;obtain⟨b1,C⟩:∃b,decide (x.a.f<0)=b:=⟨_,rfl⟩;obtain⟨b2,J⟩:∃b,decide (x.a.f≥x.a.t)=b:=⟨_,rfl⟩;obtain⟨b3,N⟩:∃b,decide (x.a.t>T)=b:=⟨_,rfl⟩;obtain⟨b4,Y⟩:∃b,decide (x.a.w<1)=b:=⟨_,rfl⟩;obtain⟨b5,Z⟩:∃b,decide (x.a.w>2000)=b:=⟨_,rfl⟩;obtain⟨b6,e6⟩:∃b,decide (x.a.v<0)=b:=⟨_,rfl⟩;obtain⟨b7,e7⟩:∃b,decide (ci x.a.q<=0)=b:=⟨_,rfl⟩;obtain⟨b8,e8⟩:∃b,decide (ci (x.a.q-((1:Int):Rat))>0)=b:=⟨_,rfl⟩;have hs:=aj (vN ad.1);have ho:=aj (wD (z:=1) (by omega) (by omega));have hc:=aj (JY ad.1 (bu NR));rcases PN b1 b2 b3 b4 b5 b6 b7 b8 with rfl|⟨rfl,rfl⟩|⟨rfl,rfl,rfl⟩|⟨rfl,rfl,rfl,rfl⟩|⟨rfl,rfl,rfl,rfl,rfl⟩|⟨rfl,rfl,rfl,rfl,rfl,rfl⟩|⟨rfl,rfl,rfl,rfl,rfl,rfl,rfl⟩|⟨rfl,rfl,rfl,rfl,rfl,rfl,rfl,rfl⟩|⟨rfl,rfl,rfl,rfl,rfl,rfl,rfl,rfl⟩
   ·have U:iJ T x.a=false:=by have:=gH T x.a;simp only[C,Cc,aAi]at this;simpa using this
    refine dr M [] (ax @ac (ax @C (ax @J (ax @N (ax @Y (ax @Z (ax @e6 (ax @e7 (ax @e8 (ax @c1 (ax @c2 (ax @c3 (ax @hs (ax @ho @hc)))))))))))))) ?_;refine cT rfl ?_;refine aN M ?_;refine Jd.ret ?_;refine u _ _ ?_;refine gW.r (aw.one rfl rfl ?_);exact gq hl B A U
   ·have U:iJ T x.a=false:=by have:=gH T x.a;simp only[C,J,Cc,aAi]at this;simpa using this
    refine dr M [] (ax @ac (ax @C (ax @J (ax @N (ax @Y (ax @Z (ax @e6 (ax @e7 (ax @e8 (ax @c1 (ax @c2 (ax @c3 (ax @hs (ax @ho @hc)))))))))))))) ?_;refine cT rfl ?_;refine aN M ?_;refine Jd.ret ?_;refine u _ _ ?_;refine gW.r (aw.one rfl rfl ?_);exact gq hl B A U
   ·have U:iJ T x.a=false:=by have:=gH T x.a;simp only[C,J,N,Cc,aAi]at this;simpa using this
    refine dr M [] (ax @ac (ax @C (ax @J (ax @N (ax @Y (ax @Z (ax @e6 (ax @e7 (ax @e8 (ax @c1 (ax @c2 (ax @c3 (ax @hs (ax @ho @hc)))))))))))))) ?_;refine cT rfl ?_;refine aN M ?_;refine Jd.ret ?_;refine u _ _ ?_;refine gW.r (aw.one rfl rfl ?_);exact gq hl B A U
   ·have U:iJ T x.a=false:=by have:=gH T x.a;simp only[C,J,N,Y,Cc,aAi]at this;simpa using this
    refine dr M [] (ax @ac (ax @C (ax @J (ax @N (ax @Y (ax @Z (ax @e6 (ax @e7 (ax @e8 (ax @c1 (ax @c2 (ax @c3 (ax @hs (ax @ho @hc)))))))))))))) ?_;refine cT rfl ?_;refine aN M ?_;refine Jd.ret ?_;refine u _ _ ?_;refine gW.r (aw.one rfl rfl ?_);exact gq hl B A U
   ·have U:iJ T x.a=false:=by have:=gH T x.a;simp only[C,J,N,Y,Z,Cc,aAi]at this;simpa using this
    refine dr M [] (ax @ac (ax @C (ax @J (ax @N (ax @Y (ax @Z (ax @e6 (ax @e7 (ax @e8 (ax @c1 (ax @c2 (ax @c3 (ax @hs (ax @ho @hc)))))))))))))) ?_;refine cT rfl ?_;refine aN M ?_;refine Jd.ret ?_;refine u _ _ ?_;refine gW.r (aw.one rfl rfl ?_);exact gq hl B A U
   ·have U:iJ T x.a=false:=by have:=gH T x.a;simp only[C,J,N,Y,Z,e6,Cc,aAi]at this;simpa using this
    refine dr M [] (ax @ac (ax @C (ax @J (ax @N (ax @Y (ax @Z (ax @e6 (ax @e7 (ax @e8 (ax @c1 (ax @c2 (ax @c3 (ax @hs (ax @ho @hc)))))))))))))) ?_;refine cT rfl ?_;refine aN M ?_;refine Jd.ret ?_;refine u _ _ ?_;refine gW.r (aw.one rfl rfl ?_);exact gq hl B A U
   ·have U:iJ T x.a=false:=by have:=gH T x.a;simp only[C,J,N,Y,Z,e6,e7,Cc,aAi]at this;simpa using this
    refine dr M [] (ax @ac (ax @C (ax @J (ax @N (ax @Y (ax @Z (ax @e6 (ax @e7 (ax @e8 (ax @c1 (ax @c2 (ax @c3 (ax @hs (ax @ho @hc)))))))))))))) ?_;refine cT rfl ?_;refine aN M ?_;refine Jd.ret ?_;refine u _ _ ?_;refine gW.r (aw.one rfl rfl ?_);exact gq hl B A U
   ·have U:iJ T x.a=false:=by have:=gH T x.a;simp only[C,J,N,Y,Z,e6,e7,e8,Cc,aAi]at this;simpa using this
    refine dr M [] (ax @ac (ax @C (ax @J (ax @N (ax @Y (ax @Z (ax @e6 (ax @e7 (ax @e8 (ax @c1 (ax @c2 (ax @c3 (ax @hs (ax @ho @hc)))))))))))))) ?_;refine cT rfl ?_;refine aN M ?_;refine Jd.ret ?_;refine u _ _ ?_;refine gW.r (aw.one rfl rfl ?_);exact gq hl B A U
   have U:iJ T x.a=true:=by have:=gH T x.a;simp only[C,J,N,Y,Z,e6,e7,e8,aAi]at this;simpa using this
   obtain⟨b9,e9⟩:∃b,decide ((i:Int)>0)=b:=⟨_,rfl⟩;cases b9 with
   |false=>
    refine dr M [] (ax @ac (ax @C (ax @J (ax @N (ax @Y (ax @Z (ax @e6 (ax @e7 (ax @e8 (ax @e9 (ax @c1 (ax @c2 (ax @c3 (ax @hs (ax @ho @hc))))))))))))))) ?_;refine cF rfl ?_;refine Jd.skip ?_;show Jb _ _ _ _ _ _;have i0:i=0:=by simp at e9;omega
    refine f6 M ?_;refine an _ _ ⟨k-1,_,_,by omega,(Iv 1 [0] [(3,.i .i64 ((i+1:Nat):Int)),(2,.i .i64 0),(1,.ptr 0 0)] [(0,some (.cells [.i .i64 T,.vw (ar l) l.length] 24 false))]),i+1,by omega,fun j hj=>?_,rfl,rfl⟩;rcases aCm.1 hj with h|rfl
    ·exact hf j h
    unfold l8;rw[A,U,show nV (aL l) j=true from by unfold nV;simp[i0]];rfl
   |true=>
    have a2:0<i:=by simp at e9;omega
    obtain⟨y,hy⟩:∃y,l[i-1]?=some y:=⟨_,bY (by omega)⟩;have a1:=ok y (eQ hy);have a0:=fY hy;have hb:=aj (GW a1 ad);have hm:((i:Int)-1).toNat=i-1:=by omega
    obtain⟨am,al⟩:∃b,decide (pH y.a x.a<0)=b:=⟨_,rfl⟩;have hr:nV (aL l) i=am:=by unfold nV;rw[a0,A,al,show decide (i=0)=false from by simp;omega];rfl
    cases am with
    |false=>refine dr M [] (ax @ac (ax @C (ax @J (ax @N (ax @Y (ax @Z (ax @e6 (ax @e7 (ax @e8 (ax @e9 (ax @al (ax @c1 (ax @c2 (ax @c3 (ax @c4 (ax @hs (ax @ho (ax @hc (ax @hb (ax @hm (mU hy))))))))))))))))))))) ?_;refine cT rfl ?_;refine aN M ?_;refine Jd.ret ?_;refine u _ _ ?_;refine gW.r (aw.one rfl rfl ?_);rw[wP (by simpa [aL]using hl) (i:=i) (by simpa [aL]using B) (by unfold l8;rw[hr];simp)]
    |true=>
     refine dr M [] (ax @ac (ax @C (ax @J (ax @N (ax @Y (ax @Z (ax @e6 (ax @e7 (ax @e8 (ax @e9 (ax @al (ax @c1 (ax @c2 (ax @c3 (ax @c4 (ax @hs (ax @ho (ax @hc (ax @hb (ax @hm (mU hy))))))))))))))))))))) ?_;refine cF rfl ?_;refine Jd.skip ?_;show Jb _ _ _ _ _ _;refine f6 M ?_;refine an _ _ ⟨k-1,_,_,by omega,(Iv 1 [0] [(3,.i .i64 ((i+1:Nat):Int)),(2,.i .i64 0),(1,.ptr 0 0)] [(0,some (.cells [.i .i64 T,.vw (ar l) l.length] 24 false))]),i+1,by omega,fun j hj=>?_,rfl,rfl⟩;rcases aCm.1 hj with h|rfl
     ·exact hf j h
     unfold l8;rw[A,U,hr];rfl
 cases h
def Zo(l:List Bool)(a:cR):List Bool:=l.set a.t.toNat (l.getD a.t.toNat false ||l.getD a.f.toNat false)
def onB(T:Nat)(ac:List cR):List Bool:=ac.foldl Zo ((List.replicate (T+1) false).set 0 true)
theorem Aa{l:List aW}{i:Nat}{x:aW}(h:l[i]?=some x){j:Nat}{v:AV}(u:j<7)(y:(aC x)[j]?=some v):(ar l)[i*7+j]?=some v:=by have:=i7 qG l i j u;rw[h]at this;rw[show(ar l)[i*7+j]?=_ from this];exact y
theorem ZV{l:List aW}{i:Nat}{x:aW}(h:l[i]?=some x):(ar l)[i*7]?=some (.i .i64 x.a.f):=Aa h (j:=0) (by omega) rfl
theorem ZU{l:List aW}{i:Nat}{x:aW}(h:l[i]?=some x):(ar l)[i*7+1]?=some (.i .i64 x.a.t):=Aa h (by omega) rfl
theorem Y8{l:List aW}{i:Nat}{x:aW}(h:l[i]?=some x):(ar l)[i*7+2]?=some (.i .i64 x.a.w):=Aa h (by omega) rfl
theorem ar4{l:List aW}{i:Nat}{x:aW}(h:l[i]?=some x):getR (ar l) (i*7+4) 3=some [.b x.neg,x.n,x.d]:=uv qG h (by omega) rfl
def Hn(k:Nat)(w:World)(v:Value)(ac:List cR):Prop:=∃cells,Sl w 7 v ac.length cells/\∀(i:Nat)(r:cR),ac[i]?=some r->∃a b c,cells[i*7]?=some (.int .i64 r.f)/\cells[i*7+1]?=some (.int .i64 r.t)/\cells[i*7+2]?=some (.int .i64 r.w)/\cells[i*7+3]?=some (.int .i64 r.v)/\
 cells[i*7+4]?=some a/\cells[i*7+5]?=some b/\cells[i*7+6]?=some c/\aG k w (.agg #[a,b,c]) r.q
theorem Hn.below{k:Nat}{w w':World}{v:Value}{ac:List cR}(h:Hn k w v ac)(j:Below w.heap.size w w'):Hn k w' v ac:=by obtain⟨cells,J,N⟩:=h;refine⟨cells,J.below j,fun i r U=>?_⟩;obtain⟨a,b,c,e0,u,x,y,A,B,C,hf⟩:=N i r U;exact⟨a,b,c,e0,u,x,y,A,B,C,hf.below j⟩
theorem CY{w:World}{g:Nat}{e:TypeId}{a b c d x y z:Value}(h:cg w g e [a,b,c,d,x,y,z]):w.cell? ⟨g,0,none⟩=some a/\w.cell? ⟨g,1,none⟩=some b/\w.cell? ⟨g,2,none⟩=some c/\w.cell? ⟨g,3,none⟩=some d/\w.cell? ⟨g,4,none⟩=some x/\w.cell? ⟨g,5,none⟩=some y/\w.cell? ⟨g,6,none⟩=some z:= ⟨h.cell 0,h.cell 1,h.cell 2,h.cell 3,h.cell 4,h.cell 5,h.cell 6⟩

def Dr:List Int->Int
 | []=>0
 |x::l=>if x≠0 then x else Dr l
theorem Om{l:List Int}{j:Nat}{x:Int}(h:l[j]?=some x):Dr (l.drop j)=if x≠0 then x else Dr (l.drop (j+1)):=by obtain⟨u,rfl⟩:=dO.1 h;rw[AT u];rfl
theorem Sj(a b:cR):Dr [mQ a.f b.f,mQ a.t b.t,mQ a.w b.w,mQ a.v b.v]=pH a b:=by
 unfold pH Dr Dr Dr Dr Dr;by_cases h:mQ a.v b.v=0
 ·simp[h]
 simp[h]

theorem Z6(w:World)(v:Value)(l:List Int)(h:bR w v l)(hl:l.length<=1000) : Calls Tryz.prog 158 #[v] w fun e w'=>e=.returned (.int .i64 (Dr l))/\Below w.heap.size w w':=by
 obtain⟨A,c,rfl,N,al,B⟩:=h.open_;have C:=aS B;obtain⟨n,hn⟩:∃n,l.length=n:=⟨_,rfl⟩;have Y:=aS hn;rw[hn]at N hl⊢;clear h B hn;go_enter Tryz.func158,Tryz.ntmps158;go_wp2_with fail;go_loopg [5,8] n (fun g _ i wr=>∃(j:Nat),i=.int .i64 j/\j+g=n/\Hid (Dr l=Dr (l.drop j))/\wr=w)
 case atStart=>exact⟨0,rfl,by omega,aS rfl,rfl⟩
 obtain⟨j,rfl,hj,J,rfl⟩:=hrel;rcases lE gk with h|h
 ·obtain rfl:j=n:=by omega
  have y:Hid (Dr l=0):=aS (by rw[J.out,AS (by rw[Y.out];exact cC _)];rfl);go_wp2_with fail;go_ret;exact⟨aD y.out.symm,Below.refl _ _⟩
 obtain⟨g,rfl⟩:∃g,gk=g+1:=⟨gk-1,by omega⟩;obtain⟨x,U⟩:∃x,l[j]?=some x:=⟨_,bY (by rw[Y.out];omega)⟩;obtain⟨bb,off,rfl,ad,e0⟩:=C.out j x U;have Z:=aS (Om U);have j0:(0:Int)<=(j:Int):=by omega
 have j1:(j:Int)<(n:Int):=by omega
 have j9:IntKind.i64.wrap ((j:Int)+1)=(j:Int)+1:=aAw _ (by omega);clear U;by_cases u:x=0
 ·have d0:(x != 0)=false:=by simpa using u
  have y:Hid (Dr l=Dr (l.drop (j+1))):=aS (by rw[J.out,Z.out,iF (by simpa using u)]);clear u;go_wp2_with fail;go_roundg g
  case measure=>omega
  case rel=>exact⟨j+1,rfl,by omega,y,rfl⟩
 have d0:(x != 0)=true:=by simpa using u
 have y:Hid (Dr l=x):=aS (by rw[J.out,Z.out,oR u]);clear u;go_wp2_with fail;go_ret;exact⟨aD y.out.symm,Below.refl _ _⟩

theorem Lw(W:World)(a b c d:Int):bR (W.alloc (.cells #[.int .i64 a,.int .i64 b,.int .i64 c,.int .i64 d] 3)).drew (.slice (some ⟨W.heap.size,0,none⟩) 4 4) [a,b,c,d]:=by have h:cg (W.alloc (.cells #[.int .i64 a,.int .i64 b,.int .i64 c,.int .i64 d] 3)).drew W.heap.size 3 [.int .i64 a,.int .i64 b,.int .i64 c,.int .i64 d]:=cg.new W 3 _;exact h.sl (sz:=1) (n:=4) (c:=4) (by simp) (cC _) (by unfold maxLen;omega)
theorem Wb(w:World)(a b:cR)(x y z x' y' z':Value) : Calls Tryz.prog 108 #[.agg #[.int .i64 a.f,.int .i64 a.t,.int .i64 a.w,.int .i64 a.v,x,y,z],.agg #[.int .i64 b.f,.int .i64 b.t,.int .i64 b.w,.int .i64 b.v,x',y',z']] w fun e w'=>e=.returned (.int .i64 (pH a b))/\Below w.heap.size w w':=by
 have J:Hid (Dr [Lib.compareInt a.f b.f,Lib.compareInt a.t b.t,Lib.compareInt a.w b.w,Lib.compareInt a.v b.v]=pH a b):=aS (Sj a b);go_enter Tryz.func108,Tryz.ntmps108;go_upto_region 1 with fail
 obtain⟨W,hW,U,Y,Z,ad⟩:=mb w 45 [.int .i64 a.f,.int .i64 a.t,.int .i64 a.w,.int .i64 a.v,x,y,z] 45 [.int .i64 b.f,.int .i64 b.t,.int .i64 b.w,.int .i64 b.v,x',y',z'];rw[<-hW];clear hW;obtain⟨a0,a1,a2,a3,_,_,_⟩:=CY U.out;obtain⟨b0,b1,b2,b3,_,_,_⟩:=CY Y.out;have hS:=aT a0 (aT a1 (aT a2 (aT a3 (aT b0 (aT b1 (aT b2 b3))))));have u:w.heap.size<W.heap.size:=U.out.lt;have A:w.heap.size+1<W.heap.size:=Y.out.lt;have B:Hid (∀w',Below W.heap.size W w'->w'.cell? ⟨w.heap.size,0,none⟩=some (.int .i64 a.f)/\w'.cell? ⟨w.heap.size,1,none⟩=some (.int .i64 a.t)/\w'.cell? ⟨w.heap.size,2,none⟩=some (.int .i64 a.w)/\w'.cell? ⟨w.heap.size,3,none⟩=some (.int .i64 a.v)/\w'.cell? ⟨w.heap.size+1,0,none⟩=some (.int .i64 b.f)/\w'.cell? ⟨w.heap.size+1,1,none⟩=some (.int .i64 b.t)/\w'.cell? ⟨w.heap.size+1,2,none⟩=some (.int .i64 b.w)/\w'.cell? ⟨w.heap.size+1,3,none⟩=some (.int .i64 b.v)):=aS (fun w' j=>⟨(j.cell (p:=⟨w.heap.size,0,none⟩) u).trans a0,(j.cell (p:=⟨w.heap.size,1,none⟩) u).trans a1,(j.cell (p:=⟨w.heap.size,2,none⟩) u).trans a2,(j.cell (p:=⟨w.heap.size,3,none⟩) u).trans a3,(j.cell (p:=⟨w.heap.size+1,0,none⟩) A).trans b0,(j.cell (p:=⟨w.heap.size+1,1,none⟩) A).trans b1,(j.cell (p:=⟨w.heap.size+1,2,none⟩) A).trans b2,(j.cell (p:=⟨w.heap.size+1,3,none⟩) A).trans b3⟩)
 go_region_held3 (fun w'=>w'.cell? ⟨w.heap.size,0,none⟩=some (.int .i64 a.f)/\w'.cell? ⟨w.heap.size,1,none⟩=some (.int .i64 a.t)/\w'.cell? ⟨w.heap.size,2,none⟩=some (.int .i64 a.w)/\w'.cell? ⟨w.heap.size,3,none⟩=some (.int .i64 a.v)/\w'.cell? ⟨w.heap.size+1,0,none⟩=some (.int .i64 b.f)/\w'.cell? ⟨w.heap.size+1,1,none⟩=some (.int .i64 b.t)/\w'.cell? ⟨w.heap.size+1,2,none⟩=some (.int .i64 b.w)/\w'.cell? ⟨w.heap.size+1,3,none⟩=some (.int .i64 b.v))
  (first|assumption|exact hS|go_keep)
  (first
   |(go_at_call 159;refine(Tryz.cmp_Compare_int _ _ _).mono ?_;rintro e wl ⟨rfl,rfl⟩)
   |(go_at_call 158;refine(Z6 _ _ [Lib.compareInt a.f b.f,Lib.compareInt a.t b.t,Lib.compareInt a.w b.w,Lib.compareInt a.v b.v] (Lw W _ _ _ _) (by simp)).mono ?_;rintro e wl ⟨rfl,j⟩;rw[J.out];have N:Below W.heap.size W wl:=(jb W _).trans (j.mono (by simp));have C:=aS (Z.out.trans (N.mono Z.out.size));have hS:=B.out wl N;clear j N))
 all_goals
  go_wp2_with fail;go_ret;exact⟨rfl,C.out⟩
def wy:List AV->Option AV
 | [x,y]=>match B8 x,B8 y with
  |some a,some b=>some (.i .i64 (pH a.a b.a))
  |_,_=>none
 |_=>none
theorem K5{a b:aW}(ha:a.Ok)(j:b.Ok):wy [.agg (aC a),.agg (aC b)]=some (.i .i64 (pH a.a b.a)):=by simp only[wy,sh ha,sh j]
theorem QK:ag Tryz.prog 108 (ab wy):=by
 refine fG (by kernel_rfl) ?_;intro args v h μ s w Z n u j;unfold wy at h;split at h
 ·next x y=>
  split at h
  ·next a b ha A=>
   cases h;obtain⟨rfl,_⟩:=mc ha;obtain⟨rfl,_⟩:=mc A;simp only[ap,VR,aC]at j;obtain⟨_,_,rfl,⟨_,rfl,_,_,rfl,rfl,_,_,rfl,rfl,_,_,rfl,rfl,_,_,rfl,rfl,B,_,rfl,_,C,_,rfl,_,J,_,rfl,_,rfl⟩,_,_,rfl,⟨_,rfl,_,_,rfl,rfl,_,_,rfl,rfl,_,_,rfl,rfl,_,_,rfl,rfl,N,_,rfl,_,U,_,rfl,_,Y,_,rfl,_,rfl⟩,rfl⟩:=j;exact pb u (by simp[VR]) (Wb w a.a b.a B C J N U Y)
  cases h
 cases h
theorem iA(T:Int)(r:cR):(decide (r.f<0) ||(decide (r.t<=r.f) ||(decide (r.t>T) ||(decide (r.w<1) ||(decide (r.w>2000) ||(decide (r.v<0) ||(decide (ci r.q<=0) ||decide (ci (r.q-((1:Int):Rat))>0)))))))) = !iJ T r:=gH T r
theorem QU:ag Tryz.prog 42 (ab kC):=by
 obtain⟨E,M,c1,c2,c3,c4⟩:=Wn (ab kS) (ab yi) (ab xD) (ab wy) ⟨Ke,Ab,QT,QK⟩ rfl;refine aE (by kernel_rfl) Tryz.func42 Tryz.ntmps42 rfl ?_;intro args v h;unfold kC at h;split at h
 ·next x=>
  simp only[iN]at h;obtain⟨⟨T,l⟩,hx,rfl⟩:=h;obtain⟨hx,hb,ok⟩:=zi hx;refine⟨by simp only[aq,hb];rfl,rfl,nE rfl,?_⟩;dsimp only;rw[pk,St.of_nil];refine Jd.toL [] [(0,dk T l)] [] rfl .nil ⟨⟨_,rfl,Wk.lat _ T hx⟩,trivial⟩ trivial ?_;clear hx hb;unfold dk;refine aN M ?_;refine Jd.seq ?_;refine aN M ?_;have av:=pF l;refine Jd.cnd rfl (fun h1=>?_) (fun h1=>?_)
  ·refine aN M ?_;refine Jd.retT (aw.one rfl rfl ?_);have:20000<l.length:=by simp at h1;omega
   simp only[i3,av,oR this]
  refine Jd.skipT ?_;have hl:l.length<=20000:=by simp at h1;omega
  clear h1;refine Jd.seq ?_;obtain⟨b,hb⟩:∃b,decide (T<0)=b:=⟨_,rfl⟩;cases b with
  |true=>refine rg M @hb ?_;refine Jd.cnd rfl (fun _=>?_) (fun h1=>by cases h1);refine aN M ?_;refine Jd.retT (aw.one rfl rfl ?_);rw[Bp (by omega) (by simp at hb;omega)]
  |false=>
   refine rg M @hb ?_;refine Jd.cnd rfl (fun h1=>?_) (fun h1=>?_)
   ·refine aN M ?_;refine Jd.retT (aw.one rfl rfl ?_);rw[Bp (by omega) (by simp at h1;omega)]
   refine Jd.skipT ?_;simp at hb h1;refine Jd.seq ?_;refine aN M ?_;refine Jd.loopB (fun k g s=>∃i:Nat,i+k=l.length/\(∀j,j<i->l8 T (aL l) j=true)/\g=⟨42,84,Tr.of [(20,.i .i64 (i:Int)),(19,.i .i64 l.length),(18,.vw (ar l) l.length),(2,.i .i64 0),(1,.ptr 0 0)],none,[]⟩/\s=St.of [(0,some (.cells [.i .i64 T,.vw (ar l) l.length] 24 false))] 1) l.length ?_ ?_
   ·exact⟨_,_,(Iv 1 [0] [(20,.i .i64 ((0:Nat):Int)),(19,.i .i64 l.length),(18,.vw (ar l) l.length),(2,.i .i64 0),(1,.ptr 0 0)] [(0,some (.cells [.i .i64 T,.vw (ar l) l.length] 24 false))]),0,by omega,fun j hj=>by omega,rfl,rfl⟩
   rintro k _ _ ⟨i,hi,hf,rfl,rfl⟩ Q' hex u an;refine aN M ?_;refine Jd.seq ?_;refine Jd.cnd rfl (fun h1=>?_) (fun h1=>?_);rotate_left
   ·refine Jd.exitT (hex _ _ ?_);show Jb _ _ _ _ _ _;refine aN M ?_;refine Jd.ret (aw.one rfl rfl ?_);have hn:i=l.length:=by simp at h1;omega
    rw[zj (by omega) (by omega) (by omega) fun j hj=>hf j (by omega)]
   have B:i<l.length:=by simp at h1;omega
   obtain⟨x,hx⟩:∃x,l[i]?=some x:=⟨_,bY B⟩;have ad:=ok x (eQ hx);refine Jd.skipT ?_;refine Jd.seq (Jd.block ?_);clear hex;refine rg M (ax @iO (ax (mU hx) (ax @ac @ad.flat))) ?_;have A:=fY hx;obtain⟨b1,C⟩:∃b,decide (x.a.f<0)=b:=⟨_,rfl⟩;obtain⟨b2,N⟩:∃b,decide (x.a.t<=x.a.f)=b:=⟨_,rfl⟩;obtain⟨b3,U⟩:∃b,decide (x.a.t>T)=b:=⟨_,rfl⟩;obtain⟨b4,Y⟩:∃b,decide (x.a.w<1)=b:=⟨_,rfl⟩;obtain⟨b5,Z⟩:∃b,decide (x.a.w>2000)=b:=⟨_,rfl⟩;obtain⟨b6,e6⟩:∃b,decide (x.a.v<0)=b:=⟨_,rfl⟩;obtain⟨b7,e7⟩:∃b,decide (ci x.a.q<=0)=b:=⟨_,rfl⟩;obtain⟨b8,e8⟩:∃b,decide (ci (x.a.q-((1:Int):Rat))>0)=b:=⟨_,rfl⟩;have hs:=aj (vN ad.1);have ho:=aj (wD (z:=1) (by omega) (by omega));have hc:=aj (JY ad.1 (bu NR));refine Jd.seq ?_;rcases PN b1 b2 b3 b4 b5 b6 b7 b8 with rfl|⟨rfl,rfl⟩|⟨rfl,rfl,rfl⟩|⟨rfl,rfl,rfl,rfl⟩|⟨rfl,rfl,rfl,rfl,rfl⟩|⟨rfl,rfl,rfl,rfl,rfl,rfl⟩|⟨rfl,rfl,rfl,rfl,rfl,rfl,rfl⟩|⟨rfl,rfl,rfl,rfl,rfl,rfl,rfl,rfl⟩|⟨rfl,rfl,rfl,rfl,rfl,rfl,rfl,rfl⟩
   ·have J:iJ T x.a=false:=by have:=iA T x.a;simp only[C,Cc,aAi]at this;simpa using this
    refine dr M [] (ax @ac (ax @C (ax @N (ax @U (ax @Y (ax @Z (ax @e6 (ax @e7 (ax @e8 (ax @c1 (ax @c2 (ax @c3 (ax @hs (ax @ho @hc)))))))))))))) ?_;refine cT rfl ?_;refine aN M ?_;refine Jd.ret ?_;refine u _ _ ?_;refine gW.r (aw.one rfl rfl ?_);exact gq hl B A J
   ·have J:iJ T x.a=false:=by have:=iA T x.a;simp only[C,N,Cc,aAi]at this;simpa using this
    refine dr M [] (ax @ac (ax @C (ax @N (ax @U (ax @Y (ax @Z (ax @e6 (ax @e7 (ax @e8 (ax @c1 (ax @c2 (ax @c3 (ax @hs (ax @ho @hc)))))))))))))) ?_;refine cT rfl ?_;refine aN M ?_;refine Jd.ret ?_;refine u _ _ ?_;refine gW.r (aw.one rfl rfl ?_);exact gq hl B A J
   ·have J:iJ T x.a=false:=by have:=iA T x.a;simp only[C,N,U,Cc,aAi]at this;simpa using this
    refine dr M [] (ax @ac (ax @C (ax @N (ax @U (ax @Y (ax @Z (ax @e6 (ax @e7 (ax @e8 (ax @c1 (ax @c2 (ax @c3 (ax @hs (ax @ho @hc)))))))))))))) ?_;refine cT rfl ?_;refine aN M ?_;refine Jd.ret ?_;refine u _ _ ?_;refine gW.r (aw.one rfl rfl ?_);exact gq hl B A J
   ·have J:iJ T x.a=false:=by have:=iA T x.a;simp only[C,N,U,Y,Cc,aAi]at this;simpa using this
    refine dr M [] (ax @ac (ax @C (ax @N (ax @U (ax @Y (ax @Z (ax @e6 (ax @e7 (ax @e8 (ax @c1 (ax @c2 (ax @c3 (ax @hs (ax @ho @hc)))))))))))))) ?_;refine cT rfl ?_;refine aN M ?_;refine Jd.ret ?_;refine u _ _ ?_;refine gW.r (aw.one rfl rfl ?_);exact gq hl B A J
   ·have J:iJ T x.a=false:=by have:=iA T x.a;simp only[C,N,U,Y,Z,Cc,aAi]at this;simpa using this
    refine dr M [] (ax @ac (ax @C (ax @N (ax @U (ax @Y (ax @Z (ax @e6 (ax @e7 (ax @e8 (ax @c1 (ax @c2 (ax @c3 (ax @hs (ax @ho @hc)))))))))))))) ?_;refine cT rfl ?_;refine aN M ?_;refine Jd.ret ?_;refine u _ _ ?_;refine gW.r (aw.one rfl rfl ?_);exact gq hl B A J
   ·have J:iJ T x.a=false:=by have:=iA T x.a;simp only[C,N,U,Y,Z,e6,Cc,aAi]at this;simpa using this
    refine dr M [] (ax @ac (ax @C (ax @N (ax @U (ax @Y (ax @Z (ax @e6 (ax @e7 (ax @e8 (ax @c1 (ax @c2 (ax @c3 (ax @hs (ax @ho @hc)))))))))))))) ?_;refine cT rfl ?_;refine aN M ?_;refine Jd.ret ?_;refine u _ _ ?_;refine gW.r (aw.one rfl rfl ?_);exact gq hl B A J
   ·have J:iJ T x.a=false:=by have:=iA T x.a;simp only[C,N,U,Y,Z,e6,e7,Cc,aAi]at this;simpa using this
    refine dr M [] (ax @ac (ax @C (ax @N (ax @U (ax @Y (ax @Z (ax @e6 (ax @e7 (ax @e8 (ax @c1 (ax @c2 (ax @c3 (ax @hs (ax @ho @hc)))))))))))))) ?_;refine cT rfl ?_;refine aN M ?_;refine Jd.ret ?_;refine u _ _ ?_;refine gW.r (aw.one rfl rfl ?_);exact gq hl B A J
   ·have J:iJ T x.a=false:=by have:=iA T x.a;simp only[C,N,U,Y,Z,e6,e7,e8,Cc,aAi]at this;simpa using this
    refine dr M [] (ax @ac (ax @C (ax @N (ax @U (ax @Y (ax @Z (ax @e6 (ax @e7 (ax @e8 (ax @c1 (ax @c2 (ax @c3 (ax @hs (ax @ho @hc)))))))))))))) ?_;refine cT rfl ?_;refine aN M ?_;refine Jd.ret ?_;refine u _ _ ?_;refine gW.r (aw.one rfl rfl ?_);exact gq hl B A J
   have J:iJ T x.a=true:=by have:=iA T x.a;simp only[C,N,U,Y,Z,e6,e7,e8,aAi]at this;simpa using this
   refine dr M [] (ax @ac (ax @C (ax @N (ax @U (ax @Y (ax @Z (ax @e6 (ax @e7 (ax @e8 (ax @c1 (ax @c2 (ax @c3 (ax @hs (ax @ho @hc)))))))))))))) ?_;refine GU rfl ?_;obtain⟨b9,e9⟩:∃b,decide ((i:Int)>0)=b:=⟨_,rfl⟩;cases b9 with
   |false=>
    refine dr M [] (ax @ac @e9) ?_;refine cF rfl ?_;refine Jd.skip ?_;show Jb _ _ _ _ _ _;have i0:i=0:=by simp at e9;omega
    refine f6 M ?_;refine an _ _ ⟨k-1,_,_,by omega,(Iv 1 [0] [(20,.i .i64 ((i+1:Nat):Int)),(19,.i .i64 l.length),(18,.vw (ar l) l.length),(2,.i .i64 0),(1,.ptr 0 0)] [(0,some (.cells [.i .i64 T,.vw (ar l) l.length] 24 false))]),i+1,by omega,fun j hj=>?_,rfl,rfl⟩;rcases aCm.1 hj with h|rfl
    ·exact hf j h
    unfold l8;rw[A,J,show nV (aL l) j=true from by unfold nV;simp[i0]];rfl
   |true=>
    have a2:0<i:=by simp at e9;omega
    obtain⟨y,hy⟩:∃y,l[i-1]?=some y:=⟨_,bY (by omega)⟩;have a1:=ok y (eQ hy);have a0:=fY hy;have hb:=aj (K5 a1 ad);have hm:((i:Int)-1).toNat=i-1:=by omega
    obtain⟨am,al⟩:∃b,decide (pH y.a x.a≥0)=b:=⟨_,rfl⟩;have hr:nV (aL l) i = !am:=by unfold nV;rw[a0,A,<-al,show decide (i=0)=false from by simp;omega];rw[aAi,<-decide_not];congr 1;rw[Int.not_le]
    cases am with
    |true=>refine dr M [] (ax @ac (ax @e9 (ax @al (ax @c4 (ax @hb (ax @hm (mU hy))))))) ?_;refine cT rfl ?_;refine aN M ?_;refine Jd.ret ?_;refine u _ _ ?_;refine gW.r (aw.one rfl rfl ?_);rw[wP (by simpa [aL]using hl) (i:=i) (by simpa [aL]using B) (by unfold l8;rw[hr];simp)]
    |false=>
     refine dr M [] (ax @ac (ax @e9 (ax @al (ax @c4 (ax @hb (ax @hm (mU hy))))))) ?_;refine cF rfl ?_;refine Jd.skip ?_;show Jb _ _ _ _ _ _;refine f6 M ?_;refine an _ _ ⟨k-1,_,_,by omega,(Iv 1 [0] [(20,.i .i64 ((i+1:Nat):Int)),(19,.i .i64 l.length),(18,.vw (ar l) l.length),(2,.i .i64 0),(1,.ptr 0 0)] [(0,some (.cells [.i .i64 T,.vw (ar l) l.length] 24 false))]),i+1,by omega,fun j hj=>?_,rfl,rfl⟩;rcases aCm.1 hj with h|rfl
     ·exact hf j h
     unfold l8;rw[A,J,hr];rfl
 cases h
def z0:AV:=.agg [.b false,.snil,.snil]
end Go.Proofs.YtfoceannfdbinaaGreat

namespace Go.Proofs.YtfoceannfdbinaaGreat
open Go.RowKit
theorem me{l:List aW}(h:∀x∈l,x.Ok):aq (ar l)=true:=by
 induction l with
 |nil=>rfl
 |cons x l ih=>rw[show ar (x::l)=aC x++ar l from rfl,jT,(h x Do).bare,ih fun y hy=>h y (tK _ hy)];rfl
theorem R6{k:Int}{O:Nat}{gs:List Gr}{v:Nat}{a:Rat}{mix:List Rat}(hT:Ch gs v)(x:v<=8)(ha:QB 64 a)(hm:∀q∈mix,QB 64 q)(y:O<=4)(hl:List Int):∀q∈qX k O gs v a mix hl,QB 5000000 q:=by
 have u:∀n h,gw (aU O gs n h):=fun n h=>hT.mild O n h;have A:=z8 y;intro q j;unfold qX at j;split at j
 ·exact(E5 (u O hl) x ha q j).mono (by omega)
 split at j
 ·exact(zc u x hm y hl q j).mono (by omega)
 split at j
 ·exact(r7 u x ha O hl q j).mono (by omega)
 exact(oV u x O hl q j).mono (by omega)
theorem wk{x:AV}{q:Rat}(h:kg x=some q):QB 64 q:=by unfold kg at h;simp only[sT]at h;obtain⟨⟨neg,n,d⟩,_,j⟩:=h;obtain⟨y,j⟩:=ah j;cases j;simp only[gE,ON]at y;obtain⟨u,j⟩:=y;dsimp only at u j⊢;unfold cA;exact QB.red u (by split<;>omega) (by split<;>omega)
theorem GD.Ok.row_qb{D:GD}(h:D.Ok)(hl:List Int):∀q∈D.row hl,QB 5000000 q:= by obtain⟨eO,eV,_,ok⟩:=h.lg.tab;have hT:=oG h.lg.err;rw[eO,eV]at hT;exact R6 (CH hT.1 ok.v8) ok.v8 h.lg.ok.ham.qb (fun q j=>by obtain⟨x,u,rfl⟩:=Ac.1 j;exact(h.lg.ok.hmix.1 x u).qb) ok.o4 hl
theorem GD.Ok.row_at{D:GD}(h:D.Ok)(hl:List Int){w:Nat}(u:w<=D.V):QB 5000000 ((D.row hl).getD w 0):=by have j:=h.row_len hl;rw[eM,bY (by omega)];exact h.row_qb hl _ (aAz _)
def lM(D:GD)(l:List aW):Prop:=D.ar=ar l/\D.n=l.length/\(∀x∈l,x.Ok)/\∀x∈l,1<=x.a.w/\x.a.w<=(D.V:Int)
theorem GX:∀{l j:List aW},l.length=j.length->ar l=ar j->l.map (fun x=>aC x)=j.map fun x=>aC x
 | [],[],_,_=>rfl
 | [],_::_,h,_|_::_,[],h,_=>by cases h
 |x::l,y::j,h,e=>by
  have e:aC x++ar l=aC y++ar j:=by simpa [ar]using e
  obtain⟨u,A⟩:=List.append_inj e (by rw[qG,qG]);rw[OF,OF,u,GX (Nat.succ.inj h) A]
theorem Hi{x y:aW}(B:x.Ok)(hy:y.Ok)(e:aC x=aC y):x=y:=by
 cases x with
 |mk a n u d=>cases y with
  |mk a' n' u' d'=>cases a;cases a';have A:=B.1;have j:=hy.1;simp only[aC,rW,AV.i.injEq,AV.b.injEq,true_and,and_true]at e;obtain⟨rfl,rfl,rfl,rfl,rfl,rfl,rfl⟩:=e;simp only at A j;rw[A]at j;cases j;rfl
theorem lM.uniq{D:GD}{l l':List aW}(h:lM D l)(j:lM D l'):l=l':=by have e:=GX (h.2.1.symm.trans j.2.1) (h.1.symm.trans j.1);have hl:=h.2.1.symm.trans j.2.1;refine aEe hl fun i u x=>?_;have:=aAf (·[i]?) e;simp only[mT,bY u,bY x,AC,iD]at this;exact Hi (h.2.2.1 _ (aAz _)) (j.2.2.1 _ (aAz _)) this
def ik(f:Int)(h:List Int):List AV:=.i .i64 f::cB h
def Dp(D:GD)(_:TC)(X:List AV)(v:AV):Prop:=∃(l:List aW)(f:Int)(h:cO)(i:Nat)(x:aW),X=[.agg (ik f h),.i .i64 (i:Int)]/\ck D.h D.V h/\lM D l/\l[i]?=some x/\v=.tup [.agg (ik x.a.t (dq h x.a.w)),fq (x.a.q*(D.row h).getD x.a.w.toNat 0)]
theorem yQ(D:GD)(t:TC)(X:List AV)(v u:AV)(hD:D.Ok)(h:vQ D t X v)(y:vQ D t X u):u=v:=by obtain⟨B,w,rfl,hh,J,rfl⟩:=h;obtain⟨C,N,e,j,A,rfl⟩:=y;simp only[rW,AV.agg.injEq,AV.i.injEq,true_and,and_true,aDG]at e;obtain⟨x,rfl⟩:=e;have hl:=hD.len;rw[sO (n:=D.h) (by omega) hh.1 j.1 x]
theorem Lh(D:GD)(t:TC)(X:List AV)(v u:AV)(hD:D.Ok)(h:DA D t X v)(y:DA D t X u):u=v:=by obtain⟨A,w,rfl,hh,rfl⟩:=h;obtain⟨B,C,e,j,rfl⟩:=y;simp only[rW,AV.agg.injEq,AV.i.injEq,true_and,and_true,aDG]at e;obtain⟨x,rfl⟩:=e;have hl:=hD.len;rw[sO (n:=D.h) (by omega) hh.1 j.1 x]
theorem K4(D:GD)(t:TC)(X:List AV)(v A:AV)(hD:D.Ok)(h:Dp D t X v)(C:Dp D t X A):A=v:=by obtain⟨l,f,U,i,x,rfl,hh,J,N,rfl⟩:=h;obtain⟨l2,f2,Y,Z,x2,e,y,u,j,rfl⟩:=C;simp only[ik,rW,AV.agg.injEq,AV.i.injEq,true_and,and_true,aDG]at e;obtain⟨⟨rfl,B⟩,rfl⟩:=e;have hl:=hD.len;have:=J.uniq u;subst this;rw[N]at j;cases j;rw[sO (n:=D.h) (by omega) hh.1 y.1 B]
theorem tC{D:GD}(hD:D.Ok){t:TC}(x:bare t.u=true)(y:bare t.v=true){m:List (Nat×Option AO)}{n:Nat}(j:gF m 0=some (.cells (gC D 1 t) 142 false))(u:gF m 1=some (.amap (bO D))):YZ (St.of m n) D 0 1 t:= ⟨by rw[St.of_get];exact j,by rw[St.of_get];exact u,hD,x,y⟩
theorem aw.cc{P:Program}{f:FuncId}{n:Nat}{s:St}{fn:Func}{R:AV->St->Prop}{l:List (Nat×AV)}{k j:Tmp}{t t':TypeId}{p y v u:AV}(A:fn.results=#[.cell k t,.cell j t'])(hp:gG l k=some p)(x:gG l j=some y)(B:ju P s t p=some v)(hu:ju P s t' y=some u)(h:R (.tup [v,u]) s):aw P fn R .ret ⟨f,n,Tr.of l,none,[]⟩ s:=by refine⟨trivial,rfl,[v,u],?_,h⟩;rw[A];simp only[nc,F7,Tr.of_get,hp,x,aCI,B,hu,AC]
theorem PM:5000000<=iY:=by unfold iY;omega
theorem UD:ag Tryz.prog 92 (relS (fj Dp)):=by
 obtain⟨E,M,Z,c2,c3⟩:=SJ (relS (fj DA)) (relS (fj vQ)) (ab (cK (·*·))) ⟨UE,Kf,qF⟩ rfl;refine mf (by kernel_rfl) Tryz.func92 Tryz.ntmps92 rfl (k:=2) (nE rfl) ?_;rintro D t X v hD U Y hX ⟨l,f,h,i,x,rfl,hh,⟨ha,hn,ok,hw⟩,C,rfl⟩;refine⟨rfl,?_⟩;have B:=ok x (eQ C);obtain⟨w1,w2⟩:=hw x (eQ C);obtain⟨w,A⟩:∃w:Nat,x.a.w=(w:Int):=⟨x.a.w.toNat,by omega⟩;have ad:i<D.n:=by rw[hn];exact(dO.1 C).1
 have j:=mU C;rw[<-ha]at j;have fl:=B.flat;obtain⟨q,J⟩:∃q,(D.row h).getD w 0=q:=⟨_,rfl⟩;have N:fg (fq q)=some q:=bu (EM (nW (J▸hD.row_at h (w:=w) (by omega))) PM);have u:=aj (df (·*·) B.1 N)
 have hnx:∀(e a b c d:Option AO)(k:Nat),relS (fj DA) [.ptr 0 0,.agg (cB h),.i .i64 (w:Int)] (St.of [(5,e),(5,a),(4,b),(3,c),(2,d),(1,some (.amap (bO D))),(0,some (.cells (gC D 1 t) 142 false))] k)=some (.agg (cB (dq h w)),St.of [(5,e),(5,a),(4,b),(3,c),(2,d),(1,some (.amap (bO D))),(0,some (.cells (gC D 1 t) 142 false))] k):=fun e a b c d k=>
  j7 Lh (tC hD U Y rfl rfl) rfl ⟨h,w,rfl,hh,rfl⟩ rfl
 have y:∀(e a b c d:Option AO)(k:Nat),relS (fj vQ) [.ptr 0 0,.agg (cB h),.i .i64 (w:Int)] (St.of [(5,e),(5,a),(4,b),(3,c),(2,d),(1,some (.amap (bO D))),(0,some (.cells (gC D 1 t) 142 false))] k)=some (fq q,St.of [(5,e),(5,a),(4,b),(3,c),(2,d),(1,some (.amap (bO D))),(0,some (.cells (gC D 1 t) 142 false))] k):=fun e a b c d k=>
  j7 yQ (tC hD U Y rfl rfl) rfl ⟨h,w,rfl,hh,by omega,by rw[J]⟩ rfl
 rw[dZ];rw[A,iO,J];unfold ik cB gS;unfold cB gC at hnx y;unfold gC;refine aN M ?_;refine rg M (ax @j (ax @fl @ac)) ?_;simp only[aC,A];refine dr M [] (ax @Z (ax @c2 (ax @c3 (ax @hnx (ax @y @u))))) ?_;refine tX 4 [0,1,3,4] [(7,.ptr 3 0),(6,.ptr 2 0)] [(3,some (.cells (ai (x.a.q*q)) 31 false)),(2,some (.cells (ik x.a.t (dq h w)) 134 false)),(1,some (.amap (bO D))),(0,some (.cells (gC D 1 t) 142 false))] bT (by repeat' first|exact aK|refine aF ?_ ?_|exact bA.same rfl|exact fL D _ _|exact kw hD U Y _ _ _|exact dj) ?_;refine Jd.ret (aw.cc rfl rfl rfl (by simp only[↓nD,↓nC,nB,Nat.reduceEqDiff,↓reduceIte,Nat.reduceLT,Nat.reduceAdd,ij,Cc,NE,NO,iO,ik,cB]<;>rfl) (BD) ⟨rfl,LL,Er⟩)
def Js(O V:Int)(lv:AV)(k:Int)(b:Bool)(x y mx:AV):List AV:=[.i .i64 O,.i .i64 V,lv,.i .i64 k,.b b,x,y,mx]
def MN(args:List AV)(v:AV):Prop:=∃(x:aW)(O V:Int)(lv:AV)(k:Int)(b:Bool)(n d mx:AV),args=[.agg (aC x),.vp (Js O V lv k b n d mx) 0]/\x.Ok/\v=.b (decide (x.a.w>V))
theorem Rs{x:aW}(u:x.Ok)(O V:Int)(y:AV)(k:Int)(b:Bool)(n d mx:AV):relV MN [.agg (aC x),.vp (Js O V y k b n d mx) 0]=some (.b (decide (x.a.w>V))):=by refine il ?_ ⟨x,O,V,y,k,b,n,d,mx,rfl,u,rfl⟩;rintro v' ⟨x',J,N,B,Z,U,n',Y,C,e,j,rfl⟩;simp only[Js,rW,AV.agg.injEq,AV.vp.injEq,AV.i.injEq,and_true,true_and]at e;obtain⟨A,_,rfl,_⟩:=e;rw[Hi u j A]
theorem Ut:ag Tryz.prog 125 (ab (relV MN)):=by obtain⟨E,M⟩:=uq;refine aE (by kernel_rfl) Tryz.func125 Tryz.ntmps125 rfl ?_;intro args v h;obtain⟨x,O,V,y,k,b,n,d,mx,rfl,j,rfl⟩:=dR h;refine⟨by simp only[aq,bare,j.bare];rfl,rfl,nE rfl,?_⟩;rw[cZ,St.of_nil];have u:=j.flat;unfold Js;refine rg M @u ?_;refine rg M @ac ?_;exact Jd.ret (aw.one rfl rfl rfl)
def Br(V:Int):List aW->Nat->Int
 | [],_=>-1
 |x::l,i=>if x.a.w>V then(i:Int)else Br V l (i+1)
theorem D7(V:Int):∀(l:List aW)(i:Nat),decide (Br V l i≥0)=l.any fun x=>decide (x.a.w>V)
 | [],_=>rfl
 |x::l,i=>by
  unfold Br;by_cases h:x.a.w>V
  ·simp[h]
  simp only[h,aCq,List.any_cons,decide_false,aAi];exact D7 V l (i+1)
def Wx(args:List AV)(v:AV):Prop:=∃(l:List aW)(O V:Int)(lv:AV)(k:Int)(b:Bool)(n d mx:AV),args=[.vw (ar l) l.length,.fn 125 [] [.vp (Js O V lv k b n d mx) 0]]/\(∀x∈l,x.Ok)/\l.length<=20000/\v=.i .i64 (Br V l 0)
theorem jv{l l':List aW}(h:∀x∈l,x.Ok)(u:∀x∈l',x.Ok)(e:ar l=ar l')(j:l.length=l'.length):l=l':=by have em:=GX j e;refine aEe j fun i y A=>?_;have:=aAf (·[i]?) em;simp only[mT,bY y,bY A,AC,iD]at this;exact Hi (h _ (aAz _)) (u _ (aAz _)) this
theorem Ww{l:List aW}(hl:∀x∈l,x.Ok)(hn:l.length<=20000)(O V:Int)(u:AV)(k:Int)(b:Bool)(n d mx:AV):relV Wx [.vw (ar l) l.length,.fn 125 [] [.vp (Js O V u k b n d mx) 0]]=some (.i .i64 (Br V l 0)):=by refine il ?_ ⟨l,O,V,u,k,b,n,d,mx,rfl,hl,hn,rfl⟩;rintro v' ⟨l',J,N,B,Z,U,n',Y,C,e,j,_,rfl⟩;simp only[Js,rW,AV.vw.injEq,AV.fn.injEq,AV.vp.injEq,AV.i.injEq,and_true,true_and]at e;obtain⟨⟨y,A⟩,_,rfl,_⟩:=e;rw[jv hl j y A]
theorem QQ:ag Tryz.prog 170 (ab (relV Wx)):=by
 obtain⟨E,M,c1⟩:=ur (ab (relV MN)) Ut rfl;refine aE (by kernel_rfl) Tryz.func170 Tryz.ntmps170 rfl ?_;intro args v h;obtain⟨l,O,V,C,B,b,n,d,mx,rfl,ok,hn,rfl⟩:=dR h;refine⟨rfl,rfl,nE rfl,?_⟩;rw[cZ,St.of_nil];refine aN M ?_;refine Jd.seq ?_;refine aN M ?_;refine Jd.loopB (fun k g s=>∃i:Nat,i+k=l.length/\Br V l 0=Br V (l.drop i) i/\g=⟨170,19,Tr.of [(8,.i .i64 (i:Int)),(7,.i .i64 (l.length:Int)),(6,.vw (ar l) l.length),(1,.fn 125 [] [.vp (Js O V C B b n d mx) 0]),(0,.vw (ar l) l.length)],none,[]⟩/\s=St.of [] 0) l.length ?_ ?_
 ·exact⟨_,_,(d9 0 [] [(8,.i .i64 ((0:Nat):Int)),(7,.i .i64 (l.length:Int)),(6,.vw (ar l) l.length),(1,.fn 125 [] [.vp (Js O V C B b n d mx) 0]),(0,.vw (ar l) l.length)] [] bT aK),0,by omega,rfl,rfl,rfl⟩
 rintro k _ _ ⟨i,hi,hp,rfl,rfl⟩ Q' hex u Y;refine aN M ?_;refine Jd.seq ?_;refine Jd.cnd rfl (fun N=>?_) (fun N=>?_);rotate_left
 ·refine Jd.exitT (hex _ _ ?_);show Jb _ _ _ _ _ _;have Z:i=l.length:=by have:=io N;omega
  subst Z;refine aN M ?_;refine Jd.ret (aw.one rfl rfl ?_);rw[hp,aAQ];rfl
 have j:i<l.length:=by have:=gT N;omega
 obtain⟨x,A⟩:∃x,l[i]?=some x:=⟨_,bY j⟩;have U:l.drop i=x::l.drop (i+1):=by rw[AT j];rw[bY j]at A;cases A;rfl
 rw[U]at hp;have y:=ok x (eQ A);have hw:=aj (Rs y O V C B b n d mx);refine Jd.skipT ?_;refine Jd.seq (Jd.block ?_);clear hex;refine aN M ?_;obtain⟨e,he⟩:∃e,decide (x.a.w>V)=e:=⟨_,rfl⟩;rw[he]at hw;refine rg M (ax (mU A) (ax @y.flat (ax @pA (ax @aAy.{0} (ax @aAB.{0} (ax @c1 @hw)))))) ?_;cases e with
 |true=>have J:x.a.w>V:=gT he;refine cT rfl ?_;refine aN M ?_;refine Jd.ret ?_;refine u _ _ ?_;refine gW.r (aw.one rfl rfl ?_);rw[hp];simp only[Br,J,aBh]
 |false=>have J:¬x.a.w>V:=io he;refine cF rfl ?_;refine Jd.skip ?_;refine bW.norm ?_;show Jb _ _ _ _ _ _;refine f6 M ?_;exact Y _ _ ⟨k-1,_,_,by omega,(d9 0 [] [(8,.i .i64 ((i+1:Nat):Int)),(7,.i .i64 (l.length:Int)),(6,.vw (ar l) l.length),(1,.fn 125 [] [.vp (Js O V C B b n d mx) 0]),(0,.vw (ar l) l.length)] [] bT aK),i+1,by omega,by rw[hp];simp only[Br,J,aCq],rfl,rfl⟩
def Qy(args:List AV)(v:AV):Prop:=∃(l:List aW)(O V:Int)(lv:AV)(k:Int)(b:Bool)(n d mx:AV),args=[.vw (ar l) l.length,.fn 125 [] [.vp (Js O V lv k b n d mx) 0]]/\(∀x∈l,x.Ok)/\l.length<=20000/\v=.b (l.any fun x=>decide (x.a.w>V))
theorem WT{l:List aW}(hl:∀x∈l,x.Ok)(hn:l.length<=20000)(O V:Int)(u:AV)(k:Int)(b:Bool)(n d mx:AV):relV Qy [.vw (ar l) l.length,.fn 125 [] [.vp (Js O V u k b n d mx) 0]]=some (.b (l.any fun x=>decide (x.a.w>V))):=by refine il ?_ ⟨l,O,V,u,k,b,n,d,mx,rfl,hl,hn,rfl⟩;rintro v' ⟨l',J,N,B,Z,U,n',Y,C,e,j,_,rfl⟩;simp only[Js,rW,AV.vw.injEq,AV.fn.injEq,AV.vp.injEq,AV.i.injEq,and_true,true_and]at e;obtain⟨⟨y,A⟩,_,rfl,_⟩:=e;rw[jv hl j y A]
theorem W0:ag Tryz.prog 124 (ab (relV Qy)):=by obtain⟨E,M,j⟩:=ur (ab (relV Wx)) QQ rfl;refine aE (by kernel_rfl) Tryz.func124 Tryz.ntmps124 rfl ?_;intro args v h;obtain⟨l,O,V,x,u,b,n,d,mx,rfl,ok,hn,rfl⟩:=dR h;refine⟨rfl,rfl,nE rfl,?_⟩;have hi:=aj (Ww ok hn O V x u b n d mx);rw[cZ,St.of_nil];refine aN M ?_;refine rg M (ax @j @hi) ?_;exact Jd.ret (aw.one rfl rfl (by rw[<-D7 V l 0]))
def cX(l:List aW):Int->List Int->Option Int
 |p,[]=>some p
 |p,a::zs=>if a<0 then none else match l[a.toNat]? with
  |some x=>if x.a.f≠p then none else cX l x.a.t zs
  |none=>none
def Dk(D:GD)(_:TC)(X:List AV)(v:AV):Prop:=∃(l:List aW)(zs:List Int),X=[.vw (is zs) zs.length]/\zs.length<=9000000000000000000/\lM D l/\v=.b (decide (cX l 0 zs=some (D.T:Int)))
theorem KX(D:GD)(t:TC)(X:List AV)(v x:AV)(_:D.Ok)(h:Dk D t X v)(y:Dk D t X x):x=v:=by obtain⟨l,B,rfl,_,A,rfl⟩:=h;obtain⟨l2,u,e,_,j,rfl⟩:=y;simp only[rW,AV.vw.injEq,and_true]at e;have:B=u:=eu e.1;subst this;rw[A.uniq j]
theorem UC:ag Tryz.prog 111 (relS (fj Dk)):=by
 obtain⟨E,M⟩:=uq;refine mf (by kernel_rfl) Tryz.func111 Tryz.ntmps111 rfl (k:=1) (nE rfl) ?_;rintro D t X v hD tu tv hX ⟨l,j,rfl,av,⟨ha,hn,ok,hw⟩,rfl⟩;refine⟨rfl,?_⟩;rw[cZ];unfold gS;refine aN M ?_;refine aN M ?_;refine Jd.seq ?_;refine aN M ?_;refine Jd.loopB (fun k g s=>∃(i:Nat)(p:Int),i+k=j.length/\cX l 0 j=cX l p (j.drop i)/\g=⟨111,56,Tr.of [(10,.i .i64 (i:Int)),(9,.i .i64 (j.length:Int)),(8,.vw (is j) j.length),(5,.i .i64 p),(0,.ptr 0 0)],none,[]⟩/\s=St.of (gS D t) 2) j.length ?_ ?_
 ·exact⟨_,_,(d9 2 [0,1] [(10,.i .i64 ((0:Nat):Int)),(9,.i .i64 (j.length:Int)),(8,.vw (is j) j.length),(5,.i .i64 0),(0,.ptr 0 0)] [(1,some (.amap (bO D))),(0,some (.cells (gC D 1 t) 142 false))] bT (by repeat' first|exact aK|refine aF ?_ ?_|exact fL D _ _|exact kw hD tu tv _ _ _|exact dj)),0,0,by omega,rfl,rfl,rfl⟩
 rintro k _ _ ⟨i,p,hi,hp,rfl,rfl⟩ Q' hex y al;unfold gS gC;refine aN M ?_;refine Jd.seq ?_;refine Jd.cnd rfl (fun h1=>?_) (fun h1=>?_);rotate_left
 ·refine Jd.exitT (hex _ _ ?_);show Jb _ _ _ _ _ _;have am:i=j.length:=by simp at h1;omega
  subst am;refine aN M ?_;refine Jd.ret (aw.one rfl rfl ⟨?_,LL,Er⟩);rw[hp,aAQ];simp only[cX,iD]
 have A:i<j.length:=by simp at h1;omega
 obtain⟨z,hz⟩:∃z,j[i]?=some z:=⟨_,bY A⟩;have an:(is j)[i]?=some (.i .i64 z):=by unfold is;rw[mT,hz];rfl
 have ad:j.drop i=z::j.drop (i+1):=by rw[AT A];rw[bY A]at hz;cases hz;rfl
 rw[ad]at hp;refine Jd.skipT ?_;refine Jd.seq (Jd.block ?_);clear hex;refine rg M (ax @aAZ @an) ?_;refine Jd.seq ?_;obtain⟨b1,C⟩:∃b,decide (z<0)=b:=⟨_,rfl⟩;obtain⟨b2,J⟩:∃b,decide (z≥(D.n:Int))=b:=⟨_,rfl⟩;cases b1;rotate_left
 ·have u:cX l p (z::j.drop (i+1))=none:=by have N:z<0:=gT C;simp only[cX,N,aBh]
  refine rg M @C ?_;refine cT rfl ?_;refine aN M ?_;refine Jd.ret ?_;refine y _ _ ?_;refine gW.r (aw.one rfl rfl ⟨?_,LL,Er⟩);rw[hp,u];rfl
 have N:¬z<0:=io C;cases b2;rotate_left
 ·have u:cX l p (z::j.drop (i+1))=none:=by have h2:z≥(D.n:Int):=gT J;simp only[cX,iF N,aCD (show l.length<=z.toNat by omega)]
  refine rg M (ax @C @J) ?_;refine cT rfl ?_;refine aN M ?_;refine Jd.ret ?_;refine y _ _ ?_;refine gW.r (aw.one rfl rfl ⟨?_,LL,Er⟩);rw[hp,u];rfl
 have h2:¬z≥(D.n:Int):=io J;obtain⟨x,Y⟩:∃x,l[z.toNat]?=some x:=⟨_,bY (by omega)⟩;have a2:z.toNat<D.n:=by omega
 have Z:=ZV Y;have a1:=ZU Y;rw[<-ha]at Z a1;obtain⟨b3,U⟩:∃b,decide (x.a.f=p)=b:=⟨_,rfl⟩;cases b3
 ·have u:cX l p (z::j.drop (i+1))=none:=by have h3:¬x.a.f=p:=io U;simp only[cX,iF N,Y,oR h3]
  refine rg M (ax @C (ax @J (ax @U (ax @Z @aBd)))) ?_;refine cT rfl ?_;refine aN M ?_;refine Jd.ret ?_;refine y _ _ ?_;refine gW.r (aw.one rfl rfl ⟨?_,LL,Er⟩);rw[hp,u];rfl
 have h3:x.a.f=p:=gT U;have B:cX l p (z::j.drop (i+1))=cX l x.a.t (j.drop (i+1)):=by simp only[cX,iF N,Y,h3,ne_eq,not_true_eq_false,aCq]
 refine rg M (ax @C (ax @J (ax @U (ax @Z @aBu)))) ?_;refine GU rfl ?_;show Jb _ _ _ _ _ _;refine rq M @a1 ?_;refine bW.norm ?_;show Jb _ _ _ _ _ _;refine f6 M ?_;exact al _ _ ⟨k-1,_,_,by omega,(d9 2 [0,1] [(10,.i .i64 ((i+1:Nat):Int)),(9,.i .i64 (j.length:Int)),(8,.vw (is j) j.length),(5,.i .i64 x.a.t),(0,.ptr 0 0)] [(1,some (.amap (bO D))),(0,some (.cells (gC D 1 t) 142 false))] bT (by repeat' first|exact aK|refine aF ?_ ?_|exact fL D _ _|exact kw hD tu tv _ _ _|exact dj)),i+1,x.a.t,by omega,hp.trans B,rfl,rfl⟩
end Go.Proofs.YtfoceannfdbinaaGreat
