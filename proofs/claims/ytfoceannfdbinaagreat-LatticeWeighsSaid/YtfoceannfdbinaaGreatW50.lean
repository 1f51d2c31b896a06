/- Lemmas. -/
import Derived.Test.YtfoceannfdbinaaGreatW49
set_option linter.all false
set_option maxRecDepth 1000000
set_option maxHeartbeats 32000000
namespace Go.Proofs.YtfoceannfdbinaaGreat
open Go.RowKit
theorem qR{T T':Nat->List Int->Int->Int}(v:Nat):∀(n:Nat)(h:List Int),(∀m,m<=n->T m=T' m)->gm T v n h=gm T' v n h
 |0,_,_=>rfl
 |n+1,h,H=>by unfold gm;rw[H (n+1) (cC _),qR v n (h.drop 1) fun m hm=>H m (by omega)]
theorem uh{T T':Nat->List Int->Int->Int}(v:Nat)(a:Rat):∀(n:Nat)(h:List Int),(∀m,m<=n->T m=T' m)->gi T v a n h=gi T' v a n h
 |0,_,_=>rfl
 |n+1,h,H=>by unfold gi;rw[H (n+1) (cC _),uh v a n (h.drop 1) fun m hm=>H m (by omega)]
theorem C5{k:Int}{T T':Nat->List Int->Int->Int}(v:Nat)(a:Rat)(n:Nat)(h:List Int)(H:∀m,m<=n->T m=T' m):eD k T v a n h=eD k T' v a n h:=by unfold eD;rw[qR v n h H,uh v a n h H]
theorem FZ(k:Int)(T:Nat->List Int->Int->Int)(v:Nat)(a:Rat)(h:List Int):eD k T v a 0 h=cr v:=by unfold eD;split<;>rfl
def jE(L:LG)(h:List Int):List Rat:=if L.o=0 then cr L.v else qX L.k L.o L.gs L.v L.am.q (jG L.mix) h
structure Xh(b:Nat)(d:LG×List Int)(O v:Nat):Prop where
 ok:Xk O v d.1 d.2
 lt:O<b
 hl:O=0∨d.2.length+1=O
 way:(d.1.k=1/\0<d.1.am.q/\O≠0)∨(d.1.k=2/\d.1.mix.length=O+1/\O≠0)∨(d.1.k=3/\0<d.1.am.q/\d.1.am.q<1)∨d.1.k=4
noncomputable def rowRV(b:Nat):=ofE Sb (fun d=>∃O v,Xh b d O v) fun d=>.vw (fr (jE d.1 d.2)) (d.1.v+1)
theorem II{b O v:Nat}{L:LG}{h:List Int}(ok:Xh b (L,h) O v)(s:St):ab (rowRV b) [.agg L.cells,bp h] s=some (.vw (fr (jE L h)) (v+1),s):=by
 refine(fT (d:=(L,h)) AP ⟨O,v,ok⟩ s).trans ?_;have ev:L.v=v:=by unfold LG.v;rw[show L.V=(v:Int)from ok.ok.eV];rfl
 dsimp only;rw[ev]
theorem IH{O v:Nat}{gs:List Gr}{k:Int}{am:RF}{mx:List RF}{h:List Int}(u:k=3∨k=4):jE ⟨(O:Int),(v:Int),gs,k,am,mx⟩ h=eD k (aU O gs) v am.q O h:=by
 unfold jE;rw[show LG.o ⟨(O:Int),(v:Int),gs,k,am,mx⟩=O from rfl,show LG.v ⟨(O:Int),(v:Int),gs,k,am,mx⟩=v from rfl];by_cases j:O=0
 ·rw[oR j,j,FZ]
 rw[iF j];unfold qX eD;dsimp only;rcases u with rfl|rfl<;>rfl
theorem M7{n v:Nat}{gs:List Gr}(hT:mV v (n+1) gs)(m:Nat)(hm:m<=n):aU n (iq gs) m=aU (n+1) gs m:=by funext h x;unfold aU;rw[show n+1-m=n-m+1 by omega];exact(AG 1 (n:=n) hT).2 (n-m) _
theorem Nx{n v:Nat}{gs:List Gr}{k:Int}{am:RF}{mx:List RF}{h:List Int}(j:k=3∨k=4)(hT:mV v (n+1) gs):jE ⟨(n:Int),(v:Int),iq gs,k,am,mx⟩ h=eD k (aU (n+1) gs) v am.q n h:=by rw[IH j];exact C5 v _ n h (M7 hT)
theorem Uw:∀b,ag Tryz.prog 160 (ab (rowRV b)):=by
 intro b
 induction b with
 |zero=>intro args s v s' hg;exfalso;unfold ab at hg;obtain⟨w,hw,_⟩:=iN.1 hg;obtain⟨_,⟨_,_,h⟩,_⟩:=cU hw;exact absurd h.lt (aBy _)
 |succ b ih=>
 obtain⟨E,M,hL⟩:=SL [(193,ab seenRV),(194,ab lowV),(195,ab mixRV),(160,ab (rowRV b)),(196,ab wgtV),(63,ab pR),(23,ab yi),(21,ab (cK (·+·))),(27,ab (cK (·*·))),(68,ab r6)] ⟨E2,QM,UF,ih,WU,oI,xT,Ce,sm,Kg⟩ rfl;simp only[aAJ]at hL;obtain⟨c1,c2,c3,c4,c5,c6,c7,c8,c9,cu,_⟩:=hL;refine aE (by kernel_rfl) Tryz.func160 Tryz.ntmps160 rfl ?_;intro args x h0;obtain⟨⟨L,h⟩,⟨O,v,ei⟩,rfl,rfl⟩:=cU h0;clear h0;obtain⟨ok,eo,ca,A⟩:=ei;obtain⟨LO,LV,gs,k,am,mx⟩:=L;obtain⟨rfl,rfl,hL,hT,o4,v8,ad,ch⟩:=id ok;dsimp only at hT ad ch ca A⊢;have b1:=hL.ham.bn;have b2:=hL.ham.bd;have f1:=hL.ham.fn;have f2:=hL.ham.fd;dsimp only at b1 b2 f1 f2;have j:aq [.i .i64 (O:Int),.i .i64 (v:Int),.vw (br gs) gs.length,.i .i64 k,.b am.neg,am.n,am.d,aP mx]=true:=by simp only[aq,bare,b1,b2];rfl
 refine⟨by show aq [AV.agg [.i .i64 (O:Int),.i .i64 (v:Int),.vw (br gs) gs.length,.i .i64 k,.b am.neg,am.n,am.d,aP mx],_]=true;simp only[aq,bare,b1,b2];rfl,rfl,nE rfl,?_⟩;rw[show LG.v ⟨(O:Int),(v:Int),gs,k,am,mx⟩=v from rfl];unfold Sb LG.cells;rw[cZ,St.of_nil];dsimp only;have b5:(v:Int)+1=((v+1:Nat):Int):=by omega
 refine rg M (ax @f1 @f2) ?_;refine zX 0 0 ([.i .i64 (O:Int),.i .i64 (v:Int),.vw (br gs) gs.length,.i .i64 k,.b am.neg,am.n,am.d,aP mx]) [] [(4,.snil),(2,.vp [.i .i64 (O:Int),.i .i64 (v:Int),.vw (br gs) gs.length,.i .i64 k,.b am.neg,am.n,am.d,aP mx] 0),(1,bp h)] [] ?_ (by repeat' first|exact bK|refine aM ?_ ?_|exact Wk.frz_ptr|exact eU) aK ?_
 ·exact j
 refine aN M ?_;refine rg M (ax @b5 (ax @Mf (ax @sX (aX (show v+1<=1000000 by omega))))) ?_;refine Jd.seq ?_;refine aN M ?_;refine Jd.cnd rfl (fun h1=>?_) (fun h1=>?_)
 ·have dh:O=0:=by have:=gT h1;omega
  have a4:=fk v;have hR:jE ⟨(O:Int),(v:Int),gs,k,am,mx⟩ h=cr v:=by unfold jE;rw[oR (by rw[dh];rfl)];rfl
  rw[hR];have ec:=aj (pp (a:=1) (b:=((v+1:Nat):Int)) (by omega) (by omega) (by omega) (by omega));refine Jd.seq ?_;refine Jd.seq ?_;refine f6 M ?_;show Jb _ _ _ _ _ _;refine Jd.loopB (fun k' g s=>∃i:Nat,i+k'=v+1/\g=⟨160,137,Tr.of [(7,.i .i64 (i:Int)),(6,.sl 0 0 (v+1) (v+1)),(5,.i .i64 (v:Int)),(4,.snil),(2,.vp [.i .i64 (O:Int),.i .i64 (v:Int),.vw (br gs) gs.length,.i .i64 k,.b am.neg,am.n,am.d,aP mx] 0),(1,bp h)],none,[]⟩/\s=St.of [(0,some (.cells (fr (cL (cr v) i)) 31 false))] 1) (v+1) ?_ ?_
  ·exact⟨_,_,(d9 1 [0] [(7,.i .i64 ((0:Nat):Int)),(6,.sl 0 0 (v+1) (v+1)),(5,.i .i64 (v:Int)),(4,.snil),(2,.vp [.i .i64 (O:Int),.i .i64 (v:Int),.vw (br gs) gs.length,.i .i64 k,.b am.neg,am.n,am.d,aP mx] 0),(1,bp h)] [(0,some (.cells (fr (cL (cr v) 0)) 31 false))] (by repeat' first|exact bK|refine aM ?_ ?_|exact(by rw[dC,a4];exact bA.zfr _ _ _)|exact Wk.bare j|exact eU) (by repeat' first|exact aK|refine aF ?_ ?_|exact(by rw[dC,a4];exact bA.zfr _ _ _)|exact dj)),0,by omega,rfl,rfl⟩
  rintro k' _ _ ⟨i,hi,rfl,rfl⟩ Q1 hex an J;refine Jd.seq ?_;refine aN M ?_;refine Jd.cnd rfl (fun h2=>?_) (fun h2=>?_);rotate_left
  ·obtain rfl:i=v+1:=by have:=io h2;omega
   refine Jd.exitT (hex _ _ ?_);show Jb _ _ _ _ _ _;rw[show cL (cr v) (v+1)=cr v by rw[<-a4,jr]];refine zX 0 0 (fr (cr v)) [] [(6,.vw (fr (cr v)) (v+1)),(4,.snil)] [] ?_ (by repeat' first|exact bK|refine aM ?_ ?_|exact Wk.frz_sl (off:=0) (cC _)|exact eU) aK ?_
   ·exact aJ _
   refine aN M ?_;exact Jd.retT (aw.one rfl rfl rfl)
  have y:i<v+1:=by have:=gT h2;omega
  have hq:(cr v)[i]?=some (((1:Int):Rat)/(((v+1:Nat):Int):Rat)):=by unfold cr;rw[aBs,oR y];rfl
  have Y:=gp (qs:=cL (cr v) i) (i:=i) (by rw[dx _ (by omega)];omega) (((1:Int):Rat)/(((v+1:Nat):Int):Rat));rw[g8 hq]at Y;have a1:(fr (cL (cr v) i)).length=(v+1)*3:=by rw[iv,dx _ (by omega),a4]
  refine Jd.skipT ?_;refine Jd.seq (Jd.block ?_);clear hex;refine rq M (ax @b5 (ax @c6 (ax @ec (ax @Y (ax @a1 @iO))))) ?_;refine bW.norm ?_;show Jb _ _ _ _ _ _;refine f6 M ?_;refine J _ _ ⟨k'-1,_,_,by omega,(d9 1 [0] [(7,.i .i64 ((i+1:Nat):Int)),(6,.sl 0 0 (v+1) (v+1)),(5,.i .i64 (v:Int)),(4,.snil),(2,.vp [.i .i64 (O:Int),.i .i64 (v:Int),.vw (br gs) gs.length,.i .i64 k,.b am.neg,am.n,am.d,aP mx] 0),(1,bp h)] [(0,some (.cells (fr (cL (cr v) (i+1))) 31 false))] (by repeat' first|exact bK|refine aM ?_ ?_|exact Wk.bare j|exact eU) (by repeat' first|exact aK|refine aF ?_ ?_|exact bA.same (aJ _)|exact dj)),i+1,by omega,rfl,rfl⟩
 have b7:O≠0:=by have:=io h1;omega
 obtain⟨n,rfl⟩:∃n,O=n+1:=⟨O-1,by omega⟩;have ca:h.length=n:=by omega
 refine Jd.skipT ?_;have hs:=yP (n:=n+1) (v:=v) (gs:=gs) (h:=h) ⟨hT,by dsimp only;omega,v8,by dsimp only;omega⟩;have cx:(fun x=>tot 0 gs (h++[x]))=aU (n+1) gs (n+1) h:=by funext x;unfold aU;rw[aAS]
 rw[cx]at hs;simp only[bp]at hs;unfold fO at hs;have hM:∀m h,gw (aU (n+1) gs m h):=fun m h x=>sD hT _ _ _;have hm:=hM (n+1) h;obtain⟨C,hC⟩:∃C,aU (n+1) gs (n+1) h=C:=⟨_,rfl⟩;rw[hC]at hs hm;obtain⟨S,hS⟩:∃S,aZ C v=S:=⟨_,rfl⟩;have a7:=gJ hm v;obtain⟨Z,bf⟩:∃l,kM v C=l:=⟨_,rfl⟩;have b9:Z.length=v+1:=by rw[<-bf,xC]
 rw[hS,bf,b9]at hs;rw[hS]at a7;have bd:∀i,i<v+1->(is Z)[i]?=some (.i .i64 (C (i:Int))):=fun i hi=>rM (by rw[<-bf];unfold kM;rw[mT,MT hi];rfl);have hv:fg (.agg [.b am.neg,am.n,am.d])=some am.q:=lX hL.ham.v;have er:S<=900000000000000:=by have h9:((v+1:Nat):Int)*21474836480000<=9*21474836480000:=aDn (by omega) (by omega);omega
 have oS:=Fh (z:=S) a7.1 (by omega);have zS:QB 64 (S:Rat):=eS (by omega) (by omega);refine rg M (ax @c1 (ax @hs @Zb)) ?_;refine Jd.seq ?_;refine aN M ?_;refine Jd.cnd rfl (fun h2=>?_) (fun h2=>?_)
 ·have hk:k=1:=gT h2;have cd:0<am.q:=by
   rcases A with h|h|h|h
   ·exact h.2.1
   all_goals omega
  have hR:jE ⟨((n+1:Nat):Int),(v:Int),gs,k,am,mx⟩ h=gu C v am.q:=by unfold jE qX;rw[iF (show LG.o ⟨((n+1:Nat):Int),(v:Int),gs,k,am,mx⟩≠0 from b7),hk,<-hC];rfl
  rw[hR];obtain⟨qs,av⟩:∃l,gu C v am.q=l:=⟨_,rfl⟩;rw[av];have N:qs.length=v+1:=by rw[<-av];unfold gu;simp
  have eh:=Fh (z:=((v+1:Nat):Int)) (by omega) (by omega);have zV:QB 64 (((v+1:Nat):Int):Rat):=eS (by omega) (by omega);have ee:=aj (df (·*·) hv (bu (aO zV (by omega))));have a6:=aj (fM (·+·) (aO zS (by omega)) (aO (ad.mul zV) (by omega)));obtain⟨D,hD⟩:∃D,(S:Rat)+am.q*(((v+1:Nat):Int):Rat)=D:=⟨_,rfl⟩;have db:QB 200 D:=by rw[<-hD];exact(zS.add (ad.mul zV)).mono (by omega)
  rw[hD]at a6;have cy:D≠0:=by
   have h1:(0:Rat)<=(S:Rat):=by exact_mod_cast a7.1
   have h2:(0:Rat)<am.q*(((v+1:Nat):Int):Rat):=aDy cd (by exact_mod_cast aDL v)
   grind
  refine Jd.seq ?_;refine Jd.seq ?_;refine f6 M ?_;show Jb _ _ _ _ _ _;refine Jd.loopB (fun k' g s=>∃i:Nat,i+k'=v+1/\g=⟨160,137,Tr.of [(10,.i .i64 (i:Int)),(9,.i .i64 S),(8,.vw (is Z) (v+1)),(6,.sl 0 0 (v+1) (v+1)),(5,.i .i64 (v:Int)),(4,.snil),(2,.vp [.i .i64 ((n+1:Nat):Int),.i .i64 (v:Int),.vw (br gs) gs.length,.i .i64 k,.b am.neg,am.n,am.d,aP mx] 0),(1,bp h)],none,[]⟩/\s=St.of [(0,some (.cells (fr (cL qs i)) 31 false))] 1) (v+1) ?_ ?_
  ·exact⟨_,_,(d9 1 [0] [(10,.i .i64 ((0:Nat):Int)),(9,.i .i64 S),(8,.vw (is Z) (v+1)),(6,.sl 0 0 (v+1) (v+1)),(5,.i .i64 (v:Int)),(4,.snil),(2,.vp [.i .i64 ((n+1:Nat):Int),.i .i64 (v:Int),.vw (br gs) gs.length,.i .i64 k,.b am.neg,am.n,am.d,aP mx] 0),(1,bp h)] [(0,some (.cells (fr (cL qs 0)) 31 false))] (by repeat' first|exact bK|refine aM ?_ ?_|exact(by rw[dC,N];exact bA.zfr _ _ _)|exact Wk.bare j|exact eU) (by repeat' first|exact aK|refine aF ?_ ?_|exact(by rw[dC,N];exact bA.zfr _ _ _)|exact dj)),0,by omega,rfl,rfl⟩
  rintro k' _ _ ⟨i,hi,rfl,rfl⟩ Q1 hex an J;refine Jd.seq ?_;refine aN M ?_;refine Jd.cnd rfl (fun h3=>?_) (fun h3=>?_);rotate_left
  ·obtain rfl:i=v+1:=by have:=io h3;omega
   refine Jd.exitT (hex _ _ ?_);show Jb _ _ _ _ _ _;rw[show cL qs (v+1)=qs by rw[<-N,jr]];refine zX 0 0 (fr qs) [] [(6,.vw (fr qs) (v+1)),(4,.snil)] [] ?_ (by repeat' first|exact bK|refine aM ?_ ?_|exact Wk.frz_sl (off:=0) (cC _)|exact eU) aK ?_
   ·exact aJ _
   refine aN M ?_;exact Jd.retT (aw.one rfl rfl rfl)
  have y:i<v+1:=by have:=gT h3;omega
  have b6:=hm (i:Int);have zC:QB 64 ((C (i:Int):Int):Rat):=eS (by omega) (by omega);have ef:=Fh (z:=C (i:Int)) b6.1 (by omega);have b8:=aj (df (·+·) (bu (aO zC (by omega))) hv);have ea:=aj (l9 (bu (aO (zC.add ad) (by omega))) (bu (aO db (by omega))) cy);have hq:qs[i]?=some ((((C (i:Int):Int):Rat)+am.q)/D):=by rw[<-av,<-hD,<-hS];unfold gu;rw[mT,MT y];rfl
  have Y:=gp (qs:=cL qs i) (i:=i) (by rw[dx _ (by omega)];omega) ((((C (i:Int):Int):Rat)+am.q)/D);rw[g8 hq]at Y;have a1:(fr (cL qs i)).length=(v+1)*3:=by rw[iv,dx _ (by omega),N]
  refine Jd.skipT ?_;refine Jd.seq (Jd.block ?_);clear hex;apply Jd.drwQ M [] (by kernel_rfl);(· intro K gl u hK;simp only[sv]at u;subst u;simp (maxSteps:=1000000) (disch:=omega) only[↓nD,↓nC,nB,Nat.reduceEqDiff,↓reduceIte,Nat.reduceLT,Nat.reduceAdd,iT,ij,Cc,NE,NO,iO, bd i y,b5,c7,c8,c9,cu,ef,oS,eh,b8,ee,a6,ea,Y,a1,iO];exact hK)
  refine bW.norm ?_;show Jb _ _ _ _ _ _;refine f6 M ?_;refine J _ _ ⟨k'-1,_,_,by omega,(d9 1 [0] [(10,.i .i64 ((i+1:Nat):Int)),(9,.i .i64 S),(8,.vw (is Z) (v+1)),(6,.sl 0 0 (v+1) (v+1)),(5,.i .i64 (v:Int)),(4,.snil),(2,.vp [.i .i64 ((n+1:Nat):Int),.i .i64 (v:Int),.vw (br gs) gs.length,.i .i64 k,.b am.neg,am.n,am.d,aP mx] 0),(1,bp h)] [(0,some (.cells (fr (cL qs (i+1))) 31 false))] (by repeat' first|exact bK|refine aM ?_ ?_|exact Wk.bare j|exact eU) (by repeat' first|exact aK|refine aF ?_ ?_|exact bA.same (aJ _)|exact dj)),i+1,by omega,rfl,rfl⟩
 have U:k≠1:=io h2;refine Jd.skipT ?_;have bm:=OT (n:=n) (v:=v) (gs:=gs) hT (by omega) v8;unfold fO at bm;obtain⟨gl,u⟩:∃g,iq gs=g:=⟨_,rfl⟩;rw[u]at bm;refine rg M (ax @f1 @f2) ?_;refine rg M (ax @c2 @bm) ?_;have a9:aq [.i .i64 (n:Int),.i .i64 (v:Int),.vw (br gl) gl.length,.i .i64 k,.b am.neg,am.n,am.d,aP mx]=true:=by simp only[aq,bare,b1,b2];rfl
 refine zX 1 1 ([.i .i64 (n:Int),.i .i64 (v:Int),.vw (br gl) gl.length,.i .i64 k,.b am.neg,am.n,am.d,aP mx]) [0] [(11,.vp [.i .i64 (n:Int),.i .i64 (v:Int),.vw (br gl) gl.length,.i .i64 k,.b am.neg,am.n,am.d,aP mx] 0),(9,.i .i64 S),(8,.vw (is Z) (v+1)),(6,.sl 0 0 (v+1) (v+1)),(5,.i .i64 (v:Int)),(4,.snil),(2,.vp [.i .i64 ((n+1:Nat):Int),.i .i64 (v:Int),.vw (br gs) gs.length,.i .i64 k,.b am.neg,am.n,am.d,aP mx] 0),(1,bp h)] [(0,some (.cells (fr (List.replicate (v+1) 0)) 31 false))] ?_ (by repeat' first|exact bK|refine aM ?_ ?_|exact Wk.frz_ptr|exact Wk.bare j|exact eU) (by repeat' first|exact aK|refine aF ?_ ?_|exact bA.zfr _ _ _|exact dj) ?_
 ·exact a9
 refine aN M ?_;obtain⟨h',a0⟩:∃l,h.drop 1=l:=⟨_,rfl⟩;refine Jd.mid ⟨160,137,Tr.of [(12,bp h'),(11,.vp [.i .i64 (n:Int),.i .i64 (v:Int),.vw (br gl) gl.length,.i .i64 k,.b am.neg,am.n,am.d,aP mx] 0),(9,.i .i64 S),(8,.vw (is Z) (v+1)),(6,.sl 0 0 (v+1) (v+1)),(5,.i .i64 (v:Int)),(4,.snil),(2,.vp [.i .i64 ((n+1:Nat):Int),.i .i64 (v:Int),.vw (br gs) gs.length,.i .i64 k,.b am.neg,am.n,am.d,aP mx] 0),(1,bp h)],none,[]⟩ (St.of [(0,some (.cells (fr (List.replicate (v+1) 0)) 31 false))] 1) ?_ fun b2 Q2 k2=>?_;rotate_left
 ·refine Jd.seq ?_;refine aN M ?_;refine Jd.cnd rfl (fun h3=>?_) (fun h3=>?_)
  ·have h3:=gT h3;have du:List.drop 1 (is h)=is h':=by rw[<-a0];show(is h).drop 1=_;simp[is,aCl]
   have dv:h.length-1=h'.length:=by rw[<-a0,Rw]
   have dn:Nat.ble 1 h.length=true:=aX (by show 1<=_;omega);refine rq M (ax @du (ax @dv @dn)) ?_;show Jb _ _ _ _ _ _;refine tX 1 [0] [(12,bp h'),(11,.vp [.i .i64 (n:Int),.i .i64 (v:Int),.vw (br gl) gl.length,.i .i64 k,.b am.neg,am.n,am.d,aP mx] 0),(9,.i .i64 S),(8,.vw (is Z) (v+1)),(6,.sl 0 0 (v+1) (v+1)),(5,.i .i64 (v:Int)),(4,.snil),(2,.vp [.i .i64 ((n+1:Nat):Int),.i .i64 (v:Int),.vw (br gs) gs.length,.i .i64 k,.b am.neg,am.n,am.d,aP mx] 0),(1,bp h)] [(0,some (.cells (fr (List.replicate (v+1) 0)) 31 false))] (by repeat' first|exact bK|refine aM ?_ ?_|exact Wk.bare j|exact Wk.bare a9|exact eU) (by repeat' first|exact aK|refine aF ?_ ?_|exact bA.same (aJ _)|exact dj) ?_;exact k2
  have h3:h.length=0:=by have:=io h3;omega
  have hn:h'=[]:=by rw[<-a0,AS (by omega)]
  refine Jd.skip ?_;show Jb _ _ _ _ _ _;refine tX 1 [0] [(12,bp h'),(11,.vp [.i .i64 (n:Int),.i .i64 (v:Int),.vw (br gl) gl.length,.i .i64 k,.b am.neg,am.n,am.d,aP mx] 0),(9,.i .i64 S),(8,.vw (is Z) (v+1)),(6,.sl 0 0 (v+1) (v+1)),(5,.i .i64 (v:Int)),(4,.snil),(2,.vp [.i .i64 ((n+1:Nat):Int),.i .i64 (v:Int),.vw (br gs) gs.length,.i .i64 k,.b am.neg,am.n,am.d,aP mx] 0),(1,bp h)] [(0,some (.cells (fr (List.replicate (v+1) 0)) 31 false))] (by repeat' first|exact bK|refine aM ?_ ?_|exact Wk.bare j|exact Wk.bare a9|exact Wk.vwn hn|exact eU) (by repeat' first|exact aK|refine aF ?_ ?_|exact bA.same (aJ _)|exact dj) ?_;exact k2
 refine Jd.seq ?_;refine aN M ?_;refine Jd.cnd rfl (fun h3=>?_) (fun h3=>?_)
 ·have hk:k=2:=gT h3;have ed:mx.length=n+1+1:=by
   rcases A with h|h|h|h
   ·omega
   ·exact h.2.1
   all_goals omega
  have bn:=SG ok (by dsimp only;omega) ed;have hR:jE ⟨((n+1:Nat):Int),(v:Int),gs,k,am,mx⟩ h=iX (aU (n+1) gs) v (jG mx) (n+1) h:=by unfold jE qX;rw[iF (show LG.o ⟨((n+1:Nat):Int),(v:Int),gs,k,am,mx⟩≠0 from b7),hk];rfl
  rw[hR];unfold LG.cells at bn;dsimp only at bn;refine rg M (ax @f1 (ax @f2 (ax @c3 @bn))) ?_;exact Jd.retT (aw.one rfl rfl rfl)
 have bj:k≠2:=io h3;have al:k=3∨k=4:=by
  rcases A with h|h|h|h
  ·exact absurd h.1 U
  ·exact absurd h.1 bj
  ·exact .inl h.1
  exact .inr h
 refine Jd.skipT ?_;have dd:LG.Ok ⟨(n:Int),(v:Int),gl,k,am,mx⟩:=⟨hL.ham,hL.hmix,by have:=(rG hT).1.1.1;show gl.length<=1000;rw[<-u];unfold iq;omega⟩
 have a5:=II (b:=b) (L:=⟨(n:Int),(v:Int),gl,k,am,mx⟩) (h:=h') (O:=n) (v:=v) ⟨⟨rfl,rfl,dd,by rw[<-u];exact(rG hT).1,by omega,v8,ad,ch⟩,by omega,by
  rcases lE n with h1|h1
  ·exact .inl h1
  ·exact .inr (by show h'.length+1=n;rw[<-a0,Rw];omega),by
  rcases A with h|h|h|h
  ·exact absurd h.1 U
  ·exact absurd h.1 bj
  ·exact .inr (.inr (.inl h))
  exact .inr (.inr (.inr h))⟩
 unfold LG.cells at a5;dsimp only at a5;have cf:jE ⟨(n:Int),(v:Int),gl,k,am,mx⟩ h'=eD k (aU (n+1) gs) v am.q n (h.drop 1):=by rw[<-u,Nx al hT,a0]
 have ba:=Nw (k:=k) hM v8 ad (n:=n) (by omega) (h.drop 1);have bx:=qW k (aU (n+1) gs) v am.q n (h.drop 1);obtain⟨ps,b0⟩:∃l,eD k (aU (n+1) gs) v am.q n (h.drop 1)=l:=⟨_,rfl⟩;rw[cf,b0]at a5;rw[b0]at ba bx;refine rg M (ax @f1 (ax @f2 (ax @c4 @a5))) ?_;refine aN M ?_;refine aN M ?_;have hR:jE ⟨((n+1:Nat):Int),(v:Int),gs,k,am,mx⟩ h=eD k (aU (n+1) gs) v am.q (n+1) h:=IH al;have a2:=F0 al hM v am.q n h (S:=S) (by rw[hC,hS])
 have b3:=Sd (k:=k) al hM (v:=v) (a:=am.q) (fun e=>by
  rcases A with h|h|h|h
  ·exact absurd h.1 U
  ·exact absurd h.1 bj
  ·exact h.2
  ·omega) n h (h.drop 1)
 rw[hC,b0]at a2 b3;obtain⟨qs,av⟩:∃l,eD k (aU (n+1) gs) v am.q (n+1) h=l:=⟨_,rfl⟩;rw[hR,av];rw[av]at a2;have N:qs.length=v+1:=by rw[a2];simp
 have cm:=wg C (B:=5000000) (by omega) ba;have cb:∀i,i<v+1->∃p,ps[i]?=some p/\QB 5000000 p/\ps.getD i 0=p:=fun i hi=>by obtain⟨p,hp⟩:∃p,ps[i]?=some p:=⟨_,bY (by omega)⟩;exact⟨p,hp,ba p (eQ hp),by rw[eM,hp];rfl⟩
 refine Jd.seq ?_;refine Jd.seq ?_;refine f6 M ?_;show Jb _ _ _ _ _ _;refine Jd.loopB (fun k' g s=>∃(i:Nat),i+k'=v+1/\g=⟨160,137,Tr.of [(16,.i .i64 (i:Int)),(15,.ptr 1 0),(14,.i .i64 ((dM C i:Nat):Int)),(13,.vw (fr ps) (v+1)),(9,.i .i64 S),(8,.vw (is Z) (v+1)),(6,.sl 0 0 (v+1) (v+1)),(5,.i .i64 (v:Int)),(4,.snil),(2,.vp [.i .i64 ((n+1:Nat):Int),.i .i64 (v:Int),.vw (br gs) gs.length,.i .i64 k,.b am.neg,am.n,am.d,aP mx] 0),(1,bp h)],none,[]⟩/\s=St.of [(1,some (.cells (ai (dc C ps i)) 31 false)),(0,some (.cells (fr (List.replicate (v+1) 0)) 31 false))] 2) (v+1) ?_ ?_
 ·exact⟨_,_,(d9 2 [0,1] [(16,.i .i64 ((0:Nat):Int)),(15,.ptr 1 0),(14,.i .i64 ((dM C 0:Nat):Int)),(13,.vw (fr ps) (v+1)),(9,.i .i64 S),(8,.vw (is Z) (v+1)),(6,.sl 0 0 (v+1) (v+1)),(5,.i .i64 (v:Int)),(4,.snil),(2,.vp [.i .i64 ((n+1:Nat):Int),.i .i64 (v:Int),.vw (br gs) gs.length,.i .i64 k,.b am.neg,am.n,am.d,aP mx] 0),(1,bp h)] [(1,some (.cells (ai (dc C ps 0)) 31 false)),(0,some (.cells (fr (List.replicate (v+1) 0)) 31 false))] (by repeat' first|exact bK|refine aM ?_ ?_|exact Wk.bare j|exact eU) (by repeat' first|exact aK|refine aF ?_ ?_|exact bA.same (aJ _)|exact bA.zf1 _ _|exact dj)),0,by omega,rfl,rfl⟩
 rintro k' _ _ ⟨i,hi,rfl,rfl⟩ Q1 hex an J;refine Jd.seq ?_;refine aN M ?_;refine Jd.cnd rfl (fun h4=>?_) (fun h4=>?_)
 ·have y:i<v+1:=by have:=gT h4;omega
  have b6:=hm (i:Int);obtain⟨p,hp,bB,bo⟩:=cb i y;have et:=zm C i;refine Jd.skipT ?_;refine Jd.seq (Jd.block ?_);clear hex;refine rg M (bd i y) ?_;refine Jd.cnd rfl (fun h5=>?_) (fun h5=>?_)
  ·have h5:C (i:Int)≠0:=by have:=gT h5;omega
   have U:((dM C i:Nat):Int)+1=((dM C (i+1):Nat):Int):=by show _=(((if C (i:Int)=0 then dM C i else dM C i+1:Nat)):Int);rw[iF h5];omega
   have b4:dc C ps (i+1)=dc C ps i:=by rw[AR,iF h5]
   refine rq M @U ?_;refine bW.norm ?_;show Jb _ _ _ _ _ _;refine f6 M ?_;refine J _ _ ⟨k'-1,_,_,by omega,(d9 2 [0,1] [(16,.i .i64 ((i+1:Nat):Int)),(15,.ptr 1 0),(14,.i .i64 ((dM C (i+1):Nat):Int)),(13,.vw (fr ps) (v+1)),(9,.i .i64 S),(8,.vw (is Z) (v+1)),(6,.sl 0 0 (v+1) (v+1)),(5,.i .i64 (v:Int)),(4,.snil),(2,.vp [.i .i64 ((n+1:Nat):Int),.i .i64 (v:Int),.vw (br gs) gs.length,.i .i64 k,.b am.neg,am.n,am.d,aP mx] 0),(1,bp h)] [(1,some (.cells (ai (dc C ps (i+1))) 31 false)),(0,some (.cells (fr (List.replicate (v+1) 0)) 31 false))] (by repeat' first|exact bK|refine aM ?_ ?_|exact Wk.bare j|exact eU) (by repeat' first|exact aK|refine aF ?_ ?_|exact bA.same (aJ _)|exact bA.cells (by rw[b4];rfl)|exact dj)),i+1,by omega,rfl,rfl⟩
  have h5:C (i:Int)=0:=by have:=io h5;omega
  have U:dM C (i+1)=dM C i:=by show(if C (i:Int)=0 then dM C i else dM C i+1)=_;rw[oR h5]
  have b4:dc C ps (i+1)=dc C ps i+p:=by rw[AR,oR h5,bo]
  have dm:=aj (fM (·+·) (aO (cm i) (by have:i*(5000000+1)<=9*5000001:=aCo (by omega) (by omega);omega)) (aO bB (by omega)));apply Jd.drwQ M [(6,0)] (by kernel_rfl);(· intro K gl u hK;simp only[sv]at u;subst u;simp (maxSteps:=1000000) (disch:=omega) only[↓nD,↓nC,nB,Nat.reduceEqDiff,↓reduceIte,Nat.reduceLT,Nat.reduceAdd,iT,ij,Cc,NE,NO,iO, ew,A5,i6 hp,c8,dm,iO];exact hK)
  refine bW.norm ?_;show Jb _ _ _ _ _ _;refine f6 M ?_;refine J _ _ ⟨k'-1,_,_,by omega,(d9 2 [0,1] [(16,.i .i64 ((i+1:Nat):Int)),(15,.ptr 1 0),(14,.i .i64 ((dM C (i+1):Nat):Int)),(13,.vw (fr ps) (v+1)),(9,.i .i64 S),(8,.vw (is Z) (v+1)),(6,.sl 0 0 (v+1) (v+1)),(5,.i .i64 (v:Int)),(4,.snil),(2,.vp [.i .i64 ((n+1:Nat):Int),.i .i64 (v:Int),.vw (br gs) gs.length,.i .i64 k,.b am.neg,am.n,am.d,aP mx] 0),(1,bp h)] [(1,some (.cells (ai (dc C ps (i+1))) 31 false)),(0,some (.cells (fr (List.replicate (v+1) 0)) 31 false))] (by repeat' first|exact bK|refine aM ?_ ?_|exact Wk.bare j|exact(by rw[U];exact Wk.refl _ _)|exact eU) (by repeat' first|exact aK|refine aF ?_ ?_|exact bA.same (aJ _)|exact bA.cells (by rw[b4];rfl)|exact(by rw[U];exact Wk.refl _ _)|exact dj)),i+1,by omega,rfl,rfl⟩
 obtain rfl:i=v+1:=by have:=io h4;omega
 refine Jd.exitT (hex _ _ ?_);show Jb _ _ _ _ _ _;clear hex an J;obtain⟨K,hK⟩:∃K:Nat,dM C (v+1)=K:=⟨_,rfl⟩;obtain⟨R,a3⟩:∃R,dc C ps (v+1)=R:=⟨_,rfl⟩;have en:K<=v+1:=by rw[<-hK];exact zm C (v+1)
 have dl:QB 50000000 R:=by rw[<-a3];exact(cm (v+1)).mono (by have:(v+1)*(5000000+1)<=9*5000001:=aCo (by omega) (by omega);omega)
 rw[hK,a3]at a2;rw[hK,a3]at b3;rw[hK,a3]
 have ej:∀i,i<v+1->∀p,QB 5000000 p->∀s,ab wgtV [.agg [.i .i64 ((n+1:Nat):Int),.i .i64 (v:Int),.vw (br gs) gs.length,.i .i64 k,.b am.neg,am.n,am.d,aP mx],.i .i64 (C (i:Int)),.i .i64 S,.i .i64 (K:Int),fq p,fq R] s=some (fq (qa k v am.q p R (C (i:Int)) S (K:Int)),s):=fun i hi p hp s=>
  VM (L:=⟨((n+1:Nat):Int),(v:Int),gs,k,am,mx⟩) ⟨hL,ad,hp,dl,by have:=hm (i:Int);dsimp only;omega,by dsimp only;omega,by show 0<=((K:Nat):Int)/\((K:Nat):Int)<=9;omega,by dsimp only;omega,fun _ h4 eb _=>b3 h4 eb⟩ s
 refine Jd.seq ?_;refine Jd.seq ?_;refine f6 M ?_;show Jb _ _ _ _ _ _;refine Jd.loopB (fun k' g s=>∃(i:Nat),i+k'=v+1/\g=⟨160,137,Tr.of [(17,.i .i64 (i:Int)),(15,.ptr 1 0),(14,.i .i64 (K:Int)),(13,.vw (fr ps) (v+1)),(9,.i .i64 S),(8,.vw (is Z) (v+1)),(6,.sl 0 0 (v+1) (v+1)),(5,.i .i64 (v:Int)),(4,.snil),(2,.vp [.i .i64 ((n+1:Nat):Int),.i .i64 (v:Int),.vw (br gs) gs.length,.i .i64 k,.b am.neg,am.n,am.d,aP mx] 0),(1,bp h)],none,[]⟩/\s=St.of [(1,some (.cells (ai R) 31 false)),(0,some (.cells (fr (cL qs i)) 31 false))] 2) (v+1) ?_ ?_
 ·exact⟨_,_,(d9 2 [0,1] [(17,.i .i64 ((0:Nat):Int)),(15,.ptr 1 0),(14,.i .i64 (K:Int)),(13,.vw (fr ps) (v+1)),(9,.i .i64 S),(8,.vw (is Z) (v+1)),(6,.sl 0 0 (v+1) (v+1)),(5,.i .i64 (v:Int)),(4,.snil),(2,.vp [.i .i64 ((n+1:Nat):Int),.i .i64 (v:Int),.vw (br gs) gs.length,.i .i64 k,.b am.neg,am.n,am.d,aP mx] 0),(1,bp h)] [(1,some (.cells (ai R) 31 false)),(0,some (.cells (fr (cL qs 0)) 31 false))] (by repeat' first|exact bK|refine aM ?_ ?_|exact(by rw[dC,N];exact bA.same (aJ _))|exact Wk.bare j|exact eU) (by repeat' first|exact aK|refine aF ?_ ?_|exact(by rw[dC,N];exact bA.same (aJ _))|exact bA.same (fc_bare _)|exact dj)),0,by omega,rfl,rfl⟩
 rintro k' _ _ ⟨i,hi,rfl,rfl⟩ Q1 hex an J;refine Jd.seq ?_;refine aN M ?_;refine Jd.cnd rfl (fun h4=>?_) (fun h4=>?_);rotate_left
 ·obtain rfl:i=v+1:=by have:=io h4;omega
  refine Jd.exitT (hex _ _ ?_);show Jb _ _ _ _ _ _;rw[show cL qs (v+1)=qs by rw[<-N,jr]];refine zX 0 0 (fr qs) [] [(6,.vw (fr qs) (v+1)),(4,.snil)] [] ?_ (by repeat' first|exact bK|refine aM ?_ ?_|exact Wk.frz_sl (off:=0) (cC _)|exact eU) aK ?_
  ·exact aJ _
  refine aN M ?_;exact Jd.ret (aw.one rfl rfl rfl)
 have y:i<v+1:=by have:=gT h4;omega
 obtain⟨p,hp,bB,bo⟩:=cb i y;have hw:=ej i y p bB;obtain⟨w,cp⟩:∃w,qa k v am.q p R (C (i:Int)) S (K:Int)=w:=⟨_,rfl⟩;rw[cp]at hw;have hq:qs[i]?=some w:=by rw[a2,mT,MT y,AC,bo,cp]
 have Y:=gp (qs:=cL qs i) (i:=i) (by rw[dx _ (by omega)];omega) w;rw[g8 hq]at Y;have a1:(fr (cL qs i)).length=(v+1)*3:=by rw[iv,dx _ (by omega),N]
 refine Jd.skipT ?_;refine Jd.seq (Jd.block ?_);clear hex;apply Jd.drwQ M [] (by kernel_rfl);(· intro K gl u hK;simp only[sv]at u;subst u;simp (maxSteps:=1000000) (disch:=omega) only[↓nD,↓nC,nB,Nat.reduceEqDiff,↓reduceIte,Nat.reduceLT,Nat.reduceAdd,iT,ij,Cc,NE,NO,iO, f1,f2,ew,bd i y,i6 hp,c5,hw,Y,a1,iO];exact hK)
 refine bW.norm ?_;show Jb _ _ _ _ _ _;refine f6 M ?_;refine J _ _ ⟨k'-1,_,_,by omega,(d9 2 [0,1] [(17,.i .i64 ((i+1:Nat):Int)),(15,.ptr 1 0),(14,.i .i64 (K:Int)),(13,.vw (fr ps) (v+1)),(9,.i .i64 S),(8,.vw (is Z) (v+1)),(6,.sl 0 0 (v+1) (v+1)),(5,.i .i64 (v:Int)),(4,.snil),(2,.vp [.i .i64 ((n+1:Nat):Int),.i .i64 (v:Int),.vw (br gs) gs.length,.i .i64 k,.b am.neg,am.n,am.d,aP mx] 0),(1,bp h)] [(1,some (.cells (ai R) 31 false)),(0,some (.cells (fr (cL qs (i+1))) 31 false))] (by repeat' first|exact bK|refine aM ?_ ?_|exact Wk.bare j|exact eU) (by repeat' first|exact aK|refine aF ?_ ?_|exact bA.same (aJ _)|exact bA.same (fc_bare _)|exact dj)),i+1,by omega,rfl,rfl⟩
def Wl(d:List Int×Int):List AV:=[bp d.1,.i .i64 d.2]
theorem Je(x y:List Int×Int)(h:Wl x=Wl y):x=y:=by obtain⟨a,b⟩:=x;obtain⟨a',b'⟩:=y;simp only[Wl,rW,AV.vw.injEq,AV.i.injEq,and_true,true_and]at h;rw[eu h.1.1,h.2]
noncomputable def nxRV:=ofE Wl (fun d=>d.1.length<=1000) fun d=>bp (dq d.1 d.2)
theorem Wj{h:List Int}(hl:h.length<=1000)(w:Int)(s:St):ab nxRV [bp h,.i .i64 w] s=some (bp (dq h w),s):=fT (d:=(h,w)) Je hl s
theorem WY:ag Tryz.prog 161 (ab nxRV):=by
 obtain⟨E,M⟩:=uq;refine aE (by kernel_rfl) Tryz.func161 Tryz.ntmps161 rfl ?_;intro args v U;obtain⟨⟨h,w⟩,hl,rfl,rfl⟩:=cU U;have hl:h.length<=1000:=hl;clear U;refine⟨rfl,rfl,nE rfl,?_⟩;unfold Wl;rw[cZ,St.of_nil];dsimp only;refine aN M ?_;refine Jd.seq ?_;refine aN M ?_;refine Jd.cnd rfl (fun y=>?_) (fun y=>?_)
 ·have y:h=[]:=oF (by have:=gT y;omega);refine aN M ?_;refine tX 0 [] [(4,bp [])] [] (by repeat' first|exact bK|refine aM ?_ ?_|exact Wk.none _|exact eU) aK ?_;exact Jd.retT (aw.one rfl rfl (by rw[y];rfl))
 have y:h.length≠0:=by have:=io y;omega
 refine Jd.skipT ?_;have Y:bX Tryz.prog 3=some (.i .i64 0):=by kernel_rfl
 have he:yd Tryz.prog 3 (.i .i64 0) 1=true:=by kernel_rfl
 obtain⟨j,u⟩:∃l,h.drop 1=l:=⟨_,rfl⟩;have B:List.drop 1 (is h)=is j:=by rw[<-u];show(is h).drop 1=_;simp[is,aCl]
 have C:h.length-1=j.length:=by rw[<-u,Rw]
 have A:Nat.ble 1 h.length=true:=aX (by show 1<=_;omega);have al:j.length<=1000:=by rw[<-u,Rw];omega
 have hnx:dq h w=j++[w]:=by unfold dq;rw[aDx (by omega),u]
 rw[hnx];have ad:(is (j++[w])).length=j.length+1:=by simp[is]
 rcases lE j.length with J|J
 ·have hn:j=[]:=oF J;have ha:∀s,gc Tryz.prog 51 51 .snil (.vw (is j) j.length) s=some (.snil,s):=fun s=>si Tryz.underlying51 Y he s (by rw[IL,hn];rfl);refine rg M (ax @B (ax @C (ax @A @ha))) ?_;refine zX 0 1 ([.i .i64 w]) [] [(4,.vw [.i .i64 w] 1)] [] ?_ (by repeat' first|exact bK|refine aM ?_ ?_|exact Wk.frz_sl (off:=0) (by have:=dW;omega)|exact eU) aK ?_
  ·rfl
  exact Jd.ret (aw.one rfl rfl (by rw[hn];rfl))
 have ha:∀s,gc Tryz.prog 51 51 .snil (.vw (is j) j.length) s=some (.sl s.nx 0 j.length (bI+1),s.new (.cells (is j) 3 true)):=fun s=>uY Tryz.underlying51 Y he j.length s (IL j s) (by simp[is]) J (by omega);have Z:∀(s:St)(d:List AV)(t2:TypeId)(x:Bool),Xz Tryz.prog 51 51 3 1 0 j.length (bI+1) 1 s (some (.cells (is j) 3 true)) (some (.cells d t2 x))=YF Tryz.prog 51 51 3 1 0 j.length (bI+1) 1 s (is j) (getR d 0 1):=fun s d t2 x=>xO _ _ _ 1 0 _ _ 1 s d t2 x (by simp[is]) (by omega);have N:is j++[.i .i64 w]=is (j++[w]):=by simp[is]
 refine rg M (ax @B (ax @C (ax @A (ax @ha (ax @Z @N))))) ?_;refine zX 0 2 (is (j++[w])) [] [(4,.vw (is (j++[w])) (j.length+1))] [] ?_ (by repeat' first|exact bK|refine aM ?_ ?_|exact Wk.frz_sl (off:=0) (by have:=dW;omega)|exact eU) aK ?_
 ·exact fH _
 exact Jd.ret (aw.one rfl rfl (by simp[bp]))
def jn(row:List Int->List Rat):List Int->List Int->Rat
 |h,[]=>(row h).getD 0 0
 |h,x::s=>(row h).getD x.toNat 0*jn row (dq h x) s
structure yx(d:LG×List Int)(n v:Nat):Prop where
 eO:d.1.O=((n+1:Nat):Int)
 eV:d.1.V=(v:Int)
 hL:d.1.Ok
 tab:mV v (n+1) d.1.gs
 n3:n<=3
 v8:v<=8
 am:QB 64 d.1.am.q
 mx:∀x∈d.1.mix,QB 64 x.q
 way:(d.1.k=1/\0<d.1.am.q)∨(d.1.k=2/\d.1.mix.length=n+2)∨(d.1.k=3/\0<d.1.am.q/\d.1.am.q<1)∨d.1.k=4
 few:d.2.length<=12
 word:∀x∈d.2,0<=x/\x<=(v:Int)
theorem yx.row{d:LG×List Int}{n v:Nat}(ok:yx d n v){h:List Int}(hh:h.length=n):Xh 5 (d.1,h) (n+1) v:=
 ⟨⟨ok.eO,ok.eV,ok.hL,ok.tab,by have:=ok.n3;omega,ok.v8,ok.am,ok.mx⟩,by have:=ok.n3;omega,.inr (by show h.length+1=n+1;omega),by
  rcases ok.way with h|h|h|h
  ·exact .inl ⟨h.1,h.2,by omega⟩
  ·exact .inr (.inl ⟨h.1,h.2,by omega⟩)
  ·exact .inr (.inr (.inl h))
  exact .inr (.inr (.inr h))⟩
theorem yx.qb{d:LG×List Int}{n v:Nat}(ok:yx d n v)(h:List Int):(jE d.1 h).length=v+1/\∀q∈jE d.1 h,QB 5000000 q:=by
 have y:∀m h,gw (aU (n+1) d.1.gs m h):=fun m h x=>sD ok.tab _ _ _;have B:d.1.o=n+1:=by unfold LG.o;rw[ok.eO];rfl
 have ev:d.1.v=v:=by unfold LG.v;rw[ok.eV];rfl
 have A:∀q∈jG d.1.mix,QB 64 q:=fun q j=>by obtain⟨x,C,rfl⟩:=Ac.1 j;exact ok.mx x C
 have n3:=ok.n3;unfold jE;rw[B,ev,iF (by omega)];refine⟨vT ..,?_⟩;unfold qX;rcases ok.way with⟨u,_⟩|⟨u,_⟩|⟨u,_⟩|u<;>rw[u]
 ·exact fun q j=>(E5 (y _ _) ok.v8 ok.am q j).mono (by omega)
 ·exact fun q j=>(zc y ok.v8 A (by omega) h q j).mono (by omega)
 ·exact fun q j=>(r7 y ok.v8 ok.am (n+1) h q j).mono (EM (z8 (by omega)) (by omega))
 exact fun q j=>(oV y ok.v8 (n+1) h q j).mono (EM (z8 (by omega)) (by omega))
noncomputable def saysRV:=ofE Sb (fun d=>∃n v,yx d n v) fun d=>fq (jn (jE d.1) (List.replicate (d.1.o-1) 0) d.2)
theorem Np{n v:Nat}{L:LG}{s:List Int}(ok:yx (L,s) n v)(t:St):ab saysRV [.agg L.cells,bp s] t=some (fq (jn (jE L) (List.replicate n 0) s),t):=by
 refine(fT (d:=(L,s)) AP ⟨n,v,ok⟩ t).trans ?_;have j:L.o=n+1:=by unfold LG.o;rw[show L.O=((n+1:Nat):Int)from ok.eO];rfl
 dsimp only;rw[j,aAD]
theorem QF:ag Tryz.prog 110 (ab saysRV):=by
 obtain⟨E,M,c1,c2,c3,c4⟩:=Wn (ab (rowRV 5)) (ab nxRV) (ab yi) (ab (cK (·*·))) ⟨Uw 5,WY,xT,sm⟩ rfl;refine aE (by kernel_rfl) Tryz.func110 Tryz.ntmps110 rfl ?_;intro args x h0;obtain⟨⟨L,u⟩,⟨n,v,ok⟩,rfl,rfl⟩:=cU h0;clear h0;have j:=fun(h:List Int) (hh:h.length=n)=>II (ok.row hh);have Z:=ok.qb;obtain⟨LO,LV,gs,k,am,mx⟩:=L;obtain⟨rfl,rfl,hL,_,n3,v8,_,_,_,few,y⟩:=ok;dsimp only at j Z few y⊢;have b1:=hL.ham.bn;have b2:=hL.ham.bd;have f1:=hL.ham.fn;have f2:=hL.ham.fd;dsimp only at b1 b2 f1 f2;have A:aq [.i .i64 ((n+1:Nat):Int),.i .i64 (v:Int),.vw (br gs) gs.length,.i .i64 k,.b am.neg,am.n,am.d,aP mx]=true:=by simp only[aq,bare,b1,b2];rfl
 refine⟨by show aq [AV.agg [.i .i64 ((n+1:Nat):Int),.i .i64 (v:Int),.vw (br gs) gs.length,.i .i64 k,.b am.neg,am.n,am.d,aP mx],_]=true;simp only[aq,bare,b1,b2];rfl,rfl,nE rfl,?_⟩;rw[show LG.o ⟨((n+1:Nat):Int),(v:Int),gs,k,am,mx⟩=n+1 from rfl,aAD];generalize jE ⟨((n+1:Nat):Int),(v:Int),gs,k,am,mx⟩=row at j Z⊢;unfold LG.cells at j;dsimp only at j;unfold Sb LG.cells;rw[cZ,St.of_nil];dsimp only;have ho:=aj (wD (z:=1) (by omega) (by omega));obtain⟨q1,U⟩:∃q:Rat,((1:Int):Rat)=q:=⟨_,rfl⟩;rw[U]at ho;have a3:((n+1:Nat):Int)-1=((n:Nat):Int):=by omega
 obtain⟨T,hT⟩:∃T,jn row (List.replicate n 0) u=T:=⟨_,rfl⟩;rw[hT];refine rg M (ax @f1 @f2) ?_;refine zX 1 0 ([.i .i64 ((n+1:Nat):Int),.i .i64 (v:Int),.vw (br gs) gs.length,.i .i64 k,.b am.neg,am.n,am.d,aP mx]) [1] [(4,.ptr 0 0),(2,.vp [.i .i64 ((n+1:Nat):Int),.i .i64 (v:Int),.vw (br gs) gs.length,.i .i64 k,.b am.neg,am.n,am.d,aP mx] 0),(1,bp u)] [(0,some (.cells [.b false,.snil,.snil] 31 false))] ?_ (by repeat' first|exact bK|refine aM ?_ ?_|exact Wk.frz_ptr|exact eU) AL ?_
 ·exact A
 refine rg M (ax @c3 (ax @ho @cY)) ?_;refine rg M (ax @a3 (ax @Mf (ax @sX (aX (show n<=1000000 by omega))))) ?_;obtain⟨hz,J⟩:∃l:List Int,List.replicate n 0=l:=⟨_,rfl⟩;have a4:hz.length=n:=by rw[<-J,aCC]
 rw[show reps [AV.i .i64 0] n=is hz by rw[wh,<-J];simp[is]];rw[J]at hT;refine zX 2 2 (is hz) [0,1] [(6,.vw (is hz) n),(5,.ptr 1 0),(4,.ptr 0 0),(2,.vp [.i .i64 ((n+1:Nat):Int),.i .i64 (v:Int),.vw (br gs) gs.length,.i .i64 k,.b am.neg,am.n,am.d,aP mx] 0),(1,bp u)] [(1,some (.cells (ai q1) 31 false)),(0,some (.cells [.b false,.snil,.snil] 31 false))] ?_ (by repeat' first|exact bK|refine aM ?_ ?_|exact Wk.frz_sl (off:=0) (cC _)|exact Wk.bare A|exact eU) (by repeat' first|exact aK|refine aF ?_ ?_|exact bA.same (fc_bare _)|exact dj) ?_
 ·exact fH _
 refine Jd.seq ?_;refine Jd.seq ?_;refine f6 M ?_;show Jb _ _ _ _ _ _;refine Jd.loopB (fun k' g s=>∃(i:Nat)(h:List Int)(q:Rat),i+k'=u.length/\h.length=n/\QB (2+i*5000000) q/\q*jn row h (u.drop i)=T/\g=⟨110,44,Tr.of [(7,.i .i64 (i:Int)),(6,.vw (is h) n),(5,.ptr 1 0),(4,.ptr 0 0),(2,.vp [.i .i64 ((n+1:Nat):Int),.i .i64 (v:Int),.vw (br gs) gs.length,.i .i64 k,.b am.neg,am.n,am.d,aP mx] 0),(1,bp u)],none,[]⟩/\s=St.of [(1,some (.cells (ai q) 31 false)),(0,some (.cells [.b false,.snil,.snil] 31 false))] 2) u.length ?_ ?_
 ·refine⟨_,_,(d9 2 [0,1] [(7,.i .i64 ((0:Nat):Int)),(6,.vw (is hz) n),(5,.ptr 1 0),(4,.ptr 0 0),(2,.vp [.i .i64 ((n+1:Nat):Int),.i .i64 (v:Int),.vw (br gs) gs.length,.i .i64 k,.b am.neg,am.n,am.d,aP mx] 0),(1,bp u)] [(1,some (.cells (ai q1) 31 false)),(0,some (.cells [.b false,.snil,.snil] 31 false))] (by repeat' first|exact bK|refine aM ?_ ?_|exact Wk.bare A|exact eU) (by repeat' first|exact aK|refine aF ?_ ?_|exact bA.same (fc_bare _)|exact dj)),0,hz,q1,by omega,a4,?_,?_,rfl,rfl⟩
  ·rw[<-U];exact eS (by decide) (by omega)
  rw[<-U,aCp,hT];exact aDX T
 rintro k' _ _ ⟨i,h,q,hi,C,hq,Y,rfl,rfl⟩ Q1 hex a5 a2;have hr:=j h C;simp only[bp,C]at hr;obtain⟨a7,an⟩:=Z h;refine Jd.seq ?_;refine aN M ?_;refine Jd.cnd rfl (fun h1=>?_) (fun h1=>?_);rotate_left
 ·obtain rfl:i=u.length:=by have:=io h1;omega
  refine Jd.exitT (hex _ _ ?_);show Jb _ _ _ _ _ _;obtain⟨e,he⟩:∃e,(row h)[0]?=some e:=⟨_,bY (by omega)⟩;have B:=an e (eQ he);rw[aAQ]at Y;have a0:q*e=T:=by rw[<-Y];show _=q*(row h).getD 0 0;rw[eM,he];rfl
  have hm:=aj (fM (·*·) (aO hq (by omega)) (aO B (by omega)));have a1:getR (fr (row h)) 0 3=some (ai e):=i6 he;refine dr M [] (ax @f1 (ax @f2 (ax @ew (ax @cY (ax @c1 (ax @hr (ax @a1 (ax @c4 (ax @hm @iO))))))))) ?_;exact Jd.ret (aw.c1 rfl rfl BD (by rw[a0];rfl))
 have N:i<u.length:=by have:=gT h1;omega
 obtain⟨x,hx⟩:∃x,u[i]?=some x:=⟨_,bY N⟩;have a9:=y x (eQ hx);obtain⟨m,rfl⟩:∃m:Nat,x=(m:Int):=⟨x.toNat,by omega⟩;have av:=rM hx;have a6:m<v+1:=by omega
 obtain⟨e,he⟩:∃e,(row h)[m]?=some e:=⟨_,bY (by omega)⟩;have B:=an e (eQ he);have hm:=aj (fM (·*·) (aO hq (by omega)) (aO B (by omega)));have al:(dq h (m:Int)).length=n:=by rw[rD,C]
 have hnx:=Wj (h:=h) (by omega) (m:Int);simp only[bp,C,al]at hnx;refine Jd.skipT ?_;refine Jd.seq (Jd.block ?_);clear hex;refine Jd.seq ?_;apply Jd.drwQ M [(11,0)] (by kernel_rfl);(· intro K gl ad hK;simp only[sv]at ad;subst ad;simp (maxSteps:=1000000) (disch:=omega) only[↓nD,↓nC,nB,Nat.reduceEqDiff,↓reduceIte,Nat.reduceLT,Nat.reduceAdd,iT,ij,Cc,NE,NO,iO, f1,f2,ew,A5,c1,hr,av,i6 he,c4,hm,iO];exact hK)
 show Jb _ _ _ _ _ _;refine rq M (ax @av (ax @c2 @hnx)) ?_;refine bW.norm ?_;show Jb _ _ _ _ _ _;refine f6 M ?_;refine a2 _ _ ⟨k'-1,_,_,by omega,(d9 2 [0,1] [(7,.i .i64 ((i+1:Nat):Int)),(6,.vw (is (dq h (m:Int))) n),(5,.ptr 1 0),(4,.ptr 0 0),(2,.vp [.i .i64 ((n+1:Nat):Int),.i .i64 (v:Int),.vw (br gs) gs.length,.i .i64 k,.b am.neg,am.n,am.d,aP mx] 0),(1,bp u)] [(1,some (.cells (ai (q*e)) 31 false)),(0,some (.cells [.b false,.snil,.snil] 31 false))] (by repeat' first|exact bK|refine aM ?_ ?_|exact Wk.bare A|exact eU) (by repeat' first|exact aK|refine aF ?_ ?_|exact bA.same (fc_bare _)|exact dj)),i+1,dq h (m:Int),q*e,by omega,al,(hq.mul B).mono (by omega),?_,rfl,rfl⟩;rw[<-Y,AT N];rw[show u[i]=(m:Int)from TO ((bY N).symm.trans hx)];show _=q*((row h).getD (m:Int).toNat 0*jn row (dq h (m:Int)) (u.drop (i+1)));rw[iO,eM,he,<-Rat.mul_assoc];rfl
theorem A8{l:List aW}{T:Int}:∀{u:List Int}{p:Int},cX l p u=some T->∀z∈u,0<=z/\z<(l.length:Int)
 | [],_,_,_,h=>by cases h
 |a::u,p,h,z,j=>by
  unfold cX at h;split at h
  ·cases h
  next A=>
  split at h
  ·next x y=>
   split at h
   ·cases h
   rcases Is.1 j with rfl|j
   ·have:=(dO.1 y).1;omega
   exact A8 h z j
  cases h
theorem nQ{T:Int}{l:List aW}{L:LG}{b:Bool}(h:dw T l L b=0):i3 T (aL l)=0/\L.err=0/\∀x∈l,x.a.w<=L.V:=by
 unfold dw at h;split at h
 ·cases h
 split at h
 ·next j=>exact absurd h j
 next j=>
 split at h
 ·next u=>exact absurd h u
 next u=>
 split at h
 ·cases h
 next A=>
 refine⟨aCG.1 j,aCG.1 u,fun x B=>?_⟩;rcases Int.lt_or_le L.V x.a.w with y|y
 ·exact absurd (.inl (List.any_eq_true.2 ⟨x,B,lT y⟩)) A
 exact y
theorem FO{T:Int}{l:List aW}{L:LG}{b:Bool}(hS:Hj T l L b)(h:dw T l L b=0):lM (mM T.toNat l L) l/\((mM T.toNat l L).T:Int)=T:=by
 obtain⟨u,B,y⟩:=nQ h;obtain⟨_,C,_,A⟩:=rL u;have hD:=vK hS h;refine⟨⟨rfl,rfl,hS.ok,fun x j=>⟨?_,?_⟩⟩,by show((T.toNat:Nat):Int)=T;omega⟩
 ·obtain⟨i,hi,he⟩:=aBw j;have hlt:i<(aL l).length:=by simp[aL];omega
  have:=(A i hlt).1;rw[fY (show l[i]?=some x by rw[bY hi,he])]at this;unfold iJ at this;simp only[gE,IS]at this;omega
 have:=y x j;rw[<-hD.eV];exact this
structure LW where
 T:Int
 l:List aW
 L:LG
 p:List Int
def Mv(d:LW):List AV:=[dk d.T d.l,.agg d.L.cells,bp d.p]
structure YX(d:LW):Prop where
 hS:Hj d.T d.l d.L false
 e0:dw d.T d.l d.L false=0
 q64:∀x∈d.l,QB 64 x.a.q
 few:d.p.length<=12
def Y5(d:LW):AV:=if cX d.l 0 d.p=some d.T then .tup [fq (lD (mM d.T.toNat d.l d.L) (aL d.l) d.p),.i .i64 0]else .tup [fq 0,.i .i64 2]
def Zz(args:List AV)(v:AV):Prop:=∃d,YX d/\args=Mv d/\v=Y5 d
theorem Yh{d:LW}(ok:YX d)(s:St):ab (relV Zz) (Mv d) s=some (Y5 d,s):=by refine aj (il ?_ ⟨d,ok,rfl,rfl⟩) s;rintro C ⟨u,j,e,rfl⟩;obtain⟨T,l,L,p⟩:=d;obtain⟨T',l',L',p'⟩:=u;simp only[Mv,dk,rW,AV.agg.injEq,AV.i.injEq,AV.vw.injEq,true_and,and_true]at e;obtain⟨⟨rfl,x,y⟩,A,B,_⟩:=e;obtain rfl:=jv ok.hS.ok j.hS.ok x y;obtain rfl:=LG.inj _ _ A;obtain rfl:=eu B;rfl
theorem Hc:ag Tryz.prog 47 (ab (relV Zz)):=by
 obtain⟨E,M,c1,c2,c3⟩:=SJ (relS (vL 109 (ab ordV))) (relS (fj Dk)) (relS (fj vY)) ⟨QE Hf rfl,UC,QI⟩ rfl;refine aE (by kernel_rfl) Tryz.func47 Tryz.ntmps47 rfl ?_;intro args x U;obtain⟨⟨T,l,L,p⟩,⟨hS,e0,Z,few⟩,rfl,rfl⟩:=dR U;clear U;dsimp only at hS e0 Z few;have j:=FN (f0:=109) (g0:=ab ordV) hS (.inl ⟨rfl,rfl⟩) e0;have hD:=vK hS e0;obtain⟨Y,y⟩:=FO hS e0;unfold nS at j;have hx:Y5 ⟨T,l,L,p⟩=if cX l 0 p=some T then .tup [fq (lD (mM T.toNat l L) (aL l) p),.i .i64 0]else .tup [fq 0,.i .i64 2]:=rfl
 rw[hx];generalize mM T.toNat l L=D at *;obtain⟨LO,LV,gs,k,am,mx⟩:=L;have J:=hS.hL.ham.bn;have N:=hS.hL.ham.bd;have f1:=hS.hL.ham.fn;have f2:=hS.hL.ham.fd;dsimp only at J N f1 f2;have A:=me hS.ok;refine⟨by show aq [AV.agg [.i .i64 T,.vw (ar l) l.length],AV.agg [.i .i64 LO,.i .i64 LV,.vw (br gs) gs.length,.i .i64 k,.b am.neg,am.n,am.d,aP mx],_]=true;simp only[aq,bare,J,N,A];rfl,by split<;>rfl,nE rfl,?_⟩;unfold Mv dk LG.cells;unfold dk LG.cells at j;dsimp only at j⊢;rw[dZ,St.of_nil];refine rg M (ax @f1 @f2) ?_;refine rg M (ax @c1 @j) ?_;have C:∀ρ:Nat->Nat,cS ρ (gC D 1 ⟨false,.snil,.snil⟩)=gC D (ρ 1) ⟨false,.snil,.snil⟩:=JH hD rfl rfl;refine tX 3 [3,4,2] [(9,.i .i64 0),(8,.ptr 0 0),(7,.i .i64 0),(6,.ptr 2 0),(2,bp p)] [(2,some (.cells [.b false,.snil,.snil] 31 false)),(1,some (.amap (bO D))),(0,some (.cells (gC D 1 ⟨false,.snil,.snil⟩) 142 false))] bT (by repeat' first|exact aK|refine aF ?_ ?_|exact bA.cells (by rw[C];rfl)|exact fL D _ _|exact dj) ?_;have hp:relS (fj Dk) [.ptr 0 0,bp p] (St.of [(2,some (.cells [.b false,.snil,.snil] 31 false)),(1,some (.amap (bO D))),(0,some (.cells (gC D 1 ⟨false,.snil,.snil⟩) 142 false))] 3)=some (.b (decide (cX l 0 p=some T)),St.of [(2,some (.cells [.b false,.snil,.snil] 31 false)),(1,some (.amap (bO D))),(0,some (.cells (gC D 1 ⟨false,.snil,.snil⟩) 142 false))] 3):=by rw[<-y];exact j7 KX (tC hD rfl rfl rfl rfl) rfl ⟨l,p,rfl,by omega,Y,rfl⟩ rfl
 refine Jd.seq ?_;refine aN M ?_;refine GU rfl ?_;refine Jd.seq ?_;refine rg M (ax @c2 @hp) ?_;refine Jd.cnd rfl (fun u=>?_) (fun u=>?_)
 ·have u:¬cX l 0 p=some T:=by simpa using u
  refine aN M ?_;refine tX 3 [0,1,2] [(7,.i .i64 2),(6,.ptr 2 0)] [(2,some (.cells (ai 0) 31 false)),(1,some (.amap (bO D))),(0,some (.cells (gC D 1 ⟨false,.snil,.snil⟩) 142 false))] bT (by repeat' first|exact aK|refine aF ?_ ?_|exact kw hD rfl rfl _ _ _|exact fL D _ _|exact bA.zf1 _ _|exact dj) ?_;exact Jd.retT (aw.c2 rfl rfl BD rfl (by rw[iF u];rfl))
 have u:cX l 0 p=some T:=by simpa using u
 have hr:relS (fj vY) [.ptr 0 0,bp p] (St.of [(2,some (.cells [.b false,.snil,.snil] 31 false)),(1,some (.amap (bO D))),(0,some (.cells (gC D 1 ⟨false,.snil,.snil⟩) 142 false))] 3)=some (.agg ([.vw (is p) p.length,.vw (is (yh D (aL l) p).2.2.2) (yh D (aL l) p).2.2.2.length]++ai (lD D (aL l) p)),St.of [(2,some (.cells [.b false,.snil,.snil] 31 false)),(1,some (.amap (bO D))),(0,some (.cells (gC D 1 ⟨false,.snil,.snil⟩) 142 false))] 3):= j7 F5 (tC hD rfl rfl rfl rfl) rfl ⟨l,p,rfl,by omega,Y,Z,A8 u,rfl⟩ rfl;refine Jd.skipT ?_;have B:∀(a b:AV)(q:Rat),getR ([a,b]++ai q) 2 3=some (ai q):=fun _ _ _=>rfl;refine rg M (ax @c3 (ax @hr (ax @B (ax @AC.{0,0} (ax @cY @ew))))) ?_;exact Jd.ret (aw.c2 rfl rfl BD rfl (by rw[oR u];rfl))
end Go.Proofs.YtfoceannfdbinaaGreat
