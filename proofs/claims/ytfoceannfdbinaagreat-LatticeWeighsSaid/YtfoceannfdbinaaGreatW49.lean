/- Lemmas. -/
import Derived.Test.YtfoceannfdbinaaGreatW47
set_option linter.all false
set_option maxRecDepth 1000000
set_option maxHeartbeats 32000000
namespace Go.Proofs.YtfoceannfdbinaaGreat
open Go.RowKit
def Tv(o:Nat)(gs:List Gr):AV:=Fj o 2 gs.length
def ku(gs:List Gr):AO:=.cells (br gs) 123 true
def KT(gs:List Gr)(ws:List Int)(n:Int)(v:AV)(t:St):Prop:=
 if(putL gs ws n).length=gs.length then v=Tv 0 gs/\t.h.get 0=some (ku (putL gs ws n))else v=.sl 1 0 (gs.length+1) (bI+2)/\t.h.get 0=some (ku gs)/\t.h.get 1=some (ku (putL gs ws n))
structure Rb(gs:List Gr)(ws:List Int)(n:Int):Prop where
 len:∀g∈gs,g.1.length=ws.length
 few:gs.length<=1000
 wl:ws.length<=1000
 bd:∀g∈gs,0<=g.2/\g.2<=100000000000
 nb:0<=n/\n<=100000000000
theorem IL(l:List Int)(s:St):bV s 1 (bp l)=some (is l):=by simp only[bV,ox (show(is l).length=l.length*1 by simp[is]),CC,uS,EQ]
theorem IP(ws:List Int):∀gs:List Gr,∃K,K<=gs.length/\(∀i g,i<K->gs[i]?=some g->cD g.1 ws<0)/\∀g,gs[K]?=some g->¬cD g.1 ws<0
 | []=>⟨0,cC _,fun i g h=>absurd h (aBy _),fun g h=>by cases h⟩
 |x::gs=>by
  by_cases h:cD x.1 ws<0
  ·obtain⟨K,u,y,A⟩:=IP ws gs;refine⟨K+1,Nat.succ_le_succ u,fun i g hi j=>?_,fun g j=>A g (by simpa using j)⟩;cases i with
   |zero=>simp at j;rw[<-j];exact h
   |succ i=>exact y i g (by omega) (by simpa using j)
  exact⟨0,No _,fun i g h=>absurd h (aBy _),fun g j=>by simp at j;rw[<-j];exact h⟩
theorem Sh{gs:List Gr}{ws:List Int}{n:Int}{K:Nat}{g:Gr}(h:∀i g,i<K->gs[i]?=some g->cD g.1 ws<0)(j:gs[K]?=some g)(u:cD g.1 ws=0):putL gs ws n=gs.set K (g.1,g.2+n):=by have hK:=(dO.1 j).1;rw[IQ h (aDh hK),List.set_eq_take_append_cons_drop,oR hK,zH j];simp only[putL,u,aBh];rw[iF (by omega)]
theorem Sg{gs:List Gr}{ws:List Int}{n:Int}{K:Nat}(hK:K<=gs.length)(h:∀i g,i<K->gs[i]?=some g->cD g.1 ws<0)(j:∀g,gs[K]?=some g->¬cD g.1 ws<0/\cD g.1 ws≠0):putL gs ws n=gs.take K++(ws,n)::gs.drop K:=by
 rw[IQ h hK];cases hg:gs[K]? with
 |none=>rw[AS (As.1 hg)];rfl
 |some g=>rw[zH hg];simp only[putL,iF (j g hg).1,iF (j g hg).2]
theorem cG(gs:List Gr):aq (br gs)=true:=jl (fun _=>rfl) gs
theorem uU(gs:List Gr):(br gs).length=gs.length*2:=de gL gs
theorem Bu(a b:List Gr):br (a++b)=br a++br b:=List.flatMap_append
theorem Bt{l:List Gr}{i:Nat}{x:Gr}(h:l[i]?=some x):(br l)[i*2+1]?=some (.i .i64 x.2):=JM gL h (by omega)
theorem Tw{l:List Gr}{i:Nat}{x:Gr}(h:l[i]?=some x)(n:Int):cz (br l) (i*2+1) [.i .i64 n]=br (l.set i (x.1,n)):=by
 have hi:=(dO.1 h).1;have u:=mN gL hi (x.1,n);unfold br at u⊢;rw[<-u,show Pz (x.1,n)=[.vw (is x.1) x.1.length,.i .i64 n]from rfl];refine aAa fun j=>?_;rw[jo,jo];have hl:=de (f:=Pz) gL l;have e0:(l.flatMap Pz)[i*2]?=some (.vw (is x.1) x.1.length):=mJ h;by_cases y:j=i*2
 ·subst y;rw[iF (by simp only[On,aAP];omega),oR (by simp only[On,aAP];omega),e0,aAS];rfl
 by_cases A:j=i*2+1
 ·subst A;rw[oR (by simp only[On,aAP];omega),oR (by simp only[On,aAP];omega),aAS,show i*2+1-i*2=1 by omega];rfl
 rw[iF (by simp only[On,aAP];omega),iF (by simp only[On,aAP];omega)]
theorem Jd.mid{bb:Nat}{P:Program}{a b:Code}{fr:Fr}{s:St}{Q:Ex->Fr->St->Prop}(fr2:Fr)(s2:St)(x:Jb bb P b fr2 s2 Q)(u:∀(j:Code)(Q':Ex->Fr->St->Prop),Jb bb P j fr2 s2 Q'->Jb bb P (.seq a j) fr s Q'):Jb bb P (.seq a b) fr s Q:=u b Q x
theorem Zh{X:eC}{E:Ev}(M:Mc Tryz.prog X E)(c1:∀a s,E.call 109 a s=ab ordV a s){c:Code}(hc:(Tryz.f167).body=some c){gs:List Gr}{ws:List Int}{n:Int}(h0:gs≠[])(ok:Rb gs ws n) : Jb 1 Tryz.prog c ⟨167,66,Tr.ofList [Tv 0 gs,bp ws,.i .i64 n],none,[]⟩ (St.of [(0,some (ku gs))] 1) (aw Tryz.prog Tryz.f167 (KT gs ws n)):=by
 obtain rfl:_=c:=TO hc;clear hc;obtain⟨m,hm⟩:∃m,gs.length=m+1:=⟨gs.length-1,by have:=aCn.2 h0;omega⟩;have hV:Tv 0 gs=.sl 0 0 (m+1) (bI+2):=by unfold Tv;rw[hm];rfl
 have am:(br gs).length=(m+1)*2:=by rw[<-hm];exact de gL _
 rw[dZ,hV];unfold ku;refine aN M ?_;refine Jd.seq ?_;refine f6 M ?_;show Jb _ _ _ _ _ _;obtain⟨K,hK,hlt,hge⟩:=IP ws gs;have y:=ok.len;have a0:=ok.few;have a7:=ok.wl;refine Jd.cut ⟨167,66,Tr.of [(7,.i .i64 (K:Int)),(6,.snil),(2,.i .i64 n),(1,bp ws),(0,.sl 0 0 (m+1) (bI+2))],none,[]⟩ (St.of [(0,some (.cells (br gs) 123 true))] 1) ?_ fun Q2 u _ _=>?_;rotate_left
 ·refine Jd.loopB (fun k g s=>∃i:Nat,i+k=K/\g=⟨167,66,Tr.of [(7,.i .i64 (i:Int)),(6,.snil),(2,.i .i64 n),(1,bp ws),(0,.sl 0 0 (m+1) (bI+2))],none,[]⟩/\s=St.of [(0,some (.cells (br gs) 123 true))] 1) K ?_ ?_
  ·exact⟨_,_,(d9 1 [0] [(7,.i .i64 ((0:Nat):Int)),(6,.snil),(2,.i .i64 n),(1,bp ws),(0,.sl 0 0 (m+1) (bI+2))] [(0,some (.cells (br gs) 123 true))] bT (by repeat' first|exact aK|refine aF ?_ ?_|exact bA.same (cG _)|exact dj)),0,by omega,rfl,rfl⟩
  rintro k _ _ ⟨i,hi,rfl,rfl⟩ Q1 hex a4 av;refine Jd.seq ?_;rcases By i (m+1)with Y|Y;rotate_left
  ·have B:decide ((i:Int)<((m+1:Nat):Int))=false:=iS (by omega);refine rg M @B ?_;refine cF rfl ?_;obtain rfl:i=K:=by omega
   exact Jd.exitT (hex _ _ (u _ _ (d9 1 [0] [(7,.i .i64 (i:Int)),(6,.snil),(2,.i .i64 n),(1,bp ws),(0,.sl 0 0 (m+1) (bI+2))] [(0,some (.cells (br gs) 123 true))] bT (by repeat' first|exact aK|refine aF ?_ ?_|exact bA.same (cG _)|exact dj))))
  have B:decide ((i:Int)<((m+1:Nat):Int))=true:=lT (by omega);obtain⟨g,j⟩:∃g,gs[i]?=some g:=⟨_,bY (by omega)⟩;have x:=mJ j;have C:g.1.length=ws.length:=y g (eQ j);have ho:=Bb (a:=g.1) (b:=ws) (by omega) (by omega);refine rg M (ax @B (ax @x (ax @c1 @ho))) ?_;refine Jd.cnd rfl (fun N=>?_) (fun N=>?_);rotate_left
  ·have N:=io N;obtain rfl:i=K:=by
    rcases By i K with h|h
    ·exact absurd (hlt i g h j) N
    omega
   exact Jd.exitT (hex _ _ (u _ _ (d9 1 [0] [(7,.i .i64 (i:Int)),(6,.snil),(2,.i .i64 n),(1,bp ws),(0,.sl 0 0 (m+1) (bI+2))] [(0,some (.cells (br gs) 123 true))] bT (by repeat' first|exact aK|refine aF ?_ ?_|exact bA.same (cG _)|exact dj))))
  have N:=gT N;have a6:i<K:=by
   rcases By i K with h|h
   ·exact h
   obtain rfl:i=K:=by omega
   exact absurd N (hge g j)
  refine Jd.skipT ?_;refine Jd.block ?_;refine f6 M ?_;refine bW.norm ?_;refine av _ _ ⟨k-1,_,_,by omega,(d9 1 [0] [(7,.i .i64 ((i+1:Nat):Int)),(6,.snil),(2,.i .i64 n),(1,bp ws),(0,.sl 0 0 (m+1) (bI+2))] [(0,some (.cells (br gs) 123 true))] bT (by repeat' first|exact aK|refine aF ?_ ?_|exact bA.same (cG _)|exact dj)),i+1,by omega,rfl,rfl⟩
 by_cases hf:∃g,gs[K]?=some g/\cD g.1 ws=0
 ·obtain⟨g,j,h0⟩:=hf;have a5:=(dO.1 j).1;have B:decide ((K:Int)<((m+1:Nat):Int))=true:=lT (by omega);have x:=mJ j;have an:=Bt j;have C:g.1.length=ws.length:=y g (eQ j);have ho:=Bb (a:=g.1) (b:=ws) (by omega) (by omega);have hb:=ok.bd g (eQ j);have hn:=ok.nb;have eF:=Tw j (g.2+n);have hp:=Sh (n:=n) hlt j h0;rw[h0]at ho;refine Jd.seq ?_;refine rg M (ax @B (ax @x (ax @c1 @ho))) ?_;refine Jd.cnd rfl (fun _=>?_) (fun h=>by simp at h);refine rg M (ax @an @eF) ?_;refine aN M ?_;refine Jd.retT (aw.one rfl rfl ?_);unfold KT;rw[hp,oR (aCV ..)];exact⟨hV.symm,by rw[St.of_get];rfl⟩
 have J:=Sg (n:=n) hK hlt fun g j=>⟨hge g j,fun h=>hf ⟨g,j,h⟩⟩;refine Jd.cut ⟨167,66,Tr.of [(7,.i .i64 (K:Int)),(6,.snil),(2,.i .i64 n),(1,bp ws),(0,.sl 0 0 (m+1) (bI+2))],none,[]⟩ (St.of [(0,some (.cells (br gs) 123 true))] 1) ?_ fun Q2 u _ _=>?_;rotate_left
 ·rcases By K (m+1)with Y|Y;rotate_left
  ·have B:decide ((K:Int)<((m+1:Nat):Int))=false:=iS (by omega);refine rg M @B ?_;refine cF rfl ?_;exact Jd.skip (u _ _ (d9 1 [0] [(7,.i .i64 (K:Int)),(6,.snil),(2,.i .i64 n),(1,bp ws),(0,.sl 0 0 (m+1) (bI+2))] [(0,some (.cells (br gs) 123 true))] bT (by repeat' first|exact aK|refine aF ?_ ?_|exact bA.same (cG _)|exact dj)))
  have B:decide ((K:Int)<((m+1:Nat):Int))=true:=lT (by omega);obtain⟨g,j⟩:∃g,gs[K]?=some g:=⟨_,bY (by omega)⟩;have x:=mJ j;have C:g.1.length=ws.length:=y g (eQ j);have ho:=Bb (a:=g.1) (b:=ws) (by omega) (by omega);refine rg M (ax @B (ax @x (ax @c1 @ho))) ?_;refine Jd.cnd rfl (fun h=>?_) (fun _=>?_)
  ·exact absurd (by simpa using h) fun h=>hf ⟨g,j,h⟩
  exact Jd.skip (u _ _ (d9 1 [0] [(7,.i .i64 (K:Int)),(6,.snil),(2,.i .i64 n),(1,bp ws),(0,.sl 0 0 (m+1) (bI+2))] [(0,some (.cells (br gs) 123 true))] bT (by repeat' first|exact aK|refine aF ?_ ?_|exact bA.same (cG _)|exact dj)))
 refine Jd.mid ⟨167,66,Tr.of [(8,.ptr 1 0),(7,.i .i64 (K:Int)),(6,.snil),(2,.i .i64 n),(1,bp ws),(0,.sl 0 0 (m+1) (bI+2))],none,[]⟩ (St.of [(1,some (.cells [bp ws,.i .i64 n] 123 false)),(0,some (.cells (br gs) 123 true))] 2) ?_ fun b2 Q2 k2=>?_;rotate_left
 ·rcases lE ws.length with Z|Z
  ·have hws:ws=[]:=oF Z;have ha:∀s,gc Tryz.prog 51 51 .snil (bp ws) s=some (.snil,s):=fun s=>by rw[hws];exact si Tryz.underlying51 (show bX Tryz.prog 3=some (.i .i64 0)by kernel_rfl) (show yd Tryz.prog 3 (.i .i64 0) 1=true by kernel_rfl) s rfl
   refine rg M @ha ?_;refine tX 2 [0,1] [(8,.ptr 1 0),(7,.i .i64 (K:Int)),(6,.snil),(2,.i .i64 n),(1,bp ws),(0,.sl 0 0 (m+1) (bI+2))] [(1,some (.cells [bp ws,.i .i64 n] 123 false)),(0,some (.cells (br gs) 123 true))] bT (by repeat' first|exact aK|refine aF ?_ ?_|exact bA.same (cG _)|exact⟨rfl,rfl,by rw[bt _ _ rfl];exact .cons (Wk.vwn hws) (.cons (Wk.refl _ _) .nil)⟩|exact dj) ?_;exact k2
  have ha:∀s,gc Tryz.prog 51 51 .snil (bp ws) s=some (.sl s.nx 0 ws.length (bI+1),s.new (.cells (is ws) 3 true)):=fun s=>uY Tryz.underlying51 (show bX Tryz.prog 3=some (.i .i64 0)by kernel_rfl) (show yd Tryz.prog 3 (.i .i64 0) 1=true by kernel_rfl) ws.length s (IL ws s) (by simp[is]) Z (by omega);refine rg M @ha ?_;refine zX 2 1 (is ws) [0,2] [(8,.ptr 1 0),(7,.i .i64 (K:Int)),(6,.snil),(2,.i .i64 n),(1,bp ws),(0,.sl 0 0 (m+1) (bI+2))] [(1,some (.cells [bp ws,.i .i64 n] 123 false)),(0,some (.cells (br gs) 123 true))] ?_ bT (by repeat' first|exact aK|refine aF ?_ ?_|exact bA.same (cG _)|exact⟨rfl,rfl,by rw[bt _ _ rfl];exact .cons (Wk.frz_sl (off:=0) (by have:=dW;omega)) (.cons (Wk.refl _ _) .nil)⟩|exact dj) ?_
  ·exact fH _
  exact k2
 have fin:KT gs ws n (.sl 1 0 (gs.length+1) (bI+2)) (St.of [(1,some (ku (putL gs ws n))),(0,some (ku gs))] 2):=by unfold KT;rw[iF (by rw[J,Sk,On,Io,Rw];omega)];exact⟨rfl,by rw[St.of_get];rfl,by rw[St.of_get];rfl⟩
 have A:br (putL gs ws n)=br (gs.take K)++([bp ws,.i .i64 n]++br (gs.drop K)):=by rw[J,Bu];rfl
 have hz:bX Tryz.prog 123=some (.agg [.snil,.i .i64 0]):=by kernel_rfl
 have he:yd Tryz.prog 123 (.agg [.snil,.i .i64 0]) 2=true:=by kernel_rfl
 have h2:bG Tryz.prog 123=some 2:=by kernel_rfl
 have q1:=TZ (P:=Tryz.prog) Tryz.underlying25 h2 0 (m+1) K (by omega) (by omega);rcases lE K with U|U
 ·subst U;have q2:=JW (P:=Tryz.prog) Tryz.underlying25 h2 0 (m+1) 0 (by omega) (by omega);have a1:gc Tryz.prog 25 25 .snil (.sl 0 0 0 (bI+2)) (St.of [(1,some (.cells [bp ws,.i .i64 n] 123 false)),(0,some (.cells (br gs) 123 true))] 2)=some (.snil,St.of [(1,some (.cells [bp ws,.i .i64 n] 123 false)),(0,some (.cells (br gs) 123 true))] 2):=si Tryz.underlying25 hz he _ (by simp only[bV,St.of_get];rfl);have a3:gc Tryz.prog 25 25 (.sl 3 0 1 (bI+2)) (.sl 0 0 (m+1) (bI+2)) (St.of [(3,some (.cells [bp ws,.i .i64 n] 123 true)),(2,some (.cells [bp ws,.i .i64 n] 123 false)),(1,some (.cells [bp ws,.i .i64 n] 123 false)),(0,some (.cells (br gs) 123 true))] 4)=some (.sl 4 0 (gs.length+1) (bI+2),St.of [(4,some (ku (putL gs ws n))),(3,none),(3,some (.cells [bp ws,.i .i64 n] 123 true)),(2,some (.cells [bp ws,.i .i64 n] 123 false)),(1,some (.cells [bp ws,.i .i64 n] 123 false)),(0,some (.cells (br gs) 123 true))] 5):=by refine(Cb Tryz.underlying25 hz he 3 1 (m+1) _ (old:=[bp ws,.i .i64 n]) (c:=br gs) (op:=true) (by rw[St.of_get];rfl) rfl (by simp only[bV,St.of_get];exact l6 am) am (by omega) (by omega)).trans ?_;unfold ku;rw[A,show 1+(m+1)=gs.length+1 by omega];rfl
  refine dr M [] (ax @q1 (ax @q2 (ax @a1 @a3))) ?_;refine tX 2 [0,4] [(6,.sl 1 0 (gs.length+1) (bI+2))] [(1,some (ku (putL gs ws n))),(0,some (ku gs))] bT (by repeat' first|exact aK|refine aF ?_ ?_|exact bA.same (cG _)|exact dj) ?_;exact Jd.ret (aw.one rfl rfl fin)
 have g1:(br (gs.take K)).length=K*2:=by rw[uU,Io,aAO hK]
 have g2:(br (gs.drop K)).length=(m+1-K)*2:=by rw[uU,Rw,hm]
 have r1:getR (br gs) 0 (K*2)=some (br (gs.take K)):=pt g1 fun i hi=>by rw[SK,show br gs=br (gs.take K)++br (gs.drop K)by rw[<-Bu,aAM],aAp (by omega)]
 have a1:gc Tryz.prog 25 25 .snil (.sl 0 0 K (bI+2)) (St.of [(1,some (.cells [bp ws,.i .i64 n] 123 false)),(0,some (.cells (br gs) 123 true))] 2)=some (.sl 2 0 K (bI+2),St.of [(2,some (.cells (br (gs.take K)) 123 true)),(1,some (.cells [bp ws,.i .i64 n] 123 false)),(0,some (.cells (br gs) 123 true))] 3):=uY Tryz.underlying25 hz he K _ (by simp only[bV,St.of_get];exact r1) g1 U (by omega);have a2:gc Tryz.prog 25 25 (.sl 2 0 K (bI+2)) (.sl 3 0 1 1) (St.of [(3,some (.cells [bp ws,.i .i64 n] 123 false)),(2,some (.cells (br (gs.take K)) 123 true)),(1,some (.cells [bp ws,.i .i64 n] 123 false)),(0,some (.cells (br gs) 123 true))] 4)=some (.sl 4 0 (K+1) (bI+2),St.of [(4,some (.cells (br (gs.take K)++[bp ws,.i .i64 n]) 123 true)),(2,none),(3,some (.cells [bp ws,.i .i64 n] 123 false)),(2,some (.cells (br (gs.take K)) 123 true)),(1,some (.cells [bp ws,.i .i64 n] 123 false)),(0,some (.cells (br gs) 123 true))] 5):= Cb Tryz.underlying25 hz he 2 K 1 _ (old:=br (gs.take K)) (c:=[bp ws,.i .i64 n]) (op:=true) (by rw[St.of_get];rfl) g1 (by simp only[bV,St.of_get];rfl) rfl (by omega) (by omega);have g3:(br (gs.take K)++[bp ws,.i .i64 n]).length=(K+1)*2:=by rw[Sk,g1];simp;omega
 rcases By K (m+1)with ad|ad
 ·have q2:=JW (P:=Tryz.prog) Tryz.underlying25 h2 0 (m+1) K ad (by omega);have r2:getR (br gs) (K*2) ((m+1-K)*2)=some (br (gs.drop K)):=pt g2 fun i hi=>by rw[show br gs=br (gs.take K)++br (gs.drop K)by rw[<-Bu,aAM],aAd (by omega),g1,aAY]
  have a3:gc Tryz.prog 25 25 (.sl 4 0 (K+1) (bI+2)) (.sl 0 (K*2) (m+1-K) (bI+2)) (St.of [(4,some (.cells (br (gs.take K)++[bp ws,.i .i64 n]) 123 true)),(2,none),(3,some (.cells [bp ws,.i .i64 n] 123 false)),(2,some (.cells (br (gs.take K)) 123 true)),(1,some (.cells [bp ws,.i .i64 n] 123 false)),(0,some (.cells (br gs) 123 true))] 5)=some (.sl 5 0 (gs.length+1) (bI+2),St.of [(5,some (ku (putL gs ws n))),(4,none),(4,some (.cells (br (gs.take K)++[bp ws,.i .i64 n]) 123 true)),(2,none),(3,some (.cells [bp ws,.i .i64 n] 123 false)),(2,some (.cells (br (gs.take K)) 123 true)),(1,some (.cells [bp ws,.i .i64 n] 123 false)),(0,some (.cells (br gs) 123 true))] 6):=by refine(Cb Tryz.underlying25 hz he 4 (K+1) (m+1-K) _ (old:=br (gs.take K)++[bp ws,.i .i64 n]) (c:=br (gs.drop K)) (op:=true) (by rw[St.of_get];rfl) g3 (by simp only[bV,St.of_get];exact r2) g2 (by omega) (by omega)).trans ?_;unfold ku;rw[A,show K+1+(m+1-K)=gs.length+1 by omega,List.append_assoc];rfl
  refine dr M [] (ax @q1 (ax @q2 (ax @a1 (ax @a2 @a3)))) ?_;refine tX 2 [0,5] [(6,.sl 1 0 (gs.length+1) (bI+2))] [(1,some (ku (putL gs ws n))),(0,some (ku gs))] bT (by repeat' first|exact aK|refine aF ?_ ?_|exact bA.same (cG _)|exact dj) ?_;exact Jd.ret (aw.one rfl rfl fin)
 have al:K=m+1:=by omega
 have q2:kA Tryz.prog 25 (.sl 0 0 (m+1) (bI+2)) K none=some (.vw [] 0):=by rw[al];exact Ua Tryz.underlying25 h2 0 (m+1) (by omega) (by omega)
 have a3:gc Tryz.prog 25 25 (.sl 4 0 (K+1) (bI+2)) (.vw [] 0) (St.of [(4,some (.cells (br (gs.take K)++[bp ws,.i .i64 n]) 123 true)),(2,none),(3,some (.cells [bp ws,.i .i64 n] 123 false)),(2,some (.cells (br (gs.take K)) 123 true)),(1,some (.cells [bp ws,.i .i64 n] 123 false)),(0,some (.cells (br gs) 123 true))] 5)=some (.sl 4 0 (gs.length+1) (bI+2),St.of [(4,some (ku (putL gs ws n))),(4,some (.cells (br (gs.take K)++[bp ws,.i .i64 n]) 123 true)),(2,none),(3,some (.cells [bp ws,.i .i64 n] 123 false)),(2,some (.cells (br (gs.take K)) 123 true)),(1,some (.cells [bp ws,.i .i64 n] 123 false)),(0,some (.cells (br gs) 123 true))] 5):=by refine(Kb Tryz.underlying25 hz he 4 (K+1) _ (old:=br (gs.take K)++[bp ws,.i .i64 n]) (op:=true) (by rw[St.of_get];rfl) g3 rfl (by omega)).trans ?_;unfold ku;rw[A,al,hm,<-hm,aAQ];rfl
 refine dr M [] (ax @q1 (ax @q2 (ax @a1 (ax @a2 @a3)))) ?_;refine tX 2 [0,4] [(6,.sl 1 0 (gs.length+1) (bI+2))] [(1,some (ku (putL gs ws n))),(0,some (ku gs))] bT (by repeat' first|exact aK|refine aF ?_ ?_|exact bA.same (cG _)|exact dj) ?_;exact Jd.ret (aw.one rfl rfl fin)
theorem X5{X:eC}{E:Ev}(M:Mc Tryz.prog X E){c:Code}(A:(Tryz.f167).body=some c){ws:List Int}{n:Int}(ad:ws.length<=1000) : Jd Tryz.prog c ⟨167,66,Tr.ofList [.snil,bp ws,.i .i64 n],none,[]⟩ ⟨.nil,0⟩ (aw Tryz.prog Tryz.f167 fun v t=>v=.sl 0 0 1 (bI+2)/\t.h.get 0=some (ku [(ws,n)])):=by
 obtain rfl:_=c:=TO A;clear A;rw[dZ,St.of_nil];have y:decide ((0:Int)<0)=false:=rfl;refine aN M ?_;refine Jd.seq ?_;refine f6 M ?_;show Jb _ _ _ _ _ _;refine Jd.cut ⟨167,66,Tr.of [(7,.i .i64 0),(6,.snil),(2,.i .i64 n),(1,bp ws),(0,.snil)],none,[]⟩ (St.of [] 0) ?_ fun x j _ _=>?_;rotate_left
 ·refine Jd.loopB (fun k g s=>g=⟨167,66,Tr.of [(7,.i .i64 0),(6,.snil),(2,.i .i64 n),(1,bp ws),(0,.snil)],none,[]⟩/\s=St.of [] 0) 0 ?_ ?_
  ·exact⟨_,_,(d9 0 [] [(7,.i .i64 0),(6,.snil),(2,.i .i64 n),(1,bp ws),(0,.snil)] [] bT aK),rfl,rfl⟩
  rintro k _ _ ⟨rfl,rfl⟩ Q1 hex B Z;refine Jd.seq ?_;refine rg M @y ?_;refine cF rfl ?_;exact Jd.exitT (hex _ _ (j _ _ (d9 0 [] [(7,.i .i64 0),(6,.snil),(2,.i .i64 n),(1,bp ws),(0,.snil)] [] bT aK)))
 refine Jd.cut ⟨167,66,Tr.of [(7,.i .i64 0),(6,.snil),(2,.i .i64 n),(1,bp ws),(0,.snil)],none,[]⟩ (St.of [] 0) ?_ fun x j _ _=>?_;rotate_left
 ·refine rg M @y ?_;refine cF rfl ?_;exact Jd.skip (j _ _ (d9 0 [] [(7,.i .i64 0),(6,.snil),(2,.i .i64 n),(1,bp ws),(0,.snil)] [] bT aK))
 refine Jd.mid ⟨167,66,Tr.of [(8,.ptr 0 0),(7,.i .i64 0),(6,.snil),(2,.i .i64 n),(1,bp ws),(0,.snil)],none,[]⟩ (St.of [(0,some (.cells [bp ws,.i .i64 n] 123 false))] 1) ?_ fun b2 x J=>?_;rotate_left
 ·rcases lE ws.length with u|u
  ·have hws:ws=[]:=oF u;have ha:∀s,gc Tryz.prog 51 51 .snil (bp ws) s=some (.snil,s):=fun s=>by rw[hws];exact si Tryz.underlying51 (show bX Tryz.prog 3=some (.i .i64 0)by kernel_rfl) (show yd Tryz.prog 3 (.i .i64 0) 1=true by kernel_rfl) s rfl
   refine rg M @ha ?_;refine tX 1 [0] [(8,.ptr 0 0),(7,.i .i64 0),(6,.snil),(2,.i .i64 n),(1,bp ws),(0,.snil)] [(0,some (.cells [bp ws,.i .i64 n] 123 false))] bT (by repeat' first|exact aK|refine aF ?_ ?_|exact⟨rfl,rfl,by rw[bt _ _ rfl];exact .cons (Wk.vwn hws) (.cons (Wk.refl _ _) .nil)⟩|exact dj) ?_;exact J
  have ha:∀s,gc Tryz.prog 51 51 .snil (bp ws) s=some (.sl s.nx 0 ws.length (bI+1),s.new (.cells (is ws) 3 true)):=fun s=>uY Tryz.underlying51 (show bX Tryz.prog 3=some (.i .i64 0)by kernel_rfl) (show yd Tryz.prog 3 (.i .i64 0) 1=true by kernel_rfl) ws.length s (IL ws s) (by simp[is]) u (by omega);refine rg M @ha ?_;refine zX 1 0 (is ws) [1] [(8,.ptr 0 0),(7,.i .i64 0),(6,.snil),(2,.i .i64 n),(1,bp ws),(0,.snil)] [(0,some (.cells [bp ws,.i .i64 n] 123 false))] ?_ bT (by repeat' first|exact aK|refine aF ?_ ?_|exact⟨rfl,rfl,by rw[bt _ _ rfl];exact .cons (Wk.frz_sl (off:=0) (by have:=dW;omega)) (.cons (Wk.refl _ _) .nil)⟩|exact dj) ?_
  ·exact fH _
  exact J
 have C:bX Tryz.prog 123=some (.agg [.snil,.i .i64 0]):=by kernel_rfl
 have he:yd Tryz.prog 123 (.agg [.snil,.i .i64 0]) 2=true:=by kernel_rfl
 have Y:bG Tryz.prog 123=some 2:=by kernel_rfl
 obtain⟨q1,q2⟩:=WI (P:=Tryz.prog) Tryz.underlying25 Y;have N:∀s,gc Tryz.prog 25 25 .snil .snil s=some (.snil,s):=fun s=>si Tryz.underlying25 C he s rfl;have U:gc Tryz.prog 25 25 (.sl 2 0 1 (bI+2)) .snil (St.of [(2,some (.cells [bp ws,.i .i64 n] 123 true)),(1,some (.cells [bp ws,.i .i64 n] 123 false)),(0,some (.cells [bp ws,.i .i64 n] 123 false))] 3)=some (.sl 2 0 1 (bI+2),St.of [(2,some (.cells [bp ws,.i .i64 n] 123 true)),(2,some (.cells [bp ws,.i .i64 n] 123 true)),(1,some (.cells [bp ws,.i .i64 n] 123 false)),(0,some (.cells [bp ws,.i .i64 n] 123 false))] 3):= Kb Tryz.underlying25 C he 2 1 _ (old:=[bp ws,.i .i64 n]) (op:=true) (by rw[St.of_get];rfl) rfl rfl (by omega);refine dr M [] (ax @q1 (ax @q2 (ax @N @U))) ?_;refine tX 1 [2] [(6,.sl 0 0 1 (bI+2))] [(0,some (.cells [bp ws,.i .i64 n] 123 true))] bT (by repeat' first|exact aK|refine aF ?_ ?_|exact bA.same (cG _)|exact dj) ?_;exact Jd.ret (aw.one rfl rfl ⟨rfl,by rw[St.of_get];rfl⟩)
def re(args:List AV)(s:St)(v:AV)(s':St):Prop:=∃(gs:List Gr)(ws:List Int)(n:Int),Rb gs ws n/\
 ((gs=[]/\args=[.snil,bp ws,.i .i64 n]/\v=.sl s.nx 0 1 (bI+2)/\s'=s.new (ku [(ws,n)]))∨
 ∃o,gs≠[]/\args=[.sl o 0 gs.length (bI+2),bp ws,.i .i64 n]/\s.h.get o=some (ku gs)/\
  (((putL gs ws n).length=gs.length/\v=.sl o 0 gs.length (bI+2)/\s'=s.set o (ku (putL gs ws n)))∨
  ((putL gs ws n).length≠gs.length/\o<s.nx/\v=.sl s.nx 0 (gs.length+1) (bI+2)/\s'=s.new (ku (putL gs ws n)))))
theorem Bs{a b:List Gr}(h:br a=br b):a=b:=by have hl:=aAf List.length h;rw[uU,uU]at hl;exact th gL Bv (by omega) h
theorem NS{args:List AV}{s s1 s2:St}{B C:AV}(x:re args s B s1)(u:re args s C s2):C=B/\s2=s1:=by
 obtain⟨gs,ws,n,_,x⟩:=x;obtain⟨N,Z,n',_,u⟩:=u;rcases x with⟨rfl,rfl,rfl,rfl⟩|⟨o,U,rfl,Y,x⟩
 ·rcases u with⟨rfl,e,rfl,rfl⟩|⟨o,_,e,_⟩
  ·simp only[rW,AV.vw.injEq,AV.i.injEq,true_and,and_true]at e;rw[eu e.1.1,e.2];exact⟨rfl,rfl⟩
  simp at e
 rcases u with⟨rfl,e,rfl,rfl⟩|⟨o',_,e,j,u⟩
 ·simp at e
 simp only[rW,AV.vw.injEq,AV.sl.injEq,AV.i.injEq,true_and,and_true]at e;obtain⟨⟨rfl,_⟩,⟨J,_⟩,rfl⟩:=e;obtain rfl:=eu J;rw[Y]at j;simp only[ku,iD,AO.cells.injEq,and_true]at j;obtain rfl:=Bs j;rcases x with⟨y,rfl,rfl⟩|⟨y,_,rfl,rfl⟩<;>rcases u with⟨A,rfl,rfl⟩|⟨A,_,rfl,rfl⟩
 ·exact⟨rfl,rfl⟩
 ·exact absurd y A
 ·exact absurd A y
 exact⟨rfl,rfl⟩
theorem wq{args:List AV}{s s':St}{v:AV}(h:re args s v s'):relS re args s=some (v,s'):=uI (fun _ _ j=>NS h j) h
theorem WW:ag Tryz.prog 167 (relS re):=by
 obtain⟨E,M,c1⟩:=ur (ab ordV) Hf rfl;refine oH (by kernel_rfl) Tryz.func167 Tryz.ntmps167 rfl ?_;intro args s v s' h;obtain⟨gs,ws,n,ok,hr⟩:=pd h;rcases hr with⟨rfl,rfl,rfl,rfl⟩|⟨o,N,rfl,J,hr⟩
 ·refine⟨0,1,(s.nx+·),[.snil,bp ws,.i .i64 n],⟨.nil,0⟩,.sl 0 0 1 (bI+2),fun k k' h1 _ _=>by omega,fun j _=>by rw[SK],rfl,fun k x e=>(by cases e),fun k C=>by omega,(bt _ _ rfl).symm,rfl,nE rfl,rfl,rfl,rfl,fun o J _=>mK J,fun hw o J=>(Tr.get_set_ne _ _ (show o≠s.nx by omega)).trans (hw o (by omega)),fun _ _ k C=>by omega,?_⟩;refine Jd.mono (X5 M (c:=_) rfl ok.wl) fun ex fr t q=>aw.mono (fun v' t u=>⟨u.1,fun k C=>?_⟩) q;obtain rfl:k=0:=by omega
  exact⟨_,u.2,dS _ _ (cG _),(ow s _).trans (by simp only[ku,jF];rw[bt _ _ (cG _)])⟩
 have A:∀(l:List Gr) m,ql m (ku l):=fun l m=>dS _ _ (cG _);have B:∀(l:List Gr)(ρ:Nat->Nat),jF ρ (ku l)=ku l:=fun l ρ=>by simp only[ku,jF];rw[bt _ _ (cG _)]
 have y:Tv 0 gs=.sl 0 0 gs.length (bI+2):=by unfold Tv Fj;rw[iF (fun h=>N (oF h))]
 have hJ:=Zh M c1 (c:=_) rfl N ok
 have Y:∀k x,(St.of [(0,some (ku gs))] 1).h.get k=some x->k=0/\x=ku gs:=fun k x e=>by
  rw[St.of_get,hY]at e;split at e
  ·next h=>cases e;exact⟨h,rfl⟩
  cases e
 have U:∀{μ:Mu}{w:World}{vs:List Value},bU μ s w->ap μ [.sl o 0 gs.length (bI+2),bp ws,.i .i64 n] vs->∃p,μ o=some (.at_ p):=fun _ u=>by simp only[ap,VR]at u;obtain⟨_,_,_,⟨p,_,h,_⟩,_⟩:=u;exact⟨p,h⟩
 rcases hr with⟨hl,rfl,rfl⟩|⟨hl,Z,rfl,rfl⟩
 ·refine⟨1,0,(fun _=>o),[Tv 0 gs,bp ws,.i .i64 n],St.of [(0,some (ku gs))] 1,Tv 0 gs,fun k k' h1 h2 _=>by omega,fun j hj=>by omega,rfl,fun k x e=>?_,fun k C=>?_,by rw[y];rfl,by rw[y];rfl,nE rfl,by rw[y];rfl,by rw[y];rfl,rfl,fun o' _ h=>?_,fun hW o9 h9=>?_,fun hR u k _=>U hR u,?_⟩
  ·obtain⟨rfl,rfl⟩:=Y k x e;exact⟨by omega,A _ _,by rw[B];exact J⟩
  ·obtain rfl:k=0:=by omega
   exact fun e=>by rw[St.of_get]at e;cases e
  ·exact Tr.get_set_ne _ _ (fun e=>h 0 (by omega) e.symm)
  ·rw[show(s.set o (ku (putL gs ws n))).h.get o9=s.h.get o9 from Tr.get_set_ne _ _ (fun e=>by rw[<-e,hW _ h9]at J;cases J)];exact hW o9 h9
  refine Jd.mono hJ fun ex fr t q=>aw.mono (fun v' t u=>?_) q;unfold KT at u;rw[oR hl]at u;refine⟨u.1,fun k C=>?_⟩;obtain rfl:k=0:=by omega
  exact⟨_,u.2,A _ _,by rw[B];exact Tr.get_set_same _ _ _⟩
 refine⟨1,1,(fun k=>if k=0 then o else s.nx),[Tv 0 gs,bp ws,.i .i64 n],St.of [(0,some (ku gs))] 1,.sl 1 0 (gs.length+1) (bI+2),fun k k' h1 h2 _=>by omega,fun j hj=>(by obtain rfl:j=0:=(by omega);rfl),rfl,fun k x e=>?_,fun k C=>?_,by rw[y];rfl,by rw[y];rfl,nE rfl,rfl,rfl,rfl,fun o' h _=>mK h,fun hW o' h=>(Tr.get_set_ne _ _ (show o'≠s.nx by omega)).trans (hW o' (by omega)),fun hR u k C=>(by obtain rfl:k=0:=(by omega);exact U hR u),?_⟩
 ·obtain⟨rfl,rfl⟩:=Y k x e;exact⟨by omega,A _ _,by rw[B];exact J⟩
 ·obtain rfl:k=0:=by omega
  exact fun e=>by rw[St.of_get]at e;cases e
 refine Jd.mono hJ fun ex fr t q=>aw.mono (fun v' t u=>?_) q;unfold KT at u;rw[iF hl]at u;refine⟨u.1,fun k C=>?_⟩
 match k,C with
 |0,_=>exact⟨_,u.2.1,A _ _,by rw[B];exact(mK Z).trans J⟩
 |1,_=>exact⟨_,u.2.2,A _ _,by rw[B];exact ow s _⟩
def fO(n v:Nat)(gs:List Gr):List AV:=[.i .i64 (n:Int),.i .i64 (v:Int),.vw (br gs) gs.length]
structure ZI where
 n:Nat
 v:Nat
 gs:List Gr
def OW(d:ZI):List AV:=[.agg (fO (d.n+1) d.v d.gs)]
theorem OU(x y:ZI)(h:OW x=OW y):x=y:=by
 obtain⟨a,b,c⟩:=x;obtain⟨a',b',c'⟩:=y;simp only[OW,fO,rW,AV.agg.injEq,AV.vw.injEq,AV.i.injEq,and_true,true_and]at h;obtain⟨u,A,j,_⟩:=h;obtain rfl:=Bs j;obtain rfl:a=a':=by omega
 obtain rfl:b=b':=by omega
 rfl
def iq(gs:List Gr):List Gr:=jp [] (kK gs)
noncomputable def lowV:=ofE OW (fun d=>mV d.v (d.n+1) d.gs/\d.n<=3/\d.v<=8) fun d=>.agg (fO d.n d.v (iq d.gs))
theorem OT{n v:Nat}{gs:List Gr}(h:mV v (n+1) gs)(j:n<=3)(u:v<=8)(s:St):ab lowV [.agg (fO (n+1) v gs)] s=some (.agg (fO n v (iq gs)),s):=fT (d:=ZI.mk n v gs) OU ⟨h,j,u⟩ s
theorem mV.take{v n:Nat}{gs:List Gr}(h:mV v n gs)(j:Nat):mV v n (gs.take j):=by obtain⟨⟨A,y⟩,x,B⟩:=h;have:=KH x j;exact⟨⟨by rw[Io];omega,fun g u=>y g (aBr u)⟩,fun g u=>x g (aBr u),by omega⟩
theorem Lm(gs:List Gr){j:Nat}{g:Gr}(h:gs[j]?=some g):iq (gs.take (j+1))=putL (iq (gs.take j)) (g.1.drop 1) g.2:=by unfold iq;rw[aAX,h];show jp [] (kK (gs.take j++[g]))=_;unfold kK;rw[aAe];exact KV _ _ _
theorem A6(gs:List Gr)(ws:List Int)(n:Int):putL gs ws n≠[]:=by
 cases gs with
 |nil=>exact fun h=>by cases h
 |cons g gs=>unfold putL;split<;>first|(split<;>exact fun h=>by cases h)|exact fun h=>by cases h
theorem Df:∀(gs:List Gr)(ws:List Int)(n:Int),(putL gs ws n).length=gs.length∨(putL gs ws n).length=gs.length+1
 | [],_,_=>.inr rfl
 |g::gs,ws,n=>by
  unfold putL;split
  ·rcases Df gs ws n with h|h
   ·exact .inl (aAf (·+1) h)
   exact .inr (aAf (·+1) h)
  split
  ·exact .inl rfl
  exact .inr rfl
theorem QM:ag Tryz.prog 194 (ab lowV):=by
 obtain⟨E,M,c1⟩:=ur (relS re) WW rfl;refine aE (by kernel_rfl) Tryz.func194 Tryz.ntmps194 rfl ?_;intro args x h;obtain⟨⟨n,v,gs⟩,hd,rfl,rfl⟩:=cU h;have hT:mV v (n+1) gs:=hd.1;have hn:n<=3:=hd.2.1;have hv:v<=8:=hd.2.2;clear hd h;refine⟨rfl,rfl,nE rfl,?_⟩;dsimp only;unfold OW;rw[pk,St.of_nil];dsimp only;unfold fO;have e1:((n+1:Nat):Int)-1=(n:Int):=by omega
 refine aN M ?_;refine zX 1 0 (fO (n+1) v gs) [1] [(2,.ptr 0 0),(1,.vp (fO (n+1) v gs) 0)] [(0,some (.cells [.i .i64 0,.i .i64 0,.snil] 27 false))] ?_ (by repeat' first|exact bK|refine aM ?_ ?_|exact Wk.frz_ptr|exact eU) AL ?_
 ·rfl
 unfold fO;refine rg M @e1 ?_;refine Jd.seq ?_;refine Jd.seq ?_;refine f6 M ?_;show Jb _ _ _ _ _ _;refine Jd.loopB (fun k g s=>∃j:Nat,j+k=gs.length/\g=⟨194,36,Tr.of [(4,.i .i64 (j:Int)),(3,.ptr 1 0),(2,.ptr 0 0),(1,.vp (fO (n+1) v gs) 0)],none,[]⟩/\((j=0/\s=St.of [(1,some (.cells [.i .i64 (n:Int),.i .i64 (v:Int),.snil] 27 false)),(0,some (.cells [.i .i64 0,.i .i64 0,.snil] 27 false))] 2)∨(iq (gs.take j)≠[]/\s=St.of [(2,some (ku (iq (gs.take j)))),(1,some (.cells [.i .i64 (n:Int),.i .i64 (v:Int),(.sl 2 0 ((iq (gs.take j))).length (bI+2))] 27 false)),(0,some (.cells [.i .i64 0,.i .i64 0,.snil] 27 false))] 3))) gs.length ?_ ?_
 ·exact⟨_,_,(Iv 2 [0,1] [(4,.i .i64 ((0:Nat):Int)),(3,.ptr 1 0),(2,.ptr 0 0),(1,.vp (fO (n+1) v gs) 0)] [(1,some (.cells [.i .i64 (n:Int),.i .i64 (v:Int),.snil] 27 false)),(0,some (.cells [.i .i64 0,.i .i64 0,.snil] 27 false))]),0,by omega,rfl,.inl ⟨rfl,rfl⟩⟩
 rintro k _ _ ⟨j,hj,rfl,av⟩ Q1 hex a3 ad;have C:mV v n (iq (gs.take j)):=(rG (hT.take j)).1;have al:=C.1.1;have hgs:=hT.1.1;obtain⟨l,hl⟩:∃l,iq (gs.take j)=l:=⟨_,rfl⟩;rw[hl]at av C al;refine Jd.seq ?_
 have hround:j<gs.length->∃g,gs[j]?=some g/\g.1.length=n+1/\Rb l (g.1.drop 1) g.2/\iq (gs.take (j+1))=putL l (g.1.drop 1) g.2:=fun B=>by
  obtain⟨g,N⟩:∃g,gs[j]?=some g:=⟨_,bY B⟩;have A:=hT.1.2 g (eQ N);have h2:(g.1.drop 1).length=n:=by rw[Rw,A.1];omega
  refine⟨g,N,A.1,⟨fun x hx=>by rw[(C.1.2 x hx).1,h2],by omega,by omega,fun x hx=>(C.1.2 x hx).2.2,A.2.2⟩,by rw[Lm gs N,hl]⟩
 rcases av with⟨rfl,rfl⟩|⟨am,rfl⟩
 ·unfold fO;refine aN M ?_;refine Jd.cnd rfl (fun A=>?_) (fun A=>?_);rotate_left
  ·refine Jd.exitT (hex _ _ ?_);show Jb _ _ _ _ _ _;have h0:gs=[]:=oF (by have:=io A;omega);refine tX 2 [0,1] [(3,.ptr 1 0),(2,.ptr 0 0)] [(1,some (.cells [.i .i64 (n:Int),.i .i64 (v:Int),(.vw [] 0)] 27 false)),(0,some (.cells [.i .i64 0,.i .i64 0,.snil] 27 false))] bT (by repeat' first|exact aK|refine aF ?_ ?_|exact⟨rfl,rfl,by rw[bt _ _ rfl];exact .cons (Wk.refl _ _) (.cons (Wk.refl _ _) (.cons (Wk.none _) .nil))⟩|exact dj) ?_;refine aN M ?_;exact Jd.ret (aw.c1 rfl rfl BD (by rw[h0];rfl))
  have B:0<gs.length:=by have:=gT A;omega
  obtain⟨g,N,u,ok,hnx⟩:=hround B;have Y:(br gs)[0]?=_:=mJ N;have U:(br gs)[1]?=_:=Bt N;obtain rfl:l=[]:=hl.symm;have J:bp (g.1.drop 1)=.vw (List.drop (Int.toNat 1) (is g.1)) (g.1.length-Int.toNat 1):=by show AV.vw (is (g.1.drop 1)) _=.vw ((is g.1).drop 1) (g.1.length-1);rw[Rw];simp only[is,aCl]
  have y:relS re [.snil,.vw (List.drop (Int.toNat 1) (is g.1)) (g.1.length-Int.toNat 1),.i .i64 g.2] (St.of [(1,some (.cells [.i .i64 (n:Int),.i .i64 (v:Int),.snil] 27 false)),(0,some (.cells [.i .i64 0,.i .i64 0,.snil] 27 false))] 2)=some (.sl 2 0 1 (bI+2),St.of [(2,some (ku (iq (gs.take 1)))),(1,some (.cells [.i .i64 (n:Int),.i .i64 (v:Int),.snil] 27 false)),(0,some (.cells [.i .i64 0,.i .i64 0,.snil] 27 false))] 3):= wq ⟨[],g.1.drop 1,g.2,ok,.inl ⟨rfl,by rw[J],rfl,by rw[show iq (gs.take 1)=[(g.1.drop 1,g.2)]from hnx];rfl⟩⟩;refine Jd.skipT ?_;refine Jd.seq (Jd.block ?_);clear hex;apply Jd.drwQ M [(17,1)] (by kernel_rfl);(· intro K gl u hK;simp only[sv]at u;subst u;simp (maxSteps:=1000000) (disch:=omega) only[↓nD,↓nC,nB,Nat.reduceEqDiff,↓reduceIte,Nat.reduceLT,Nat.reduceAdd,iT,ij,Cc,NE,NO,iO, Y,U,c1,y];exact hK)
  refine bW.norm ?_;show Jb _ _ _ _ _ _;refine f6 M ?_;have a2:(iq (gs.take 1)).length=1:=by rw[show iq (gs.take 1)=[(g.1.drop 1,g.2)]from hnx];rfl
  refine ad _ _ ⟨k-1,_,_,by omega,(d9 3 [0,1,2] [(4,.i .i64 ((0+1:Nat):Int)),(3,.ptr 1 0),(2,.ptr 0 0),(1,.vp (fO (n+1) v gs) 0)] [(2,some (ku (iq (gs.take (0+1))))),(1,some (.cells [.i .i64 (n:Int),.i .i64 (v:Int),(.sl 2 0 ((iq (gs.take (0+1)))).length (bI+2))] 27 false)),(0,some (.cells [.i .i64 0,.i .i64 0,.snil] 27 false))] bT (by repeat' first|exact aK|refine aF ?_ ?_|exact bA.same (cG _)|exact bA.cells (by rw[SK,a2];rfl)|exact dj)),0+1,by omega,rfl,.inr ⟨by rw[hnx];exact A6 _ _ _,rfl⟩⟩
 unfold fO;refine aN M ?_;refine Jd.cnd rfl (fun A=>?_) (fun A=>?_);rotate_left
 ·refine Jd.exitT (hex _ _ ?_);show Jb _ _ _ _ _ _;have a0:j=gs.length:=by have:=io A;omega
  have a1:iq gs=l:=by rw[<-hl,a0,aCO]
  unfold ku;refine zX 2 2 (br l) [0,1] [(3,.ptr 1 0),(2,.ptr 0 0)] [(1,some (.cells [.i .i64 (n:Int),.i .i64 (v:Int),(.vw (br l) l.length)] 27 false)),(0,some (.cells [.i .i64 0,.i .i64 0,.snil] 27 false))] ?_ bT (by repeat' first|exact aK|refine aF ?_ ?_|exact⟨rfl,rfl,by rw[bt _ _ rfl];exact .cons (Wk.refl _ _) (.cons (Wk.refl _ _) (.cons (Wk.frz_sl (off:=0) (by have:=dW;omega)) .nil))⟩|exact dj) ?_
  ·exact cG _
  refine aN M ?_;exact Jd.ret (aw.c1 rfl rfl BD (by rw[a1]))
 have B:j<gs.length:=by have:=gT A;omega
 obtain⟨g,N,u,ok,hnx⟩:=hround B;have Y:=mJ N;have U:=Bt N;have J:bp (g.1.drop 1)=.vw (List.drop (Int.toNat 1) (is g.1)) (g.1.length-Int.toNat 1):=by show AV.vw (is (g.1.drop 1)) _=.vw ((is g.1).drop 1) (g.1.length-1);rw[Rw];simp only[is,aCl]
 refine Jd.skipT ?_;refine Jd.seq (Jd.block ?_);clear hex;by_cases Z:(putL l (g.1.drop 1) g.2).length=l.length
 ·have y:relS re [.sl 2 0 l.length (bI+2),.vw (List.drop (Int.toNat 1) (is g.1)) (g.1.length-Int.toNat 1),.i .i64 g.2] (St.of [(2,some (ku l)),(1,some (.cells [.i .i64 (n:Int),.i .i64 (v:Int),(.sl 2 0 (l).length (bI+2))] 27 false)),(0,some (.cells [.i .i64 0,.i .i64 0,.snil] 27 false))] 3)=some (.sl 2 0 l.length (bI+2),St.of [(2,some (ku (iq (gs.take (j+1))))),(2,some (ku l)),(1,some (.cells [.i .i64 (n:Int),.i .i64 (v:Int),(.sl 2 0 (l).length (bI+2))] 27 false)),(0,some (.cells [.i .i64 0,.i .i64 0,.snil] 27 false))] 3):= wq ⟨l,g.1.drop 1,g.2,ok,.inr ⟨2,am,by rw[J],by rw[St.of_get];rfl,.inl ⟨Z,rfl,by rw[hnx];rfl⟩⟩⟩;apply Jd.drwQ M [(17,1)] (by kernel_rfl);(· intro K gl u hK;simp only[sv]at u;subst u;simp (maxSteps:=1000000) (disch:=omega) only[↓nD,↓nC,nB,Nat.reduceEqDiff,↓reduceIte,Nat.reduceLT,Nat.reduceAdd,iT,ij,Cc,NE,NO,iO, Y,U,c1,y];exact hK)
  refine bW.norm ?_;show Jb _ _ _ _ _ _;refine f6 M ?_;refine ad _ _ ⟨k-1,_,_,by omega,(d9 3 [0,1,2] [(4,.i .i64 ((j+1:Nat):Int)),(3,.ptr 1 0),(2,.ptr 0 0),(1,.vp (fO (n+1) v gs) 0)] [(2,some (ku (iq (gs.take (j+1))))),(1,some (.cells [.i .i64 (n:Int),.i .i64 (v:Int),(.sl 2 0 ((iq (gs.take (j+1)))).length (bI+2))] 27 false)),(0,some (.cells [.i .i64 0,.i .i64 0,.snil] 27 false))] bT (by repeat' first|exact aK|refine aF ?_ ?_|exact bA.same (cG _)|exact bA.cells (by rw[hnx,Z];rfl)|exact dj)),j+1,by omega,rfl,.inr ⟨by rw[hnx];exact A6 _ _ _,rfl⟩⟩
 have an:(putL l (g.1.drop 1) g.2).length=l.length+1:=(Df l _ _).resolve_left Z;have y:relS re [.sl 2 0 l.length (bI+2),.vw (List.drop (Int.toNat 1) (is g.1)) (g.1.length-Int.toNat 1),.i .i64 g.2] (St.of [(2,some (ku l)),(1,some (.cells [.i .i64 (n:Int),.i .i64 (v:Int),(.sl 2 0 (l).length (bI+2))] 27 false)),(0,some (.cells [.i .i64 0,.i .i64 0,.snil] 27 false))] 3)=some (.sl 3 0 (l.length+1) (bI+2),St.of [(3,some (ku (iq (gs.take (j+1))))),(2,some (ku l)),(1,some (.cells [.i .i64 (n:Int),.i .i64 (v:Int),(.sl 2 0 (l).length (bI+2))] 27 false)),(0,some (.cells [.i .i64 0,.i .i64 0,.snil] 27 false))] 4):= wq ⟨l,g.1.drop 1,g.2,ok,.inr ⟨2,am,by rw[J],by rw[St.of_get];rfl,.inr ⟨Z,by show 2<3;omega,rfl,by rw[hnx];rfl⟩⟩⟩;apply Jd.drwQ M [(17,1)] (by kernel_rfl);(· intro K gl u hK;simp only[sv]at u;subst u;simp (maxSteps:=1000000) (disch:=omega) only[↓nD,↓nC,nB,Nat.reduceEqDiff,↓reduceIte,Nat.reduceLT,Nat.reduceAdd,iT,ij,Cc,NE,NO,iO, Y,U,c1,y];exact hK)
 refine bW.norm ?_;show Jb _ _ _ _ _ _;refine f6 M ?_;refine ad _ _ ⟨k-1,_,_,by omega,(d9 3 [0,1,3] [(4,.i .i64 ((j+1:Nat):Int)),(3,.ptr 1 0),(2,.ptr 0 0),(1,.vp (fO (n+1) v gs) 0)] [(2,some (ku (iq (gs.take (j+1))))),(1,some (.cells [.i .i64 (n:Int),.i .i64 (v:Int),(.sl 2 0 ((iq (gs.take (j+1)))).length (bI+2))] 27 false)),(0,some (.cells [.i .i64 0,.i .i64 0,.snil] 27 false))] bT (by repeat' first|exact aK|refine aF ?_ ?_|exact bA.same (cG _)|exact bA.cells (by rw[hnx,an];rfl)|exact dj)),j+1,by omega,rfl,.inr ⟨by rw[hnx];exact A6 _ _ _,rfl⟩⟩
structure TH where
 n:Nat
 v:Nat
 gs:List Gr
 h:List Int
def XP(d:TH):List AV:=[.agg (fO d.n d.v d.gs),bp d.h]
theorem RI(x y:TH)(h:XP x=XP y):x=y:=by
 obtain⟨a,b,c,e⟩:=x;obtain⟨a',b',c',e'⟩:=y;simp only[XP,fO,rW,AV.agg.injEq,AV.vw.injEq,AV.i.injEq,and_true,true_and]at h;obtain⟨⟨A,B,j,_⟩,u,_⟩:=h;obtain rfl:=Bs j;obtain rfl:=eu u;obtain rfl:a=a':=by omega
 obtain rfl:b=b':=by omega
 rfl
structure YM(d:TH):Prop where
 tab:mV d.v d.n d.gs
 n1:1<=d.n/\d.n<=4
 v8:d.v<=8
 hl:d.h.length+1=d.n
def kM(v:Nat)(C:Int->Int):List Int:=(List.range (v+1)).map fun(x:Nat)=>C (x:Int)
noncomputable def seenRV:=ofE XP YM fun d=>.tup [bp (kM d.v fun x=>tot 0 d.gs (d.h++[x])),.i .i64 (aZ (fun x=>tot 0 d.gs (d.h++[x])) d.v)]
theorem yP{n v:Nat}{gs:List Gr}{h:List Int}(ok:YM ⟨n,v,gs,h⟩)(s:St):ab seenRV [.agg (fO n v gs),bp h] s=some (.tup [bp (kM v fun x=>tot 0 gs (h++[x])),.i .i64 (aZ (fun x=>tot 0 gs (h++[x])) v)],s):=fT (d:=TH.mk n v gs h) RI ok s
theorem xC(v:Nat)(C:Int->Int):(kM v C).length=v+1:=by simp[kM]
theorem wh{α:Type}(x:α):∀n,reps [x] n=List.replicate n x
 |0=>rfl
 |n+1=>by rw[F8,wh x n];rfl
theorem E2:ag Tryz.prog 193 (ab seenRV):=by
 obtain⟨E,M,c1⟩:=ur (ab ordV) Hf rfl;refine aE (by kernel_rfl) Tryz.func193 Tryz.ntmps193 rfl ?_;intro args x h0;obtain⟨⟨n,v,gs,h⟩,hd,rfl,rfl⟩:=cU h0;have hT:mV v n gs:=hd.tab;have hn:1<=n/\n<=4:=hd.n1;have hv:v<=8:=hd.v8;have bj:h.length+1=n:=hd.hl;clear hd h0;refine⟨rfl,rfl,nE rfl,?_⟩;dsimp only;unfold XP;rw[cZ,St.of_nil];dsimp only;unfold fO;refine aN M ?_;refine zX 0 0 (fO n v gs) [] [(5,.i .i64 0),(4,.snil),(2,.vp (fO n v gs) 0),(1,bp h)] [] ?_ (by repeat' first|exact bK|refine aM ?_ ?_|exact Wk.frz_ptr|exact eU) aK ?_
 ·rfl
 unfold fO;have al:reps [AV.i .i64 0] (v+1)=is (kM v (fX gs h 0)):=by rw[wh];simp only[is,kM,tj,List.map_const',aCk,List.map_replicate]
 have a4:aZ (fX gs h 0) v=0:=by rw[vJ (D:=fun _=>0) (fun x _=>tj gs h x)];unfold aZ;rw[List.map_const',List.sum_replicate_int,Int.mul_zero]
 have a6:(v:Int)+1=((v+1:Nat):Int):=by omega
 refine rg M (ax @a6 (ax @Mf (ax @sX (aX (show v+1<=1000000 by omega))))) ?_;refine aN M ?_;refine Jd.seq ?_;refine aN M ?_;refine Jd.loopB (fun k g s=>∃(j:Nat)(z:Int),j+k=gs.length/\z=aZ (fX gs h j) v/\g=⟨193,56,Tr.of [(8,.i .i64 (j:Int)),(7,.i .i64 z),(6,.sl 0 0 (v+1) (v+1)),(5,.i .i64 0),(4,.snil),(2,.vp (fO n v gs) 0),(1,bp h)],none,[]⟩/\s=St.of [(0,some (.cells (is (kM v (fX gs h j))) 3 false))] 1) gs.length ?_ ?_
 ·exact⟨_,_,(d9 1 [0] [(8,.i .i64 ((0:Nat):Int)),(7,.i .i64 0),(6,.sl 0 0 (v+1) (v+1)),(5,.i .i64 0),(4,.snil),(2,.vp (fO n v gs) 0),(1,bp h)] [(0,some (.cells (is (kM v (fX gs h 0))) 3 false))] bT (by repeat' first|exact aK|refine aF ?_ ?_|exact bA.cells (by rw[bt _ _ (fH _),al])|exact dj)),0,0,by omega,a4.symm,rfl,rfl⟩
 rintro k _ _ ⟨j,z,hj,A,rfl,rfl⟩ Q1 hex bd N;unfold fO;refine Jd.seq ?_;refine aN M ?_;refine Jd.cnd rfl (fun h1=>?_) (fun h1=>?_);rotate_left
 ·refine Jd.exitT (hex _ _ ?_);show Jb _ _ _ _ _ _;obtain rfl:j=gs.length:=by have:=io h1;omega
  rw[P9]at A⊢;obtain⟨S,hS⟩:∃S,aZ (fun x=>tot 0 gs (h++[x])) v=S:=⟨_,rfl⟩;obtain⟨C,hC⟩:∃C,kM v (fun x=>tot 0 gs (h++[x]))=C:=⟨_,rfl⟩;have ad:C.length=v+1:=by rw[<-hC,xC]
  rw[hS]at A⊢;subst A;rw[hC];refine zX 0 0 (is C) [] [(7,.i .i64 z),(6,.vw (is C) (v+1)),(5,.i .i64 0),(4,.snil)] [] ?_ (by repeat' first|exact bK|refine aM ?_ ?_|exact Wk.frz_sl (off:=0) (cC _)|exact eU) aK ?_
  ·exact fH _
  refine aN M ?_;exact Jd.ret (aw.two rfl rfl rfl (by rw[bp,ad]))
 have a2:j<gs.length:=by have:=gT h1;omega
 obtain⟨g,Z⟩:∃g,gs[j]?=some g:=⟨_,bY a2⟩;have ht:=hT.1.2 g (eQ Z);have u:g.1.length=h.length+1:=by omega
 have a0:getR (br gs) (j*2) 2=some [.vw (is g.1) g.1.length,.i .i64 g.2]:=iw gL Z;have ho:=Bb (a:=h) (b:=g.1) (by omega) (by omega);refine Jd.skipT ?_;refine Jd.seq (Jd.block ?_);clear hex;refine rg M @a0 ?_;refine rg M (ax @c1 @ho) ?_;have am:=RQ (fun x=>JX hT.1 h j x) v;have a9:=hT.1.1;have ba:((v+1:Nat):Int)*((j:Int)*100000000000)<=9*(60*100000000000):=Int.mul_le_mul (by omega) (by omega) (by omega) (by omega);rw[<-A]at am;refine Jd.cnd rfl (fun h2=>?_) (fun h2=>?_)
 ·have hm:=(yZ (by omega)).1 (gT h2);obtain⟨y,hy⟩:∃y,g.1[h.length]?=some y:=⟨_,bY (by omega)⟩;have bn:=ht.2.1 y (eQ hy);obtain⟨m,rfl⟩:∃m:Nat,y=(m:Int):=⟨y.toNat,by omega⟩;have hw:=rM hy;have a3:(g.1.length:Int)-1=((h.length:Nat):Int):=by omega
  obtain⟨U,Y⟩:=L7 (y:=(m:Int)) Z u hm (by rw[eM,hy];rfl);have bf:=JX hT.1 h j (m:Int);have an:(kM v (fX gs h j))[m]?=some (fX gs h j (m:Int)):=by unfold kM;rw[mT,MT (by omega)];rfl
  have J:=rM an;have eF:cz (is (kM v (fX gs h j))) m [.i .i64 (fX gs h j (m:Int)+g.2)]=is (kM v (fX gs h (j+1))):=by
   rw[GC];congr 1;refine aAa fun i=>?_;rw[aAF];unfold kM;rw[RW,aCk];by_cases hi:m=i
   ·subst hi;rw[oR rfl,oR (by omega),mT,MT (by omega),AC,U]
   rw[iF hi];by_cases a1:i<v+1
   ·rw[mT,mT,MT a1,AC,AC,Y _ (by omega)]
   rw[As.2 (by simp;omega),As.2 (by simp;omega)]
  have a5:=KI v (show m<=v by omega) U fun x _ bm=>Y _ (by omega);have a7:0<g.1.length:=by omega
  have bo:=ht.2.2;have av:(is (kM v (fX gs h j))).length=v+1:=by simp[is,kM]
  refine Jd.seq ?_;refine rq M (ax @a3 @hw) ?_;show Jb _ _ _ _ _ _;refine Jd.seq ?_;apply Jd.drwQ M [(10,5)] (by kernel_rfl);(· intro K gl u hK;simp only[sv]at u;subst u;simp (maxSteps:=1000000) (disch:=omega) only[↓nD,↓nC,nB,Nat.reduceEqDiff,↓reduceIte,Nat.reduceLT,Nat.reduceAdd,iT,ij,Cc,NE,NO,iO, J,eF,av];exact hK)
  show Jb _ _ _ _ _ _;refine f6 M ?_;refine bW.norm ?_;show Jb _ _ _ _ _ _;refine f6 M ?_;refine N _ _ ⟨k-1,_,_,by omega,(d9 1 [0] [(8,.i .i64 ((j+1:Nat):Int)),(7,.i .i64 (z+g.2)),(6,.sl 0 0 (v+1) (v+1)),(5,.i .i64 0),(4,.snil),(2,.vp (fO n v gs) 0),(1,bp h)] [(0,some (.cells (is (kM v (fX gs h (j+1)))) 3 false))] bT (by repeat' first|exact aK|refine aF ?_ ?_|exact bA.same (fH _)|exact dj)),j+1,z+g.2,by omega,by rw[A,a5],rfl,rfl⟩
 have hm:g.1.take h.length≠h:=fun e=>io h2 ((yZ (by omega)).2 e);have hc:∀x,fX gs h (j+1) x=fX gs h j x:=L2 Z u hm;refine Jd.skip ?_;refine bW.norm ?_;show Jb _ _ _ _ _ _;refine f6 M ?_;have B:fX gs h (j+1)=fX gs h j:=funext hc;refine N _ _ ⟨k-1,_,_,by omega,(d9 1 [0] [(8,.i .i64 ((j+1:Nat):Int)),(7,.i .i64 z),(6,.sl 0 0 (v+1) (v+1)),(5,.i .i64 0),(4,.snil),(2,.vp (fO n v gs) 0),(1,bp h)] [(0,some (.cells (is (kM v (fX gs h (j+1)))) 3 false))] bT (by repeat' first|exact aK|refine aF ?_ ?_|exact bA.cells (by rw[bt _ _ (fH _),B])|exact dj)),j+1,z,by omega,by rw[A,B],rfl,rfl⟩
structure WD where
 L:LG
 N:Int
 S:Int
 K:Int
 p:Rat
 r:Rat
def Xs(d:WD):List AV:=[.agg d.L.cells,.i .i64 d.N,.i .i64 d.S,.i .i64 d.K,fq d.p,fq d.r]
theorem Ru(x y:WD)(h:Xs x=Xs y):x=y:=by obtain⟨a,b,c,d,e,f⟩:=x;obtain⟨a',b',c',d',e',f'⟩:=y;simp only[Xs,rW,AV.agg.injEq,AV.i.injEq,fq,and_true,true_and]at h;obtain⟨j,rfl,rfl,rfl,u,A⟩:=h;obtain rfl:=LG.inj _ _ j;obtain rfl:=xm _ _ u;obtain rfl:=xm _ _ A;rfl
structure YJ(d:WD):Prop where
 hL:d.L.Ok
 am:QB 64 d.L.am.q
 qp:QB 5000000 d.p
 qr:QB 50000000 d.r
 hN:0<=d.N/\d.N<=900000000000000
 hS:0<=d.S/\d.S<=900000000000000
 hK:0<=d.K/\d.K<=9
 hV:0<=d.L.V/\d.L.V<=8
 rest:d.S≠0->d.L.k≠4->d.K≠d.L.V+1->¬0<d.N->d.r≠0
noncomputable def wgtV:=ofE Xs YJ fun d=>fq (qa d.L.k d.L.V d.L.am.q d.p d.r d.N d.S d.K)
theorem VM{L:LG}{N S K:Int}{p r:Rat}(ok:YJ ⟨L,N,S,K,p,r⟩)(s:St):ab wgtV [.agg L.cells,.i .i64 N,.i .i64 S,.i .i64 K,fq p,fq r] s=some (fq (qa L.k L.V L.am.q p r N S K),s):=fT (d:=WD.mk L N S K p r) Ru ok s
theorem Sr(a b c d e f:AV):Tr.ofList [a,b,c,d,e,f]=Tr.of [(5,f),(4,e),(3,d),(2,c),(1,b),(0,a)]:=rfl
theorem Uv:ag Tryz.prog 106 (ab (cK (·-·))):=pD (by kernel_rfl) _ XT
theorem pp{a b:Int}(ha:0<=a)(j:a<9223372036854775808)(u:0<b)(x:b<9223372036854775808):pR [.i .i64 a,.i .i64 b]=some (fq ((a:Rat)/(b:Rat))):=by obtain⟨n,rfl⟩:=aBN ha;obtain⟨d,rfl⟩:=aBN (aBJ u);show cond (Nat.blt n 9223372036854775808&&Nat.blt d 9223372036854775808&&Nat.blt 0 d) (some (fq ((n:Rat)/(d:Rat)))) none=_;rw[dz (by omega),dz (by omega),dz (by omega)];simp only[aBU,EQ,aBP]
theorem WU:ag Tryz.prog 196 (ab wgtV):=by
 obtain⟨E,M,hL⟩:=SL [(23,ab yi),(27,ab (cK (·*·))),(21,ab (cK (·+·))),(106,ab (cK (·-·))),(68,ab r6),(63,ab pR)] ⟨xT,sm,Ce,Uv,Kg,oI⟩ rfl;simp only[aAJ]at hL;obtain⟨c1,c2,c3,c4,Z,c6,_⟩:=hL;refine aE (by kernel_rfl) Tryz.func196 Tryz.ntmps196 rfl ?_;intro args x h0;obtain⟨⟨L,N,S,K,p,r⟩,hd,rfl,rfl⟩:=cU h0;obtain⟨hL,u,qp,qr,hN,hS,hK,hV,y⟩:=hd;dsimp only at hL u qp qr hN hS hK hV y⊢;clear h0;have b1:=hL.ham.bn;have b2:=hL.ham.bd;have f1:=hL.ham.fn;have f2:=hL.ham.fd;refine⟨by simp only[Xs,LG.cells,aq,bare,b1,b2];rfl,rfl,nE rfl,?_⟩;unfold Xs LG.cells;rw[Sr,St.of_nil];dsimp only;have oN:=Fh (z:=N) hN.1 (by omega);have oS:=Fh (z:=S) hS.1 (by omega);have oK:=Fh (z:=K) hK.1 (by omega);have ad:=Fh (z:=S+K) (by omega) (by omega);refine rg M (ax @f1 @f2) ?_;refine Jd.seq ?_;refine aN M ?_;refine Jd.cnd rfl (fun j=>?_) (fun j=>?_)
 ·have j:=gT j;refine rg M (ax @ew @cY) ?_;exact Jd.retT (aw.c1 rfl rfl BD (by unfold qa;rw[oR j];rfl))
 have j:=io j;have zN:QB 64 (N:Rat):=eS (by omega) (by omega);have zS:QB 64 (S:Rat):=eS (by omega) (by omega);have U:QB 64 (K:Rat):=eS (by omega) (by omega);have am:QB 64 ((S+K:Int):Rat):=eS (by omega) (by omega);have S0:(S:Rat)≠0:=Gl (ER (by omega));have hv:fg (.agg [.b L.am.neg,L.am.n,L.am.d])=some L.am.q:=lX hL.ham.v;refine Jd.skipT ?_;refine Jd.seq ?_;refine aN M ?_;refine Jd.cnd rfl (fun A=>?_) (fun A=>?_)
 ·have A:=gT A;have J:=aj (fM (·*·) (aO U (by omega)) (aO qp (by omega)));have Y:=aj (fM (·+·) (aO zN (by omega)) (aO (U.mul qp) (by omega)));have e3:=aj (l9 (bu (aO (zN.add (U.mul qp)) (by omega))) (bu (aO am (by omega))) (Gl (ER (show 0<S+K by omega))));refine dr M [] (ax @ew (ax @cY (ax @c1 (ax @c2 (ax @c3 (ax @Z (ax @oN (ax @oK (ax @ad (ax @J (ax @Y @e3))))))))))) ?_;exact Jd.retT (aw.c1 rfl rfl BD (by unfold qa;rw[iF j,oR A];rfl))
 have A:=io A;refine Jd.skipT ?_;refine Jd.seq ?_;refine aN M ?_;refine Jd.cnd rfl (fun B=>?_) (fun B=>?_)
 ·have B:=gT B;have J:=aj (pp (a:=N) (b:=S) (by omega) (by omega) (by omega) (by omega));refine rg M (ax @ew (ax @cY (ax @c6 @J))) ?_;exact Jd.retT (aw.c1 rfl rfl BD (by unfold qa;rw[iF j,iF A,oR B];rfl))
 have B:=io B;refine Jd.skipT ?_;refine Jd.seq ?_;refine aN M ?_;refine Jd.cnd rfl (fun C=>?_) (fun C=>?_)
 ·have C:=gT C;have J:=aj (df (·-·) (bu (aO zN (by omega))) hv);have al:QB (64+64+1) ((N:Rat)-L.am.q):=by rw[aBq];exact zN.add u.neg
  have Y:=aj (l9 (bu (aO al (by omega))) (bu (aO zS (by omega))) S0);refine dr M [] (ax @ew (ax @cY (ax @c1 (ax @c4 (ax @Z (ax @oN (ax @oS (ax @J @Y)))))))) ?_;exact Jd.retT (aw.c1 rfl rfl BD (by unfold qa;rw[iF j,iF A,iF B,oR C];rfl))
 have C:=io C;refine Jd.skipT ?_;have J:=aj (df (·*·) hv (bu (aO U (by omega))));have Y:=aj (l9 (bu (aO (u.mul U) (by omega))) (bu (aO zS (by omega))) S0);have e3:=aj (fM (·*·) (aO ((u.mul U).div zS (by omega)) (by omega)) (aO qp (by omega)));have e4:=aj (l9 (bu (aO (((u.mul U).div zS (by omega)).mul qp) (by omega))) (bu (aO qr (by omega))) (y j A B C));refine dr M [] (ax @ew (ax @cY (ax @c1 (ax @c2 (ax @Z (ax @oK (ax @oS (ax @J @Y)))))))) ?_;refine dr M [] (ax @ew (ax @cY (ax @c2 (ax @Z (ax @e3 @e4))))) ?_;exact Jd.ret (aw.c1 rfl rfl BD (by unfold qa;rw[iF j,iF A,iF B,iF C];rfl))
def RN(v:Nat):Option (Nat×List Gr)->List AV
 |none=>[.i .i64 0,.i .i64 0,.snil]
 |some x=>fO x.1 v x.2
theorem vI(v:Nat)(x:Option (Nat×List Gr)):(RN v x).length=3:=by cases x<;>rfl
def pO(O:Nat)(gs:List Gr)(lo:Nat):List (Option (Nat×List Gr)):=(List.range (O+1)).map fun i=>if i<lo then none else some (i,qm gs (O-i))
theorem oY(O:Nat)(gs:List Gr)(lo:Nat):(pO O gs lo).length=O+1:=by simp[pO]
theorem M8{O:Nat}{gs:List Gr}{lo i:Nat}(h:lo<=i)(hi:i<=O):(pO O gs lo)[i]?=some (some (i,qm gs (O-i))):=by unfold pO;rw[mT,MT (by omega),AC,iF (by omega)]
theorem FJ{O:Nat}{gs:List Gr}{j:Nat}(y:j<=O):(pO O gs (j+1)).set j (some (j,qm gs (O-j)))=pO O gs j:=by
 refine aAa fun i=>?_;rw[aAF,oY];unfold pO;by_cases hi:j=i
 ·subst hi;rw[oR rfl,oR (by omega),mT,MT (by omega),AC,iF (by omega)]
 rw[iF hi];by_cases x:i<O+1
 ·rw[mT,mT,MT x,AC,AC];by_cases u:i<j
  ·rw[oR (by omega),oR u]
  rw[iF (by omega),iF u]
 rw[As.2 (by simp;omega),As.2 (by simp;omega)]
def eP(v O:Nat)(gs:List Gr)(lo:Nat):List AV:=(pO O gs lo).flatMap (RN v)
theorem FL(v O:Nat)(gs:List Gr):eP v O gs (O+1)=reps [.i .i64 0,.i .i64 0,.snil] (O+1):=by
 have h:pO O gs (O+1)=List.replicate (O+1) none:=List.eq_replicate_iff.2 ⟨oY _ _ _,fun x j=>by obtain⟨i,hi,rfl⟩:=Ac.1 j;rw[oR (by simpa using hi)]⟩;unfold eP;rw[h];generalize O+1=n
 induction n with
 |zero=>rfl
 |succ n ih=>rw[aAW,aAH,ih,F8];rfl
theorem yJ{v O:Nat}{gs:List Gr}{j:Nat}(u:j<=O):cz (eP v O gs (j+1)) (j*3) (fO j v (qm gs (O-j)))=eP v O gs j:=by have h:=mN (f:=RN v) (vI v) (l:=pO O gs (j+1)) (i:=j) (by rw[oY];omega) (some (j,qm gs (O-j)));rw[FJ u]at h;exact h
theorem yL{v O:Nat}{gs:List Gr}{lo i:Nat}(h:lo<=i)(hi:i<=O):getR (eP v O gs lo) (i*3) 3=some (fO i v (qm gs (O-i))):=iw (f:=RN v) (vI v) (M8 h hi)
theorem yK(v O:Nat)(gs:List Gr)(lo:Nat):(eP v O gs lo).length=(O+1)*3:=by unfold eP;rw[de (vI v),oY]
theorem j8(v O:Nat)(gs:List Gr)(lo:Nat):aq (eP v O gs lo)=true:=jl (fun x=>by cases x<;>rfl) _
def Sb(d:LG×List Int):List AV:=[.agg d.1.cells,bp d.2]
theorem AP(x y:LG×List Int)(h:Sb x=Sb y):x=y:=by obtain⟨a,b⟩:=x;obtain⟨a',b'⟩:=y;simp only[Sb,rW,AV.agg.injEq,AV.vw.injEq,and_true]at h;obtain⟨j,u,_⟩:=h;obtain rfl:=LG.inj _ _ j;obtain rfl:=eu u;rfl
structure Xk(O v:Nat)(L:LG)(h:List Int):Prop where
 eO:L.O=(O:Int)
 eV:L.V=(v:Int)
 hL:L.Ok
 tab:mV v O L.gs
 o4:O<=4
 v8:v<=8
 am:QB 64 L.am.q
 mx:∀x∈L.mix,QB 64 x.q
def ZN(d:LG×List Int):Prop:=∃O v:Nat,Xk O v d.1 d.2/\d.2.length+1=O/\d.1.mix.length=O+1
noncomputable def mixRV:=ofE Sb ZN fun d=>.vw (fr (iX (aU d.1.o d.1.gs) d.1.v (jG d.1.mix) d.1.o d.2)) (d.1.v+1)
theorem SG{O v:Nat}{L:LG}{h:List Int}(ok:Xk O v L h)(u:h.length+1=O)(x:L.mix.length=O+1)(s:St):ab mixRV [.agg L.cells,bp h] s=some (.vw (fr (iX (aU O L.gs) v (jG L.mix) O h)) (v+1),s):=by
 refine(fT (d:=(L,h)) AP ⟨O,v,ok,u,x⟩ s).trans ?_;have j:L.o=O:=by unfold LG.o;rw[ok.eO];rfl
 have ev:L.v=v:=by unfold LG.v;rw[ok.eV];rfl
 dsimp only;rw[j,ev]
theorem sD{v O:Nat}{gs:List Gr}(hT:mV v O gs)(n:Nat)(h:List Int)(x:Int):0<=aU O gs n h x/\aU O gs n h x<=21474836480000:=by
 obtain⟨_,hp,hs⟩:=hT
 have key:∀(P:List Int->Bool)(l:List Gr),(∀g∈l,0<g.2)->0<=eN P l/\eN P l<=fP l:=fun P l=>by
  induction l with
  |nil=>intro _;exact⟨aCv _,aCv _⟩
  |cons g l ih=>intro h;have j:=ih fun y hy=>h y (tK _ hy);have u:=h g Do;rw[bF,dp];split<;>omega
 have:=key (fun y=>y.drop (O-n) == h++[x]) gs hp;exact⟨this.1,Int.le_trans this.2 (by omega)⟩
theorem AA:ux 283 .snil/\Ki 283 27 3 [.i .i64 0,.i .i64 0,.snil]/\Kj 283 27 3:=⟨uF,Y3,KK⟩
theorem UF:ag Tryz.prog 195 (ab mixRV):=by
 obtain⟨E,M,c1,c2,c3,c4,c5⟩:=SI (ab lowV) (ab seenRV) (ab pR) (ab (cK (·*·))) (ab (cK (·+·))) ⟨QM,E2,oI,sm,Ce⟩ rfl;refine aE (by kernel_rfl) Tryz.func195 Tryz.ntmps195 rfl ?_;intro args x h0;obtain⟨⟨L,h⟩,⟨O,v,ok,ef,er⟩,rfl,rfl⟩:=cU h0;clear h0;obtain⟨LO,LV,gs,k,am,mx⟩:=L;obtain⟨rfl,rfl,hL,hT,o4,v8,ey,a3⟩:=ok;dsimp only at hT ey a3 er ef⊢;have b1:=hL.ham.bn;have b2:=hL.ham.bd;have f1:=hL.ham.fn;have f2:=hL.ham.fd;dsimp only at b1 b2 f1 f2;have y:aq [.i .i64 (O:Int),.i .i64 (v:Int),.vw (br gs) gs.length,.i .i64 k,.b am.neg,am.n,am.d,aP mx]=true:=by simp only[aq,bare,b1,b2];rfl
 refine⟨by show aq [AV.agg [.i .i64 (O:Int),.i .i64 (v:Int),.vw (br gs) gs.length,.i .i64 k,.b am.neg,am.n,am.d,aP mx],_]=true;simp only[aq,bare,b1,b2];rfl,rfl,nE rfl,?_⟩;rw[show LG.o ⟨(O:Int),(v:Int),gs,k,am,mx⟩=O from rfl,show LG.v ⟨(O:Int),(v:Int),gs,k,am,mx⟩=v from rfl];unfold Sb LG.cells;rw[cZ,St.of_nil];dsimp only;refine rg M (ax @f1 @f2) ?_;refine zX 0 0 ([.i .i64 (O:Int),.i .i64 (v:Int),.vw (br gs) gs.length,.i .i64 k,.b am.neg,am.n,am.d,aP mx]) [] [(4,.snil),(2,.vp [.i .i64 (O:Int),.i .i64 (v:Int),.vw (br gs) gs.length,.i .i64 k,.b am.neg,am.n,am.d,aP mx] 0),(1,bp h)] [] ?_ (by repeat' first|exact bK|refine aM ?_ ?_|exact Wk.frz_ptr|exact eU) aK ?_
 ·exact y
 have dm:(O:Int)+1=((O+1:Nat):Int):=by omega
 have b5:(v:Int)+1=((v+1:Nat):Int):=by omega
 have dn:(O:Int)-1=((O-1:Nat):Int):=by omega
 refine aN M ?_;refine aN M ?_;refine rg M (ax @dm (ax @Mf (ax @sX (ax (aX (show O+1<=1000000 by omega)) @AA)))) ?_;rw[<-FL v O gs];have b3:cz (eP v O gs (O+1)) (O*3) [.i .i64 (O:Int),.i .i64 (v:Int),.vw (br gs) gs.length]=eP v O gs O:=by have:=yJ (v:=v) (gs:=gs) (cC O);rw[aAS]at this;exact this
 have b4:=yK v O gs (O+1);refine rg M (ax @AA (ax @b3 @b4)) ?_;have e1:1<=O:=by omega
 refine Jd.seq ?_;refine Jd.seq ?_;refine rq M @dn ?_;show Jb _ _ _ _ _ _;refine Jd.loopB (fun k' g s=>∃j:Nat,j=k'/\j+1<=O/\g=⟨195,127,Tr.of [(8,.i .i64 (j:Int)),(7,.sl 0 0 (O+1) (O+1)),(6,.i .i64 (O:Int)),(5,.i .i64 (v:Int)),(4,.snil),(2,.vp [.i .i64 (O:Int),.i .i64 (v:Int),.vw (br gs) gs.length,.i .i64 k,.b am.neg,am.n,am.d,aP mx] 0),(1,bp h)],none,[]⟩/\s=St.of [(0,some (.cells (eP v O gs (j+1)) 27 false))] 1) (O-1) ?_ ?_
 ·exact⟨_,_,(d9 1 [0] [(8,.i .i64 ((O-1:Nat):Int)),(7,.sl 0 0 (O+1) (O+1)),(6,.i .i64 (O:Int)),(5,.i .i64 (v:Int)),(4,.snil),(2,.vp [.i .i64 (O:Int),.i .i64 (v:Int),.vw (br gs) gs.length,.i .i64 k,.b am.neg,am.n,am.d,aP mx] 0),(1,bp h)] [(0,some (.cells (eP v O gs (O-1+1)) 27 false))] (by repeat' first|exact bK|refine aM ?_ ?_|exact(by rw[aDc e1];exact bA.same (j8 _ _ _ _))|exact Wk.bare y|exact eU) (by repeat' first|exact aK|refine aF ?_ ?_|exact(by rw[aDc e1];exact bA.same (j8 _ _ _ _))|exact dj)),O-1,rfl,by omega,rfl,rfl⟩
 rintro _ _ _ ⟨j,rfl,hj,rfl,rfl⟩ Q1 hex Y B;refine Jd.seq ?_;refine aN M ?_;refine Jd.cnd rfl (fun h1=>?_) (fun h1=>?_)
 ·have h1:=gT h1;have bn:(j:Int)+1=((j+1:Nat):Int):=by omega
  have ei:(j:Int)-1=((j-1:Nat):Int):=by omega
  have hg:=yL (v:=v) (gs:=gs) (cC (j+1)) hj;have hs:=yJ (v:=v) (gs:=gs) (j:=j) (O:=O) (by omega);have b4:=yK v O gs (j+1);have bo:=OT (AG (O-(j+1)) (n:=j+1) (by rw[show j+1+(O-(j+1))=O by omega];exact hT)).1 (by omega) v8;rw[show iq (qm gs (O-(j+1)))=qm gs (O-j)by rw[show O-j=(O-(j+1))+1 by omega];rfl]at bo;unfold fO at hg hs bo;refine Jd.skipT ?_;refine Jd.seq (Jd.block ?_);clear hex;refine rq M (ax @bn (ax @AA (ax @hg (ax @c1 (ax @bo (ax @hs (ax @b4 @iO))))))) ?_;refine bW.norm ?_;show Jb _ _ _ _ _ _;refine rq M @ei ?_;refine B _ _ ⟨j-1,_,_,by omega,(d9 1 [0] [(8,.i .i64 ((j-1:Nat):Int)),(7,.sl 0 0 (O+1) (O+1)),(6,.i .i64 (O:Int)),(5,.i .i64 (v:Int)),(4,.snil),(2,.vp [.i .i64 (O:Int),.i .i64 (v:Int),.vw (br gs) gs.length,.i .i64 k,.b am.neg,am.n,am.d,aP mx] 0),(1,bp h)] [(0,some (.cells (eP v O gs (j-1+1)) 27 false))] (by repeat' first|exact bK|refine aM ?_ ?_|exact(by rw[aDc (by omega)];exact bA.same (j8 _ _ _ _))|exact Wk.bare y|exact eU) (by repeat' first|exact aK|refine aF ?_ ?_|exact(by rw[aDc (by omega)];exact bA.same (j8 _ _ _ _))|exact dj)),j-1,rfl,by omega,rfl,rfl⟩
 obtain rfl:j=0:=by have:=io h1;omega
 refine Jd.exitT (hex _ _ ?_);show Jb _ _ _ _ _ _;clear hex Y B;refine zX 0 0 (eP v O gs 1) [] [(7,.vw (eP v O gs 1) (O+1)),(6,.i .i64 (O:Int)),(5,.i .i64 (v:Int)),(4,.snil),(2,.vp [.i .i64 (O:Int),.i .i64 (v:Int),.vw (br gs) gs.length,.i .i64 k,.b am.neg,am.n,am.d,aP mx] 0),(1,bp h)] [] ?_ (by repeat' first|exact bK|refine aM ?_ ?_|exact Wk.frz_sl (off:=0) (cC _)|exact Wk.bare y|exact eU) aK ?_
 ·exact j8 _ _ _ _
 have hM:∀n h,gw (aU O gs n h):=fun n h x=>sD hT _ _ _;have eV:∀q∈jG mx,QB 64 q:=fun q hq=>by obtain⟨x,hx,rfl⟩:=Ac.1 hq;exact a3 x hx
 have ca:=BF hM v8 h;have cb:=uf (aU O gs) v h;have eo:∀i j,j<=5->QB 966 (uo (aU O gs) v (jG mx) h i j):=fun i j hj=>(Bj hM v8 eV h i j).mono (by omega);have cm:=aj (pp (a:=1) (b:=((v+1:Nat):Int)) (by omega) (by omega) (by omega) (by omega));obtain⟨x0,a5⟩:∃x,mx[0]?=some x:=⟨_,bY (by omega)⟩;have bB:=hL.hmix.1;dsimp only at bB;have b6:=bB x0 (eQ a5);have e5:=a3 x0 (eQ a5);have db:(jG mx).getD 0 0=x0.q:=by rw[eM];simp[jG,a5]
 obtain⟨f,hf⟩:∃q:Rat,q=((1:Int):Rat)/(((v+1:Nat):Int):Rat):=⟨_,rfl⟩;rw[<-hf]at cm;have av:∀i,i<v+1->(cr v)[i]?=some f:=fun i hi=>by unfold cr;rw[aBs,oR hi,hf];rfl
 have ee:QB 128 f:=ca 0 f (eQ (show(jS (aU O gs) v h 0)[0]?=some f from av 0 (by omega)));have a0:=fk v;obtain⟨o1,bx⟩:∃l,n7 (aU O gs) v (jG mx) h 1=l:=⟨_,rfl⟩;have a1:o1.length=v+1:=by rw[<-bx];exact lY _ _ _ _ _
 have cy:∀i,i<v+1->o1[i]?=some (x0.q*f):=fun i hi=>by rw[<-bx,rk hi];show some (0+(jG mx).getD 0 0*(cr v).getD i 0)=_;rw[db,eM,av i hi,Rat.zero_add];rfl
 have ba:=aj (df (·*·) (lX b6.v) (bu (aO ee (by omega))));simp only[rC]at ba;refine rg M (ax @b5 (ax @Mf (ax @sX (aX (show v+1<=1000000 by omega))))) ?_;refine rg M (ax @b5 (ax @Mf (ax @sX (aX (show v+1<=1000000 by omega))))) ?_;refine Jd.seq ?_;refine Jd.seq ?_;refine f6 M ?_;show Jb _ _ _ _ _ _;refine Jd.loopB (fun k' g s=>∃i:Nat,i+k'=v+1/\g=⟨195,127,Tr.of [(11,.i .i64 (i:Int)),(10,.sl 1 0 (v+1) (v+1)),(9,.sl 0 0 (v+1) (v+1)),(7,.vw (eP v O gs 1) (O+1)),(6,.i .i64 (O:Int)),(5,.i .i64 (v:Int)),(4,.snil),(2,.vp [.i .i64 (O:Int),.i .i64 (v:Int),.vw (br gs) gs.length,.i .i64 k,.b am.neg,am.n,am.d,aP mx] 0),(1,bp h)],none,[]⟩/\s=St.of [(1,some (.cells (fr (cL (cr v) i)) 31 false)),(0,some (.cells (fr (cL o1 i)) 31 false))] 2) (v+1) ?_ ?_
 ·exact⟨_,_,(d9 2 [0,1] [(11,.i .i64 ((0:Nat):Int)),(10,.sl 1 0 (v+1) (v+1)),(9,.sl 0 0 (v+1) (v+1)),(7,.vw (eP v O gs 1) (O+1)),(6,.i .i64 (O:Int)),(5,.i .i64 (v:Int)),(4,.snil),(2,.vp [.i .i64 (O:Int),.i .i64 (v:Int),.vw (br gs) gs.length,.i .i64 k,.b am.neg,am.n,am.d,aP mx] 0),(1,bp h)] [(1,some (.cells (fr (cL (cr v) 0)) 31 false)),(0,some (.cells (fr (cL o1 0)) 31 false))] (by repeat' first|exact bK|refine aM ?_ ?_|exact(by rw[dC,a0];exact bA.zfr _ _ _)|exact(by rw[dC,a1];exact bA.zfr _ _ _)|exact Wk.bare y|exact eU) (by repeat' first|exact aK|refine aF ?_ ?_|exact(by rw[dC,a0];exact bA.zfr _ _ _)|exact(by rw[dC,a1];exact bA.zfr _ _ _)|exact dj)),0,by omega,rfl,rfl⟩
 rintro k' _ _ ⟨i,hi,rfl,rfl⟩ Q1 hex Y B;refine Jd.seq ?_;refine aN M ?_;refine Jd.cnd rfl (fun h1=>?_) (fun h1=>?_)
 ·have J:i<v+1:=by have:=gT h1;omega
  have c8:=gp (qs:=cL (cr v) i) (i:=i) (by rw[dx _ (by omega)];omega) f;rw[g8 (av i J)]at c8;have c9:=gp (qs:=cL o1 i) (i:=i) (by rw[dx _ (by omega)];omega) (x0.q*f);rw[g8 (cy i J)]at c9;have ej:(fr (cL (cr v) i)).length=(v+1)*3:=by rw[iv,dx _ (by omega),a0]
  have en:(fr (cL o1 i)).length=(v+1)*3:=by rw[iv,dx _ (by omega),a1]
  have hge:(cL (cr v) (i+1))[i]?=some f:=by unfold cL;rw[aAp (by simp;omega),aBD,oR (by omega),av i J]
  have bm:getR (KP mx) 0 3=some [.b x0.neg,x0.n,x0.d]:=AQ a5;have e3:0<mx.length:=by omega
  refine Jd.skipT ?_;refine Jd.seq (Jd.block ?_);clear hex;refine rg M (ax @b5 (ax @c3 (ax @cm (ax @c8 (ax @ej @iO))))) ?_;apply Jd.drwQ M [] (by kernel_rfl);(· intro K gl al hK;simp only[sv]at al;subst al;simp (maxSteps:=1000000) (disch:=omega) only[↓nD,↓nC,nB,Nat.reduceEqDiff,↓reduceIte,Nat.reduceLT,Nat.reduceAdd,iT,ij,Cc,NE,NO,iO, bm,i6 hge,c4,ba,c9,en,iO];exact hK)
  refine bW.norm ?_;show Jb _ _ _ _ _ _;refine f6 M ?_;refine B _ _ ⟨k'-1,_,_,by omega,(d9 2 [0,1] [(11,.i .i64 ((i+1:Nat):Int)),(10,.sl 1 0 (v+1) (v+1)),(9,.sl 0 0 (v+1) (v+1)),(7,.vw (eP v O gs 1) (O+1)),(6,.i .i64 (O:Int)),(5,.i .i64 (v:Int)),(4,.snil),(2,.vp [.i .i64 (O:Int),.i .i64 (v:Int),.vw (br gs) gs.length,.i .i64 k,.b am.neg,am.n,am.d,aP mx] 0),(1,bp h)] [(1,some (.cells (fr (cL (cr v) (i+1))) 31 false)),(0,some (.cells (fr (cL o1 (i+1))) 31 false))] (by repeat' first|exact bK|refine aM ?_ ?_|exact Wk.bare y|exact eU) (by repeat' first|exact aK|refine aF ?_ ?_|exact bA.same (aJ _)|exact dj)),i+1,by omega,rfl,rfl⟩
 obtain rfl:i=v+1:=by have:=io h1;omega
 refine Jd.exitT (hex _ _ ?_);show Jb _ _ _ _ _ _;clear hex Y B;rw[show cL o1 (v+1)=o1 by rw[<-a1,jr],show cL (cr v) (v+1)=cr v by rw[<-a0,jr]];rw[<-bx];refine Jd.seq ?_;refine Jd.seq ?_;refine f6 M ?_;show Jb _ _ _ _ _ _;refine Jd.loopB (fun k' g s=>∃j:Nat,j+k'=O/\g=⟨195,127,Tr.of [(12,.i .i64 ((j+1:Nat):Int)),(10,.sl 1 0 (v+1) (v+1)),(9,.sl 0 0 (v+1) (v+1)),(7,.vw (eP v O gs 1) (O+1)),(6,.i .i64 (O:Int)),(5,.i .i64 (v:Int)),(4,.snil),(2,.vp [.i .i64 (O:Int),.i .i64 (v:Int),.vw (br gs) gs.length,.i .i64 k,.b am.neg,am.n,am.d,aP mx] 0),(1,bp h)],none,[]⟩/\s=St.of [(1,some (.cells (fr (jS (aU O gs) v h j)) 31 false)),(0,some (.cells (fr (n7 (aU O gs) v (jG mx) h (j+1))) 31 false))] 2) O ?_ ?_
 ·exact⟨_,_,(d9 2 [0,1] [(12,.i .i64 ((0+1:Nat):Int)),(10,.sl 1 0 (v+1) (v+1)),(9,.sl 0 0 (v+1) (v+1)),(7,.vw (eP v O gs 1) (O+1)),(6,.i .i64 (O:Int)),(5,.i .i64 (v:Int)),(4,.snil),(2,.vp [.i .i64 (O:Int),.i .i64 (v:Int),.vw (br gs) gs.length,.i .i64 k,.b am.neg,am.n,am.d,aP mx] 0),(1,bp h)] [(1,some (.cells (fr (jS (aU O gs) v h 0)) 31 false)),(0,some (.cells (fr (n7 (aU O gs) v (jG mx) h (0+1))) 31 false))] (by repeat' first|exact bK|refine aM ?_ ?_|exact Wk.bare y|exact eU) (by repeat' first|exact aK|refine aF ?_ ?_|exact bA.same (aJ _)|exact dj)),0,by omega,rfl,rfl⟩
 rintro k' _ _ ⟨j,hj,rfl,rfl⟩ Q1 hex Y B;refine Jd.seq ?_;refine aN M ?_;refine Jd.cnd rfl (fun h1=>?_) (fun h1=>?_);rotate_left
 ·obtain rfl:j=O:=by have:=io h1;omega
  refine Jd.exitT (hex _ _ ?_);show Jb _ _ _ _ _ _;refine zX 0 0 (fr (iX (aU j gs) v (jG mx) j h)) [] [(9,.vw (fr (iX (aU j gs) v (jG mx) j h)) (v+1)),(4,.snil)] [] ?_ (by repeat' first|exact bK|refine aM ?_ ?_|exact Wk.frz_sl (off:=0) (cC _)|exact eU) aK ?_
  ·exact aJ _
  refine aN M ?_;exact Jd.ret (aw.one rfl rfl rfl)
 have e6:j<O:=by have:=gT h1;omega
 obtain⟨c,hc⟩:∃c,O-(j+1)=c:=⟨_,rfl⟩;have ea:(O:Int)-((j+1:Nat):Int)=(c:Int):=by omega
 have hg:=yL (v:=v) (gs:=gs) (lo:=1) (i:=j+1) (O:=O) (by omega) (by omega);rw[hc]at hg;obtain⟨tl,tt⟩:=AG c (n:=j+1) (gs:=gs) (v:=v) (by rw[show j+1+c=O by omega];exact hT);have b9:(h.drop c).length=h.length-c:=Rw ..;have hs:=yP (n:=j+1) (v:=v) (gs:=qm gs c) (h:=h.drop c) ⟨tl,by dsimp only;omega,v8,by dsimp only;rw[b9];omega⟩;have dl:(fun x=>tot 0 (qm gs c) (h.drop c++[x]))=aU O gs (j+1) (h.drop c):=by funext x;unfold aU;rw[tt 0,SK,hc]
 have ec:(is h).drop c=is (h.drop c):=by simp[is,aCl]
 rw[dl]at hs;simp only[bp]at hs;rw[b9]at hs;unfold fO at hg hs;have b7:Nat.ble c h.length=true:=aX (by omega);have hm:=hM (j+1) (h.drop c);have A:jS (aU O gs) v h (j+1)=if 0<aZ (aU O gs (j+1) (h.drop c)) v then jD (aU O gs (j+1) (h.drop c)) v else jS (aU O gs) v h j:=by rw[show c=h.length-j by omega];rfl
 obtain⟨e0,bj⟩:∃l,jS (aU O gs) v h j=l:=⟨_,rfl⟩;obtain⟨es,Z⟩:∃l,jS (aU O gs) v h (j+1)=l:=⟨_,rfl⟩;obtain⟨os,b0⟩:∃l,n7 (aU O gs) v (jG mx) h (j+1)=l:=⟨_,rfl⟩;obtain⟨qo,a4⟩:∃l,n7 (aU O gs) v (jG mx) h (j+1+1)=l:=⟨_,rfl⟩;have cd:e0.length=v+1:=by rw[<-bj];exact cb j
 have N:es.length=v+1:=by rw[<-Z];exact cb (j+1)
 have c6:os.length=v+1:=by rw[<-b0];exact lY _ _ _ _ _
 have U:qo.length=v+1:=by rw[<-a4];exact lY _ _ _ _ _
 have a2:e0.length=es.length:=cd.trans N.symm;have an:os.length=qo.length:=c6.trans U.symm;rw[bj,Z]at A;have a6:=ca (j+1);rw[Z]at a6;have c7:∀i,i<v+1->∃u e,os[i]?=some u/\es[i]?=some e/\QB 966 u/\QB 128 e/\qo[i]?=some (u+(jG mx).getD (j+1) 0*e):=fun i hi=>by obtain⟨e,he⟩:∃e,es[i]?=some e:=⟨_,bY (by omega)⟩;refine⟨uo (aU O gs) v (jG mx) h i (j+1),e,by rw[<-b0,rk hi],he,eo i _ (by omega),a6 e (eQ he),?_⟩;rw[<-a4,rk hi];show some (uo (aU O gs) v (jG mx) h i (j+1)+(jG mx).getD (j+1) 0*(jS (aU O gs) v h (j+1)).getD i 0)=_;rw[Z,eM (l:=es),he];rfl
 rw[b0,bj];generalize aU O gs (j+1) (h.drop c)=C at hs A hm;obtain⟨S,hS⟩:∃S,aZ C v=S:=⟨_,rfl⟩;have du:=gJ hm v;rw[hS]at hs A du;obtain⟨cl,bf⟩:∃l,kM v C=l:=⟨_,rfl⟩;have b8:cl.length=v+1:=by rw[<-bf,xC]
 rw[bf,b8]at hs;refine Jd.skipT ?_;refine Jd.seq (Jd.block ?_);clear hex;have e2:j+1<O+1:=by omega
 refine dr M [] (ax @AA (ax @ea (ax @ec (ax @b7 (ax @hg (ax @c2 (ax @hs @iO))))))) ?_;refine Jd.seq ?_;refine f6 M ?_;show Jb _ _ _ _ _ _;refine Jd.loopB (fun k' g s=>∃i:Nat,i+k'=v+1/\g=⟨195,127,Tr.of [(15,.i .i64 (i:Int)),(14,.i .i64 S),(13,.vw (is cl) (v+1)),(12,.i .i64 ((j+1:Nat):Int)),(10,.sl 1 0 (v+1) (v+1)),(9,.sl 0 0 (v+1) (v+1)),(7,.vw (eP v O gs 1) (O+1)),(6,.i .i64 (O:Int)),(5,.i .i64 (v:Int)),(4,.snil),(2,.vp [.i .i64 (O:Int),.i .i64 (v:Int),.vw (br gs) gs.length,.i .i64 k,.b am.neg,am.n,am.d,aP mx] 0),(1,bp h)],none,[]⟩/\s=St.of [(1,some (.cells (fr (da e0 es i)) 31 false)),(0,some (.cells (fr (da os qo i)) 31 false))] 2) (v+1) ?_ ?_
 ·exact⟨_,_,(d9 2 [0,1] [(15,.i .i64 ((0:Nat):Int)),(14,.i .i64 S),(13,.vw (is cl) (v+1)),(12,.i .i64 ((j+1:Nat):Int)),(10,.sl 1 0 (v+1) (v+1)),(9,.sl 0 0 (v+1) (v+1)),(7,.vw (eP v O gs 1) (O+1)),(6,.i .i64 (O:Int)),(5,.i .i64 (v:Int)),(4,.snil),(2,.vp [.i .i64 (O:Int),.i .i64 (v:Int),.vw (br gs) gs.length,.i .i64 k,.b am.neg,am.n,am.d,aP mx] 0),(1,bp h)] [(1,some (.cells (fr (da e0 es 0)) 31 false)),(0,some (.cells (fr (da os qo 0)) 31 false))] (by repeat' first|exact bK|refine aM ?_ ?_|exact(by rw[f7];exact bA.same (aJ _))|exact Wk.bare y|exact eU) (by repeat' first|exact aK|refine aF ?_ ?_|exact(by rw[f7];exact bA.same (aJ _))|exact dj)),0,by omega,rfl,rfl⟩
 rintro k3 _ _ ⟨i,hi,rfl,rfl⟩ Q3 a7 ez ch;refine Jd.seq ?_;refine aN M ?_;refine Jd.cnd rfl (fun h2=>?_) (fun h2=>?_);rotate_left
 ·obtain rfl:i=v+1:=by have:=io h2;omega
  refine Jd.exitT (a7 _ _ ?_);refine bW.norm ?_;show Jb _ _ _ _ _ _;rw[<-U,lZ an,U,<-N,lZ a2,N];have bn:((j+1:Nat):Int)+1=((j+1+1:Nat):Int):=by omega
  refine rq M @bn ?_;refine B _ _ ⟨k'-1,_,_,by omega,(d9 2 [0,1] [(12,.i .i64 ((j+1+1:Nat):Int)),(10,.sl 1 0 (v+1) (v+1)),(9,.sl 0 0 (v+1) (v+1)),(7,.vw (eP v O gs 1) (O+1)),(6,.i .i64 (O:Int)),(5,.i .i64 (v:Int)),(4,.snil),(2,.vp [.i .i64 (O:Int),.i .i64 (v:Int),.vw (br gs) gs.length,.i .i64 k,.b am.neg,am.n,am.d,aP mx] 0),(1,bp h)] [(1,some (.cells (fr (jS (aU O gs) v h (j+1))) 31 false)),(0,some (.cells (fr (n7 (aU O gs) v (jG mx) h (j+1+1))) 31 false))] (by repeat' first|exact bK|refine aM ?_ ?_|exact(by rw[a4];exact bA.same (aJ _))|exact(by rw[Z];exact bA.same (aJ _))|exact Wk.bare y|exact eU) (by repeat' first|exact aK|refine aF ?_ ?_|exact(by rw[a4];exact bA.same (aJ _))|exact(by rw[Z];exact bA.same (aJ _))|exact dj)),j+1,by omega,rfl,rfl⟩
 have J:i<v+1:=by have:=gT h2;omega
 obtain⟨u,e,et,ed,eL,cf,bd⟩:=c7 i J;obtain⟨x,hx⟩:∃x,mx[j+1]?=some x:=⟨_,bY (by omega)⟩;have b6:=bB x (eQ hx);have dd:=a3 x (eQ hx);have eO:(jG mx).getD (j+1) 0=x.q:=by rw[eM];simp[jG,hx]
 rw[eO]at bd;refine Jd.skipT ?_;refine Jd.seq (Jd.block ?_);clear a7;have eb:cl[i]?=some (C (i:Int)):=by rw[<-bf];unfold kM;rw[mT,MT J];rfl
 have dh:=hm (i:Int);refine Jd.cut ⟨195,127,Tr.of [(15,.i .i64 (i:Int)),(14,.i .i64 S),(13,.vw (is cl) (v+1)),(12,.i .i64 ((j+1:Nat):Int)),(10,.sl 1 0 (v+1) (v+1)),(9,.sl 0 0 (v+1) (v+1)),(7,.vw (eP v O gs 1) (O+1)),(6,.i .i64 (O:Int)),(5,.i .i64 (v:Int)),(4,.snil),(2,.vp [.i .i64 (O:Int),.i .i64 (v:Int),.vw (br gs) gs.length,.i .i64 k,.b am.neg,am.n,am.d,aP mx] 0),(1,bp h)],none,[]⟩ (St.of [(1,some (.cells (fr (da e0 es (i+1))) 31 false)),(0,some (.cells (fr (da os qo i)) 31 false))] 2) ?_ fun Q2 a9 _ _=>?_;rotate_left
 ·refine aN M ?_;refine Jd.cnd rfl (fun h3=>?_) (fun h3=>?_);rotate_left
  ·have h3:=io h3;rw[iF h3]at A;have cu:∀i,da e0 e0 i=e0:=fun i=>by simp[da]
   exact Jd.skip (a9 _ _ (d9 2 [0,1] [(15,.i .i64 (i:Int)),(14,.i .i64 S),(13,.vw (is cl) (v+1)),(12,.i .i64 ((j+1:Nat):Int)),(10,.sl 1 0 (v+1) (v+1)),(9,.sl 0 0 (v+1) (v+1)),(7,.vw (eP v O gs 1) (O+1)),(6,.i .i64 (O:Int)),(5,.i .i64 (v:Int)),(4,.snil),(2,.vp [.i .i64 (O:Int),.i .i64 (v:Int),.vw (br gs) gs.length,.i .i64 k,.b am.neg,am.n,am.d,aP mx] 0),(1,bp h)] [(1,some (.cells (fr (da e0 es (i+1))) 31 false)),(0,some (.cells (fr (da os qo i)) 31 false))] (by repeat' first|exact bK|refine aM ?_ ?_|exact Wk.bare y|exact eU) (by repeat' first|exact aK|refine aF ?_ ?_|exact bA.same (aJ _)|exact bA.cells (by rw[bt _ _ (aJ _),A,cu,cu])|exact dj)))
  have h3:=gT h3;rw[oR h3]at A;have hq:es[i]?=some (((C (i:Int):Int):Rat)/((S:Int):Rat)):=by rw[A];unfold jD;rw[mT,MT J,hS];rfl
  have cp:=aj (pp (a:=C (i:Int)) (b:=S) dh.1 (by omega) h3 (by omega));have eF:=gp (qs:=da e0 es i) (i:=i) (by rw[fC a2 (by omega)];omega) (((C (i:Int):Int):Rat)/((S:Int):Rat));rw[jY a2 hq]at eF;have ad:(fr (da e0 es i)).length=(v+1)*3:=by rw[iv,fC a2 (by omega),N]
  refine rq M (ax (rM eb) (ax @c3 (ax @cp (ax @eF (ax @ad @iO))))) ?_;exact a9 _ _ (d9 2 [0,1] [(15,.i .i64 (i:Int)),(14,.i .i64 S),(13,.vw (is cl) (v+1)),(12,.i .i64 ((j+1:Nat):Int)),(10,.sl 1 0 (v+1) (v+1)),(9,.sl 0 0 (v+1) (v+1)),(7,.vw (eP v O gs 1) (O+1)),(6,.i .i64 (O:Int)),(5,.i .i64 (v:Int)),(4,.snil),(2,.vp [.i .i64 (O:Int),.i .i64 (v:Int),.vw (br gs) gs.length,.i .i64 k,.b am.neg,am.n,am.d,aP mx] 0),(1,bp h)] [(1,some (.cells (fr (da e0 es (i+1))) 31 false)),(0,some (.cells (fr (da os qo i)) 31 false))] (by repeat' first|exact bK|refine aM ?_ ?_|exact Wk.bare y|exact eU) (by repeat' first|exact aK|refine aF ?_ ?_|exact bA.same (aJ _)|exact dj))
 have hge:(da e0 es (i+1))[i]?=some e:=by unfold da;rw[aAp (by simp;omega),aBD,oR (by omega),ed]
 have B:getR (fr (da os qo i)) (i*3) 3=some (ai u):=i6 ((uQ an (by omega)).trans et);have cx:=aj (df (·*·) (lX b6.v) (bu (aO cf (by omega))));simp only[rC]at cx;have dv:=aj (fM (·+·) (aO eL (by omega)) (aO (dd.mul cf) (by omega)));have bm:getR (KP mx) ((j+1)*3) 3=some [.b x.neg,x.n,x.d]:=AQ hx;have eF:=gp (qs:=da os qo i) (i:=i) (by rw[fC an (by omega)];omega) (u+x.q*e);rw[jY an bd]at eF;have ad:(fr (da os qo i)).length=(v+1)*3:=by rw[iv,fC an (by omega),U]
 have e4:j+1<mx.length:=by omega
 have eh:(i:Int)+1=((i+1:Nat):Int):=by omega
 apply Jd.drwQ M [(18,5)] (by kernel_rfl);(· intro K gl al hK;simp only[sv]at al;subst al;simp (maxSteps:=1000000) (disch:=omega) only[↓nD,↓nC,nB,Nat.reduceEqDiff,↓reduceIte,Nat.reduceLT,Nat.reduceAdd,iT,ij,Cc,NE,NO,iO, bm,i6 hge,B,c4,c5,cx,dv,eF,ad,iO];exact hK)
 refine bW.norm ?_;show Jb _ _ _ _ _ _;refine rq M @eh ?_;refine ch _ _ ⟨k3-1,_,_,by omega,(d9 2 [0,1] [(15,.i .i64 ((i+1:Nat):Int)),(14,.i .i64 S),(13,.vw (is cl) (v+1)),(12,.i .i64 ((j+1:Nat):Int)),(10,.sl 1 0 (v+1) (v+1)),(9,.sl 0 0 (v+1) (v+1)),(7,.vw (eP v O gs 1) (O+1)),(6,.i .i64 (O:Int)),(5,.i .i64 (v:Int)),(4,.snil),(2,.vp [.i .i64 (O:Int),.i .i64 (v:Int),.vw (br gs) gs.length,.i .i64 k,.b am.neg,am.n,am.d,aP mx] 0),(1,bp h)] [(1,some (.cells (fr (da e0 es (i+1))) 31 false)),(0,some (.cells (fr (da os qo (i+1))) 31 false))] (by repeat' first|exact bK|refine aM ?_ ?_|exact Wk.bare y|exact eU) (by repeat' first|exact aK|refine aF ?_ ?_|exact bA.same (aJ _)|exact dj)),i+1,by omega,rfl,rfl⟩
end Go.Proofs.YtfoceannfdbinaaGreat
