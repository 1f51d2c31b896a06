/- Lemmas. -/
import Derived.Test.YtfoceannfdbinaaGreatW22
set_option linter.all false
set_option maxRecDepth 1000000
set_option maxHeartbeats 32000000
namespace Go.Proofs.YtfoceannfdbinaaGreat
open Go.RowKit
theorem wG w(n:Nat)(hn:n<18446744073709551616): Calls Tryz.prog 77 #[.int .u64 (n:Int)] w fun e w'=>∃j,e=.returned j/\ae w' j n/\Below w.heap.size w w':=by
 go_enter Tryz.func77,Tryz.ntmps77;go_wp2_with fail;have y:=(cg.new w 178 [Value.int .u32 ((n:Int)%4294967296),Value.int .u32 ((n:Int)/4294967296)]).sl (sz:=1) (n:=2) (c:=2) (by simp) (by omega) (by unfold maxLen;omega);have B:val [n%4294967296,n/4294967296]=n:=by simp only[val];omega
 have A:Ok [n%4294967296,n/4294967296]:=by rw[Ok.cons,Ok.cons];exact⟨by omega,by omega,Ok.nil⟩
 refine(lQ _ _ [n%4294967296,n/4294967296] ⟨?_,A⟩).mono ?_
 ·simpa [dg]using y
 rintro e C ⟨u,j,rfl,x,_,_⟩;cases u;rw[B]at x;clear y B A;go_wp2;go_ret;exact⟨j,rfl,x,(Below.refl _ w).alloc (cC _) _⟩

theorem Nh w(n:Nat)(hn:n<9223372036854775808): Calls Tryz.prog 78 #[.int .i64 (n:Int)] w fun e w'=>w'=w/\e=.returned (.int .u64 (n:Int)):=by have j:decide ((n:Int)<0)=false:=iS (by omega);go_enter Tryz.func78,Tryz.ntmps78;go_wp2_with fail;go_ret;exact⟨rfl,rfl⟩
theorem tT w va vb a b(ha:ae w va a)(hb:ae w vb b): Calls Tryz.prog 76 #[va,vb] w fun e w'=>Below w.heap.size w w'/\e=.returned (.bool (decide (a=b))):=by
 obtain⟨l,dl,tl,rfl⟩:=ha;obtain⟨m,dm,tm,rfl⟩:=hb;obtain⟨U,A,ca,rfl,ad,a1,hA⟩:=dl.open_;obtain⟨Y,B,cb,rfl,al,am,hB⟩:=dm.open_;have u:Hid (val l=val m↔l=m):=aS ⟨fun h=>dQ.eq_of_val U Y tl tm h,fun h=>by rw[h]⟩;clear dl dm tl tm U Y;have HA:=aS hA;have HB:=aS hB;clear hA hB;obtain⟨n,hn⟩:∃n,l.length=n:=⟨_,rfl⟩;obtain⟨p,hp⟩:∃p,m.length=p:=⟨_,rfl⟩;rw[hn]at ad⊢;rw[hp]at al⊢;have HN:=aS hn;have HQ:=aS hp;clear hn hp;by_cases j:n=p
 ·subst j;go_enter Tryz.func76,Tryz.ntmps76;go_wp2_with fail;go_loopg [5] n (fun g i wr=>∃(k:Nat),(∃d,wr=w.drewN d)/\i=.int .i64 k/\k+g=n/\Hid (l.take k=m.take k))
  case atStart=>exact⟨0,⟨0,rfl⟩,rfl,by omega,aS (by simp)⟩
  obtain⟨k,⟨nd,rfl⟩,rfl,hk,HD⟩:=hrel;rcases lE gk with h|h
  ·obtain rfl:k=n:=by omega
   have HT:Hid (decide (val l=val m)=true):=aS (lT (u.out.2 (by
    have:=HD.out
    rwa [Ge (by rw[HN.out];exact cC _),Ge (by rw[HQ.out];exact cC _)]at this)))
   go_wp2_with fail;go_ret;exact⟨a8 (Below.refl _ _) _,aV HT.out.symm⟩
  obtain⟨g,rfl⟩:∃g,gk=g+1:=⟨gk-1,by omega⟩;have C:k<l.length:=by rw[HN.out];omega
  have J:k<m.length:=by rw[HQ.out];omega
  obtain⟨x,hx⟩:∃x,l[k]?=some x:=⟨_,bY C⟩;obtain⟨y,hy⟩:∃y,m[k]?=some y:=⟨_,bY J⟩;obtain⟨b,off,rfl,hc⟩:∃b off,A=some ⟨b,off,none⟩/\w.cell? ⟨b,off+k,none⟩=some (.int .u32 (x:Int)):=by
   rcases HA.out with h|⟨b,off,h,_,hc⟩
   ·subst h;simp at C
   exact⟨b,off,h,hc k x hx⟩
  obtain⟨b',av,rfl,a0⟩:∃b off,B=some ⟨b,off,none⟩/\w.cell? ⟨b,off+k,none⟩=some (.int .u32 (y:Int)):=by
   rcases HB.out with h|⟨b,off,h,_,hc⟩
   ·subst h;simp at J
   exact⟨b,off,h,hc k y hy⟩
  have HX:=aS hx;have HY:=aS hy;clear hx hy C J;by_cases N:x=y
  ·subst N;have j:((x:Int) != (x:Int))=false:=by simp
   go_wp2_with fail;go_quiet (fail);go_wp2_with fail;go_roundg g
   case measure=>omega
   case rel=>exact⟨k+1,⟨_,rfl⟩,rfl,by omega,aS (by rw[aY l HX.out,aY m HY.out,HD.out])⟩
  have j:((x:Int) != (y:Int))=true:=by simp;omega
  have HF:Hid (decide (val l=val m)=false):=aS (iS (fun h=>N (by
   have:=u.out.1 h;have Z:=HX.out;rw[this,HY.out]at Z;injection Z with Z
   exact Z.symm)))
  go_wp2_with fail;go_quiet (fail);go_wp2_with fail;go_ret;exact⟨a8 (a8 (Below.refl _ _) _) _,aV HF.out.symm⟩
 have an:((n:Int) != (p:Int))=true:=by simp;omega
 have HF:Hid (decide (val l=val m)=false):=aS (iS (fun h=>j (by rw[<-HN.out,<-HQ.out,u.out.1 h])));go_enter Tryz.func76,Tryz.ntmps76;go_wp2_with fail;go_ret;exact⟨Below.refl _ _,aV HF.out.symm⟩
theorem Ez l(h:Ok l)k:val l/4294967296^k=val (l.drop k):=by
 rcases By l.length k with u|u
 ·have j:=gj l h;have x:4294967296^l.length<=4294967296^k:=OK (by omega) (by omega);rw[AS (by omega),aBe (by omega)];rfl
 have e:=jd l k u;have j:=gj _ (h.take k);rw[Io,aAO u]at j;rw[e,aCg _ _ (aAg (by omega)),aBe j];omega
theorem xx(l:List Nat)k:∃t,val (l.drop k)=l.getD k 0+4294967296*t:=by
 rcases By k l.length with j|j
 ·refine⟨val (l.drop (k+1)),?_⟩;rw[AT j,eM,bY j];rfl
 refine⟨0,?_⟩;rw[AS j,eM,As.2 j];rfl
theorem NY k r:2^(32*k+r)=4294967296^k*2^r:=by rw[aBT,aDq]
theorem yH{r}(j:r<32):(4294967296:Nat)=2^(r+1)*2^(31-r):=by rw[<-aBT,show r+1+(31-r)=32 by omega]

theorem Ul{l}(h:Ok l){k r x}(y:l.getD k 0=x)(j:r<32):val l/2^(32*k+r)%2=x/2^r%2:=by
 obtain⟨t,u⟩:=xx l k;rw[NY,<-Nat.div_div_eq_div_mul,Ez l h,u,y];have e:4294967296*t=2^r*(2*(2^(31-r)*t)):=by
  conv=>lhs;rw[yH j,Lt]
  grind
 rw[e,aCg _ _ (aDE r)];omega

theorem R3{o}(h:Ok o){k r q d}(N:r<32)(J:k<o.length)(U:val o=q*2^(32*k+r+1))(hd:o.getD k 0=d): d |||2^r=d+2^r/\d+2^r<4294967296/\val (o.set k (d+2^r))=val o+2^(32*k+r):=by
 have C:d<4294967296:=by rw[<-hd];exact h.getD k
 obtain⟨t,x⟩:=xx o k;have e0:=Ez o h k;rw[hd]at x;rw[U,x,show 32*k+r+1=32*k+(r+1)by omega,NY,show q*(4294967296^k*2^(r+1))=4294967296^k*(q*2^(r+1))by grind,aDd _ (aAg (by omega))]at e0;have hs:=yH N;obtain⟨c,B⟩:2^(r+1)∣d:=by
  have y:2^(r+1)∣d+4294967296*t:=⟨q,by rw[<-e0];grind⟩
  have A:2^(r+1)∣4294967296*t:=⟨2^(31-r)*t,by
   conv=>lhs;rw[hs]
   rw[aDo]⟩
  exact(Nat.dvd_add_iff_left A).2 y
 have hp:2^r<2^(r+1):=Nat.pow_lt_pow_right (by omega) (by omega);have j:c<2^(31-r):=by
  rcases By c (2^(31-r))with h|h
  ·exact h
  have:=Tk (2^(r+1)) h;omega
 refine⟨?_,?_,?_⟩
 ·rw[B,Nat.or_comm,wB hp,aDg]
 ·have:=Tk (2^(r+1)) (show c+1<=2^(31-r)from j);rw[Nat.mul_add,aAZ,<-hs]at this;omega
 have u:o[k]?=some d:=by rw[<-hd,eM,bY J];rfl
 have e:=Ip (d+2^r) u;rw[NY]
 grind

def mq(A b R:Nat)(o:List Nat)(n j:Nat):Prop:=Ok o/\o.length=n/\val o=A/2^j/b*2^j/\R=A/2^j%b
theorem mq.start{A b n j}(u:A<2^j):mq A b 0 (List.replicate n 0) n j:= ⟨Ok.replicate _,by simp,by rw[gy,aBe u];simp,by rw[aBe u];simp⟩
theorem mq.done{A b R n o}(h:mq A b R o n 0):val o=A/b/\R=A%b:=by obtain⟨_,_,j,u⟩:=h;simpa using aT j u
theorem JE A i:A/2^i=2*(A/2^(i+1))+A/2^i%2:=by
 have:A/2^(i+1)=A/2^i/2:=by rw[Lt,Nat.div_div_eq_div_mul]
 omega
theorem mq.skip{A b R n i c o}(h:mq A b R o n (i+1))(C:A/2^i%2=c)(hlt:R+R+c<b):mq A b (R+R+c) o n i:=by
 obtain⟨u,x,y,B⟩:=h;have e:=JE A i;rw[C]at e;have J:=aCd (A/2^(i+1)) b;generalize A/2^(i+1)=X at *;have j:A/2^i=b*(2*(X/b))+(R+R+c):=by rw[e,B];grind
 refine⟨u,x,?_,?_⟩
 ·rw[j,aDA (by omega),aBe hlt,y,Lt]
  grind
 rw[j,aDB,aBE hlt]
theorem mq.step{A b R n k r c d o}(h:mq A b R o n (32*k+r+1))(N:r<32)(hk:k<n)(C:0<b)(J:A/2^(32*k+r)%2=c)(hge:b<=R+R+c)(hd:o.getD k 0=d): d |||2^r=d+2^r/\mq A b (R+R+c-b) (o.set k (d+2^r)) n (32*k+r):=by
 obtain⟨u,y,x,B⟩:=h;obtain⟨s1,s2,U⟩:=R3 u N (by omega) x hd;refine⟨s1,u.set _ _ s2,by simpa using y,?_,?_⟩
 all_goals
  have e:=JE A (32*k+r);rw[J]at e;have Y:=aCd (A/2^(32*k+r+1)) b;have Z:R<b:=by rw[B];exact aBv _ C
  have hlt:R+R+c-b<b:=by omega
  generalize A/2^(32*k+r+1)=X at *;have j:A/2^(32*k+r)=b*(2*(X/b)+1)+(R+R+c-b):=by
   rw[e];obtain⟨T,hT⟩:∃T,R+R+c=b+T:=⟨R+R+c-b,by omega⟩;rw[hT,aAY]
   grind
 ·rw[U,x,j,aDA (by omega),aBe hlt,Lt]
  grind
 rw[j,aDB,aBE hlt]
theorem ae.digit1(w:World)e(d:Nat)(j:d≠0)(hd:d<4294967296):ae (w.alloc (.cells #[.int .u32 (d:Int)] e)) (.slice (some ⟨w.heap.size,0,none⟩) 1 1) d:= ⟨[d],⟨Sl.one _ _ _,Ok.cons.2 ⟨hd,Ok.nil⟩⟩,by simpa [dQ]using j,by simp[val]⟩

theorem Um r{x:Nat}(u:x<4294967296):bits .and .u32 ((x:Int)/2^r) 1=((x/2^r%2:Nat):Int):=by
 have j:(x:Int)/2^r=((x/2^r:Nat):Int):=by rw[aBV,aCU];rfl
 rw[j];exact Ec (If (aCe _ _) u)
theorem Wc{r y:Nat}(x:r<32)(h:y |||2^r=y+2^r)(hy:y<4294967296):bits .or .u32 (y:Int) (2^r%4294967296)=((y+2^r:Nat):Int):=by
 have u:2^r<4294967296:=TK (Nat.pow_lt_pow_right (by omega) x) (by decide);have j:(2:Int)^r%4294967296=((2^r:Nat):Int):=by rw[show(2:Int)^r=((2^r:Nat):Int)by rw[aCU];rfl];generalize 2^r=z at *;omega
 rw[j,u32_or_nat y _ hy u,h]
theorem BT{l}(h:Ok l){bl}(j:fe (val l)=bl):bl<=32*l.length:=by rw[<-j];exact xL (by rw[aDq];exact gj l h)

theorem JS w va vb a b k(ha:ae w va a)(hb:ae w vb b)(la:a<2^k)(lb:b<2^k)(hk:k<=17592186044416)(b3:0<b): Calls Tryz.prog 129 #[va,vb] w fun e w'=>∃vq vr,e=.returned (.tuple #[vq,vr])/\ae w' vq (a/b)/\ae w' vr (a%b)/\Below w.heap.size w w'/\bP vq w.heap.size/\bP vr w.heap.size:=by
 have TA:Hid (∀W,W=w->Calls Tryz.prog 70 #[va] W fun e w'=>w'=W/\e=.returned va):=aS (fun W e=>by rw[e];exact CA w va a ha);have TB:Hid (∀W,W=w->Calls Tryz.prog 70 #[vb] W fun e w'=>w'=W/\e=.returned vb):=aS (fun W e=>by rw[e];exact CA w vb b hb);have NA:=aS ha;have NB:=aS hb;have LA:=aS la;have LB:=aS lb;obtain⟨l,dl,tl,rfl⟩:=ha;obtain⟨m,dm,tm,rfl⟩:=hb;have ll:=tl.length_le la;clear la lb;obtain⟨ch,A,ca,rfl,db,eo,hA⟩:=dl.open_;obtain⟨cm,B,cb,rfl,dd,dv,hB⟩:=dm.open_;clear dl dm;have HA:=aS hA;have HB:=aS hB;have HO:=aS ch;have HP:=aS cm;have HT:=aS tl;have HU:=aS tm;clear hA hB ch cm tl tm;obtain⟨n,hn⟩:∃n,l.length=n:=⟨_,rfl⟩;obtain⟨p,hp⟩:∃p,m.length=p:=⟨_,rfl⟩;rw[hn]at db ll TA NA⊢;rw[hp]at dd TB NB⊢;have HN:=aS hn;have HQ:=aS hp;clear hn hp;have a6:=aS b3;clear b3;obtain⟨i0,hi,bx,cd,cf⟩:=aBn fi;by_cases dn:p=1
 ·subst dn;obtain⟨d,rfl⟩:∃d,m=[d]:=List.length_eq_one_iff.1 HQ.out;have c9:d<4294967296:=HP.out.get (k:=0) rfl;have c8:0<d:=by have:=a6.out;simpa [val]using this
  have HM:Hid (val [d]=d):=aS (by simp[val]);obtain⟨bB,a5,rfl,b4,a4⟩:∃b off,B=some ⟨b,off,none⟩/\b<w.heap.size/\w.cell? ⟨b,off,none⟩=some (.int .u32 (d:Int)):=by
   rcases HB.out with h|⟨b,off,h,h1,h2⟩
   ·cases h
   exact⟨b,off,h,h1,h2 0 d rfl⟩
  go_enter Tryz.func129,Tryz.ntmps129;go_wp2_with fail;refine(TA.out _ rfl).mono ?_;rintro e w1 ⟨U,rfl⟩;cases U;go_wp2_with fail;refine(TB.out _ rfl).mono ?_;rintro e w1 ⟨U,rfl⟩;cases U;go_wp2_with (at_make;refine bH rfl _ _ 29 rfl 178 i0 (.int .u32 0) 4 Tryz.underlying29 hi bx cd cf rfl .i64 .i64 _ _ n rfl rfl (by omega) (by omega) (by omega) (by unfold maxLen;omega) ?_);intro w1 N u;go_wp2_with fail;go_loopw [7,8] (fun r i wr=>∃(q:Int)(k rr:Nat)(o:List Nat),i=.int .i64 q/\r=.int .u64 rr/\q+1=k/\k<=n/\kF l o d k rr/\DB wr w.heap.size o/\Below w.heap.size w wr) (fun _ i _=>(intOf i+1).toNat)
  case atStart=>exact⟨_,n,0,List.replicate l.length 0,rfl,rfl,by omega,by omega,HN.out▸kF.start l c8,DB.of_blk (e:=178) (by rw[HN.out];simpa [dg]using N),u⟩
  obtain⟨q,k',rr,o,rfl,rfl,hq,ey,hs,av,u⟩:=hrel;have ho:=hs.2.1;rw[HN.out]at ho;have HL:=aS ho;have HS:=aS hs;have am:=aS av;have eV:=hs.2.2.1;clear ho N hs;rcases lE k' with h0|h0
  ·subst h0;obtain rfl:q = -1:=by omega
   clear hq;have DN:=aS HS.out.done;have HD:=aS (am.out.digAt HS.out.1 (n:=n) (c:=n) (by rw[HL.out]) (cC _) (by omega));have an:=aS u;clear u av;have eb:(rr:Int)%4294967296=rr:=by omega
   go_wp2_with fail;refine(lQ wr _ o HD.out).mono ?_;rintro e w2 ⟨Y,vq,rfl,t1,t2,_⟩;cases Y;have T1:=aS t1;have F1:=aS (t2.from (B:=w.heap.size) (fun ad n' c' e=>by cases e;exact cC _));clear t1 t2;go_wp2_with fail;refine(lQ _ _ [rr] ⟨Sl.one _ _ _,Ok.cons.2 ⟨by omega,Ok.nil⟩⟩).mono ?_;rintro e w2 ⟨Y,vr,rfl,t1,t2,_⟩;cases Y;have T2:=aS t1;have F2:=aS (t2.from (B:=wr.heap.size) (fun ad n' c' e=>by cases e;exact cC _));clear t1 t2;go_wp2_with fail;go_ret2;have hz:=an.out.size;exact⟨vq,vr,rfl,by rw[HM.out,<-DN.out.1];exact T1.out.alloc _,by rw[HM.out,<-DN.out.2];have:=T2.out;simpa [val]using this,an.out.alloc hz _,F1.out,F2.out.mono hz⟩
  obtain⟨k,rfl⟩:∃k,k'=k+1:=⟨k'-1,by omega⟩;obtain rfl:q=k:=by omega
  clear hq h0;have b6:k<l.length:=by rw[HN.out];omega
  obtain⟨x,hx⟩:∃x,l[k]?=some x:=⟨_,bY b6⟩;have a2:=HO.out.get hx;have b9:l.getD k 0=x:=by rw[eM,hx];rfl
  have bj:k<o.length:=by rw[HL.out];omega
  have hz:=av.cell bj;have et:=av.frozen k;have bf:=cI HA.out HN.out u k x b9;have J:=aS (HS.out.step c9 hx a2);have an:=aS u;have cy:=aS bj;have ej:=(u.cell (p:=⟨bB,a5,none⟩) b4).trans a4;have b5:=(an.out.setCell (p:=⟨w.heap.size,k,none⟩) (cC _) (.int .u32 (((rr:Int)*4294967296+(x:Int))/(d:Int)%4294967296))).cell (p:=⟨bB,a5,none⟩) b4;rw[a4]at b5;clear hx b9 u av bj b6;rcases bf with⟨h1,b,off,rfl,hb,eh⟩|⟨h1,hx⟩
  ·have eO:=Wd rr x (by omega) a2;go_wp2_with fail;exact⟨⟨_,k,_,_,rfl,gn (zZ _ _ _),by omega,by omega,J.out.1,am.out.set cy.out (z6 _ _ _ J.out.2),an.out.setCell (p:=⟨w.heap.size,k,none⟩) (cC _) _⟩,by simp[intOf]⟩
  omega
 have ea:((p:Int) == 1)=false:=by simp;omega
 go_enter Tryz.func129,Tryz.ntmps129;go_wp2_with fail;refine(TA.out _ rfl).mono ?_;rintro e w1 ⟨U,rfl⟩;cases U;go_wp2_with fail;refine(TB.out _ rfl).mono ?_;rintro e w1 ⟨U,rfl⟩;cases U;go_wp2_with (at_make;refine bH rfl _ _ 29 rfl 178 i0 (.int .u32 0) 4 Tryz.underlying29 hi bx cd cf rfl .i64 .i64 _ _ n rfl rfl (by omega) (by omega) (by omega) (by unfold maxLen;omega) ?_);intro w1 N u;go_wp2_with fail;refine(YD w1 _ _ k (NA.out.below u) LA.out (by omega)).mono ?_;rintro e w2 ⟨Y,rfl⟩;cases Y;have ef:=xL LA.out;have BL:=aS (OS (val l));have b0:Hid (fe (val l)=fe (val l)):=aS rfl;generalize a3:fe (val l)=bl at *;have cu:=aS a3;clear a3 b0;go_wp2_with fail;go_loopg [9,10] bl (fun g rv i wr=>∃(q:Int)(R:Nat)(o:List Nat),i=.int .i64 q/\q+1=g/\g<=bl/\Hid (ae wr rv R/\bP rv (w.heap.size+1))/\Hid (mq (val l) (val m) R o n g)/\Hid (DB wr w.heap.size o)/\Hid (Below w.heap.size w wr))
 case atStart=>exact⟨_,0,List.replicate n 0,rfl,by omega,cC _,aS ⟨ae.nil_ _,bP.nil_ _⟩,aS (mq.start BL.out),aS (DB.of_blk (e:=178) (by simpa [dg]using N)),aS u⟩
 clear N u;obtain⟨q,R,o,rfl,hq,hg,HR,C,am,a7⟩:=hrel;rcases lE gk with h|h
 ·subst h;obtain rfl:q = -1:=by omega
  have DN:=aS C.out.done;have HD:=aS (am.out.digAt C.out.1 (n:=n) (c:=n) C.out.2.1 (cC _) (by omega));go_wp2_with fail;refine(lQ wr _ o HD.out).mono ?_;rintro e w2 ⟨Y,vq,rfl,t1,t2,_⟩;cases Y;have T1:=aS t1;have F1:=aS (t2.from (B:=w.heap.size) (fun ad n' c' e=>by cases e;exact cC _));clear t1 t2;go_wp2_with fail;go_ret2;exact⟨vq,_,rfl,by rw[<-DN.out.1];exact T1.out,by rw[<-DN.out.2];exact HR.out.1,a7.out,F1.out,HR.out.2.mono (by omega)⟩
 obtain⟨j,rfl⟩:∃j,gk=j+1:=⟨gk-1,by omega⟩;obtain rfl:q=j:=by omega
 clear hq h;obtain⟨Z,r,hj,hr⟩:∃Z r,j=32*Z+r/\r<32:=⟨j/32,j%32,by omega,by omega⟩;have er:(j:Int)/32=(Z:Int):=by omega
 have ez:(j:Int)%32=(r:Int):=by omega
 have HJ:=aS hj;clear hj;have du:=a7.out.size;have b8:w.heap.size<wr.heap.size:=am.out.lt;have a9:R<val m:=by rw[C.out.2.2.2];exact aBv _ a6.out
 have ed:=aS a9;have a1:Hid (R<2^k):=aS (Nat.lt_trans a9 LB.out);clear a9;obtain⟨c,hc⟩:∃c,val l/2^(32*Z+r)%2=c:=⟨_,rfl⟩;have ei:c<2:=by omega
 obtain⟨x,hx⟩:∃x,l.getD Z 0=x:=⟨_,rfl⟩;have a2:x<4294967296:=by rw[<-hx];exact HO.out.getD Z
 have cx:Hid (x/2^r%2=c):=aS (by rw[<-Ul HO.out hx hr,hc]);have b7:Z<n:=by have h1:=BT (l:=l) HO.out (bl:=bl) cu.out;rw[HN.out]at h1;have:=HJ.out;omega
 have HC:=aS hc;clear hc;go_wp2_with fail;refine(Dj wr _ _ R R k HR.out.1 HR.out.1 a1.out a1.out (by omega)).mono ?_;rintro e w2 ⟨v2,rfl,t1,t2,t3⟩;have T2:=aS t1;have B2:=aS (a7.out.trans (t2.mono du));have F2:=aS (t3.mono (show w.heap.size+1<=wr.heap.size from b8));have D2:=aS (am.out.below t2);have bn:w.heap.size+1<=w2.heap.size:=EM (show w.heap.size+1<=wr.heap.size from b8) t2.size;clear t1 t2 t3;have bf:=cI HA.out HN.out B2.out Z x hx;clear hx;rcases bf with⟨_,ba,ec,rfl,ee,en⟩|⟨h1,_⟩
 case inr=>omega
 have al:bits .and .u32 ((x:Int)/2^r) 1=(c:Int):=by rw[Um r a2,cx.out]
 rcases (show c=0∨c=1 by omega)with bd|bd
 all_goals
  have a0:=aS bd;clear bd
 case' inr=>
  have c7:(bits .and .u32 ((x:Int)/2^r) 1 == 1)=true:=by rw[al,a0.out];rfl
  clear al;go_wp2_with fail;refine(Dj _ _ _ (R+R) 1 (k+1) (T2.out.alloc _) (ae.digit1 _ _ 1 (by omega) (by omega)) (by have:=a1.out;rw[Lt];omega) (aAE (by omega)) (by omega)).mono ?_;rintro e w3 ⟨v3,rfl,t1,t2,t3⟩;rw[aAx]at t2 t3;have T3:Hid (ae w3 v3 (R+R+c)):=aS (by rw[a0.out];exact t1);have B3:=aS ((B2.out.alloc (by omega) _).trans (t2.mono (by omega)));have F3:=aS (t3.mono (show w.heap.size+1<=w2.heap.size+1 by omega));have D3:=aS ((D2.out.alloc _).below (by rw[aAx];exact t2));have bo:w.heap.size+1<=w3.heap.size:=by have:=t2.size;rw[aAx]at this;omega
  clear t1 t2 t3 T2 B2 F2 D2 bn
 case' inl=>
  have c7:(bits .and .u32 ((x:Int)/2^r) 1 == 1)=false:=by rw[al,a0.out];rfl
  clear al;have T3:Hid (ae w2 v2 (R+R+c)):=aS (by rw[a0.out];exact T2.out);have B3:=B2;have F3:=F2;have D3:=D2;have bo:=bn;clear T2 B2 F2 D2 bn;obtain⟨w3,rfl⟩:∃w3,w3=w2:=⟨_,rfl⟩;obtain⟨v3,rfl⟩:∃v3,v3=v2:=⟨_,rfl⟩
 all_goals
  have OC:=wA w3 v3 _ _ _ T3.out (NB.out.below B3.out);rcases By (R+R+c) (val m)with hlt|hge
  ·rw[ji hlt]at OC;have c4:=aS hlt;clear hlt;go_wp2_with fail;refine OC.mono ?_;rintro e w4 ⟨rfl,nd,rfl⟩;go_wp2_with fail;go_roundg j
   case measure=>omega
   case rel=>exact⟨(j:Int)-1,_,o,rfl,by omega,by omega,aS ⟨T3.out.drewN nd,F3.out⟩,aS (C.out.skip (by rw[HJ.out];exact HC.out) c4.out),aS (D3.out.drewN nd),aS (a8 B3.out nd)⟩
  obtain⟨z,hz,bx⟩:∃z,i9 (R+R+c) (val m)=z/\decide (0<=z)=true:=⟨_,rfl,lT (by unfold i9;rw[iF (by omega)];split<;>omega)⟩;rw[hz]at OC;have b2:=aS hge;clear hge hz;go_wp2_with fail;refine OC.mono ?_;rintro e w4 ⟨rfl,nd,rfl⟩;go_wp2_with fail;refine(qk _ _ _ _ _ (k+1) (T3.out.drewN nd) ((NB.out.below B3.out).drewN nd) (by have:=a1.out;rw[Lt];omega) b2.out (by omega)).mono ?_;rintro e w4 ⟨v4,rfl,t1,cp,t3⟩;have t2:=bh cp;have T4:=aS t1;have B4:=aS (B3.out.trans (t2.mono (by omega)));have F4:=aS (t3.mono (show w.heap.size+1<=w3.heap.size from bo));have D4:=aS (D3.out.below t2);clear t1 t2 cp t3 T3 B3 F3 D3 bo;have b1:Hid (mq (val l) (val m) R o n (32*Z+r+1)):=aS (by rw[<-HJ.out];exact C.out);obtain⟨y,hy⟩:∃y,o.getD Z 0=y:=⟨_,rfl⟩;have c6:Hid (y<4294967296):=aS (by rw[<-hy];exact C.out.1.getD Z);have J:=aS (b1.out.step hr b7 a6.out HC.out b2.out hy);have bm:Z<o.length:=by rw[C.out.2.1];exact b7
  have dh:=D4.out.cell bm;have eL:=D4.out.frozen Z;rw[hy]at dh;have c5:=aS bm;clear hy bm;go_wp2_with fail;go_region;go_wp2_with fail;go_roundg j
  case measure=>omega
  case rel=>exact⟨(j:Int)-1,_,o.set Z (y+2^r),rfl,by omega,by omega,aS ⟨(T4.out.setFar F4.out (show w.heap.size<w.heap.size+1 by omega) _).drew,F4.out⟩,aS (by rw[HJ.out];exact J.out.2),aS ((D4.out.set c5.out (Wc hr J.out.1 c6.out)).drewN 1),aS ((B4.out.setCell (p:=⟨w.heap.size,Z,none⟩) (cC _) _).drew)⟩
theorem nF{w ops rest o a Q}(u:o.guard=none)s x(U:o.op=.call { callee:=.builtin .append,args:=#[s,x],argTypes:=#[29,29] })(hs:a.eval s=.slice none 0 0)y(Y:a.eval x=y)n k(hn:ae w y n)(ln:n<2^k)(hk:k<=70368744177664)(h:∀A m c w',ae w' (.slice A m c) n->bP (.slice A m c) w.heap.size->Below w.heap.size w w'->wpList Tryz.prog ops Q rest (a.put o.dst (.slice A m c)) w'):wpList Tryz.prog ops Q (o::rest) a w:=by
 obtain⟨Z,hi,C,J,N⟩:=aBn fi;obtain⟨l,d,t,rfl⟩:=hn;have ll:=t.length_le ln;refine bz u s x 29 U w.heap.size 178 Z (.int .u32 0) 1 4 Tryz.underlying29 hi C J N rfl (by decide) _ 0 [] hs (aCE ..) y l.length (l.map dg) Y d.1 (qC l) (by unfold maxLen;omega) (by omega) (cC _) ?_;intro v' w' j B _;have hf:=bP.of_own j;have hN:ae w' v' (val l):=⟨l,⟨by have:=Sl.of_own j;simpa using this,d.2⟩,t,rfl⟩;obtain⟨A,m,c,rfl,_⟩:=hN.len;exact h A m c w' hN hf ((Below.refl _ w).grown B (cC _) (by simp[Value.ownBlock]))

theorem We{w v}(h:ae w v 1):Calls Tryz.prog 127 #[v] w fun e w'=>w'=w/\e=.returned (.bool true):=Wg w v 1 h
theorem Wh{w v a}(h:ae w v a)(j:a≠1):Calls Tryz.prog 127 #[v] w fun e w'=>w'=w/\e=.returned (.bool false):=by
 have:=Wg w v a h
 rwa [iS j]at this

theorem aB.of_parts{B w neg u j}{n d:Nat}(x:0<n)(d0:0<d)(A:ae w u (n/Nat.gcd n d))(C:ae w j (if d/Nat.gcd n d=1 then 0 else d/Nat.gcd n d))(J:bP u B)(N:bP j B): aB B w (.agg #[.bool neg,u,j]) (mkRat (dD neg n) d):=by
 obtain⟨y,Y⟩:=red neg n d d0;have U:0<n/Nat.gcd n d:=Nat.div_pos (aCX _ x) (aDe _ x);refine⟨u,j,?_,?_,?_,J,N⟩
 ·rw[sZ y,lT U,aBj]
 ·rw[y,mA];exact A
 rw[Y];exact C

theorem aB.zero B w neg d:aB B w (.agg #[.bool false,.slice none 0 0,.slice none 0 0]) (mkRat (dD neg 0) d):=by
 have e:mkRat (dD neg 0) d=0:=by cases neg<;>simp[dD]
 rw[e];exact⟨_,_,by simp[ay],ae.nil_ _,by simpa using ae.nil_ _,bP.nil_ _,bP.nil_ _⟩

theorem Bn w neg vn vd ln ld k(hn:cQ w vn ln)(hd:cQ w vd ld)(qn:val ln<2^k)(qd:val ld<2^k)(h0:0<k)(hk:k<=17592186044416): Calls Tryz.prog 72 #[.bool neg,vn,vd] w fun e w'=>∃v',e=.returned v'/\aB w.heap.size w' v' (cA neg (val ln) (val ld))/\Below w.heap.size w w':=by
 have H1:=aS hn;have H2:=aS hd;clear hn hd;obtain⟨n,hN⟩:∃n,val ln=n:=⟨_,rfl⟩;obtain⟨d0,ad⟩:∃d,val ld=d:=⟨_,rfl⟩;rw[hN,ad];rw[hN]at qn;rw[ad]at qd;have HN:=aS hN;have bm:=aS ad;clear hN ad;unfold cA;obtain⟨d,hD⟩:∃d,(if d0=0 then 1 else d0)=d:=⟨_,rfl⟩;rw[hD];have QN:=aS qn;have QD:Hid (d<2^k):=aS (by rw[<-hD];split;exact aAE (by omega);exact qd);have ba:0<d:=by rw[<-hD];split<;>omega
 have HD:=aS hD;clear qn qd hD;go_enter Tryz.func72,Tryz.ntmps72;go_wp2_with fail;obtain⟨W,hW,P0,PB,bn⟩:=jy w 31 [.bool false,.slice none 0 0,.slice none 0 0];rw[<-hW];clear hW;refine(lQ W vn ln (H1.out.below PB.out)).mono ?_;rintro e w1 ⟨a2,v1,rfl,t1,_,_⟩;cases a2;have T1:Hid (ae W v1 n):=aS (HN.out▸t1);clear t1;go_wp2_with fail;refine(lQ W vd ld (H2.out.below PB.out)).mono ?_;rintro e w1 ⟨a2,v2,rfl,t1,_,_⟩;cases a2;have T2:Hid (ae W v2 d0):=aS (bm.out▸t1);clear t1;obtain⟨A1,m1,c1,rfl,ch,cu⟩:=T1.out.len;obtain⟨A2,m2,c2,rfl,cm,cx⟩:=T2.out.len;obtain⟨r0,r1,r2,z0,z1,z2⟩:=P0.out.three;rcases lE n with hz|an
 ·subst hz;obtain rfl:m1=0:=by omega
  go_wp2_with fail;refine IN (v:=.agg #[.bool false,.slice none 0 0,.slice none 0 0]) (by simp[results,Tryz.results72,go_sem,r0,r1,r2]) rfl ⟨_,rfl,aB.zero _ _ _ _,au PB.out (cC _) _ _ _⟩
 have cf:((m1:Int) == 0)=false:=by simp;omega
 clear r0 r1 r2 z0 z1 z2;go_upto_if 19 with fail
 go_cut [2] (fun dv wc=>∃v2,v2=dv/\Hid (ae wc v2 d)/\Hid (ae wc (.slice A1 m1 c1) n)/\Hid (Below w.heap.size w wc)/\Hid (cg wc w.heap.size 31 [.bool false,.slice none 0 0,.slice none 0 0]))
 case first=>
  rcases lE d0 with hz|hz
  ·obtain rfl:m2=0:=by omega
   have J:Hid (d=1):=aS (by rw[<-HD.out,oR hz]);go_wp2_with fail;go_meet;exact⟨_,rfl,aS (by rw[J.out];exact ae.digit1 W 178 1 (by omega) (by omega)),aS (T1.out.alloc _),aS (PB.out.alloc (by omega) _),aS (P0.out.alloc _)⟩
  have cp:((m2:Int) == 0)=false:=by simp;omega
  have Z:Hid (ae W (.slice A2 m2 c2) d):=aS (by rw[<-HD.out,iF (by omega)];exact T2.out);go_wp2_with fail;go_meet;exact⟨_,rfl,Z,T1,PB,P0⟩
 obtain⟨v2,rfl,Z,a6,BB,R0⟩:=hcut;clear T1 T2 PB P0 bn;obtain⟨C,rfl⟩:∃C,C=wc:=⟨_,rfl⟩;have c4:w.heap.size<C.heap.size:=R0.out.lt;have QG:Hid (Nat.gcd n d<2^k):=aS (If (aCX d an) QN.out);go_upto_region 7 with fail
 obtain⟨W2,al⟩:∃W2,W2=C.alloc (.cells #[.int .u32 1] 178):=⟨_,rfl⟩;rw[<-al];have GB:Hid (Below C.heap.size C W2):=aS (by rw[al];exact(Below.refl _ C).alloc (cC _) _);have G1:Hid (ae W2 (.slice (some ⟨C.heap.size,0,none⟩) 1 1) 1):=aS (by rw[al];exact ae.digit1 C 178 1 (by omega) (by omega));have X1:=aS (a6.out.below GB.out);have X2:=aS (Z.out.below GB.out);have XB:=aS (BB.out.trans (GB.out.mono BB.out.size));have XR:=aS (R0.out.below' GB.out);clear a6 Z BB R0 GB al;obtain⟨g0,bd⟩:∃v,v=Value.slice (some ⟨C.heap.size,0,none⟩) 1 1:=⟨_,rfl⟩;rw[<-bd]at G1⊢;clear bd;have b7:w.heap.size<W2.heap.size:=XR.out.lt;obtain⟨tt,bf⟩:∃b,(decide (d≠1)&&decide (n≠1))=b:=⟨_,rfl⟩;have Y:=aS bf;clear bf;go_cut [29] (fun t wc=>t=.bool tt/\wc=W2)
 case first=>
  by_cases am:d=1
  ·have TD:Hid (ae W2 v2 1):=aS (by rw[<-am];exact X2.out);have y:Hid (false=tt):=aS (by rw[<-Y.out,iS (by omega),aBZ]);clear am;go_wp2_with fail;refine(We TD.out).mono ?_;rintro e w2 ⟨j,rfl⟩;cases j;go_wp2_with fail;go_meet;exact⟨by rw[<-y.out],rfl⟩
  have J:=aS am;clear am;go_wp2_with fail;refine(Wh X2.out J.out).mono ?_;rintro e w2 ⟨j,rfl⟩;cases j;by_cases u:n=1
  ·have TN:Hid (ae W2 (.slice A1 m1 c1) 1):=aS (by rw[<-u];exact X1.out);have y:Hid (false=tt):=aS (by rw[<-Y.out,iS (p:=n≠1) (by omega),aBk]);have a5:=aS u;clear u;go_wp2_with fail;refine(We TN.out).mono ?_;rintro e w2 ⟨j,rfl⟩;cases j;go_wp2_with fail;go_meet;exact⟨by rw[<-y.out],rfl⟩
  have y:Hid (true=tt):=aS (by rw[<-Y.out,lT J.out,lT u];rfl);have a5:=aS u;clear u;go_wp2_with fail;refine(Wh X1.out a5.out).mono ?_;rintro e w2 ⟨j,rfl⟩;cases j;go_wp2_with fail;go_meet;exact⟨by rw[<-y.out],rfl⟩
 obtain⟨rfl,rfl⟩:=hcut;go_upto_if 29 with fail
 go_cut [7] (fun gv wd=>∃vg,vg=gv/\Hid (ae wd vg (Nat.gcd n d))/\Hid (ae wd v2 d)/\Hid (ae wd (.slice A1 m1 c1) n)/\Hid (Below w.heap.size w wd)/\Hid (cg wd w.heap.size 31 [.bool false,.slice none 0 0,.slice none 0 0]))
 case first=>
  cases tt with
  |false=>
   have U:Hid (Nat.gcd n d=1):=aS (by
    have h1:=Y.out;rw[Bool.and_eq_false_iff,aAs,aAs,aCG,aCG]at h1;rcases h1 with h1|h1
    ·rw[h1];exact Nat.gcd_one_right n
    ·rw[h1];exact Nat.gcd_one_left d)
   go_wp2_with fail;go_meet;exact⟨_,rfl,aS (by rw[U.out];exact G1.out),X2,X1,XB,XR⟩
  |true=>go_wp2_with fail;refine(ZA _ _ _ n d k X1.out X2.out QN.out QD.out (by omega) (by omega) (by omega)).mono ?_;rintro e w2 ⟨vg,rfl,t1,hb⟩;have Y1:=aS (X1.out.below hb);have Y2:=aS (X2.out.below hb);have YB:=aS (XB.out.trans (hb.mono XB.out.size));have YR:=aS (XR.out.below' hb);have YG:=aS t1;clear t1 hb;go_wp2_with fail;go_meet;exact⟨_,rfl,YG,Y2,Y1,YB,YR⟩
 obtain⟨vg,rfl,VG,a1,a0,av,RA⟩:=hcut;clear X1 X2 XB XR G1;obtain⟨w2,rfl⟩:∃x,x=wc:=⟨_,rfl⟩;have b8:w.heap.size<w2.heap.size:=RA.out.lt;go_wp2_with fail;refine(Wg w2 _ _ VG.out).mono ?_;rintro e w3 ⟨b6,rfl⟩;cases b6;go_upto_if 35 with fail
 go_cut [1,2] (fun nv dv we=>∃v1 v3,v1=nv/\v3=dv/\Hid (ae we v1 (n/Nat.gcd n d))/\Hid (ae we v3 (d/Nat.gcd n d))/\Hid (Below w.heap.size w we)/\Hid (cg we w.heap.size 31 [.bool false,.slice none 0 0,.slice none 0 0]))
 case first=>
  by_cases hg:Nat.gcd n d=1
  ·have U:=aS hg;rw[lT hg];clear hg;go_wp2_with fail;go_meet;exact⟨_,_,rfl,rfl,aS (by rw[U.out,Nat.div_one];exact a0.out),aS (by rw[U.out,Nat.div_one];exact a1.out),av,RA⟩
  have a4:Hid (0<Nat.gcd n d):=aS (aDe _ an);rw[iS hg];clear hg;go_wp2_with fail;refine(JS w2 _ _ n (Nat.gcd n d) k a0.out VG.out QN.out QG.out hk a4.out).mono ?_;rintro e w3 ⟨vq,vr,rfl,q1,_,B,_,_⟩;have Q1:=aS q1;have B3:=aS (av.out.trans (B.mono (by omega)));have b4:=aS (VG.out.below B);have bx:=aS (a1.out.below B);have bo:=aS (RA.out.below' B);have cy:=B.size;clear q1 B;go_wp2_with fail;refine(JS w3 _ _ d (Nat.gcd n d) k bx.out b4.out QD.out QG.out hk a4.out).mono ?_;rintro e Wf ⟨v4,c5,rfl,q1,_,B,_,_⟩;have U1:=aS (Q1.out.below B);have U2:=aS q1;have UB:=aS (B3.out.trans (B.mono (by omega)));have UR:=aS (bo.out.below' B);clear q1 B;go_wp2_with fail;go_meet;exact⟨_,_,rfl,rfl,U1,U2,UB,UR⟩
 obtain⟨v1,v2,rfl,rfl,U1,U2,UB,UR⟩:=hcut;clear VG a1 a0 av RA;obtain⟨Wf,rfl⟩:∃x,x=wc:=⟨_,rfl⟩;have b9:w.heap.size<Wf.heap.size:=UR.out.lt;have UQ:Hid (n/Nat.gcd n d<2^k):=aS (If (aCe _ _) QN.out);have b1:Hid (d/Nat.gcd n d<2^k):=aS (If (aCe _ _) QD.out);go_wp2_with (at_builtin;refine nF rfl _ _ rfl rfl _ rfl _ k U1.out UQ.out (by omega) ?_);intro An mn cn wn n1 n2 n3;have N1:=aS n1;have N2:=aS n2;have bB:=aS (UB.out.trans (n3.mono (by omega)));have b2:=aS (UR.out.below' n3);have V2:=aS (U2.out.below n3);have ca:Wf.heap.size<=wn.heap.size:=n3.size;clear n1 n2 n3;go_wp2_with fail;obtain⟨wb,bj,O0,OB,cb⟩:=jy wn 31 [.bool neg,.slice An mn cn,.slice none 0 0];rw[<-bj];clear bj;have N3:=aS (N1.out.below OB.out);have V3:=aS (V2.out.below OB.out);have a9:=aS (b2.out.below' OB.out);have a7:=aS (bB.out.trans (OB.out.mono (by omega)));have hO:wn.heap.size≠w.heap.size:=by omega
 have hF:=N2.out.mono (show w.heap.size+1<=Wf.heap.size by omega);have HF:=aS hF;clear hF;by_cases A:d/Nat.gcd n d=1
 ·have V4:Hid (ae wb v2 1):=aS (by rw[<-A];exact V3.out);have N:=aS A;clear A;obtain⟨r0,r1,r2,z0,z1,z2⟩:=a9.out.three;obtain⟨o0,o1,o2,y0,y1,y2⟩:=O0.out.three;refine(We V4.out).mono ?_;rintro e w5 ⟨a3,rfl⟩;cases a3;go_wp2_with fail;refine IN (v:=.agg #[.bool neg,.slice An mn cn,.slice none 0 0]) (by simp[results,Tryz.results72,go_sem,r0,r1,r2]) rfl ⟨_,rfl,aB.of_parts an ba (N3.out.box3 HF.out _ _ _) (by rw[oR N.out];exact ae.nil_ _) (HF.out.mono (by omega)) (bP.nil_ _),au a7.out (cC _) _ _ _⟩
 have N:=aS A;clear A;refine(Wh V3.out N.out).mono ?_;rintro e w5 ⟨a3,rfl⟩;cases a3;obtain⟨o0,o1,o2,y0,y1,y2⟩:=O0.out.three;go_wp2_with (at_builtin;refine nF rfl _ _ rfl rfl _ rfl _ k V3.out b1.out (by omega) ?_);intro Ad md cd wd n1 n2 n3;have M1:=aS n1;have M2:=aS n2;have N4:=aS (N3.out.below n3);have b0:=aS (a7.out.trans (n3.mono (by omega)));have b3:=aS (a9.out.below' n3);have O4:=aS (O0.out.below' n3);clear n1 n2 n3 o0 o1 o2 y0 y1 y2;have b5:wn.heap.size<wb.heap.size:=O0.out.lt;obtain⟨r0,r1,r2,z0,z1,z2⟩:=b3.out.three;obtain⟨o0,o1,o2,y0,y1,y2⟩:=O4.out.three;go_wp2_with fail;refine IN (v:=.agg #[.bool neg,.slice An mn cn,.slice Ad md cd]) (by simp[results,Tryz.results72,go_sem,r0,r1,r2]) rfl ⟨_,rfl,aB.of_parts an ba ?_ ?_ (HF.out.mono (by omega)) (M2.out.mono (by omega)),au (b0.out.setCell (p:=⟨wn.heap.size,2,none⟩) (by show w.heap.size<=wn.heap.size;omega) _) (cC _) _ _ _⟩
 ·exact(N4.out.setOff (p:=⟨wn.heap.size,2,none⟩) (N1.out.off (cC _)) _).box3 HF.out _ _ _
 rw[iF N.out];exact(M1.out.setFar (p:=⟨wn.heap.size,2,none⟩) M2.out b5 _).box3 (M2.out.mono (by omega)) _ _ _
theorem aa{w j x}(u:Below w.heap.size w j)(y:Below j.heap.size j x):Below w.heap.size w x:=u.trans (y.mono u.size)

theorem CB w v l(hd:cQ w v l): Calls Tryz.prog 70 #[v] w fun e w'=>∃j,e=.returned j/\ae w' j (val l)/\Below w.heap.size w w':=by refine(lQ w v l hd).mono ?_;rintro e y ⟨x,j,rfl,u,_⟩;cases x;exact⟨j,rfl,u,Below.refl _ _⟩

theorem FH{w:World}{g B a b c}(h:w.cell? ⟨g,0,none⟩=some a/\w.cell? ⟨g,1,none⟩=some b/\w.cell? ⟨g,2,none⟩=some c)(j:g≠B)u x y: (((w.setCell ⟨B,0,none⟩ u).setCell ⟨B,1,none⟩ x).setCell ⟨B,2,none⟩ y).cell? ⟨g,0,none⟩=some a/\(((w.setCell ⟨B,0,none⟩ u).setCell ⟨B,1,none⟩ x).setCell ⟨B,2,none⟩ y).cell? ⟨g,1,none⟩=some b/\(((w.setCell ⟨B,0,none⟩ u).setCell ⟨B,1,none⟩ x).setCell ⟨B,2,none⟩ y).cell? ⟨g,2,none⟩=some c:= ⟨eW h.1 j _ _ _,eW h.2.1 j _ _ _,eW h.2.2 j _ _ _⟩

theorem ae.digs{w v n}(h:ae w v n):∃l,cQ w v l/\val l=n:=by obtain⟨l,d,_,e⟩:=h;exact⟨l,d,e⟩

theorem sW w neg u j n d k(hn:ae w u n)(hd:ae w j d)(Y:n<2^k)(U:d<2^k)(d0:0<d)(B:0<k)(C:k<=17592186044416): Calls Tryz.prog 72 #[.bool neg,u,j] w fun e w'=>∃x,e=.returned x/\aB w.heap.size w' x (mkRat (dD neg n) d)/\Below w.heap.size w w':=by obtain⟨N,A,rfl⟩:=hn.digs;obtain⟨J,y,rfl⟩:=hd.digs;refine(Bn w neg u j N J k A y Y U B C).mono ?_;unfold cA;rw[iF (by omega)];exact fun _ _ h=>h

theorem aG.parts{k w v q}(h:aG k w v q)(U:0<k):∃s y x u j n d,v=.agg #[.bool s,y,x]/\cQ w y u/\cQ w x j/\val u=n/\(if val j=0 then 1 else val j)=d/\q=mkRat (dD s n) d/\n<2^k/\d<2^k/\0<d/\val j<2^k:=by obtain⟨s,y,x,u,j,rfl,A,B,C,J,N,_,_⟩:=h;have:=aAE (n:=k) (by omega);exact⟨s,y,x,u,j,_,_,rfl,A,B,rfl,rfl,C,J,by split<;>omega,by split<;>omega,N⟩

theorem RX s n:dD (!s) n = - dD s n:=by cases s<;>simp[dD]
theorem Li s n d:-(mkRat (dD s n) d)=mkRat (dD (!s) n) d:=by rw[RX,Rat.neg_mkRat]
theorem zb s t a b c d:mkRat (dD s a) b*mkRat (dD t c) d=mkRat (dD (s != t) (a*c)) (b*d):=by rw[Rat.mkRat_mul_mkRat];congr 1;unfold dD;cases s<;>cases t<;>simp[aAq,aCL,Int.mul_neg]
theorem Lv s{a}b(ha:a≠0):(mkRat (dD s a) b)⁻¹=mkRat (dD s b) a:=by
 by_cases u:b=0
 ·subst u;have e:dD s 0=0:=by cases s<;>simp[dD]
  rw[e];simp
 have j:mkRat (dD s a) b*mkRat (dD s b) a=1:=by
  rw[zb,aBm b a];have e:(s != s)=false:=by cases s<;>rfl
  rw[e];simp only[dD];exact((Rat.mkRat_eq_iff (n₁:=((a*b:Nat):Int)) (n₂:=1) (d₁:=a*b) (d₂:=1) (by have:=aBg (aCy ha) (aCy u);omega) (by omega)).2 (by omega)).trans rfl
 have x:mkRat (dD s a) b≠0:=fun e=>by rw[e,Rat.zero_mul]at j;exact absurd j (by decide)
 calc (mkRat (dD s a) b)⁻¹=(mkRat (dD s a) b)⁻¹*(mkRat (dD s a) b*mkRat (dD s b) a):=by rw[j,Rat.mul_one]
  _=mkRat (dD s b) a:=by rw[<-Rat.mul_assoc,Rat.inv_mul_cancel _ x,aDX]
theorem kn s{a b}(j:b≠0):mkRat (dD s a) b=0↔a=0:=by rw[Rat.mkRat_eq_zero j];cases s<;>simp[dD]

theorem Gv w s Z y j d(hd:cQ w y j)(e0:(if val j=0 then 1 else val j)=d): Calls Tryz.prog 71 #[.agg #[s,Z,y]] w fun e w'=>∃Y,e=.returned Y/\ae w' Y d/\Below w.heap.size w w':=by
 have HD:=aS hd;have N:=aS e0;clear hd e0;go_enter Tryz.func71,Tryz.ntmps71;go_wp2_with fail;obtain⟨W,U,P0,C,ad⟩:=jy w 31 [s,Z,y];rw[<-U];clear U;obtain⟨p0,p1,p2,_,_,_⟩:=P0.out.three;go_wp2_with fail;refine(lQ W y j (HD.out.below C.out)).mono ?_;rintro e w1 ⟨J,v1,rfl,t1,_,_⟩;cases J;have T1:=aS t1;obtain⟨A,m,c,rfl,hm,x⟩:=t1.len;clear t1;by_cases h0:m=0
 ·have u:val j=0:=by omega
  subst h0;have B:Hid (d=1):=aS (by rw[<-N.out,oR u]);clear x u;go_wp2_with fail;go_ret;refine⟨_,rfl,⟨[1],⟨?_,Ok.cons.2 ⟨by omega,Ok.nil⟩⟩,by simp[dQ],by rw[B.out];rfl⟩,C.out.alloc (by omega) _⟩;exact Sl.one _ _ _
 have hz:((m:Int) == 0)=false:=by simp;omega
 have B:Hid (val j=d):=aS (by rw[<-N.out,iF (by omega)]);clear x;go_wp2_with fail;go_ret;exact⟨_,rfl,by rw[<-B.out];exact T1.out,C.out⟩

theorem WL w v q k(h:aG k w v q)(J:0<k)(hk:k<=17592186044416): Calls Tryz.prog 107 #[v] w fun e w'=>∃v',e=.returned v'/\aB w.heap.size w' v' (q)/\Below w.heap.size w w':=by obtain⟨s,vn,vd,y,x,n,d,rfl,N,U,Y,Z,h5,h6,h7,h8,h9⟩:=h.parts J;have H1:=aS N;have H2:=aS U;have B:=aS Y;have H4:=aS Z;have H5:=aS h5;have H6:=aS h6;have H7:=aS h7;have H8:=aS h8;have H9:=aS h9;clear h N U Y Z h5 h6 h7 h8 h9;have HQ:Hid (q=cA s (val y) (val x)):=aS (by rw[H5.out,<-H4.out,<-B.out];rfl);rw[HQ.out];go_enter Tryz.func107,Tryz.ntmps107;go_wp2_with fail;obtain⟨W,hW,P0,P1,u,ad⟩:=mb w 31 [.bool s,vn,vd] 31 [.bool false,.slice none 0 0,.slice none 0 0];rw[<-hW];clear hW;obtain⟨p0,p1,p2,_,_,_⟩:=P0.out.three;go_wp2_with fail;refine(Bn W s _ _ y x k (H1.out.below u.out) (H2.out.below u.out) (by rw[B.out];exact H6.out) H9.out J hk).mono ?_;rintro e w1 ⟨v1,rfl,t1,j⟩;have T1:=aS t1;have C:Hid (Below W.heap.size W w1):=aS j;have al:W.heap.size<=w1.heap.size:=j.size;obtain⟨A,m,c,A',m',c',rfl,ta,tb,tc,td⟩:=t1.open_;obtain⟨r0,r1,r2,z0,z1,z2⟩:=(P1.out.below' C.out).three;have TA:=aS ta;have TB:=aS tb;have TC:=aS tc;have TD:=aS td;clear ta tb tc td;clear t1 j;go_wp2_with fail;refine IN (v:=.agg #[.bool (ay (cA s (val y) (val x))),.slice A m c,.slice A' m' c']) (by simp[results,Tryz.results107,go_sem,r0,r1,r2]) rfl ⟨_,rfl,?_,au (u.out.trans ((C.out).mono (by omega))) (by omega) _ _ _⟩;exact(aB.box3 TA.out TB.out TC.out TD.out (by omega) _ _ _).mono (by omega)

theorem Zp w v q k(h:aG k w v q)(J:0<k)(hk:k<=17592186044416): Calls Tryz.prog 157 #[v] w fun e w'=>∃v',e=.returned v'/\aB w.heap.size w' v' (-q)/\Below w.heap.size w w':=by obtain⟨s,vn,vd,y,x,n,d,rfl,N,U,Y,Z,h5,h6,h7,h8,h9⟩:=h.parts J;have H1:=aS N;have H2:=aS U;have B:=aS Y;have H4:=aS Z;have H5:=aS h5;have H6:=aS h6;have H7:=aS h7;have H8:=aS h8;have H9:=aS h9;clear h N U Y Z h5 h6 h7 h8 h9;have HQ:Hid (-q=cA (!s) (val y) (val x)):=aS (by rw[H5.out,Li,<-H4.out,<-B.out];rfl);rw[HQ.out];go_enter Tryz.func157,Tryz.ntmps157;go_wp2_with fail;obtain⟨W,hW,P0,P1,u,ad⟩:=mb w 31 [.bool s,vn,vd] 31 [.bool false,.slice none 0 0,.slice none 0 0];rw[<-hW];clear hW;obtain⟨p0,p1,p2,_,_,_⟩:=P0.out.three;go_wp2_with fail;refine(Bn W (!s) _ _ y x k (H1.out.below u.out) (H2.out.below u.out) (by rw[B.out];exact H6.out) H9.out J hk).mono ?_;rintro e w1 ⟨v1,rfl,t1,j⟩;have T1:=aS t1;have C:Hid (Below W.heap.size W w1):=aS j;have al:W.heap.size<=w1.heap.size:=j.size;obtain⟨A,m,c,A',m',c',rfl,ta,tb,tc,td⟩:=t1.open_;obtain⟨r0,r1,r2,z0,z1,z2⟩:=(P1.out.below' C.out).three;have TA:=aS ta;have TB:=aS tb;have TC:=aS tc;have TD:=aS td;clear ta tb tc td;clear t1 j;go_wp2_with fail;refine IN (v:=.agg #[.bool (ay (cA (!s) (val y) (val x))),.slice A m c,.slice A' m' c']) (by simp[results,Tryz.results157,go_sem,r0,r1,r2]) rfl ⟨_,rfl,?_,au (u.out.trans ((C.out).mono (by omega))) (by omega) _ _ _⟩;exact(aB.box3 TA.out TB.out TC.out TD.out (by omega) _ _ _).mono (by omega)

theorem Pk w v q k(h:aG k w v q)(h0:0<k)(hk:k<=17592186044416)(hq:q≠0): Calls Tryz.prog 126 #[v] w fun e w'=>∃v',e=.returned v'/\aB w.heap.size w' v' (q⁻¹)/\Below w.heap.size w w':=by
 obtain⟨s,vn,vd,ln,ld,n,d,rfl,h1,h2,h3,h4,h5,h6,h7,h8,h9⟩:=h.parts h0;have H1:=aS h1;have H2:=aS h2;have H3:=aS h3;have H4:=aS h4;have H5:=aS h5;have H6:=aS h6;have H7:=aS h7;have H8:=aS h8;have H9:=aS h9;clear h h1 h2 h3 h4 h5 h6 h7 h8 h9;have N:Hid (n≠0):=aS (fun e=>hq (by rw[H5.out,kn s (by have:=H8.out;omega)];exact e));have HQ:Hid (q⁻¹=mkRat (dD s d) n):=aS (by rw[H5.out,Lv s d N.out]);clear hq;rw[HQ.out];go_enter Tryz.func126,Tryz.ntmps126;go_wp2_with fail;obtain⟨W,hW,u,P1,Z,ad⟩:=mb w 31 [.bool s,vn,vd] 31 [.bool false,.slice none 0 0,.slice none 0 0];rw[<-hW];clear hW;obtain⟨p0,p1,p2,_,_,_⟩:=u.out.three
 go_region_held3 (fun w'=>w'.cell? ⟨w.heap.size,0,none⟩=some (.bool s)/\w'.cell? ⟨w.heap.size,1,none⟩=some (vn)/\w'.cell? ⟨w.heap.size,2,none⟩=some (vd)) (first|assumption|(refine FH hS ?_ _ _ _<;>omega)|go_keep)
  (first
   |(go_at_call 71;refine(Gv _ _ _ _ ld d (H2.out.below (Z.out.trans (az _))) H4.out).mono ?_;rintro e C ⟨v1,rfl,t1,y⟩;have j:Hid (Below W.heap.size W C):=aS (by first|exact y|exact ak y);have al:W.heap.size<=C.heap.size:=j.out.size;have T1:=aS t1;have hS:=aT (u.out.below' j.out).three.1 (aT (u.out.below' j.out).three.2.1 (u.out.below' j.out).three.2.2.1);clear t1 y)
   |(go_at_call 70;refine(CB C _ ln ((H1.out.below Z.out).below j.out)).mono ?_;rintro e J ⟨v2,rfl,t2,U⟩;have x:Hid (Below C.heap.size C J):=aS U;have am:C.heap.size<=J.heap.size:=x.out.size;have T2:=aS t2;have hS:=aT (u.out.below' (aa j.out x.out)).three.1 (aT (u.out.below' (aa j.out x.out)).three.2.1 (u.out.below' (aa j.out x.out)).three.2.2.1);clear t2 U)
   |(go_at_call 72;refine(sW J s _ _ d n k (T1.out.below x.out) (by have:=T2.out;rwa [H3.out]at this) H7.out H6.out (by have:=N.out;omega) h0 hk).mono ?_;rintro e w3 ⟨v3,rfl,t3,Y⟩;have B:Hid (Below J.heap.size J w3):=aS Y;have an:J.heap.size<=w3.heap.size:=B.out.size;have T3:=aS t3;have hS:=aT (u.out.below' (aa (aa j.out x.out) B.out)).three.1 (aT (u.out.below' (aa (aa j.out x.out) B.out)).three.2.1 (u.out.below' (aa (aa j.out x.out) B.out)).three.2.2.1);obtain⟨A,m,c,A',m',c',rfl,ta,tb,tc,td⟩:=t3.open_;obtain⟨r0,r1,r2,z0,z1,z2⟩:=(P1.out.below' (aa (aa j.out x.out) B.out)).three;have TA:=aS ta;have TB:=aS tb;have TC:=aS tc;have TD:=aS td;clear ta tb tc td;clear t3 Y))
 go_wp2_with fail;refine IN (v:=.agg #[.bool (ay (mkRat (dD s d) n)),.slice A m c,.slice A' m' c']) (by simp[results,Tryz.results126,go_sem,r0,r1,r2]) rfl ⟨_,rfl,?_,au (Z.out.trans (((aa (aa j.out x.out) B.out)).mono (by omega))) (by omega) _ _ _⟩;exact(aB.box3 TA.out TB.out TC.out TD.out (by omega) _ _ _).mono (by omega)

theorem Yb w v v' q r k(h:aG k w v q)(h':aG k w v' r)(h0:0<k)(hk:k<=549755813888): Calls Tryz.prog 27 #[v,v'] w fun e w'=>∃u,e=.returned u/\aB w.heap.size w' u (q*r)/\Below w.heap.size w w':=by
 obtain⟨s,vn,vd,ln,ld,n,d,rfl,h1,h2,h3,h4,h5,h6,h7,h8,h9⟩:=h.parts h0;have H1:=aS h1;have H2:=aS h2;have H3:=aS h3;have H4:=aS h4;have H5:=aS h5;have H6:=aS h6;have H7:=aS h7;have H8:=aS h8;have H9:=aS h9;clear h h1 h2 h3 h4 h5 h6 h7 h8 h9;obtain⟨t,J,ad,a3,a2,n',d',rfl,h1,h2,h3,h4,h5,h6,h7,h8,h9⟩:=h'.parts h0;have G1:=aS h1;have G2:=aS h2;have G3:=aS h3;have G4:=aS h4;have G5:=aS h5;have G6:=aS h6;have G7:=aS h7;have G8:=aS h8;have G9:=aS h9;clear h' h1 h2 h3 h4 h5 h6 h7 h8 h9;have HQ:Hid (q*r=mkRat (dD (s != t) (n*n')) (d*d')):=aS (by rw[H5.out,G5.out,zb]);rw[HQ.out];go_enter Tryz.func27,Tryz.ntmps27;go_wp2_with fail;obtain⟨W,hW,N,U,P2,PB,a4⟩:=box3 w 31 [.bool s,vn,vd] 31 [.bool t,J,ad] 31 [.bool false,.slice none 0 0,.slice none 0 0];rw[<-hW];clear hW;obtain⟨p0,p1,p2,_,_,_⟩:=N.out.three;obtain⟨q0,q1,q2,_,_,_⟩:=U.out.three
 go_region_held3 (fun w'=>w'.cell? ⟨w.heap.size,0,none⟩=some (.bool s)/\w'.cell? ⟨w.heap.size,1,none⟩=some (vn)/\w'.cell? ⟨w.heap.size,2,none⟩=some (vd)/\w'.cell? ⟨w.heap.size+1,0,none⟩=some (.bool t)/\w'.cell? ⟨w.heap.size+1,1,none⟩=some (J)/\w'.cell? ⟨w.heap.size+1,2,none⟩=some (ad)) (first|assumption|(refine dE hS ?_ ?_ _ _ _<;>omega)|go_keep)
  (first
   |(go_at_call_of 70 (vn);refine(CB _ _ ln (H1.out.below (PB.out.trans (az _)))).mono ?_;rintro e w1 ⟨v1,rfl,t1,Z⟩;have j:Hid (Below W.heap.size W w1):=aS (by first|exact Z|exact ak Z);have a5:W.heap.size<=w1.heap.size:=j.out.size;have T1:=aS t1;have hS:=jB (N.out.below' j.out) (U.out.below' j.out);rw[H3.out]at t1;have T1:=aS t1;clear t1 Z)
   |(go_at_call_of 70 (J);refine(CB w1 _ a3 ((G1.out.below PB.out).below j.out)).mono ?_;rintro e w2 ⟨v2,rfl,t2,al⟩;have x:Hid (Below w1.heap.size w1 w2):=aS al;have a6:w1.heap.size<=w2.heap.size:=x.out.size;have T2:=aS t2;have hS:=jB (N.out.below' (aa j.out x.out)) (U.out.below' (aa j.out x.out));rw[G3.out]at t2;have T2:=aS t2;clear t2 al)
   |(go_at_call_of 69 (v1);refine(vG w2 _ _ n n' k k (T1.out.below x.out) T2.out H6.out G6.out (by omega) (by omega)).mono ?_;rintro e w3 ⟨v3,rfl,t3,am,_⟩;have y:Hid (Below w2.heap.size w2 w3):=aS am;have a7:w2.heap.size<=w3.heap.size:=y.out.size;have T3:=aS t3;have hS:=jB (N.out.below' (aa (aa j.out x.out) y.out)) (U.out.below' (aa (aa j.out x.out) y.out));clear t3 am)
   |(go_at_call_of 71 (Value.agg #[.bool s,vn,vd]);refine(Gv w3 _ _ _ ld d ((H2.out.below PB.out).below (aa (aa j.out x.out) y.out)) H4.out).mono ?_;rintro e w4 ⟨v4,rfl,t4,an⟩;have B:Hid (Below w3.heap.size w3 w4):=aS an;have a9:w3.heap.size<=w4.heap.size:=B.out.size;have T4:=aS t4;have hS:=jB (N.out.below' (aa (aa (aa j.out x.out) y.out) B.out)) (U.out.below' (aa (aa (aa j.out x.out) y.out) B.out));clear t4 an)
   |(go_at_call_of 71 (Value.agg #[.bool t,J,ad]);refine(Gv w4 _ _ _ a2 d' ((G2.out.below PB.out).below (aa (aa (aa j.out x.out) y.out) B.out)) G4.out).mono ?_;rintro e w5 ⟨v5,rfl,t5,av⟩;have C:Hid (Below w4.heap.size w4 w5):=aS av;have ba:w4.heap.size<=w5.heap.size:=C.out.size;have T5:=aS t5;have hS:=jB (N.out.below' (aa (aa (aa (aa j.out x.out) y.out) B.out) C.out)) (U.out.below' (aa (aa (aa (aa j.out x.out) y.out) B.out) C.out));clear t5 av)
   |(go_at_call_of 69 (v4);refine(vG w5 _ _ d d' k k (T4.out.below C.out) T5.out H7.out G7.out (by omega) (by omega)).mono ?_;rintro e w6 ⟨v6,rfl,t6,a0,_⟩;have Y:Hid (Below w5.heap.size w5 w6):=aS a0;have bd:w5.heap.size<=w6.heap.size:=Y.out.size;have T6:=aS t6;have hS:=jB (N.out.below' (aa (aa (aa (aa (aa j.out x.out) y.out) B.out) C.out) Y.out)) (U.out.below' (aa (aa (aa (aa (aa j.out x.out) y.out) B.out) C.out) Y.out));clear t6 a0)
   |(go_at_call 72;refine(sW w6 (s != t) _ _ (n*n') (d*d') (k+k) (((T3.out.below B.out).below C.out).below Y.out) T6.out (bv H6.out G6.out) (bv H7.out G7.out) (aBg H8.out G8.out) (by omega) (by omega)).mono ?_;rintro e w7 ⟨v7,rfl,t7,a1⟩;have S7:Hid (Below w6.heap.size w6 w7):=aS a1;have bf:w6.heap.size<=w7.heap.size:=S7.out.size;have T7:=aS t7;have hS:=jB (N.out.below' (aa (aa (aa (aa (aa (aa j.out x.out) y.out) B.out) C.out) Y.out) S7.out)) (U.out.below' (aa (aa (aa (aa (aa (aa j.out x.out) y.out) B.out) C.out) Y.out) S7.out));obtain⟨A,m,c,A',m',c',rfl,ta,tb,tc,td⟩:=t7.open_;obtain⟨r0,r1,r2,z0,z1,z2⟩:=(P2.out.below' (aa (aa (aa (aa (aa (aa j.out x.out) y.out) B.out) C.out) Y.out) S7.out)).three;have TA:=aS ta;have TB:=aS tb;have TC:=aS tc;have TD:=aS td;clear ta tb tc td;clear t7 a1))
 go_wp2_with fail;refine IN (v:=.agg #[.bool (ay (mkRat (dD (s != t) (n*n')) (d*d'))),.slice A m c,.slice A' m' c']) (by simp[results,Tryz.results27,go_sem,r0,r1,r2]) rfl ⟨_,rfl,?_,au (PB.out.trans (((aa (aa (aa (aa (aa (aa j.out x.out) y.out) B.out) C.out) Y.out) S7.out)).mono (by omega))) (by omega) _ _ _⟩;exact(aB.box3 TA.out TB.out TC.out TD.out (by omega) _ _ _).mono (by omega)
end Go.Proofs.YtfoceannfdbinaaGreat
