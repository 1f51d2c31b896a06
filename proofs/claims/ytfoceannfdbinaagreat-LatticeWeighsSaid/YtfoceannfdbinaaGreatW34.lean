/- Lemmas. -/
import Derived.Test.YtfoceannfdbinaaGreatW33
import Derived.RangeFuncOwn
import Derived.Laws.CopyOwn
set_option linter.all false
set_option maxRecDepth 1000000
set_option maxHeartbeats 32000000
namespace Go.Proofs.YtfoceannfdbinaaGreat
open Go.RowKit
theorem Ly:(Tryz.prog.info? 298).map (fun i=>(i.zero,i.size,i.bytes))=some (some (.map none),1,8):=by kernel_rfl

def mi(w:World)(b O n:Nat)(gs:List (List Int×Int)):Prop:=∃xs,cg w b 298 xs/\(xs.length=O+1/\xs[0]?=some (.map none))/\
 ∀j,n<j->j<=O->∃bj base S,xs[j]?=some (.map (some bj))/\iM w bj base j S/\mh j S/\jc S (tot (O-j) gs)/\S.length<=20000/\b<=bj
theorem mi.below{w w' b O n gs}(h:mi w b O n gs)(x:Below w.heap.size w w'):mi w' b O n gs:=by obtain⟨xs,A,B,C⟩:=h;refine⟨xs,A.below' x,B,fun j J u=>?_⟩;obtain⟨y,base,S,e,hl,N⟩:=C j J u;exact⟨y,base,S,e,hl.below x,N⟩
theorem mi.lt{w b O n gs}(h:mi w b O n gs):b<w.heap.size:=by obtain⟨xs,j,_⟩:=h;exact j.lt

theorem mi.step{w b O d gs}(h:mi w b O (d+1) gs){x base S}(N:w.cell? ⟨b,d+1,none⟩=some (.map (some x)))(hl:iM w x base (d+1) S)(hs:mh (d+1) S)(hn:jc S (tot (O-(d+1)) gs))(u:S.length<=20000)(y:b<=x):mi w b O d gs:=by
 obtain⟨xs,B,C,J⟩:=h;refine⟨xs,B,C,fun j U A=>?_⟩;by_cases e:j=d+1
 ·subst e;exact⟨x,base,S,(B.cell _).symm.trans N,hl,hs,hn,u,y⟩
 exact J j (by omega) A
theorem SA{O d m S nx}{gs:List Gr}(hd:d+1<=O)(u:∀g∈gs,0<g.2/\g.2<=1073741824)(hl:gs.length<=20000)(hm:jc m (tot (O-(d+1)) gs))(hp:S.Perm m){J}(y:Mw d J nx)(A:jc nx (fun k=>eN (fun x=>x.drop 1 == k) S)):mh d nx/\jc nx (tot (O-d) gs):=by
 have hT:∀k,eN (fun x=>x.drop 1 == k) S=tot (O-d) gs k:=by intro k;rw[KC hp,Kz hm (fun g h=>(u g h).1),show O-(d+1)+1=O-d by omega]
 have j:=A.congr hT;refine⟨⟨j.1,fun e he=>?_⟩,j⟩;have:=y.2 e he;refine⟨this.1,this.2.1,this.2.2.1,?_⟩;rw[<-j.of_mem he];have B:=Iu (p:=fun x=>x.drop (O-d) == e.1) (gs:=gs) (M:=1073741824) (fun g h=>⟨aBJ (u g h).1,(u g h).2⟩);unfold tot;have C:(gs.length:Int)*1073741824<=21474836480000:=by omega
 exact Int.le_trans B C

theorem Ta w O V lv gs(h:iE w lv gs)(hn:∀g∈gs,g.1.length=O/\(∀x∈g.1,0<=x/\x<=1000000)/\0<g.2/\g.2<=1073741824)(hO:1<=O/\O<=4)(hl:gs.length<=20000)(hd:(gs.map Prod.fst).Nodup): Calls Tryz.prog 213 #[.agg #[.int .i64 O,.int .i64 V,lv]] w fun e w'=>∃b,e=.returned (.slice (some ⟨b,0,none⟩) (O+1) (O+1))/\mi w' b O 0 gs/\Below w.heap.size w w'/\w.heap.size<=b:=by
 obtain⟨A,c,rfl,lm,n0,hA⟩:=h.open_;have h9:=aS hA;have fv:=aS hn;have HD:=aS hd;clear h hA hn hd;obtain⟨p,hp⟩:∃p,gs.length=p:=⟨_,rfl⟩;rw[hp]at lm hl⊢;have HP:=aS hp;clear hp;have n2:=@run_makeMap Tryz.prog;obtain⟨i1,ki,mo,mu,mv⟩:=aBn Ly;have i8:IntKind.i64.wrap ((O:Int)+1)=(O:Int)+1:=aAw _ (by omega);go_enter Tryz.func213,Tryz.ntmps213;go_wp2_with (at_make;refine bH rfl _ _ 272 rfl 298 i1 (.map none) 8 Tryz.underlying272 ki mo mu mv rfl .i64 .i64 _ _ (O+1) rfl rfl (by omega) (by omega) (by omega) (by unfold maxLen;omega) ?_);obtain⟨W,hW,P0,PB,nO⟩:=jy w 27 [.int .i64 O,.int .i64 V,.slice A p c];rw[<-hW];clear hW;intro w1 eb e9;have P1:=aS (P0.out.below e9 (by omega));have B1:=aS (PB.out.trans (e9.mono (by omega)));have LB:=aS eb;clear eb e9;obtain⟨p0,p1,p2,_,_,_⟩:=P1.out.three;have s1:w.heap.size+1<w1.heap.size:=LB.out.lt;have n4:w.heap.size<w1.heap.size:=P1.out.lt;go_wp2_with fail;obtain⟨W2,c6⟩:∃W2,W2=w1.alloc (.map #[] 0):=⟨_,rfl⟩;have M0:Hid (cN d5 (Value.int .i64) W2 295 w1.heap.size ([]:List (List Int×Int))):=aS (by rw[c6];exact cN.made _ _ _ _);have b2:Below w1.heap.size w1 W2:=by rw[c6];exact(Below.refl _ w1).alloc (cC _) _
 have B2:=aS (B1.out.trans (b2.mono (by omega)));have P2:=aS (P1.out.below' b2);have bf:=aS (LB.out.below' b2);rw[<-c6];clear c6 b2 p0 p1 p2 B1 P1 LB;go_loopg [21] p (fun gh i wr=>∃(j:Nat),i=.int .i64 j/\j+gh=p/\Hid (∃m,cN d5 (Value.int .i64) wr 295 w1.heap.size m/\mh O m/\jc m (tot 0 (gs.take j))/\m.length<=j)/\Hid (cg wr w.heap.size 27 [.int .i64 O,.int .i64 V,.slice A p c])/\Hid (cg wr (w.heap.size+1) 298 (List.replicate (O+1) (.map none)))/\Hid (Below w.heap.size w wr))
 case atStart=>exact⟨0,rfl,by omega,aS ⟨[],M0.out,⟨aBK,fun e he=>by cases he⟩,jc.nil.congr (fun k=>rfl),by simp⟩,P2,bf,B2⟩
 clear M0 P2 bf B2;obtain⟨j,rfl,hj,HM,P2,bf,U⟩:=hrel;have du:w.heap.size<=wr.heap.size:=U.out.size;have ei:w1.heap.size<wr.heap.size:=by obtain⟨m,h,_⟩:=HM.out;exact h.lt
 rcases lE gk with h|h
 ·obtain rfl:j=p:=by omega
  obtain⟨p0,p1,p2,_,_,_⟩:=P2.out.three;obtain⟨m0,hQ,ef,ed,ee⟩:=HM.out;have dv:=aS ee;have MM:=aS hQ;have MS:=aS ef;have MC:Hid (jc m0 (tot 0 gs)):=aS (by rwa [Ge (by rw[HP.out];exact cC _)]at ed);clear HM hQ ef ed ee hj;go_wp2_with fail;have g2:Hid (mi wr (w.heap.size+1) O O gs):=aS ⟨_,bf.out,⟨by simp,by simp⟩,fun j Y Z=>by omega⟩;go_loopg [4,7] O (fun n v i wz=>i=.int .i64 n/\n<=O/\Hid (mi wz (w.heap.size+1) O n gs)/\Hid (∃bs m,v=.map (some bs)/\cN d5 (Value.int .i64) wz 295 bs m/\mh n m/\jc m (tot (O-n) gs)/\m.length<=j)/\Hid (Below w.heap.size w wz))
  case atStart=>exact⟨rfl,cC _,g2,aS ⟨_,_,rfl,MM.out,MS.out,MC.out.congr (fun k=>by rw[aAS]),dv.out⟩,U⟩
  clear g2 MM MS MC dv U p0 p1 p2 P2 bf du ei;obtain⟨rfl,ly,LV,MM,U⟩:=hrel;rcases lE gk with h'|h'
  ·subst h';have b0:decide (((0:Nat):Int)>0)=false:=iS (by omega);go_wp2_with fail;go_ret;exact⟨_,rfl,LV.out,U.out,aAm _⟩
  obtain⟨d,rfl⟩:∃d,gk=d+1:=⟨gk-1,by omega⟩;have b0:decide (0<d+1)=true:=lT h';have b1:decide ((0:Int)<((d+1:Nat):Int))=true:=lT (by omega);have b2:decide ((0:Int)<(d:Int)+1)=true:=lT (by omega);obtain⟨bs,m,rfl,hm,hms,ch,cm⟩:=MM.out;obtain⟨xs,cx,fm,h5⟩:=LV.out;have du:w.heap.size<=wr.heap.size:=U.out.size;have c8:w.heap.size+1<wr.heap.size:=cx.lt;obtain⟨u0,c0⟩:∃u0,wr.cell? ⟨w.heap.size+1,(d+1),none⟩=some u0:=⟨_,(cx.cell (d+1)).trans (bY (by omega))⟩;have z0:=cx.frozen (d+1);have j1:(0:Int)<=((d+1:Nat):Int):=by omega
  have j2:((d+1:Nat):Int)<(O:Int)+1:=by omega
  have j3:(0:Int)<=(d:Int)+1:=by omega
  have j4:(d:Int)+1<(O:Int)+1:=by omega
  have j5:((d:Int)+1).toNat=d+1:=by omega
  have b4:bs<wr.heap.size:=hm.lt;obtain⟨W3,al⟩:∃W3,W3=((wr.setCell ⟨w.heap.size+1,(d+1),none⟩ (.map (some wr.heap.size))).alloc (.map #[] 0)).alloc (.map #[] 0):=⟨_,rfl⟩;have h0:W3.heap.size=wr.heap.size+2:=by rw[al];simp
  obtain⟨Ws,am⟩:∃Ws,Ws=wr.setCell ⟨w.heap.size+1,d+1,none⟩ (.map (some wr.heap.size)):=⟨_,rfl⟩;have dl:Ws.heap.size=wr.heap.size:=by rw[am];simp
  have B3:Hid (Below wr.heap.size Ws W3):=aS (by rw[al,<-am];exact((Below.refl _ _).alloc (by omega) _).alloc (by simp;omega) _);have L3:Hid (kN W3 wr.heap.size (wr.heap.size+3) (d+1) [] []):=aS (by rw[al,<-am];have:=kN.start Ws (d+1) (wr.heap.size+3) (by omega);rw[dl]at this;exact this.below ((Below.refl _ _).alloc (cC _) _))
  have N3:Hid (cN d5 (Value.int .i64) W3 295 (wr.heap.size+1) ([]:List (List Int×Int))):=aS (by
   rw[al,<-am];have:=cN.made (Ws.alloc (.map #[] 0)) d5 (Value.int .i64) 295
   rwa [aAx,dl]at this)
  have kv:Hid (mi Ws (w.heap.size+1) O (d+1) gs):=aS (by rw[am];refine⟨_,cx.set_ (d+1) _,⟨by simpa using fm.1,by rw[aCf (by omega)];exact fm.2⟩,fun j Y Z=>?_⟩;obtain⟨bj,base,S,e,hl,hr⟩:=h5 j Y Z;exact⟨bj,base,S,by rw[aCf (by omega)];exact e,hl.far c0 _,hr⟩);have CS:Hid (Ws.cell? ⟨w.heap.size+1,d+1,none⟩=some (.map (some wr.heap.size))):=aS (by rw[am];exact World.cell?_setCell_same' _ _ _ (by rw[c0];rfl));have MS:Hid (cN d5 (Value.int .i64) Ws 295 bs m):=aS (by rw[am];exact hm.far (p:=⟨w.heap.size+1,d+1,none⟩) (hm.ne c0) _);have BS:Hid (Below w.heap.size w Ws):=aS (by rw[am];exact U.out.setCell (p:=⟨w.heap.size+1,d+1,none⟩) (show w.heap.size<=w.heap.size+1 by omega) _);have gr:=aS dl;have M3:=aS (MS.out.low b4 B3.out);have bd:=aS hms;have c4:=aS ch;have eL:=aS cm;clear hm hms ch cm cx fm h5 MM LV dl am;go_upto_region 13 with fail
  rw[<-al];clear al c0 z0;go_wp2_with (refine vk rfl _ _ rfl 295 3 Tryz.underlying294 bs _ rfl M3.out ?_);intro w4 ln hL ea l1;have a4:Below W3.heap.size W3 w4:=by rw[h0];exact ea
  obtain⟨B,mm⟩:∃B,B=wr:=⟨_,rfl⟩;subst mm;have I4:Hid (dK w4 (B.heap.size+2) bs m.length []):=aS (by simpa [gV]using hL);have L4:Hid (iM w4 B.heap.size (B.heap.size+3) (d+1) []):=aS ⟨[],L3.out.below a4,fun e he=>by cases he⟩;have N4:Hid (∃nx,cN d5 (Value.int .i64) w4 295 (B.heap.size+1) nx/\Mw d 0 nx/\jc nx (fun k=>eN (fun x=>x.drop 1 == k) [])):=aS ⟨[],N3.out.below a4,⟨by simp,fun e he=>by cases he⟩,jc.nil.congr (fun k=>rfl)⟩;have B4:Hid (Below B.heap.size Ws w4):=aS (B3.out.trans (a4.mono (by omega)));have cu:B.heap.size+3<=w4.heap.size:=by omega
  clear ln hL a4 ea l1 L3 N3 M3 B3 h0;go_wp2_with fail;go_loopg [9,10,11,12] m.length (fun gh _ _ _ _ wz=>∃vis:List Nat,vis.length+gh=m.length/\Hid (vis.Nodup/\∀i∈vis,i<m.length)/\Hid (dK wz (B.heap.size+2) bs m.length vis)/\Hid (iM wz B.heap.size (B.heap.size+3) (d+1) (jM m vis)) /\ Hid (∃nx,cN d5 (Value.int .i64) wz 295 (B.heap.size+1) nx/\Mw d vis.length nx/\jc nx (fun k=>eN (fun x=>x.drop 1 == k) (jM m vis)))/\Hid (Below B.heap.size Ws wz)/\B.heap.size+3<=wz.heap.size)
  case atStart=>exact⟨[],by simp,aS ⟨aBK,fun i hi=>by cases hi⟩,I4,L4,N4,B4,cu⟩
  clear I4 L4 N4 B4 U cu;obtain⟨vis,n3,bm,I4,L4,N4,B4,cu⟩:=hrel;have M4:=aS (MS.out.low b4 B4.out);have I5:Hid (dK wr (B.heap.size+2) bs (gV d5 (Value.int .i64) m).length vis):=aS (by simpa [gV]using I4.out);go_wp2_with (refine ye rfl _ rfl 295 bs (B.heap.size+2) (gV d5 (Value.int .i64) m) vis rfl M4.out I5.out ?done ?more)
  case done=>
   intro cb;have c5:Hid ((jM m vis).Perm m):=aS (Kw bm.out.1 bm.out.2 (fun j hj=>cb j (by simpa [gV]using hj)));clear cb I5;go_wp2_with fail;go_roundg d
   case measure=>omega
   case rel=>
    obtain⟨nx,lu,hS,lx⟩:=N4.out;have hnx:=SA ly (fun g hg=>(fv.out g hg).2.2) (by rw[HP.out];exact hl) c4.out c5.out hS lx;have hE:Below Ws.heap.size Ws wr:=by rw[gr.out];exact B4.out
    exact⟨by simp,by omega,aS ((kv.out.below hE).step ((hE.cell (p:=⟨w.heap.size+1,d+1,none⟩) (by rw[gr.out];exact c8)).trans CS.out) L4.out (bd.out.of_perm c5.out) (c4.out.of_perm c5.out) (by rw[c5.out.length_eq];have:=eL.out;omega) (by omega)),aS ⟨_,nx,rfl,lu,hnx.1,hnx.2,by have:=hS.1;have:=eL.out;omega⟩,aS (BS.out.trans (B4.out.mono du))⟩
  case more=>
   intro i xk xv w5 hx hP lr hM av c9 l3;rw[rY]at hx;obtain⟨e,he,rfl,rfl⟩:∃e,m[i]?=some e/\d5 e.1=xk/\Value.int .i64 e.2=xv:=by
    cases h:m[i]? with
    |none=>rw[h]at hx;cases hx
    |some e=>rw[h]at hx;simp only[AC,iD,Gt]at hx;exact⟨e,rfl,hx.1,hx.2⟩
   clear hx;have hT:=bd.out.2 e (eQ he);have C:=aS hT;have ll:=(dO.1 he).1;have ca:Hid ((vis++[i]).Nodup/\∀k∈vis++[i],k<m.length):=aS ⟨aCj.2 ⟨bm.out.1,by simp,fun a ha b hb e=>by simp at hb;subst hb;subst e;exact hP ha⟩,fun k hk=>by rcases aAN.1 hk with hk|hk;exact bm.out.2 k hk;rw[aAc.1 hk];exact ll⟩;have n1:0<gk:=by have:=Oy ca.out.1 ca.out.2;rw[Sk,aAt]at this;omega
   have fs:=aS (Fu bd.out.1 bm.out.2 hP he);have e3:=aS (Kv m vis he);have kc:Hid (∀x∈jM m vis,x.1.length=d+1):=aS (fun x hx=>(bd.out.2 x (MO bm.out.2 x hx)).1);have ng:B.heap.size+3<=w5.heap.size:=by omega
   have J5:Hid (dK w5 (B.heap.size+2) bs m.length (vis++[i])):=aS (by simpa [gV]using hM);have L5:Hid (iM w5 B.heap.size (B.heap.size+3) (d+1) (jM m vis)):=aS (L4.out.kept c9 (by omega) (by omega));have N5:Hid (∃nx,cN d5 (Value.int .i64) w5 295 (B.heap.size+1) nx/\Mw d vis.length nx/\jc nx (fun k=>eN (fun x=>x.drop 1 == k) (jM m vis))):=aS (by obtain⟨nx,Y,Z,h3⟩:=N4.out;exact⟨nx,Y.kept c9 (fun e=>by injection e;omega),Z,h3⟩);have B5:Hid (Below B.heap.size Ws w5):=aS (B4.out.grown c9 (by omega) (fun k e=>by cases e;omega));clear lr hM c9 he hT I5 I4 l3 L4 N4 B4 M4;obtain⟨J,c⟩:=e;simp only at av C fs;obtain⟨a0,a1,a2,a3,fb⟩:=PI (fc (by rw[C.out.1];omega:J.length<=4));have ff:d5 J=.agg #[.int .i64 a0,.int .i64 a1,.int .i64 a2,.int .i64 a3]:=by unfold d5;rw[fb];rfl
   rw[ff]at av⊢;have nv:=aS ff;have ez:=aS fb;clear ff fb;have q0:(0:Int)<=(d:Int):=by omega
   have q1:(d:Int)<4:=by omega
   have et:Hid ([Value.int .i64 a0,.int .i64 a1,.int .i64 a2,.int .i64 a3][d]?=some (.int .i64 (J.getD d 0+1))):=aS (by have Y:=Tg (l:=J) (d:=d) (by rw[C.out.1];omega);rw[ez.out]at Y;have Z:=aAf (Option.map (Value.int .i64)) Y;rw[<-mT]at Z;exact Z);obtain⟨bn,bo,bx,bB,b4⟩:=PI (fc (l:=J.take d) (by rw[Io];omega));have er:Hid (d5 (J.take d)=.agg #[.int .i64 bn,.int .i64 bo,.int .i64 bx,.int .i64 bB]):=aS (by unfold d5;rw[b4];rfl);have i0:Hid ([Value.int .i64 a0,.int .i64 a1,.int .i64 a2,.int .i64 a3].set d (.int .i64 0)=[.int .i64 bn,.int .i64 bo,.int .i64 bx,.int .i64 bB]):=aS (by have Y:=Ph C.out.1 (by rw[C.out.1];omega);rw[b4,ez.out]at Y;have Z:=aAf (List.map (Value.int .i64)) Y;rw[aBH]at Z;exact Z);have eV:Hid (f5 (J.take d)):=aS ⟨by rw[Io];omega,fun z hz=>C.out.2.1.2 z (aBr hz)⟩;clear b4;go_upto_region 17 with fail
   obtain⟨W5,ht,K0,K1,KB,gx⟩:=mb w5 295 [.int .i64 a0,.int .i64 a1,.int .i64 a2,.int .i64 a3] 295 [.int .i64 a0,.int .i64 a1,.int .i64 a2,.int .i64 a3];rw[<-ht];clear ht;have f0:W5.cell? ⟨w5.heap.size+1,d,none⟩=some (.int .i64 (J.getD d 0+1)):=(K1.out.cell d).trans et.out;have f1:=K1.out.frozen d;obtain⟨W6,b3⟩:∃W6,W6=W5.setCell ⟨w5.heap.size+1,d,none⟩ (.int .i64 0):=⟨_,rfl⟩;go_upto_region 18 with fail
   rw[<-b3];have k6:w5.heap.size+2<=W6.heap.size:=by rw[b3,World.size_setCell];exact gx
   have b7:Hid (Below w5.heap.size w5 W6):=aS (by rw[b3];exact KB.out.setCell (p:=⟨w5.heap.size+1,d,none⟩) (show w5.heap.size<=w5.heap.size+1 by omega) _);have H6:Hid (cg W6 (w5.heap.size+1) 295 [.int .i64 bn,.int .i64 bo,.int .i64 bx,.int .i64 bB]):=aS (by rw[b3,<-i0.out];exact K1.out.set_ d _);have K6:Hid (cg W6 w5.heap.size 295 [.int .i64 a0,.int .i64 a1,.int .i64 a2,.int .i64 a3]):=aS (by rw[b3];exact K0.out.far (p:=⟨w5.heap.size+1,d,none⟩) (show w5.heap.size≠w5.heap.size+1 by omega) _);have B6:=aS (B5.out.trans (b7.out.mono (by omega)));have J6:=aS (J5.out.below b7.out);have L6:=aS (L5.out.below b7.out);have N6:Hid (∃nx,cN d5 (Value.int .i64) W6 295 (B.heap.size+1) nx/\Mw d vis.length nx/\jc nx (fun k=>eN (fun x=>x.drop 1 == k) (jM m vis))):=aS (by obtain⟨nx,Y,Z,h3⟩:=N5.out;exact⟨nx,Y.below b7.out,Z,h3⟩);generalize w5.heap.size=z5 at *;have k5:z5+2<=W6.heap.size:=k6;clear b3 f0 f1 av K0 K1 KB gx b7 J5 L5 N5 B5;obtain⟨outer,hV,hG⟩:=L6.out;have F6:=aS hG;have O6:=aS hV;have o6:W6.cell? ⟨w.heap.size+1,d+1,none⟩=some (.map (some B.heap.size)):=(B6.out.cell (p:=⟨w.heap.size+1,d+1,none⟩) c8).trans CS.out;have g3:=H6.out.cell 0;have g4:=H6.out.cell 1;have g5:=H6.out.cell 2;have g6:=H6.out.cell 3;simp only[aAb,Em]at g3 g4 g5 g6;have v1:w.heap.size+1<W6.heap.size:=by omega
   have v2:z5+1<W6.heap.size:=by omega
   clear hV hG L6;obtain⟨ov,fl⟩:∃ov,bD outer (J.take d)=ov:=⟨_,rfl⟩;have e2:=aS fl;obtain⟨vv,b6⟩:∃vv,ov.elim (.map none) WN=vv:=⟨_,rfl⟩;obtain⟨tb,dm⟩:∃tb,ov.isNone=tb:=⟨_,rfl⟩;have dd:∀n,(Instr.lookup 298 (.map (some B.heap.size)) (.agg #[.int .i64 bn,.int .i64 bo,.int .i64 bx,.int .i64 bB]) false).run Tryz.prog (W6.drewN n)=.ok vv (W6.drewN n):=fun n=>by have:=(O6.out.below (a8 (Below.refl _ _) n)).look eV.out;rw[er.out,fl,b6]at this;exact this
   have ls:∀w,(binOp BinOp.eql 299 vv (Value.map none)).run Tryz.prog w=.ok (.bool tb) w:=fun w=>by
    cases ov with
    |none=>rw[<-b6,<-dm];exact SN w
    |some b=>rw[<-b6,<-dm];exact SM b w
   have lf:∀w,(eqGuard BinOp.eql 299 (Operand.tmp 59) (Operand.const (Value.map none)) vv (Value.map none)).run Tryz.prog w=.ok () w:=fun w=>by
    cases ov with
    |none=>rw[<-b6];kernel_rfl
    |some b=>rw[<-b6];kernel_rfl
   have gv:=aS dm;clear fl b6 dm;go_quiet (fail);go_upto_if 60 with fail
   obtain⟨W7,e8⟩:∃W7,W7=W6.drewN nq:=⟨_,rfl⟩;have an:Hid (Below W6.heap.size W6 W7):=aS (by rw[e8];exact a8 (Below.refl _ _) _);rw[<-e8];have B7:=aS (B6.out.trans (an.out.mono (by omega)));have J7:=aS (J6.out.below an.out);have O7:=aS (O6.out.below an.out);have N7:Hid (∃nx,cN d5 (Value.int .i64) W7 295 (B.heap.size+1) nx/\Mw d vis.length nx/\jc nx (fun k=>eN (fun x=>x.drop 1 == k) (jM m vis))):=aS (by obtain⟨nx,Y,Z,h3⟩:=N6.out;exact⟨nx,Y.below an.out,Z,h3⟩);have H7:=aS (H6.out.below' an.out);have K7:=aS (K6.out.below' an.out);have k7:z5+2<=W7.heap.size:=EM k5 an.out.size;clear e8 dd ls lf g3 g4 g5 g6 o6 v1 v2 an B6 J6 O6 N6 H6 K6 k5 k6;go_cut [60] (fun _ wc=>Hid (Below B.heap.size Ws wc)/\Hid (dK wc (B.heap.size+2) bs m.length (vis++[i]))/\Hid (∃nx,cN d5 (Value.int .i64) wc 295 (B.heap.size+1) nx/\Mw d vis.length nx/\jc nx (fun k=>eN (fun x=>x.drop 1 == k) (jM m vis))) /\ Hid (∃outer bi,kN wc B.heap.size (B.heap.size+3) (d+1) (jM m vis) outer/\bD outer (J.take d)=some bi/\∀e∈outer,e.1=J.take d∨∃x∈jM m vis,x.1.take d=e.1)/\Hid (cg wc z5 295 [.int .i64 a0,.int .i64 a1,.int .i64 a2,.int .i64 a3])/\Hid (cg wc (z5+1) 295 [.int .i64 bn,.int .i64 bo,.int .i64 bx,.int .i64 bB])/\z5+2<=wc.heap.size)
   case first=>
    cases ov with
    |some bi=>cases gv.out;go_wp2_with fail;go_meet;exact⟨B7,J7,N7,aS ⟨outer,bi,O7.out,e2.out,fun e he=>.inr (F6.out e he)⟩,K7,H7,k7⟩
    |none=>
     cases gv.out;go_wp2_with fail;have o7:W7.cell? ⟨w.heap.size+1,d+1,none⟩=some (.map (some B.heap.size)):=(B7.out.cell (p:=⟨w.heap.size+1,d+1,none⟩) c8).trans CS.out;have k1:=H7.out.cell 0;have k2:=H7.out.cell 1;have k3:=H7.out.cell 2;have k4:=H7.out.cell 3;simp only[aAb,Em]at k1 k2 k3 k4;have A7:Below W7.heap.size W7 (W7.alloc (.map #[] 0)).drew:=((Below.refl W7.heap.size W7).alloc (cC _) (.map #[] 0)).drew;have ky:=aS (O7.out.below A7);have hR:cN (Value.int .i64) (Value.int .i64) (W7.alloc (.map #[] 0)).drew 3 W7.heap.size ([]:List (Int×Int)):=(cN.made W7 _ _ _).drew;have ec:∀e∈outer,e.2≠W7.heap.size:=fun e he h=>by have:=(O7.out.2.2.2.2.1 e he).lt;omega
     obtain⟨W8,dn,ho,hJ⟩:=ky.out.insert eV.out e2.out hR (by omega) ec;rw[er.out]at dn;have u1:w.heap.size+1<W7.heap.size:=by omega
     have u2:z5+1<W7.heap.size:=by omega
     have i2:Hid (bD (outer++[(J.take d,W7.heap.size)]) (J.take d)=some W7.heap.size):=aS (by rw[rH,e2.out];simp[bD]);have O8:=aS ho;have G8:=aS hJ;have b8:=aS A7;have ob:W7.heap.size<=(W7.alloc (.map #[] 0)).drew.heap.size:=A7.size;clear hR ec A7 ho hJ;go_region_with (fail)
     all_goals
      go_wp2_with fail;go_meet;exact⟨aS ((B7.out.trans (b8.out.mono (by omega))).grown G8.out (by omega) (fun k e=>by cases e;omega)),aS ((J7.out.below b8.out).kept G8.out (fun e=>by injection e;omega)),aS (by obtain⟨nx,Y,Z,h3⟩:=N7.out;exact⟨nx,(Y.below b8.out).kept G8.out (fun e=>by injection e;omega),Z,h3⟩),aS ⟨_,_,O8.out,i2.out,fun e he=>by rcases aAN.1 he with he|he;exact .inr (F6.out e he);rw[aAc.1 he];exact .inl rfl⟩,aS ((K7.out.below' b8.out).grown G8.out (fun e=>by injection e;omega)),aS ((H7.out.below' b8.out).grown G8.out (fun e=>by injection e;omega)),EM (by omega) G8.out.size⟩
   obtain⟨B9,J9,N9,O9,K9,H9,k9⟩:=hcut;obtain⟨h7,bi,cp,cf,hH⟩:=O9.out;have F9:=aS hH;have ad:Hid (0<=J.getD d 0/\J.getD d 0<=1000000):=aS (by rw[eM,bY (by rw[C.out.1];omega)];exact C.out.2.1.2 _ (aAz _));obtain⟨y,hy⟩:∃y,J.getD d 0=y:=⟨_,rfl⟩;have HY:=aS hy;rw[hy]at ad et;have y0:=ad.out.1;have y1:=ad.out.2;have o9:wc.cell? ⟨w.heap.size+1,d+1,none⟩=some (.map (some B.heap.size)):=(B9.out.cell (p:=⟨w.heap.size+1,d+1,none⟩) c8).trans CS.out;have g7:=H9.out.cell 0;have hc:=H9.out.cell 1;have hf:=H9.out.cell 2;have hh:=H9.out.cell 3;simp only[aAb,Em]at g7 hc hf hh;have h6:wc.cell? ⟨z5,d,none⟩=some (.int .i64 (y+1)):=(K9.out.cell d).trans et.out;have a6:(Instr.lookup 298 (.map (some B.heap.size)) (.agg #[.int .i64 bn,.int .i64 bo,.int .i64 bx,.int .i64 bB]) false).run Tryz.prog wc.drew=.ok (.map (some bi)) wc.drew:=by have:=(cp.below (az wc)).look eV.out;rw[er.out,cf]at this;exact this
   obtain⟨WA,dn,hX,a5⟩:=(cp.below (az wc)).put (e:=(J,c)) (bi:=bi) (by omega) C.out.1 C.out.2.1 (fun x hx=>⟨kc.out x hx,fs.out x hx⟩) cf;have h4:(Instr.mapUpdate 299 (.map (some bi)) (.int .i64 y) (.int .i64 c)).run Tryz.prog wc.drew=.ok () WA:=by rw[<-HY.out];exact dn
   have OA:=aS hX;have GA:=aS a5;have la:B.heap.size+3<=bi:=cp.2.2.2.1 _ (dU cf);have hU:bi≠z5:=(cp.2.2.2.2.1 _ (dU cf)).ne (p:=⟨z5,d,none⟩) h6;have q2:(0:Int)<=(d:Int)+1-1:=by omega
   clear dn hX a5 cp cf hH hy O9;have x1:IntKind.i64.wrap ((d:Int)+1-1)=(d:Int):=by rw[Int.add_sub_cancel];exact aAw _ (by omega)
   have x2:IntKind.i64.wrap (y+1-1)=y:=by rw[Int.add_sub_cancel];exact aAw _ (by omega)
   have x3:IntKind.i64.wrap (d:Int)=(d:Int):=aAw _ (by omega);have x4:IntKind.i64.wrap y=y:=aAw _ (by omega);go_upto_region 20 with fail
   go_cut [67] (fun _ wd=>Hid (Below B.heap.size Ws wd)/\Hid (dK wd (B.heap.size+2) bs m.length (vis++[i]))/\Hid (∃nx,cN d5 (Value.int .i64) wd 295 (B.heap.size+1) nx/\Mw d vis.length nx/\jc nx (fun k=>eN (fun x=>x.drop 1 == k) (jM m vis))) /\ Hid (iM wd B.heap.size (B.heap.size+3) (d+1) (jM m (vis++[i])))/\Hid (cg wd z5 295 [.int .i64 a0,.int .i64 a1,.int .i64 a2,.int .i64 a3])/\z5+2<=wd.heap.size)
   case first=>
    go_region_with (fail)
    all_goals
     go_wp2_with fail;go_meet;have D9:Below wc.heap.size wc wc.drew:=az _;exact⟨aS (B9.out.drew.grown GA.out (by show B.heap.size<=wc.heap.size;omega) (fun k e=>by cases e;omega)),aS ((J9.out.below D9).kept GA.out (fun e=>by injection e;omega)),aS (by obtain⟨nx,Y,Z,h3⟩:=N9.out;exact⟨nx,(Y.below D9).kept GA.out (fun e=>by injection e;omega),Z,h3⟩),aS ⟨_,by rw[e3.out];exact OA.out,fun e he=>by rw[e3.out];rcases F9.out e he with h|⟨x,hx,h⟩;exact⟨(J,c),by simp,h.symm⟩;exact⟨x,aDu _ hx,h⟩⟩,aS ((K9.out.below' D9).grown GA.out (fun e=>by injection e;omega)),EM k9 GA.out.size⟩
   clear x1 x2 x3 x4 B9 J9 N9 K9 H9 k9 OA GA h4 a6 g7 hc hf hh h6 o9 hU la;obtain⟨B9,J9,N9,L9,K9,k9⟩:=hcut;go_wp2_with fail;obtain⟨WD,hw,D0,DB,ns⟩:=jy wc 295 [.int .i64 0,.int .i64 0,.int .i64 0,.int .i64 0];rw[<-hw];clear hw;have KD:=aS (K9.out.below' DB.out);have HG:WD.drew.heap[wc.heap.size]?=some (.cells [Value.int .i64 0,.int .i64 0,.int .i64 0,.int .i64 0].toArray 295 (0,0)):=D0.out;obtain⟨cs,b5⟩:∃cs,cs=(((fV J).drop 1).take d).map (Value.int .i64):=⟨_,rfl⟩;have hF:cs.length=d:=by have:=fc (l:=J) (by rw[C.out.1];omega);rw[b5,RW,Io,Rw];omega
   have eo:=aS hF
   have ia:Hid (∀j v,cs[j]?=some v->WD.drew.cell? ((⟨z5,1,none⟩:Addr).add j)=some v):=aS (by
    intro j v hv;rw[b5,mT]at hv;have hj:j<d:=by have Y:=(dO.1 (by rw[b5,mT];exact hv:cs[j]?=some v)).1;omega
    rw[aBG hj,aBo,<-mT]at hv;rw[Addr.add_lit];refine(KD.out.cell (1+j)).trans ?_;have e:(fV J).map (Value.int .i64)=[.int .i64 a0,.int .i64 a1,.int .i64 a2,.int .i64 a3]:=by rw[ez.out];rfl
    rw[<-e];exact hv)
   have ib:Hid (∀v∈cs,v.oneCell'=true):=aS (fun v hv=>by rw[b5]at hv;obtain⟨x,_,rfl⟩:=Ac.1 hv;rfl);have ih:=aS b5;clear hF b5;have x1:((d:Int)+1).toNat=d+1:=by omega
   have x2:(0:Int)<=(d:Int)+1:=by omega
   have x3:(1:Int)<=(d:Int)+1:=by omega
   have x4:(d:Int)+1<=4:=by omega
   go_region_law (refine step_copy_splice rfl (.tmp 79) (.tmp 81) 51 51 rfl 3 Tryz.underlying51 (by kernel_rfl) (some ⟨wc.heap.size,0,none⟩) (some ⟨z5,1,none⟩) 4 4 d 3 rfl rfl wc.heap.size 0 [.int .i64 0,.int .i64 0,.int .i64 0,.int .i64 0] 295 HG cs (by rw[eo.out];exact(aAO (by omega)).symm) (fun _=>⟨rfl,_,rfl,ia.out⟩) (by rw[eo.out];simp;omega) ib.out wc.heap.size WD (Below.refl _ _).drew (cC _) ?_;intro w4 cd a4);go_upto_region 23 with fail
   obtain⟨e4,e5,e6,e7,fa⟩:=PI (fc (l:=J.drop 1) (by rw[Rw,C.out.1];omega));have ix:Hid (d5 (J.drop 1)=.agg #[.int .i64 e4,.int .i64 e5,.int .i64 e6,.int .i64 e7]):=aS (by unfold d5;rw[fa];rfl)
   have Q4:Hid (cg w4 wc.heap.size 295 [.int .i64 e4,.int .i64 e5,.int .i64 e6,.int .i64 e7]):=aS (by
    have e:splice [Value.int .i64 0,.int .i64 0,.int .i64 0,.int .i64 0] 0 cs=[.int .i64 e4,.int .i64 e5,.int .i64 e6,.int .i64 e7]:=by
     have Y:=Pg (l:=J) (d:=d) C.out.1 (by omega);rw[fa]at Y;have Z:=aAf (List.map (Value.int .i64)) Y;rw[aAe,<-ih.out]at Z;unfold splice;rw[eo.out,List.take_zero,aAB,SK];have h3:([Value.int .i64 0,.int .i64 0,.int .i64 0,.int .i64 0]:List Value).drop d=(List.replicate (4-d) (0:Int)).map (Value.int .i64):=by rw[List.map_replicate];have:[Value.int .i64 0,.int .i64 0,.int .i64 0,.int .i64 0]=List.replicate 4 (Value.int .i64 0):=rfl;rw[this,List.drop_replicate]
     rw[h3,Z];rfl
    unfold cg;rw[<-e];exact cd.out)
   have b9:Hid (f5 (J.drop 1)/\(J.drop 1).length=d):=aS ⟨⟨by rw[Rw,C.out.1];omega,fun z hz=>C.out.2.1.2 z (aBa hz)⟩,by rw[Rw,C.out.1];omega⟩;have B4:Hid (Below wc.heap.size wc w4.drew):=aS (DB.out.trans a4).drew;have h8:=aS (B9.out.trans (B4.out.mono (by omega)));have kl:=aS (J9.out.below B4.out);have km:=aS (L9.out.below B4.out);have my:=Q4.out.cell 0;have m1:=Q4.out.cell 1;have m3:=Q4.out.cell 2;have m4:=Q4.out.cell 3;simp only[aAb,Em]at my m1 m3 m4;obtain⟨nx,ej,a7,en⟩:=N9.out;obtain⟨v,hv⟩:∃v,(bD nx (J.drop 1)).getD 0=v:=⟨_,rfl⟩;have HV:=aS hv;have ml:0<=v/\v<=vis.length*21474836480000:=by
    rw[<-hv];cases hl:bD nx (J.drop 1)with
    |none=>exact⟨aCv _,by show(0:Int)<=_;omega⟩
    |some u=>have:=a7.2 _ (dU hl);exact⟨aBJ this.2.2.1,this.2.2.2⟩
   have nn:vis.length<=20000:=by have:=eL.out;omega
   have ld:=C.out.2.2;have mn:IntKind.i64.wrap (v+c)=v+c:=aAw _ (by omega);have a9:cN d5 (Value.int .i64) w4.drew 295 (B.heap.size+1) nx:=ej.below B4.out;have inj:∀e∈nx,d5 e.1=d5 (J.drop 1)->e.1=J.drop 1:=fun e he h=>(a7.2 e he).2.1.inj b9.out.1 h;have a6:=a9.look wU Tryz.underlying294 (Hq w4.drew) b9.out.1.good inj;obtain⟨jj,w3,av,eh,hI,dh⟩:=a9.entry wU Tryz.underlying294 Hq b9.out.1.good inj;rw[LQ,HV.out,ix.out]at a6 av dh;obtain⟨wE,mj,hs,hK⟩:=eh.store (t:=294) (v+c);have TE:=aS hs;have GE:Hid (∃w3,w4.drew.grownBy w3 (some (B.heap.size+1))/\w3.grownBy wE (some (B.heap.size+1))):=aS ⟨w3,hI,hK⟩;have gb:Hid (Mw d (vis.length+1) (kh nx (J.drop 1) (v+c))):=aS (by have:=a7.add b9.out.2 b9.out.1 C.out.2.2;unfold Cg at this;simp only at this;rw[hv]at this;exact this);have gd:Hid (jc (kh nx (J.drop 1) (v+c)) (fun k=>eN (fun x=>x.drop 1 == k) (jM m (vis++[i])))):=aS (Sx en e3.out C.out.2.2.1 hv);clear a9 inj eh hI hs hK ej a7 en hv cd a4 HG fa B9 J9 L9 N9 K9 D0 KD ld ml x1 x2 x3 x4;go_region_with (fail)
   all_goals
    go_wp2_with fail;go_roundg (gk-1)
    case measure=>omega
    case rel=>obtain⟨nb,a5,db⟩:=GE.out;have nk:w4.drew.heap.size<=nb.heap.size:=a5.size;have nl:wc.heap.size<=w4.drew.heap.size:=B4.out.size;exact⟨vis++[i],by rw[Sk,aAt];omega,ca,aS ((kl.out.kept a5 (fun e=>by injection e;omega)).kept db (fun e=>by injection e;omega)),aS ((km.out.kept a5 (by omega) (by omega)).kept db (by omega) (by omega)),aS ⟨_,TE.out,by rw[Sk,aAt];exact gb.out,gd.out⟩,aS ((h8.out.grown a5 (by omega) (fun k e=>by cases e;omega)).grown db (by omega) (fun k e=>by cases e;omega)),EM (by omega) db.size⟩
 obtain⟨gh,rfl⟩:∃g,gk=g+1:=⟨gk-1,by omega⟩;obtain⟨x,hx⟩:∃x,gs[j]?=some x:=⟨_,bY (by rw[HP.out];omega)⟩;obtain⟨ba,oa,c0,rfl,hC,e0,e1,hi⟩:=h9.out j x hx;have d0:=(U.out.cell (p:=⟨ba,oa+j*2,none⟩) hC).trans e0;have d1:=(U.out.cell (p:=⟨ba,oa+j*2+1,none⟩) hC).trans e1;have ad:=aS (fv.out x (eQ hx));obtain⟨A1,c1,rfl,lc,nd,hB⟩:=hi.open_;obtain⟨N,hN⟩:∃N,x.2=N:=⟨_,rfl⟩;rw[hN]at d1;have HI:=aS (hi.below U.out);have HK:Hid (f5 x.1):=aS ⟨by rw[ad.out.1];omega,ad.out.2.1⟩;have HX:=aS hx;have fz:=aS hN;rw[ad.out.1]at lc d0 HI;obtain⟨m,hm,hms,ch,cm⟩:=HM.out
 have kd:Hid (tot 0 (gs.take j) x.1=0):=aS (MW (fun y hy he=>by
  obtain⟨i,hi,ey⟩:=aBw hy;have lg:i<j:=by rw[Io]at hi;omega
  have Y:(gs.map Prod.fst)[i]?=some x.1:=by rw[mT,<-aBG lg,bY hi,ey,<-he];rfl
  have Z:(gs.map Prod.fst)[j]?=some x.1:=by rw[mT,HX.out];rfl
  have:=(aCH (l:=gs.map Prod.fst) (by rw[RW,HP.out];omega) HD.out).1 (Y.trans Z.symm);omega))
 have j0:=aS hm;have bd:=aS hms;have c4:=aS ch
 have kk:Hid (∀k,tot 0 (gs.take (j+1)) k=tot 0 (gs.take j) k+if k=x.1 then N else 0):=aS (by
  intro k;rw[aY _ HX.out,MX,aCp,fz.out];by_cases e:x.1=k
  ·rw[oR e,oR e.symm]
  ·rw[iF e,iF (fun h=>e h.symm)])
 have eO:Hid (0<N/\N<=1073741824):=aS (by rw[<-fz.out];exact ad.out.2.2)
 have kb:Hid ((kh m x.1 N).length<=j+1):=aS (by
   unfold kh;split
   ·rw[RW];omega
   ·rw[Sk];exact Nat.succ_le_succ cm)
 have ka:Hid (jc (kh m x.1 N) (tot 0 (gs.take (j+1)))):=aS ((c4.out.new kd.out eO.out.1).congr (fun k=>(kk.out k).symm))
 have j9:Hid (mh O (kh m x.1 N)):=aS ⟨wt hms.1 _ _,fun e he=>by
  rcases rc he with he|rfl
  ·exact hms.2 e he
  exact⟨ad.out.1,HK.out,eO.out.1,by simp only;have:=eO.out.2;omega⟩⟩
 clear hx e0 e1 hi hB hN HM hm hms ch cm;generalize x.1=J at *;go_wp2_with fail;obtain⟨W3,al,G0,GB,nu⟩:=jy wr 123 [.slice A1 O c1,.int .i64 N];rw[<-al];clear al;have g0:=G0.out.cell 0;have g1:=G0.out.cell 1;simp only[aAb,Em]at g0 g1
 go_region_with (first
  |(go_at_call 226;refine(Pc _ _ _ (HI.out.below (GB.out.trans (az _))) HK.out.1 (fun z hz=>by have:=HK.out.2 z hz;omega)).mono ?_;rintro e w2 ⟨rfl,hb2'⟩;have c7:=ak hb2';have a9:cN d5 (Value.int .i64) w2 295 w1.heap.size m:=j0.out.below (aa GB.out c7);have inj:∀e∈m,d5 e.1=d5 J->e.1=J:=fun e he h=>(bd.out.2 e he).2.1.inj HK.out h;obtain⟨w4,mj,hq,cd⟩:=a9.update (t:=294) wU Tryz.underlying294 HK.out.good inj N;have fp:=G0.out.below' c7;have k0:=fp.cell 1;simp only[aAb,Em]at k0;have T4:=aS hq;have G4:=aS cd;have cy:=aS (aa GB.out c7);clear a9 inj hq cd fp c7 hb2'))
 all_goals
  go_wp2_with fail;go_roundg gh
  case measure=>omega
  case rel=>have s4:w1.heap.size<w2.heap.size:=TK ei cy.out.size;exact⟨j+1,rfl,by omega,aS ⟨_,T4.out,j9.out,ka.out,kb.out⟩,aS ((P2.out.below' cy.out).grown G4.out (by simp;omega)),aS ((bf.out.below' cy.out).grown G4.out (by simp;omega)),aS ((U.out.trans (cy.out.mono du)).grown G4.out (by omega) (fun k e=>by cases e;omega))⟩
end Go.Proofs.YtfoceannfdbinaaGreat
