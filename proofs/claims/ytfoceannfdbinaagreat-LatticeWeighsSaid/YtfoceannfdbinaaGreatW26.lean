/- Lemmas. -/
import Derived.Test.YtfoceannfdbinaaGreatW24
set_option linter.all false
set_option maxRecDepth 1000000
set_option maxHeartbeats 32000000
namespace Go.Proofs.YtfoceannfdbinaaGreat
open Go.RowKit
theorem xY s{a b c d}(j:b≠0)(hd:d≠0):mkRat (dD s a) b+mkRat (dD s c) d=mkRat (dD s (a*d+c*b)) (b*d):=by rw[aCT _ _ j hd];congr 1;unfold dD;cases s<;>simp[aAq,aCz,aCL]<;>omega
theorem xZ{s t a b c d}(u:s≠t)(j:b≠0)(hd:d≠0)(h:c*b<=a*d):mkRat (dD s a) b+mkRat (dD t c) d=mkRat (dD s (a*d-c*b)) (b*d):=by rw[aCT _ _ j hd];congr 1;unfold dD;cases s<;>cases t<;>simp_all [aCL]<;>rw[aDC (by omega)]<;>simp[aAq]<;>omega
theorem x7{s t a b c d}(u:s≠t)(j:b≠0)(hd:d≠0)(h:a*d<c*b):mkRat (dD s a) b+mkRat (dD t c) d=mkRat (dD t (c*b-a*d)) (b*d):=by rw[aCT _ _ j hd];congr 1;unfold dD;cases s<;>cases t<;>simp_all [aCL]<;>rw[aDC (by omega)]<;>simp[aAq]<;>omega

theorem Y4 w(n:Nat)(hn:n<9223372036854775808): Calls Tryz.prog 23 #[.int .i64 (n:Int)] w fun e w'=>∃u,e=.returned u/\aB w.heap.size w' u (n:Rat)/\Below w.heap.size w w':=by have HQ:Hid ((n:Rat)=mkRat (dD false n) 1):=aS (by simp only[dD,aBF,aCq,Rat.mkRat_one];exact(aBP n).symm);rw[HQ.out];have hlt:decide ((n:Int)<0)=false:=iS (by omega);go_enter Tryz.func23,Tryz.ntmps23;go_wp2_with fail;obtain⟨W,N,P0,PB,ad⟩:=jy w 31 [.bool false,.slice none 0 0,.slice none 0 0];rw[<-N];clear N;refine(Nh W n hn).mono ?_;rintro e wz ⟨B,rfl⟩;cases B;go_wp2_with fail;refine(wG W n (by omega)).mono ?_;rintro e j ⟨v1,rfl,t1,x⟩;have T1:=aS t1;have C:Hid (Below W.heap.size W j):=aS x;have al:W.heap.size<=j.heap.size:=x.size;clear t1 x;go_wp2_with fail;have M1:Hid (Calls Tryz.prog 72 #[.bool false,v1,.slice none 0 0] j fun e w'=>∃v',e=.returned v'/\aB j.heap.size w' v' (mkRat (dD false n) 1)/\Below j.heap.size j w'):=aS (by obtain⟨l,dl,rfl⟩:=T1.out.digs;exact Bn j false v1 _ l [] 64 dl (cQ.nil_ _) (by omega) (by simp[val]) (by omega) (by omega));refine(M1.out).mono ?_;rintro e w2 ⟨v2,rfl,t2,y⟩;have T2:=aS t2;have J:Hid (Below j.heap.size j w2):=aS y;have am:j.heap.size<=w2.heap.size:=y.size;obtain⟨A,m,c,A',m',c',rfl,U,Y,Z,td⟩:=t2.open_;obtain⟨r0,r1,r2,z0,z1,z2⟩:=(P0.out.below' (aa C.out J.out)).three;have TA:=aS U;have TB:=aS Y;have TC:=aS Z;have TD:=aS td;clear U Y Z td;clear t2 y;go_wp2_with fail;refine IN (v:=.agg #[.bool (ay (mkRat (dD false n) 1)),.slice A m c,.slice A' m' c']) (by simp[results,Tryz.results23,go_sem,r0,r1,r2]) rfl ⟨_,rfl,?_,au (PB.out.trans (((aa C.out J.out)).mono (by omega))) (by omega) _ _ _⟩;exact(aB.box3 TA.out TB.out TC.out TD.out (by omega) _ _ _).mono (by omega)

theorem Ye w(n d:Nat)(hn:n<9223372036854775808)(hd:d<9223372036854775808)(d0:0<d): Calls Tryz.prog 63 #[.int .i64 (n:Int),.int .i64 (d:Int)] w fun e w'=>∃u,e=.returned u/\aB w.heap.size w' u ((n:Rat)/(d:Rat))/\Below w.heap.size w w':=by have HQ:Hid ((n:Rat)/(d:Rat)=mkRat (dD false n) d):=aS (by simp only[dD,aBF,aCq,Rat.mkRat_eq_div];rw[aBP n]);rw[HQ.out];have hlt:decide ((n:Int)<0)=false:=iS (by omega);have ad:decide ((d:Int)<0)=false:=iS (by omega);go_enter Tryz.func63,Tryz.ntmps63;go_wp2_with fail;obtain⟨W,Z,P0,PB,al⟩:=jy w 31 [.bool false,.slice none 0 0,.slice none 0 0];rw[<-Z];clear Z;refine(Nh W n hn).mono ?_;rintro e wz ⟨B,rfl⟩;cases B;go_wp2_with fail;refine(wG W n (by omega)).mono ?_;rintro e C ⟨v1,rfl,t1,j⟩;have T1:=aS t1;have U:Hid (Below W.heap.size W C):=aS j;have am:W.heap.size<=C.heap.size:=j.size;clear t1 j;go_wp2_with fail;refine(Nh C d hd).mono ?_;rintro e wz ⟨B,rfl⟩;cases B;go_wp2_with fail;refine(wG C d (by omega)).mono ?_;rintro e J ⟨v2,rfl,t2,x⟩;have T2:=aS t2;have N:Hid (Below C.heap.size C J):=aS x;have an:C.heap.size<=J.heap.size:=x.size;clear t2 x;go_wp2_with fail;refine(sW J false v1 v2 n d 64 (T1.out.below N.out) T2.out (by omega) (by omega) d0 (by omega) (by omega)).mono ?_;rintro e w3 ⟨v3,rfl,t3,y⟩;have T3:=aS t3;have Y:Hid (Below J.heap.size J w3):=aS y;have av:J.heap.size<=w3.heap.size:=y.size;obtain⟨A,m,c,A',m',c',rfl,ta,tb,tc,td⟩:=t3.open_;obtain⟨r0,r1,r2,z0,z1,z2⟩:=(P0.out.below' (aa (aa U.out N.out) Y.out)).three;have TA:=aS ta;have TB:=aS tb;have TC:=aS tc;have TD:=aS td;clear ta tb tc td;clear t3 y;go_wp2_with fail;refine IN (v:=.agg #[.bool (ay (mkRat (dD false n) d)),.slice A m c,.slice A' m' c']) (by simp[results,Tryz.results63,go_sem,r0,r1,r2]) rfl ⟨_,rfl,?_,au (PB.out.trans (((aa (aa U.out N.out) Y.out)).mono (by omega))) (by omega) _ _ _⟩;exact(aB.box3 TA.out TB.out TC.out TD.out (by omega) _ _ _).mono (by omega)

theorem FW s{n d}(hd:d≠0):ci (mkRat (dD s n) d)=if n=0 then 0 else if s then -1 else 1:=by
 unfold ci;by_cases hn:n=0
 ·rw[oR hn,oR ((kn s hd).2 hn)]
 rw[iF hn,iF (fun e=>hn ((kn s hd).1 e))];have:mkRat (dD s n) d<0↔s=true:=by rw[<-zo];obtain⟨u,_⟩:=red s n d (aCy hd);have j:0<n/Nat.gcd n d:=Nat.div_pos (aCX _ (aCy hn)) (aDe _ (aCy hn));rw[sZ u,lT j,aBj]
 simp only[this]

theorem lU w v q k(h:aG k w v q)(h0:0<k): Calls Tryz.prog 26 #[v] w fun e w'=>e=.returned (.int .i64 (ci q))/\Below w.heap.size w w':=by
 obtain⟨s,vn,vd,ln,ld,n,d,rfl,B,C,J,N,U,Y,Z,h8,h9⟩:=h.parts h0;have H1:=aS B;have H2:=aS C;have H3:=aS J;have H4:=aS N;have H5:=aS U;have H6:=aS Y;have H7:=aS Z;have H8:=aS h8;have H9:=aS h9;clear h B C J N U Y Z h8 h9;have u:Hid (ci q=if n=0 then 0 else if s then -1 else 1):=aS (by rw[H5.out];exact FW s (by have:=H8.out;omega));go_enter Tryz.func26,Tryz.ntmps26;go_wp2_with fail;obtain⟨W,hW,P0,j,ad⟩:=jy w 31 [.bool s,vn,vd];rw[<-hW];clear hW;obtain⟨p0,p1,p2,_,_,_⟩:=P0.out.three;go_wp2_with fail;refine(lQ W vn ln (H1.out.below j.out)).mono ?_;rintro e w1 ⟨x,v1,rfl,t1,_,_⟩;cases x;rw[H3.out]at t1;obtain⟨A,m,c,rfl,hm,al⟩:=t1.len;clear t1;by_cases hz:m=0
 ·obtain rfl:n=0:=by omega
  subst hz;go_wp2_with fail;go_ret;exact⟨aD (by have:=u.out;simpa using this.symm),j.out⟩
 have am:((m:Int) == 0)=false:=by simp;omega
 have y:Hid (n≠0):=aS (by omega);cases s
 ·go_wp2_with fail;go_ret;exact⟨aD (by rw[u.out,iF y.out];rfl),j.out⟩
 go_wp2_with fail;go_ret;exact⟨aD (by rw[u.out,iF y.out];rfl),j.out⟩

theorem Xa w v v' q r k(h:aG k w v q)(h':aG k w v' r)(h0:0<k)(hk:k<=549755813888): Calls Tryz.prog 21 #[v,v'] w fun e w'=>∃u,e=.returned u/\aB w.heap.size w' u (q+r)/\Below w.heap.size w w':=by
 obtain⟨s,vn,vd,ln,ld,n,d,rfl,h1,h2,h3,h4,h5,h6,h7,h8,h9⟩:=h.parts h0;have H1:=aS h1;have H2:=aS h2;have H3:=aS h3;have H4:=aS h4;have H5:=aS h5;have H6:=aS h6;have H7:=aS h7;have H8:=aS h8;have H9:=aS h9;clear h h1 h2 h3 h4 h5 h6 h7 h8 h9;obtain⟨t,a3,a7,c5,cp,n',d',rfl,h1,h2,h3,h4,h5,h6,h7,h8,h9⟩:=h'.parts h0;have G1:=aS h1;have G2:=aS h2;have G3:=aS h3;have G4:=aS h4;have G5:=aS h5;have G6:=aS h6;have G7:=aS h7;have G8:=aS h8;have G9:=aS h9;clear h' h1 h2 h3 h4 h5 h6 h7 h8 h9;go_enter Tryz.func21,Tryz.ntmps21;go_wp2_with fail;obtain⟨W,hW,P0,P1,P2,PB,c7⟩:=box3 w 31 [.bool s,vn,vd] 31 [.bool t,a3,a7] 31 [.bool false,.slice none 0 0,.slice none 0 0];rw[<-hW];clear hW;obtain⟨p0,p1,p2,_,_,_⟩:=P0.out.three;obtain⟨q0,q1,q2,_,_,_⟩:=P1.out.three;have bm:True:=trivial;have bn:True:=trivial;have bo:True:=trivial;have bx:True:=trivial;have bB:True:=trivial;have b0:True:=trivial;have b1:True:=trivial;have b2:True:=trivial;have b3:True:=trivial
 go_region_held3 (fun w'=>w'.cell? ⟨w.heap.size,0,none⟩=some (.bool s)/\w'.cell? ⟨w.heap.size,1,none⟩=some (vn)/\w'.cell? ⟨w.heap.size,2,none⟩=some (vd)/\w'.cell? ⟨w.heap.size+1,0,none⟩=some (.bool t)/\w'.cell? ⟨w.heap.size+1,1,none⟩=some (a3)/\w'.cell? ⟨w.heap.size+1,2,none⟩=some (a7)) (first|assumption|(refine dE hS ?_ ?_ _ _ _<;>omega)|go_keep)
  (first
   |(go_at_call_of 70 (vn);have _t:=bm;refine(CB _ _ ln (H1.out.below (PB.out.trans (az _)))).mono ?_;rintro e w1 ⟨v1,rfl,t1,b4⟩;have y:Hid (Below W.heap.size W w1):=aS (by first|exact b4|exact ak b4);have c8:W.heap.size<=w1.heap.size:=y.out.size;have T1:=aS t1;have hS:=jB (P0.out.below' y.out) (P1.out.below' y.out);rw[H3.out]at t1;have T1:=aS t1;clear t1 b4 bm _t)
   |(go_at_call_of 71 (Value.agg #[.bool t,a3,a7]);have _t:=bn;refine(Gv w1 _ _ _ cp d' ((G2.out.below PB.out).below y.out) G4.out).mono ?_;rintro e w2 ⟨v2,rfl,t2,b8⟩;have B:Hid (Below w1.heap.size w1 w2):=aS b8;have c9:w1.heap.size<=w2.heap.size:=B.out.size;have T2:=aS t2;have hS:=jB (P0.out.below' (aa y.out B.out)) (P1.out.below' (aa y.out B.out));clear t2 b8 bn _t)
   |(go_at_call_of 69 (v1);have _t:=bo;refine(vG w2 _ _ n d' k k (T1.out.below B.out) T2.out H6.out G7.out (by omega) (by omega)).mono ?_;rintro e w3 ⟨v3,rfl,t3,b9,_⟩;have N:Hid (Below w2.heap.size w2 w3):=aS b9;have db:w2.heap.size<=w3.heap.size:=N.out.size;have T3:=aS t3;have hS:=jB (P0.out.below' (aa (aa y.out B.out) N.out)) (P1.out.below' (aa (aa y.out B.out) N.out));clear t3 b9 bo _t)
   |(go_at_call_of 70 (a3);have _t:=bx;refine(CB w3 _ c5 ((G1.out.below PB.out).below (aa (aa y.out B.out) N.out))).mono ?_;rintro e w4 ⟨v4,rfl,t4,ca⟩;have C:Hid (Below w3.heap.size w3 w4):=aS ca;have dd:w3.heap.size<=w4.heap.size:=C.out.size;have T4:=aS t4;have hS:=jB (P0.out.below' (aa (aa (aa y.out B.out) N.out) C.out)) (P1.out.below' (aa (aa (aa y.out B.out) N.out) C.out));rw[G3.out]at t4;have T4:=aS t4;clear t4 ca bx _t)
   |(go_at_call_of 71 (Value.agg #[.bool s,vn,vd]);have _t:=bB;refine(Gv w4 _ _ _ ld d ((H2.out.below PB.out).below (aa (aa (aa y.out B.out) N.out) C.out)) H4.out).mono ?_;rintro e w5 ⟨v5,rfl,t5,cb⟩;have U:Hid (Below w4.heap.size w4 w5):=aS cb;have dh:w4.heap.size<=w5.heap.size:=U.out.size;have T5:=aS t5;have hS:=jB (P0.out.below' (aa (aa (aa (aa y.out B.out) N.out) C.out) U.out)) (P1.out.below' (aa (aa (aa (aa y.out B.out) N.out) C.out) U.out));clear t5 cb bB _t)
   |(go_at_call_of 69 (v4);have _t:=b0;refine(vG w5 _ _ n' d k k (T4.out.below U.out) T5.out G6.out H7.out (by omega) (by omega)).mono ?_;rintro e w6 ⟨v6,rfl,t6,cd,_⟩;have S6:Hid (Below w5.heap.size w5 w6):=aS cd;have dl:w5.heap.size<=w6.heap.size:=S6.out.size;have T6:=aS t6;have hS:=jB (P0.out.below' (aa (aa (aa (aa (aa y.out B.out) N.out) C.out) U.out) S6.out)) (P1.out.below' (aa (aa (aa (aa (aa y.out B.out) N.out) C.out) U.out) S6.out));clear t6 cd b0 _t)
   |(go_at_call_of 71 (Value.agg #[.bool s,vn,vd]);have _t:=b1;refine(Gv w6 _ _ _ ld d ((H2.out.below PB.out).below (aa (aa (aa (aa (aa y.out B.out) N.out) C.out) U.out) S6.out)) H4.out).mono ?_;rintro e w7 ⟨v7,rfl,t7,cf⟩;have Z:Hid (Below w6.heap.size w6 w7):=aS cf;have dm:w6.heap.size<=w7.heap.size:=Z.out.size;have T7:=aS t7;have hS:=jB (P0.out.below' (aa (aa (aa (aa (aa (aa y.out B.out) N.out) C.out) U.out) S6.out) Z.out)) (P1.out.below' (aa (aa (aa (aa (aa (aa y.out B.out) N.out) C.out) U.out) S6.out) Z.out));clear t7 cf b1 _t)
   |(go_at_call_of 71 (Value.agg #[.bool t,a3,a7]);have _t:=b2;refine(Gv w7 _ _ _ cp d' ((G2.out.below PB.out).below (aa (aa (aa (aa (aa (aa y.out B.out) N.out) C.out) U.out) S6.out) Z.out)) G4.out).mono ?_;rintro e w8 ⟨v8,rfl,t8,ch⟩;have S8:Hid (Below w7.heap.size w7 w8):=aS ch;have dn:w7.heap.size<=w8.heap.size:=S8.out.size;have T8:=aS t8;have hS:=jB (P0.out.below' (aa (aa (aa (aa (aa (aa (aa y.out B.out) N.out) C.out) U.out) S6.out) Z.out) S8.out)) (P1.out.below' (aa (aa (aa (aa (aa (aa (aa y.out B.out) N.out) C.out) U.out) S6.out) Z.out) S8.out));clear t8 ch b2 _t)
   |(go_at_call_of 69 (v7);have _t:=b3;refine(vG w8 _ _ d d' k k (T7.out.below S8.out) T8.out H7.out G7.out (by omega) (by omega)).mono ?_;rintro e w9 ⟨v9,rfl,t9,cm,_⟩;have Y:Hid (Below w8.heap.size w8 w9):=aS cm;have bd:w8.heap.size<=w9.heap.size:=Y.out.size;have T9:=aS t9;have hS:=jB (P0.out.below' (aa (aa (aa (aa (aa (aa (aa (aa y.out B.out) N.out) C.out) U.out) S6.out) Z.out) S8.out) Y.out)) (P1.out.below' (aa (aa (aa (aa (aa (aa (aa (aa y.out B.out) N.out) C.out) U.out) S6.out) Z.out) S8.out) Y.out));clear t9 cm b3 _t))
 have an:=aS (P0.out.below' (aa (aa (aa (aa (aa (aa (aa (aa y.out B.out) N.out) C.out) U.out) S6.out) Z.out) S8.out) Y.out));have av:=aS (P1.out.below' (aa (aa (aa (aa (aa (aa (aa (aa y.out B.out) N.out) C.out) U.out) S6.out) Z.out) S8.out) Y.out));clear p0 p1 p2 q0 q1 q2;obtain⟨p0,p1,p2,_,_,_⟩:=an.out.three;obtain⟨q0,q1,q2,_,_,_⟩:=av.out.three;by_cases b5:s=t
 ·subst b5;have HQ:Hid (q+r=mkRat (dD s (n*d'+n'*d)) (d*d')):=aS (by rw[H5.out,G5.out,xY s (by have:=H8.out;omega) (by have:=G8.out;omega)]);go_wp2_with fail
  go_region_held3 (fun w'=>w'.cell? ⟨w.heap.size,0,none⟩=some (.bool s)/\w'.cell? ⟨w.heap.size,1,none⟩=some (vn)/\w'.cell? ⟨w.heap.size,2,none⟩=some (vd)/\w'.cell? ⟨w.heap.size+1,0,none⟩=some (.bool s)/\w'.cell? ⟨w.heap.size+1,1,none⟩=some (a3)/\w'.cell? ⟨w.heap.size+1,2,none⟩=some (a7)) (first|assumption|(refine dE hS ?_ ?_ _ _ _<;>omega)|go_keep)
   (first
    |(go_at_call 73;refine(Dj _ _ _ (n*d') (n'*d) (k+k) ((((((((T3.out.below C.out).below U.out).below S6.out).below Z.out).below S8.out).below Y.out)).drew) (((((T6.out.below Z.out).below S8.out).below Y.out)).drew) (bv H6.out G7.out) (bv G6.out H7.out) (by omega)).mono ?_;rintro e J ⟨cu,rfl,t10,al,_⟩;have j:Hid (Below w9.heap.size w9 J):=aS (by first|exact al|exact ak al);have bf:w9.heap.size<=J.heap.size:=j.out.size;have a9:=aS t10;have hS:=jB (P0.out.below' (aa (aa (aa (aa (aa (aa (aa (aa (aa y.out B.out) N.out) C.out) U.out) S6.out) Z.out) S8.out) Y.out) j.out)) (P1.out.below' (aa (aa (aa (aa (aa (aa (aa (aa (aa y.out B.out) N.out) C.out) U.out) S6.out) Z.out) S8.out) Y.out) j.out));clear t10 al)
    |(go_at_call 72;refine(sW J s _ _ (n*d'+n'*d) (d*d') (k+k+1) a9.out (T9.out.below j.out) (by have h1:=bv H6.out G7.out;have h2:=bv G6.out H7.out;rw[Lt];omega) (by have:=bv H7.out G7.out;rw[Lt];omega) (aBg H8.out G8.out) (by omega) (by omega)).mono ?_;rintro e a4 ⟨cx,rfl,t11,am⟩;have ad:Hid (Below J.heap.size J a4):=aS am;have bj:J.heap.size<=a4.heap.size:=ad.out.size;have b7:=aS t11;have hS:=jB (P0.out.below' (aa (aa (aa (aa (aa (aa (aa (aa (aa (aa y.out B.out) N.out) C.out) U.out) S6.out) Z.out) S8.out) Y.out) j.out) ad.out)) (P1.out.below' (aa (aa (aa (aa (aa (aa (aa (aa (aa (aa y.out B.out) N.out) C.out) U.out) S6.out) Z.out) S8.out) Y.out) j.out) ad.out));obtain⟨A,m,c,A',m',c',rfl,ta,tb,tc,td⟩:=t11.open_;obtain⟨r0,r1,r2,z0,z1,z2⟩:=(P2.out.below' (aa (aa (aa (aa (aa (aa (aa (aa (aa (aa y.out B.out) N.out) C.out) U.out) S6.out) Z.out) S8.out) Y.out) j.out) ad.out)).three;have TA:=aS ta;have TB:=aS tb;have TC:=aS tc;have TD:=aS td;clear ta tb tc td;clear t11 am))
  go_wp2_with fail;refine IN (v:=.agg #[.bool (ay (mkRat (dD s (n*d'+n'*d)) (d*d'))),.slice A m c,.slice A' m' c']) (by simp[results,Tryz.results21,go_sem,r0,r1,r2]) rfl ⟨_,rfl,?_,au (PB.out.trans (((aa (aa (aa (aa (aa (aa (aa (aa (aa (aa y.out B.out) N.out) C.out) U.out) S6.out) Z.out) S8.out) Y.out) j.out) ad.out)).mono (by omega))) (by omega) _ _ _⟩;rw[HQ.out];exact(aB.box3 TA.out TB.out TC.out TD.out (by omega) _ _ _).mono (by omega)
 have c6:(s == t)=false:=by cases s<;>cases t<;>simp_all
 have b6:=aS b5;clear b5;rcases By (n*d') (n'*d)with hlt|hge
 ·have HQ:Hid (q+r=mkRat (dD t (n'*d-n*d')) (d*d')):=aS (by rw[H5.out,G5.out,x7 b6.out (by have:=H8.out;omega) (by have:=G8.out;omega) hlt]);have OC:=wA w9 _ _ _ _ ((((((T3.out.below C.out).below U.out).below S6.out).below Z.out).below S8.out).below Y.out) (((T6.out.below Z.out).below S8.out).below Y.out);rw[ji hlt]at OC;have c4:=aS hlt;clear hlt;go_wp2_with fail;refine OC.mono ?_;rintro e wo ⟨rfl,nd,rfl⟩;obtain⟨V9,a6⟩:∃V,V=w9.drewN nd:=⟨_,rfl⟩;have x:Hid (Below w9.heap.size w9 V9):=aS (by rw[a6];exact a8 (Below.refl _ _) nd);have U3:=aS ((((((((T3.out.below C.out).below U.out).below S6.out).below Z.out).below S8.out).below Y.out)).below x.out);have U6:=aS (((((T6.out.below Z.out).below S8.out).below Y.out)).below x.out);have ba:=aS (T9.out.below x.out);have a5:=aS (aa Y.out x.out);have a0:=aS (an.out.below' x.out);have a1:=aS (av.out.below' x.out);have a2:w8.heap.size<=V9.heap.size:=a5.out.size;rw[<-a6];clear a6 x T9 Y an av p0 p1 p2 q0 q1 q2 bd T3 T6;have T9:=ba;have Y:=a5;have bd:=a2;have an:=a0;have av:=a1;obtain⟨w9,rfl⟩:∃w9,w9=V9:=⟨_,rfl⟩;clear ba a5 a0 a1 a2;obtain⟨p0,p1,p2,_,_,_⟩:=an.out.three;obtain⟨q0,q1,q2,_,_,_⟩:=av.out.three;go_wp2_with fail
  go_region_held3 (fun w'=>w'.cell? ⟨w.heap.size,0,none⟩=some (.bool s)/\w'.cell? ⟨w.heap.size,1,none⟩=some (vn)/\w'.cell? ⟨w.heap.size,2,none⟩=some (vd)/\w'.cell? ⟨w.heap.size+1,0,none⟩=some (.bool t)/\w'.cell? ⟨w.heap.size+1,1,none⟩=some (a3)/\w'.cell? ⟨w.heap.size+1,2,none⟩=some (a7)) (first|assumption|(refine dE hS ?_ ?_ _ _ _<;>omega)|go_keep)
   (first
    |(go_at_call 75;refine(qk _ _ _ (n'*d) (n*d') (k+k) (U6.out.drew) (U3.out.drew) (bv G6.out H7.out) (aDh c4.out) (by omega)).mono ?_;rintro e J ⟨cu,rfl,t10,al,_⟩;have j:Hid (Below w9.heap.size w9 J):=aS (by first|exact al|exact ak al);have bf:w9.heap.size<=J.heap.size:=j.out.size;have a9:=aS t10;have hS:=jB (P0.out.below' (aa (aa (aa (aa (aa (aa (aa (aa (aa y.out B.out) N.out) C.out) U.out) S6.out) Z.out) S8.out) Y.out) j.out)) (P1.out.below' (aa (aa (aa (aa (aa (aa (aa (aa (aa y.out B.out) N.out) C.out) U.out) S6.out) Z.out) S8.out) Y.out) j.out));clear t10 al)
    |(go_at_call 72;refine(sW J t _ _ (n'*d-n*d') (d*d') (k+k+1) a9.out (T9.out.below j.out) (by have h2:=bv G6.out H7.out;rw[Lt];omega) (by have:=bv H7.out G7.out;rw[Lt];omega) (aBg H8.out G8.out) (by omega) (by omega)).mono ?_;rintro e a4 ⟨cx,rfl,t11,am⟩;have ad:Hid (Below J.heap.size J a4):=aS am;have bj:J.heap.size<=a4.heap.size:=ad.out.size;have b7:=aS t11;have hS:=jB (P0.out.below' (aa (aa (aa (aa (aa (aa (aa (aa (aa (aa y.out B.out) N.out) C.out) U.out) S6.out) Z.out) S8.out) Y.out) j.out) ad.out)) (P1.out.below' (aa (aa (aa (aa (aa (aa (aa (aa (aa (aa y.out B.out) N.out) C.out) U.out) S6.out) Z.out) S8.out) Y.out) j.out) ad.out));obtain⟨A,m,c,A',m',c',rfl,ta,tb,tc,td⟩:=t11.open_;obtain⟨r0,r1,r2,z0,z1,z2⟩:=(P2.out.below' (aa (aa (aa (aa (aa (aa (aa (aa (aa (aa y.out B.out) N.out) C.out) U.out) S6.out) Z.out) S8.out) Y.out) j.out) ad.out)).three;have TA:=aS ta;have TB:=aS tb;have TC:=aS tc;have TD:=aS td;clear ta tb tc td;clear t11 am))
  go_wp2_with fail;refine IN (v:=.agg #[.bool (ay (mkRat (dD t (n'*d-n*d')) (d*d'))),.slice A m c,.slice A' m' c']) (by simp[results,Tryz.results21,go_sem,r0,r1,r2]) rfl ⟨_,rfl,?_,au (PB.out.trans (((aa (aa (aa (aa (aa (aa (aa (aa (aa (aa y.out B.out) N.out) C.out) U.out) S6.out) Z.out) S8.out) Y.out) j.out) ad.out)).mono (by omega))) (by omega) _ _ _⟩;rw[HQ.out];exact(aB.box3 TA.out TB.out TC.out TD.out (by omega) _ _ _).mono (by omega)
 have HQ:Hid (q+r=mkRat (dD s (n*d'-n'*d)) (d*d')):=aS (by rw[H5.out,G5.out,xZ b6.out (by have:=H8.out;omega) (by have:=G8.out;omega) hge]);obtain⟨z,hz,du⟩:∃z,i9 (n*d') (n'*d)=z/\decide (0<=z)=true:=⟨_,rfl,lT (by unfold i9;rw[iF (by omega)];split<;>omega)⟩;have OC:=wA w9 _ _ _ _ ((((((T3.out.below C.out).below U.out).below S6.out).below Z.out).below S8.out).below Y.out) (((T6.out.below Z.out).below S8.out).below Y.out);rw[hz]at OC;have cy:=aS hge;clear hge hz;go_wp2_with fail;refine OC.mono ?_;rintro e wo ⟨rfl,nd,rfl⟩;obtain⟨V9,a6⟩:∃V,V=w9.drewN nd:=⟨_,rfl⟩;have x:Hid (Below w9.heap.size w9 V9):=aS (by rw[a6];exact a8 (Below.refl _ _) nd);have U3:=aS ((((((((T3.out.below C.out).below U.out).below S6.out).below Z.out).below S8.out).below Y.out)).below x.out);have U6:=aS (((((T6.out.below Z.out).below S8.out).below Y.out)).below x.out);have ba:=aS (T9.out.below x.out);have a5:=aS (aa Y.out x.out);have a0:=aS (an.out.below' x.out);have a1:=aS (av.out.below' x.out);have a2:w8.heap.size<=V9.heap.size:=a5.out.size;rw[<-a6];clear a6 x T9 Y an av p0 p1 p2 q0 q1 q2 bd T3 T6;have T9:=ba;have Y:=a5;have bd:=a2;have an:=a0;have av:=a1;obtain⟨w9,rfl⟩:∃w9,w9=V9:=⟨_,rfl⟩;clear ba a5 a0 a1 a2;obtain⟨p0,p1,p2,_,_,_⟩:=an.out.three;obtain⟨q0,q1,q2,_,_,_⟩:=av.out.three;go_wp2_with fail
 go_region_held3 (fun w'=>w'.cell? ⟨w.heap.size,0,none⟩=some (.bool s)/\w'.cell? ⟨w.heap.size,1,none⟩=some (vn)/\w'.cell? ⟨w.heap.size,2,none⟩=some (vd)/\w'.cell? ⟨w.heap.size+1,0,none⟩=some (.bool t)/\w'.cell? ⟨w.heap.size+1,1,none⟩=some (a3)/\w'.cell? ⟨w.heap.size+1,2,none⟩=some (a7)) (first|assumption|(refine dE hS ?_ ?_ _ _ _<;>omega)|go_keep)
  (first
   |(go_at_call 75;refine(qk _ _ _ (n*d') (n'*d) (k+k) (U3.out.drew) (U6.out.drew) (bv H6.out G7.out) cy.out (by omega)).mono ?_;rintro e J ⟨cu,rfl,t10,al,_⟩;have j:Hid (Below w9.heap.size w9 J):=aS (by first|exact al|exact ak al);have bf:w9.heap.size<=J.heap.size:=j.out.size;have a9:=aS t10;have hS:=jB (P0.out.below' (aa (aa (aa (aa (aa (aa (aa (aa (aa y.out B.out) N.out) C.out) U.out) S6.out) Z.out) S8.out) Y.out) j.out)) (P1.out.below' (aa (aa (aa (aa (aa (aa (aa (aa (aa y.out B.out) N.out) C.out) U.out) S6.out) Z.out) S8.out) Y.out) j.out));clear t10 al)
   |(go_at_call 72;refine(sW J s _ _ (n*d'-n'*d) (d*d') (k+k+1) a9.out (T9.out.below j.out) (by have h2:=bv H6.out G7.out;rw[Lt];omega) (by have:=bv H7.out G7.out;rw[Lt];omega) (aBg H8.out G8.out) (by omega) (by omega)).mono ?_;rintro e a4 ⟨cx,rfl,t11,am⟩;have ad:Hid (Below J.heap.size J a4):=aS am;have bj:J.heap.size<=a4.heap.size:=ad.out.size;have b7:=aS t11;have hS:=jB (P0.out.below' (aa (aa (aa (aa (aa (aa (aa (aa (aa (aa y.out B.out) N.out) C.out) U.out) S6.out) Z.out) S8.out) Y.out) j.out) ad.out)) (P1.out.below' (aa (aa (aa (aa (aa (aa (aa (aa (aa (aa y.out B.out) N.out) C.out) U.out) S6.out) Z.out) S8.out) Y.out) j.out) ad.out));obtain⟨A,m,c,A',m',c',rfl,ta,tb,tc,td⟩:=t11.open_;obtain⟨r0,r1,r2,z0,z1,z2⟩:=(P2.out.below' (aa (aa (aa (aa (aa (aa (aa (aa (aa (aa y.out B.out) N.out) C.out) U.out) S6.out) Z.out) S8.out) Y.out) j.out) ad.out)).three;have TA:=aS ta;have TB:=aS tb;have TC:=aS tc;have TD:=aS td;clear ta tb tc td;clear t11 am))
 go_wp2_with fail;refine IN (v:=.agg #[.bool (ay (mkRat (dD s (n*d'-n'*d)) (d*d'))),.slice A m c,.slice A' m' c']) (by simp[results,Tryz.results21,go_sem,r0,r1,r2]) rfl ⟨_,rfl,?_,au (PB.out.trans (((aa (aa (aa (aa (aa (aa (aa (aa (aa (aa y.out B.out) N.out) C.out) U.out) S6.out) Z.out) S8.out) Y.out) j.out) ad.out)).mono (by omega))) (by omega) _ _ _⟩;rw[HQ.out];exact(aB.box3 TA.out TB.out TC.out TD.out (by omega) _ _ _).mono (by omega)
theorem XT w v v' q r k(h:aG k w v q)(U:aG k w v' r)(Y:0<k)(hk:k<=549755813888): Calls Tryz.prog 106 #[v,v'] w fun e w'=>∃u,e=.returned u/\aB w.heap.size w' u (q-r)/\Below w.heap.size w w':=by
 have H1:=aS h;have H2:=aS U;have Q1:=aS (h.qb Y);have Q2:=aS (U.qb Y);obtain⟨s,vn,vd,rfl⟩:=h.shape;obtain⟨t,N,J,rfl⟩:=U.shape;clear h U;rw[aBq];go_enter Tryz.func106,Tryz.ntmps106;go_wp2_with fail;obtain⟨W,hW,Z,P1,P2,PB,ad⟩:=box3 w 31 [.bool s,vn,vd] 31 [.bool t,N,J] 31 [.bool false,.slice none 0 0,.slice none 0 0];rw[<-hW];clear hW;obtain⟨p0,p1,p2,_,_,_⟩:=Z.out.three;obtain⟨q0,q1,q2,_,_,_⟩:=P1.out.three
 go_region_held3 (fun w'=>w'.cell? ⟨w.heap.size,0,none⟩=some (.bool s)/\w'.cell? ⟨w.heap.size,1,none⟩=some (vn)/\w'.cell? ⟨w.heap.size,2,none⟩=some (vd)/\w'.cell? ⟨w.heap.size+1,0,none⟩=some (.bool t)/\w'.cell? ⟨w.heap.size+1,1,none⟩=some (N)/\w'.cell? ⟨w.heap.size+1,2,none⟩=some (J)) (first|assumption|(refine dE hS ?_ ?_ _ _ _<;>omega)|go_keep)
  (first
   |(go_at_call 157;refine(Zp _ _ r k (H2.out.below (PB.out.trans (az _))) Y (by omega)).mono ?_;rintro e y ⟨v1,rfl,t1,x⟩;have j:Hid (Below W.heap.size W y):=aS (by first|exact x|exact ak x);have al:W.heap.size<=y.heap.size:=j.out.size;have T1:=aS t1;have hS:=jB (Z.out.below' j.out) (P1.out.below' j.out);clear t1 x)
   |(go_at_call 21;refine(Xa y _ _ q (-r) k ((H1.out.below PB.out).below j.out) (T1.out.at_.frac Q2.out.neg (by omega)) Y hk).mono ?_;rintro e w2 ⟨v2,rfl,t2,C⟩;have B:Hid (Below y.heap.size y w2):=aS C;have am:y.heap.size<=w2.heap.size:=B.out.size;have T2:=aS t2;have hS:=jB (Z.out.below' (aa j.out B.out)) (P1.out.below' (aa j.out B.out));obtain⟨A,m,c,A',m',c',rfl,ta,tb,tc,td⟩:=t2.open_;obtain⟨r0,r1,r2,z0,z1,z2⟩:=(P2.out.below' (aa j.out B.out)).three;have TA:=aS ta;have TB:=aS tb;have TC:=aS tc;have TD:=aS td;clear ta tb tc td;clear t2 C))
 go_wp2_with fail;refine IN (v:=.agg #[.bool (ay (q + -r)),.slice A m c,.slice A' m' c']) (by simp[results,Tryz.results106,go_sem,r0,r1,r2]) rfl ⟨_,rfl,?_,au (PB.out.trans (((aa j.out B.out)).mono (by omega))) (by omega) _ _ _⟩;exact(aB.box3 TA.out TB.out TC.out TD.out (by omega) _ _ _).mono (by omega)

theorem ZD w v v' q r k(h:aG k w v q)(Y:aG k w v' r)(C:0<k)(hk:k<=549755813888)(hr:r≠0): Calls Tryz.prog 68 #[v,v'] w fun e w'=>∃u,e=.returned u/\aB w.heap.size w' u (q/r)/\Below w.heap.size w w':=by
 have H1:=aS h;have H2:=aS Y;have Q1:=aS (h.qb C);have Q2:=aS (Y.qb C);obtain⟨s,vn,vd,rfl⟩:=h.shape;obtain⟨t,U,N,rfl⟩:=Y.shape;clear h Y;have HR:=aS hr;clear hr;rw[aDv];go_enter Tryz.func68,Tryz.ntmps68;go_wp2_with fail;obtain⟨W,hW,Z,P1,P2,PB,ad⟩:=box3 w 31 [.bool s,vn,vd] 31 [.bool t,U,N] 31 [.bool false,.slice none 0 0,.slice none 0 0];rw[<-hW];clear hW;obtain⟨p0,p1,p2,_,_,_⟩:=Z.out.three;obtain⟨q0,q1,q2,_,_,_⟩:=P1.out.three
 go_region_held3 (fun w'=>w'.cell? ⟨w.heap.size,0,none⟩=some (.bool s)/\w'.cell? ⟨w.heap.size,1,none⟩=some (vn)/\w'.cell? ⟨w.heap.size,2,none⟩=some (vd)/\w'.cell? ⟨w.heap.size+1,0,none⟩=some (.bool t)/\w'.cell? ⟨w.heap.size+1,1,none⟩=some (U)/\w'.cell? ⟨w.heap.size+1,2,none⟩=some (N)) (first|assumption|(refine dE hS ?_ ?_ _ _ _<;>omega)|go_keep)
  (first
   |(go_at_call 126;refine(Pk _ _ r k (H2.out.below (PB.out.trans (az _))) C (by omega) HR.out).mono ?_;rintro e y ⟨v1,rfl,t1,x⟩;have j:Hid (Below W.heap.size W y):=aS (by first|exact x|exact ak x);have al:W.heap.size<=y.heap.size:=j.out.size;have T1:=aS t1;have hS:=jB (Z.out.below' j.out) (P1.out.below' j.out);clear t1 x)
   |(go_at_call 27;refine(Yb y _ _ q r⁻¹ k ((H1.out.below PB.out).below j.out) (T1.out.at_.frac (Q2.out.inv C) (by omega)) C hk).mono ?_;rintro e w2 ⟨v2,rfl,t2,J⟩;have B:Hid (Below y.heap.size y w2):=aS J;have am:y.heap.size<=w2.heap.size:=B.out.size;have T2:=aS t2;have hS:=jB (Z.out.below' (aa j.out B.out)) (P1.out.below' (aa j.out B.out));obtain⟨A,m,c,A',m',c',rfl,ta,tb,tc,td⟩:=t2.open_;obtain⟨r0,r1,r2,z0,z1,z2⟩:=(P2.out.below' (aa j.out B.out)).three;have TA:=aS ta;have TB:=aS tb;have TC:=aS tc;have TD:=aS td;clear ta tb tc td;clear t2 J))
 go_wp2_with fail;refine IN (v:=.agg #[.bool (ay (q*r⁻¹)),.slice A m c,.slice A' m' c']) (by simp[results,Tryz.results68,go_sem,r0,r1,r2]) rfl ⟨_,rfl,?_,au (PB.out.trans (((aa j.out B.out)).mono (by omega))) (by omega) _ _ _⟩;exact(aB.box3 TA.out TB.out TC.out TD.out (by omega) _ _ _).mono (by omega)

theorem Ue w v U q r k(h:aG k w v q)(y:aG k w U r)(B:0<k)(hk:k<=549755813888): Calls Tryz.prog 39 #[v,U] w fun e w'=>e=.returned (.int .i64 (ci (q-r)))/\Below w.heap.size w w':=by have Z:=aS h;have H2:=aS y;have Q1:=aS (h.qb B);have Q2:=aS (y.qb B);obtain⟨s,vn,vd,rfl⟩:=h.shape;obtain⟨t,J,C,rfl⟩:=y.shape;clear h y;have QS:Hid (QB (k+k+1) (q-r)):=aS (by rw[aBq];exact Q1.out.add Q2.out.neg);go_enter Tryz.func39,Tryz.ntmps39;go_wp2_with fail;obtain⟨W,N,P0,P1,A,ad⟩:=mb w 31 [.bool s,vn,vd] 31 [.bool t,J,C];rw[<-N];clear N;obtain⟨p0,p1,p2,_,_,_⟩:=P0.out.three;obtain⟨q0,q1,q2,_,_,_⟩:=P1.out.three;go_wp2_with fail;refine(XT W _ _ q r k (Z.out.below A.out) (H2.out.below A.out) B hk).mono ?_;rintro e x ⟨v1,rfl,t1,j⟩;have T1:=aS t1;have S1:Hid (Below W.heap.size W x):=aS j;have al:W.heap.size<=x.heap.size:=j.size;clear t1 j;go_wp2_with fail;refine(lU x v1 (q-r) (k+k+1) (T1.out.at_.frac QS.out (by omega)) (by omega)).mono ?_;rintro e Y ⟨rfl,u⟩;have S2:Hid (Below x.heap.size x Y):=aS u;have am:x.heap.size<=Y.heap.size:=u.size;clear u;go_wp2_with fail;go_ret;exact⟨rfl,A.out.trans (((aa S1.out S2.out)).mono (by omega))⟩

def WE(q:Rat):Nat:=if q.den=1 then 0 else q.den
theorem WM q r:q=r↔ay q=ay r/\q.num.natAbs=r.num.natAbs/\WE q=WE r:=by
 constructor
 ·intro h;subst h;exact⟨rfl,rfl,rfl⟩
 rintro⟨u,x,j⟩;apply Rat.ext
 ·rw[jH q,jH r,u,x]
 have a:=q.den_pos;have b:=r.den_pos;unfold WE at j;split at j<;>split at j<;>omega
theorem Nr{w j u a b}(ha:ae w j a)(A:ae w u b)(h:a=b):Calls Tryz.prog 76 #[j,u] w fun e w'=>e=.returned (.bool true)/\Below w.heap.size w w':=by refine(tT w j u a b ha A).mono ?_;rw[lT h];exact fun _ _ ⟨x,y⟩=>⟨y,x⟩
theorem U7{w j u a b}(ha:ae w j a)(A:ae w u b)(h:a≠b):Calls Tryz.prog 76 #[j,u] w fun e w'=>e=.returned (.bool false)/\Below w.heap.size w w':=by refine(tT w j u a b ha A).mono ?_;rw[iS h];exact fun _ _ ⟨x,y⟩=>⟨y,x⟩

theorem X0 w v v' q r(h:ie w v q)(h':ie w v' r): Calls Tryz.prog 22 #[v,v'] w fun e w'=>e=.returned (.bool (decide (q=r)))/\Below w.heap.size w w':=by
 have HX:=aS (WM q r);obtain⟨vn,vd,rfl,n1,n2⟩:=h;obtain⟨U,C,rfl,m1,m2⟩:=h';have N1:=aS n1;have N2:=aS (show ae w vd (WE q)from n2);have M1:=aS m1;have M2:=aS (show ae w C (WE r)from m2);clear n1 n2 m1 m2;generalize ay q=s at *;generalize ay r=t at *;by_cases ad:s=t
 ·subst ad;by_cases hn:q.num.natAbs=r.num.natAbs
  ·by_cases hd:WE q=WE r
   ·have Y:Hid (decide (q=r)=true):=aS (lT (HX.out.2 ⟨rfl,hn,hd⟩));have HN:=aS hn;have HD:=aS hd;clear hn hd;go_enter Tryz.func22,Tryz.ntmps22;go_wp2_with fail;obtain⟨W,B,J,N,u,Z⟩:=mb w 31 [.bool s,vn,vd] 31 [.bool s,U,C];rw[<-B];clear B;obtain⟨p0,p1,p2,_,_,_⟩:=J.out.three;obtain⟨q0,q1,q2,_,_,_⟩:=N.out.three;go_wp2_with fail;refine(Nr (N1.out.below u.out) (M1.out.below u.out) HN.out).mono ?_;rintro e A ⟨rfl,j⟩;have x:Hid (Below W.heap.size W A):=aS j;have al:W.heap.size<=A.heap.size:=j.size;obtain⟨am,an,av,_,_,_⟩:=(J.out.below' x.out).three;obtain⟨a0,a1,a2,_,_,_⟩:=(N.out.below' x.out).three;clear j;go_wp2_with fail;refine(Nr ((N2.out.below u.out).below x.out) ((M2.out.below u.out).below x.out) HD.out).mono ?_;rintro e w2 ⟨rfl,y⟩;have S2:Hid (Below A.heap.size A w2):=aS y;have a3:A.heap.size<=w2.heap.size:=y.size;clear y;go_wp2_with fail;go_ret;exact⟨aV Y.out.symm,u.out.trans (((aa x.out S2.out)).mono (by omega))⟩
   have Y:Hid (decide (q=r)=false):=aS (iS (fun e=>hd (HX.out.1 e).2.2));have HN:=aS hn;have HD:=aS hd;clear hn hd;go_enter Tryz.func22,Tryz.ntmps22;go_wp2_with fail;obtain⟨W,B,J,N,u,Z⟩:=mb w 31 [.bool s,vn,vd] 31 [.bool s,U,C];rw[<-B];clear B;obtain⟨p0,p1,p2,_,_,_⟩:=J.out.three;obtain⟨q0,q1,q2,_,_,_⟩:=N.out.three;go_wp2_with fail;refine(Nr (N1.out.below u.out) (M1.out.below u.out) HN.out).mono ?_;rintro e A ⟨rfl,j⟩;have x:Hid (Below W.heap.size W A):=aS j;have al:W.heap.size<=A.heap.size:=j.size;obtain⟨am,an,av,_,_,_⟩:=(J.out.below' x.out).three;obtain⟨a0,a1,a2,_,_,_⟩:=(N.out.below' x.out).three;clear j;go_wp2_with fail;refine(U7 ((N2.out.below u.out).below x.out) ((M2.out.below u.out).below x.out) HD.out).mono ?_;rintro e w2 ⟨rfl,y⟩;have S2:Hid (Below A.heap.size A w2):=aS y;have a3:A.heap.size<=w2.heap.size:=y.size;clear y;go_wp2_with fail;go_ret;exact⟨aV Y.out.symm,u.out.trans (((aa x.out S2.out)).mono (by omega))⟩
  have Y:Hid (decide (q=r)=false):=aS (iS (fun e=>hn (HX.out.1 e).2.1));have HN:=aS hn;clear hn;go_enter Tryz.func22,Tryz.ntmps22;go_wp2_with fail;obtain⟨W,B,J,N,u,Z⟩:=mb w 31 [.bool s,vn,vd] 31 [.bool s,U,C];rw[<-B];clear B;obtain⟨p0,p1,p2,_,_,_⟩:=J.out.three;obtain⟨q0,q1,q2,_,_,_⟩:=N.out.three;go_wp2_with fail;refine(U7 (N1.out.below u.out) (M1.out.below u.out) HN.out).mono ?_;rintro e A ⟨rfl,j⟩;have x:Hid (Below W.heap.size W A):=aS j;have al:W.heap.size<=A.heap.size:=j.size;obtain⟨am,an,av,_,_,_⟩:=(J.out.below' x.out).three;obtain⟨a0,a1,a2,_,_,_⟩:=(N.out.below' x.out).three;clear j;go_wp2_with fail;go_ret;exact⟨aV Y.out.symm,u.out.trans ((x.out).mono (by omega))⟩
 have Y:Hid (decide (q=r)=false):=aS (iS (fun e=>ad (HX.out.1 e).1));have a4:(s == t)=false:=by cases s<;>cases t<;>simp_all
 clear ad;go_enter Tryz.func22,Tryz.ntmps22;go_wp2_with fail;obtain⟨W,B,J,N,u,Z⟩:=mb w 31 [.bool s,vn,vd] 31 [.bool t,U,C];rw[<-B];clear B;obtain⟨p0,p1,p2,_,_,_⟩:=J.out.three;obtain⟨q0,q1,q2,_,_,_⟩:=N.out.three;go_wp2_with fail;go_ret;exact⟨aV Y.out.symm,u.out⟩
section
def aw(P:Program)(fn:Func)(Q:AV->St->Prop):Ex->Fr->St->Prop:=fun ex fr s=>
 (match ex with|.exit _=>False|_=>True)/\jh s fr.ms=true/\∃l,nc P fr.T (fr.ms.foldl St.drop s) fn.results.toList=some l/\(match l with|[v]=>Q v (fr.ms.foldl St.drop s)|l=>Q (.tup l) (fr.ms.foldl St.drop s))
section
variable {P:Program}{X:eC}
theorem ui{bb f fn c}(Y:P.funcs[f]?=some fn)(hc:fn.body=some c){args}(al:args.length<=fn.ntmps){s Q}(h:Jb bb P c ⟨f,fn.ntmps,Tr.ofList args,none,[]⟩ s (aw P fn Q)){μ w vs}n(hR:bU μ s w)(J:ap μ args vs)(hF:∀o,s.nx<=o->μ o=none):
  CallsIn Fence.wide n P f vs.toArray w fun e w'=>∃v j s' μ',e=.returned j/\Q v s'/\bU μ' s' w'/\Fp bb μ s w μ' s' w'/\VR μ' v j:=by
 have am:=J.length;refine callsIn_of_wp_marks (F:=Fence.wide) Y hc trivial ?_ rfl;have U:TR μ fn.ntmps (Tr.ofList args) (vs.toArray++Array.replicate (fn.ntmps-vs.toArray.size) undef):=by refine⟨by simp;omega,fun t x hx=>?_⟩;rw[Tr.get_ofList]at hx;obtain⟨y,h1,h2⟩:=J.get hx;refine⟨y,?_,h2⟩;have hlt:=(dO.1 h1).1;rw[aDk];rw[oR (by simpa using hlt)];simpa using h1
 refine h n μ w { tmps:=vs.toArray++Array.replicate (fn.ntmps-vs.toArray.size) undef,defers:=[] } none _ ⟨hR,U,by simp[DM],rfl,hF⟩ ?_;intro ex fr s1 μ1 w1 N hq A f1;obtain⟨hex,Z,l,C,B⟩:=hq;have post:LeavesInM Fence.wide n P fn N.tmps (fun e w'=>∃v j s' μ',e=.returned j/\Q v s'/\bU μ' s' w'/\Fp bb μ s w μ' s' w'/\VR μ' v j) N.defers .returning w1:=by
  refine sY fr.ms N.defers s1 w1 A.rel A.dm Z fun w2 r2 t2=>?_;obtain⟨m,k1,u⟩:=AX (P:=P) r2 A.tr C;have key:∃v j,(results fn N.tmps).run P w2=.ok j w2/\VR μ1 v j/\Q v (fr.ms.foldl St.drop s1):=by
   rw[vZ,aCQ];simp only[Le,Sem.run_map,k1]
   match l,B,u with
   | [v],B,u=>simp only[ap]at u;obtain⟨y,ys,rfl,hy,rfl⟩:=u;exact⟨v,y,by simp,hy,B⟩
   | [],B,u=>simp only[ap]at u;subst u;exact⟨.tup [],.tuple #[],by simp,by simp[VR,ap],B⟩
   |x::y::l,B,u=>
    have ad:m.length≠1:=by rw[<-u.length];simp
    exact⟨.tup (x::y::l),.tuple m.toArray,by simp[ad],by simp only[VR];exact⟨m,rfl,u⟩,B⟩
  obtain⟨v,j,q1,q2,q3⟩:=key;exact⟨j,q1,v,j,_,μ1,rfl,q3,r2,f1.trans t2.fp,q2⟩
 cases ex with
 |normal=>exact post
 |ret=>exact post
 |exit id=>exact hex.elim

theorem bU.below{μ s w w'}(h:bU μ s w)(j:Below w.heap.size w w'):bU μ s w':=by
 have lt:∀o x u,s.h.get o=some x->μ o=some (.at_ u)->u.blk<w.heap.size:=fun o x u e m=>by obtain⟨b,j⟩:=(h.obj o x e (by rw[m];simp)).at_ m;exact(IF.1 j).1
 exact⟨⟨fun o x e m=>(h.obj o x e m).keep (lJ.refl μ) j.size (fun p hp=>j.block _ (lt o x p e hp)) (fun A m c _ ad _ _ hlt=>j.block _ hlt),h.inj,h.nat,h.wf⟩,fun b i v y=>let ⟨h1,h2,h3⟩:=h.fz b i v y;⟨TK h1 j.size,(kY (j.block b h1) i).trans h2,h3⟩⟩
theorem fo.below μ s{w w'}(j:Below w.heap.size w w'):fo μ s w μ s w':= ⟨lJ.refl μ,fun _ h u=>absurd h u,cC _,j.os,j.tape,j.output,j.size,fun g hg _=>j.block g hg,fun o x p h u=>.inr ⟨o,x,p,h,u,rfl⟩,fun _ _ _=>rfl,fun _ _ _ h=>.inl h⟩
theorem Fp.below{bb μ μ' s' w w' k}(f:Fp bb μ ⟨.nil,k⟩ w μ' s' w'):Below w.heap.size w w':=⟨f.os,f.tape,f.output,f.size,fun g j=>f.blk g j fun o x p e=>by cases e⟩
theorem jw{μ s w w'}(h:bU μ s w)(B:Below w.heap.size w w'):∃μ',bU μ' s w'/\fo μ s w μ' s w'/\(∀b i v,w.heap.size<=b->eE w' b i=some v->μ'.fz b i=some v)/\(∀b i v,μ.fz b i=some v->eE w' b i=some v)/\(∀b i v,w'.cell? ⟨b,i,none⟩=some v->ko v=false->μ'.fz b i=some v):=by
 have C:=h.below B;have lt:∀o x U,s.h.get o=some x->μ o=some (.at_ U)->U.blk<w.heap.size:=fun o x U e m=>by obtain⟨b,B⟩:=(h.obj o x e (by rw[m];simp)).at_ m;exact(IF.1 B).1
 have old:∀b i v,μ.fz b i=some v->b<w.heap.size:=fun b i v j=>(h.fz b i v j).1;have stay:∀b i v,μ.fz b i=some v->eE w' b i=some v:=fun b i v j=>(C.fz b i v j).2.1;obtain⟨μ1,N⟩:∃μ1:Mu,μ1=⟨μ.loc,fun b i=>if w.heap.size<=b∨∃v,eE w' b i=some v/\ko v=false then eE w' b i else μ.fz b i⟩:=⟨_,rfl⟩;have hs:lJ μ μ1:=by subst N;exact⟨fun _ _ h=>h,fun b i v j=>by simp only;split;exact stay b i v j;exact j⟩
 have y:∀k,μ1 k=μ k:=fun k=>by subst N;rfl
 have live:∀b i v,eE w' b i=some v->b<w'.heap.size:=fun b i v j=>xc j;refine⟨μ1,⟨⟨fun k x e m=>?_,fun k k' x x' q q' e J m m'=>?_,fun k n A m cc k' x' q' e m1 J m2=>?_,C.wf⟩,fun b i v j=>?_⟩,⟨hs,fun o h1 h2=>absurd h1 (by rw[y]at h2;exact h2),cC _,B.os,B.tape,B.output,B.size,fun g hg _=>B.block g hg,fun o x p e m=>.inr ⟨o,x,p,e,by rw[<-y];exact m,rfl⟩,fun _ _ _=>rfl,fun b i v j=>?_⟩,fun b i v hle j=>?_,stay,fun b i v j hd=>?_⟩
 ·exact(C.obj k x e (by rw[<-y];exact m)).keep hs (cC _) (fun _ _=>rfl) (fun _ _ _ _ _ _ _ _=>rfl)
 ·exact C.inj k k' x x' q q' e J (by rw[<-y];exact m) (by rw[<-y];exact m')
 ·exact C.nat k n A m cc k' x' q' e (by rw[<-y];exact m1) J (by rw[<-y];exact m2)
 ·subst N;simp only at j;split at j
  ·next e=>
   refine⟨live b i v j,j,fun o x p J m Y=>?_⟩;rcases e with e|⟨u,hu,hd⟩
   ·have:=lt o x p J m;omega
   exact(C.obj o x J (by rw[show μ o=_ from m];simp)).nodig m ⟨i,u,by rw[Y];exact eB hu (li hd),hd⟩
  exact C.fz b i v j
 ·subst N;simp only at j;split at j
  ·next e=>
   rcases e with e|⟨u,hu,hd⟩
   ·exact .inr (.inl e)
   rw[hu]at j;cases j;exact .inr (.inr (.inr hd))
  exact .inl j
 ·subst N;simp only;rw[oR (.inl hle)];exact j
 subst N;simp only;have j:=gU j (li hd);rw[oR (.inr ⟨v,j,hd⟩)];exact j
theorem qx{μ s w w'}(h:bU μ s w)(u:Below w.heap.size w w'):∃μ',bU μ' s w'/\fo μ s w μ' s w'/\(∀b i v,w.heap.size<=b->w'.cell? ⟨b,i,none⟩=some v->Fi v=false->μ'.fz b i=some v)/\(∀b i v,μ.fz b i=some v->eE w' b i=some v):= let ⟨μ',a,b,c,d,_⟩:=jw h u;⟨μ',a,b,fun b i v j x hm=>c b i v j (gU x hm),d⟩

def ag(P:Program)(f:FuncId)(g:List AV->St->Option (AV×St)):Prop:=∀{args s v s'},g args s=some (v,s')->(oP P f/\s.nx<=s'.nx/\(Wf s->Wf s'))/\∀{μ:Mu}{w:World}{vs:List Value}(n:Nat),bU μ s w->ap μ args vs->iP μ s s'->
  CallsIn Fence.wide n P f vs.toArray w fun e w'=>∃v' μ',e=.returned v'/\bU μ' s' w'/\fo μ s w μ' s' w'/\VR μ' v v'
def dt (P:Program) (f:FuncId):Bool:=(P.funcs[f]?).any fun fn=>fn.body.isSome && !(fn.name == "runtime.NumGoroutine")
theorem pB{f}(h:dt P f=true):oP P f:=by
 unfold dt at h;rw [Option.any_eq_true] at h;obtain ⟨fn,x,u⟩:=h;simp only [gE,aAA] at u;obtain ⟨c,y⟩:=aBI.1 u.1;have j:¬ fn.name = "runtime.NumGoroutine":=by simpa using u.2
 exact fun args w=>by simp[callFunc,x,j,y]
def ab(g:List AV->Option AV)(args:List AV)(s:St):Option (AV×St):=(g args).map fun v=>(v,s)
theorem fG{f g}(j:dt P f=true)(H:∀{args v},g args=some v->∀{μ:Mu}{s:St}{w:World}{x:List Value}(n:Nat),bU μ s w->ap μ args x -> CallsIn Fence.wide n P f x.toArray w fun e w'=>∃u μ',e=.returned u/\bU μ' s w'/\fo μ s w μ' s w'/\VR μ' v u):ag P f (ab g):=by intro args s v s' h;unfold ab at h;simp only[iN,Gt]at h;obtain⟨C,y,rfl,rfl⟩:=h;exact⟨⟨pB j,cC _,id⟩,fun n A B _=>H y n A B⟩
theorem aE{f fn c nt}(C:dt P f=true)(J:P.funcs[f]?=some fn)(hn:fn.ntmps=nt)(hc:fn.body=some c){g}(H:∀{args v},g args=some v->aq args=true/\bare v=true/\args.length<=nt/\Jd P c ⟨f,nt,Tr.ofList args,none,[]⟩ ⟨.nil,0⟩ (aw P fn fun Z _=>Z=v)):ag P f (ab g):=by
 subst hn;refine fG C ?_;intro args v hg μ s w vs n hR Y;obtain⟨h1,h2,h3,h4⟩:=H hg;have B:bU μ.blind ⟨.nil,0⟩ w:=⟨⟨fun o x e=>(by cases e),fun o o' x x' p p' e=>(by cases e),fun o n A m c o' x' p' e=>(by cases e),fun o _=>rfl⟩,fun b i v hv=>let ⟨a,b,_⟩:=hR.fz b i v hv;⟨a,b,fun o x p e=>(by cases e)⟩⟩;have U:ap μ.blind args vs:=iz (μ:=μ) (μ':=μ.blind) (fun _ _ _ h=>h) args h1 Y;refine aCi (ui J hc h3 h4 n B U (fun _ _=>rfl)) ?_;rintro e w' ⟨v1,Z,s',μ',rfl,rfl,j,y,N⟩;obtain⟨μ2,r2,t2,n2,o2,d2⟩:=jw hR y.below;refine⟨Z,μ2,rfl,r2,t2,d7 (μ:=μ') (fun b i u hu=>?_) _ h2 N⟩;rcases y.fz b i u hu with h|h|⟨o,x,p,e,_⟩|h
 ·exact t2.sub.fz b i u h
 ·exact n2 b i u h (j.fz b i u hu).2.1
 ·cases e
 exact d2 b i u (eB (j.fz b i u hu).2.1 (li h)) h
end
end
theorem aB.zero_ B w:aB B w (.agg #[.bool false,.slice none 0 0,.slice none 0 0]) 0:= ⟨_,_,by simp[ay],ae.nil_ _,by simpa using ae.nil_ _,bP.nil_ _,bP.nil_ _⟩
theorem aB.parts{B w q b A j m c x u}(h:aB B w (.agg #[.bool b,.slice A m c,.slice j x u]) q):
  b=ay q/\ae w (.slice A m c) q.num.natAbs/\ae w (.slice j x u) (if q.den=1 then 0 else q.den)/\bP (.slice A m c) B/\bP (.slice j x u) B:=by
 obtain⟨Z,Y,e,C,J,N,U⟩:=h;injection e with e
 have y:[Value.bool b,.slice A m c,.slice j x u]=[.bool (ay q),Z,Y]:=aAf Array.toList e;simp only[rW,and_true,Value.bool.injEq]at y;obtain⟨e0,rfl,rfl⟩:=y;exact⟨e0,C,J,N,U⟩
theorem aG.mono{k u w v q}(h:aG k w v q)(j:k<=u):aG u w v q:=by obtain⟨s,vn,Z,Y,U,e,x,y,A,B,C,J,N⟩:=h;exact⟨s,vn,Z,Y,U,e,x,y,A,TK B (OK (by omega) j),TK C (OK (by omega) j),J,N⟩
theorem Ze w k lv qs(hl:ct k w lv qs)(h0:0<k)(hk:(qs.length+1)*(2*k)<=549755813888): Calls Tryz.prog 60 #[lv] w fun e w'=>∃v',e=.returned v'/\aB w.heap.size w' v' (nm qs)/\Below w.heap.size w w':=by
 obtain⟨A,c,rfl,a9,bj,am⟩:=hl.at_;have a4:=aS am;clear hl am;obtain⟨n,hn⟩:∃n,qs.length=n:=⟨_,rfl⟩;have ad:=aS hn;rw[hn]at a9 hk⊢;clear hn;have HZ:Hid (QB ((0+1)*(2*k)) (0:Rat)):=aS (dA (n:=0) (aAg (by omega)) (by omega));go_enter Tryz.func60,Tryz.ntmps60;go_wp2_with fail;obtain⟨W,hW,P0,P1,PB,bf⟩:=mb w 31 [.bool false,.slice none 0 0,.slice none 0 0] 31 [.bool false,.slice none 0 0,.slice none 0 0];rw[<-hW];clear hW;go_loopg [4] n (fun g i wr=>∃(j:Nat)(q:Rat)(b:Bool)(A1 y:Option Addr)(m1 c1 J B:Nat),i=.int .i64 j/\j+g=n/\Hid (q=nm (qs.take j))/\Hid (QB ((j+1)*(2*k)) q) /\ Hid (cg wr w.heap.size 31 [.bool false,.slice none 0 0,.slice none 0 0])/\Hid (cg wr (w.heap.size+1) 31 [.bool b,.slice A1 m1 c1,.slice y J B])/\Hid (aB (w.heap.size+2) wr (.agg #[.bool b,.slice A1 m1 c1,.slice y J B]) q)/\Hid (Below w.heap.size w wr))
 case atStart=>exact⟨0,0,false,none,none,0,0,0,0,rfl,by omega,aS rfl,HZ,P0,P1,aS (aB.zero_ _ _),PB⟩
 obtain⟨j,q,b,A1,y,m1,c1,J,B,rfl,hj,HQ,al,RB,BK,NA,u⟩:=hrel;have an:w.heap.size+2<=wr.heap.size:=BK.out.lt;obtain⟨p0,p1,p2,_,_,_⟩:=BK.out.three;rcases lE gk with h|h
 ·obtain rfl:j=n:=by omega
  obtain⟨r0,r1,r2,z0,z1,z2⟩:=RB.out.three;go_wp2_with fail;refine IN (v:=.agg #[.bool b,.slice A1 m1 c1,.slice y J B]) (by simp[results,Tryz.results60,go_sem,r0,r1,r2]) rfl ⟨_,rfl,?_,au u.out (cC _) _ _ _⟩;obtain⟨e0,t1,t2,t3,t4⟩:=NA.out.parts;rw[e0];rw[HQ.out,Ge (by rw[ad.out];exact cC _)]at t1 t2⊢;exact(aB.box3 t1 t2 t3 t4 (by omega) _ _ _).mono (by omega)
 obtain⟨g,rfl⟩:∃g,gk=g+1:=⟨gk-1,by omega⟩;obtain⟨x,hx⟩:∃x,qs[j]?=some x:=⟨_,bY (by rw[ad.out];omega)⟩;obtain⟨bb,off,neg,An,nn,cn,Ad,nd,cd,rfl,Y,e0,e1,e2,Z⟩:=a4.out j x hx;have d0:=(u.out.cell (p:=⟨bb,off+j*3,none⟩) Y).trans e0;have d1:=(u.out.cell (p:=⟨bb,off+j*3+1,none⟩) Y).trans e1;have d2:=(u.out.cell (p:=⟨bb,off+j*3+2,none⟩) Y).trans e2;have FR:=aS (Z.below u.out);have QX:=aS (Z.qb h0);have HX:=aS hx;have a7:(j+1)*(2*k)<=(n+1)*(2*k):=Mt _ (by omega);have U:(j+1+1)*(2*k)=(j+1)*(2*k)+2*k:=by rw[aAl (j+1) 1,aBt]
 have HJ:Hid (k<=(j+1)*(2*k)/\(j+1)*(2*k)<=549755813888/\0<(j+1)*(2*k)):=aS (by have:1*(2*k)<=(j+1)*(2*k):=Mt _ (by omega);omega);have a5:=aS U;have FK:Hid (aG ((j+1)*(2*k)) wr (.agg #[.bool neg,.slice An nn cn,.slice Ad nd cd]) x):=aS (FR.out.mono HJ.out.1);clear hx e0 e1 e2 Z a7 U;go_wp2_with fail
 go_region_with (first
   |(go_at_call 21;refine(Xa _ _ _ q x ((j+1)*(2*k)) ?_ ?_ HJ.out.2.2 HJ.out.2.1).mono ?_;(exact(NA.out.at_.frac al.out (by have:=HJ.out;omega)).below (az _));(exact FK.out.below (az _));rintro e w3 ⟨v3,rfl,t3,N⟩;have C:=ak N;have B3:=aS C;have K3:=aS (BK.out.below' C);have bm:=C.size;obtain⟨A3,m3,c3,a3,bd,a6,rfl,av,a0,a1,a2⟩:=t3.open_;obtain⟨r0,r1,r2,z0,z1,z2⟩:=K3.out.three;have TA:=aS av;have TB:=aS a0;have TC:=aS (a1.mono (show w.heap.size+2<=_ from an));have TD:=aS (a2.mono (show w.heap.size+2<=_ from an));clear t3 av a0 a1 a2 C N))
 all_goals
  go_wp2_with fail;go_roundg g
  case measure=>omega
  case rel=>have ba:=HX.out;exact⟨j+1,_,_,A3,a3,m3,c3,bd,a6,rfl,by omega,aS (by unfold nm;rw[aY _ ba,aCF,HQ.out];rfl),aS (by rw[a5.out];exact(al.out.add QX.out).mono (by omega)),aS (cg.box3far (RB.out.below' B3.out) (by omega) _ _ _),aS (K3.out.box3 _ _ _),aS (aB.box3 TA.out TB.out TC.out TD.out (by omega) _ _ _),aS (au (u.out.trans (B3.out.mono (by omega))) (aAm _) _ _ _)⟩
theorem yr w k lv qs(hl:ct k w lv qs)(h0:0<k)(hk:(qs.length+1)*(2*k)<=549755813888): Calls Tryz.prog 131 #[lv] w fun e w'=>e=.returned (.bool (ni qs))/\Below w.heap.size w w':=by
 obtain⟨A,c,rfl,av,a1,Z⟩:=hl.at_;have U:1*(2*k)<=(qs.length+1)*(2*k):=Mt _ (by omega);have HL:=aS hl;have am:=aS Z;have SQ:Hid (QB ((qs.length+1)*(2*k)) (nm qs)):=aS ((Gb qs (hl.qb h0) k 0 (dA (n:=0) (aAg (by omega)) h0)).mono (by have:qs.length*(k+1)<=qs.length*(2*k):=Tk _ (by omega);rw[aAl];omega));have Q1:Hid (QB ((qs.length+1)*(2*k)) ((1:Nat):Rat)):=aS (dA (aAE (by omega)) (by omega));clear hl Z;obtain⟨n,hn⟩:∃n,qs.length=n:=⟨_,rfl⟩;have C:=aS hn;rw[hn]at av hk U HL SQ Q1⊢;clear hn;have HK:=aS hk;have an:=aS U;clear hk U;unfold ni;go_enter Tryz.func131,Tryz.ntmps131;go_wp2_with fail;go_loopg [3] n (fun g i wr=>∃(j:Nat),i=.int .i64 j/\j+g=n/\Hid (cM qs 0=cM (qs.drop j) j)/\Hid (Below w.heap.size w wr))
 case atStart=>exact⟨0,rfl,by omega,aS rfl,aS (Below.refl _ _)⟩
 obtain⟨j,rfl,hj,HQ,u⟩:=hrel;have Y:w.heap.size<=wr.heap.size:=u.out.size;rcases lE gk with h|h
 ·obtain rfl:j=n:=by omega
  have HF:Hid (decide (0<=cM qs 0)=false):=aS (by rw[HQ.out,AS (by rw[C.out];exact cC _)];rfl);go_wp2_with fail;refine(Ze wr k _ qs (HL.out.below u.out) h0 (by rw[C.out];exact HK.out)).mono ?_;rintro e w2 ⟨v2,rfl,t2,J⟩;have B2:=aS (u.out.trans (J.mono Y));have T2:=aS t2;have a2:wr.heap.size<=w2.heap.size:=J.size;clear t2 J;go_wp2_with fail;refine(Y4 w2 1 (by omega)).mono ?_;rintro e w3 ⟨v3,rfl,t3,B⟩;have B3:=aS (B2.out.trans (B.mono (by omega)));have F2:=aS ((T2.out.below B).at_.frac SQ.out (by have:=HK.out;omega));have F3:=aS (t3.at_.frac Q1.out (by have:=HK.out;omega));have a3:w2.heap.size<=w3.heap.size:=B.size;clear t3 B;go_wp2_with fail;refine(Ue w3 v2 v3 (nm qs) (1:Nat) _ F2.out F3.out (by have:=an.out;omega) HK.out).mono ?_;rintro e w4 ⟨rfl,ad⟩;have B4:=aS (B3.out.trans (ad.mono (by omega)));clear ad;go_wp2_with fail;go_ret;refine⟨?_,B4.out⟩;rw[HF.out];rfl
 obtain⟨g,rfl⟩:∃g,gk=g+1:=⟨gk-1,by omega⟩;obtain⟨x,hx⟩:∃x,qs[j]?=some x:=⟨_,bY (by rw[C.out];omega)⟩;obtain⟨bb,off,neg,An,nn,cn,Ad,nd,cd,rfl,N,e0,e1,e2,al⟩:=am.out j x hx;have d0:=(u.out.cell (p:=⟨bb,off+j*3,none⟩) N).trans e0;have d1:=(u.out.cell (p:=⟨bb,off+j*3+1,none⟩) N).trans e1;have d2:=(u.out.cell (p:=⟨bb,off+j*3+2,none⟩) N).trans e2;have FR:=aS (al.below u.out);have DR:=aS (pV hx);clear hx e0 e1 e2 al;have SC:=lU wr _ x k FR.out h0;by_cases hd:ci x<0
 ·have HN:Hid (decide (0<=cM qs 0)=true):=aS (lT (by rw[HQ.out,DR.out,oR hd];omega));obtain⟨z,hz,a0⟩:∃z,ci x=z/\decide (z<0)=true:=⟨_,rfl,lT hd⟩;rw[hz]at SC;clear hz hd;go_wp2_with fail;refine SC.mono ?_;rintro e w1 ⟨rfl,y⟩;have B1:=aS y;clear y;go_wp2_with fail;go_ret;refine⟨aV ?_,u.out.trans (B1.out.mono Y)⟩;rw[HN.out];rfl
 have HN:Hid (cM qs 0=cM (qs.drop (j+1)) (j+1)):=aS (by rw[HQ.out,DR.out,iF hd]);obtain⟨z,hz,a0⟩:∃z,ci x=z/\decide (z<0)=false:=⟨_,rfl,iS hd⟩;rw[hz]at SC;clear hz hd;go_wp2_with fail;refine SC.mono ?_;rintro e w1 ⟨rfl,y⟩;have B1:=aS y;clear y;go_wp2_with fail;go_roundg g
 case measure=>omega
 case rel=>exact⟨j+1,rfl,by omega,HN,aS (u.out.trans (B1.out.mono Y))⟩
def ya(w:World)(v:Value)(qs:List Rat):Prop:=∃cells,Sl w 3 v qs.length cells/\
 ∀i x,qs[i]?=some x->∃a b c,cells[i*3]?=some a/\cells[i*3+1]?=some b/\cells[i*3+2]?=some c/\ie w (.agg #[a,b,c]) x
theorem ya.below{w w' v qs}(h:ya w v qs)(u:Below w.heap.size w w'):ya w' v qs:=by obtain⟨cs,y,A⟩:=h;refine⟨cs,y.below u,fun i x C=>?_⟩;obtain⟨a,b,c,ha,j,B,hf⟩:=A i x C;exact⟨a,b,c,ha,j,B,hf.below u⟩
theorem ya.at_{w v qs}(h:ya w v qs):∃A c,v=.slice A qs.length c/\qs.length<=c/\c<=9223372036854775807 /\ ∀j x,qs[j]?=some x->∃b off y B C,A=some ⟨b,off,none⟩/\b<w.heap.size/\w.cell? ⟨b,off+j*3,none⟩=some y/\w.cell? ⟨b,off+j*3+1,none⟩=some B /\ w.cell? ⟨b,off+j*3+2,none⟩=some C/\ie w (.agg #[y,B,C]) x:=by obtain⟨cells,Y,Z⟩:=h;obtain⟨h0,A,c,rfl,hc,hm,h5⟩:=Y;refine⟨A,c,rfl,hc,by unfold maxLen at hm;omega,fun j x J=>?_⟩;have hj:=(dO.1 J).1;obtain⟨b,off,e,hlt,u⟩:=h5 (by omega);obtain⟨y,B,C,e0,N,U,hf⟩:=Z j x J;exact⟨b,off,y,B,C,e,hlt,u _ _ e0,by have:=u _ _ N;rwa [<-aAo]at this,by have:=u _ _ U;rwa [<-aAo]at this,hf⟩
section
def pW:List AV->Option (List Nat)
 | []=>some []
 | .i .u32 (.ofNat d)::l=>cond (Nat.blt d 4294967296) ((pW l).map (d::·)) none
 |_=>none
def PZ:AV->Option (List Nat)
 | .snil=>some []
 | .vw c n=>match pW c with
  |some l=>cond (Nat.beq l.length n&&Nat.ble n 17592186044416) (some l) none
  |none=>none
 |_=>none
def yk:AV->Option Nat
 | .num n=>some n
 |x=>(PZ x).map val
def iY:Nat:=274877906944
def qz(q:Rat):Nat:=max (Nat.log2 q.num.natAbs) (Nat.log2 q.den)+1
def sF(n d:Nat):Bool:=Nat.ble (max (Nat.log2 n) (Nat.log2 d)+1) iY
def n5:AV->Option (Bool×Nat×Nat)
 | .agg [.b neg,n,d]=>match yk n,yk d with
  |some n,some d=>cond (sF n d) (some (neg,n,d)) none
  |_,_=>none
 |_=>none
def fg(x:AV):Option Rat:=(n5 x).map fun p=>cA p.1 p.2.1 p.2.2
def EE(q:Rat):Nat:=if q.den=1 then 0 else q.den
def ai(q:Rat):List AV:=[.b (ay q),.num q.num.natAbs,.num (EE q)]
def fq(q:Rat):AV:=.agg (ai q)
def GS:AV->Option Rat
 | .agg [.b neg,n,d]=>match (match n with|.num n=>some n|.snil=>some 0|_=>none),(match d with|.num d=>some d|.snil=>some 0|_=>none)with
  |some n,some d=>cond ((neg == ay (cA neg n d))&&Nat.beq n (cA neg n d).num.natAbs&&Nat.beq d (EE (cA neg n d))) (some (cA neg n d)) none
  |_,_=>none
 |_=>none

theorem SU(n:Nat):n<2^(Nat.log2 n+1):=Nat.lt_log2_self
theorem log2_lt{n k:Nat}(h:n<2^k)(u:0<k):Nat.log2 n+1<=k:=by
 by_cases j:n=0
 ·subst j;rw[show Nat.log2 0=0 from rfl];omega
 exact(Nat.log2_lt j).2 h
theorem nW{q k}(h:QB k q):qz q<=k:=by
 have j:0<k:=by
  rcases lE k with e|e
  ·subst e;have:=h.2;have:=q.den_pos;simp at *;omega
  exact e
 have u:=log2_lt h.1 j;have x:=log2_lt h.2 j;unfold qz;omega
theorem V8(n:Nat)(h:n<9223372036854775808):qz (n:Rat)<=63:=nW (dA (by simpa using h) (by omega))

theorem rR q:cA (ay q) q.num.natAbs (EE q)=q:=by
 unfold cA EE;have j:(if(if q.den=1 then 0 else q.den)=0 then 1 else(if q.den=1 then 0 else q.den))=q.den:=by
  have:=q.den_pos;by_cases e:q.den=1
  ·simp[e]
  rw[iF e,iF (by omega)]
 rw[j];rw[<-jH];exact aEq q
theorem Lq q:Nat.log2 (EE q)=Nat.log2 q.den:=by
 unfold EE;by_cases e:q.den=1
 ·rw[oR e,e];rfl
 rw[iF e]
theorem bu{q}(h:qz q<=iY):fg (fq q)=some q:=by
 have hs:sF q.num.natAbs (EE q)=true:=by unfold sF;rw[Lq,aAv];exact h
 simp only[fg,fq,ai,n5,yk,hs,EQ,AC,rR]
theorem BR q:GS (fq q)=some q:=by simp only[GS,fq,ai,rR];simp
section
variable {P:Program}{μ:Mu}{s:St}{w w':World}
theorem BJ(l:List Nat):∀u∈l.map dg,Fi u=false:=fun u hu=>by obtain⟨d,_,rfl⟩:=Ac.1 hu;rfl
theorem PE(h:bU μ s w){n cs v}(hf:Vz μ n cs v)(hl:cs.length=n)(hm:∀u∈cs,Fi u=false):Sl w 1 v n cs:=by obtain⟨A,cap,rfl,y,B,C⟩:=hf;refine⟨by omega,A,cap,rfl,y,B,fun hn=>?_⟩;obtain⟨b,base,rfl,x⟩:=C hn;obtain⟨u,hu⟩:∃u,cs[0]?=some u:=⟨_,bY (by omega)⟩;exact⟨b,base,rfl,(h.fz _ _ _ (x 0 u hu)).1,fun j u hu=>eB (h.fz _ _ _ (x j u hu)).2.1 (hm u (eQ hu))⟩
theorem ED:∀{c:List AV}{l:List Nat}{cs:List Value},pW c=some l->ap μ c cs->cs=l.map dg/\Ok l
 | [],l,cs,h,hv=>by simp only[pW,iD]at h;subst h;simp only[ap]at hv;subst hv;exact⟨rfl,fun d hd=>by cases hd⟩
 |x::c,l,cs,h,hv=>by
  obtain⟨d,rfl⟩:∃d,x=.i .u32 (.ofNat d):=by
   cases x with
   |i k n=>cases k<;>first|(cases n with|ofNat d=>exact⟨d,rfl⟩|negSucc d=>simp[pW]at h)|(simp[pW]at h;done)
   |_=>simp[pW]at h
  simp only[pW]at h;obtain⟨hd,h⟩:=ah h;simp only[iN]at h;obtain⟨J,B,rfl⟩:=h;simp only[ap,VR]at hv;obtain⟨y,N,rfl,rfl,C⟩:=hv;obtain⟨e,u⟩:=ED B C;subst e;rw[ON]at hd;refine⟨rfl,fun A j=>?_⟩;rcases Is.1 j with rfl|j
  ·exact hd
  exact u A j
theorem TV(h:bU μ s w){x v l}(j:PZ x=some l)(u:VR μ x v):cQ w v l/\l.length<=17592186044416:=by
 cases x<;>simp only[PZ]at j<;>try cases j
 case snil=>simp only[VR]at u;subst u;exact⟨cQ.nil_ w,No _⟩
 case vw c n=>
  split at j
  ·next J hl=>
   obtain⟨B,j⟩:=ah j;cases j;simp only[gE,aBc,aAv]at B;simp only[VR]at u;obtain⟨cs,A,C⟩:=u;obtain⟨rfl,y⟩:=ED hl C;rw[<-B.1]at A;exact⟨⟨PE h A (by simp) (BJ _),y⟩,by omega⟩
  cases j
theorem Ox(h:bU μ s w){n v}(j:VR μ (.num n) v):ae w v n:=by simp only[VR]at j;obtain⟨l,u,x,y,A⟩:=j;exact⟨l,⟨PE h A (by simp) (BJ _),y⟩,u,x⟩
theorem uP(h:bU μ s w){x v n}(j:yk x=some n){k}(hn:n<2^k)(C:k<=281474976710656)(B:VR μ x v):∃l,cQ w v l/\val l=n/\l.length<=17592186044416:=by
 by_cases e:∃m,x=.num m
 ·obtain⟨m,rfl⟩:=e;simp only[yk,iD]at j;subst j;obtain⟨l,y,A,u⟩:=Ox h B;refine⟨l,y,u,?_⟩;have:=A.length_le (u.symm▸hn);omega
 have:yk x=(PZ x).map val:=by cases x<;>first|rfl|exact absurd ⟨_,rfl⟩ e
 rw[this]at j;simp only[iN]at j;obtain⟨l,y,rfl⟩:=j;obtain⟨A,u⟩:=TV h y B;exact⟨l,A,rfl,u⟩
theorem uK{n k:Nat}(h:Nat.log2 n+1<=k):n<2^k:=TK (SU n) (OK (by omega) h)
theorem im(h:bU μ s w){x v q}(B:fg x=some q)(U:VR μ x v){k}(hk:iY<=k)(u:k<=281474976710656):aG k w v q:=by
 unfold fg at B;simp only[iN]at B;obtain⟨⟨neg,n,d⟩,j,rfl⟩:=B;unfold n5 at j;split at j
 ·next Y xn xd=>
  split at j
  ·next n' d' hn hd=>
   obtain⟨N,j⟩:=ah j;cases j;unfold sF at N;rw[aAv]at N;simp only[VR,ap]at U;obtain⟨l,rfl,y0,_,rfl,rfl,y1,_,rfl,y,y2,_,rfl,A,rfl⟩:=U;obtain⟨l1,Z,C,a3⟩:=uP h hn (uK (k:=k) (by omega)) u y;obtain⟨l2,b1,J,b3⟩:=uP h hd (uK (k:=k) (by omega)) u A;exact⟨neg,y1,y2,l1,l2,rfl,Z,b1,by rw[C,J],C▸uK (by omega),J▸uK (by omega),a3,b3⟩
  cases j
 cases j
theorem J1(h:bU μ s w){x v q}(j:GS x=some q)(u:VR μ x v):ie w v q:=by
 have one:∀{x:AV}{n:Nat}{v:Value},(match x with|.num n=>some n|.snil=>some 0|_=>none)=some n->VR μ x v->ae w v n:=by
  intro x n v j u;cases x<;>simp only at j<;>try cases j
  ·simp only[VR]at u;subst u;exact ae.nil_ w
  exact Ox h u
 unfold GS at j;split at j
 ·next neg xn Z=>
  split at j
  ·next n d hn hd=>
   obtain⟨N,j⟩:=ah j;simp only[gE,aBp,aBc]at N;obtain⟨⟨B,C⟩,J⟩:=N;simp only[VR,ap]at u;obtain⟨l,rfl,y0,_,rfl,rfl,U,_,rfl,y,Y,_,rfl,A,rfl⟩:=u;simp only[iD]at j;rw[j]at B C J;exact⟨U,Y,by rw[B],C▸one hn y,(show d=(if q.den=1 then 0 else q.den)from J)▸one hd A⟩
  cases j
 cases j
theorem Ow{μ' B n v}(hn:∀b i u,B<=b->w'.cell? ⟨b,i,none⟩=some u->Fi u=false->μ'.fz b i=some u)(h:ae w' v n)(hf:bP v B):VR μ' (.num n) v:=by obtain⟨l,⟨⟨Z,A,c,rfl,x,y,C⟩,J⟩,N,U⟩:=h;simp only[VR];refine⟨l,N,U,J,A,c,rfl,x,y,fun j=>?_⟩;obtain⟨b,off,rfl,hlt,Y⟩:=C j;exact⟨b,off,rfl,fun i u hu=>hn _ _ _ (hf _ _ _ rfl) (Y i u hu) (BJ _ u (eQ hu))⟩
theorem PH{μ' B q v}(hn:∀b i u,B<=b->w'.cell? ⟨b,i,none⟩=some u->Fi u=false->μ'.fz b i=some u)(h:aB B w' v q):VR μ' (fq q) v:=by obtain⟨A,y,rfl,j,x,f1,f2⟩:=h;simp only[fq,ai,VR];exact⟨_,rfl,ap.cons (by simp[VR]) (ap.cons (Ow hn j f1) (ap.cons (Ow hn x f2) ap.nil_))⟩
theorem lV{f}{vs:List Value}{n q}(h:bU μ s w)(y:Calls P f vs.toArray w fun e w'=>∃u,e=.returned u/\aB w.heap.size w' u q/\Below w.heap.size w w'): CallsIn Fence.wide n P f vs.toArray w fun e w'=>∃j μ',e=.returned j/\bU μ' s w'/\fo μ s w μ' s w'/\VR μ' (fq q) j:=by refine aCi (aDj.2 y) ?_;rintro e w' ⟨u,rfl,hu,x⟩;obtain⟨μ',r,t,n1,_⟩:=qx h x;exact⟨u,μ',rfl,r,t,PH n1 hu⟩
theorem pb{f}{vs:List Value}{n u x}(h:bU μ s w)(B:VR μ x u)(A:Calls P f vs.toArray w fun e w'=>e=.returned u/\Below w.heap.size w w'): CallsIn Fence.wide n P f vs.toArray w fun e w'=>∃y μ',e=.returned y/\bU μ' s w'/\fo μ s w μ' s w'/\VR μ' x y:=by refine aCi (aDj.2 A) ?_;rintro e w' ⟨rfl,j⟩;exact⟨u,μ,rfl,h.below j,fo.below μ s j,B⟩
end
def cK(op:Rat->Rat->Rat):List AV->Option AV
 | [x,y]=>match fg x,fg y with
  |some q,some r=>some (fq (op q r))
  |_,_=>none
 |_=>none
def xD:List AV->Option AV
 | [x,y]=>match fg x,fg y with
  |some q,some r=>some (.i .i64 (ci (q-r)))
  |_,_=>none
 |_=>none
def kS:List AV->Option AV
 | [x]=>(fg x).map fun q=>.i .i64 (ci q)
 |_=>none
def tq(op:Rat->Rat):List AV->Option AV
 | [x]=>(fg x).map fun q=>fq (op q)
 |_=>none
def yi:List AV->Option AV
 | [.i .i64 (.ofNat n)]=>cond (Nat.blt n 9223372036854775808) (some (fq (n:Rat))) none
 |_=>none
def pR:List AV->Option AV
 | [.i .i64 (.ofNat n),.i .i64 (.ofNat d)]=>cond (Nat.blt n 9223372036854775808&&Nat.blt d 9223372036854775808&&Nat.blt 0 d) (some (fq ((n:Rat)/(d:Rat)))) none
 |_=>none
def tS:List AV->Option AV
 | [x,y]=>match GS x,GS y with
  |some q,some r=>some (.b (decide (q=r)))
  |_,_=>none
 |_=>none
def EC:List AV->Option AV
 | [x,y]=>match fg x,fg y with
  |some q,some r=>cond (decide (r=0)) none (some (.tup [fq (q/r),.i .i64 0]))
  |_,_=>none
 |_=>none
def r6:List AV->Option AV
 | [x,y]=>match fg x,fg y with
  |some q,some r=>cond (decide (r=0)) none (some (fq (q/r)))
  |_,_=>none
 |_=>none
section
variable {P:Program}{f:FuncId}
theorem nf:iY<=iY/\iY<=281474976710656:=by unfold iY;omega
theorem pD(C:dt P f=true)op(N:∀w v J q r k,aG k w v q->aG k w J r->0<k->k<=549755813888->Calls P f #[v,J] w fun e w'=>∃u,e=.returned u/\aB w.heap.size w' u (op q r)/\Below w.heap.size w w'):ag P f (ab (cK op)):=by
 refine fG C ?_;intro args v h μ s w vs n B j;unfold cK at h;split at h
 ·next x y=>
  split at h
  ·next q r Y Z=>
   cases h;simp only[ap]at j;obtain⟨a,_,rfl,ha,b,_,rfl,U,rfl⟩:=j;obtain⟨k,A⟩:∃k,k=iY:=⟨_,rfl⟩;exact lV B (N w a b q r k (im B Y ha (by omega) (by rw[A];exact nf.2)) (im B Z U (by omega) (by rw[A];exact nf.2)) (by rw[A];unfold iY;omega) (by rw[A];unfold iY;omega))
  cases h
 cases h
theorem Qb(B:dt P f=true)(J:∀w v C q r k,aG k w v q->aG k w C r->0<k->k<=549755813888->Calls P f #[v,C] w fun e w'=>e=.returned (.int .i64 (ci (q-r)))/\Below w.heap.size w w'):ag P f (ab xD):=by
 refine fG B ?_;intro args v h μ s w Z n A j;unfold xD at h;split at h
 ·next x y=>
  split at h
  ·next q r U Y=>
   cases h;simp only[ap]at j;obtain⟨a,_,rfl,ha,b,_,rfl,N,rfl⟩:=j;obtain⟨k,u⟩:∃k,k=iY:=⟨_,rfl⟩;exact pb A (by simp[VR]) (J w a b q r k (im A U ha (by omega) (by rw[u];exact nf.2)) (im A Y N (by omega) (by rw[u];exact nf.2)) (by rw[u];unfold iY;omega) (by rw[u];unfold iY;omega))
  cases h
 cases h
theorem Iy(u:dt P f=true)(B:∀w v q k,aG k w v q->0<k->k<=549755813888->Calls P f #[v] w fun e w'=>e=.returned (.int .i64 (ci q))/\Below w.heap.size w w'):ag P f (ab kS):=by
 refine fG u ?_;intro args v h μ s w J n A j;unfold kS at h;split at h
 ·next x=>
  simp only[iN]at h;obtain⟨q,C,rfl⟩:=h;simp only[ap]at j;obtain⟨a,_,rfl,ha,rfl⟩:=j;obtain⟨k,y⟩:∃k,k=iY:=⟨_,rfl⟩;exact pb A (by simp[VR]) (B w a q k (im A C ha (by omega) (by rw[y];exact nf.2)) (by rw[y];unfold iY;omega) (by rw[y];unfold iY;omega))
 cases h
theorem ES(y:dt P f=true)op(C:∀w v q k,aG k w v q->0<k->k<=549755813888->Calls P f #[v] w fun e w'=>∃u,e=.returned u/\aB w.heap.size w' u (op q)/\Below w.heap.size w w'):ag P f (ab (tq op)):=by
 refine fG y ?_;intro args v h μ s w N n B j;unfold tq at h;split at h
 ·next x=>
  simp only[iN]at h;obtain⟨q,J,rfl⟩:=h;simp only[ap]at j;obtain⟨a,_,rfl,ha,rfl⟩:=j;obtain⟨k,A⟩:∃k,k=iY:=⟨_,rfl⟩;exact lV B (C w a q k (im B J ha (by omega) (by rw[A];exact nf.2)) (by rw[A];unfold iY;omega) (by rw[A];unfold iY;omega))
 cases h
theorem Vb(x:dt P f=true)(A:∀w (n:Nat),n<9223372036854775808->Calls P f #[.int .i64 (n:Int)] w fun e w'=>∃u,e=.returned u/\aB w.heap.size w' u (n:Rat)/\Below w.heap.size w w'):ag P f (ab yi):=by
 refine fG x ?_;intro args v h μ s w C n B j;unfold yi at h;split at h
 ·next m=>
  obtain⟨y,h⟩:=ah h;rw[ON]at y;cases h;simp only[ap,VR]at j;obtain⟨a,_,rfl,rfl,rfl⟩:=j;exact lV B (A w m y)
 cases h
theorem SO(y:dt P f=true)(A:∀w (n d:Nat),n<9223372036854775808->d<9223372036854775808->0<d->Calls P f #[.int .i64 (n:Int),.int .i64 (d:Int)] w fun e w'=>∃u,e=.returned u/\aB w.heap.size w' u ((n:Rat)/(d:Rat))/\Below w.heap.size w w'):ag P f (ab pR):=by
 refine fG y ?_;intro args v h μ s w C n B j;unfold pR at h;split at h
 ·next m d=>
  obtain⟨x,h⟩:=ah h;simp only[gE,ON]at x;cases h;simp only[ap,VR]at j;obtain⟨a,_,rfl,rfl,b,_,rfl,rfl,rfl⟩:=j;exact lV B (A w m d x.1.1 x.1.2 x.2)
 cases h
theorem R5(A:dt P f=true)(C:∀w v B q r,ie w v q->ie w B r->Calls P f #[v,B] w fun e w'=>e=.returned (.bool (decide (q=r)))/\Below w.heap.size w w'):ag P f (ab tS):=by
 refine fG A ?_;intro args v h μ s w Y n u j;unfold tS at h;split at h
 ·next x y=>
  split at h
  ·next q r N U=>
   cases h;simp only[ap]at j;obtain⟨a,_,rfl,ha,b,_,rfl,J,rfl⟩:=j;exact pb u (by simp[VR]) (C w a b q r (J1 u N ha) (J1 u U J))
  cases h
 cases h
theorem WF(N:dt P f=true)(Y:∀w v U q r k,aG k w v q->aG k w U r->0<k->k<=549755813888->r≠0->Calls P f #[v,U] w fun e w'=>∃u,e=.returned (.tuple #[u,.int .i64 0])/\aB w.heap.size w' u (q/r)/\Below w.heap.size w w'):ag P f (ab EC):=by
 refine fG N ?_;intro args v h μ s w vs n C A;unfold EC at h;split at h
 ·next x y=>
  split at h
  ·next q r Z hr=>
   by_cases j:r=0
   ·rw[lT j]at h;cases h
   rw[iS j]at h;cases h;simp only[ap]at A;obtain⟨a,_,rfl,ha,b,_,rfl,J,rfl⟩:=A;obtain⟨k,B⟩:∃k,k=iY:=⟨_,rfl⟩;refine aCi (aDj.2 (Y w a b q r k (im C Z ha (by omega) (by rw[B];exact nf.2)) (im C hr J (by omega) (by rw[B];exact nf.2)) (by rw[B];unfold iY;omega) (by rw[B];unfold iY;omega) j)) ?_;rintro e w' ⟨u,rfl,hu,J⟩;obtain⟨μ',r',t,n1,_⟩:=qx C J;exact⟨_,μ',rfl,r',t,by simp only[VR];exact⟨[u,.int .i64 0],rfl,ap.cons (PH n1 hu) (ap.cons (by simp[VR]) ap.nil_)⟩⟩
  cases h
 cases h
theorem TU(J:dt P f=true)(U:∀w v N q r k,aG k w v q->aG k w N r->0<k->k<=549755813888->r≠0->Calls P f #[v,N] w fun e w'=>∃u,e=.returned u/\aB w.heap.size w' u (q/r)/\Below w.heap.size w w'):ag P f (ab r6):=by
 refine fG J ?_;intro args v h μ s w vs n C A;unfold r6 at h;split at h
 ·next x y=>
  split at h
  ·next q r Z hr=>
   by_cases j:r=0
   ·rw[lT j]at h;cases h
   rw[iS j]at h;cases h;simp only[ap]at A;obtain⟨a,_,rfl,ha,b,_,rfl,Y,rfl⟩:=A;obtain⟨k,B⟩:∃k,k=iY:=⟨_,rfl⟩;exact lV C (U w a b q r k (im C Z ha (by omega) (by rw[B];exact nf.2)) (im C hr Y (by omega) (by rw[B];exact nf.2)) (by rw[B];unfold iY;omega) (by rw[B];unfold iY;omega) j)
  cases h
 cases h
end
end
end Go.Proofs.YtfoceannfdbinaaGreat
