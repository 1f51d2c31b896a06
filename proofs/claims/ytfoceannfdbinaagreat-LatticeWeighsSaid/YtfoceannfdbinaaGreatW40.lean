/- Lemmas. -/
import Derived.Test.YtfoceannfdbinaaGreatW38
set_option linter.all false
set_option maxRecDepth 1000000
set_option maxHeartbeats 32000000
namespace Go.Proofs.YtfoceannfdbinaaGreat
open Go.RowKit
theorem KS w O V lv gs k s A A' m c m' c' mv a mix(h:qH w lv gs s A A' m c m' c' a mv mix): Calls Tryz.prog 79 #[uc O V lv k s A A' m c m' c' mv] w fun e w'=>e=.returned (.int .i64 (cj O V gs k a mix))/\Below w.heap.size w w':=by
 obtain⟨Al,cl,rfl,_,_,_⟩:=h.grams.open_;obtain⟨Am,cm,rfl,b6,ch,b2⟩:=h.mixes.open_;have HL:=aS h;obtain⟨ml,a0⟩:∃n,mix.length=n:=⟨_,rfl⟩;have bx:Hid (ct 64 w (.slice Am ml cm) mix):=aS (by rw[<-a0];exact h.mixes);have b9:=aS h.short;have b8:=aS b2;have QA:=aS (h.amount.qb (by omega));rw[a0]at b6⊢;have al:=aS a0;have hms:ml<=1000000:=by rw[<-a0];exact h.short
 clear h a0 b2;unfold uc;go_enter Tryz.func79,Tryz.ntmps79;go_wp2_with fail;obtain⟨W,hW,P0,PB,ca⟩:=jy w 34 [.int .i64 O,.int .i64 V,.slice Al gs.length cl,.int .i64 k,.bool s,.slice A m c,.slice A' m' c',.slice Am ml cm];rw[<-hW];clear hW;obtain⟨p0,p1,p2,p3,p4,p5,p6,p7⟩:=jx P0.out;go_wp2_with fail;refine(wi W O V _ gs (HL.out.grams.below PB.out)).mono ?_;rintro e w1 ⟨rfl,a6⟩;have P1:=aS (P0.out.below' a6);have J:=aS (PB.out.trans (a6.mono PB.out.size));clear p0 p1 p2 p3 p4 p5 p6 p7 a6 P0 PB;obtain⟨p0,p1,p2,p3,p4,p5,p6,p7⟩:=jx P1.out;obtain⟨te,bn⟩:∃z,cW O V gs=z:=⟨_,rfl⟩;rw[bn];have a5:=aS bn;clear bn;by_cases h0:te=0
 ·subst h0;have HO:=vM (sC a5.out).2.1;have U:Hid (cj O V gs k a mix=if aR k a mix O=true then 0 else 2):=aS (by unfold cj;rw[a5.out];rfl);obtain⟨sa,b3⟩:∃z,ci a=z:=⟨_,rfl⟩;have C:=aS b3;clear b3;by_cases am:k=1
  ·subst am;by_cases hz:ml=0
   ·have f1:((ml:Int) == 0)=true:=by simpa using hz
    by_cases hs:0<sa
    ·have d1:decide ((0:Int)<sa)=true:=lT hs;have Y:Hid (aR 1 a mix O=true):=aS (by unfold aR;rw[oR rfl,C.out,al.out,d1,f1];rfl);clear hz hs;go_wp2_with fail;refine(lU w1 _ a 64 (HL.out.amount.below J.out) (by omega)).mono ?_;rintro e w2 ⟨rfl,B⟩;rw[C.out];have B2:=aS (J.out.trans (B.mono J.out.size));have P2:=aS (P1.out.below' B);clear p0 p1 p2 p3 p4 p5 p6 p7 B;obtain⟨p0,p1,p2,p3,p4,p5,p6,p7⟩:=jx P2.out;have N:Hid (cj O V gs 1 a mix=0):=aS (by rw[U.out,Y.out];rfl);go_wp2_with fail;go_ret;exact⟨aD N.out.symm,B2.out⟩
    have d1:decide ((0:Int)<sa)=false:=iS hs;have Y:Hid (aR 1 a mix O=false):=aS (by unfold aR;rw[oR rfl,C.out,d1];rfl);clear hz hs;go_wp2_with fail;refine(lU w1 _ a 64 (HL.out.amount.below J.out) (by omega)).mono ?_;rintro e w2 ⟨rfl,B⟩;rw[C.out];have B2:=aS (J.out.trans (B.mono J.out.size));have P2:=aS (P1.out.below' B);clear p0 p1 p2 p3 p4 p5 p6 p7 B;obtain⟨p0,p1,p2,p3,p4,p5,p6,p7⟩:=jx P2.out;have N:Hid (cj O V gs 1 a mix=2):=aS (by rw[U.out,Y.out];rfl);go_wp2_with fail;go_ret;exact⟨aD N.out.symm,B2.out⟩
   have f1:((ml:Int) == 0)=false:=by simpa using hz
   have Y:Hid (aR 1 a mix O=false):=aS (by unfold aR;rw[oR rfl,al.out,f1,aBk]);clear hz;have N:Hid (cj O V gs 1 a mix=2):=aS (by rw[U.out,Y.out];rfl);go_wp2_with fail;go_ret;exact⟨aD N.out.symm,J.out⟩
  have n1:(k == 1)=false:=by simpa using am
  by_cases an:k=2
  ·subst an;clear n1 am;have i1:IntKind.i64.wrap (O+1)=O+1:=aAw _ (by omega);by_cases hs:sa=0
   ·have d1:(sa == 0)=true:=by simpa using hs
    clear hs;go_wp2_with fail;refine(lU w1 _ a 64 (HL.out.amount.below J.out) (by omega)).mono ?_;rintro e w2 ⟨rfl,B⟩;rw[C.out];have B2:=aS (J.out.trans (B.mono J.out.size));have P2:=aS (P1.out.below' B);clear p0 p1 p2 p3 p4 p5 p6 p7 B;obtain⟨p0,p1,p2,p3,p4,p5,p6,p7⟩:=jx P2.out;by_cases hz:(ml:Int)=O+1
    ·have f1:((ml:Int) == O+1)=true:=by simpa using hz
     have cf:1<ml:=by omega
     have f2:(0:Int)<(ml:Int):=by omega
     go_wp2_with fail;refine(yr w2 64 _ mix (bx.out.below B2.out) (by omega) (by rw[al.out];omega)).mono ?_;rintro e w3 ⟨rfl,a7⟩;obtain⟨db,bd⟩:∃z,ni mix=z:=⟨_,rfl⟩;rw[bd];have bo:=aS bd;clear bd;have B3:=aS (B2.out.trans (a7.mono B2.out.size));have P3:=aS (P2.out.below' a7);clear p0 p1 p2 p3 p4 p5 p6 p7 a7;obtain⟨p0,p1,p2,p3,p4,p5,p6,p7⟩:=jx P3.out;cases db with
     |false=>have Y:Hid (aR 2 a mix O=false):=aS (by unfold aR;rw[iF (by decide),oR rfl,bo.out];simp);have N:Hid (cj O V gs 2 a mix=2):=aS (by rw[U.out,Y.out];rfl);go_wp2_with fail;go_ret;exact⟨aD N.out.symm,B3.out⟩
     |true=>
      obtain⟨x,hx⟩:∃x,mix[0]?=some x:=⟨_,bY (by rw[al.out];omega)⟩;obtain⟨_,_,ee,_,_,a4⟩:=bx.out.at_;obtain⟨bm,om,ng,An,nn,cn,Ad,nd,cd,he,ba,e0,e1,e2,hf⟩:=a4 0 x hx;have hA:Am=some ⟨bm,om,none⟩:=by cases ee;exact he
      subst hA;have HG:Hid (mix.getD 0 0=x):=aS (by rw[eM,hx];rfl);simp only[aCh,aAh]at e0 e1 e2;have c0:=(B3.out.cell (p:=⟨bm,om,none⟩) ba).trans e0;have c1:=(B3.out.cell (p:=⟨bm,om+1,none⟩) ba).trans e1;have c2:=(B3.out.cell (p:=⟨bm,om+2,none⟩) ba).trans e2;have FX:=aS hf;clear hx ee a4 he e0 e1 e2 hf;go_wp2_with fail;refine(lU w3 _ x 64 (FX.out.below B3.out) (by omega)).mono ?_;rintro e w4 ⟨rfl,a9⟩;obtain⟨sx,bj⟩:∃z,ci x=z:=⟨_,rfl⟩;rw[bj];have b0:=aS bj;clear bj c0 c1 c2;have B4:=aS (B3.out.trans (a9.mono B3.out.size));have P4:=aS (P3.out.below' a9);clear p0 p1 p2 p3 p4 p5 p6 p7 a9;obtain⟨p0,p1,p2,p3,p4,p5,p6,p7⟩:=jx P4.out;by_cases hc:0<sx
      ·have d2:decide (0<sx)=true:=lT hc;have Y:Hid (aR 2 a mix O=true):=aS (by unfold aR;rw[iF (by decide),oR rfl,C.out,al.out,bo.out,HG.out,b0.out,d1,f1,d2];rfl);clear hc hz;have N:Hid (cj O V gs 2 a mix=0):=aS (by rw[U.out,Y.out];rfl);go_wp2_with fail;go_ret;exact⟨aD N.out.symm,B4.out⟩
      have d2:decide (0<sx)=false:=iS hc;have Y:Hid (aR 2 a mix O=false):=aS (by unfold aR;rw[iF (by decide),oR rfl,HG.out,b0.out,d2];simp);clear hc hz;have N:Hid (cj O V gs 2 a mix=2):=aS (by rw[U.out,Y.out];rfl);go_wp2_with fail;go_ret;exact⟨aD N.out.symm,B4.out⟩
    have f1:((ml:Int) == O+1)=false:=by simpa using hz
    have Y:Hid (aR 2 a mix O=false):=aS (by unfold aR;rw[iF (by decide),oR rfl,al.out,f1];simp);clear hz;have N:Hid (cj O V gs 2 a mix=2):=aS (by rw[U.out,Y.out];rfl);go_wp2_with fail;go_ret;exact⟨aD N.out.symm,B2.out⟩
   have d1:(sa == 0)=false:=by simpa using hs
   have Y:Hid (aR 2 a mix O=false):=aS (by unfold aR;rw[iF (by decide),oR rfl,C.out,d1];rfl);clear hs;go_wp2_with fail;refine(lU w1 _ a 64 (HL.out.amount.below J.out) (by omega)).mono ?_;rintro e w2 ⟨rfl,B⟩;rw[C.out];have B2:=aS (J.out.trans (B.mono J.out.size));have P2:=aS (P1.out.below' B);clear p0 p1 p2 p3 p4 p5 p6 p7 B;obtain⟨p0,p1,p2,p3,p4,p5,p6,p7⟩:=jx P2.out;have N:Hid (cj O V gs 2 a mix=2):=aS (by rw[U.out,Y.out];rfl);go_wp2_with fail;go_ret;exact⟨aD N.out.symm,B2.out⟩
  have n2:(k == 2)=false:=by simpa using an
  by_cases av:k=3
  ·subst av;clear n1 n2 am an;by_cases hz:ml=0
   ·have f1:((ml:Int) == 0)=true:=by simpa using hz
    have y:=aS (Below.refl w1.heap.size w1);have hS:=aT p4 (aT p5 p6);obtain⟨sc,bf⟩:∃z,ci (a-((1:Nat):Rat))=z:=⟨_,rfl⟩;have bB:Hid (ci (a-((1:Nat):Rat))=sc):=aS bf;have a2:Hid (ci (a-1)=sc):=aS bf;clear bf;by_cases hs:0<sa
    ·have d1:decide ((0:Int)<sa)=true:=lT hs;by_cases hc:sc<0
     ·have d2:decide (sc<0)=true:=lT hc;have Y:Hid (aR 3 a mix O=true):=aS (by unfold aR;rw[iF (by decide),iF (by decide),oR rfl,a2.out,C.out,al.out,iS (show ¬0<=sc by omega),d1,f1];rfl);have N:Hid (cj O V gs 3 a mix=0):=aS (by rw[U.out,Y.out];rfl);clear hc hz hs;go_wp2_with fail
      go_region_held3 (fun w'=>w'.cell? ⟨w.heap.size,4,none⟩=some (.bool s)/\w'.cell? ⟨w.heap.size,5,none⟩=some (.slice A m c)/\w'.cell? ⟨w.heap.size,6,none⟩=some (.slice A' m' c'))
       (first|assumption|go_keep)
       (first
        |(go_at_call 26;refine(lU _ _ a 64 (HL.out.amount.below J.out |>.below (by first|exact y.out|exact y.out.trans (az _)|exact y.out.trans ((az _).mono y.out.size))) (by omega)).mono ?_;rintro e wl ⟨rfl,j⟩;rw[C.out];have ad:=j;(first|replace j:=eX j|replace j:=ja j|replace j:=ak j|skip);replace y:=aS (y.out.trans (j.mono y.out.size));clear ad;have hS:=aT ((P1.out.below' y.out).cell 4) (aT ((P1.out.below' y.out).cell 5) ((P1.out.below' y.out).cell 6));clear j)
        |(go_at_call 23;refine(Y4 _ 1 (by omega)).mono ?_;rintro e wl ⟨u,rfl,t3,j⟩;have ad:=j;(first|replace j:=eX j|replace j:=ja j|replace j:=ak j|skip);replace y:=aS (y.out.trans (j.mono y.out.size));clear ad;obtain⟨Au,mu,cu,b4,b7,b5,rfl⟩:=t3.at_.open_;have T3:=aS (t3.at_.frac (k:=64) (dA (n:=1) (k:=64) (by omega) (by omega)) (by omega));have hS:=aT ((P1.out.below' y.out).cell 4) (aT ((P1.out.below' y.out).cell 5) ((P1.out.below' y.out).cell 6));clear j t3)
        |(go_at_call 39;refine(Ue _ _ _ a ((1:Nat):Rat) 64 (HL.out.amount.below J.out |>.below (by first|exact y.out|exact y.out.trans ((az _).mono y.out.size))) ?_ (by omega) (by omega)).mono ?_;(first|exact T3.out|exact T3.out.below (az _)|exact T3.out.below (ga _ _)|exact T3.out.below (jb _ _));rintro e wl ⟨rfl,j⟩;rw[bB.out];have ad:=j;(first|replace j:=eX j|replace j:=ja j|replace j:=ak j|skip);replace y:=aS (y.out.trans (j.mono y.out.size));clear ad;have hS:=aT ((P1.out.below' y.out).cell 4) (aT ((P1.out.below' y.out).cell 5) ((P1.out.below' y.out).cell 6));clear j))
      all_goals
       go_wp2_with fail;go_ret;exact⟨aD N.out.symm,J.out.trans (y.out.mono J.out.size)⟩
     have d2:decide (sc<0)=false:=iS hc;have Y:Hid (aR 3 a mix O=false):=aS (by unfold aR;rw[iF (by decide),iF (by decide),oR rfl,a2.out,lT (show 0<=sc by omega)];rfl);have N:Hid (cj O V gs 3 a mix=2):=aS (by rw[U.out,Y.out];rfl);clear hc hz hs;go_wp2_with fail
     go_region_held3 (fun w'=>w'.cell? ⟨w.heap.size,4,none⟩=some (.bool s)/\w'.cell? ⟨w.heap.size,5,none⟩=some (.slice A m c)/\w'.cell? ⟨w.heap.size,6,none⟩=some (.slice A' m' c'))
      (first|assumption|go_keep)
      (first
       |(go_at_call 26;refine(lU _ _ a 64 (HL.out.amount.below J.out |>.below (by first|exact y.out|exact y.out.trans (az _)|exact y.out.trans ((az _).mono y.out.size))) (by omega)).mono ?_;rintro e wl ⟨rfl,j⟩;rw[C.out];have ad:=j;(first|replace j:=eX j|replace j:=ja j|replace j:=ak j|skip);replace y:=aS (y.out.trans (j.mono y.out.size));clear ad;have hS:=aT ((P1.out.below' y.out).cell 4) (aT ((P1.out.below' y.out).cell 5) ((P1.out.below' y.out).cell 6));clear j)
       |(go_at_call 23;refine(Y4 _ 1 (by omega)).mono ?_;rintro e wl ⟨u,rfl,t3,j⟩;have ad:=j;(first|replace j:=eX j|replace j:=ja j|replace j:=ak j|skip);replace y:=aS (y.out.trans (j.mono y.out.size));clear ad;obtain⟨Au,mu,cu,b4,b7,b5,rfl⟩:=t3.at_.open_;have T3:=aS (t3.at_.frac (k:=64) (dA (n:=1) (k:=64) (by omega) (by omega)) (by omega));have hS:=aT ((P1.out.below' y.out).cell 4) (aT ((P1.out.below' y.out).cell 5) ((P1.out.below' y.out).cell 6));clear j t3)
       |(go_at_call 39;refine(Ue _ _ _ a ((1:Nat):Rat) 64 (HL.out.amount.below J.out |>.below (by first|exact y.out|exact y.out.trans ((az _).mono y.out.size))) ?_ (by omega) (by omega)).mono ?_;(first|exact T3.out|exact T3.out.below (az _)|exact T3.out.below (ga _ _)|exact T3.out.below (jb _ _));rintro e wl ⟨rfl,j⟩;rw[bB.out];have ad:=j;(first|replace j:=eX j|replace j:=ja j|replace j:=ak j|skip);replace y:=aS (y.out.trans (j.mono y.out.size));clear ad;have hS:=aT ((P1.out.below' y.out).cell 4) (aT ((P1.out.below' y.out).cell 5) ((P1.out.below' y.out).cell 6));clear j))
     all_goals
      go_wp2_with fail;go_ret;exact⟨aD N.out.symm,J.out.trans (y.out.mono J.out.size)⟩
    have d1:decide ((0:Int)<sa)=false:=iS hs;have Y:Hid (aR 3 a mix O=false):=aS (by unfold aR;rw[iF (by decide),iF (by decide),oR rfl,C.out,d1];simp);have N:Hid (cj O V gs 3 a mix=2):=aS (by rw[U.out,Y.out];rfl);clear hz hs;have a3:Hid (∀w',Below w1.heap.size w1 w'->Below w1.heap.size w1 w'/\w'.cell? ⟨w.heap.size,4,none⟩=some (.bool s)/\w'.cell? ⟨w.heap.size,5,none⟩=some (.slice A m c)/\w'.cell? ⟨w.heap.size,6,none⟩=some (.slice A' m' c')):=aS (fun w' j=>⟨j,(P1.out.below' j).cell 4,(P1.out.below' j).cell 5,(P1.out.below' j).cell 6⟩);clear hS;have hS:=a3.out w1.drew (az w1);go_wp2_with fail;refine wp_region_held_drew (S:=(fun w'=>Below w1.heap.size w1 w'/\w'.cell? ⟨w.heap.size,4,none⟩=some (.bool s)/\w'.cell? ⟨w.heap.size,5,none⟩=some (.slice A m c)/\w'.cell? ⟨w.heap.size,6,none⟩=some (.slice A' m' c'))) (by kernel_rfl) hS (fun Z=>?_);clear hS;refine RH 0 ?_ rfl (by kernel_rfl) rfl ‹_› ?_ (fun _ _ _ h=>h) (RH 1 ?_ rfl (by kernel_rfl) rfl ‹_› ?_ (fun _ _ _ h=>h) ?_);iterate 2 (rotate_left;· (intro w' hSw;(try dsimp only at hSw);(try go_frame);go_simp<;>with_reducible rfl))
    go_frame;refine RH 2 ?_ rfl (by kernel_rfl) rfl ‹_› ?_ (fun _ _ _ h=>h) (RH 3 ?_ rfl (by kernel_rfl) rfl ‹_› ?_ (fun _ _ _ h=>h) ?_);iterate 2 (rotate_left;· (intro w' hSw;(try dsimp only at hSw);(try go_frame);go_simp<;>with_reducible rfl))
    go_frame;refine wpAnyH_ready (rs:=[4]) (by kernel_rfl) (by simp) ?_;refine AllReadyH.cons rfl (fun K hK=>?_) AllReadyH.nil;go_simp;refine(lU _ _ a 64 ((HL.out.amount.below J.out).below Z.1) (by omega)).mono ?_;rintro e wl ⟨rfl,j⟩;rw[C.out];have hS:=a3.out wl (Z.1.trans (j.mono Z.1.size));clear j Z;try go_simp
    refine hK.out _ _ hS (fun Z=>?_);clear hK K hS;try go_frame
    refine RH 5 ?_ rfl (by kernel_rfl) rfl ‹_› ?_ (fun _ _ _ h=>h) (RH 6 ?_ rfl (by kernel_rfl) rfl ‹_› ?_ (fun _ _ _ h=>h) (RH 7 ?_ rfl (by kernel_rfl) rfl ‹_› ?_ (fun _ _ _ h=>h) ?_));iterate 3 (rotate_left;· (intro w' hSw;(try dsimp only at hSw);(try go_frame);go_simp<;>with_reducible rfl))
    go_frame;refine XX 8 rfl (by kernel_rfl) rfl ‹_› (fun _ _ _ h=>h) ?_;go_frame;refine XX 9 rfl (by kernel_rfl) rfl ‹_› (fun _ _ _ h=>h) ?_;go_frame;refine XX 10 rfl (by kernel_rfl) rfl ‹_› (fun _ _ _ h=>h) ?_;go_frame;refine XX 11 rfl (by kernel_rfl) rfl ‹_› (fun _ _ _ h=>h) ?_;go_frame;refine XX 12 rfl (by kernel_rfl) rfl ‹_› (fun _ _ _ h=>h) ?_;go_frame;refine RH 13 ?_ rfl (by kernel_rfl) rfl ‹_› ?_ (fun _ _ _ h=>h) (RH 14 ?_ rfl (by kernel_rfl) rfl ‹_› ?_ (fun _ _ _ h=>h) ?_);iterate 2 (rotate_left;· (intro w' hSw;(try dsimp only at hSw);(try go_frame);go_simp<;>with_reducible rfl))
    go_frame;refine wpAnyH_done (by kernel_rfl) ?_ _;have b1:=J.out.trans (Z.1.mono J.out.size);clear Z;go_wp2_with fail;go_ret;exact⟨aD N.out.symm,b1⟩
   have f1:((ml:Int) == 0)=false:=by simpa using hz
   have Y:Hid (aR 3 a mix O=false):=aS (by unfold aR;rw[iF (by decide),iF (by decide),oR rfl,al.out,f1];simp);have N:Hid (cj O V gs 3 a mix=2):=aS (by rw[U.out,Y.out];rfl);clear hz;go_wp2_with fail;go_quiet (fail);go_wp2_with fail;go_ret;exact⟨aD N.out.symm,a8 J.out _⟩
  have n3:(k == 3)=false:=by simpa using av
  by_cases a1:k=4
  ·subst a1;clear n1 n2 n3 am an av;by_cases hz:ml=0
   ·have f1:((ml:Int) == 0)=true:=by simpa using hz
    by_cases hs:sa=0
    ·have d1:(sa == 0)=true:=by simpa using hs
     have Y:Hid (aR 4 a mix O=true):=aS (by unfold aR;rw[iF (by decide),iF (by decide),iF (by decide),oR rfl,C.out,al.out,d1,f1];rfl);clear hz hs;go_wp2_with fail;refine(lU w1 _ a 64 (HL.out.amount.below J.out) (by omega)).mono ?_;rintro e w2 ⟨rfl,B⟩;rw[C.out];have B2:=aS (J.out.trans (B.mono J.out.size));have P2:=aS (P1.out.below' B);clear p0 p1 p2 p3 p4 p5 p6 p7 B;obtain⟨p0,p1,p2,p3,p4,p5,p6,p7⟩:=jx P2.out;have N:Hid (cj O V gs 4 a mix=0):=aS (by rw[U.out,Y.out];rfl);go_wp2_with fail;go_ret;exact⟨aD N.out.symm,B2.out⟩
    have d1:(sa == 0)=false:=by simpa using hs
    have Y:Hid (aR 4 a mix O=false):=aS (by unfold aR;rw[iF (by decide),iF (by decide),iF (by decide),oR rfl,C.out,d1];rfl);clear hz hs;go_wp2_with fail;refine(lU w1 _ a 64 (HL.out.amount.below J.out) (by omega)).mono ?_;rintro e w2 ⟨rfl,B⟩;rw[C.out];have B2:=aS (J.out.trans (B.mono J.out.size));have P2:=aS (P1.out.below' B);clear p0 p1 p2 p3 p4 p5 p6 p7 B;obtain⟨p0,p1,p2,p3,p4,p5,p6,p7⟩:=jx P2.out;have N:Hid (cj O V gs 4 a mix=2):=aS (by rw[U.out,Y.out];rfl);go_wp2_with fail;go_ret;exact⟨aD N.out.symm,B2.out⟩
   have f1:((ml:Int) == 0)=false:=by simpa using hz
   have Y:Hid (aR 4 a mix O=false):=aS (by unfold aR;rw[iF (by decide),iF (by decide),iF (by decide),oR rfl,al.out,f1,aBk]);clear hz;have N:Hid (cj O V gs 4 a mix=2):=aS (by rw[U.out,Y.out];rfl);go_wp2_with fail;go_ret;exact⟨aD N.out.symm,J.out⟩
  have n4:(k == 4)=false:=by simpa using a1
  have Y:Hid (aR k a mix O=false):=aS (by unfold aR;rw[iF am,iF an,iF av,iF a1]);clear am an av a1;obtain⟨fb,cb⟩:∃b,((ml:Int) == 0)=b:=⟨_,rfl⟩;cases fb
  all_goals
   have N:Hid (cj O V gs k a mix=2):=aS (by rw[U.out,Y.out];rfl);go_wp2_with fail;go_ret;exact⟨aD N.out.symm,J.out⟩
 have e1:(te != 0)=true:=by simpa using h0
 have N:Hid (cj O V gs k a mix=te):=aS (by unfold cj;rw[a5.out,oR h0]);clear h0;go_wp2_with fail;go_ret;exact⟨aD N.out.symm,J.out⟩
theorem Ee l:(br l).all flat=true:=rT (fun _=>rfl) l
theorem JC l s:pT s (.vw (is l) l.length)=some l:=by
 have h:n9 (is l)=some l:=by
  induction l with
  |nil=>rfl
  |cons x l ih=>show(n9 (is l)).map (x::·)=_;rw[ih];rfl
 unfold pT;simp only[bV,ox (show(is l).length=l.length*1 by simp[is]),CC,uS,EQ,pX,h]
theorem tf s:∀l:List Gr,ou s (br l)=some l
 | []=>rfl
 |g::l=>by show ou s (Pz g++br l)=_;simp only[Pz,aAy,aAB,ou,JC,tf s l]
theorem NL{l}(h:∀x∈l,x.Ok)s:Db s (aP l)=some (jG l):=by unfold Db;simp only[aP,bV,ox (Sc l),CC,ND h,EQ,pX,yV h]
theorem Tf{L:LG}(ok:L.Ok)s:zk s (.agg L.cells)=some (L.O,L.V,L.gs,L.k,L.am.q,L.qs):=by
 have u:qw s (.vw (br L.gs) L.gs.length)=some L.gs:=by unfold qw;simp only[bV,ox (show(br L.gs).length=L.gs.length*2 from de gL _),CC,Ee,EQ,pX,tf]
 have j:=ok.ham.v;simp only[rC]at j;have x:=ok.hmix.2;simp only[LG.cells,zk,u,j,NL ok.hmix.1];rw[aX (show(jG L.mix).length<=1000000 by simp[jG];omega),EQ];rfl
theorem tg{L:LG}(ok:L.Ok)s:fI [.agg [.i .i64 L.O,.i .i64 L.V,.vw (br L.gs) L.gs.length,.i .i64 L.k,.b L.am.neg,L.am.n,L.am.d,aP L.mix]] s=some (.i .i64 L.err,s):=by have:=Tf ok s;unfold LG.cells at this;simp only[fI,this,AC];rfl
theorem Hg:ag Tryz.prog 79 fI:=zx (by kernel_rfl) KS
section
def ut(h:List Int):AV:=.agg (is (fV h))
def Xy(L:List (Int×Int)):AV:=.fm (L.map fun e=>.i .i64 e.1) (L.map fun e=>.i .i64 e.2)
def Ll(T:List Int->Int)(V n:Nat):List cO:=(Hh V (n-1)).filter fun h=>decide (0<aZ (fun x=>T (h++[x])) V)
def Y6(T:List Int->Int)(V:Nat)(h:cO):AV:=Xy (mO (fun x=>T (h++[x])) V)
def Wp(T:List Int->Int)(V n:Nat):AV:=.fm ((Ll T V n).map ut) ((Ll T V n).map (Y6 T V))
def kL(O V:Nat)(gs:List Gr):List AV:=.mnil::(List.range O).map fun j=>Wp (tot (O-(j+1)) gs) V (j+1)
theorem wO O V gs:(kL O V gs).length=O+1:=by simp[kL]
theorem Jt{O V gs n}(h:1<=n)(u:n<=O):(kL O V gs)[n]?=some (Wp (tot (O-n) gs) V n):=by obtain⟨j,rfl⟩:∃j,n=j+1:=⟨n-1,by omega⟩;simp[kL,show j<O by omega]
structure ic(O V:Nat)(gs:List Gr):Prop where
 g:∀g∈gs,g.1.length=O/\(∀x∈g.1,0<=x/\x<=V)/\0<g.2/\g.2<=1073741824
 o1:1<=O
 o4:O<=4
 few:gs.length<=1000
 nd:(gs.map Prod.fst).Nodup
 v8:V<=8
theorem CK{C}(h:∀x,0<=C x)v:0<aZ C v ↔ ∃x:Nat,x<=v/\C x≠0:=by
 induction v with
 |zero=>
  rw[iU];have:=h 0;constructor
  ·intro hp;exact⟨0,cC _,by show C 0≠0;omega⟩
  rintro⟨x,u,e⟩;obtain rfl:x=0:=by omega
  have e:C 0≠0:=e;show 0<C 0;omega
 |succ v ih=>
  rw[iV];have A:=h ((v+1:Nat):Int);have y:0<=aZ C v:=by
   clear ih
   induction v with
   |zero=>rw[iU];exact h 0
   |succ v ih=>rw[iV];have:=ih (h _);have:=h ((v+1:Nat):Int);omega
  constructor
  ·intro hp;by_cases e:C ((v+1:Nat):Int)=0
   ·obtain⟨x,u,j⟩:=ih.1 (by omega);exact⟨x,by omega,j⟩
   exact⟨v+1,cC _,e⟩
  rintro⟨x,u,j⟩;by_cases e:x=v+1
  ·subst e;omega
  have:=ih.2 ⟨x,by omega,j⟩;omega
section
variable {O V:Nat}{gs:List Gr}
theorem ic.pos(h:ic O V gs):∀g∈gs,0<g.2:=fun g j=>(h.g g j).2.2.1
theorem ic.mild(h:ic O V gs)d(k:cO):gw (fun x=>tot d gs (k++[x])):=CD (fun g hg=>(h.g g hg).2.2) (by have:=h.few;omega) d k
theorem ic.seen(h:ic O V gs){d k}(y:tot d gs k≠0):k.length=O-d/\∀x∈k,0<=x/\x<=V:=by
 have u:0<tot d gs k:=by have:=kR (p:=fun x=>x.drop d == k) (gs:=gs) fun g j=>aBJ (h.pos g j);unfold tot at y⊢;omega
 obtain⟨g,j,e⟩:=(CE (p:=fun x=>x.drop d == k) h.pos).1 u;have e:g.1.drop d=k:=by simpa using e
 have j:=h.g g j;subst e;exact⟨by rw[Rw,j.1],fun x A=>j.2.1 x (aBa A)⟩
theorem ic.any(h:ic O V gs){d}{k:cO}:0<aZ (fun x=>tot d gs (k++[x])) V ↔ ∃x,tot d gs (k++[x])≠0:=by
 rw[CK (fun x=>(h.mild d k x).1)];constructor
 ·rintro⟨x,_,j⟩;exact⟨x,j⟩
 rintro⟨x,j⟩;have:=(h.seen j).2 x (by simp);exact⟨x.toNat,by omega,by rw[show((x.toNat:Nat):Int)=x by omega];exact j⟩
end
theorem yX{α β:Type}{f}{J m:List β}(hp:J.Perm m):∀{l:List α},l.map f=m->∃j:List α,j.Perm l/\j.map f=J:=by
 induction hp with
 |nil=>intro l h;exact⟨[],by simpa using h.symm,rfl⟩
 |cons x _ ih=>intro l h;obtain⟨a,l,rfl,B,C⟩:=aDz.1 h;obtain⟨j,u,A⟩:=ih C;exact⟨a::j,u.cons a,by simp[B,A]⟩
 |swap x y t=>intro l h;obtain⟨a,l,rfl,B,C⟩:=aDz.1 h;obtain⟨b,l,rfl,Y,Z⟩:=aDz.1 C;exact⟨b::a::l,List.Perm.swap ..,by simp[B,Y,Z]⟩
 |trans _ _ ih1 ih2=>intro l h;obtain⟨l1,u,A⟩:=ih2 h;obtain⟨l2,N,U⟩:=ih1 A;exact⟨l2,N.trans u,U⟩
theorem qP{μ}{α:Type}{f g}:∀{l:List α},(∀x∈l,VR μ (f x) (g x))->ap μ (l.map f) (l.map g)
 | [],_=>ap.nil_
 |x::l,h=>ap.cons (h x Do) (qP fun y hy=>h y (tK _ hy))
theorem Pd μ h:VR μ (ut h) (d5 h):=by simp only[ut,d5,VR];exact⟨_,rfl,qP fun x _=>by simp[VR]⟩
theorem Vp{K V}[DecidableEq K]{ek ev μ w b kt}{m A:List (K×V)}{N U}(h:cN ek ev w kt b m)(hz:∀u,eE w b 0=some u->μ.fz b 0=some u)(hp:A.Perm m)(hk:∀e∈m,VR μ.blind (N e) (ek e.1))(hv:∀e∈m,VR μ.blind (U e) (ev e.2)):VR μ (.fm (A.map N) (A.map U)) (.map (some b)):=by
 have Z:w.heap[b]?=some (.map (eH (gV ek ev m)).toArray (gV ek ev m).length):=h.1;have j:(eH (gV ek ev m)).map (fun e=>(e.key,e.val))=gV ek ev m:=by apply aAa;intro i;rw[mT,dy];cases (gV ek ev m)[i]?<;>rfl
 obtain⟨C,Y,J⟩:=yX (f:=fun e:MapEntry=>(e.key,e.val)) (hp.map fun e=>(ek e.1,ev e.2)) j;simp only[VR];refine⟨b,_,_,C,rfl,hz _ (by unfold eE;rw[Z];rfl),Y,?_,fun e he=>?_,?_,?_⟩
 ·unfold eH;have:((gV ek ev m).mapIdx fun i e=>(⟨e.1,e.2,i⟩:MapEntry)).map (·.born)=List.range (gV ek ev m).length:=by
   apply aAa;intro i;rw[mT,List.getElem?_mapIdx];by_cases hi:i<(gV ek ev m).length
   ·rw[bY hi,MT hi];rfl
   rw[As.2 (by omega),As.2 (by simpa using hi)];rfl
  rw[this];exact aCu
 ·have he:e∈eH (gV ek ev m):=by simpa using he
  obtain⟨i,x,y,rfl⟩:=rV he;exact(dO.1 y).1
 ·have B:C.map (·.key)=A.map fun e=>ek e.1:=by have:=aAf (List.map Prod.fst) J;simpa [aAG,Function.comp_def]using this
  rw[B];exact qP fun x y=>hk x (hp.mem_iff.1 y)
 have B:C.map (·.val)=A.map fun e=>ev e.2:=by have:=aAf (List.map Prod.snd) J;simpa [aAG,Function.comp_def]using this
 rw[B];exact qP fun x y=>hv x (hp.mem_iff.1 y)
section
variable {O V:Nat}{gs:List Gr}{w w0:World}{μ:Mu}
theorem Wt(h:ic O V gs){B}(hz:∀b u,B<=b->eE w b 0=some u->μ.fz b 0=some u){bj base n S}(hn:1<=n)(hO:n<=O)(hb:B<=bj)(hL:iM w bj base n S)(hS:mh n S)(Y:jc S (tot (O-n) gs)):VR μ (Wp (tot (O-n) gs) V n) (.map (some bj)):=by
 obtain⟨outer,U,hf⟩:=hL;have hs:=fun k=>h.seen (d:=O-n) (k:=k);have N:∀x∈S,x.1=x.1.take (n-1)++[x.1.getD (n-1) 0]:=fun x A=>oX (hS.2 x A).1 hn;have C:∀k,k∈outer.map Prod.fst↔k∈Ll (tot (O-n) gs) V n:=by
  intro k;unfold Ll;rw[aAC,so,aDO,h.any];constructor
  ·intro hk;obtain⟨e,he,rfl⟩:=Ac.1 hk;obtain⟨x,A,av⟩:=hf e he;have h1:=Y.of_mem A;have h2:=Y.2.2 x A;have h3:=hs x.1 (by omega);rw[<-av];refine⟨⟨by rw[Io,(hS.2 x A).1];omega,fun y hy=>h3.2 y (aBr hy)⟩,x.1.getD (n-1) 0,?_⟩;rw[<-N x A];omega
  rintro⟨⟨h1,h2⟩,x,A⟩;have h3:=U.2.2.2.2.2.1 _ (Y.mem A)
  rwa [show(k++[x]).take (n-1)=k by rw[<-h1,aEs]]at h3
 have am:(Ll (tot (O-n) gs) V n).Nodup:=(xW V (n-1)).filter _;have an:(Ll (tot (O-n) gs) V n).Perm (outer.map Prod.fst):=(aCM am U.1.nodup).2 fun k=>(C k).symm;obtain⟨j,g1,g2⟩:=yX an rfl;have e1:(Ll (tot (O-n) gs) V n).map ut=j.map fun e=>ut e.1:=by rw[<-g2,aAG];rfl
 have e2:(Ll (tot (O-n) gs) V n).map (Y6 (tot (O-n) gs) V)=j.map fun e=>Y6 (tot (O-n) gs) V e.1:=by rw[<-g2,aAG];rfl
 unfold Wp;rw[e1,e2];refine Vp U.1 (fun u hu=>hz _ u hb hu) g1 (fun e _=>Pd _ _) fun e he=>?_;have J:=(C e.1).1 (Ac.2 ⟨e,he,rfl⟩);unfold Ll at J;rw[aAC,so]at J;have Z:=GI hS Y hn (h:=e.1) J.1.1;have al:=LP Z (v:=V) fun x A=>by have h1:=Y.of_mem (qu hS hn (x:=x.1) (c:=x.2) A);have h2:=Z.2.2 x A;exact((hs _ (by rw[h1];omega)).2 x.1 (by simp)).2
 have ad:B<=e.2:=by have:=U.2.2.2.1 e he;have:=U.2.2.1;omega
 exact Vp (μ:=μ.blind) (U.2.2.2.2.1 e he) (fun u hu=>hz _ u ad hu) al.symm (fun _ _=>by simp[VR]) fun _ _=>by simp[VR]
theorem SZ(h:ic O V gs){b B}(U:∀b i u,B<=b->eE w b i=some u->μ.fz b i=some u)(A:B<=b)(hL:mi w b O 0 gs):VR μ (.vw (kL O V gs) (O+1)) (.slice (some ⟨b,0,none⟩) (O+1) (O+1)):=by
 obtain⟨xs,Z,⟨h2,J⟩,N⟩:=hL;have h4:=h.o4;have cell:∀i v,xs[i]?=some v->Fi v=false->μ.fz b i=some v:=fun i v hi hm=>U b i v A (gU ((Z.cell i).trans hi) hm);simp only[VR];refine⟨xs,⟨_,_,rfl,cC _,by unfold maxLen;omega,fun _=>⟨b,0,rfl,fun i v hi=>?_⟩⟩,ap.of_get (by rw[wO,h2]) fun i x hi=>?_⟩
 ·rw[SK];refine cell i v hi ?_;have j:=(dO.1 hi).1;by_cases e:i=0
  ·subst e;rw[J]at hi;cases hi;rfl
  obtain⟨Y,_,_,y,_⟩:=N i (by omega) (by omega);rw[hi]at y;cases y;rfl
 have j:=(dO.1 hi).1;rw[wO]at j;by_cases e:i=0
 ·subst e;cases hi;exact⟨_,J,by simp[VR]⟩
 obtain⟨Y,base,S,y,hl,hS,hC,_,C⟩:=N i (by omega) (by omega);rw[Jt (by omega) (by omega)]at hi;cases hi;exact⟨_,y,Wt h (fun b u A hu=>U b 0 u A hu) (by omega) (by omega) (EM A C) hl hS hC⟩
end
def Na(d:Nat×Nat×List Gr):List AV:=[.agg [.i .i64 d.1,.i .i64 d.2.1,.vw (br d.2.2) d.2.2.length]]
theorem M9 x y(h:Na x=Na y):x=y:=by obtain⟨a,b,c⟩:=x;obtain⟨a',b',c'⟩:=y;simp only[Na,rW,AV.agg.injEq,AV.vw.injEq,AV.i.injEq,and_true,true_and]at h;rw[th gL Bv h.2.2.2 h.2.2.1,show a=a' by omega,show b=b' by omega]
noncomputable def levelsV:=ofE Na (fun d=>ic d.1 d.2.1 d.2.2) fun d=>.vw (kL d.1 d.2.1 d.2.2) (d.1+1)
theorem Lr{O V gs}(h:ic O V gs)s:ab levelsV [.agg [.i .i64 O,.i .i64 V,.vw (br gs) gs.length]] s=some (.vw (kL O V gs) (O+1),s):=fT (Ok:=fun d:Nat×Nat×List Gr=>ic d.1 d.2.1 d.2.2) (f:=fun d=>.vw (kL d.1 d.2.1 d.2.2) (d.1+1)) (d:=(O,V,gs)) M9 h s
theorem Wz s gs:qw s (.vw (br gs) gs.length)=some gs:=by unfold qw;simp only[bV,ox (show(br gs).length=gs.length*2 from de gL _),CC,Ee,EQ,pX,tf]
theorem Mk:ag Tryz.prog 213 (ab levelsV):=fG (by kernel_rfl) fun {args v} h μ s w J n y A=>by obtain⟨⟨O,V,gs⟩,ok,rfl,rfl⟩:=cU h;have ok:ic O V gs:=ok;simp only[Na,ap,VR]at A;obtain⟨_,_,rfl,⟨_,rfl,_,_,rfl,rfl,_,_,rfl,rfl,B,_,rfl,hl,rfl⟩,rfl⟩:=A;have j:=zw y (Wz s gs) (v:=B) (by simpa only[VR]using hl);refine aCi (aDj.2 (Ta w O V B gs j (fun g j=>⟨(ok.g g j).1,fun x hx=>by have:=(ok.g g j).2.1 x hx;have:=ok.v8;omega,(ok.g g j).2.2⟩) ⟨ok.o1,ok.o4⟩ (by have:=ok.few;omega) ok.nd)) ?_;rintro e w' ⟨b,rfl,hL,C,u⟩;obtain⟨μ',r,t,n1,_,_⟩:=jw y C;exact⟨_,μ',rfl,r,t,SZ ok n1 u hL⟩
end
theorem s8{q}:∀{j:List (Bool×List Int)}{i:Nat},q∉j->oo q j i=[]
 | [],_,_=>rfl
 |x::xs,i,h=>by
  have u:(x.1 == q.1&&x.2 == q.2)=false:=by
   cases e:(x.1 == q.1&&x.2 == q.2)with
   |false=>rfl
   |true=>simp only[gE,aBp]at e;exact absurd (Is.2 (.inl (Prod.ext e.1 e.2).symm)) h
  simp only[oo,u,aAj];exact s8 fun hm=>h (tK _ hm)
theorem JD{q}:∀{y:List (Bool×List Int)}{i j:Nat},y.Nodup->y[j]?=some q->oo q y i=[i+j]
 | [],_,_,_,h=>by simp at h
 |x::xs,i,j,hn,h=>by
  rw[aBx]at hn;cases j with
  |zero=>
   simp at h;subst h;have u:(x.1 == x.1&&x.2 == x.2)=true:=by simp
   simp only[oo,u,EQ,s8 hn.1,aAh]
  |succ j=>
   have A:xs[j]?=some q:=by simpa using h
   have u:(x.1 == q.1&&x.2 == q.2)=false:=by
    cases e:(x.1 == q.1&&x.2 == q.2)with
    |false=>rfl
    |true=>simp only[gE,aBp]at e;have:x=q:=Prod.ext e.1 e.2;subst this;exact absurd (eQ A) hn.1
   simp only[oo,u,aAj,JD hn.2 A];congr 1;omega
def Ah(P:Program)(kt:TypeId)(es:List AE)(ks:List (Bool×List Int)):Prop:=es.map (fun e=>gR e.key)=ks.map some/\(∀q∈ks,jK P kt q=true)/\ks.Nodup
theorem wR{P kt}:∀{es:List AE}{j:List (Bool×List Int)},es.map (fun e=>gR e.key)=j.map some->(∀q∈j,jK P kt q=true)->nh P kt es=some j
 | [],j,h,_=>by cases j with|nil=>rfl|cons _ _=>cases h
 |e::es,j,h,hk=>by
  cases j with
  |nil=>cases h
  |cons q j=>simp only[OF,rW]at h;simp only[nh,h.1,hk q (Do ..),EQ,wR h.2 (fun x u=>hk x (tK _ u)),AC]
theorem oZ{P kt q es j}(x:pS P kt=true)(u:jK P kt q=true)(h:Ah P kt es j)(hn:q∉j):gZ P kt q es=some none:=by simp only[gZ,x,u,aBU,EQ,wR h.1 h.2.1,s8 hn]
theorem sE{P kt q es j}(x:pS P kt=true)(u:jK P kt q=true)(h:Ah P kt es j){i}(hi:j[i]?=some q):gZ P kt q es=some (some i):=by simp only[gZ,x,u,aBU,EQ,wR h.1 h.2.1,JD h.2.2 hi,SK]
def cB(h:List Int):List AV:=[.i .i64 (h.getD 0 0),.i .i64 (h.getD 1 0),.i .i64 (h.getD 2 0),.i .i64 (h.getD 3 0)]
def pP(h:List Int):Bool×List Int:=(true,[h.getD 0 0,h.getD 1 0,h.getD 2 0,h.getD 3 0])
theorem Ob h:gR (.agg (cB h))=some (pP h):=rfl
theorem IT:pS Tryz.prog 132=true:=by kernel_rfl
def Rn(n:Int):Prop:=(Lit.int .i64 n).wf=true
theorem yE{n}(j:0<=n)(u:n<=1000000):Rn n:=by show(decide ((-9223372036854775808:Int)<=n)&&decide (n<=(9223372036854775807:Int)))=true;simp only[gE,IS];omega
theorem rJ d{n}(h:Rn n):Tryz.prog.keyLits (d+1) 3 [.int .i64 n]=some [.int .i64 n]:=by unfold Rn at h;simp[Program.keyLits,Tryz.underlying3,h]
theorem KY d{a b c e}(ha:Rn a)(x:Rn b)(y:Rn c)(he:Rn e):Tryz.prog.keyLits (d+2) 132 [.int .i64 a,.int .i64 b,.int .i64 c,.int .i64 e]=some [.int .i64 a,.int .i64 b,.int .i64 c,.int .i64 e]:=by
 have j:Tryz.prog.cellsOf 132=4:=by kernel_rfl
 have u:Tryz.prog.cellsOf 3=1:=by kernel_rfl
 have A:List.range 4=[0,1,2,3]:=rfl;rw[Program.keyLits.eq_def];simp[Tryz.underlying132,j,u,A,rJ d ha,rJ d x,rJ d y,rJ d he]
theorem A9{h}(u:∀x∈h,Rn x):jK Tryz.prog 132 (pP h)=true:=by
 have w0:∀i,Rn (h.getD i 0):=fun i=>by
  rw[eM];cases e:h[i]? with
  |none=>exact yE (by decide) (by decide)
  |some x=>exact u x (eQ e)
 have kt:Tryz.prog.keyType 132=true:=by kernel_rfl
 have j:Tryz.prog.cellsOf 132=4:=by kernel_rfl
 obtain⟨d,hd⟩:∃d,Tryz.prog.types.size=d+1:=⟨Tryz.prog.types.size-1,by kernel_rfl⟩;unfold jK keyOf pP;simp only[bZ,EQ,Tryz.underlying132,kt,hd,Value.formed,j];simp only[OF,aCw,Value.cells,KY d (w0 0) (w0 1) (w0 2) (w0 3)];simp
theorem ww{n}(hn:n<=4){h j}(x:h.length=n)(y:j.length=n)(e:pP h=pP j):h=j:=by
 simp only[pP,Gt,rW,true_and,and_true]at e;obtain⟨e0,A,B,C⟩:=e;refine aEe (x.trans y.symm) fun i hi u=>?_;have key:h.getD i 0=j.getD i 0:=by
  have:i=0∨i=1∨i=2∨i=3:=by omega
  rcases this with rfl|rfl|rfl|rfl<;>assumption
 rw[eM,eM,bY hi,bY u]at key;exact key
theorem vj{α:Type}f g:∀l:List α,Fn (l.map f) (l.map g)=l.map fun x=>⟨f x,g x,0⟩
 | []=>rfl
 |x::l=>by simp only[OF,Fn,vj f g l]
theorem wV:∀l:List Int,rN (is l)=some l
 | []=>rfl
 |x::l=>by show(rN (is l)).map (x::·)=_;rw[wV l];rfl
theorem Vk h:gR (ut h)=some (true,fV h):=by simp only[ut,gR,wV,AC]
theorem Pe:pS Tryz.prog 295=true:=by kernel_rfl
theorem GH:pS Tryz.prog 3=true:=by kernel_rfl
theorem Gz{h}(j:f5 h):jK Tryz.prog 295 (true,fV h)=true:=by obtain⟨u,e⟩:=j.good;unfold jK;rw[show bZ (true,fV h)=d5 h from rfl,e];rfl
theorem Bh{x}(j:0<=x)(u:x<=1000000):jK Tryz.prog 3 (false,[x])=true:=by obtain⟨y,e⟩:=DZ (x:=x) (by omega) (by omega);unfold jK;rw[show bZ (false,[x])=Value.int .i64 x from rfl,e];rfl
theorem s9{n V h}(hh:ck n V h)(hn:n<=4)(hV:V<=8):f5 h:=⟨by rw[hh.1];exact hn,fun x j=>by have:=hh.2 x j;omega⟩
def eY(C:Int->Int)(V:Nat):AV:=if 0<aZ C V then Xy (mO C V)else .mnil
theorem cw C V:bare (eY C V)=true:=by unfold eY;split<;>rfl
theorem wH C V s:OY s (eY C V)=some []:=by unfold eY;split<;>rfl
theorem zf C V s:yn s (some (eY C V))=some []:=by unfold eY;split<;>rfl
theorem Zc:type_of% (aT Tryz.underlying298 Tryz.underlying299):=aT Tryz.underlying298 Tryz.underlying299
theorem Rp:bX Tryz.prog 299=some .mnil:=by kernel_rfl
theorem Hp:bX Tryz.prog 3=some (.i .i64 0):=by kernel_rfl
theorem SV{T V n h}(hh:ck (n-1) V h)(hn:n<=4)(hV:V<=8)s:og Tryz.prog s 298 (Wp T V n) (ut h) false=some (eY (fun x=>T (h++[x])) V):=by
 have u:∀{g:cO},g∈Ll T V n->f5 g:=fun j=>s9 (so.1 (aAC.1 j).1) (by omega) hV;have y:=s9 hh (by omega) hV;have K:Ah Tryz.prog 295 ((Ll T V n).map fun x=>⟨ut x,Y6 T V x,0⟩) ((Ll T V n).map fun x=>(true,fV x)):=by
  refine⟨?_,fun q J=>?_,?_⟩
  ·rw[aAG,aAG];exact aBf fun x _=>Vk x
  ·obtain⟨x,N,rfl⟩:=Ac.1 J;exact Gz (u N)
  refine aAI.2 (List.Pairwise.imp_of_mem ?_ ((xW V (n-1)).filter _));intro a b ha B A e;exact A ((u ha).inj (u B) (by unfold d5;rw[(Prod.mk.inj e).2]))
 unfold Wp;rw[rI,vj];unfold kU eY;simp only[Zc.1,Vk];by_cases hp:0<aZ (fun x=>T (h++[x])) V
 ·obtain⟨i,hi⟩:=aAu.1 (show h∈Ll T V n from aAC.2 ⟨so.2 hh,lT hp⟩);rw[sE Pe (Gz y) K (i:=i) (by rw[mT,hi];rfl)];simp only[mT,hi,AC,aAj,oR hp];rfl
 rw[oZ Pe (Gz y) K fun C=>by obtain⟨g,j,e⟩:=Ac.1 C;have:g=h:=(u j).inj y (by unfold d5;rw[(Prod.mk.inj e).2]);subst this;exact hp (gT (aAC.1 j).2)];simp only[Rp,AC,aAj,iF hp]
theorem rX{C V e}:e∈mO C V↔(0<=e.1/\e.1<=V)/\e.2=C e.1/\C e.1≠0:=by
 unfold mO;rw[aAC,Ac,aDO];constructor
 ·rintro⟨⟨x,y,rfl⟩,h⟩;have:=aAk.1 y;exact⟨⟨by show 0<=(x:Int);omega,by show(x:Int)<=V;omega⟩,rfl,h⟩
 rintro⟨⟨A,B⟩,j,u⟩;refine⟨⟨e.1.toNat,aAk.2 (by omega),?_⟩,by rw[j];exact u⟩;rw[show((e.1.toNat:Nat):Int)=e.1 by omega,<-j]
theorem GQ C V:((mO C V).map Prod.fst).Nodup:=by unfold mO;refine aAI.2 (List.Pairwise.filter _ (aAI.2 (aCu.imp ?_)));intro a b j e;have:(a:Int)=b:=e;exact j (by omega)
theorem pq{C}{V:Nat}(hm:∀x,0<=C x)(hV:V<=8){x:Int}(u:0<=x)(J:x<=V)s:og Tryz.prog s 299 (eY C V) (.i .i64 x) false=some (.i .i64 (C x)):=by
 unfold eY;split
 ·have K:Ah Tryz.prog 3 ((mO C V).map fun e=>⟨.i .i64 e.1,.i .i64 e.2,0⟩) ((mO C V).map fun e=>(false,[e.1])):=by
   refine⟨?_,fun q B=>?_,?_⟩
   ·rw[aAG,aAG];rfl
   ·obtain⟨e,he,rfl⟩:=Ac.1 B;have:=(rX.1 he).1;exact Bh this.1 (by omega)
   have:=aAI.1 (GQ C V);exact aAI.2 (this.imp fun A e=>A (by simpa using e))
  unfold Xy;rw[rI,vj];unfold kU;simp only[Zc.2,show gR (.i .i64 x)=some (false,[x])from rfl];by_cases j:C x=0
  ·rw[oZ GH (Bh u (by omega)) K fun h=>by
    obtain⟨e,he,y⟩:=Ac.1 h;have y:e.1=x:=by simpa using y
    have:=(rX.1 he).2.2;rw[y]at this;exact this j]
   simp only[Hp,AC,aAj,j]
  obtain⟨i,hi⟩:=aAu.1 (rX.2 ⟨⟨u,J⟩,rfl,j⟩:(x,C x)∈mO C V);rw[sE GH (Bh u (by omega)) K (i:=i) (by rw[mT,hi];rfl)];simp only[mT,hi,AC,aAj]
 next hp=>
 have N:C x=0:=by
  by_cases j:C x=0
  ·exact j
  exact absurd ((CK hm V).2 ⟨x.toNat,by omega,by rw[show((x.toNat:Nat):Int)=x by omega];exact j⟩) hp
 rw[N];rw[qq];unfold kU;simp only[Zc.2,show gR (.i .i64 x)=some (false,[x])from rfl];have K:Ah Tryz.prog 3 [] []:=⟨rfl,fun q B=>by simp at B,aBK⟩;rw[oZ GH (Bh u (by omega)) K (by simp)];simp only[Hp,AC,aAj]
theorem PS C V:(mO C V).length=bw C V:=by unfold mO bw;rw[List.filter_map,RW];rfl
theorem PQ C V:((mO C V).map Prod.snd).sum=aZ C V:=by unfold mO aZ;rw[KF,aAG];rfl
def Pu(h:List Int):List AV:=[.vw (is h) h.length]
theorem Tt x y(h:Pu x=Pu y):x=y:=by simp only[Pu,rW,AV.vw.injEq]at h;exact eu h.1.1
noncomputable def keyedV:=ofE Pu f5 fun h=>ut h
theorem Pb{h}(j:f5 h)s:ab keyedV [.vw (is h) h.length] s=some (ut h,s):=fT (f:=ut) Tt j s
theorem QP:ag Tryz.prog 226 (ab keyedV):=fG (by kernel_rfl) fun {args v} u μ s w J n A B=>by obtain⟨h,j,rfl,rfl⟩:=cU u;clear u;have j:f5 h:=j;simp only[Pu,ap]at B;obtain⟨x,_,rfl,C,rfl⟩:=B;exact pb A (Pd μ h) (Pc w x h (wW A (JC h s) C) j.1 fun y hy=>by have:=j.2 y hy;omega)
section
theorem cJ:(Fa 274 2 [.snil,.i .i64 0]/\ul 274 0 0/\ul 274 1 1)/\(ux 272 .snil/\Kj 272 298 1)/\(ux 298 .mnil/\Xe 298 295 299)/\ux 299 .mnil/\Xe 299 3 3:=⟨⟨Ff,uw,uw⟩,⟨uF,KK⟩,⟨uF,Xw⟩,uF,Xw⟩
section
variable {bb:Nat}{L:Oc}{E:Ev}{f:FuncId}{n:Nat}{rd:Option Nat}{ms:List Nat}{Q:Ex->Fr->St->Prop}{id:Nat}{ops:Array Oper}
theorem Z8{l m nx b}(M:Mc Tryz.prog (fK L) E){d e U ty N pos x A u}(j:ops.toList=[⟨some d,.next (.tmp U) false,ty,pos,A,none⟩,⟨some e,.extract (.tmp d) 0,N,x,u,none⟩])(hd:Nat.blt d n=true)(he:Nat.blt e n=true){J B y vs}(C:gG l U=some (.ptr J 0))(ho:gF m J=some (.walk B y vs))(Y:y=[]->vs=[]->Jb bb Tryz.prog b ⟨f,n,Tr.of ((e,.b false)::(d,.tup [.b false])::l),rd,ms⟩ (St.of m nx) Q)(Z:∀i k v,y[i]?=some k->vs[i]?=some v->Jb bb Tryz.prog b ⟨f,n,Tr.of ((e,.b true)::(d,.tup [.b true,k,v])::l),rd,ms⟩ (St.of ((J,some (.walk [k,v] (y.eraseIdx i) (vs.eraseIdx i)))::m) nx) Q):
  Jb bb Tryz.prog (.seq (.region id ops false) b) ⟨f,n,Tr.of l,rd,ms⟩ (St.of m nx) Q:=by
 refine Jd.seq (Jd.next l0 (DE _) M _ rfl j hd (by rw[Tr.of_get];exact C) (by rw[St.of_get];exact ho) (fun e1 e2=>?_) fun i k v e1 e2=>?_)
 ·rw[j];simp only[↓nD,↓nC,nB,Nat.reduceEqDiff,↓reduceIte,Nat.reduceLT,Nat.reduceAdd,iT,Cc,NE,NO,iO];exact⟨by rwa [ON]at he,Y e1 e2⟩
 rw[j];simp only[↓nD,↓nC,nB,Nat.reduceEqDiff,↓reduceIte,Nat.reduceLT,Nat.reduceAdd,iT,Cc,NE,NO,iO];exact⟨by rwa [ON]at he,Z i k v e1 e2⟩
end
section
variable {P:Program}{X:eC}{E:Ev}{ρ:Operand->Option AV}{s:St}{K:AV->St->Prop}
def TP(P:Program)(s:St)(a:AV):Option AV:=dY P (fun _=>some a) s (.entry (.tmp 0))
def C7(P:Program)(X:eC)(E:Ev)(s:St)(t:TypeId)(a:AV):Option (AV×St):=iG P X E (fun _=>some a) s (.range t (.tmp 0))
def Sw(P:Program)(X:eC)(E:Ev)(s:St)(a:AV):Option (AV×St):=iG P X E (fun _=>some a) s (.next (.tmp 0) false)
theorem uJ{o}(h:bQ o=.rd):dB P X E ρ s o K=ao (dY P ρ s o) fun v=>K v s:=by unfold dB;simp only[iW,h];cases dY P ρ s o<;>rfl
theorem BI{o}(h:bQ o=.ef):dB P X E ρ s o K=ao (iG P X E ρ s o) fun p=>K p.1 p.2:=by unfold dB;simp only[iW,h];cases iG P X E ρ s o<;>rfl
theorem YV j:dB P X E ρ s (.entry j) K=ao (ρ j) fun a=>ao (TP P s a) fun v=>K v s:=by rw[uJ rfl];unfold TP;cases h:ρ j<;>simp only[dY,h]<;>rfl
theorem Vw t x:dB P X E ρ s (.range t x) K=ao (ρ x) fun a=>ao (C7 P X E s t a) fun p=>K p.1 p.2:=by rw[BI rfl];unfold C7;cases h:ρ x<;>simp only[iG,h]<;>first|rfl|(cases P.underlying t with|none=>rfl|some d=>cases d<;>rfl)
theorem YS j:dB P X E ρ s (.next j false) K=ao (ρ j) fun a=>ao (Sw P X E s a) fun p=>K p.1 p.2:=by rw[BI rfl];unfold Sw;cases h:ρ j<;>simp only[iG,h]<;>rfl
theorem TM o k v j vs m nx:TP P (St.of ((o,some (.walk [k,v] j vs))::m) nx) (.ptr o 0)=some (.tup [k,v]):=by unfold TP;simp only[dY,St.of_get,hY,aEf,EQ,aBh]
theorem Sv o a b c m nx:Sw P X E (St.of ((o,some (.iter none a c b))::m) nx) (.ptr o 0)=some (.tup [.b false],St.of ((o,some (.iter none a c b))::m) nx):=by unfold Sw;simp only[iG,St.of_get,hY,aEf,EQ,aBh]
theorem R9{t kt e}(hu:P.underlying t=some (.map kt e))j vs:C7 P X E s t (.fm j vs)=some (.ptr s.nx 0,s.new (.walk [] j vs)):=by unfold C7;simp only[iG,hu]
theorem Ny{t kt e}(hu:P.underlying t=some (.map kt e)):C7 P X E s t .mnil=some (.ptr s.nx 0,s.new (.iter none 0 [] 0)):=by unfold C7;simp only[iG,hu]
def OZ(P:Program)(s:St)(t:TypeId)(a:AV):Option AV:=dY P (fun _=>some a) s (.call ⟨.builtin .len,#[.tmp 0],#[t]⟩)
theorem Xo{t kt e}(hu:P.underlying t=some (.map kt e))x:dB P X E ρ s (.call ⟨.builtin .len,#[x],#[t]⟩) K=ao (ρ x) fun a=>ao (OZ P s t a) fun v=>K v s:=by rw[uJ rfl];unfold OZ;cases h:ρ x<;>simp only[dY,h,hu]<;>rfl
def Yd:AV->AV->Option AV
 | .i k a,.i k' b=>cond (k == k') (some (.i k (cond (decide (b<a)) b a))) none
 |_,_=>none
theorem Vx x y j:dB P X E ρ s (.call ⟨.builtin .min,#[x,y],j⟩) K=ao (ρ x) fun a=>ao (ρ y) fun b=>ao (Yd a b) fun v=>K v s:=by
 rw[uJ rfl];cases hx:ρ x with
 |none=>simp[dY,hx,ao]
 |some a=>
  cases hy:ρ y with
  |none=>simp[dY,hx,hy,ao]
  |some b=>simp only[dY,aBb,List.mapM_nil,hx,hy,aEk,aDK,CC,aA];cases a<;>cases b<;>rfl
variable {n:Nat}{gl:List (Option Tmp)}{ex:List (Nat×Nat)}{i:Nat}{s':St}{R:List (Nat×List Nat)}{W:List (Nat×St×St)}{k:List (Nat×List Nat)->List (Nat×St×St)->Prop}
theorem Ov xs j:fB ex i (.call ⟨.builtin .min,xs,j⟩) ρ s s' R W k=k R W:=rfl
end
theorem Gq{X E ρ s K}x:dB Tryz.prog X E ρ s (.call ⟨.builtin .len,#[x],#[299]⟩) K=ao (ρ x) fun a=>ao (OZ Tryz.prog s 299 a) fun v=>K v s:=Xo Tryz.underlying299 x
theorem DW{C V}(hm:gw C)s:OZ Tryz.prog s 299 (eY C V)=some (.i .i64 ((bw C V:Nat):Int)):=by
 unfold OZ eY;split
 ·simp only[dY,Xy,Tryz.underlying299,RW,PS]
 next h=>
 have:bw C V=0:=by have:=l4 hm V;omega
 simp only[dY,Tryz.underlying299,this];rfl
theorem OG{X E s}:(∀j u:List AV,C7 Tryz.prog X E s 299 (.fm j u)=some (.ptr s.nx 0,s.new (.walk [] j u)))/\C7 Tryz.prog X E s 299 .mnil=some (.ptr s.nx 0,s.new (.iter none 0 [] 0)):=⟨fun j u=>R9 Tryz.underlying299 j u,Ny Tryz.underlying299⟩
theorem yM:∀{R:List (Int×Int)}{i:Nat}{e:Int×Int},R[i]?=some e->e.2+((R.eraseIdx i).map Prod.snd).sum=(R.map Prod.snd).sum
 | [],_,_,h=>by simp at h
 |x::R,0,e,h=>by simp at h;subst h;simp
 |x::R,i+1,e,h=>by have:=yM (R:=R) (i:=i) (by simpa using h);simp only[aDf,OF,aDp];omega
theorem ti{α β:Type}(f:α->β):∀(R:List α)(i:Nat),(R.map f).eraseIdx i=(R.eraseIdx i).map f
 | [],_=>rfl
 |_::_,0=>rfl
 |x::R,i+1=>by simp only[OF,aDf,ti f R i]
theorem qg:∀{R:List (Int×Int)},(∀e∈R,0<=e.2)->0<=(R.map Prod.snd).sum
 | [],_=>aCv _
 |x::R,h=>by have j:=h x Do;have u:=qg (R:=R) fun e he=>h e (tK _ he);simp only[OF,aDp];omega
def CZ(O V:Nat)(gs:List Gr)(d:Int×Nat×cO):List AV:=[.agg [.vw (kL O V gs) (O+1),.i .i64 d.1],.i .i64 d.2.1,.vw (is d.2.2) d.2.2.length]
theorem KM O V gs x y(h:CZ O V gs x=CZ O V gs y):x=y:=by obtain⟨a,b,c⟩:=x;obtain⟨a',b',c'⟩:=y;simp only[CZ,rW,AV.agg.injEq,AV.vw.injEq,AV.i.injEq,and_true,true_and]at h;rw[h.1,show b=b' by omega,eu h.2.2.1]
def Ra(O V:Nat)(d:Int×Nat×cO):Prop:=1<=d.2.1/\d.2.1<=O/\ck (d.2.1-1) V d.2.2
noncomputable def seenV(O V:Nat)(gs:List Gr):=ofE (CZ O V gs) (Ra O V) fun d=>.tup [eY (aU O gs d.2.1 d.2.2) V,.i .i64 (aZ (aU O gs d.2.1 d.2.2) V)]
theorem uG{O V}gs{n h}(n1:1<=n)(nO:n<=O)(hh:ck (n-1) V h)wd s:ab (seenV O V gs) [.agg [.vw (kL O V gs) (O+1),.i .i64 wd],.i .i64 n,.vw (is h) h.length] s=some (.tup [eY (aU O gs n h) V,.i .i64 (aZ (aU O gs n h) V)],s):=fT (Ok:=Ra O V) (f:=fun d=>.tup [eY (aU O gs d.2.1 d.2.2) V,.i .i64 (aZ (aU O gs d.2.1 d.2.2) V)]) (d:=(wd,n,h)) (KM O V gs) ⟨n1,nO,hh⟩ s
theorem uZ{O V gs}(ok:ic O V gs):ag Tryz.prog 251 (ab (seenV O V gs)):=by
 obtain⟨E,M,c1⟩:=ur (ab keyedV) QP rfl;refine aE (by kernel_rfl) Tryz.func251 Tryz.ntmps251 rfl ?_;intro args v h0;obtain⟨⟨wd,n,h⟩,⟨n1,nO,hh⟩,rfl,rfl⟩:=cU h0;clear h0;have n1:1<=n:=n1;have nO:n<=O:=nO;have hh:ck (n-1) V h:=hh;have o4:=ok.o4;have v8:=ok.v8;refine⟨rfl,by simp only[bare,aq,cw];rfl,nE rfl,?_⟩;unfold CZ;dsimp only;have hm:gw (aU O gs n h):=ok.mild (O-n) h;obtain⟨C,hC⟩:∃C,aU O gs n h=C:=⟨_,rfl⟩;have hk:=Pb (s9 hh (by omega) v8);have am:=Jt (V:=V) (gs:=gs) n1 nO;have U:=SV (T:=tot (O-n) gs) hh (by omega) v8;rw[show(fun x=>tot (O-n) gs (h++[x]))=aU O gs n h from rfl,hC]at U;rw[hC]at hm⊢;obtain⟨ks,vs,he⟩:∃ks vs,Wp (tot (O-n) gs) V n=.fm ks vs:=⟨_,_,rfl⟩;rw[he]at am U;obtain⟨N,hN⟩:∃N,h.length=N:=⟨_,rfl⟩;rw[hN]at hk⊢;have hl:=wO O V gs;generalize kL O V gs=lv at *;rw[dZ,St.of_nil];refine aN M ?_;refine zX 0 0 ([.vw lv (O+1),.i .i64 wd]) [] [(3,.vp [.vw lv (O+1),.i .i64 wd] 0),(2,.vw (is h) N),(1,.i .i64 (n:Int))] [] ?_ (by repeat' first|exact bK|refine aM ?_ ?_|exact Wk.frz_ptr|exact eU) aK ?_
 ·rfl
 refine dr M [] (ax @cJ (ax @c1 (ax @hk (ax @am (ax @U @iO))))) ?_;by_cases hp:0<aZ C V
 ·have Y:eY C V=Xy (mO C V):=oR hp;have a3:=PQ C V;have av:∀e∈mO C V,0<=e.2:=fun e he=>by rw[(rX.1 he).2.1];exact(hm _).1
  have a6:=gJ hm V;rw[Y];generalize mO C V=R0 at *;generalize aZ C V=S at *;unfold Xy;refine aN M ?_;refine Jd.seq ?_;refine rg M (ax @Vw @OG) ?_;refine Jd.loopB (fun k g s=>∃(R:List (Int×Int))(Z:List AV)(j:Int),R.length=k/\(∀e∈R,0<=e.2)/\j+(R.map Prod.snd).sum=S/\0<=j/\g=⟨251,31,Tr.of [(21,.ptr 0 0),(9,.i .i64 j),(8,.fm (R0.map fun e=>.i .i64 e.1) (R0.map fun e=>.i .i64 e.2))],none,[]⟩/\s=St.of [(0,some (.walk Z ((R).map fun e=>.i .i64 e.1) ((R).map fun e=>.i .i64 e.2)))] 1) R0.length ?_ ?_
  ·exact⟨_,_,(d9 1 [0] [(21,.ptr 0 0),(9,.i .i64 0),(8,.fm (R0.map fun e=>.i .i64 e.1) (R0.map fun e=>.i .i64 e.2))] [(0,some (.walk [] ((R0).map fun e=>.i .i64 e.1) ((R0).map fun e=>.i .i64 e.2)))] bT (by repeat' first|exact aK|refine aF ?_ ?_|exact⟨rfl,rfl,rfl⟩|exact dj)),R0,[],0,rfl,av,by omega,aCv _,rfl,rfl⟩
  rintro k _ _ ⟨R,Z,j,a4,J,an,a5,rfl,rfl⟩ Q1 B a0 al;have ba:=qg J;refine Z8 M (by rfl) (by rfl) (by rfl) (by rfl) (by rfl) (fun A _=>?_) fun i x y A e2=>?_
  ·refine Jd.seq (Jd.cnd rfl (fun h=>by cases h) fun _=>?_);refine Jd.exitT (B _ _ ?_);show Jb _ _ _ _ _ _;obtain rfl:R=[]:=by simpa using A
   obtain rfl:j=S:=by simpa using an
   refine aN M ?_;exact Jd.ret (aw.two rfl rfl rfl rfl)
  obtain⟨e,u,rfl⟩:∃e,R[i]?=some e/\x=.i .i64 e.1:=by
   rw[mT]at A;cases hx:R[i]? with
   |none=>rw[hx]at A;cases A
   |some e=>rw[hx]at A;cases A;exact⟨e,rfl,rfl⟩
  obtain rfl:y=.i .i64 e.2:=by rw[mT,u]at e2;cases e2;rfl
  clear A e2;have a9:=yM u;have ad:∀e∈R.eraseIdx i,0<=e.2:=fun e he=>J e (List.mem_of_mem_eraseIdx he);have a2:=qg ad;have a7:=J e (eQ u);have a1:(R.eraseIdx i).length+1=R.length:=by have:=(dO.1 u).1;rw[List.length_eraseIdx,oR this];omega
  refine Jd.seq (Jd.cnd rfl (fun _=>?_) fun h=>by cases h);refine Jd.skipT ?_;refine Jd.block ?_;clear B;refine rg M (ax @YV @TM) ?_;refine f6 M ?_;refine bW.norm ?_;refine al _ _ ⟨k-1,_,_,by omega,(d9 1 [0] [(21,.ptr 0 0),(9,.i .i64 (j+e.2)),(8,.fm (R0.map fun e=>.i .i64 e.1) (R0.map fun e=>.i .i64 e.2))] [(0,some (.walk [AV.i .i64 e.1,AV.i .i64 e.2] ((R.eraseIdx i).map fun e=>.i .i64 e.1) ((R.eraseIdx i).map fun e=>.i .i64 e.2)))] bT (by repeat' first|exact aK|refine aF ?_ ?_|exact⟨rfl,ti _ _ _,ti _ _ _⟩|exact dj)),R.eraseIdx i,_,j+e.2,by omega,ad,by omega,by omega,rfl,rfl⟩
 have Y:eY C V=.mnil:=iF hp;have h0:aZ C V=0:=by have:=(gJ hm V).1;omega
 rw[Y,h0];refine aN M ?_;refine Jd.seq ?_;refine rg M (ax @Vw @OG) ?_;refine Jd.block (Jd.loop ?_);refine rg M (ax @YS @Sv) ?_;refine Jd.seq (Jd.cnd rfl (fun h=>by cases h) fun _=>?_);refine Jd.exitT ?_;show gW _ _ _ _ _;simp only[gW];refine bW.out ?_;show Jb _ _ _ _ _ _;refine aN M ?_;exact Jd.ret (aw.two rfl rfl rfl rfl)
end
theorem RF.Ok.qb{x:RF}(h:x.Ok):QB 64 x.q:=by have u:=h.v;unfold kg at u;simp only[sT]at u;obtain⟨⟨neg,n,d⟩,_,j⟩:=u;obtain⟨A,j⟩:=ah j;rw[<-TO j];simp only[gE,ON]at A;obtain⟨y,j⟩:=A;dsimp only at y j⊢;unfold cA;exact QB.red y (by split<;>omega) (by split<;>omega)
theorem Im{l n k}(h:IG l n k=true):l.length=n/\∀r∈l,r.length=k:=by unfold IG at h;rw[gE,Of]at h;exact⟨ID h.1,fun r j=>ID (h.2 r j)⟩
structure Vu(m:MD):Prop where
 n1:1<=m.start.length
 k1:1<=RO m
 lf:m.fin.length=m.start.length
 lm:m.move.length=m.start.length
 rm:∀r∈m.move,r.length=m.start.length
 ly:m.say.length=m.start.length
 ry:∀r∈m.say,r.length=RO m
theorem Vu.of{m}(h:MP m=true):Vu m:=by unfold MP Nl at h;simp only[gE,IS]at h;obtain⟨⟨⟨⟨⟨⟨j,u⟩,x⟩,y⟩,A⟩,_⟩,_⟩:=h;obtain⟨a,b⟩:=Im y;obtain⟨c,d⟩:=Im A;exact⟨j,u,ID x,a,b,c,d⟩
theorem xm q r(h:ai q=ai r):q=r:=by have j:=BR q;have u:=BR r;unfold fq at j u;rw[h,u]at j;exact(TO j).symm
theorem ew q:getR (ai q) 0 3=some (ai q):=rfl
theorem A5 q r:cz (ai q) 0 (ai r)=ai r:=rfl
theorem cY a b c q:cz [a,b,c] 0 (ai q)=ai q:=rfl
abbrev TG(l:List Rat):AV:=.vw (fr l) l.length
def cL(l:List Rat)(i:Nat):List Rat:=l.take i++List.replicate (l.length-i) 0
theorem dx l{i}(h:i<=l.length):(cL l i).length=l.length:=by simp[cL];omega
theorem dC l:cL l 0=List.replicate l.length 0:=by simp[cL]
theorem jr l:cL l l.length=l:=by simp[cL]
theorem g8{l i q}(h:l[i]?=some q):(cL l i).set i q=cL l (i+1):=by have hi:i<l.length:=(dO.1 h).1;unfold cL;rw[aCc _ _ (by simp;omega),Io,aAO (by omega),aAS,show l.length-i=(l.length-(i+1))+1 by omega,aAW,List.set_cons_zero,aAX,h];simp
def Ym(qs:List Rat):List AV:=[TG qs,.i .i64 qs.length]
def ZJ(qs:List Rat):Prop:=qs.length<=1000/\∀q∈qs,qz q<=iY
noncomputable def keptV:=ofE Ym ZJ fun qs=>TG qs
section
noncomputable def ofG{D β:Type}(enc:D->List AV)(Ok:D->Prop)(f:D->β)(args:List AV):Option β:=by
 classical exact if h:∃d,Ok d/\enc d=args then some (f h.choose)else none
section
variable {D β:Type}{enc:D->List AV}{Ok:D->Prop}{f:D->β}{args:List AV}{v:β}{d:D}
theorem kj(h:ofG enc Ok f args=some v):∃d,Ok d/\args=enc d/\v=f d:=by
 unfold ofG at h;split at h
 ·next hex=>exact⟨_,hex.choose_spec.1,hex.choose_spec.2.symm,(TO h).symm⟩
 cases h
theorem rp(inj:∀d j,enc d=enc j->d=j)(h:Ok d):ofG enc Ok f (enc d)=some (f d):=by unfold ofG;have hex:∃j,Ok j/\enc j=enc d:=⟨d,h,rfl⟩;rw[dif_pos hex];exact aAf (some∘f) (inj _ _ hex.choose_spec.2)
end
def fS(g:List AV->Option (List Rat))(args:List AV)(s:St):Option (AV×St):=(g args).map fun qs=>(.sl s.nx 0 qs.length qs.length,s.new (.cells (fr qs) 31 false))
theorem qY{g args qs n}(h:g args=some qs)(hl:qs.length=n)s:fS g args s=some (.sl s.nx 0 n n,s.new (.cells (fr qs) 31 false)):=by simp only[fS,h,AC,hl]
theorem jA{f fn c nt}(j:dt Tryz.prog f=true)(u:Tryz.prog.funcs[f]?=some fn)(hn:fn.ntmps=nt)(C:fn.body=some c){g}(H:∀{args qs},g args=some qs->aq args=true/\args.length<=nt/\Jd Tryz.prog c ⟨f,nt,Tr.ofList args,none,[]⟩ ⟨.nil,0⟩ (aw Tryz.prog fn fun v t=>v=.sl 0 0 qs.length qs.length/\t.h.get 0=some (.cells (fr qs) 31 false))):ag Tryz.prog f (fS g):=by
 refine p8 j u hn C ?_;intro args s v s' h;unfold fS at h;rw[iN]at h;obtain⟨qs,J,h⟩:=h;cases h;obtain⟨y,A,B⟩:=H J;refine⟨1,.sl 0 0 qs.length qs.length,y,A,rfl,rfl,rfl,fun o x=>mK x,fun hw o x=>(Tr.get_set_ne _ _ (by omega)).trans (hw o (by omega)),Jd.mono B fun ex fr _ q=>aw.mono (fun v' t hv=>⟨hv.1,fun k hk=>?_⟩) q⟩;obtain rfl:k=0:=by omega
 exact⟨_,hv.2,dS _ _ (aJ _),(ow s _).trans (by simp only[jF];rw[bt _ _ (aJ _)])⟩
def sV:List AV->Option AV
 | [.i .i64 (.ofNat n),.i .i64 (.ofNat d)]=>cond (Nat.blt n 9223372036854775808&&Nat.blt d 9223372036854775808&&Nat.blt 0 d) (some (.tup [fq ((n:Rat)/(d:Rat)),.i .i64 0])) none
 |_=>none
theorem xU:ag Tryz.prog 252 (ab sV):=fG (by kernel_rfl) fun {args v} h μ s w C n y j=>by
 unfold sV at h;split at h
 ·next m d=>
  obtain⟨x,h⟩:=ah h;simp only[gE,ON]at x;cases h;simp only[ap,VR]at j;obtain⟨a,_,rfl,rfl,b,_,rfl,rfl,rfl⟩:=j;refine aCi (aDj.2 (Yf w m d x.1.1 x.1.2 (by omega))) ?_;rintro e w' ⟨u,rfl,hu,A⟩;obtain⟨μ',B,t,n1,_⟩:=qx y A;exact⟨_,μ',rfl,B,t,by simp only[VR];exact⟨[u,.int .i64 0],rfl,ap.cons (PH n1 hu) (ap.cons (by simp[VR]) ap.nil_)⟩⟩
 cases h
theorem sU{a b}(ha:0<=a)(j:a<9223372036854775808)(u:0<b)(x:b<9223372036854775808):sV [.i .i64 a,.i .i64 b]=some (.tup [fq ((a:Rat)/(b:Rat)),.i .i64 0]):=by obtain⟨n,rfl⟩:=aBN ha;obtain⟨d,rfl⟩:=aBN (aBJ u);show cond (Nat.blt n 9223372036854775808&&Nat.blt d 9223372036854775808&&Nat.blt 0 d) _ none=_;rw[dz (by omega),dz (by omega),dz (by omega)];rfl
theorem TS{x y q r}(u:fg x=some q)(A:fg y=some r)(j:r≠0):EC [x,y]=some (.tup [fq (q/r),.i .i64 0]):=by simp only[EC,u,A,iS j,aAj]
theorem l9{x y q r}(u:fg x=some q)(A:fg y=some r)(j:r≠0):r6 [x,y]=some (fq (q/r)):=by simp only[r6,u,A,iS j,aAj]
def AF:List AV->Option AV
 | [.agg [.b a,b,c],.agg [.b d,e,f]]=>cond (aq [b,c,e,f]&&[b,c,e,f].all flat) (r6 [.agg [.b a,b,c],.agg [.b d,e,f]]) none
 |_=>none
theorem RC{x y q r}(B:fg x=some q)(C:fg y=some r)(j:r≠0){a d b c e f}(J:x=.agg [.b a,b,c])(hy:y=.agg [.b d,e,f])(u:aq [b,c,e,f]=true)(A:[b,c,e,f].all flat=true):AF [x,y]=some (fq (q/r)):=by subst J hy;simp only[AF,u,A,aBU,EQ,l9 B C j]
theorem rj{q r}(u:qz q<=iY)(x:qz r<=iY)(j:r≠0)s:ab AF [fq q,fq r] s=some (fq (q/r),s):=aj (RC (bu u) (bu x) j rfl rfl rfl rfl) s
theorem xS:ag Tryz.prog 254 (ab AF):=by
 obtain⟨E,M,y⟩:=ur (ab EC) QR rfl;refine aE (by kernel_rfl) Tryz.func254 Tryz.ntmps254 rfl ?_;intro args v h;unfold AF at h;split at h
 ·next a b c d e f=>
  obtain⟨x,h⟩:=ah h;simp only[gE]at x;unfold r6 at h;cases hq:fg (.agg [.b a,b,c])with
  |none=>simp only[hq]at h;cases h
  |some q=>
   cases hr:fg (.agg [.b d,e,f])with
   |none=>simp only[hq,hr]at h;cases h
   |some r=>
    simp only[hq,hr]at h;by_cases j:r=0
    ·rw[lT j]at h;cases h
    rw[iS j]at h;cases h;have u:=x.1;have hf:=x.2;simp only[aq,gE,and_true]at u;simp only[aAR,List.all_nil,gE,and_true]at hf;obtain⟨f1,f2,f3,f4⟩:=hf;refine⟨by simp only[aq,bare,u.1,u.2.1,u.2.2.1,u.2.2.2];rfl,rfl,nE rfl,?_⟩;have hd:=aj (TS hq hr j);rw[cZ,St.of_nil];refine rg M (ax @f1 (ax @f2 (ax @f3 @f4))) ?_;refine rg M (ax @y (ax @hd @cY)) ?_;refine rg M (ax @ew @cY) ?_;exact Jd.ret (aw.c1 rfl rfl BD rfl)
 cases h
def mP(O V:Nat)(gs:List Gr):List AV:=[.vw (kL O V gs) (O+1),.i .i64 ((V+1:Nat):Int)]
noncomputable def flatF(O V:Nat)(gs:List Gr):=ofG (fun _:Unit=>[.agg (mP O V gs)]) (fun _=>V<=8) fun _=>cr V
theorem Bz{O V}gs(h:V<=8)s:fS (flatF O V gs) [.agg (mP O V gs)] s=some (.sl s.nx 0 (V+1) (V+1),s.new (.cells (fr (cr V)) 31 false)):=qY (rp (enc:=fun _:Unit=>[.agg (mP O V gs)]) (Ok:=fun _=>V<=8) (f:=fun _=>cr V) (d:=()) (fun _ _ _=>rfl) h) (fk V) s
theorem Cd O V gs:ag Tryz.prog 249 (fS (flatF O V gs)):=by
 obtain⟨E,M,J⟩:=ur (ab sV) xU rfl;refine jA (by kernel_rfl) Tryz.func249 Tryz.ntmps249 rfl ?_;intro args qs h;obtain⟨_,v8,rfl,rfl⟩:=kj h;have v8:V<=8:=v8;refine⟨rfl,nE rfl,?_⟩;have hl:=fk V;have j:cL (cr V) 0=List.replicate (V+1) 0:=by rw[dC,hl]
 have B:=aj (sU (a:=1) (b:=((V+1:Nat):Int)) (by omega) (by omega) (by omega) (by omega));rw[hl,pk,St.of_nil];unfold mP;refine aN M ?_;refine zX 0 0 (mP O V gs) [] [(1,.vp (mP O V gs) 0)] [] ?_ (by repeat' first|exact bK|refine aM ?_ ?_|exact Wk.frz_ptr|exact eU) aK ?_
 ·rfl
 unfold mP;refine rg M @cJ ?_;refine Jd.seq ?_;refine aN M ?_;refine Jd.loopB (fun k g s=>∃i:Nat,i+k=V+1/\g=⟨249,24,Tr.of [(10,.i .i64 (i:Int)),(9,.i .i64 ((V+1:Nat):Int)),(3,.sl 0 0 (V+1) (V+1)),(1,.vp (mP O V gs) 0)],none,[]⟩/\s=St.of [(0,some (.cells (fr (cL (cr V) (i))) 31 false))] 1) (V+1) ?_ ?_
 ·exact⟨_,_,(d9 1 [0] [(10,.i .i64 ((0:Nat):Int)),(9,.i .i64 ((V+1:Nat):Int)),(3,.sl 0 0 (V+1) (V+1)),(1,.vp (mP O V gs) 0)] [(0,some (.cells (fr (cL (cr V) (0))) 31 false))] (by repeat' first|exact bK|refine aM ?_ ?_|exact by rw[j];exact bA.zfr _ _ _|exact eU) (by repeat' first|exact aK|refine aF ?_ ?_|exact by rw[j];exact bA.zfr _ _ _|exact dj)),0,by omega,rfl,rfl⟩
 rintro k _ _ ⟨i,hi,rfl,rfl⟩ U hex C y;unfold mP;refine aN M ?_;refine Jd.seq (Jd.cnd rfl (fun u=>?_) (fun u=>?_));rotate_left
 ·refine Jd.exitT (hex _ _ ?_);show Jb _ _ _ _ _ _;obtain rfl:i=V+1:=by have:=io u;omega
  rw[<-hl,jr,hl];refine aN M ?_;exact Jd.ret (aw.one rfl rfl ⟨rfl,by rw[St.of_get];rfl⟩)
 have A:i<V+1:=by have:=gT u;omega
 have N:(cr V)[i]?=some (((1:Int):Rat)/(((V+1:Nat):Int):Rat)):=by unfold cr;rw[aBs,oR A];rfl
 refine Jd.skipT ?_;refine Jd.seq (Jd.block ?_);clear hex;have eF:=gp (qs:=cL (cr V) i) (i:=i) (by rw[dx _ (by omega)];omega) (((1:Int):Rat)/(((V+1:Nat):Int):Rat));rw[g8 N]at eF;have x:(fr (cL (cr V) i)).length=(V+1)*3:=by rw[iv,dx _ (by omega),hl]
 refine aN M ?_;refine rq M (ax @cJ (ax @J (ax @B (ax @eF (ax @x @iO))))) ?_;refine bW.norm ?_;show Jb _ _ _ _ _ _;refine f6 M ?_;refine y _ _ ⟨k-1,_,_,by omega,(d9 1 [0] [(10,.i .i64 ((i+1:Nat):Int)),(9,.i .i64 ((V+1:Nat):Int)),(3,.sl 0 0 (V+1) (V+1)),(1,.vp (mP O V gs) 0)] [(0,some (.cells (fr (cL (cr V) (i+1))) 31 false))] bT (by repeat' first|exact aK|refine aF ?_ ?_|exact bA.same (aJ _)|exact dj)),i+1,by omega,rfl,rfl⟩
end
theorem AD:Fa 282 5 [.snil,.i .i64 0,.b false,.snil,.snil]/\Fm 282 0 0 2/\Fm 282 1 2 3:=⟨Ff,GP,GP⟩
def gI(O V:Nat)(gs:List Gr)(am:RF):List AV:=[.vw (kL O V gs) (O+1),.i .i64 ((V+1:Nat):Int),.b am.neg,am.n,am.d]
def QY(O V:Nat)(gs:List Gr)(d:RF×Nat×cO):List AV:=[.agg (gI O V gs d.1),.i .i64 d.2.1,.vw (is d.2.2) d.2.2.length]
theorem Kh O V gs x y(h:QY O V gs x=QY O V gs y):x=y:=by obtain⟨⟨u,A,B⟩,b,c⟩:=x;obtain⟨⟨a1',a2',a3'⟩,b',c'⟩:=y;simp only[QY,gI,rW,AV.agg.injEq,AV.vw.injEq,AV.i.injEq,AV.b.injEq,and_true,true_and]at h;obtain⟨⟨rfl,rfl,rfl⟩,C,j,_⟩:=h;rw[show b=b' by omega,eu j]
structure su(O V n:Nat)(h:cO):Prop where
 n1:1<=n
 nO:n<=O
 hh:ck (n-1) V h
structure RF.Am(x:RF):Prop extends x.Ok where
 qb:QB 64 x.q
 pos:0<x.q
noncomputable def addedF(O V:Nat)(gs:List Gr):=ofG (QY O V gs) (fun d=>d.1.Am/\su O V d.2.1 d.2.2) fun d=>gu (aU O gs d.2.1 d.2.2) V d.1.q
theorem xX C v a:(gu C v a).length=v+1:=by simp[gu]
theorem Q6{O V}gs{am:RF}{n h}(j:am.Am)(u:su O V n h)s:fS (addedF O V gs) [.agg [.vw (kL O V gs) (O+1),.i .i64 ((V+1:Nat):Int),.b am.neg,am.n,am.d],.i .i64 n,.vw (is h) h.length] s=some (.sl s.nx 0 (V+1) (V+1),s.new (.cells (fr (gu (aU O gs n h) V am.q)) 31 false)):=qY (rp (enc:=QY O V gs) (Ok:=fun d=>d.1.Am/\su O V d.2.1 d.2.2) (f:=fun d=>gu (aU O gs d.2.1 d.2.2) V d.1.q) (d:=(am,n,h)) (Kh O V gs) ⟨j,u⟩) (xX _ _ _) s
theorem Fh{z}(h:0<=z)(j:z<=1000000000000000)s:ab yi [.i .i64 z] s=some (fq (z:Rat),s):=aj (wD h (by omega)) s
theorem aO{q k}(h:QB k q)(j:k<=100000000):qz q<=iY:=EM (nW h) (by unfold iY;omega)
theorem QW{O V gs}(ok:ic O V gs):ag Tryz.prog 256 (fS (addedF O V gs)):=by
 obtain⟨E,M,c1,c2,c3,c4,c5⟩:=SI (ab (seenV O V gs)) (ab yi) (ab (cK (·*·))) (ab (cK (·+·))) (ab AF) ⟨uZ ok,Ab,qF,xV,xS⟩ rfl;refine jA (by kernel_rfl) Tryz.func256 Tryz.ntmps256 rfl ?_;intro args qs h0;obtain⟨⟨am,n,h⟩,⟨j,U⟩,rfl,u⟩:=kj h0;clear h0;have j:am.Am:=j;have U:su O V n h:=U;have u:qs=gu (aU O gs n h) V am.q:=u;have v8:=ok.v8;have hm:gw (aU O gs n h):=ok.mild (O-n) h;have hs:=uG gs U.n1 U.nO U.hh ((V+1:Nat):Int);have hl:qs.length=V+1:=by rw[u];exact xX _ _ _
 refine⟨by simp only[QY,gI,aq,bare,j.bn,j.bd];rfl,nE rfl,?_⟩;have a2:aq (gI O V gs am)=true:=by simp only[gI,aq,bare,j.bn,j.bd];rfl
 unfold QY;dsimp only;generalize aU O gs n h=C at *;obtain⟨N,hN⟩:∃N,h.length=N:=⟨_,rfl⟩;rw[hN]at hs⊢;have an:=gJ hm V;have a7:=Fh (z:=aZ C V) an.1 (by omega);have a9:=Fh (z:=((V+1:Nat):Int)) (by omega) (by omega);have hW:QB 64 (((V+1:Nat):Int):Rat):=eS (by omega) (by omega);have hS:QB 64 ((aZ C V:Int):Rat):=eS (by omega) (by omega);obtain⟨a,ha⟩:∃a,am.q=a:=⟨_,rfl⟩;have B:=j.toOk.r;have y:=j.qb;rw[ha]at B y u;have ad:=aj (df (·*·) B (bu (aO hW (by omega))));have Y:=aj (fM (·+·) (aO hS (by omega)) (aO (y.mul hW) (by omega)));obtain⟨D,hD⟩:∃D,((aZ C V:Int):Rat)+a*(((V+1:Nat):Int):Rat)=D:=⟨_,rfl⟩;have a1:QB 200 D:=by rw[<-hD];exact(hS.add (y.mul hW)).mono (by omega)
 rw[hD]at Y;unfold rC at ad;have al:cL qs 0=List.replicate (V+1) 0:=by rw[dC,hl]
 rw[hl,dZ,St.of_nil];unfold gI;refine rg M (ax @j.fn @j.fd) ?_;refine zX 0 0 (gI O V gs am) [] [(3,.vp (gI O V gs am) 0),(2,.vw (is h) N),(1,.i .i64 (n:Int))] [] ?_ (by repeat' first|exact bK|refine aM ?_ ?_|exact Wk.frz_ptr|exact eU) aK ?_
 ·exact a2
 unfold gI;refine rg M (ax @AD (ax @cJ (ax @c1 @hs))) ?_;refine rg M (ax @AD @cJ) ?_;refine dr M [] (ax @AD (ax @cJ (ax @c2 (ax @c3 (ax @c4 (ax @a7 (ax @a9 (ax @ad (ax @Y @cY))))))))) ?_;refine zX 1 1 (ai D) [0] [(10,.vp (ai D) 0),(9,.sl 0 0 (V+1) (V+1)),(7,eY C V),(3,.vp (gI O V gs am) 0)] [(0,some (.cells (fr (cL qs (0))) 31 false))] ?_ (by repeat' first|exact bK|refine aM ?_ ?_|exact Wk.frz_ptr|exact Wk.bare (cw _ _)|exact(by rw[al];exact bA.zfr _ _ _)|exact eU) (by repeat' first|exact aK|refine aF ?_ ?_|exact(by rw[al];exact bA.zfr _ _ _)|exact dj) ?_
 ·rfl
 refine Jd.seq ?_;refine aN M ?_;refine Jd.loopB (fun k g s=>∃i:Nat,i+k=V+1/\g=⟨256,53,Tr.of [(36,.i .i64 (i:Int)),(35,.i .i64 ((V+1:Nat):Int)),(10,.vp (ai D) 0),(9,.sl 0 0 (V+1) (V+1)),(7,eY C V),(3,.vp (gI O V gs am) 0)],none,[]⟩/\s=St.of [(0,some (.cells (fr (cL qs (i))) 31 false))] 1) (V+1) ?_ ?_
 ·exact⟨_,_,(d9 1 [0] [(36,.i .i64 ((0:Nat):Int)),(35,.i .i64 ((V+1:Nat):Int)),(10,.vp (ai D) 0),(9,.sl 0 0 (V+1) (V+1)),(7,eY C V),(3,.vp (gI O V gs am) 0)] [(0,some (.cells (fr (cL qs (0))) 31 false))] (by repeat' first|exact bK|refine aM ?_ ?_|exact Wk.bare (cw _ _)|exact eU) AL),0,by omega,rfl,rfl⟩
 rintro k _ _ ⟨i,hi,rfl,rfl⟩ Q1 hex bf a4;unfold gI;refine aN M ?_;refine Jd.seq (Jd.cnd rfl (fun h1=>?_) (fun h1=>?_));rotate_left
 ·refine Jd.exitT (hex _ _ ?_);show Jb _ _ _ _ _ _;obtain rfl:i=V+1:=by have:=io h1;omega
  rw[<-hl,jr,hl];refine aN M ?_;exact Jd.ret (aw.one rfl rfl ⟨rfl,by rw[St.of_get];rfl⟩)
 have a5:i<V+1:=by have:=gT h1;omega
 have av:=hm (i:Int);have J:QB 64 ((C (i:Int):Int):Rat):=eS (by omega) (by omega);have a0:D≠0:=by
  have h1:(0:Rat)<=((aZ C V:Int):Rat):=by exact_mod_cast an.1
  have h2:(0:Rat)<a*(((V+1:Nat):Int):Rat):=aDy (by rw[<-ha];exact j.pos) (by exact_mod_cast aDL V)
  grind
 have hq:qs[i]?=some ((((C (i:Int):Int):Rat)+a)/D):=by rw[u,<-hD];unfold gu;rw[mT,MT a5];rfl
 have a6:=pq (C:=C) (fun x=>(hm x).1) v8 (x:=(i:Int)) (by omega) (by omega);have ba:=Fh (z:=C (i:Int)) av.1 (by omega);have A:=aj (df (·+·) (bu (aO J (by omega))) B);unfold rC at A;have bd:=rj (aO (J.add y) (by omega)) (aO a1 (by omega)) a0;refine Jd.skipT ?_;refine Jd.seq (Jd.block ?_);clear hex;have eF:=gp (qs:=cL qs i) (i:=i) (by rw[dx _ (by omega)];omega) ((((C (i:Int):Int):Rat)+a)/D);rw[g8 hq]at eF;have a3:(fr (cL qs i)).length=(V+1)*3:=by rw[iv,dx _ (by omega),hl]
 refine aN M ?_;apply Jd.drwQ M [] (by kernel_rfl);(· intro K gl Z hK;simp only[sv]at Z;subst Z;simp (maxSteps:=1000000) (disch:=omega) only[↓nD,↓nC,nB,Nat.reduceEqDiff,↓reduceIte,Nat.reduceLT,Nat.reduceAdd,iT,Cc,NE,NO,iO, AD,cJ,wH,a6,c2,c4,c5,ba,A,bd,eF,a3,ew,iO];exact hK)
 refine bW.norm ?_;show Jb _ _ _ _ _ _;refine f6 M ?_;refine a4 _ _ ⟨k-1,_,_,by omega,(d9 1 [0] [(36,.i .i64 ((i+1:Nat):Int)),(35,.i .i64 ((V+1:Nat):Int)),(10,.vp (ai D) 0),(9,.sl 0 0 (V+1) (V+1)),(7,eY C V),(3,.vp (gI O V gs am) 0)] [(0,some (.cells (fr (cL qs (i+1))) 31 false))] (by repeat' first|exact bK|refine aM ?_ ?_|exact Wk.bare (cw _ _)|exact eU) (by repeat' first|exact aK|refine aF ?_ ?_|exact bA.same (aJ _)|exact dj)),i+1,by omega,rfl,rfl⟩
end Go.Proofs.YtfoceannfdbinaaGreat
