/- Lemmas. -/
import Derived.Test.YtjebfdfkjlkifaaGreatR38
set_option linter.all false
set_option maxRecDepth 1000000
set_option maxHeartbeats 32000000
namespace Go.Proofs.YtjebfdfkjlkifaaGreat
open Go.RowKit
section
attribute [local go_sem] Oper.semAt_some

theorem iN (k:Nat) (w:World):FracsAt k w (.slice none 0 0) []:=⟨[],Sl.nil_ _ _,fun i q h=>by cases h⟩
theorem pU {w:World} {g:Nat} {e:TypeId} {s s':Bool} {A B A' B':Option Addr} {a b c d a' b' c' d':Nat} {p q:Rat} (h:Blk w g e [.int .i64 0,.int .i64 1,.int .i64 0,.bool s,.slice A a b,.slice B c d,.int .i64 0,.int .i64 0,.int .i64 0,.bool s',.slice A' a' b',.slice B' c' d'])
  (hp:CanAt w (.agg #[.bool s,.slice A a b,.slice B c d]) p)(hq:CanAt w (.agg #[.bool s',.slice A' a' b',.slice B' c' d']) q) (bp:QB 64 p) (bq:QB 64 q):RulesAt 64 w (.slice (some ⟨g,0,none⟩) 2 2) [⟨0,1,0,p⟩,⟨0,0,0,q⟩]:=by
 have h1:=h.sl (sz:=6) (n:=2) (c:=2) (by simp) (nR _) (by unfold maxLen; omega)
 refine ⟨_,h1,fun i r hr=>?_⟩
 match i,hr with
 | 0,hr=>cases hr; exact ⟨_,_,_,rfl,rfl,rfl,rfl,rfl,rfl,hp.frac bp (by omega)⟩
 | 1,hr=>cases hr; exact ⟨_,_,_,rfl,rfl,rfl,rfl,rfl,rfl,hq.frac bq (by omega)⟩
theorem rf (w:World):CanAt w (.agg #[.bool false,.slice none 0 0,.slice none 0 0]) 0:=(CanNew.zero_ 0 w).at_

theorem NatAt.offD {w:World} {v:Value} {n b:Nat} {e:TypeId} {xs:List Value} (h:NatAt w v n)(hb:Blk w b e xs)(hx:∀ x ∈ xs,∀ d,x ≠ dg d):Off v b:=by
 obtain ⟨l,⟨⟨h0,A,c,rfl,_,_,h5⟩,_⟩,_⟩:=h
 intro ad n' c' e' hn
 cases e'
 obtain ⟨b',off,e',_,hc⟩:=h5 hn
 cases e'
 simp only
 intro hbb
 subst hbb
 cases l with
 | nil=>simp at hn
 | cons d l =>
  have h1:=hc 0 (dg d) rfl
  rw [hb.cell] at h1
  exact hx _ (mG h1) d rfl
theorem ij {a b k:Int} {s:Bool} {X A A' Y:Option Addr} {n p m c m' c' y z:Nat}:∀ x ∈ [Value.int .i64 a,.int .i64 b,.slice X n p,.int .i64 k,.bool s,.slice A m c,.slice A' m' c',.slice Y y z],∀ d,x ≠ dg d:=by
 intro x hx d e
 subst e
 simp [dg] at hx
def pZ (W:World) (g:Nat) (k:Int) (s:Bool) (A A':Option Addr) (m c m' c':Nat):World :=
 (((W.setCell ⟨g,3,none⟩ (.int .i64 k)).setCell ⟨g,4,none⟩ (.bool s)).setCell ⟨g,5,none⟩ (.slice A m c)).setCell ⟨g,6,none⟩ (.slice A' m' c')
section
variable {W W0:World} {g:Nat} {k:Int} {s:Bool} {A A':Option Addr} {m c m' c':Nat}
theorem mP {a b d e f h i j:Value} (hb:Blk W g 43 [a,b,d,e,f,h,i,j]):Blk (pZ W g k s A A' m c m' c') g 43 [a,b,d,.int .i64 k,.bool s,.slice A m c,.slice A' m' c',j] :=
 (((hb.set_ 3 _).set_ 4 _).set_ 5 _).set_ 6 _
theorem jv {B:Nat} (hb:Below B W0 W)(hg:B <= g):Below B W0 (pZ W g k s A A' m c m' c') :=
 (((hb.setCell (p:=⟨g,3,none⟩) hg _).setCell (p:=⟨g,4,none⟩) hg _).setCell (p:=⟨g,5,none⟩) hg _).setCell (p:=⟨g,6,none⟩) hg _
theorem mN {e:TypeId} {xs:List Value} (hb:Blk W g e xs)(hx:∀ x ∈ xs,∀ d,x ≠ dg d) {v:Value} {q:Rat} (h:CanAt W v q):CanAt (pZ W g k s A A' m c m' c') v q:=by
 obtain ⟨vn,vd,e,h1,h2⟩:=h
 have o1:=NatAt.offD h1 hb hx
 have o2:=NatAt.offD h2 hb hx
 exact ⟨vn,vd,e,(((h1.setOff (p:=⟨g,3,none⟩) o1 _).setOff (p:=⟨g,4,none⟩) o1 _).setOff (p:=⟨g,5,none⟩) o1 _).setOff (p:=⟨g,6,none⟩) o1 _,(((h2.setOff (p:=⟨g,3,none⟩) o2 _).setOff (p:=⟨g,4,none⟩) o2 _).setOff (p:=⟨g,5,none⟩) o2 _).setOff (p:=⟨g,6,none⟩) o2 _⟩
theorem jw {e:TypeId} {xs:List Value} (hb:Blk W g e xs)(hx:∀ x ∈ xs,∀ d,x ≠ dg d) {b:Nat} {qs:List Rat} (h:FArc W b qs)(hne:b ≠ g):FArc (pZ W g k s A A' m c m' c') b qs:=by
 obtain ⟨ys,g1,g2,gx,g3⟩:=h
 refine ⟨ys,(((g1.far (p:=⟨g,3,none⟩) hne _).far (p:=⟨g,4,none⟩) hne _).far (p:=⟨g,5,none⟩) hne _).far (p:=⟨g,6,none⟩) hne _,g2,gx,fun j r hr=>?_⟩
 obtain ⟨A1,m1,c1,A1',m1',c1',e0,e1,e2,e3⟩:=g3 j r hr
 exact ⟨A1,m1,c1,A1',m1',c1',e0,e1,e2,mN hb hx e3⟩
end

theorem vR (w:World)
  (hsort:∀ W B A n c gs,GOwn B W (.slice A n c) gs->gs.length = n->n <= 20000->B <= W.heap.size->Calls Tryz.prog 136 #[.slice A n c,.func (.func 137) #[] #[]] W fun e w'=>e = .returned (.tuple #[])/\∃ gs':List Gr,gs'.Perm gs/\dQ gs'/\GOwn B w' (.slice A n c) gs'/\Below B W w') :
  Calls Tryz.prog 18 #[] w fun e w'=>e = .returned (.bool true)/\Below w.heap.size w w':=by
 have HSO:=aH hsort
 clear hsort
 go_enter Tryz.func18,Tryz.ntmps18
 go_wp2_with fail
 refine (wi w).mono ?_
 rintro e w1 ⟨lv,rfl,hg,hb⟩
 obtain ⟨Al,cl,rfl,_⟩:=hg.open_
 have T1:=aH hg
 have B1:=aH hb
 clear hg hb
 go_wp2_with fail
 refine (ic w1 1 2 (by omega) (by omega) (by omega)).mono ?_
 rintro e w2 ⟨u,rfl,t,hb⟩
 obtain ⟨q1,hq1⟩:∃ q:Rat,((1:Nat):Rat) / ((2:Nat):Rat) = q:=⟨_,rfl⟩
 rw [hq1] at t
 have HQ1:Hd (q1 = 1/2):=aH (by rw [<- hq1]; decide +kernel)
 obtain ⟨A,m,c,A',m',c',rfl⟩:=t.at_.open_
 have C1:=aH t.at_
 have T2:=aH (T1.o.below hb)
 have B2:=aH (B1.o.trans (hb.mono B1.o.size))
 clear t hb hq1 T1 B1
 go_wp2_with fail
 obtain ⟨W3,hW3,L0,L1,LB,Lhs⟩:=cP w2 43 [.int .i64 2,.int .i64 2,.slice Al gs0.length cl,.int .i64 3,.bool (ae q1),.slice A m c,.slice A' m' c',.slice none 0 0] 3 [.int .i64 0]
 rw [<- hW3]
 clear hW3
 have F1:Hd (FracAt 64 W3 (.agg #[.bool (ae q1),.slice A m c,.slice A' m' c']) q1):=aH ((C1.o.below LB.o).frac (by rw [HQ1.o]; exact ⟨by decide +kernel,by decide +kernel⟩) (by omega))
 refine (uy W3 2 2 (.slice Al gs0.length cl) gs0 (ae q1) A A' m c m' c' (.slice none 0 0) q1 [] _ [0] ⟨T2.o.below LB.o,F1.o,iN _ _,by simp⟩ (fp (l:=[0]) L1.o (by simp)) (by rw [HQ1.o]; exact vD) (by omega)).mono ?_
 rintro e w3 ⟨b1,rfl,hs1,hf1,hb⟩
 rw [HQ1.o] at hf1
 have R1:=aH hf1
 have LQ:=aH (L0.o.below' hb)
 have B3':=aH (LB.o.trans (hb.mono LB.o.size))
 have T3:=aH (T2.o.below B3'.o)
 have n1:b1 ≠ w2.heap.size:=by omega
 have q3:=LQ.o.cell 3
 have q4:=LQ.o.cell 4
 have q5:=LQ.o.cell 5
 have q6:=LQ.o.cell 6
 have f3:=LQ.o.frozen 3
 have f4:=LQ.o.frozen 4
 have f5:=LQ.o.frozen 5
 have f6:=LQ.o.frozen 6
 simp only [List.getElem?_cons_zero,List.getElem?_cons_succ] at q3 q4 q5 q6
 clear hf1 hb hs1 F1
 go_upto_region 4 with fail
 clear q3 q4 q5 q6 f3 f4 f5 f6
 obtain ⟨W4,hW4⟩:∃ W4,W4 = pZ w3 w2.heap.size 4 false none none 0 0 0 0:=⟨_,rfl⟩
 have L4:=aH (show Blk W4 w2.heap.size 43 _ by rw [hW4]; exact mP LQ.o)
 have R4:=aH (show FArc W4 b1 _ by rw [hW4]; exact jw LQ.o ij R1.o n1)
 have B4:=aH (show Below w2.heap.size w2 W4 by rw [hW4]; exact jv B3'.o (nR _))
 have T4:=aH (T2.o.below B4.o)
 rw [show (((w3.setCell ⟨w2.heap.size,3,none⟩ (.int .i64 4)).setCell ⟨w2.heap.size,4,none⟩ (.bool false)).setCell ⟨w2.heap.size,5,none⟩ (.slice none 0 0)).setCell ⟨w2.heap.size,6,none⟩ (.slice none 0 0) = W4 from hW4.symm]
 clear hW4 LQ R1 B3' T3
 obtain ⟨p0,p1,p2,p3,p4,p5,p6,p7⟩:=an L4.o
 go_wp2_with fail
 obtain ⟨W5,hW5,M0,MB,Mhs⟩:=aA W4 3 [.int .i64 2]
 rw [<- hW5]
 clear hW5
 refine (rO W5 2 2 (.slice Al gs0.length cl) gs0 false none none 0 0 0 0 (.slice none 0 0) 0 [] _ [2] ⟨T4.o.below MB.o,(rf _).frac ⟨by decide +kernel,by decide +kernel⟩ (by omega),iN _ _,by simp⟩ (fp (l:=[2]) M0.o (by simp)) vC (by omega)).mono ?_
 rintro e w5 ⟨b2,rfl,hs2,hf2,hb⟩
 have R2:=aH hf2
 have B5':=aH (MB.o.trans (hb.mono MB.o.size))
 have L5:=aH (L4.o.below' B5'.o)
 have R5:=aH (R4.o.below B5'.o)
 have B5:=aH (B4.o.trans (B5'.o.mono B4.o.size))
 have z4:w2.heap.size < W4.heap.size:=L4.o.lt
 have n2:b2 ≠ w2.heap.size:=by omega
 clear p0 p1 p2 p3 p4 p5 p6 p7 hf2 hb hs2 L4 R4 B4 T4 B5'
 go_wp2_with fail
 refine (ofR w5 1 (by omega)).mono ?_
 rintro e w6 ⟨u,rfl,t,hb⟩
 obtain ⟨q2,hq2⟩:∃ q:Rat,((1:Nat):Rat) = q:=⟨_,rfl⟩
 rw [hq2] at t
 have HQ2:Hd (q2 = 1):=aH (by rw [<- hq2]; decide +kernel)
 obtain ⟨Ao,mo,co,Ao',mo',co',rfl⟩:=t.at_.open_
 have C2:=aH t.at_
 have L6:=aH (L5.o.below' hb)
 have R16:=aH (R5.o.below hb)
 have R26:=aH (R2.o.below hb)
 have B6:=aH (B5.o.trans (hb.mono B5.o.size))
 have q3:=L6.o.cell 3
 have q4:=L6.o.cell 4
 have q5:=L6.o.cell 5
 have q6:=L6.o.cell 6
 have f3:=L6.o.frozen 3
 have f4:=L6.o.frozen 4
 have f5:=L6.o.frozen 5
 have f6:=L6.o.frozen 6
 simp only [List.getElem?_cons_zero,List.getElem?_cons_succ] at q3 q4 q5 q6
 clear t hb hq2 L5 R5 R2 B5
 go_upto_region 6 with fail
 clear q3 q4 q5 q6 f3 f4 f5 f6
 obtain ⟨W7,hW7⟩:∃ W7,W7 = pZ w6 w2.heap.size 1 (ae q2) Ao Ao' mo co mo' co':=⟨_,rfl⟩
 have L7:=aH (show Blk W7 w2.heap.size 43 _ by rw [hW7]; exact mP L6.o)
 have R17:=aH (show FArc W7 b1 _ by rw [hW7]; exact jw L6.o ij R16.o n1)
 have R27:=aH (show FArc W7 b2 _ by rw [hW7]; exact jw L6.o ij R26.o n2)
 have C7:=aH (show CanAt W7 _ q2 by rw [hW7]; exact mN L6.o ij C2.o)
 have B7:=aH (show Below w2.heap.size w2 W7 by rw [hW7]; exact jv B6.o (nR _))
 have T7:=aH (T2.o.below B7.o)
 rw [show (((w6.setCell ⟨w2.heap.size,3,none⟩ (.int .i64 1)).setCell ⟨w2.heap.size,4,none⟩ (.bool (ae q2))).setCell ⟨w2.heap.size,5,none⟩ (.slice Ao mo co)).setCell ⟨w2.heap.size,6,none⟩ (.slice Ao' mo' co') = W7 from hW7.symm]
 clear hW7 L6 R16 R26 C2 B6 n1 n2
 obtain ⟨p0,p1,p2,p3,p4,p5,p6,p7⟩:=an L7.o
 go_wp2_with fail
 obtain ⟨W8,hW8,S0,SB,Shs⟩:=aA W7 3 [.int .i64 1,.int .i64 2]
 rw [<- hW8]
 clear hW8
 refine (pS W8 2 2 (.slice Al gs0.length cl) gs0 (ae q2) Ao Ao' mo co mo' co' (.slice none 0 0) q2 [] _ [1,2] ⟨T7.o.below SB.o,(C7.o.below SB.o).frac (by rw [HQ2.o]; exact ⟨by decide +kernel,by decide +kernel⟩) (by omega),iN _ _,by simp⟩ (fp (l:=[1,2]) S0.o (by simp)) (by rw [HQ2.o]; exact wh) (by omega)).mono ?_
 rintro e w8 ⟨u,rfl,t,hb⟩
 rw [show oj (fun h=>cQ (ap 2 gs0 2 h) 2 q2) (2 - 1) [1,2] = 1/10 by rw [HQ2.o]; exact rp] at t
 obtain ⟨q3,hq3⟩:∃ q:Rat,(1/10:Rat) = q:=⟨_,rfl⟩
 rw [hq3] at t
 have HQ3:Hd (q3 = 1/10):=aH hq3.symm
 obtain ⟨As,ms,cs,As',ms',cs',rfl⟩:=t.open_
 have C3:=aH t
 have B8':=aH (SB.o.trans (hb.mono SB.o.size))
 have R18:=aH (R17.o.below B8'.o)
 have R28:=aH (R27.o.below B8'.o)
 have B8:=aH (B7.o.trans (B8'.o.mono B7.o.size))
 clear p0 p1 p2 p3 p4 p5 p6 p7 t hb hq3 R17 R27 B7 B8' L7
 go_wp2_with fail
 obtain ⟨W9,hW9,N0,N1,N2,N3,NB,Nhs⟩:=tU w8 40 [.bool (ae q3),.slice As ms cs,.slice As' ms' cs'] 3 [.int .i64 1,.int .i64 2] 3 [.int .i64 1,.int .i64 1] 44 [.slice (some ⟨w8.heap.size + 1,0,none⟩) 2 2,.slice (some ⟨w8.heap.size + 1 + 1,0,none⟩) 2 2]
 rw [<- hW9]
 clear hW9
 refine (vU W9 2 2 _ [[1,2],[1,1]] (kN (l:=[1,2]) (m:=[1,1]) N3.o N1.o N2.o (by simp) (by simp)) (by decide +kernel) (by decide +kernel) (by decide +kernel) (by simp) HSO.o).mono ?_
 rintro e w9 ⟨lv,gs,rfl,hp,hso,hg,hb⟩
 obtain rfl:=nX hp hso
 obtain ⟨Ac,cc,rfl,_⟩:=hg.open_
 have G9:=aH hg
 have B9':=aH (NB.o.trans (hb.mono NB.o.size))
 have R19:=aH (R18.o.below B9'.o)
 have R29:=aH (R28.o.below B9'.o)
 have X9:Hd (BoxC w9 w8.heap.size q3):=aH ((BoxC.of N0.o (C3.o.below NB.o)).below hb)
 have B9:=aH (B8.o.trans (B9'.o.mono B8.o.size))
 clear hp hso hg hb B9' R18 R28 B8 N0 N1 N2 N3
 go_wp2_with fail
 obtain ⟨W10,hW10,K0,KB,Khs⟩:=aA w9 27 [.int .i64 2,.int .i64 2,.slice Ac gs0.length cc]
 rw [<- hW10]
 clear hW10
 refine (ic W10 1 2 (by omega) (by omega) (by omega)).mono ?_
 rintro e w10 ⟨u,rfl,t,hb⟩
 obtain ⟨q4,hq4⟩:∃ q:Rat,((1:Nat):Rat) / ((2:Nat):Rat) = q:=⟨_,rfl⟩
 rw [hq4] at t
 have HQ4:Hd (q4 = 1/2):=aH (by rw [<- hq4]; decide +kernel)
 obtain ⟨Ad,md,cd,Ad',md',cd',rfl⟩:=t.at_.open_
 have C4:=aH t.at_
 have B10:=aH (KB.o.trans (hb.mono KB.o.size))
 have K10:=aH (K0.o.below' hb)
 clear t hb hq4 K0 KB
 go_wp2_with fail
 refine (ic w10 1 2 (by omega) (by omega) (by omega)).mono ?_
 rintro e w11 ⟨u,rfl,t,hb⟩
 obtain ⟨q5,hq5⟩:∃ q:Rat,((1:Nat):Rat) / ((2:Nat):Rat) = q:=⟨_,rfl⟩
 rw [hq5] at t
 have HQ5:Hd (q5 = 1/2):=aH (by rw [<- hq5]; decide +kernel)
 obtain ⟨Ae,me,ce,Ae',me',ce',rfl⟩:=t.at_.open_
 have C5:=aH t.at_
 have C4':=aH (C4.o.below hb)
 have B11:=aH (B10.o.trans (hb.mono B10.o.size))
 have K11:=aH (K10.o.below' hb)
 clear t hb hq5 C4 B10 K10
 go_wp2_with fail
 obtain ⟨W12,hW12,J0,J1,JB,Jhs⟩:=cP w11 111 [.int .i64 0,.int .i64 1,.int .i64 0,.bool (ae q4),.slice Ad md cd,.slice Ad' md' cd',.int .i64 0,.int .i64 0,.int .i64 0,.bool (ae q5),.slice Ae me ce,.slice Ae' me' ce'] 3 [.int .i64 1,.int .i64 1]
 rw [<- hW12]
 clear hW12
 have HRU:=aH (pU J0.o (C4'.o.below JB.o) (C5.o.below JB.o) (by rw [HQ4.o]; exact ⟨by decide +kernel,by decide +kernel⟩) (by rw [HQ5.o]; exact ⟨by decide +kernel,by decide +kernel⟩))
 have HRU0:Hd ([⟨0,1,0,q4⟩,⟨0,0,0,q5⟩] = lJ):=aH (by rw [HQ4.o,HQ5.o]; rfl)
 have hsay:=wG W12 1 1 _ _ lJ [1,1] (by rw [<- HRU0.o]; exact HRU.o) (fp (l:=[1,1]) J1.o (by simp)) (fun _=>⟨by decide +kernel,by decide +kernel⟩)
 rw [uu,ut] at hsay
 refine hsay.mono ?_
 rintro e w12 ⟨u,rfl,t,hb⟩
 clear hsay
 obtain ⟨q6,hq6⟩:∃ q:Rat,(1/8:Rat) = q:=⟨_,rfl⟩
 rw [hq6] at t
 have HQ6:Hd (q6 = 1/8):=aH hq6.symm
 obtain ⟨Af,mf,cf,Af',mf',cf',rfl⟩:=t.open_
 have C6:=aH t
 have B12':=aH (B11.o.trans ((JB.o.trans (hb.mono JB.o.size)).mono B11.o.size))
 have K12:=aH ((K11.o.below' JB.o).below' hb)
 have R1c:=aH (R19.o.below B12'.o)
 have R2c:=aH (R29.o.below B12'.o)
 have Xc:=aH (X9.o.below B12'.o)
 have Gc:=aH (G9.o.below B12'.o)
 have Bc:=aH (B2.o.trans ((B9.o.trans (B12'.o.mono B9.o.size)).mono B2.o.size))
 clear t hb hq6 HRU HRU0 J0 J1 JB C4' C5 B11 K11 R19 R29 X9 G9 B9 B12'
 go_upto_region 12 with fail
 obtain ⟨W13,hW13,Y0,YB,Yhs⟩:=aA w12 40 [.bool (ae q6),.slice Af mf cf,.slice Af' mf' cf']
 rw [<- hW13]
 clear hW13
 have R1d:=aH (R1c.o.below YB.o)
 have R2d:=aH (R2c.o.below YB.o)
 have Xd:=aH (Xc.o.below YB.o)
 have Gd:=aH (Gc.o.below YB.o)
 have Kd:=aH (K12.o.below' YB.o)
 have Cd:=aH (C6.o.below YB.o)
 have Bd:=aH (Bc.o.trans (YB.o.mono Bc.o.size))
 clear R1c R2c Xc Gc K12 C6 Bc YB
 obtain ⟨x,hx⟩:∃ r:Rat,(3/4:Rat) = r:=⟨_,rfl⟩
 have gx0:=pF
 rw [hx] at gx0
 have gx:=R1d.o.get gx0
 have Hx:Hd (x = (3/4:Rat)):=aH hx.symm
 obtain ⟨xA,xm,xc,xB,xn,xd,x0,x1,x2,_,_,_,tx⟩:=gx
 have Ex:=aH tx
 clear hx tx
 obtain ⟨y,hy⟩:∃ r:Rat,(1/12:Rat) = r:=⟨_,rfl⟩
 have gy0:=pE
 rw [hy] at gy0
 have gy:=R1d.o.get gy0
 have Hy:Hd (y = (1/12:Rat)):=aH hy.symm
 obtain ⟨yA,ym,yc,yB,yn,yd,y0,y1,y2,_,_,_,ty⟩:=gy
 have Ey:=aH ty
 clear hy ty
 obtain ⟨z,hz⟩:∃ r:Rat,(2/3:Rat) = r:=⟨_,rfl⟩
 have gz0:=pD
 rw [hz] at gz0
 have gz:=R2d.o.get gz0
 have Hz:Hd (z = (2/3:Rat)):=aH hz.symm
 obtain ⟨zA,zm,zc,zB,zn,zd,z0,z1,z2,_,_,_,tz⟩:=gz
 have Ez:=aH tz
 clear hz tz
 obtain ⟨vA,vm,vc,vB,vn,vd,v0,v1,v2,_,_,_,tv⟩:=Xd.o.get
 have Ev:=aH tv
 clear tv gx0 gy0 gz0
 have l1:b1 < W13.heap.size:=R1d.o.lt
 have l2:b2 < W13.heap.size:=R2d.o.lt
 have l3:w8.heap.size < W13.heap.size:=Xd.o.lt
 have l4:w9.heap.size < W13.heap.size:=Kd.o.lt
 have l5:w12.heap.size < W13.heap.size:=Y0.o.lt
 have HSET:Hd (∀ w',Below W13.heap.size W13 w'->Below W13.heap.size W13 w'/\w'.cell? ⟨b1,3,none⟩ = some (.bool (ae x))/\w'.cell? ⟨b1,4,none⟩ = some (.slice xA xm xc)/\w'.cell? ⟨b1,5,none⟩ = some (.slice xB xn xd)/\w'.cell? ⟨b1,6,none⟩ = some (.bool (ae y))/\w'.cell? ⟨b1,7,none⟩ = some (.slice yA ym yc)/\w'.cell? ⟨b1,8,none⟩ = some (.slice yB yn yd)/\w'.cell? ⟨b2,0,none⟩ = some (.bool (ae z))/\w'.cell? ⟨b2,1,none⟩ = some (.slice zA zm zc)/\w'.cell? ⟨b2,2,none⟩ = some (.slice zB zn zd)/\w'.cell? ⟨w8.heap.size,0,none⟩ = some (.bool (ae q3))/\w'.cell? ⟨w8.heap.size,1,none⟩ = some (.slice vA vm vc)/\w'.cell? ⟨w8.heap.size,2,none⟩ = some (.slice vB vn vd)/\w'.cell? ⟨w9.heap.size,0,none⟩ = some (.int .i64 2)/\w'.cell? ⟨w9.heap.size,1,none⟩ = some (.int .i64 2)/\w'.cell? ⟨w9.heap.size,2,none⟩ = some (.slice Ac gs0.length cc)/\w'.cell? ⟨w12.heap.size,0,none⟩ = some (.bool (ae q6))/\w'.cell? ⟨w12.heap.size,1,none⟩ = some (.slice Af mf cf)/\w'.cell? ⟨w12.heap.size,2,none⟩ = some (.slice Af' mf' cf')):=aH (fun w' hw'=>⟨hw',(hw'.cell (p:=⟨b1,3,none⟩) l1).trans (x0),(hw'.cell (p:=⟨b1,4,none⟩) l1).trans (x1),(hw'.cell (p:=⟨b1,5,none⟩) l1).trans (x2),(hw'.cell (p:=⟨b1,6,none⟩) l1).trans (y0),(hw'.cell (p:=⟨b1,7,none⟩) l1).trans (y1),(hw'.cell (p:=⟨b1,8,none⟩) l1).trans (y2),(hw'.cell (p:=⟨b2,0,none⟩) l2).trans (z0),(hw'.cell (p:=⟨b2,1,none⟩) l2).trans (z1),(hw'.cell (p:=⟨b2,2,none⟩) l2).trans (z2),(hw'.cell (p:=⟨w8.heap.size,0,none⟩) l3).trans (v0),(hw'.cell (p:=⟨w8.heap.size,1,none⟩) l3).trans (v1),(hw'.cell (p:=⟨w8.heap.size,2,none⟩) l3).trans (v2),(hw'.cell (p:=⟨w9.heap.size,0,none⟩) l4).trans (Kd.o.cell 0),(hw'.cell (p:=⟨w9.heap.size,1,none⟩) l4).trans (Kd.o.cell 1),(hw'.cell (p:=⟨w9.heap.size,2,none⟩) l4).trans (Kd.o.cell 2),(hw'.cell (p:=⟨w12.heap.size,0,none⟩) l5).trans (Y0.o.cell 0),(hw'.cell (p:=⟨w12.heap.size,1,none⟩) l5).trans (Y0.o.cell 1),(hw'.cell (p:=⟨w12.heap.size,2,none⟩) l5).trans (Y0.o.cell 2)⟩)
 have hS:=HSET.o W13.drew (bS W13)
 clear x0 x1 x2 y0 y1 y2 z0 z1 z2 v0 v1 v2
 refine wp_region_held_drew (S:=fun w'=>Below W13.heap.size W13 w'/\w'.cell? ⟨b1,3,none⟩ = some (.bool (ae x))/\w'.cell? ⟨b1,4,none⟩ = some (.slice xA xm xc)/\w'.cell? ⟨b1,5,none⟩ = some (.slice xB xn xd)/\w'.cell? ⟨b1,6,none⟩ = some (.bool (ae y))/\w'.cell? ⟨b1,7,none⟩ = some (.slice yA ym yc)/\w'.cell? ⟨b1,8,none⟩ = some (.slice yB yn yd)/\w'.cell? ⟨b2,0,none⟩ = some (.bool (ae z))/\w'.cell? ⟨b2,1,none⟩ = some (.slice zA zm zc)/\w'.cell? ⟨b2,2,none⟩ = some (.slice zB zn zd)/\w'.cell? ⟨w8.heap.size,0,none⟩ = some (.bool (ae q3))/\w'.cell? ⟨w8.heap.size,1,none⟩ = some (.slice vA vm vc)/\w'.cell? ⟨w8.heap.size,2,none⟩ = some (.slice vB vn vd)/\w'.cell? ⟨w9.heap.size,0,none⟩ = some (.int .i64 2)/\w'.cell? ⟨w9.heap.size,1,none⟩ = some (.int .i64 2)/\w'.cell? ⟨w9.heap.size,2,none⟩ = some (.slice Ac gs0.length cc)/\w'.cell? ⟨w12.heap.size,0,none⟩ = some (.bool (ae q6))/\w'.cell? ⟨w12.heap.size,1,none⟩ = some (.slice Af mf cf)/\w'.cell? ⟨w12.heap.size,2,none⟩ = some (.slice Af' mf' cf')) (by kernel_rfl) hS (fun hHeld=>?_)
 clear hS
 refine tjj 0 ?_ rfl (by kernel_rfl) rfl ‹_› ?_ (fun _ _ _ h=>h) (tjj 1 ?_ rfl (by kernel_rfl) rfl ‹_› ?_ (fun _ _ _ h=>h) (tjj 2 ?_ rfl (by kernel_rfl) rfl ‹_› ?_ (fun _ _ _ h=>h) ?_))
 iterate 3 (rotate_left; · (intro w' hSw; (try dsimp only at hSw); (try go_frame); go_simp <;> with_reducible rfl))
 go_frame
 refine wpAnyH_ready (rs:=[3]) (by kernel_rfl) (by simp) ?_
 refine AllReadyH.cons rfl (fun K hK=>?_) AllReadyH.nil
 go_simp
 refine (ic _ 3 4 (by omega) (by omega) (by omega)).mono ?_
 rintro e wl ⟨u,rfl,t,hb⟩
 obtain ⟨qm,hqm⟩:∃ q:Rat,((3:Nat):Rat) / ((4:Nat):Rat) = q:=⟨_,rfl⟩
 rw [hqm] at t
 have HQM:Hd (qm = 3/4):=aH (by rw [<- hqm]; decide +kernel)
 obtain ⟨qA,qn,qc,qA',qn',qc',rfl⟩:=t.at_.open_
 have CM:=aH t.at_
 have hS:=HSET.o wl (hHeld.1.trans (hb.mono hHeld.1.size))
 clear t hb hqm hHeld
 try go_simp
 refine hK.out _ _ hS (fun hHeld=>?_)
 clear hK K hS
 try go_frame
 refine wpAnyH_ready (rs:=[4]) (by kernel_rfl) (by simp) ?_
 refine AllReadyH.cons rfl (fun K hK=>?_) AllReadyH.nil
 go_simp
 refine (gW _ _ _ x qm (Ex.o.below hHeld.1) CM.o).mono ?_
 rintro e wl2 ⟨rfl,hb⟩
 rw [show decide (x = qm) = true from dT (by rw [Hx.o,HQM.o])]
 have hS:=HSET.o wl2 (hHeld.1.trans (hb.mono hHeld.1.size))
 clear hb hHeld CM HQM
 try go_simp
 refine hK.out _ _ hS (fun hHeld=>?_)
 clear hK K hS
 try go_frame
 refine tjj 5 ?_ rfl (by kernel_rfl) rfl ‹_› ?_ (fun _ _ _ h=>h) ?_
 rotate_left
 ·(intro w' hSw; (try dsimp only at hSw); (try go_frame); go_simp <;> with_reducible rfl)
 go_frame
 refine tjj 6 ?_ rfl (by kernel_rfl) rfl ‹_› ?_ (fun _ _ _ h=>h) (tjj 7 ?_ rfl (by kernel_rfl) rfl ‹_› ?_ (fun _ _ _ h=>h) (tjj 8 ?_ rfl (by kernel_rfl) rfl ‹_› ?_ (fun _ _ _ h=>h) ?_))
 iterate 3 (rotate_left; · (intro w' hSw; (try dsimp only at hSw); (try go_frame); go_simp <;> with_reducible rfl))
 go_frame
 refine wpAnyH_ready (rs:=[9]) (by kernel_rfl) (by simp) ?_
 refine AllReadyH.cons rfl (fun K hK=>?_) AllReadyH.nil
 go_simp
 refine (ic _ 1 12 (by omega) (by omega) (by omega)).mono ?_
 rintro e wl ⟨u,rfl,t,hb⟩
 obtain ⟨qm,hqm⟩:∃ q:Rat,((1:Nat):Rat) / ((12:Nat):Rat) = q:=⟨_,rfl⟩
 rw [hqm] at t
 have HQM:Hd (qm = 1/12):=aH (by rw [<- hqm]; decide +kernel)
 obtain ⟨qA,qn,qc,qA',qn',qc',rfl⟩:=t.at_.open_
 have CM:=aH t.at_
 have hS:=HSET.o wl (hHeld.1.trans (hb.mono hHeld.1.size))
 clear t hb hqm hHeld
 try go_simp
 refine hK.out _ _ hS (fun hHeld=>?_)
 clear hK K hS
 try go_frame
 refine wpAnyH_ready (rs:=[10]) (by kernel_rfl) (by simp) ?_
 refine AllReadyH.cons rfl (fun K hK=>?_) AllReadyH.nil
 go_simp
 refine (gW _ _ _ y qm (Ey.o.below hHeld.1) CM.o).mono ?_
 rintro e wl2 ⟨rfl,hb⟩
 rw [show decide (y = qm) = true from dT (by rw [Hy.o,HQM.o])]
 have hS:=HSET.o wl2 (hHeld.1.trans (hb.mono hHeld.1.size))
 clear hb hHeld CM HQM
 try go_simp
 refine hK.out _ _ hS (fun hHeld=>?_)
 clear hK K hS
 try go_frame
 refine tjj 11 ?_ rfl (by kernel_rfl) rfl ‹_› ?_ (fun _ _ _ h=>h) (tjj 12 ?_ rfl (by kernel_rfl) rfl ‹_› ?_ (fun _ _ _ h=>h) ?_)
 iterate 2 (rotate_left; · (intro w' hSw; (try dsimp only at hSw); (try go_frame); go_simp <;> with_reducible rfl))
 go_frame
 refine tjj 13 ?_ rfl (by kernel_rfl) rfl ‹_› ?_ (fun _ _ _ h=>h) (tjj 14 ?_ rfl (by kernel_rfl) rfl ‹_› ?_ (fun _ _ _ h=>h) (tjj 15 ?_ rfl (by kernel_rfl) rfl ‹_› ?_ (fun _ _ _ h=>h) ?_))
 iterate 3 (rotate_left; · (intro w' hSw; (try dsimp only at hSw); (try go_frame); go_simp <;> with_reducible rfl))
 go_frame
 refine wpAnyH_ready (rs:=[16]) (by kernel_rfl) (by simp) ?_
 refine AllReadyH.cons rfl (fun K hK=>?_) AllReadyH.nil
 go_simp
 refine (ic _ 2 3 (by omega) (by omega) (by omega)).mono ?_
 rintro e wl ⟨u,rfl,t,hb⟩
 obtain ⟨qm,hqm⟩:∃ q:Rat,((2:Nat):Rat) / ((3:Nat):Rat) = q:=⟨_,rfl⟩
 rw [hqm] at t
 have HQM:Hd (qm = 2/3):=aH (by rw [<- hqm]; decide +kernel)
 obtain ⟨qA,qn,qc,qA',qn',qc',rfl⟩:=t.at_.open_
 have CM:=aH t.at_
 have hS:=HSET.o wl (hHeld.1.trans (hb.mono hHeld.1.size))
 clear t hb hqm hHeld
 try go_simp
 refine hK.out _ _ hS (fun hHeld=>?_)
 clear hK K hS
 try go_frame
 refine wpAnyH_ready (rs:=[17]) (by kernel_rfl) (by simp) ?_
 refine AllReadyH.cons rfl (fun K hK=>?_) AllReadyH.nil
 go_simp
 refine (gW _ _ _ z qm (Ez.o.below hHeld.1) CM.o).mono ?_
 rintro e wl2 ⟨rfl,hb⟩
 rw [show decide (z = qm) = true from dT (by rw [Hz.o,HQM.o])]
 have hS:=HSET.o wl2 (hHeld.1.trans (hb.mono hHeld.1.size))
 clear hb hHeld CM HQM
 try go_simp
 refine hK.out _ _ hS (fun hHeld=>?_)
 clear hK K hS
 try go_frame
 refine tjj 18 ?_ rfl (by kernel_rfl) rfl ‹_› ?_ (fun _ _ _ h=>h) (tjj 19 ?_ rfl (by kernel_rfl) rfl ‹_› ?_ (fun _ _ _ h=>h) ?_)
 iterate 2 (rotate_left; · (intro w' hSw; (try dsimp only at hSw); (try go_frame); go_simp <;> with_reducible rfl))
 go_frame
 refine tjj 20 ?_ rfl (by kernel_rfl) rfl ‹_› ?_ (fun _ _ _ h=>h) ?_
 rotate_left
 ·(intro w' hSw; (try dsimp only at hSw); (try go_frame); go_simp <;> with_reducible rfl)
 go_frame
 refine wpAnyH_ready (rs:=[21]) (by kernel_rfl) (by simp) ?_
 refine AllReadyH.cons rfl (fun K hK=>?_) AllReadyH.nil
 go_simp
 refine (ic _ 1 10 (by omega) (by omega) (by omega)).mono ?_
 rintro e wl ⟨u,rfl,t,hb⟩
 obtain ⟨qm,hqm⟩:∃ q:Rat,((1:Nat):Rat) / ((10:Nat):Rat) = q:=⟨_,rfl⟩
 rw [hqm] at t
 have HQM:Hd (qm = 1/10):=aH (by rw [<- hqm]; decide +kernel)
 obtain ⟨qA,qn,qc,qA',qn',qc',rfl⟩:=t.at_.open_
 have CM:=aH t.at_
 have hS:=HSET.o wl (hHeld.1.trans (hb.mono hHeld.1.size))
 clear t hb hqm hHeld
 try go_simp
 refine hK.out _ _ hS (fun hHeld=>?_)
 clear hK K hS
 try go_frame
 refine wpAnyH_ready (rs:=[22]) (by kernel_rfl) (by simp) ?_
 refine AllReadyH.cons rfl (fun K hK=>?_) AllReadyH.nil
 go_simp
 refine (gW _ _ _ q3 qm (Ev.o.below hHeld.1) CM.o).mono ?_
 rintro e wl2 ⟨rfl,hb⟩
 rw [show decide (q3 = qm) = true from dT (by rw [HQ3.o,HQM.o])]
 have hS:=HSET.o wl2 (hHeld.1.trans (hb.mono hHeld.1.size))
 clear hb hHeld CM HQM
 try go_simp
 refine hK.out _ _ hS (fun hHeld=>?_)
 clear hK K hS
 try go_frame
 refine tjj 23 ?_ rfl (by kernel_rfl) rfl ‹_› ?_ (fun _ _ _ h=>h) (tjj 24 ?_ rfl (by kernel_rfl) rfl ‹_› ?_ (fun _ _ _ h=>h) ?_)
 iterate 2 (rotate_left; · (intro w' hSw; (try dsimp only at hSw); (try go_frame); go_simp <;> with_reducible rfl))
 go_frame
 refine tjj 25 ?_ rfl (by kernel_rfl) rfl ‹_› ?_ (fun _ _ _ h=>h) ?_
 rotate_left
 ·(intro w' hSw; (try dsimp only at hSw); (try go_frame); go_simp <;> with_reducible rfl)
 go_frame
 refine wpAnyH_ready (rs:=[26]) (by kernel_rfl) (by simp) ?_
 refine AllReadyH.cons rfl (fun K hK=>?_) AllReadyH.nil
 go_simp
 refine (wi _).mono ?_
 rintro e wl ⟨lw,rfl,hg,hb⟩
 obtain ⟨Aw,cw,rfl,_⟩:=hg.open_
 have GW:=aH hg
 have hS:=HSET.o wl (hHeld.1.trans (hb.mono hHeld.1.size))
 clear hg hb hHeld
 try go_simp
 refine hK.out _ _ hS (fun hHeld=>?_)
 clear hK K hS
 try go_frame
 refine wpAnyH_ready (rs:=[27]) (by kernel_rfl) (by simp) ?_
 refine AllReadyH.cons rfl (fun K hK=>?_) AllReadyH.nil
 go_simp
 refine (oq _ 2 2 2 2 _ _ gs0 gs0 (Gd.o.below hHeld.1) GW.o).mono ?_
 rintro e wl2 ⟨rfl,hb⟩
 rw [show decide ((2:Int) = 2/\(2:Int) = 2/\gs0 = gs0) = true from dT ⟨rfl,rfl,rfl⟩]
 have hS:=HSET.o wl2 (hHeld.1.trans (hb.mono hHeld.1.size))
 clear hb hHeld GW
 try go_simp
 refine hK.out _ _ hS (fun hHeld=>?_)
 clear hK K hS
 try go_frame
 refine tjj 28 ?_ rfl (by kernel_rfl) rfl ‹_› ?_ (fun _ _ _ h=>h) (tjj 29 ?_ rfl (by kernel_rfl) rfl ‹_› ?_ (fun _ _ _ h=>h) ?_)
 iterate 2 (rotate_left; · (intro w' hSw; (try dsimp only at hSw); (try go_frame); go_simp <;> with_reducible rfl))
 go_frame
 refine tjj 30 ?_ rfl (by kernel_rfl) rfl ‹_› ?_ (fun _ _ _ h=>h) ?_
 rotate_left
 ·(intro w' hSw; (try dsimp only at hSw); (try go_frame); go_simp <;> with_reducible rfl)
 go_frame
 refine wpAnyH_ready (rs:=[31]) (by kernel_rfl) (by simp) ?_
 refine AllReadyH.cons rfl (fun K hK=>?_) AllReadyH.nil
 go_simp
 refine (ic _ 1 8 (by omega) (by omega) (by omega)).mono ?_
 rintro e wl ⟨u,rfl,t,hb⟩
 obtain ⟨qm,hqm⟩:∃ q:Rat,((1:Nat):Rat) / ((8:Nat):Rat) = q:=⟨_,rfl⟩
 rw [hqm] at t
 have HQM:Hd (qm = 1/8):=aH (by rw [<- hqm]; decide +kernel)
 obtain ⟨qA,qn,qc,qA',qn',qc',rfl⟩:=t.at_.open_
 have CM:=aH t.at_
 have hS:=HSET.o wl (hHeld.1.trans (hb.mono hHeld.1.size))
 clear t hb hqm hHeld
 try go_simp
 refine hK.out _ _ hS (fun hHeld=>?_)
 clear hK K hS
 try go_frame
 refine wpAnyH_ready (rs:=[32]) (by kernel_rfl) (by simp) ?_
 refine AllReadyH.cons rfl (fun K hK=>?_) AllReadyH.nil
 go_simp
 refine (gW _ _ _ q6 qm (Cd.o.below hHeld.1) CM.o).mono ?_
 rintro e wl2 ⟨rfl,hb⟩
 rw [show decide (q6 = qm) = true from dT (by rw [HQ6.o,HQM.o])]
 have hS:=HSET.o wl2 (hHeld.1.trans (hb.mono hHeld.1.size))
 clear hb hHeld CM HQM
 try go_simp
 refine hK.out _ _ hS (fun hHeld=>?_)
 clear hK K hS
 try go_frame
 refine tjj 33 ?_ rfl (by kernel_rfl) rfl ‹_› ?_ (fun _ _ _ h=>h) (tjj 34 ?_ rfl (by kernel_rfl) rfl ‹_› ?_ (fun _ _ _ h=>h) ?_)
 iterate 2 (rotate_left; · (intro w' hSw; (try dsimp only at hSw); (try go_frame); go_simp <;> with_reducible rfl))
 go_frame
 refine wpAnyH_done (by kernel_rfl) ?_ _
 have hBB:=hHeld.1
 have hEND:=Bd.o.trans (hBB.mono Bd.o.size)
 clear hHeld hBB
 go_wp2_with fail
 first
  | (go_ret; exact ⟨rfl,hEND⟩)
  | (go_ret2; exact ⟨rfl,hEND⟩)
  | (go_end0; exact ⟨rfl,hEND⟩)
end
theorem iQ:∀ a:List Int,bC a a = 0
 | []=>rfl
 | x :: a=>by unfold bC; rw [if_pos rfl]; exact iQ a
theorem gr:∀ a b:List Int,bC b a = - bC a b
 | [],[]=>rfl
 | [],_ :: _=>rfl
 | _ :: _,[]=>rfl
 | x :: a,y :: b=>by
  unfold bC
  by_cases h:x = y
  ·subst h
   rw [if_pos rfl,if_pos rfl]
   exact gr a b
  rw [if_neg h,if_neg (fun e=>h e.symm)]
  by_cases h2:x < y
  ·rw [if_pos h2,if_neg (by omega)]; rfl
  rw [if_neg h2,if_pos (by omega)]
theorem pm:∀ {a b:List Int},bC a b = 0->a = b
 | [],[],_=>rfl
 | [],_ :: _,h=>by cases h
 | _ :: _,[],h=>by cases h
 | x :: a,y :: b,h=>by
  unfold bC at h
  by_cases e:x = y
  ·rw [if_pos e] at h
   rw [e,pm h]
  rw [if_neg e] at h
  split at h <;> cases h
theorem gT:∀ {a b c:List Int},bC a b < 0->bC b c < 0->bC a c < 0
 | [],[],_,h,_=>by unfold bC at h; omega
 | [],_ :: _,[],_,h=>by unfold bC at h; omega
 | [],_ :: _,_ :: _,_,_=>by unfold bC; omega
 | _ :: _,[],_,h,_=>by unfold bC at h; omega
 | _ :: _,_ :: _,[],_,h=>by unfold bC at h; omega
 | x :: a,y :: b,z :: c,h,k=>by
  unfold bC at h k ⊢
  by_cases h1:x = y
  ·rw [if_pos h1] at h
   by_cases h2:y = z
   ·rw [if_pos h2] at k
    rw [if_pos (h1.trans h2)]
    exact gT h k
   rw [if_neg h2] at k
   rw [if_neg (fun e=>h2 (h1.symm.trans e))]
   split at k
   ·rw [if_pos (by omega)]; omega
   omega
  rw [if_neg h1] at h
  split at h
  ·by_cases h2:y = z
   ·rw [if_neg (by omega),if_pos (by omega)]; omega
   rw [if_neg h2] at k
   split at k
   ·rw [if_neg (by omega),if_pos (by omega)]; omega
   omega
  omega
theorem tQ {a b:List Int}:¬ bC a b < 0 ↔ bC b a < 0 ∨ a = b:=by
 constructor
 ·intro h
  by_cases h2:bC a b = 0
  ·exact .inr (pm h2)
  exact .inl (by rw [gr]; omega)
 rintro (h | rfl)
 ·rw [gr] at h; omega
 rw [iQ]; omega
theorem nE {a b c:List Int} (h:¬ bC a b < 0) (k:¬ bC b c < 0):¬ bC a c < 0:=by
 rw [tQ] at h k ⊢
 rcases h with h | rfl
 ·rcases k with k | rfl
  ·exact .inl (gT k h)
  exact .inl h
 exact k
end Go.Proofs.YtjebfdfkjlkifaaGreat
