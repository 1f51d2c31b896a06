/- Lemmas. -/
import Derived.Test.YtjebfdfkjlkifaaGreatR08
set_option linter.all false
set_option maxRecDepth 1000000
set_option maxHeartbeats 32000000
namespace Go.Proofs.YtjebfdfkjlkifaaGreat
open Go.RowKit
theorem we (w:World) (v v':Value) (q r:Rat) (k:Nat)(h:NumAt w v q) (h':NumAt w v' r)(hb:QB k q) (hb':QB k r)(hk:k <= 4398046511104) :
  Calls Tryz.prog 148 #[v,v'] w fun e w'=>∃ v',e = .returned v'/\NumNew w.heap.size w' v' (q + r)/\Below w.heap.size w w':=by
 obtain ⟨A,m,c,A',m',c',rfl,hm,hm',hp,h1,h2⟩:=h.open_
 obtain ⟨C,n,d,C',n',d',rfl,hn,hn',hp',h1',h2'⟩:=h'.open_
 have H1:=aH h1
 have H2:=aH h2
 have H1':=aH h1'
 have H2':=aH h2'
 have HB:=aH hb
 have HB':=aH hb'
 have DP:Hd (0 < q.den * r.den):=aH (Nat.mul_pos q.den_pos r.den_pos)
 have SAME:=aH (nK q r)
 have LESS:=aH (nM q r)
 have MORE:=aH (nL q r)
 have X1:=aH (aE hb.1 hb'.2)
 have X2:=aH (aE hb'.1 hb.2)
 have X3:=aH (aE hb.2 hb'.2)
 clear h h' h1 h2 h1' h2' hb hb' hp hp' hn hn' hm hm'
 generalize ae q = s at *
 generalize ae r = t at *
 go_enter Tryz.func148,Tryz.ntmps148
 go_upto_region 1 with fail
 obtain ⟨W,hW,P0,P1,P2,PB,Phs⟩:=box3 w 190 [.bool s,.slice A m c,.slice A' m' c'] 190 [.bool t,.slice C n d,.slice C' n' d'] 190 [.bool false,.slice none 0 0,.slice none 0 0]
 rw [<- hW]
 clear hW
 have N1:=aH (H1.o.below PB.o)
 have N2:=aH (H2.o.below PB.o)
 have N1':=aH (H1'.o.below PB.o)
 have N2':=aH (H2'.o.below PB.o)
 obtain ⟨p0,p1,p2,_,_,_⟩:=P0.o.three
 obtain ⟨q0,q1,q2,_,_,_⟩:=P1.o.three
 go_region_held3 (fun w'=>w'.cell? ⟨w.heap.size,0,none⟩ = some (.bool s)/\w'.cell? ⟨w.heap.size,1,none⟩ = some (.slice A m c)/\w'.cell? ⟨w.heap.size,2,none⟩ = some (.slice A' m' c')/\w'.cell? ⟨w.heap.size + 1,0,none⟩ = some (.bool t)/\w'.cell? ⟨w.heap.size + 1,1,none⟩ = some (.slice C n d)/\w'.cell? ⟨w.heap.size + 1,2,none⟩ = some (.slice C' n' d')) (first | assumption | (refine bF hS ?_ ?_ _ _ _ <;> omega) | go_keep)
  (first
   | (go_at_call_of 170 (Value.slice A m c); refine (mul _ _ _ _ _ k k ?_ ?_ HB.o.1 HB'.o.2 (by omega) (by omega)).mono ?_; (exact N1.o.drew); (exact N2'.o.drew); rintro e w1 ⟨v1,rfl,t1,hb1'⟩; have hb1:=bO hb1'; have hS:=six (P0.o.below' hb1) (P1.o.below' hb1); have T1:=aH t1; have B1:=aH hb1; clear t1 hb1 hb1')
   | (go_at_call_of 170 (Value.slice C n d); refine (mul w1 _ _ _ _ k k (N1'.o.below B1.o) (N2.o.below B1.o) HB'.o.1 HB.o.2 (by omega) (by omega)).mono ?_; rintro e w2 ⟨v2,rfl,t2,hb2⟩; have B2:=aH (B1.o.trans (hb2.mono B1.o.size)); have T1':=aH (T1.o.below hb2); have T2:=aH t2; have hS:=six (P0.o.below' B2.o) (P1.o.below' B2.o); clear t2 hb2)
   | (go_at_call 170; refine (mul w2 _ _ _ _ k k (N2.o.below B2.o) (N2'.o.below B2.o) HB.o.2 HB'.o.2 (by omega) (by omega)).mono ?_; rintro e w3 ⟨v3,rfl,t3,hb3⟩; have B3:=aH (B2.o.trans (hb3.mono B2.o.size)); have T1'':=aH (T1'.o.below hb3); have T2'':=aH (T2.o.below hb3); have T3:=aH t3; have hS:=six (P0.o.below' B3.o) (P1.o.below' B3.o); clear t3 hb3))
 have Q0:=aH (P0.o.below' B3.o)
 have Q1:=aH (P1.o.below' B3.o)
 have Q2:=aH (P2.o.below' B3.o)
 have hs3:=B3.o.size
 clear p0 p1 p2 q0 q1 q2
 obtain ⟨p0,p1,p2,q0,q1,q2⟩:=hS
 by_cases hst:s = t
 ·have hq:=SAME.o hst
  have HQ:=aH hq
  have XS:Hd (q.num.natAbs * r.den + r.num.natAbs * q.den < 2 ^ (k + k + 1)):=aH (by have:=X1.o; have:=X2.o; rw [Nat.pow_succ]; omega)
  have XD:Hd (q.den * r.den < 2 ^ (k + k + 1)):=aH (by have:=X3.o; rw [Nat.pow_succ]; omega)
  clear hq
  subst hst
  have hst:(s == s) = true:=by simp
  go_upto_region 3 with fail
  go_region_held3 (fun w'=>w'.cell? ⟨w.heap.size,0,none⟩ = some (.bool s)/\w'.cell? ⟨w.heap.size,1,none⟩ = some (.slice A m c)/\w'.cell? ⟨w.heap.size,2,none⟩ = some (.slice A' m' c')/\w'.cell? ⟨w.heap.size + 1,0,none⟩ = some (.bool s)/\w'.cell? ⟨w.heap.size + 1,1,none⟩ = some (.slice C n d)/\w'.cell? ⟨w.heap.size + 1,2,none⟩ = some (.slice C' n' d')) (first | assumption | (refine bF hS ?_ ?_ _ _ _ <;> omega) | go_keep)
   (first
    | (go_at_call 171; refine (add _ _ _ _ _ (k + k) ?_ ?_ X1.o X2.o (by omega)).mono ?_; (exact T1''.o); (exact T2''.o); rintro e w4 ⟨v4,rfl,t4,hb4'⟩; have hb4:Below w3.heap.size w3 w4:=(by first | exact hb4' | exact bO hb4' | exact ar hb4' | exact ar (bO hb4')); have B4:=aH hb4; have hS:=six (Q0.o.below' hb4) (Q1.o.below' hb4); have T4:=aH t4; have T4':=aH (T3.o.below hb4); clear t4 hb4 hb4')
    | (go_at_call 169; refine (reduced w4 s _ _ _ _ (k + k + 1) T4.o T4'.o XS.o XD.o (by omega) DP.o).mono ?_; rintro e w5 ⟨v5,rfl,t5,hb5⟩; have B5:=aH (B4.o.trans (hb5.mono B4.o.size)); obtain ⟨A3,m3,c3,A3',m3',c3',rfl,t5a,t5b,t5c,t5d⟩:=t5.open_; obtain ⟨r0,r1,r2,z0,z1,z2⟩:=(Q2.o.below' B5.o).three; have hS:=six (Q0.o.below' B5.o) (Q1.o.below' B5.o); have TA:=aH t5a; have TB:=aH t5b; have TC:=aH t5c; have TD:=aH t5d; clear t5 t5a t5b t5c t5d hb5))
  go_wp2_with fail
  refine bodyPost_ret (v:=.agg #[.bool (ae (mkRat (sgn s (q.num.natAbs * r.den + r.num.natAbs * q.den)) (q.den * r.den))),.slice A3 m3 c3,.slice A3' m3' c3']) (by simp [results,Tryz.results148,go_sem,r0,r1,r2]) rfl ⟨_,rfl,?_,af (PB.o.trans ((B3.o.trans (B5.o.mono hs3)).mono (by omega))) (by omega) _ _ _⟩
  rw [HQ.o]
  have hb4:=B4.o.size
  exact (NumNew.box3 TA.o TB.o TC.o TD.o (by omega) _ _ _).mono (by omega)
 have hst':(s == t) = false:=by simpa using hst
 rcases Nat.lt_or_ge (q.num.natAbs * r.den) (r.num.natAbs * q.den) with hlt | hge
 ·have HQ:=aH (LESS.o hst hlt)
  have CM:=aH (compare w3 _ _ _ _ T1''.o T2''.o)
  have hcm:=d9 hlt
  rw [hcm] at CM
  have HLE:=aH (Nat.le_of_lt hlt)
  have XS:Hd (r.num.natAbs * q.den - q.num.natAbs * r.den < 2 ^ (k + k)):=aH (by have:=X2.o; omega)
  clear hcm hlt hst
  go_upto_region 4 with fail
  go_wp2_with (go_at_call 172; refine CM.o.mono ?_; rintro e w' ⟨rfl,nd,rfl⟩)
  go_region_held3 (fun w'=>w'.cell? ⟨w.heap.size,0,none⟩ = some (.bool s)/\w'.cell? ⟨w.heap.size,1,none⟩ = some (.slice A m c)/\w'.cell? ⟨w.heap.size,2,none⟩ = some (.slice A' m' c')/\w'.cell? ⟨w.heap.size + 1,0,none⟩ = some (.bool t)/\w'.cell? ⟨w.heap.size + 1,1,none⟩ = some (.slice C n d)/\w'.cell? ⟨w.heap.size + 1,2,none⟩ = some (.slice C' n' d')) (first | assumption | (refine bF hS ?_ ?_ _ _ _ <;> omega) | go_keep)
   (first
    | (go_at_call 173; refine (sub _ _ _ _ _ (k + k) ?_ ?_ X2.o HLE.o (by omega)).mono ?_; (exact T2''.o); (exact T1''.o); rintro e w4 ⟨v4,rfl,t4,hb4'⟩; have hb4:Below w3.heap.size w3 w4:=(by first | exact hb4' | exact bO hb4' | exact ar hb4' | exact ar (bO hb4')); have B4:=aH hb4; have hS:=six (Q0.o.below' hb4) (Q1.o.below' hb4); have T4:=aH t4; have T4':=aH (T3.o.below hb4); clear t4 hb4 hb4')
    | (go_at_call 169; refine (reduced w4 t _ _ _ _ (k + k) T4.o T4'.o XS.o X3.o (by omega) DP.o).mono ?_; rintro e w5 ⟨v5,rfl,t5,hb5⟩; have B5:=aH (B4.o.trans (hb5.mono B4.o.size)); obtain ⟨A3,m3,c3,A3',m3',c3',rfl,t5a,t5b,t5c,t5d⟩:=t5.open_; obtain ⟨r0,r1,r2,z0,z1,z2⟩:=(Q2.o.below' B5.o).three; have hS:=six (Q0.o.below' B5.o) (Q1.o.below' B5.o); have TA:=aH t5a; have TB:=aH t5b; have TC:=aH t5c; have TD:=aH t5d; clear t5 t5a t5b t5c t5d hb5))
  go_wp2_with fail
  refine bodyPost_ret (v:=.agg #[.bool (ae (mkRat (sgn t (r.num.natAbs * q.den - q.num.natAbs * r.den)) (q.den * r.den))),.slice A3 m3 c3,.slice A3' m3' c3']) (by simp [results,Tryz.results148,go_sem,r0,r1,r2]) rfl ⟨_,rfl,?_,af (PB.o.trans ((B3.o.trans (B5.o.mono hs3)).mono (by omega))) (by omega) _ _ _⟩
  rw [HQ.o]
  have hb4:=B4.o.size
  exact (NumNew.box3 TA.o TB.o TC.o TD.o (by omega) _ _ _).mono (by omega)
 have HQ:=aH (MORE.o hst hge)
 have CM:=aH (compare w3 _ _ _ _ T1''.o T2''.o)
 have hcm:=lU hge
 generalize dX (q.num.natAbs * r.den) (r.num.natAbs * q.den) = cc at *
 have HLE:=aH hge
 have XS:Hd (q.num.natAbs * r.den - r.num.natAbs * q.den < 2 ^ (k + k)):=aH (by have:=X1.o; omega)
 clear hge hst
 go_upto_region 4 with fail
 go_wp2_with (go_at_call 172; refine CM.o.mono ?_; rintro e w' ⟨rfl,nd,rfl⟩)
 go_region_held3 (fun w'=>w'.cell? ⟨w.heap.size,0,none⟩ = some (.bool s)/\w'.cell? ⟨w.heap.size,1,none⟩ = some (.slice A m c)/\w'.cell? ⟨w.heap.size,2,none⟩ = some (.slice A' m' c')/\w'.cell? ⟨w.heap.size + 1,0,none⟩ = some (.bool t)/\w'.cell? ⟨w.heap.size + 1,1,none⟩ = some (.slice C n d)/\w'.cell? ⟨w.heap.size + 1,2,none⟩ = some (.slice C' n' d')) (first | assumption | (refine bF hS ?_ ?_ _ _ _ <;> omega) | go_keep)
  (first
   | (go_at_call 173; refine (sub _ _ _ _ _ (k + k) ?_ ?_ X1.o HLE.o (by omega)).mono ?_; (exact T1''.o); (exact T2''.o); rintro e w4 ⟨v4,rfl,t4,hb4'⟩; have hb4:Below w3.heap.size w3 w4:=(by first | exact hb4' | exact bO hb4' | exact ar hb4' | exact ar (bO hb4')); have B4:=aH hb4; have hS:=six (Q0.o.below' hb4) (Q1.o.below' hb4); have T4:=aH t4; have T4':=aH (T3.o.below hb4); clear t4 hb4 hb4')
   | (go_at_call 169; refine (reduced w4 s _ _ _ _ (k + k) T4.o T4'.o XS.o X3.o (by omega) DP.o).mono ?_; rintro e w5 ⟨v5,rfl,t5,hb5⟩; have B5:=aH (B4.o.trans (hb5.mono B4.o.size)); obtain ⟨A3,m3,c3,A3',m3',c3',rfl,t5a,t5b,t5c,t5d⟩:=t5.open_; obtain ⟨r0,r1,r2,z0,z1,z2⟩:=(Q2.o.below' B5.o).three; have hS:=six (Q0.o.below' B5.o) (Q1.o.below' B5.o); have TA:=aH t5a; have TB:=aH t5b; have TC:=aH t5c; have TD:=aH t5d; clear t5 t5a t5b t5c t5d hb5))
 go_wp2_with fail
 refine bodyPost_ret (v:=.agg #[.bool (ae (mkRat (sgn s (q.num.natAbs * r.den - r.num.natAbs * q.den)) (q.den * r.den))),.slice A3 m3 c3,.slice A3' m3' c3']) (by simp [results,Tryz.results148,go_sem,r0,r1,r2]) rfl ⟨_,rfl,?_,af (PB.o.trans ((B3.o.trans (B5.o.mono hs3)).mono (by omega))) (by omega) _ _ _⟩
 rw [HQ.o]
 have hb4:=B4.o.size
 exact (NumNew.box3 TA.o TB.o TC.o TD.o (by omega) _ _ _).mono (by omega)
theorem CanNew.at_ {B:Nat} {w:World} {v:Value} {q:Rat} (h:CanNew B w v q):CanAt w v q:=by
 obtain ⟨vn,vd,e,h1,h2,_⟩:=h
 exact ⟨vn,vd,e,h1,h2⟩
theorem CanNew.below {B:Nat} {w w':World} {v:Value} {q:Rat} (h:CanNew B w v q)(hb:Below w.heap.size w w'):CanNew B w' v q:=by
 obtain ⟨vn,vd,e,h1,h2,h3⟩:=h
 exact ⟨vn,vd,e,h1.below hb,h2.below hb,h3⟩
theorem CanNew.mono {B B':Nat} {w:World} {v:Value} {q:Rat} (h:CanNew B w v q)(hb:B' <= B):CanNew B' w v q:=by
 obtain ⟨vn,vd,e,h1,h2,h3,h4⟩:=h
 exact ⟨vn,vd,e,h1,h2,h3.mono hb,h4.mono hb⟩
theorem CanAt.below {w w':World} {v:Value} {q:Rat} (h:CanAt w v q)(hb:Below w.heap.size w w'):CanAt w' v q:=by
 obtain ⟨vn,vd,e,h1,h2⟩:=h
 exact ⟨vn,vd,e,h1.below hb,h2.below hb⟩
theorem CanNew.open_ {B:Nat} {w:World} {v:Value} {q:Rat} (h:CanNew B w v q):∃ A m c A' m' c',v = .agg #[.bool (ae q),.slice A m c,.slice A' m' c']/\NatAt w (.slice A m c) q.num.natAbs/\NatAt w (.slice A' m' c') (if q.den = 1 then 0 else q.den)/\From (.slice A m c) B/\From (.slice A' m' c') B:=by
 obtain ⟨vn,vd,rfl,h1,h2,h3,h4⟩:=h
 obtain ⟨A,m,c,rfl,_⟩:=h1.len
 obtain ⟨A',m',c',rfl,_⟩:=h2.len
 exact ⟨A,m,c,A',m',c',rfl,h1,h2,h3,h4⟩
theorem CanNew.box3 {B g:Nat} {w:World} {q:Rat} {A A':Option Addr} {m c m' c':Nat} (h1:NatAt w (.slice A m c) q.num.natAbs)(h2:NatAt w (.slice A' m' c') (if q.den = 1 then 0 else q.den))(h3:From (.slice A m c) B)(h4:From (.slice A' m' c') B)(hg:g < B) (u0 u1 u2:Value) :
  CanNew B (((w.setCell ⟨g,0,none⟩ u0).setCell ⟨g,1,none⟩ u1).setCell ⟨g,2,none⟩ u2) (.agg #[.bool (ae q),.slice A m c,.slice A' m' c']) q :=
 ⟨_,_,rfl,h1.box3 (h3.mono hg) _ _ _,h2.box3 (h4.mono hg) _ _ _,h3,h4⟩
theorem FracAt.shape {k:Nat} {w:World} {v:Value} {q:Rat} (h:FracAt k w v q):∃ neg vn vd,v = .agg #[.bool neg,vn,vd]:=by
 obtain ⟨neg,vn,vd,_,_,e,_⟩:=h
 exact ⟨neg,vn,vd,e⟩
theorem CanAt.frac {k:Nat} {w:World} {v:Value} {q:Rat} (h:CanAt w v q)(hb:QB k q)(hk:k <= 17592186044416):FracAt k w v q:=by
 obtain ⟨vn,vd,e,⟨l,d1,t1,e1⟩,⟨l',d2,t2,e2⟩⟩:=h
 have hp:=q.den_pos
 have b1:val l < 2 ^ k:=by rw [e1]; exact hb.1
 have b2:val l' < 2 ^ k:=by
  rw [e2]
  split
  ·exact Nat.pow_pos (by omega)
  exact hb.2
 refine ⟨ae q,vn,vd,l,l',e,d1,d2,?_,b1,b2,by have:=t1.length_le b1; omega,by have:=t2.length_le b2; omega⟩
 unfold dM
 rw [e1,e2,<- eS]
 by_cases h:q.den = 1
 ·rw [if_pos h,if_pos rfl,<- h,Rat.mkRat_self]
 rw [if_neg h,if_neg (by omega),Rat.mkRat_self]

theorem xg (w:World) (v:Value) (q:Rat) (k:Nat)(h:FracAt k w v q)(h0:0 < k)(hk:k <= 17592186044416) :
  Calls Tryz.prog 118 #[v] w fun e w'=>∃ v',e = .returned v'/\CanNew w.heap.size w' v' q/\Below w.heap.size w w':=by
 have QH:=aH (h.qb h0)
 have HF:=aH h
 obtain ⟨neg,vn,vd,rfl⟩:=h.shape
 clear h
 go_enter Tryz.func118,Tryz.ntmps118
 go_wp2_with fail
 obtain ⟨W,hW,P0,P1,PB,Phs⟩:=cP w 40 [.bool neg,vn,vd] 40 [.bool false,.slice none 0 0,.slice none 0 0]
 rw [<- hW]
 clear hW
 refine (take W _ q k (HF.o.below PB.o) h0 hk).mono ?_
 rintro e w1 ⟨v1,rfl,t1,hb1⟩
 have T1:=aH t1
 have B1:=aH hb1
 clear t1 hb1
 go_wp2_with fail
 refine (give w1 _ q k T1.o.at_ QH.o hk).mono ?_
 rintro e wz ⟨vz,rfl,tz,hz⟩
 have BZ:=aH (B1.o.trans (hz.mono B1.o.size))
 have hsz:W.heap.size <= w1.heap.size:=B1.o.size
 obtain ⟨A,m,c,A',m',c',rfl,ta,tb,tc,td⟩:=tz.open_
 obtain ⟨r0,r1,r2,z0,z1,z2⟩:=(P1.o.below' BZ.o).three
 have TA:=aH ta
 have TB:=aH tb
 have TC:=aH tc
 have TD:=aH td
 clear tz hz ta tb tc td
 go_wp2_with fail
 refine bodyPost_ret (v:=.agg #[.bool (ae (q)),.slice A m c,.slice A' m' c']) (by simp [results,Tryz.results118,go_sem,r0,r1,r2]) rfl ⟨_,rfl,?_,af (PB.o.trans (BZ.o.mono (by omega))) (by omega) _ _ _⟩
 exact (CanNew.box3 TA.o TB.o TC.o TD.o (by omega) _ _ _).mono (by omega)

theorem jk (w:World) (v:Value) (q:Rat) (k:Nat)(h:FracAt k w v q)(h0:0 < k)(hk:k <= 17592186044416) :
  Calls Tryz.prog 107 #[v] w fun e w'=>e = .returned (.int .i64 (aU q))/\Below w.heap.size w w':=by
 have HF:=aH h
 obtain ⟨neg,vn,vd,rfl⟩:=h.shape
 clear h
 go_enter Tryz.func107,Tryz.ntmps107
 go_wp2_with fail
 obtain ⟨W,hW,P0,PB,Phs⟩:=aA w 40 [.bool neg,vn,vd]
 rw [<- hW]
 clear hW
 refine (take W _ q k (HF.o.below PB.o) h0 hk).mono ?_
 rintro e w1 ⟨v1,rfl,t1,hb1⟩
 have T1:=aH t1
 have B1:=aH (PB.o.trans (hb1.mono (by omega)))
 clear t1 hb1
 go_wp2_with fail
 refine (u9 w1 _ q T1.o.at_).mono ?_
 rintro e w2 ⟨rfl,hb2⟩
 have B2:=aH (B1.o.trans (hb2.mono B1.o.size))
 clear hb2
 go_wp2_with fail
 go_ret
 exact ⟨rfl,B2.o⟩

theorem bv {n k:Nat} (h:n < 2 ^ k)(hk:0 < k):QB k (n:Rat):=⟨by simpa using h,by simpa using Nat.one_lt_two_pow (n:=k) (by omega)⟩

theorem ofN (w:World) (n:Nat)(hn:n < 9223372036854775808) :
  Calls Tryz.prog 110 #[.int .i64 (n:Int)] w fun e w'=>∃ v',e = .returned v'/\CanNew w.heap.size w' v' (n:Rat)/\Below w.heap.size w w':=by
 have QH:Hd (QB 63 (n:Rat)):=aH (bv (by omega) (by omega))
 go_enter Tryz.func110,Tryz.ntmps110
 go_wp2_with fail
 obtain ⟨W,hW,P0,PB,Phs⟩:=aA w 40 [.bool false,.slice none 0 0,.slice none 0 0]
 rw [<- hW]
 clear hW
 refine (nV W n hn).mono ?_
 rintro e w1 ⟨v1,rfl,t1,hb1⟩
 have T1:=aH t1
 have B1:=aH hb1
 clear t1 hb1
 go_wp2_with fail
 refine (give w1 _ (n:Rat) 63 T1.o.at_ QH.o (by omega)).mono ?_
 rintro e wz ⟨vz,rfl,tz,hz⟩
 have BZ:=aH (B1.o.trans (hz.mono B1.o.size))
 have hsz:W.heap.size <= w1.heap.size:=B1.o.size
 obtain ⟨A,m,c,A',m',c',rfl,ta,tb,tc,td⟩:=tz.open_
 obtain ⟨r0,r1,r2,z0,z1,z2⟩:=(P0.o.below' BZ.o).three
 have TA:=aH ta
 have TB:=aH tb
 have TC:=aH tc
 have TD:=aH td
 clear tz hz ta tb tc td
 go_wp2_with fail
 refine bodyPost_ret (v:=.agg #[.bool (ae ((n:Rat))),.slice A m c,.slice A' m' c']) (by simp [results,Tryz.results110,go_sem,r0,r1,r2]) rfl ⟨_,rfl,?_,af (PB.o.trans (BZ.o.mono (by omega))) (by omega) _ _ _⟩
 exact (CanNew.box3 TA.o TB.o TC.o TD.o (by omega) _ _ _).mono (by omega)

def FracsAt (k:Nat) (w:World) (v:Value) (qs:List Rat):Prop:=∃ cells,Sl w 3 v qs.length cells /\
 ∀ i q,qs[i]? = some q->∃ c0 c1 c2,cells[i * 3]? = some c0/\cells[i * 3 + 1]? = some c1/\cells[i * 3 + 2]? = some c2/\FracAt k w (.agg #[c0,c1,c2]) q
theorem FracsAt.below {k:Nat} {w w':World} {v:Value} {qs:List Rat} (h:FracsAt k w v qs)(hb:Below w.heap.size w w'):FracsAt k w' v qs:=by
 obtain ⟨cs,h1,h2⟩:=h
 refine ⟨cs,h1.below hb,fun i q hq=>?_⟩
 obtain ⟨c0,c1,c2,e0,e1,e2,h3⟩:=h2 i q hq
 exact ⟨c0,c1,c2,e0,e1,e2,h3.below hb⟩
theorem FracsAt.at_ {k:Nat} {w:World} {v:Value} {qs:List Rat} (h:FracsAt k w v qs):∃ A c,v = .slice A qs.length c/\qs.length <= c/\c <= 9223372036854775807 /\
  ∀ i q,qs[i]? = some q->∃ b off neg An n cn Ad d cd,A = some ⟨b,off,none⟩/\b < w.heap.size/\w.cell? ⟨b,off + i * 3,none⟩ = some (.bool neg)/\w.cell? ⟨b,off + i * 3 + 1,none⟩ = some (.slice An n cn)/\w.cell? ⟨b,off + i * 3 + 2,none⟩ = some (.slice Ad d cd)/\FracAt k w (.agg #[.bool neg,.slice An n cn,.slice Ad d cd]) q:=by
 obtain ⟨cs,h1,h2⟩:=h
 obtain ⟨hl,A,c,rfl,hc,hm,h3⟩:=h1
 refine ⟨A,c,rfl,hc,by unfold maxLen at hm; omega,fun i q hq=>?_⟩
 have hi:=(sI.1 hq).1
 obtain ⟨b,off,rfl,hb,hcell⟩:=h3 (by omega)
 obtain ⟨c0,c1,c2,e0,e1,e2,h4⟩:=h2 i q hq
 have h5:=h4
 obtain ⟨neg,vn,vd,ln,ld,e,hn,hd,_⟩:=h5
 obtain ⟨_,An,cn,rfl,_⟩:=hn.open_
 obtain ⟨_,Ad,cd,rfl,_⟩:=hd.open_
 injection e with e
 have e':[c0,c1,c2] = [.bool neg,.slice An ln.length cn,.slice Ad ld.length cd]:=congrArg Array.toList e
 simp only [List.cons.injEq,and_true] at e'
 obtain ⟨rfl,rfl,rfl⟩:=e'
 exact ⟨b,off,neg,_,_,_,_,_,_,rfl,hb,hcell _ _ e0,by rw [Nat.add_assoc]; exact hcell _ _ e1,by rw [Nat.add_assoc]; exact hcell _ _ e2,h4⟩

theorem uQ (w:World) (v0:Value) (k:Nat) (q0:Rat) (lv:Value) (qs:List Rat)(h:NumAt w v0 q0)(hl:FracsAt k w lv qs)(h0:0 < k)(hb:QB k q0)(hk:(qs.length + 1) * (2 * k) <= 4398046511104) :
  Calls Tryz.prog 150 #[v0,.func (.func 148) #[] #[],lv] w fun e w'=>∃ v',e = .returned v'/\NumAt w' v' (qs.foldl (· + ·) q0)/\Below w.heap.size w w':=by
 obtain ⟨A,c,rfl,hlc,hcm,hat⟩:=hl.at_
 obtain ⟨A0,m,c0,A0',m',c0',rfl,hm,hm',hp,h1,h2⟩:=h.open_
 have HL:=aH hl
 have HAT:=aH hat
 have HN:=aH h
 have HB:=aH hb
 have OF1:=aH (h1.off (F:=w.heap.size + 1) (Nat.le_succ _))
 have OF2:=aH (h2.off (F:=w.heap.size + 1) (Nat.le_succ _))
 clear hl hat h hp h1 h2 hb
 obtain ⟨n,hn⟩:=nm (qs.length)
 have HLN:=aH hn
 rw [hn] at hlc hk ⊢
 clear hn
 generalize ae q0 = s at *
 go_enter Tryz.func150,Tryz.ntmps150
 go_wp2_with fail
 obtain ⟨W,hW,P0,P1,PB,Phs⟩:=cP w 190 [.bool s,.slice A0 m c0,.slice A0' m' c0'] 190 [.bool false,.slice none 0 0,.slice none 0 0]
 rw [<- hW]
 clear hW
 go_loopg [11] n (fun g i wr=>∃ (j:Nat) (q:Rat) (b:Bool) (A1 A1':Option Addr) (m1 c1 m1' c1':Nat),i = .int .i64 j/\j + g = n/\q = (qs.take j).foldl (· + ·) q0/\QB ((j + 1) * (2 * k)) q /\
  Blk wr w.heap.size 190 [.bool b,.slice A1 m1 c1,.slice A1' m1' c1']/\NumAt wr (.agg #[.bool b,.slice A1 m1 c1,.slice A1' m1' c1']) q/\Off (.slice A1 m1 c1) (w.heap.size + 1)/\Off (.slice A1' m1' c1') (w.heap.size + 1) /\
  Blk wr (w.heap.size + 1) 190 [.bool false,.slice none 0 0,.slice none 0 0]/\Below w.heap.size w wr)
 case atStart=>exact ⟨0,q0,s,A0,A0',m,c0,m',c0',rfl,by omega,rfl,HB.o.mono (by omega),P0.o,HN.o.below PB.o,OF1.o,OF2.o,P1.o,PB.o⟩
 obtain ⟨j,q,b,A1,A1',m1,c1,m1',c1',rfl,hj,hq,hqb,hbk,hna,ho1,ho2,hrb,hbel⟩:=hrel
 have HQ:=aH hq
 have HQB:=aH hqb
 have BK:=aH hbk
 have NA:=aH hna
 have O1:=aH ho1
 have O2:=aH ho2
 have RB:=aH hrb
 have BEL:=aH hbel
 have hsz:w.heap.size + 2 <= wr.heap.size:=by have:=hrb.lt; omega
 clear hq hqb hbk hna ho1 ho2 hrb hbel
 obtain ⟨p0,p1,p2,_,_,_⟩:=BK.o.three
 rcases zP gk with h | h
 ·obtain rfl:j = n:=by omega
  obtain ⟨r0,r1,r2,z0,z1,z2⟩:=RB.o.three
  go_wp2_with fail
  refine bodyPost_ret (v:=.agg #[.bool b,.slice A1 m1 c1,.slice A1' m1' c1']) (by simp [results,Tryz.results150,go_sem,r0,r1,r2]) rfl ⟨_,rfl,?_,af BEL.o (Nat.le_succ _) _ _ _⟩
  obtain ⟨vn,vd,e,t1,t2⟩:=NA.o
  rw [HQ.o,tL (by rw [HLN.o]; exact nR _)] at *
  injection e with e
  have e':[Value.bool b,.slice A1 m1 c1,.slice A1' m1' c1'] = [.bool _,vn,vd]:=congrArg Array.toList e
  simp only [List.cons.injEq,and_true] at e'
  obtain ⟨e0,rfl,rfl⟩:=e'
  exact ⟨_,_,by rw [e0],t1.box3off O1.o _ _ _,t2.box3off O2.o _ _ _⟩
 obtain ⟨g,rfl⟩:∃ g,gk = g + 1:=⟨gk - 1,by omega⟩
 obtain ⟨x,hx⟩:∃ x,qs[j]? = some x:=⟨_,eG (by rw [HLN.o]; omega)⟩
 obtain ⟨bb,off,neg,An,nn,cn,Ad,nd,cd,rfl,hbb,e0,e1,e2,hfr⟩:=HAT.o j x hx
 have d0:=(BEL.o.cell (p:=⟨bb,off + j * 3,none⟩) hbb).trans e0
 have d1:=(BEL.o.cell (p:=⟨bb,off + j * 3 + 1,none⟩) hbb).trans e1
 have d2:=(BEL.o.cell (p:=⟨bb,off + j * 3 + 2,none⟩) hbb).trans e2
 have FR:=aH (hfr.below BEL.o)
 have QX:=aH (hfr.qb h0)
 have HX:=aH hx
 have hjk:(j + 1) * (2 * k) <= (n + 1) * (2 * k):=Nat.mul_le_mul_right _ (by omega)
 have hjk2:(j + 1 + 1) * (2 * k) = (j + 1) * (2 * k) + 2 * k:=by rw [Nat.add_mul (j + 1) 1,Nat.one_mul]
 have HJ:Hd (k <= (j + 1) * (2 * k)/\(j + 1) * (2 * k) <= 4398046511104):=aH ⟨by have:1 * (2 * k) <= (j + 1) * (2 * k):=Nat.mul_le_mul_right _ (by omega); omega,by omega⟩
 have HK:=aH hk
 have HJ2:=aH hjk2
 clear hx e0 e1 e2 hfr hjk hjk2 hk
 go_wp2_with fail
 obtain ⟨W1,hW1⟩:∃ W1,W1 = wr.alloc (.cells #[.bool neg,.slice An nn cn,.slice Ad nd cd] 40):=⟨_,rfl⟩
 have X1:Hd (Blk W1 wr.heap.size 40 [.bool neg,.slice An nn cn,.slice Ad nd cd]):=aH (by rw [hW1]; exact Blk.new wr _ _)
 have Y1:Hd (Below wr.heap.size wr W1):=aH (by rw [hW1]; exact (Below.refl _ _).alloc (nR _) _)
 rw [<- hW1]
 clear hW1
 have K1:=aH (BK.o.below' Y1.o)
 obtain ⟨x0,x1,x2,_,_,_⟩:=X1.o.three
 obtain ⟨k0,k1,k2,_,_,_⟩:=K1.o.three
 have hs1:wr.heap.size + 1 <= W1.heap.size:=X1.o.lt
 clear d0 d1 d2 p0 p1 p2
 go_region_with (first
   | (go_at_call 146; refine (take _ _ x k ?_ h0 (by have:=HJ.o; omega)).mono ?_; (exact FR.o.below (Y1.o.trans (bS _))); rintro e w2 ⟨v2,rfl,t2,hb2'⟩; have hb2:=bO hb2'; have B2:=aH hb2; obtain ⟨k0',k1',k2',_,_,_⟩:=(K1.o.below' hb2).three; have T2:=aH t2; have NA2:=aH (NA.o.below (Y1.o.trans (hb2.mono (by omega)))); clear t2 hb2 hb2')
   | (go_at_call 148; refine (we w2 _ _ q x ((j + 1) * (2 * k)) NA2.o T2.o.at_ HQB.o (QX.o.mono HJ.o.1) (by have:=HJ.o; omega)).mono ?_; rintro e w3 ⟨v3,rfl,t3,hb3⟩; have B3:=aH (B2.o.trans (hb3.mono B2.o.size)); have K3:=aH (K1.o.below' B3.o); have hs2:=B2.o.size; obtain ⟨A3,m3,c3,A3',m3',c3',rfl,t3a,t3b,t3c,t3d⟩:=t3.open_; obtain ⟨r0,r1,r2,z0,z1,z2⟩:=K3.o.three; have TA:=aH t3a; have TB:=aH t3b; have TC:=aH t3c; have TD:=aH t3d; clear t3 t3a t3b t3c t3d hb3))
 all_goals
  go_wp2_with fail
  go_roundg g
  case measure=>omega
  case rel =>
   have BZ:Below wr.heap.size wr w3:=Y1.o.trans (B3.o.mono (by omega))
   have hx':=HX.o
   exact ⟨j + 1,_,_,A3,A3',m3,c3,m3',c3',rfl,by omega,by rw [ah _ hx',List.foldl_append,<- HQ.o]; rfl,by rw [HJ2.o]; exact (HQB.o.add QX.o).mono (by omega),
    K3.o.box3 _ _ _,(NumNew.box3 TA.o TB.o TC.o TD.o (g:=w.heap.size) (by omega) _ _ _).at_,TC.o.off (by omega),TD.o.off (by omega),Blk.box3far (RB.o.below' BZ) (by omega) _ _ _,af (BEL.o.trans (BZ.mono (by omega))) (nR _) _ _ _⟩

theorem uP (w:World) (v0:Value) (k:Nat) (q0:Rat) (lv:Value) (qs:List Rat)(h:NumAt w v0 q0)(hl:FracsAt k w lv qs)(h0:0 < k)(hb:QB k q0)(hk:(qs.length + 1) * (2 * k) <= 4398046511104) :
  Calls Tryz.prog 150 #[v0,.func (.func 175) #[] #[],lv] w fun e w'=>∃ v',e = .returned v'/\NumAt w' v' (qs.foldl (· * ·) q0)/\Below w.heap.size w w':=by
 obtain ⟨A,c,rfl,hlc,hcm,hat⟩:=hl.at_
 obtain ⟨A0,m,c0,A0',m',c0',rfl,hm,hm',hp,h1,h2⟩:=h.open_
 have HL:=aH hl
 have HAT:=aH hat
 have HN:=aH h
 have HB:=aH hb
 have OF1:=aH (h1.off (F:=w.heap.size + 1) (Nat.le_succ _))
 have OF2:=aH (h2.off (F:=w.heap.size + 1) (Nat.le_succ _))
 clear hl hat h hp h1 h2 hb
 obtain ⟨n,hn⟩:=nm (qs.length)
 have HLN:=aH hn
 rw [hn] at hlc hk ⊢
 clear hn
 generalize ae q0 = s at *
 go_enter Tryz.func150,Tryz.ntmps150
 go_wp2_with fail
 obtain ⟨W,hW,P0,P1,PB,Phs⟩:=cP w 190 [.bool s,.slice A0 m c0,.slice A0' m' c0'] 190 [.bool false,.slice none 0 0,.slice none 0 0]
 rw [<- hW]
 clear hW
 go_loopg [11] n (fun g i wr=>∃ (j:Nat) (q:Rat) (b:Bool) (A1 A1':Option Addr) (m1 c1 m1' c1':Nat),i = .int .i64 j/\j + g = n/\q = (qs.take j).foldl (· * ·) q0/\QB ((j + 1) * (2 * k)) q /\
  Blk wr w.heap.size 190 [.bool b,.slice A1 m1 c1,.slice A1' m1' c1']/\NumAt wr (.agg #[.bool b,.slice A1 m1 c1,.slice A1' m1' c1']) q/\Off (.slice A1 m1 c1) (w.heap.size + 1)/\Off (.slice A1' m1' c1') (w.heap.size + 1) /\
  Blk wr (w.heap.size + 1) 190 [.bool false,.slice none 0 0,.slice none 0 0]/\Below w.heap.size w wr)
 case atStart=>exact ⟨0,q0,s,A0,A0',m,c0,m',c0',rfl,by omega,rfl,HB.o.mono (by omega),P0.o,HN.o.below PB.o,OF1.o,OF2.o,P1.o,PB.o⟩
 obtain ⟨j,q,b,A1,A1',m1,c1,m1',c1',rfl,hj,hq,hqb,hbk,hna,ho1,ho2,hrb,hbel⟩:=hrel
 have HQ:=aH hq
 have HQB:=aH hqb
 have BK:=aH hbk
 have NA:=aH hna
 have O1:=aH ho1
 have O2:=aH ho2
 have RB:=aH hrb
 have BEL:=aH hbel
 have hsz:w.heap.size + 2 <= wr.heap.size:=by have:=hrb.lt; omega
 clear hq hqb hbk hna ho1 ho2 hrb hbel
 obtain ⟨p0,p1,p2,_,_,_⟩:=BK.o.three
 rcases zP gk with h | h
 ·obtain rfl:j = n:=by omega
  obtain ⟨r0,r1,r2,z0,z1,z2⟩:=RB.o.three
  go_wp2_with fail
  refine bodyPost_ret (v:=.agg #[.bool b,.slice A1 m1 c1,.slice A1' m1' c1']) (by simp [results,Tryz.results150,go_sem,r0,r1,r2]) rfl ⟨_,rfl,?_,af BEL.o (Nat.le_succ _) _ _ _⟩
  obtain ⟨vn,vd,e,t1,t2⟩:=NA.o
  rw [HQ.o,tL (by rw [HLN.o]; exact nR _)] at *
  injection e with e
  have e':[Value.bool b,.slice A1 m1 c1,.slice A1' m1' c1'] = [.bool _,vn,vd]:=congrArg Array.toList e
  simp only [List.cons.injEq,and_true] at e'
  obtain ⟨e0,rfl,rfl⟩:=e'
  exact ⟨_,_,by rw [e0],t1.box3off O1.o _ _ _,t2.box3off O2.o _ _ _⟩
 obtain ⟨g,rfl⟩:∃ g,gk = g + 1:=⟨gk - 1,by omega⟩
 obtain ⟨x,hx⟩:∃ x,qs[j]? = some x:=⟨_,eG (by rw [HLN.o]; omega)⟩
 obtain ⟨bb,off,neg,An,nn,cn,Ad,nd,cd,rfl,hbb,e0,e1,e2,hfr⟩:=HAT.o j x hx
 have d0:=(BEL.o.cell (p:=⟨bb,off + j * 3,none⟩) hbb).trans e0
 have d1:=(BEL.o.cell (p:=⟨bb,off + j * 3 + 1,none⟩) hbb).trans e1
 have d2:=(BEL.o.cell (p:=⟨bb,off + j * 3 + 2,none⟩) hbb).trans e2
 have FR:=aH (hfr.below BEL.o)
 have QX:=aH (hfr.qb h0)
 have HX:=aH hx
 have hjk:(j + 1) * (2 * k) <= (n + 1) * (2 * k):=Nat.mul_le_mul_right _ (by omega)
 have hjk2:(j + 1 + 1) * (2 * k) = (j + 1) * (2 * k) + 2 * k:=by rw [Nat.add_mul (j + 1) 1,Nat.one_mul]
 have HJ:Hd (k <= (j + 1) * (2 * k)/\(j + 1) * (2 * k) <= 4398046511104):=aH ⟨by have:1 * (2 * k) <= (j + 1) * (2 * k):=Nat.mul_le_mul_right _ (by omega); omega,by omega⟩
 have HK:=aH hk
 have HJ2:=aH hjk2
 clear hx e0 e1 e2 hfr hjk hjk2 hk
 go_wp2_with fail
 obtain ⟨W1,hW1⟩:∃ W1,W1 = wr.alloc (.cells #[.bool neg,.slice An nn cn,.slice Ad nd cd] 40):=⟨_,rfl⟩
 have X1:Hd (Blk W1 wr.heap.size 40 [.bool neg,.slice An nn cn,.slice Ad nd cd]):=aH (by rw [hW1]; exact Blk.new wr _ _)
 have Y1:Hd (Below wr.heap.size wr W1):=aH (by rw [hW1]; exact (Below.refl _ _).alloc (nR _) _)
 rw [<- hW1]
 clear hW1
 have K1:=aH (BK.o.below' Y1.o)
 obtain ⟨x0,x1,x2,_,_,_⟩:=X1.o.three
 obtain ⟨k0,k1,k2,_,_,_⟩:=K1.o.three
 have hs1:wr.heap.size + 1 <= W1.heap.size:=X1.o.lt
 clear d0 d1 d2 p0 p1 p2
 go_region_with (first
   | (go_at_call 146; refine (take _ _ x k ?_ h0 (by have:=HJ.o; omega)).mono ?_; (exact FR.o.below (Y1.o.trans (bS _))); rintro e w2 ⟨v2,rfl,t2,hb2'⟩; have hb2:=bO hb2'; have B2:=aH hb2; obtain ⟨k0',k1',k2',_,_,_⟩:=(K1.o.below' hb2).three; have T2:=aH t2; have NA2:=aH (NA.o.below (Y1.o.trans (hb2.mono (by omega)))); clear t2 hb2 hb2')
   | (go_at_call 175; refine (wT w2 _ _ q x ((j + 1) * (2 * k)) NA2.o T2.o.at_ HQB.o (QX.o.mono HJ.o.1) (by have:=HJ.o; omega)).mono ?_; rintro e w3 ⟨v3,rfl,t3,hb3⟩; have B3:=aH (B2.o.trans (hb3.mono B2.o.size)); have K3:=aH (K1.o.below' B3.o); have hs2:=B2.o.size; obtain ⟨A3,m3,c3,A3',m3',c3',rfl,t3a,t3b,t3c,t3d⟩:=t3.open_; obtain ⟨r0,r1,r2,z0,z1,z2⟩:=K3.o.three; have TA:=aH t3a; have TB:=aH t3b; have TC:=aH t3c; have TD:=aH t3d; clear t3 t3a t3b t3c t3d hb3))
 all_goals
  go_wp2_with fail
  go_roundg g
  case measure=>omega
  case rel =>
   have BZ:Below wr.heap.size wr w3:=Y1.o.trans (B3.o.mono (by omega))
   have hx':=HX.o
   exact ⟨j + 1,_,_,A3,A3',m3,c3,m3',c3',rfl,by omega,by rw [ah _ hx',List.foldl_append,<- HQ.o]; rfl,by rw [HJ2.o]; exact (HQB.o.mul QX.o).mono (by omega),
    K3.o.box3 _ _ _,(NumNew.box3 TA.o TB.o TC.o TD.o (g:=w.heap.size) (by omega) _ _ _).at_,TC.o.off (by omega),TD.o.off (by omega),Blk.box3far (RB.o.below' BZ) (by omega) _ _ _,af (BEL.o.trans (BZ.mono (by omega))) (nR _) _ _ _⟩
end Go.Proofs.YtjebfdfkjlkifaaGreat
