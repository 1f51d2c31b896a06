/- Lemmas. -/
import Derived.Test.YtjebfdfkjlkifaaGreatR15
set_option linter.all false
set_option maxRecDepth 1000000
set_option maxHeartbeats 32000000
namespace Go.Proofs.YtjebfdfkjlkifaaGreat
open Go.RowKit
theorem wm (w:World) (v v':Value) (q r:Rat) (k:Nat)(h:FracAt k w v q) (h':FracAt k w v' r)(h0:0 < k)(hk:k <= 549755813888) :
  Calls Tryz.prog 32 #[v,v'] w fun e w'=>∃ u,e = .returned u/\CanNew w.heap.size w' u (q - r)/\Below w.heap.size w w':=by
 have H1:=aH h
 have H2:=aH h'
 have Q1:=aH (h.qb h0)
 have Q2:=aH (h'.qb h0)
 obtain ⟨s,vn,vd,rfl⟩:=h.shape
 obtain ⟨t,vn',vd',rfl⟩:=h'.shape
 clear h h'
 rw [Rat.sub_eq_add_neg]
 go_enter Tryz.func32,Tryz.ntmps32
 go_wp2_with fail
 obtain ⟨W,hW,P0,P1,P2,PB,Phs⟩:=box3 w 40 [.bool s,vn,vd] 40 [.bool t,vn',vd'] 40 [.bool false,.slice none 0 0,.slice none 0 0]
 rw [<- hW]
 clear hW
 obtain ⟨p0,p1,p2,_,_,_⟩:=P0.o.three
 obtain ⟨q0,q1,q2,_,_,_⟩:=P1.o.three
 go_region_held3 (fun w'=>w'.cell? ⟨w.heap.size,0,none⟩ = some (.bool s)/\w'.cell? ⟨w.heap.size,1,none⟩ = some (vn)/\w'.cell? ⟨w.heap.size,2,none⟩ = some (vd)/\w'.cell? ⟨w.heap.size + 1,0,none⟩ = some (.bool t)/\w'.cell? ⟨w.heap.size + 1,1,none⟩ = some (vn')/\w'.cell? ⟨w.heap.size + 1,2,none⟩ = some (vd')) (first | assumption | (refine bF hS ?_ ?_ _ _ _ <;> omega) | go_keep)
  (first
   | (go_at_call 93; refine (xu _ _ r k (H2.o.below (PB.o.trans (bS _))) h0 (by omega)).mono ?_; rintro e w1 ⟨v1,rfl,t1,hb1⟩; have S1:Hd (Below W.heap.size W w1):=aH (by first | exact hb1 | exact bO hb1); have hs1:W.heap.size <= w1.heap.size:=S1.o.size; have T1:=aH t1; have hS:=six (P0.o.below' S1.o) (P1.o.below' S1.o); clear t1 hb1)
   | (go_at_call 34; refine (nO w1 _ _ q (-r) k ((H1.o.below PB.o).below S1.o) (T1.o.at_.frac Q2.o.neg (by omega)) h0 hk).mono ?_; rintro e w2 ⟨v2,rfl,t2,hb2⟩; have S2:Hd (Below w1.heap.size w1 w2):=aH hb2; have hs2:w1.heap.size <= w2.heap.size:=S2.o.size; have T2:=aH t2; have hS:=six (P0.o.below' (aa S1.o S2.o)) (P1.o.below' (aa S1.o S2.o)); obtain ⟨A,m,c,A',m',c',rfl,ta,tb,tc,td⟩:=t2.open_; obtain ⟨r0,r1,r2,z0,z1,z2⟩:=(P2.o.below' (aa S1.o S2.o)).three; have TA:=aH ta; have TB:=aH tb; have TC:=aH tc; have TD:=aH td; clear ta tb tc td; clear t2 hb2))
 go_wp2_with fail
 refine bodyPost_ret (v:=.agg #[.bool (ae (q + -r)),.slice A m c,.slice A' m' c']) (by simp [results,Tryz.results32,go_sem,r0,r1,r2]) rfl ⟨_,rfl,?_,af (PB.o.trans (((aa S1.o S2.o)).mono (by omega))) (by omega) _ _ _⟩
 exact (CanNew.box3 TA.o TB.o TC.o TD.o (by omega) _ _ _).mono (by omega)

theorem tF (w:World) (v v':Value) (q r:Rat) (k:Nat)(h:FracAt k w v q) (h':FracAt k w v' r)(h0:0 < k)(hk:k <= 549755813888)(hr:r ≠ 0) :
  Calls Tryz.prog 31 #[v,v'] w fun e w'=>∃ u,e = .returned u/\CanNew w.heap.size w' u (q / r)/\Below w.heap.size w w':=by
 have H1:=aH h
 have H2:=aH h'
 have Q1:=aH (h.qb h0)
 have Q2:=aH (h'.qb h0)
 obtain ⟨s,vn,vd,rfl⟩:=h.shape
 obtain ⟨t,vn',vd',rfl⟩:=h'.shape
 clear h h'
 have HR:=aH hr
 clear hr
 rw [Rat.div_def]
 go_enter Tryz.func31,Tryz.ntmps31
 go_wp2_with fail
 obtain ⟨W,hW,P0,P1,P2,PB,Phs⟩:=box3 w 40 [.bool s,vn,vd] 40 [.bool t,vn',vd'] 40 [.bool false,.slice none 0 0,.slice none 0 0]
 rw [<- hW]
 clear hW
 obtain ⟨p0,p1,p2,_,_,_⟩:=P0.o.three
 obtain ⟨q0,q1,q2,_,_,_⟩:=P1.o.three
 go_region_held3 (fun w'=>w'.cell? ⟨w.heap.size,0,none⟩ = some (.bool s)/\w'.cell? ⟨w.heap.size,1,none⟩ = some (vn)/\w'.cell? ⟨w.heap.size,2,none⟩ = some (vd)/\w'.cell? ⟨w.heap.size + 1,0,none⟩ = some (.bool t)/\w'.cell? ⟨w.heap.size + 1,1,none⟩ = some (vn')/\w'.cell? ⟨w.heap.size + 1,2,none⟩ = some (vd')) (first | assumption | (refine bF hS ?_ ?_ _ _ _ <;> omega) | go_keep)
  (first
   | (go_at_call 92; refine (sD _ _ r k (H2.o.below (PB.o.trans (bS _))) h0 (by omega) HR.o).mono ?_; rintro e w1 ⟨v1,rfl,t1,hb1⟩; have S1:Hd (Below W.heap.size W w1):=aH (by first | exact hb1 | exact bO hb1); have hs1:W.heap.size <= w1.heap.size:=S1.o.size; have T1:=aH t1; have hS:=six (P0.o.below' S1.o) (P1.o.below' S1.o); clear t1 hb1)
   | (go_at_call 91; refine (mV w1 _ _ q r⁻¹ k ((H1.o.below PB.o).below S1.o) (T1.o.at_.frac (Q2.o.inv h0) (by omega)) h0 hk).mono ?_; rintro e w2 ⟨v2,rfl,t2,hb2⟩; have S2:Hd (Below w1.heap.size w1 w2):=aH hb2; have hs2:w1.heap.size <= w2.heap.size:=S2.o.size; have T2:=aH t2; have hS:=six (P0.o.below' (aa S1.o S2.o)) (P1.o.below' (aa S1.o S2.o)); obtain ⟨A,m,c,A',m',c',rfl,ta,tb,tc,td⟩:=t2.open_; obtain ⟨r0,r1,r2,z0,z1,z2⟩:=(P2.o.below' (aa S1.o S2.o)).three; have TA:=aH ta; have TB:=aH tb; have TC:=aH tc; have TD:=aH td; clear ta tb tc td; clear t2 hb2))
 go_wp2_with fail
 refine bodyPost_ret (v:=.agg #[.bool (ae (q * r⁻¹)),.slice A m c,.slice A' m' c']) (by simp [results,Tryz.results31,go_sem,r0,r1,r2]) rfl ⟨_,rfl,?_,af (PB.o.trans (((aa S1.o S2.o)).mono (by omega))) (by omega) _ _ _⟩
 exact (CanNew.box3 TA.o TB.o TC.o TD.o (by omega) _ _ _).mono (by omega)

theorem vW (w:World) (v v':Value) (q r:Rat) (k:Nat)(h:FracAt k w v q) (h':FracAt k w v' r)(h0:0 < k)(hk:k <= 549755813888) :
  Calls Tryz.prog 30 #[v,v'] w fun e w'=>e = .returned (.int .i64 (aU (q - r)))/\Below w.heap.size w w':=by
 have H1:=aH h
 have H2:=aH h'
 have Q1:=aH (h.qb h0)
 have Q2:=aH (h'.qb h0)
 obtain ⟨s,vn,vd,rfl⟩:=h.shape
 obtain ⟨t,vn',vd',rfl⟩:=h'.shape
 clear h h'
 have QS:Hd (QB (k + k + 1) (q - r)):=aH (by rw [Rat.sub_eq_add_neg]; exact Q1.o.add Q2.o.neg)
 go_enter Tryz.func30,Tryz.ntmps30
 go_wp2_with fail
 obtain ⟨W,hW,P0,P1,PB,Phs⟩:=cP w 40 [.bool s,vn,vd] 40 [.bool t,vn',vd']
 rw [<- hW]
 clear hW
 obtain ⟨p0,p1,p2,_,_,_⟩:=P0.o.three
 obtain ⟨q0,q1,q2,_,_,_⟩:=P1.o.three
 go_wp2_with fail
 refine (wm W _ _ q r k (H1.o.below PB.o) (H2.o.below PB.o) h0 hk).mono ?_
 rintro e w1 ⟨v1,rfl,t1,hb1⟩
 have T1:=aH t1
 have S1:Hd (Below W.heap.size W w1):=aH hb1
 have hs1:W.heap.size <= w1.heap.size:=hb1.size
 clear t1 hb1
 go_wp2_with fail
 refine (ez w1 v1 (q - r) (k + k + 1) (T1.o.at_.frac QS.o (by omega)) (by omega)).mono ?_
 rintro e w2 ⟨rfl,hb2⟩
 have S2:Hd (Below w1.heap.size w1 w2):=aH hb2
 have hs2:w1.heap.size <= w2.heap.size:=hb2.size
 clear hb2
 go_wp2_with fail
 go_ret
 exact ⟨rfl,PB.o.trans (((aa S1.o S2.o)).mono (by omega))⟩

def dnQ (q:Rat):Nat:=if q.den = 1 then 0 else q.den
theorem vY (q r:Rat):q = r ↔ ae q = ae r/\q.num.natAbs = r.num.natAbs/\dnQ q = dnQ r:=by
 constructor
 ·intro h
  subst h
  exact ⟨rfl,rfl,rfl⟩
 rintro ⟨h1,h2,h3⟩
 apply Rat.ext
 ·rw [eS q,eS r,h1,h2]
 have a:=q.den_pos
 have b:=r.den_pos
 unfold dnQ at h3
 split at h3 <;> split at h3 <;> omega
theorem rK {w:World} {va vb:Value} {a b:Nat} (ha:NatAt w va a)(hb:NatAt w vb b)(h:a = b):Calls Tryz.prog 111 #[va,vb] w fun e w'=>e = .returned (.bool true)/\Below w.heap.size w w':=by
 refine (iV w va vb a b ha hb).mono ?_
 rw [dT h]
 exact fun _ _ ⟨h1,h2⟩=>⟨h2,h1⟩
theorem ve {w:World} {va vb:Value} {a b:Nat} (ha:NatAt w va a)(hb:NatAt w vb b)(h:a ≠ b):Calls Tryz.prog 111 #[va,vb] w fun e w'=>e = .returned (.bool false)/\Below w.heap.size w w':=by
 refine (iV w va vb a b ha hb).mono ?_
 rw [dF h]
 exact fun _ _ ⟨h1,h2⟩=>⟨h2,h1⟩

theorem gW (w:World) (v v':Value) (q r:Rat)(h:CanAt w v q) (h':CanAt w v' r) :
  Calls Tryz.prog 40 #[v,v'] w fun e w'=>e = .returned (.bool (decide (q = r)))/\Below w.heap.size w w':=by
 have HX:=aH (vY q r)
 obtain ⟨vn,vd,rfl,n1,n2⟩:=h
 obtain ⟨vn',vd',rfl,m1,m2⟩:=h'
 have N1:=aH n1
 have N2:=aH (show NatAt w vd (dnQ q) from n2)
 have M1:=aH m1
 have M2:=aH (show NatAt w vd' (dnQ r) from m2)
 clear n1 n2 m1 m2
 generalize ae q = s at *
 generalize ae r = t at *
 by_cases hst:s = t
 ·subst hst
  by_cases hn:q.num.natAbs = r.num.natAbs
  ·by_cases hd:dnQ q = dnQ r
   ·have HB:Hd (decide (q = r) = true):=aH (dT (HX.o.2 ⟨rfl,hn,hd⟩))
    have HN:=aH hn
    have HD:=aH hd
    clear hn hd
    go_enter Tryz.func40,Tryz.ntmps40
    go_wp2_with fail
    obtain ⟨W,hW,P0,P1,PB,Phs⟩:=cP w 40 [.bool s,vn,vd] 40 [.bool s,vn',vd']
    rw [<- hW]
    clear hW
    obtain ⟨p0,p1,p2,_,_,_⟩:=P0.o.three
    obtain ⟨q0,q1,q2,_,_,_⟩:=P1.o.three
    go_wp2_with fail
    refine (rK (N1.o.below PB.o) (M1.o.below PB.o) HN.o).mono ?_
    rintro e w1 ⟨rfl,hb1⟩
    have S1:Hd (Below W.heap.size W w1):=aH hb1
    have hs1:W.heap.size <= w1.heap.size:=hb1.size
    obtain ⟨p0',p1',p2',_,_,_⟩:=(P0.o.below' S1.o).three
    obtain ⟨q0',q1',q2',_,_,_⟩:=(P1.o.below' S1.o).three
    clear hb1
    go_wp2_with fail
    refine (rK ((N2.o.below PB.o).below S1.o) ((M2.o.below PB.o).below S1.o) HD.o).mono ?_
    rintro e w2 ⟨rfl,hb2⟩
    have S2:Hd (Below w1.heap.size w1 w2):=aH hb2
    have hs2:w1.heap.size <= w2.heap.size:=hb2.size
    clear hb2
    go_wp2_with fail
    go_ret
    exact ⟨ai HB.o.symm,PB.o.trans (((aa S1.o S2.o)).mono (by omega))⟩
   have HB:Hd (decide (q = r) = false):=aH (dF (fun e=>hd (HX.o.1 e).2.2))
   have HN:=aH hn
   have HD:=aH hd
   clear hn hd
   go_enter Tryz.func40,Tryz.ntmps40
   go_wp2_with fail
   obtain ⟨W,hW,P0,P1,PB,Phs⟩:=cP w 40 [.bool s,vn,vd] 40 [.bool s,vn',vd']
   rw [<- hW]
   clear hW
   obtain ⟨p0,p1,p2,_,_,_⟩:=P0.o.three
   obtain ⟨q0,q1,q2,_,_,_⟩:=P1.o.three
   go_wp2_with fail
   refine (rK (N1.o.below PB.o) (M1.o.below PB.o) HN.o).mono ?_
   rintro e w1 ⟨rfl,hb1⟩
   have S1:Hd (Below W.heap.size W w1):=aH hb1
   have hs1:W.heap.size <= w1.heap.size:=hb1.size
   obtain ⟨p0',p1',p2',_,_,_⟩:=(P0.o.below' S1.o).three
   obtain ⟨q0',q1',q2',_,_,_⟩:=(P1.o.below' S1.o).three
   clear hb1
   go_wp2_with fail
   refine (ve ((N2.o.below PB.o).below S1.o) ((M2.o.below PB.o).below S1.o) HD.o).mono ?_
   rintro e w2 ⟨rfl,hb2⟩
   have S2:Hd (Below w1.heap.size w1 w2):=aH hb2
   have hs2:w1.heap.size <= w2.heap.size:=hb2.size
   clear hb2
   go_wp2_with fail
   go_ret
   exact ⟨ai HB.o.symm,PB.o.trans (((aa S1.o S2.o)).mono (by omega))⟩
  have HB:Hd (decide (q = r) = false):=aH (dF (fun e=>hn (HX.o.1 e).2.1))
  have HN:=aH hn
  clear hn
  go_enter Tryz.func40,Tryz.ntmps40
  go_wp2_with fail
  obtain ⟨W,hW,P0,P1,PB,Phs⟩:=cP w 40 [.bool s,vn,vd] 40 [.bool s,vn',vd']
  rw [<- hW]
  clear hW
  obtain ⟨p0,p1,p2,_,_,_⟩:=P0.o.three
  obtain ⟨q0,q1,q2,_,_,_⟩:=P1.o.three
  go_wp2_with fail
  refine (ve (N1.o.below PB.o) (M1.o.below PB.o) HN.o).mono ?_
  rintro e w1 ⟨rfl,hb1⟩
  have S1:Hd (Below W.heap.size W w1):=aH hb1
  have hs1:W.heap.size <= w1.heap.size:=hb1.size
  obtain ⟨p0',p1',p2',_,_,_⟩:=(P0.o.below' S1.o).three
  obtain ⟨q0',q1',q2',_,_,_⟩:=(P1.o.below' S1.o).three
  clear hb1
  go_wp2_with fail
  go_ret
  exact ⟨ai HB.o.symm,PB.o.trans ((S1.o).mono (by omega))⟩
 have HB:Hd (decide (q = r) = false):=aH (dF (fun e=>hst (HX.o.1 e).1))
 have hst':(s == t) = false:=by cases s <;> cases t <;> simp_all
 clear hst
 go_enter Tryz.func40,Tryz.ntmps40
 go_wp2_with fail
 obtain ⟨W,hW,P0,P1,PB,Phs⟩:=cP w 40 [.bool s,vn,vd] 40 [.bool t,vn',vd']
 rw [<- hW]
 clear hW
 obtain ⟨p0,p1,p2,_,_,_⟩:=P0.o.three
 obtain ⟨q0,q1,q2,_,_,_⟩:=P1.o.three
 go_wp2_with fail
 go_ret
 exact ⟨ai HB.o.symm,PB.o⟩
theorem CanNew.zero_ (B:Nat) (w:World):CanNew B w (.agg #[.bool false,.slice none 0 0,.slice none 0 0]) 0 :=
 ⟨_,_,by simp [ae],NatAt.nil_ _,by simpa using NatAt.nil_ _,From.nil_ _,From.nil_ _⟩
theorem CanNew.parts {B:Nat} {w:World} {q:Rat} {b:Bool} {A A':Option Addr} {m c m' c':Nat} (h:CanNew B w (.agg #[.bool b,.slice A m c,.slice A' m' c']) q) :
  b = ae q/\NatAt w (.slice A m c) q.num.natAbs/\NatAt w (.slice A' m' c') (if q.den = 1 then 0 else q.den)/\From (.slice A m c) B/\From (.slice A' m' c') B:=by
 obtain ⟨vn,vd,e,h1,h2,h3,h4⟩:=h
 injection e with e
 have e':[Value.bool b,.slice A m c,.slice A' m' c'] = [.bool (ae q),vn,vd]:=congrArg Array.toList e
 simp only [List.cons.injEq,and_true,Value.bool.injEq] at e'
 obtain ⟨e0,rfl,rfl⟩:=e'
 exact ⟨e0,h1,h2,h3,h4⟩
theorem FracAt.mono {k k':Nat} {w:World} {v:Value} {q:Rat} (h:FracAt k w v q)(hk:k <= k'):FracAt k' w v q:=by
 obtain ⟨s,vn,vd,ln,ld,e,h1,h2,h3,h4,h5,h6,h7⟩:=h
 exact ⟨s,vn,vd,ln,ld,e,h1,h2,h3,Nat.lt_of_lt_of_le h4 (Nat.pow_le_pow_right (by omega) hk),Nat.lt_of_lt_of_le h5 (Nat.pow_le_pow_right (by omega) hk),h6,h7⟩
theorem CanNew.drew {B:Nat} {w:World} {v:Value} {q:Rat} (h:CanNew B w v q):CanNew B w.drew v q:=h

theorem xo (w:World) (k:Nat) (lv:Value) (qs:List Rat)(hl:FracsAt k w lv qs)(h0:0 < k)(hk:(qs.length + 1) * (2 * k) <= 549755813888) :
  Calls Tryz.prog 139 #[lv] w fun e w'=>∃ v',e = .returned v'/\CanNew w.heap.size w' v' (bX qs)/\Below w.heap.size w w':=by
 obtain ⟨A,c,rfl,hlc,hcm,hat⟩:=hl.at_
 have HAT:=aH hat
 clear hl hat
 obtain ⟨n,hn⟩:=nm (qs.length)
 have HLN:=aH hn
 rw [hn] at hlc hk ⊢
 clear hn
 have HZ:Hd (QB ((0 + 1) * (2 * k)) (0:Rat)):=aH (bv (n:=0) (Nat.pow_pos (by omega)) (by omega))
 go_enter Tryz.func139,Tryz.ntmps139
 go_wp2_with fail
 obtain ⟨W,hW,P0,P1,PB,Phs⟩:=cP w 40 [.bool false,.slice none 0 0,.slice none 0 0] 40 [.bool false,.slice none 0 0,.slice none 0 0]
 rw [<- hW]
 clear hW
 go_loopg [4] n (fun g i wr=>∃ (j:Nat) (q:Rat) (b:Bool) (A1 A1':Option Addr) (m1 c1 m1' c1':Nat),i = .int .i64 j/\j + g = n/\Hd (q = bX (qs.take j))/\Hd (QB ((j + 1) * (2 * k)) q) /\
  Hd (Blk wr w.heap.size 40 [.bool false,.slice none 0 0,.slice none 0 0])/\Hd (Blk wr (w.heap.size + 1) 40 [.bool b,.slice A1 m1 c1,.slice A1' m1' c1'])/\Hd (CanNew (w.heap.size + 2) wr (.agg #[.bool b,.slice A1 m1 c1,.slice A1' m1' c1']) q)/\Hd (Below w.heap.size w wr))
 case atStart=>exact ⟨0,0,false,none,none,0,0,0,0,rfl,by omega,aH rfl,HZ,P0,P1,aH (CanNew.zero_ _ _),PB⟩
 obtain ⟨j,q,b,A1,A1',m1,c1,m1',c1',rfl,hj,HQ,HQB,RB,BK,NA,BEL⟩:=hrel
 have hsz:w.heap.size + 2 <= wr.heap.size:=BK.o.lt
 obtain ⟨p0,p1,p2,_,_,_⟩:=BK.o.three
 rcases zP gk with h | h
 ·obtain rfl:j = n:=by omega
  obtain ⟨r0,r1,r2,z0,z1,z2⟩:=RB.o.three
  go_wp2_with fail
  refine bodyPost_ret (v:=.agg #[.bool b,.slice A1 m1 c1,.slice A1' m1' c1']) (by simp [results,Tryz.results139,go_sem,r0,r1,r2]) rfl ⟨_,rfl,?_,af BEL.o (nR _) _ _ _⟩
  obtain ⟨e0,t1,t2,t3,t4⟩:=NA.o.parts
  rw [e0]
  rw [HQ.o,tL (by rw [HLN.o]; exact nR _)] at t1 t2 ⊢
  exact (CanNew.box3 t1 t2 t3 t4 (by omega) _ _ _).mono (by omega)
 obtain ⟨g,rfl⟩:∃ g,gk = g + 1:=⟨gk - 1,by omega⟩
 obtain ⟨x,hx⟩:∃ x,qs[j]? = some x:=⟨_,eG (by rw [HLN.o]; omega)⟩
 obtain ⟨bb,off,neg,An,nn,cn,Ad,nd,cd,rfl,hbb,e0,e1,e2,hfr⟩:=HAT.o j x hx
 have d0:=(BEL.o.cell (p:=⟨bb,off + j * 3,none⟩) hbb).trans e0
 have d1:=(BEL.o.cell (p:=⟨bb,off + j * 3 + 1,none⟩) hbb).trans e1
 have d2:=(BEL.o.cell (p:=⟨bb,off + j * 3 + 2,none⟩) hbb).trans e2
 have FR:=aH (hfr.below BEL.o)
 have QX:=aH (hfr.qb h0)
 have HX:=aH hx
 have hjk:(j + 1) * (2 * k) <= (n + 1) * (2 * k):=Nat.mul_le_mul_right _ (by omega)
 have hjk2:(j + 1 + 1) * (2 * k) = (j + 1) * (2 * k) + 2 * k:=by rw [Nat.add_mul (j + 1) 1,Nat.one_mul]
 have HJ:Hd (k <= (j + 1) * (2 * k)/\(j + 1) * (2 * k) <= 549755813888/\0 < (j + 1) * (2 * k)):=aH (by have:1 * (2 * k) <= (j + 1) * (2 * k):=Nat.mul_le_mul_right _ (by omega); omega)
 have HJ2:=aH hjk2
 have FK:Hd (FracAt ((j + 1) * (2 * k)) wr (.agg #[.bool neg,.slice An nn cn,.slice Ad nd cd]) x):=aH (FR.o.mono HJ.o.1)
 clear hx e0 e1 e2 hfr hjk hjk2
 go_wp2_with fail
 go_region_with (first
   | (go_at_call 34; refine (nO _ _ _ q x ((j + 1) * (2 * k)) ?_ ?_ HJ.o.2.2 HJ.o.2.1).mono ?_; (exact (NA.o.at_.frac HQB.o (by have:=HJ.o; omega)).below (bS _)); (exact FK.o.below (bS _)); rintro e w3 ⟨v3,rfl,t3,hb3'⟩; have hb3:=bO hb3'; have B3:=aH hb3; have K3:=aH (BK.o.below' hb3); have hs3:=hb3.size; obtain ⟨A3,m3,c3,A3',m3',c3',rfl,t3a,t3b,t3c,t3d⟩:=t3.open_; obtain ⟨r0,r1,r2,z0,z1,z2⟩:=K3.o.three; have TA:=aH t3a; have TB:=aH t3b; have TC:=aH (t3c.mono (show w.heap.size + 2 <= _ from hsz)); have TD:=aH (t3d.mono (show w.heap.size + 2 <= _ from hsz)); clear t3 t3a t3b t3c t3d hb3 hb3'))
 all_goals
  go_wp2_with fail
  go_roundg g
  case measure=>omega
  case rel =>
   have hx':=HX.o
   exact ⟨j + 1,_,_,A3,A3',m3,c3,m3',c3',rfl,by omega,aH (by unfold bX; rw [ah _ hx',List.foldl_append,HQ.o]; rfl),aH (by rw [HJ2.o]; exact (HQB.o.add QX.o).mono (by omega)),
    aH (Blk.box3far (RB.o.below' B3.o) (by omega) _ _ _),aH (K3.o.box3 _ _ _),aH (CanNew.box3 TA.o TB.o TC.o TD.o (by omega) _ _ _),aH (af (BEL.o.trans (B3.o.mono (by omega))) (Nat.le_succ _) _ _ _)⟩
theorem ku (w:World) (k:Nat) (lv:Value) (qs:List Rat)(hl:FracsAt k w lv qs)(h0:0 < k)(hk:(qs.length + 1) * (2 * k) <= 549755813888) :
  Calls Tryz.prog 87 #[lv] w fun e w'=>e = .returned (.bool (iq qs))/\Below w.heap.size w w':=by
 obtain ⟨A,c,rfl,hlc,hcm,hat⟩:=hl.at_
 have hkl:1 * (2 * k) <= (qs.length + 1) * (2 * k):=Nat.mul_le_mul_right _ (by omega)
 have HL:=aH hl
 have HAT:=aH hat
 have SQ:Hd (QB ((qs.length + 1) * (2 * k)) (bX qs)):=aH ((oy qs (hl.qb h0) k 0 (bv (n:=0) (Nat.pow_pos (by omega)) h0)).mono (by
   have:qs.length * (k + 1) <= qs.length * (2 * k):=Nat.mul_le_mul_left _ (by omega)
   rw [Nat.add_mul]; omega))
 have Q1:Hd (QB ((qs.length + 1) * (2 * k)) ((1:Nat):Rat)):=aH (bv (Nat.one_lt_two_pow (by omega)) (by omega))
 clear hl hat
 obtain ⟨n,hn⟩:=nm (qs.length)
 have HLN:=aH hn
 rw [hn] at hlc hk hkl HL SQ Q1 ⊢
 clear hn
 have HK:=aH hk
 have HKL:=aH hkl
 clear hk hkl
 unfold iq
 go_enter Tryz.func87,Tryz.ntmps87
 go_wp2_with fail
 go_loopg [3] n (fun g i wr=>∃ (j:Nat),i = .int .i64 j/\j + g = n/\Hd (aW qs 0 = aW (qs.drop j) j)/\Hd (Below w.heap.size w wr))
 case atStart=>exact ⟨0,rfl,by omega,aH rfl,aH (Below.refl _ _)⟩
 obtain ⟨j,rfl,hj,HQ,BEL⟩:=hrel
 have hsz:w.heap.size <= wr.heap.size:=BEL.o.size
 rcases zP gk with h | h
 ·obtain rfl:j = n:=by omega
  have HF:Hd (decide (0 <= aW qs 0) = false):=aH (by
   rw [HQ.o,dN (by rw [HLN.o]; exact nR _)]
   rfl)
  go_wp2_with fail
  refine (xo wr k _ qs (HL.o.below BEL.o) h0 (by rw [HLN.o]; exact HK.o)).mono ?_
  rintro e w2 ⟨v2,rfl,t2,hb2⟩
  have B2:=aH (BEL.o.trans (hb2.mono hsz))
  have T2:=aH t2
  have hs2:wr.heap.size <= w2.heap.size:=hb2.size
  clear t2 hb2
  go_wp2_with fail
  refine (ofR w2 1 (by omega)).mono ?_
  rintro e w3 ⟨v3,rfl,t3,hb3⟩
  have B3:=aH (B2.o.trans (hb3.mono (by omega)))
  have F2:=aH ((T2.o.below hb3).at_.frac SQ.o (by have:=HK.o; omega))
  have F3:=aH (t3.at_.frac Q1.o (by have:=HK.o; omega))
  have hs3:w2.heap.size <= w3.heap.size:=hb3.size
  clear t3 hb3
  go_wp2_with fail
  refine (vW w3 v2 v3 (bX qs) (1:Nat) _ F2.o F3.o (by have:=HKL.o; omega) HK.o).mono ?_
  rintro e w4 ⟨rfl,hb4⟩
  have B4:=aH (B3.o.trans (hb4.mono (by omega)))
  clear hb4
  go_wp2_with fail
  go_ret
  refine ⟨?_,B4.o⟩
  rw [HF.o]
  rfl
 obtain ⟨g,rfl⟩:∃ g,gk = g + 1:=⟨gk - 1,by omega⟩
 obtain ⟨x,hx⟩:∃ x,qs[j]? = some x:=⟨_,eG (by rw [HLN.o]; omega)⟩
 obtain ⟨bb,off,neg,An,nn,cn,Ad,nd,cd,rfl,hbb,e0,e1,e2,hfr⟩:=HAT.o j x hx
 have d0:=(BEL.o.cell (p:=⟨bb,off + j * 3,none⟩) hbb).trans e0
 have d1:=(BEL.o.cell (p:=⟨bb,off + j * 3 + 1,none⟩) hbb).trans e1
 have d2:=(BEL.o.cell (p:=⟨bb,off + j * 3 + 2,none⟩) hbb).trans e2
 have FR:=aH (hfr.below BEL.o)
 have DR:=aH (gG hx)
 clear hx e0 e1 e2 hfr
 have SC:=ez wr _ x k FR.o h0
 by_cases hd:aU x < 0
 ·have HN:Hd (decide (0 <= aW qs 0) = true):=aH (dT (by rw [HQ.o,DR.o,if_pos hd]; omega))
  obtain ⟨z,hz,hz0⟩:∃ z,aU x = z/\decide (z < 0) = true:=⟨_,rfl,dT hd⟩
  rw [hz] at SC
  clear hz hd
  go_wp2_with fail
  refine SC.mono ?_
  rintro e w1 ⟨rfl,hb1⟩
  have B1:=aH hb1
  clear hb1
  go_wp2_with fail
  go_ret
  refine ⟨ai ?_,BEL.o.trans (B1.o.mono hsz)⟩
  rw [HN.o]
  rfl
 have HN:Hd (aW qs 0 = aW (qs.drop (j + 1)) (j + 1)):=aH (by rw [HQ.o,DR.o,if_neg hd])
 obtain ⟨z,hz,hz0⟩:∃ z,aU x = z/\decide (z < 0) = false:=⟨_,rfl,dF hd⟩
 rw [hz] at SC
 clear hz hd
 go_wp2_with fail
 refine SC.mono ?_
 rintro e w1 ⟨rfl,hb1⟩
 have B1:=aH hb1
 clear hb1
 go_wp2_with fail
 go_roundg g
 case measure=>omega
 case rel=>exact ⟨j + 1,rfl,by omega,HN,aH (BEL.o.trans (B1.o.mono hsz))⟩
def CansAt (w:World) (v:Value) (qs:List Rat):Prop:=∃ cells,Sl w 3 v qs.length cells /\
 ∀ i x,qs[i]? = some x->∃ a b c,cells[i * 3]? = some a/\cells[i * 3 + 1]? = some b/\cells[i * 3 + 2]? = some c/\CanAt w (.agg #[a,b,c]) x
theorem CansAt.below {w w':World} {v:Value} {qs:List Rat} (h:CansAt w v qs)(hb:Below w.heap.size w w'):CansAt w' v qs:=by
 obtain ⟨cs,h1,h2⟩:=h
 refine ⟨cs,h1.below hb,fun i x hx=>?_⟩
 obtain ⟨a,b,c,ha,hb',hc,hf⟩:=h2 i x hx
 exact ⟨a,b,c,ha,hb',hc,hf.below hb⟩
theorem CansAt.fracs {k:Nat} {w:World} {v:Value} {qs:List Rat} (h:CansAt w v qs)(hb:∀ q ∈ qs,QB k q)(hk:k <= 17592186044416):FracsAt k w v qs:=by
 obtain ⟨cs,h1,h2⟩:=h
 refine ⟨cs,h1,fun i x hx=>?_⟩
 obtain ⟨a,b,c,ha,hb',hc,hf⟩:=h2 i x hx
 exact ⟨a,b,c,ha,hb',hc,hf.frac (hb x (mG hx)) hk⟩
theorem CansAt.at_ {w:World} {v:Value} {qs:List Rat} (h:CansAt w v qs):∃ A c,v = .slice A qs.length c/\qs.length <= c/\c <= 9223372036854775807 /\
  ∀ j x,qs[j]? = some x->∃ b off u0 u1 u2,A = some ⟨b,off,none⟩/\b < w.heap.size/\w.cell? ⟨b,off + j * 3,none⟩ = some u0/\w.cell? ⟨b,off + j * 3 + 1,none⟩ = some u1 /\
   w.cell? ⟨b,off + j * 3 + 2,none⟩ = some u2/\CanAt w (.agg #[u0,u1,u2]) x:=by
 obtain ⟨cells,h1,h2⟩:=h
 obtain ⟨h0,A,c,rfl,hc,hm,h5⟩:=h1
 refine ⟨A,c,rfl,hc,by unfold maxLen at hm; omega,fun j x hx=>?_⟩
 have hj:=(sI.1 hx).1
 obtain ⟨b,off,e,hlt,hcell⟩:=h5 (by omega)
 obtain ⟨u0,u1,u2,e0,e1,e2,hf⟩:=h2 j x hx
 exact ⟨b,off,u0,u1,u2,e,hlt,hcell _ _ e0,by have:=hcell _ _ e1; rwa [<- Nat.add_assoc] at this,by have:=hcell _ _ e2; rwa [<- Nat.add_assoc] at this,hf⟩
end Go.Proofs.YtjebfdfkjlkifaaGreat
