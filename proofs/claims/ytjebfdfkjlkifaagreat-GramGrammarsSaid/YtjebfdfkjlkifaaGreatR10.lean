/- Lemmas. -/
import Derived.Test.YtjebfdfkjlkifaaGreatR09
set_option linter.all false
set_option maxRecDepth 1000000
set_option maxHeartbeats 32000000
namespace Go.Proofs.YtjebfdfkjlkifaaGreat
open Go.RowKit
def bX (qs:List Rat):Rat:=qs.foldl (· + ·) 0
def kI (qs:List Rat):Rat:=qs.foldl (· * ·) 1

theorem oy {k:Nat} (qs:List Rat)(h:∀ q ∈ qs,QB k q) (k0:Nat) (q0:Rat)(hq:QB k0 q0):QB (k0 + qs.length * (k + 1)) (qs.foldl (· + ·) q0):=by
 induction qs generalizing k0 q0 with
 | nil=>simpa using hq
 | cons q qs ih =>
  have:=ih (fun x hx=>h x (by simp [hx])) (k0 + k + 1) (q0 + q) (hq.add (h q (by simp)))
  refine this.mono ?_
  rw [List.length_cons,Nat.add_mul,Nat.one_mul]
  omega
theorem uA {k:Nat} (qs:List Rat)(h:∀ q ∈ qs,QB k q) (k0:Nat) (q0:Rat)(hq:QB k0 q0):QB (k0 + qs.length * (k + 1)) (qs.foldl (· * ·) q0):=by
 induction qs generalizing k0 q0 with
 | nil=>simpa using hq
 | cons q qs ih =>
  have:=ih (fun x hx=>h x (by simp [hx])) (k0 + k) (q0 * q) (hq.mul (h q (by simp)))
  refine this.mono ?_
  rw [List.length_cons,Nat.add_mul,Nat.one_mul]
  omega
theorem FracsAt.qb {k:Nat} {w:World} {v:Value} {qs:List Rat} (h:FracsAt k w v qs)(h0:0 < k):∀ q ∈ qs,QB k q:=by
 intro q hq
 obtain ⟨cs,_,h2⟩:=h
 obtain ⟨i,hi,rfl⟩:=List.getElem_of_mem hq
 obtain ⟨_,_,_,_,_,_,h3⟩:=h2 i _ (eG hi)
 exact h3.qb h0

theorem wk (w:World) (k:Nat) (lv:Value) (qs:List Rat)(hl:FracsAt k w lv qs)(h0:0 < k)(hk:(qs.length + 1) * (2 * k) <= 4398046511104) :
  Calls Tryz.prog 109 #[lv] w fun e w'=>∃ v',e = .returned v'/\CanNew w.heap.size w' v' (bX qs)/\Below w.heap.size w w':=by
 have HL:=aH hl
 have QS:Hd (QB (k + qs.length * (k + 1)) (bX qs)):=aH (oy qs (hl.qb h0) k 0 (bv (n:=0) (Nat.pow_pos (by omega)) h0))
 have Q0:Hd (QB k ((0:Nat):Rat)):=aH (bv (n:=0) (Nat.pow_pos (by omega)) h0)
 have HK:Hd (k + qs.length * (k + 1) <= 17592186044416):=aH (by
  have h1:qs.length * (k + 1) <= qs.length * (2 * k):=Nat.mul_le_mul_left _ (by omega)
  rw [Nat.add_mul,Nat.one_mul] at hk
  omega)
 have HK0:=aH hk
 have HZ:Hd (((0:Nat):Rat) = 0):=aH rfl
 clear hl hk
 go_enter Tryz.func109,Tryz.ntmps109
 go_wp2_with fail
 obtain ⟨W,hW,P0,PB,Phs⟩:=aA w 40 [.bool false,.slice none 0 0,.slice none 0 0]
 rw [<- hW]
 clear hW
 refine (nV W 0 (by omega)).mono ?_
 rintro e w1 ⟨v1,rfl,t1,hb1⟩
 have T1:=aH t1
 have B1:=aH hb1
 have L1:=aH ((HL.o.below PB.o).below hb1)
 clear t1 hb1
 go_wp2_with fail
 refine (uQ w1 _ k ((0:Nat):Rat) _ qs T1.o.at_ L1.o h0 Q0.o HK0.o).mono ?_
 rintro e w2 ⟨v2,rfl,t2,hb2⟩
 have T2:=aH t2
 have B2:=aH (B1.o.trans (hb2.mono B1.o.size))
 clear t2 hb2
 go_wp2_with fail
 refine (give w2 _ (bX qs) _ (by have:=T2.o; rwa [HZ.o] at this) QS.o HK.o).mono ?_
 rintro e wz ⟨vz,rfl,tz,hz⟩
 have BZ:=aH (B2.o.trans (hz.mono B2.o.size))
 have hsz:W.heap.size <= w2.heap.size:=B2.o.size
 obtain ⟨A,m,c,A',m',c',rfl,ta,tb,tc,td⟩:=tz.open_
 obtain ⟨r0,r1,r2,z0,z1,z2⟩:=(P0.o.below' BZ.o).three
 have TA:=aH ta
 have TB:=aH tb
 have TC:=aH tc
 have TD:=aH td
 clear tz hz ta tb tc td
 go_wp2_with fail
 refine bodyPost_ret (v:=.agg #[.bool (ae (bX qs)),.slice A m c,.slice A' m' c']) (by simp [results,Tryz.results109,go_sem,r0,r1,r2]) rfl ⟨_,rfl,?_,af (PB.o.trans (BZ.o.mono (by omega))) (by omega) _ _ _⟩
 exact (CanNew.box3 TA.o TB.o TC.o TD.o (by omega) _ _ _).mono (by omega)

theorem wM (w:World) (k:Nat) (lv:Value) (qs:List Rat)(hl:FracsAt k w lv qs)(h0:0 < k)(hk:(qs.length + 1) * (2 * k) <= 4398046511104) :
  Calls Tryz.prog 153 #[lv] w fun e w'=>∃ v',e = .returned v'/\CanNew w.heap.size w' v' (kI qs)/\Below w.heap.size w w':=by
 have HL:=aH hl
 have QS:Hd (QB (k + qs.length * (k + 1)) (kI qs)):=aH (uA qs (hl.qb h0) k 1 (bv (n:=1) (Nat.one_lt_two_pow (by omega)) h0))
 have Q0:Hd (QB k ((1:Nat):Rat)):=aH (bv (n:=1) (Nat.one_lt_two_pow (by omega)) h0)
 have HK:Hd (k + qs.length * (k + 1) <= 17592186044416):=aH (by
  have h1:qs.length * (k + 1) <= qs.length * (2 * k):=Nat.mul_le_mul_left _ (by omega)
  rw [Nat.add_mul,Nat.one_mul] at hk
  omega)
 have HK0:=aH hk
 have HZ:Hd (((1:Nat):Rat) = 1):=aH rfl
 clear hl hk
 go_enter Tryz.func153,Tryz.ntmps153
 go_wp2_with fail
 obtain ⟨W,hW,P0,PB,Phs⟩:=aA w 40 [.bool false,.slice none 0 0,.slice none 0 0]
 rw [<- hW]
 clear hW
 refine (nV W 1 (by omega)).mono ?_
 rintro e w1 ⟨v1,rfl,t1,hb1⟩
 have T1:=aH t1
 have B1:=aH hb1
 have L1:=aH ((HL.o.below PB.o).below hb1)
 clear t1 hb1
 go_wp2_with fail
 refine (uP w1 _ k ((1:Nat):Rat) _ qs T1.o.at_ L1.o h0 Q0.o HK0.o).mono ?_
 rintro e w2 ⟨v2,rfl,t2,hb2⟩
 have T2:=aH t2
 have B2:=aH (B1.o.trans (hb2.mono B1.o.size))
 clear t2 hb2
 go_wp2_with fail
 refine (give w2 _ (kI qs) _ (by have:=T2.o; rwa [HZ.o] at this) QS.o HK.o).mono ?_
 rintro e wz ⟨vz,rfl,tz,hz⟩
 have BZ:=aH (B2.o.trans (hz.mono B2.o.size))
 have hsz:W.heap.size <= w2.heap.size:=B2.o.size
 obtain ⟨A,m,c,A',m',c',rfl,ta,tb,tc,td⟩:=tz.open_
 obtain ⟨r0,r1,r2,z0,z1,z2⟩:=(P0.o.below' BZ.o).three
 have TA:=aH ta
 have TB:=aH tb
 have TC:=aH tc
 have TD:=aH td
 clear tz hz ta tb tc td
 go_wp2_with fail
 refine bodyPost_ret (v:=.agg #[.bool (ae (kI qs)),.slice A m c,.slice A' m' c']) (by simp [results,Tryz.results153,go_sem,r0,r1,r2]) rfl ⟨_,rfl,?_,af (PB.o.trans (BZ.o.mono (by omega))) (by omega) _ _ _⟩
 exact (CanNew.box3 TA.o TB.o TC.o TD.o (by omega) _ _ _).mono (by omega)

theorem vX (w:World) (v v':Value) (q r:Rat) (k:Nat)(h:FracAt k w v q) (h':FracAt k w v' r)(h0:0 < k)(hk:k <= 4398046511104) :
  Calls Tryz.prog 108 #[v,v'] w fun e w'=>e = .returned (.int .i64 (aU (q - r)))/\Below w.heap.size w w':=by
 have H1:=aH h
 have H2:=aH h'
 have Q1:=aH (h.qb h0)
 have Q2:=aH (h'.qb h0)
 obtain ⟨s,vn,vd,rfl⟩:=h.shape
 obtain ⟨t,vn',vd',rfl⟩:=h'.shape
 clear h h'
 go_enter Tryz.func108,Tryz.ntmps108
 go_wp2_with fail
 obtain ⟨W,hW,P0,P1,PB,Phs⟩:=cP w 40 [.bool s,vn,vd] 40 [.bool t,vn',vd']
 rw [<- hW]
 clear hW
 obtain ⟨p0,p1,p2,_,_,_⟩:=P0.o.three
 obtain ⟨q0,q1,q2,_,_,_⟩:=P1.o.three
 go_region_held3 (fun w'=>w'.cell? ⟨w.heap.size,0,none⟩ = some (.bool s)/\w'.cell? ⟨w.heap.size,1,none⟩ = some vn/\w'.cell? ⟨w.heap.size,2,none⟩ = some vd/\w'.cell? ⟨w.heap.size + 1,0,none⟩ = some (.bool t)/\w'.cell? ⟨w.heap.size + 1,1,none⟩ = some vn'/\w'.cell? ⟨w.heap.size + 1,2,none⟩ = some vd') (first | assumption | (refine bF hS ?_ ?_ _ _ _ <;> omega) | go_keep)
  (first
   | (go_at_call_of 146 (Value.bool s); refine (take _ _ q k ?_ h0 (by omega)).mono ?_; (exact H1.o.below (PB.o.trans (bS _))); rintro e w1 ⟨v1,rfl,t1,hb1'⟩; have hb1:=bO hb1'; have B1:=aH hb1; have hS:=six (P0.o.below' hb1) (P1.o.below' hb1); have T1:=aH t1; have H2':=aH ((H2.o.below PB.o).below hb1); clear t1 hb1 hb1')
   | (go_at_call_of 146 (Value.bool t); refine (take w1 _ r k H2'.o h0 (by omega)).mono ?_; rintro e w2 ⟨v2,rfl,t2,hb2⟩; have B2:=aH (B1.o.trans (hb2.mono B1.o.size)); have hS:=six (P0.o.below' B2.o) (P1.o.below' B2.o); have T2:=aH t2; have T1':=aH (T1.o.below hb2); clear t2 hb2)
   | (go_at_call 149; refine (sh w2 _ r T2.o.at_).mono ?_; rintro e w3 ⟨v3,rfl,t3,hb3⟩; have B3:=aH (B2.o.trans (hb3.mono B2.o.size)); have hS:=six (P0.o.below' B3.o) (P1.o.below' B3.o); have T3:=aH t3; have T1'':=aH (T1'.o.below hb3); clear t3 hb3)
   | (go_at_call 148; refine (we w3 _ _ q (-r) k T1''.o.at_ T3.o Q1.o Q2.o.neg (by omega)).mono ?_; rintro e w4 ⟨v4,rfl,t4,hb4⟩; have B4:=aH (B3.o.trans (hb4.mono B3.o.size)); have hS:=six (P0.o.below' B4.o) (P1.o.below' B4.o); have T4:=aH t4; clear t4 hb4)
   | (go_at_call 147; refine (u9 w4 _ _ T4.o.at_).mono ?_; rintro e w5 ⟨rfl,hb5⟩; have B5:=aH (B4.o.trans (hb5.mono B4.o.size)); have hS:=six (P0.o.below' B5.o) (P1.o.below' B5.o); clear hb5))
 go_wp2_with fail
 go_ret
 exact ⟨ag (by rw [Rat.sub_eq_add_neg]),PB.o.trans (B5.o.mono (by omega))⟩

theorem wq (w:World) (v v':Value) (q r:Rat) (k:Nat)(h:FracAt k w v q) (h':FracAt k w v' r)(h0:0 < k)(hk:k <= 549755813888) :
  Calls Tryz.prog 224 #[v,v'] w fun e w'=>∃ u,e = .returned u/\CanNew w.heap.size w' u (q - r)/\Below w.heap.size w w':=by
 have H1:=aH h
 have H2:=aH h'
 have Q1:=aH (h.qb h0)
 have Q2:=aH (h'.qb h0)
 obtain ⟨s,vn,vd,rfl⟩:=h.shape
 obtain ⟨t,vn',vd',rfl⟩:=h'.shape
 clear h h'
 rw [Rat.sub_eq_add_neg]
 go_enter Tryz.func224,Tryz.ntmps224
 go_wp2_with fail
 obtain ⟨W,hW,P0,P1,P2,PB,Phs⟩:=box3 w 40 [.bool s,vn,vd] 40 [.bool t,vn',vd'] 40 [.bool false,.slice none 0 0,.slice none 0 0]
 rw [<- hW]
 clear hW
 obtain ⟨p0,p1,p2,_,_,_⟩:=P0.o.three
 obtain ⟨q0,q1,q2,_,_,_⟩:=P1.o.three
 go_region_held3 (fun w'=>w'.cell? ⟨w.heap.size,0,none⟩ = some (.bool s)/\w'.cell? ⟨w.heap.size,1,none⟩ = some vn/\w'.cell? ⟨w.heap.size,2,none⟩ = some vd/\w'.cell? ⟨w.heap.size + 1,0,none⟩ = some (.bool t)/\w'.cell? ⟨w.heap.size + 1,1,none⟩ = some vn'/\w'.cell? ⟨w.heap.size + 1,2,none⟩ = some vd') (first | assumption | (refine bF hS ?_ ?_ _ _ _ <;> omega) | go_keep)
  (first
   | (go_at_call_of 146 (Value.bool s); refine (take _ _ q k ?_ h0 (by omega)).mono ?_; (exact H1.o.below (PB.o.trans (bS _))); rintro e w1 ⟨v1,rfl,t1,hb1'⟩; have hb1:=bO hb1'; have B1:=aH hb1; have hS:=six (P0.o.below' hb1) (P1.o.below' hb1); have T1:=aH t1; have H2':=aH ((H2.o.below PB.o).below hb1); clear t1 hb1 hb1')
   | (go_at_call_of 146 (Value.bool t); refine (take w1 _ r k H2'.o h0 (by omega)).mono ?_; rintro e w2 ⟨v2,rfl,t2,hb2⟩; have B2:=aH (B1.o.trans (hb2.mono B1.o.size)); have hS:=six (P0.o.below' B2.o) (P1.o.below' B2.o); have T2:=aH t2; have T1':=aH (T1.o.below hb2); clear t2 hb2)
   | (go_at_call 149; refine (sh w2 _ r T2.o.at_).mono ?_; rintro e w3 ⟨v3,rfl,t3,hb3⟩; have B3:=aH (B2.o.trans (hb3.mono B2.o.size)); have hS:=six (P0.o.below' B3.o) (P1.o.below' B3.o); have T3:=aH t3; have T1'':=aH (T1'.o.below hb3); clear t3 hb3)
   | (go_at_call 148; refine (we w3 _ _ q (-r) k T1''.o.at_ T3.o Q1.o Q2.o.neg (by omega)).mono ?_; rintro e w4 ⟨v4,rfl,t4,hb4⟩; have B4:=aH (B3.o.trans (hb4.mono B3.o.size)); have hS:=six (P0.o.below' B4.o) (P1.o.below' B4.o); have T4:=aH t4; clear t4 hb4)
   | (go_at_call 152; refine (give w4 _ (q + -r) (k + k + 1) T4.o.at_ (Q1.o.add Q2.o.neg) (by omega)).mono ?_; rintro e w5 ⟨v5,rfl,t5,hb5⟩; have B5:=aH (B4.o.trans (hb5.mono B4.o.size)); have hS:=six (P0.o.below' B5.o) (P1.o.below' B5.o); obtain ⟨A,m,c,A',m',c',rfl,ta,tb,tc,td⟩:=t5.open_; obtain ⟨r0,r1,r2,z0,z1,z2⟩:=(P2.o.below' B5.o).three; have TA:=aH ta; have TB:=aH tb; have TC:=aH tc; have TD:=aH td; clear t5 hb5 ta tb tc td))
 go_wp2_with fail
 refine bodyPost_ret (v:=.agg #[.bool (ae (q + -r)),.slice A m c,.slice A' m' c']) (by simp [results,Tryz.results224,go_sem,r0,r1,r2]) rfl ⟨_,rfl,?_,af (PB.o.trans (B5.o.mono (by omega))) (by omega) _ _ _⟩
 have hb4:=B4.o.size
 exact (CanNew.box3 TA.o TB.o TC.o TD.o (by omega) _ _ _).mono (by omega)

theorem Blk.fracs2 {k:Nat} {w:World} {g:Nat} {e:TypeId} {a b c a' b' c':Value} {q r:Rat} (h:Blk w g e [a,b,c,a',b',c'])(h1:FracAt k w (.agg #[a,b,c]) q)(h2:FracAt k w (.agg #[a',b',c']) r) :
  FracsAt k w (.slice (some ⟨g,0,none⟩) 2 2) [q,r]:=by
 refine ⟨[a,b,c,a',b',c'],h.sl (sz:=3) (n:=2) (c:=2) (by simp) (by omega) (by unfold maxLen; omega),fun i x hx=>?_⟩
 match i,hx with
 | 0,hx=>simp at hx; subst hx; exact ⟨a,b,c,rfl,rfl,rfl,h1⟩
 | 1,hx=>simp at hx; subst hx; exact ⟨a',b',c',rfl,rfl,rfl,h2⟩

theorem l8 (w:World) (v v':Value) (q r:Rat) (k:Nat)(h:FracAt k w v q) (h':FracAt k w v' r)(h0:0 < k)(hk:k <= 549755813888) :
  Calls Tryz.prog 120 #[v,v'] w fun e w'=>∃ u,e = .returned u/\CanNew w.heap.size w' u (q + r)/\Below w.heap.size w w':=by
 have H1:=aH h
 have H2:=aH h'
 have HE:Hd (bX [q,r] = q + r):=aH (by simp [bX,Rat.zero_add])
 obtain ⟨s,vn,vd,rfl⟩:=h.shape
 obtain ⟨t,vn',vd',rfl⟩:=h'.shape
 clear h h'
 go_enter Tryz.func120,Tryz.ntmps120
 go_wp2_with fail
 obtain ⟨W,hW,P0,P1,P2,P3,PB,Phs⟩:=tU w 40 [.bool s,vn,vd] 40 [.bool t,vn',vd'] 40 [.bool false,.slice none 0 0,.slice none 0 0] 40 [.bool s,vn,vd,.bool t,vn',vd']
 rw [<- hW]
 clear hW
 refine (wk W k _ [q,r] (P3.o.fracs2 (H1.o.below PB.o) (H2.o.below PB.o)) h0 (by simp; omega)).mono ?_
 rw [HE.o]
 rintro e wz ⟨vz,rfl,tz,hz⟩
 have BZ:=aH ((Below.refl W.heap.size W).trans (hz.mono (nR W.heap.size)))
 have hsz:W.heap.size <= W.heap.size:=(nR W.heap.size)
 obtain ⟨A,m,c,A',m',c',rfl,ta,tb,tc,td⟩:=tz.open_
 obtain ⟨r0,r1,r2,z0,z1,z2⟩:=(P2.o.below' BZ.o).three
 have TA:=aH ta
 have TB:=aH tb
 have TC:=aH tc
 have TD:=aH td
 clear tz hz ta tb tc td
 go_wp2_with fail
 refine bodyPost_ret (v:=.agg #[.bool (ae (q + r)),.slice A m c,.slice A' m' c']) (by simp [results,Tryz.results120,go_sem,r0,r1,r2]) rfl ⟨_,rfl,?_,af (PB.o.trans (BZ.o.mono (by omega))) (by omega) _ _ _⟩
 exact (CanNew.box3 TA.o TB.o TC.o TD.o (by omega) _ _ _).mono (by omega)

theorem lP (w:World) (v v':Value) (q r:Rat) (k:Nat)(h:FracAt k w v q) (h':FracAt k w v' r)(h0:0 < k)(hk:k <= 549755813888) :
  Calls Tryz.prog 121 #[v,v'] w fun e w'=>∃ u,e = .returned u/\CanNew w.heap.size w' u (q * r)/\Below w.heap.size w w':=by
 have H1:=aH h
 have H2:=aH h'
 have HE:Hd (kI [q,r] = q * r):=aH (by simp [kI,Rat.one_mul])
 obtain ⟨s,vn,vd,rfl⟩:=h.shape
 obtain ⟨t,vn',vd',rfl⟩:=h'.shape
 clear h h'
 go_enter Tryz.func121,Tryz.ntmps121
 go_wp2_with fail
 obtain ⟨W,hW,P0,P1,P2,P3,PB,Phs⟩:=tU w 40 [.bool s,vn,vd] 40 [.bool t,vn',vd'] 40 [.bool false,.slice none 0 0,.slice none 0 0] 40 [.bool s,vn,vd,.bool t,vn',vd']
 rw [<- hW]
 clear hW
 refine (wM W k _ [q,r] (P3.o.fracs2 (H1.o.below PB.o) (H2.o.below PB.o)) h0 (by simp; omega)).mono ?_
 rw [HE.o]
 rintro e wz ⟨vz,rfl,tz,hz⟩
 have BZ:=aH ((Below.refl W.heap.size W).trans (hz.mono (nR W.heap.size)))
 have hsz:W.heap.size <= W.heap.size:=(nR W.heap.size)
 obtain ⟨A,m,c,A',m',c',rfl,ta,tb,tc,td⟩:=tz.open_
 obtain ⟨r0,r1,r2,z0,z1,z2⟩:=(P2.o.below' BZ.o).three
 have TA:=aH ta
 have TB:=aH tb
 have TC:=aH tc
 have TD:=aH td
 clear tz hz ta tb tc td
 go_wp2_with fail
 refine bodyPost_ret (v:=.agg #[.bool (ae (q * r)),.slice A m c,.slice A' m' c']) (by simp [results,Tryz.results121,go_sem,r0,r1,r2]) rfl ⟨_,rfl,?_,af (PB.o.trans (BZ.o.mono (by omega))) (by omega) _ _ _⟩
 exact (CanNew.box3 TA.o TB.o TC.o TD.o (by omega) _ _ _).mono (by omega)
theorem xb (w:World) (v v':Value) (q r:Rat) (k:Nat)(h:FracAt k w v q) (h':FracAt k w v' r)(h0:0 < k)(hk:k <= 549755813888)(hr:r ≠ 0) :
  Calls Tryz.prog 221 #[v,v'] w fun e w'=>∃ u,e = .returned (.tuple #[u,.int .i64 0])/\CanNew w.heap.size w' u (q / r)/\Below w.heap.size w w':=by
 have H1:=aH h
 have H2:=aH h'
 have Q1:=aH (h.qb h0)
 have Q2:=aH (h'.qb h0)
 have HR:=aH hr
 obtain ⟨s,vn,vd,rfl⟩:=h.shape
 obtain ⟨t,vn',vd',rfl⟩:=h'.shape
 clear h h' hr
 rw [Rat.div_def]
 go_enter Tryz.func221,Tryz.ntmps221
 go_wp2_with fail
 obtain ⟨W,hW,P0,P1,P2,PB,Phs⟩:=box3 w 40 [.bool s,vn,vd] 40 [.bool t,vn',vd'] 40 [.bool false,.slice none 0 0,.slice none 0 0]
 rw [<- hW]
 clear hW
 refine (take W _ r k (H2.o.below PB.o) h0 (by omega)).mono ?_
 rintro e w1 ⟨v1,rfl,t1,hb1⟩
 obtain ⟨Ay,my,cy,Ay',my',cy',rfl,ta,tb,tc,td⟩:=t1.open_
 have T1:=aH t1
 have B1:=aH hb1
 have H1':=aH ((H1.o.below PB.o).below hb1)
 clear t1 hb1 ta tb tc td
 generalize ae r = sy at *
 go_wp2_with fail
 obtain ⟨W1,hW1⟩:∃ W1,W1 = w1.alloc (.cells #[.bool sy,.slice Ay my cy,.slice Ay' my' cy'] 190):=⟨_,rfl⟩
 rw [<- hW1]
 have Y1:Hd (Blk W1 w1.heap.size 190 [.bool sy,.slice Ay my cy,.slice Ay' my' cy']):=aH (by rw [hW1]; exact Blk.new w1 _ _)
 have BW1:Hd (Below w1.heap.size w1 W1):=aH (by rw [hW1]; exact (Below.refl _ _).alloc (nR _) _)
 have ZC:=rg W1 _ r (T1.o.at_.below BW1.o)
 rw [dF HR.o] at ZC
 have HZC:=aH ZC
 have hs1:W.heap.size <= w1.heap.size:=B1.o.size
 clear ZC hW1
 refine HZC.o.mono ?_
 rintro e w2 ⟨rfl,hb2⟩
 have hs2:w1.heap.size + 1 <= w2.heap.size:=by have:=hb2.size; have:=Y1.o.lt; omega
 have B12:=aH (BW1.o.trans (hb2.mono (by have:=Y1.o.lt; omega)))
 have B2:=aH (B1.o.trans (B12.o.mono hs1))
 have Y2:=aH (Y1.o.below' hb2)
 have X2:=aH (P0.o.below' B2.o)
 have H1'':=aH (H1'.o.below B12.o)
 have TY:=aH (T1.o.below B12.o)
 clear hb2
 obtain ⟨y0,y1,y2,_,_,_⟩:=Y2.o.three
 obtain ⟨p0,p1,p2,_,_,_⟩:=X2.o.three
 go_wp2_with fail
 go_region_held3 (fun w'=>w'.cell? ⟨w.heap.size,0,none⟩ = some (.bool s)/\w'.cell? ⟨w.heap.size,1,none⟩ = some vn/\w'.cell? ⟨w.heap.size,2,none⟩ = some vd/\w'.cell? ⟨w1.heap.size,0,none⟩ = some (.bool sy)/\w'.cell? ⟨w1.heap.size,1,none⟩ = some (.slice Ay my cy)/\w'.cell? ⟨w1.heap.size,2,none⟩ = some (.slice Ay' my' cy')) (first | assumption | (refine bF hS ?_ ?_ _ _ _ <;> omega) | go_keep)
  (first
   | (go_at_call 146; refine (take _ _ q k ?_ h0 (by omega)).mono ?_; (exact H1''.o.below (bS _)); rintro e w3 ⟨v3,rfl,t3,hb3'⟩; have hb3:=bO hb3'; have B3:=aH hb3; have hS:=six (X2.o.below' hb3) (Y2.o.below' hb3); have T3:=aH t3; have TY3:=aH (TY.o.below hb3); clear t3 hb3 hb3')
   | (go_at_call 156; refine (sH w3 _ r TY3.o.at_ HR.o).mono ?_; rintro e w4 ⟨v4,rfl,t4,hb4⟩; have B4:=aH (B3.o.trans (hb4.mono B3.o.size)); have hS:=six (X2.o.below' B4.o) (Y2.o.below' B4.o); have T4:=aH t4; have T3':=aH (T3.o.below hb4); clear t4 hb4)
   | (go_at_call 175; refine (wT w4 _ _ q r⁻¹ k T3'.o.at_ T4.o Q1.o (Q2.o.inv h0) (by omega)).mono ?_; rintro e w5 ⟨v5,rfl,t5,hb5⟩; have B5:=aH (B4.o.trans (hb5.mono B4.o.size)); have hS:=six (X2.o.below' B5.o) (Y2.o.below' B5.o); have T5:=aH t5; clear t5 hb5)
   | (go_at_call 152; refine (give w5 _ (q * r⁻¹) (k + k) T5.o.at_ (Q1.o.mul (Q2.o.inv h0)) (by omega)).mono ?_; rintro e w6 ⟨v6,rfl,t6,hb6⟩; have B6:=aH (B5.o.trans (hb6.mono B5.o.size)); have hs6:w2.heap.size <= w5.heap.size:=B5.o.size; have hS:=six (X2.o.below' B6.o) (Y2.o.below' B6.o); obtain ⟨A,m,c,A',m',c',rfl,ta,tb,tc,td⟩:=t6.open_; have PR:=P2.o.below' (B2.o.trans (B6.o.mono (by omega))); obtain ⟨r0,r1,r2,z0,z1,z2⟩:=PR.three; have TA:=aH ta; have TB:=aH tb; have TC:=aH tc; have TD:=aH td; clear t6 hb6 PR ta tb tc td))
 go_wp2_with fail
 refine bodyPost_ret (v:=.tuple #[.agg #[.bool (ae (q * r⁻¹)),.slice A m c,.slice A' m' c'],.int .i64 0]) (by simp [results,Tryz.results221,go_sem,r0,r1,r2,List.mapM_cons]) rfl ⟨_,rfl,?_,af (PB.o.trans ((B2.o.trans (B6.o.mono (by omega))).mono (by omega))) (by omega) _ _ _⟩
 exact (CanNew.box3 TA.o TB.o TC.o TD.o (by omega) _ _ _).mono (by omega)

theorem vj (w:World) (n d:Nat)(hn:n < 9223372036854775808)(hd:d < 9223372036854775808)(h0:d ≠ 0) :
  Calls Tryz.prog 220 #[.int .i64 (n:Int),.int .i64 (d:Int)] w fun e w'=>∃ u,e = .returned (.tuple #[u,.int .i64 0])/\CanNew w.heap.size w' u ((n:Rat) / (d:Rat))/\Below w.heap.size w w':=by
 have HD:Hd ((d:Rat) ≠ 0):=aH (by exact_mod_cast h0)
 have X1:Hd (QB 63 (n:Rat)):=aH (bv (by omega) (by omega))
 have X2:Hd (QB 63 (d:Rat)):=aH (bv (by omega) (by omega))
 go_enter Tryz.func220,Tryz.ntmps220
 go_wp2_with fail
 obtain ⟨W,hW,P0,PB,Phs⟩:=aA w 40 [.bool false,.slice none 0 0,.slice none 0 0]
 rw [<- hW]
 clear hW
 refine (ofN W n hn).mono ?_
 rintro e w1 ⟨v1,rfl,t1,hb1⟩
 have T1:=aH t1
 have B1:=aH hb1
 have hs1:W.heap.size <= w1.heap.size:=hb1.size
 clear t1 hb1
 go_wp2_with fail
 refine (ofN w1 d hd).mono ?_
 rintro e w2 ⟨v2,rfl,t2,hb2⟩
 have F1:=aH ((T1.o.below hb2).at_.frac X1.o (by omega))
 have F2:=aH (t2.at_.frac X2.o (by omega))
 have B2:=aH (B1.o.trans (hb2.mono hs1))
 have hs2:w1.heap.size <= w2.heap.size:=hb2.size
 clear t2 hb2
 go_wp2_with fail
 refine (xb w2 v1 v2 n d 63 F1.o F2.o (by omega) (by omega) HD.o).mono ?_
 rintro e w3 ⟨v3,rfl,t3,hb3⟩
 have B3:=aH (B2.o.trans (hb3.mono (by omega)))
 obtain ⟨A,m,c,A',m',c',rfl,ta,tb,tc,td⟩:=t3.open_
 have PR:=P0.o.below' B3.o
 obtain ⟨r0,r1,r2,z0,z1,z2⟩:=PR.three
 have TA:=aH ta
 have TB:=aH tb
 have TC:=aH tc
 have TD:=aH td
 clear t3 hb3 PR ta tb tc td
 go_wp2_with fail
 refine bodyPost_ret (v:=.tuple #[.agg #[.bool (ae ((n:Rat) / (d:Rat))),.slice A m c,.slice A' m' c'],.int .i64 0]) (by simp [results,Tryz.results220,go_sem,r0,r1,r2,List.mapM_cons]) rfl ⟨_,rfl,?_,af (PB.o.trans (B3.o.mono (by omega))) (by omega) _ _ _⟩
 exact (CanNew.box3 TA.o TB.o TC.o TD.o (by omega) _ _ _).mono (by omega)
theorem xw (w:World) (v:Value) (q:Rat) (k:Nat)(h:FracAt k w v q)(h0:0 < k)(hk:k <= 17592186044416) :
  Calls Tryz.prog 106 #[v] w fun e w'=>e = .returned (.bool (decide (aU q < 0)))/\Below w.heap.size w w':=by
 have HF:=aH h
 obtain ⟨neg,vn,vd,rfl⟩:=h.shape
 clear h
 go_enter Tryz.func106,Tryz.ntmps106
 go_wp2_with fail
 obtain ⟨W,hW,P0,PB,Phs⟩:=aA w 40 [.bool neg,vn,vd]
 rw [<- hW]
 clear hW
 refine (jk W _ q k (HF.o.below PB.o) h0 hk).mono ?_
 rintro e w1 ⟨rfl,hb1⟩
 have B1:=aH (PB.o.trans (hb1.mono (by omega)))
 clear hb1
 go_wp2_with fail
 go_ret
 exact ⟨rfl,B1.o⟩

def aW:List Rat->Nat->Int
 | [],_=>-1
 | q :: l,j=>if aU q < 0 then j else aW l (j + 1)

theorem kr (qs:List Rat) (j:Nat):0 <= aW qs j ↔ ∃ q ∈ qs,aU q < 0:=by
 induction qs generalizing j with
 | nil=>simp [aW]
 | cons q l ih =>
  unfold aW
  by_cases h:aU q < 0
  ·simp only [h,if_true]; exact ⟨fun _=>⟨q,by simp,h⟩,fun _=>by omega⟩
  simp only [h,if_false,ih (j + 1)]
  constructor
  ·rintro ⟨x,hx,e⟩; exact ⟨x,by simp [hx],e⟩
  rintro ⟨x,hx,e⟩
  rcases List.mem_cons.1 hx with rfl | hx
  ·exact absurd e h
  exact ⟨x,hx,e⟩

theorem gG {qs:List Rat} {j:Nat} {x:Rat} (h:qs[j]? = some x):aW (qs.drop j) j = if aU x < 0 then (j:Int) else aW (qs.drop (j + 1)) (j + 1):=by
 have hj:j < qs.length:=(sI.1 h).1
 rw [List.drop_eq_getElem_cons hj]
 have:qs[j] = x:=by rw [eG hj] at h; injection h
 rw [this]; rfl

theorem sU (w:World) (k:Nat) (lv:Value) (qs:List Rat)(hl:FracsAt k w lv qs)(h0:0 < k)(hk:k <= 17592186044416)(hn:qs.length < 9223372036854775807) :
  Calls Tryz.prog 145 #[lv,.func (.func 106) #[] #[]] w fun e w'=>e = .returned (.int .i64 (aW qs 0))/\Below w.heap.size w w':=by
 obtain ⟨A,c,rfl,hlc,hcm,hat⟩:=hl.at_
 have HAT:=aH hat
 clear hl hat
 obtain ⟨n,hn'⟩:=nm (qs.length)
 have HLN:=aH hn'
 rw [hn'] at hlc hn ⊢
 clear hn'
 go_enter Tryz.func145,Tryz.ntmps145
 go_wp2_with fail
 go_loopg [5,8] n (fun g _ i wr=>∃ (j:Nat),i = .int .i64 j/\j + g = n/\Hd (aW qs 0 = aW (qs.drop j) j)/\Below w.heap.size w wr)
 case atStart=>exact ⟨0,rfl,by omega,aH rfl,Below.refl _ _⟩
 obtain ⟨j,rfl,hj,HQ,hbel⟩:=hrel
 have BEL:=aH hbel
 have hsz:w.heap.size <= wr.heap.size:=hbel.size
 clear hbel
 rcases zP gk with h | h
 ·obtain rfl:j = n:=by omega
  go_wp2_with fail
  go_ret
  refine ⟨?_,BEL.o⟩
  rw [HQ.o,dN (by rw [HLN.o]; exact nR _)]
  rfl
 obtain ⟨g,rfl⟩:∃ g,gk = g + 1:=⟨gk - 1,by omega⟩
 obtain ⟨x,hx⟩:∃ x,qs[j]? = some x:=⟨_,eG (by rw [HLN.o]; omega)⟩
 obtain ⟨bb,off,neg,An,nn,cn,Ad,nd,cd,rfl,hbb,e0,e1,e2,hfr⟩:=HAT.o j x hx
 have d0:=(BEL.o.cell (p:=⟨bb,off + j * 3,none⟩) hbb).trans e0
 have d1:=(BEL.o.cell (p:=⟨bb,off + j * 3 + 1,none⟩) hbb).trans e1
 have d2:=(BEL.o.cell (p:=⟨bb,off + j * 3 + 2,none⟩) hbb).trans e2
 have FR:=aH (hfr.below BEL.o)
 have DR:=aH (gG hx)
 clear hx e0 e1 e2 hfr
 have hlt:(j:Int) < (n:Int):=by omega
 go_wp2_with fail
 have NC:=xw wr _ x k FR.o h0 hk
 cases hd:decide (aU x < 0) with
 | true =>
  rw [hd] at NC
  have HD:=aH hd
  clear hd
  refine NC.mono ?_
  rintro e w1 ⟨rfl,hb1⟩
  have B1:=aH hb1
  clear hb1
  go_wp2_with fail
  go_ret
  refine ⟨?_,BEL.o.trans (B1.o.mono hsz)⟩
  rw [HQ.o,DR.o,if_pos (of_decide_eq_true HD.o)]
  rfl
 | false =>
  rw [hd] at NC
  have HD:=aH hd
  clear hd
  refine NC.mono ?_
  rintro e w1 ⟨rfl,hb1⟩
  have B1:=aH hb1
  clear hb1
  go_wp2_with fail
  go_roundg g
  case measure=>omega
  case rel =>
   refine ⟨j + 1,rfl,by omega,aH ?_,BEL.o.trans (B1.o.mono hsz)⟩
   rw [HQ.o,DR.o,if_neg (of_decide_eq_false HD.o)]

theorem nA (w:World) (k:Nat) (lv:Value) (qs:List Rat)(hl:FracsAt k w lv qs)(h0:0 < k)(hk:k <= 17592186044416)(hn:qs.length < 9223372036854775807) :
  Calls Tryz.prog 105 #[lv,.func (.func 106) #[] #[]] w fun e w'=>e = .returned (.bool (decide (0 <= aW qs 0)))/\Below w.heap.size w w':=by
 obtain ⟨A,c,rfl,hlc,hcm,_⟩:=hl.at_
 have IC:=sU w k _ qs hl h0 hk hn
 clear hl
 generalize aW qs 0 = r at *
 go_enter Tryz.func105,Tryz.ntmps105
 go_wp2_with fail
 refine IC.mono ?_
 rintro e w1 ⟨rfl,hb1⟩
 have B1:=aH hb1
 clear hb1
 go_wp2_with fail
 go_ret
 exact ⟨by simp,B1.o⟩

def iq (qs:List Rat):Bool:=!decide (0 <= aW qs 0) && decide (aU (bX qs - 1) = 0)

theorem kv (w:World) (k:Nat) (lv:Value) (qs:List Rat)(hl:FracsAt k w lv qs)(h0:0 < k)(hk:(qs.length + 1) * (2 * k) <= 2199023255552) :
  Calls Tryz.prog 38 #[lv] w fun e w'=>e = .returned (.bool (iq qs))/\Below w.heap.size w w':=by
 have hks:(qs.length + 1) * 2 <= (qs.length + 1) * (2 * k):=Nat.mul_le_mul_left _ (by omega)
 have hkl:1 * (2 * k) <= (qs.length + 1) * (2 * k):=Nat.mul_le_mul_right _ (by omega)
 have CN:=nA w k lv qs hl h0 (by omega) (by omega)
 have HL:=aH hl
 obtain ⟨A,c,rfl,hlc,hcm,_⟩:=hl.at_
 clear hl
 unfold iq
 go_enter Tryz.func38,Tryz.ntmps38
 go_wp2_with fail
 cases hd:decide (0 <= aW qs 0) with
 | true =>
  rw [hd] at CN
  refine CN.mono ?_
  rintro e w1 ⟨rfl,hb1⟩
  have B1:=aH hb1
  have HD:=aH hd
  clear hb1 hd
  go_wp2_with fail
  go_ret
  exact ⟨by rw [HD.o]; rfl,B1.o⟩
 | false =>
  rw [hd] at CN
  refine CN.mono ?_
  rintro e w1 ⟨rfl,hb1⟩
  have B1:=aH hb1
  have H1:=aH (HL.o.below hb1)
  have hs1:w.heap.size <= w1.heap.size:=hb1.size
  have HD:=aH hd
  clear hb1 hd
  have QS:Hd (QB ((qs.length + 1) * (2 * k)) (bX qs)):=aH ((oy qs (HL.o.qb h0) k 0 (bv (n:=0) (Nat.pow_pos (by omega)) h0)).mono (by
   have:qs.length * (k + 1) <= qs.length * (2 * k):=Nat.mul_le_mul_left _ (by omega)
   rw [Nat.add_mul]; omega))
  have Q1:Hd (QB ((qs.length + 1) * (2 * k)) ((1:Nat):Rat)):=aH (bv (Nat.one_lt_two_pow (by omega)) (by omega))
  have HZ:Hd ((decide (aU (bX qs - (1:Nat)) = 0)) = (decide (aU (bX qs - 1) = 0))):=aH rfl
  go_wp2_with fail
  refine (wk w1 k _ qs H1.o h0 (by omega)).mono ?_
  rintro e w2 ⟨v2,rfl,t2,hb2⟩
  have B2:=aH (B1.o.trans (hb2.mono hs1))
  have T2:=aH t2
  have hs2:w1.heap.size <= w2.heap.size:=hb2.size
  clear t2 hb2
  go_wp2_with fail
  refine (ofN w2 1 (by omega)).mono ?_
  rintro e w3 ⟨v3,rfl,t3,hb3⟩
  have B3:=aH (B2.o.trans (hb3.mono (by omega)))
  have F2:=aH ((T2.o.below hb3).at_.frac QS.o (by omega))
  have F3:=aH (t3.at_.frac Q1.o (by omega))
  have hs3:w2.heap.size <= w3.heap.size:=hb3.size
  clear t3 hb3
  go_wp2_with fail
  refine (vX w3 v2 v3 (bX qs) (1:Nat) _ F2.o F3.o (by omega) (by omega)).mono ?_
  rintro e w4 ⟨rfl,hb4⟩
  have B4:=aH (B3.o.trans (hb4.mono (by omega)))
  clear hb4
  go_wp2_with fail
  go_ret
  refine ⟨?_,B4.o⟩
  rw [HD.o,<- HZ.o]
  rfl
end Go.Proofs.YtjebfdfkjlkifaaGreat
