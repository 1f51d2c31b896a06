/- Lemmas. -/
import Derived.Test.YtjebfdfkjlkifaaGreatR13
set_option linter.all false
set_option maxRecDepth 1000000
set_option maxHeartbeats 32000000
namespace Go.Proofs.YtjebfdfkjlkifaaGreat
open Go.RowKit
theorem aa {w w1 w2:World} (h1:Below w.heap.size w w1)(h2:Below w1.heap.size w1 w2):Below w.heap.size w w2:=h1.trans (h2.mono h1.size)

theorem mh (w:World) (v:Value) (l:List Nat)(hd:DigAt w v l) :
  Calls Tryz.prog 98 #[v] w fun e w'=>∃ v',e = .returned v'/\NatAt w' v' (val l)/\Below w.heap.size w w':=by
 refine (fk w v l hd).mono ?_
 rintro e w1 ⟨hw,v',rfl,h1,_⟩
 cases hw
 exact ⟨v',rfl,h1,Below.refl _ _⟩

theorem jh {w:World} {g B:Nat} {a b c:Value}
  (h:w.cell? ⟨g,0,none⟩ = some a/\w.cell? ⟨g,1,none⟩ = some b/\w.cell? ⟨g,2,none⟩ = some c)(hg:g ≠ B) (u0 u1 u2:Value) :
  (((w.setCell ⟨B,0,none⟩ u0).setCell ⟨B,1,none⟩ u1).setCell ⟨B,2,none⟩ u2).cell? ⟨g,0,none⟩ = some a/\(((w.setCell ⟨B,0,none⟩ u0).setCell ⟨B,1,none⟩ u1).setCell ⟨B,2,none⟩ u2).cell? ⟨g,1,none⟩ = some b/\(((w.setCell ⟨B,0,none⟩ u0).setCell ⟨B,1,none⟩ u1).setCell ⟨B,2,none⟩ u2).cell? ⟨g,2,none⟩ = some c :=
 ⟨aX h.1 hg _ _ _,aX h.2.1 hg _ _ _,aX h.2.2 hg _ _ _⟩

theorem NatAt.digs {w:World} {v:Value} {n:Nat} (h:NatAt w v n):∃ l,DigAt w v l/\val l = n:=by
 obtain ⟨l,d,_,e⟩:=h
 exact ⟨l,d,e⟩

theorem iL (w:World) (neg:Bool) (vn vd:Value) (n d k:Nat)(hn:NatAt w vn n)(hd:NatAt w vd d) (qn:n < 2 ^ k) (qd:d < 2 ^ k) (d0:0 < d)(h0:0 < k)(hk:k <= 17592186044416) :
  Calls Tryz.prog 94 #[.bool neg,vn,vd] w fun e w'=>∃ v',e = .returned v'/\CanNew w.heap.size w' v' (mkRat (sgn neg n) d)/\Below w.heap.size w w':=by
 obtain ⟨ln,dn,rfl⟩:=hn.digs
 obtain ⟨ld,dd,rfl⟩:=hd.digs
 refine (oE w neg vn vd ln ld k dn dd qn qd h0 hk).mono ?_
 unfold dM
 rw [if_neg (by omega)]
 exact fun _ _ h=>h

theorem FracAt.parts {k:Nat} {w:World} {v:Value} {q:Rat} (h:FracAt k w v q)(h0:0 < k):∃ s vn vd ln ld n d,v = .agg #[.bool s,vn,vd]/\DigAt w vn ln/\DigAt w vd ld/\val ln = n/\(if val ld = 0 then 1 else val ld) = d/\q = mkRat (sgn s n) d/\n < 2 ^ k/\d < 2 ^ k/\0 < d/\val ld < 2 ^ k:=by
 obtain ⟨s,vn,vd,ln,ld,rfl,h1,h2,h3,h4,h5,_,_⟩:=h
 have:=Nat.one_lt_two_pow (n:=k) (by omega)
 exact ⟨s,vn,vd,ln,ld,_,_,rfl,h1,h2,rfl,rfl,h3,h4,by split <;> omega,by split <;> omega,h5⟩

theorem uo (s:Bool) (n:Nat):sgn (!s) n = - sgn s n:=by cases s <;> simp [sgn]
theorem qh (s:Bool) (n d:Nat):-(mkRat (sgn s n) d) = mkRat (sgn (!s) n) d:=by rw [uo,Rat.neg_mkRat]
theorem kL (s t:Bool) (a b c d:Nat):mkRat (sgn s a) b * mkRat (sgn t c) d = mkRat (sgn (s != t) (a * c)) (b * d):=by
 rw [Rat.mkRat_mul_mkRat]
 congr 1
 unfold sgn
 cases s <;> cases t <;> simp [Int.natCast_mul,Int.neg_mul,Int.mul_neg]
theorem qq (s:Bool) {a:Nat} (b:Nat)(ha:a ≠ 0):(mkRat (sgn s a) b)⁻¹ = mkRat (sgn s b) a:=by
 by_cases hb:b = 0
 ·subst hb
  have e:sgn s 0 = 0:=by cases s <;> simp [sgn]
  rw [e]
  simp
 have h1:mkRat (sgn s a) b * mkRat (sgn s b) a = 1:=by
  rw [kL,Nat.mul_comm b a]
  have e:(s != s) = false:=by cases s <;> rfl
  rw [e]
  simp only [sgn]
  exact ((Rat.mkRat_eq_iff (n₁:=((a * b:Nat):Int)) (n₂:=1) (d₁:=a * b) (d₂:=1) (by have:=Nat.mul_pos (Nat.pos_of_ne_zero ha) (Nat.pos_of_ne_zero hb); omega) (by omega)).2 (by omega)).trans rfl
 have h2:mkRat (sgn s a) b ≠ 0:=fun e=>by rw [e,Rat.zero_mul] at h1; exact absurd h1 (by decide)
 calc (mkRat (sgn s a) b)⁻¹ = (mkRat (sgn s a) b)⁻¹ * (mkRat (sgn s a) b * mkRat (sgn s b) a):=by rw [h1,Rat.mul_one]
  _ = mkRat (sgn s b) a:=by rw [<- Rat.mul_assoc,Rat.inv_mul_cancel _ h2,Rat.one_mul]
theorem eR (s:Bool) {a b:Nat} (hb:b ≠ 0):mkRat (sgn s a) b = 0 ↔ a = 0:=by
 rw [Rat.mkRat_eq_zero hb]
 cases s <;> simp [sgn]

theorem oF (w:World) (s vn vd:Value) (ld:List Nat) (d:Nat)(hd:DigAt w vd ld) (e0:(if val ld = 0 then 1 else val ld) = d) :
  Calls Tryz.prog 99 #[.agg #[s,vn,vd]] w fun e w'=>∃ v',e = .returned v'/\NatAt w' v' d/\Below w.heap.size w w':=by
 have HD:=aH hd
 have HE:=aH e0
 clear hd e0
 go_enter Tryz.func99,Tryz.ntmps99
 go_wp2_with fail
 obtain ⟨W,hW,P0,PB,Phs⟩:=aA w 40 [s,vn,vd]
 rw [<- hW]
 clear hW
 obtain ⟨p0,p1,p2,_,_,_⟩:=P0.o.three
 go_wp2_with fail
 refine (fk W vd ld (HD.o.below PB.o)).mono ?_
 rintro e w1 ⟨hw1,v1,rfl,t1,_,_⟩
 cases hw1
 have T1:=aH t1
 obtain ⟨A,m,c,rfl,hm,hm0⟩:=t1.len
 clear t1
 by_cases h0:m = 0
 ·have hd0:val ld = 0:=by omega
  subst h0
  have HX:Hd (d = 1):=aH (by rw [<- HE.o,if_pos hd0])
  clear hm0 hd0
  go_wp2_with fail
  go_ret
  refine ⟨_,rfl,⟨[1],⟨?_,Ok.cons.2 ⟨by omega,Ok.nil⟩⟩,by simp [Trim],by rw [HX.o]; rfl⟩,PB.o.alloc (by omega) _⟩
  exact Sl.one _ _ _
 have hz:((m:Int) == 0) = false:=by simp; omega
 have HX:Hd (val ld = d):=aH (by rw [<- HE.o,if_neg (by omega)])
 clear hm0
 go_wp2_with fail
 go_ret
 exact ⟨_,rfl,by rw [<- HX.o]; exact T1.o,PB.o⟩

theorem xu (w:World) (v:Value) (q:Rat) (k:Nat)(h:FracAt k w v q)(h0:0 < k)(hk:k <= 17592186044416) :
  Calls Tryz.prog 93 #[v] w fun e w'=>∃ v',e = .returned v'/\CanNew w.heap.size w' v' (-q)/\Below w.heap.size w w':=by
 obtain ⟨s,vn,vd,ln,ld,n,d,rfl,h1,h2,h3,h4,h5,h6,h7,h8,h9⟩:=h.parts h0
 have H1:=aH h1
 have H2:=aH h2
 have H3:=aH h3
 have H4:=aH h4
 have H5:=aH h5
 have H6:=aH h6
 have H7:=aH h7
 have H8:=aH h8
 have H9:=aH h9
 clear h h1 h2 h3 h4 h5 h6 h7 h8 h9
 have HQ:Hd (-q = dM (!s) (val ln) (val ld)):=aH (by rw [H5.o,qh,<- H4.o,<- H3.o]; rfl)
 rw [HQ.o]
 go_enter Tryz.func93,Tryz.ntmps93
 go_wp2_with fail
 obtain ⟨W,hW,P0,P1,PB,Phs⟩:=cP w 40 [.bool s,vn,vd] 40 [.bool false,.slice none 0 0,.slice none 0 0]
 rw [<- hW]
 clear hW
 obtain ⟨p0,p1,p2,_,_,_⟩:=P0.o.three
 go_wp2_with fail
 refine (oE W (!s) _ _ ln ld k (H1.o.below PB.o) (H2.o.below PB.o) (by rw [H3.o]; exact H6.o) H9.o h0 hk).mono ?_
 rintro e w1 ⟨v1,rfl,t1,hb1⟩
 have T1:=aH t1
 have S1:Hd (Below W.heap.size W w1):=aH hb1
 have hs1:W.heap.size <= w1.heap.size:=hb1.size
 obtain ⟨A,m,c,A',m',c',rfl,ta,tb,tc,td⟩:=t1.open_
 obtain ⟨r0,r1,r2,z0,z1,z2⟩:=(P1.o.below' S1.o).three
 have TA:=aH ta
 have TB:=aH tb
 have TC:=aH tc
 have TD:=aH td
 clear ta tb tc td
 clear t1 hb1
 go_wp2_with fail
 refine bodyPost_ret (v:=.agg #[.bool (ae (dM (!s) (val ln) (val ld))),.slice A m c,.slice A' m' c']) (by simp [results,Tryz.results93,go_sem,r0,r1,r2]) rfl ⟨_,rfl,?_,af (PB.o.trans ((S1.o).mono (by omega))) (by omega) _ _ _⟩
 exact (CanNew.box3 TA.o TB.o TC.o TD.o (by omega) _ _ _).mono (by omega)

theorem sD (w:World) (v:Value) (q:Rat) (k:Nat)(h:FracAt k w v q)(h0:0 < k)(hk:k <= 17592186044416)(hq:q ≠ 0) :
  Calls Tryz.prog 92 #[v] w fun e w'=>∃ v',e = .returned v'/\CanNew w.heap.size w' v' (q⁻¹)/\Below w.heap.size w w':=by
 obtain ⟨s,vn,vd,ln,ld,n,d,rfl,h1,h2,h3,h4,h5,h6,h7,h8,h9⟩:=h.parts h0
 have H1:=aH h1
 have H2:=aH h2
 have H3:=aH h3
 have H4:=aH h4
 have H5:=aH h5
 have H6:=aH h6
 have H7:=aH h7
 have H8:=aH h8
 have H9:=aH h9
 clear h h1 h2 h3 h4 h5 h6 h7 h8 h9
 have HN0:Hd (n ≠ 0):=aH (fun e=>hq (by rw [H5.o,eR s (by have:=H8.o; omega)]; exact e))
 have HQ:Hd (q⁻¹ = mkRat (sgn s d) n):=aH (by rw [H5.o,qq s d HN0.o])
 clear hq
 rw [HQ.o]
 go_enter Tryz.func92,Tryz.ntmps92
 go_wp2_with fail
 obtain ⟨W,hW,P0,P1,PB,Phs⟩:=cP w 40 [.bool s,vn,vd] 40 [.bool false,.slice none 0 0,.slice none 0 0]
 rw [<- hW]
 clear hW
 obtain ⟨p0,p1,p2,_,_,_⟩:=P0.o.three
 go_region_held3 (fun w'=>w'.cell? ⟨w.heap.size,0,none⟩ = some (.bool s)/\w'.cell? ⟨w.heap.size,1,none⟩ = some (vn)/\w'.cell? ⟨w.heap.size,2,none⟩ = some (vd)) (first | assumption | (refine jh hS ?_ _ _ _ <;> omega) | go_keep)
  (first
   | (go_at_call 99; refine (oF _ _ _ _ ld d (H2.o.below (PB.o.trans (bS _))) H4.o).mono ?_; rintro e w1 ⟨v1,rfl,t1,hb1⟩; have S1:Hd (Below W.heap.size W w1):=aH (by first | exact hb1 | exact bO hb1); have hs1:W.heap.size <= w1.heap.size:=S1.o.size; have T1:=aH t1; have hS:=aI (P0.o.below' S1.o).three.1 (aI (P0.o.below' S1.o).three.2.1 (P0.o.below' S1.o).three.2.2.1); clear t1 hb1)
   | (go_at_call 98; refine (mh w1 _ ln ((H1.o.below PB.o).below S1.o)).mono ?_; rintro e w2 ⟨v2,rfl,t2,hb2⟩; have S2:Hd (Below w1.heap.size w1 w2):=aH hb2; have hs2:w1.heap.size <= w2.heap.size:=S2.o.size; have T2:=aH t2; have hS:=aI (P0.o.below' (aa S1.o S2.o)).three.1 (aI (P0.o.below' (aa S1.o S2.o)).three.2.1 (P0.o.below' (aa S1.o S2.o)).three.2.2.1); clear t2 hb2)
   | (go_at_call 94; refine (iL w2 s _ _ d n k (T1.o.below S2.o) (by have:=T2.o; rwa [H3.o] at this) H7.o H6.o (by have:=HN0.o; omega) h0 hk).mono ?_; rintro e w3 ⟨v3,rfl,t3,hb3⟩; have S3:Hd (Below w2.heap.size w2 w3):=aH hb3; have hs3:w2.heap.size <= w3.heap.size:=S3.o.size; have T3:=aH t3; have hS:=aI (P0.o.below' (aa (aa S1.o S2.o) S3.o)).three.1 (aI (P0.o.below' (aa (aa S1.o S2.o) S3.o)).three.2.1 (P0.o.below' (aa (aa S1.o S2.o) S3.o)).three.2.2.1); obtain ⟨A,m,c,A',m',c',rfl,ta,tb,tc,td⟩:=t3.open_; obtain ⟨r0,r1,r2,z0,z1,z2⟩:=(P1.o.below' (aa (aa S1.o S2.o) S3.o)).three; have TA:=aH ta; have TB:=aH tb; have TC:=aH tc; have TD:=aH td; clear ta tb tc td; clear t3 hb3))
 go_wp2_with fail
 refine bodyPost_ret (v:=.agg #[.bool (ae (mkRat (sgn s d) n)),.slice A m c,.slice A' m' c']) (by simp [results,Tryz.results92,go_sem,r0,r1,r2]) rfl ⟨_,rfl,?_,af (PB.o.trans (((aa (aa S1.o S2.o) S3.o)).mono (by omega))) (by omega) _ _ _⟩
 exact (CanNew.box3 TA.o TB.o TC.o TD.o (by omega) _ _ _).mono (by omega)

theorem mV (w:World) (v v':Value) (q r:Rat) (k:Nat)(h:FracAt k w v q) (h':FracAt k w v' r)(h0:0 < k)(hk:k <= 549755813888) :
  Calls Tryz.prog 91 #[v,v'] w fun e w'=>∃ u,e = .returned u/\CanNew w.heap.size w' u (q * r)/\Below w.heap.size w w':=by
 obtain ⟨s,vn,vd,ln,ld,n,d,rfl,h1,h2,h3,h4,h5,h6,h7,h8,h9⟩:=h.parts h0
 have H1:=aH h1
 have H2:=aH h2
 have H3:=aH h3
 have H4:=aH h4
 have H5:=aH h5
 have H6:=aH h6
 have H7:=aH h7
 have H8:=aH h8
 have H9:=aH h9
 clear h h1 h2 h3 h4 h5 h6 h7 h8 h9
 obtain ⟨t,vn',vd',ln',ld',n',d',rfl,h1,h2,h3,h4,h5,h6,h7,h8,h9⟩:=h'.parts h0
 have G1:=aH h1
 have G2:=aH h2
 have G3:=aH h3
 have G4:=aH h4
 have G5:=aH h5
 have G6:=aH h6
 have G7:=aH h7
 have G8:=aH h8
 have G9:=aH h9
 clear h' h1 h2 h3 h4 h5 h6 h7 h8 h9
 have HQ:Hd (q * r = mkRat (sgn (s != t) (n * n')) (d * d')):=aH (by rw [H5.o,G5.o,kL])
 rw [HQ.o]
 go_enter Tryz.func91,Tryz.ntmps91
 go_wp2_with fail
 obtain ⟨W,hW,P0,P1,P2,PB,Phs⟩:=box3 w 40 [.bool s,vn,vd] 40 [.bool t,vn',vd'] 40 [.bool false,.slice none 0 0,.slice none 0 0]
 rw [<- hW]
 clear hW
 obtain ⟨p0,p1,p2,_,_,_⟩:=P0.o.three
 obtain ⟨q0,q1,q2,_,_,_⟩:=P1.o.three
 go_region_held3 (fun w'=>w'.cell? ⟨w.heap.size,0,none⟩ = some (.bool s)/\w'.cell? ⟨w.heap.size,1,none⟩ = some (vn)/\w'.cell? ⟨w.heap.size,2,none⟩ = some (vd)/\w'.cell? ⟨w.heap.size + 1,0,none⟩ = some (.bool t)/\w'.cell? ⟨w.heap.size + 1,1,none⟩ = some (vn')/\w'.cell? ⟨w.heap.size + 1,2,none⟩ = some (vd')) (first | assumption | (refine bF hS ?_ ?_ _ _ _ <;> omega) | go_keep)
  (first
   | (go_at_call_of 98 (vn); refine (mh _ _ ln (H1.o.below (PB.o.trans (bS _)))).mono ?_; rintro e w1 ⟨v1,rfl,t1,hb1⟩; have S1:Hd (Below W.heap.size W w1):=aH (by first | exact hb1 | exact bO hb1); have hs1:W.heap.size <= w1.heap.size:=S1.o.size; have T1:=aH t1; have hS:=six (P0.o.below' S1.o) (P1.o.below' S1.o); rw [H3.o] at t1; have T1:=aH t1; clear t1 hb1)
   | (go_at_call_of 98 (vn'); refine (mh w1 _ ln' ((G1.o.below PB.o).below S1.o)).mono ?_; rintro e w2 ⟨v2,rfl,t2,hb2⟩; have S2:Hd (Below w1.heap.size w1 w2):=aH hb2; have hs2:w1.heap.size <= w2.heap.size:=S2.o.size; have T2:=aH t2; have hS:=six (P0.o.below' (aa S1.o S2.o)) (P1.o.below' (aa S1.o S2.o)); rw [G3.o] at t2; have T2:=aH t2; clear t2 hb2)
   | (go_at_call_of 97 (v1); refine (jg w2 _ _ n n' k k (T1.o.below S2.o) T2.o H6.o G6.o (by omega) (by omega)).mono ?_; rintro e w3 ⟨v3,rfl,t3,hb3,_⟩; have S3:Hd (Below w2.heap.size w2 w3):=aH hb3; have hs3:w2.heap.size <= w3.heap.size:=S3.o.size; have T3:=aH t3; have hS:=six (P0.o.below' (aa (aa S1.o S2.o) S3.o)) (P1.o.below' (aa (aa S1.o S2.o) S3.o)); clear t3 hb3)
   | (go_at_call_of 99 (Value.agg #[.bool s,vn,vd]); refine (oF w3 _ _ _ ld d ((H2.o.below PB.o).below (aa (aa S1.o S2.o) S3.o)) H4.o).mono ?_; rintro e w4 ⟨v4,rfl,t4,hb4⟩; have S4:Hd (Below w3.heap.size w3 w4):=aH hb4; have hs4:w3.heap.size <= w4.heap.size:=S4.o.size; have T4:=aH t4; have hS:=six (P0.o.below' (aa (aa (aa S1.o S2.o) S3.o) S4.o)) (P1.o.below' (aa (aa (aa S1.o S2.o) S3.o) S4.o)); clear t4 hb4)
   | (go_at_call_of 99 (Value.agg #[.bool t,vn',vd']); refine (oF w4 _ _ _ ld' d' ((G2.o.below PB.o).below (aa (aa (aa S1.o S2.o) S3.o) S4.o)) G4.o).mono ?_; rintro e w5 ⟨v5,rfl,t5,hb5⟩; have S5:Hd (Below w4.heap.size w4 w5):=aH hb5; have hs5:w4.heap.size <= w5.heap.size:=S5.o.size; have T5:=aH t5; have hS:=six (P0.o.below' (aa (aa (aa (aa S1.o S2.o) S3.o) S4.o) S5.o)) (P1.o.below' (aa (aa (aa (aa S1.o S2.o) S3.o) S4.o) S5.o)); clear t5 hb5)
   | (go_at_call_of 97 (v4); refine (jg w5 _ _ d d' k k (T4.o.below S5.o) T5.o H7.o G7.o (by omega) (by omega)).mono ?_; rintro e w6 ⟨v6,rfl,t6,hb6,_⟩; have S6:Hd (Below w5.heap.size w5 w6):=aH hb6; have hs6:w5.heap.size <= w6.heap.size:=S6.o.size; have T6:=aH t6; have hS:=six (P0.o.below' (aa (aa (aa (aa (aa S1.o S2.o) S3.o) S4.o) S5.o) S6.o)) (P1.o.below' (aa (aa (aa (aa (aa S1.o S2.o) S3.o) S4.o) S5.o) S6.o)); clear t6 hb6)
   | (go_at_call 94; refine (iL w6 (s != t) _ _ (n * n') (d * d') (k + k) (((T3.o.below S4.o).below S5.o).below S6.o) T6.o (aE H6.o G6.o) (aE H7.o G7.o) (Nat.mul_pos H8.o G8.o) (by omega) (by omega)).mono ?_; rintro e w7 ⟨v7,rfl,t7,hb7⟩; have S7:Hd (Below w6.heap.size w6 w7):=aH hb7; have hs7:w6.heap.size <= w7.heap.size:=S7.o.size; have T7:=aH t7; have hS:=six (P0.o.below' (aa (aa (aa (aa (aa (aa S1.o S2.o) S3.o) S4.o) S5.o) S6.o) S7.o)) (P1.o.below' (aa (aa (aa (aa (aa (aa S1.o S2.o) S3.o) S4.o) S5.o) S6.o) S7.o)); obtain ⟨A,m,c,A',m',c',rfl,ta,tb,tc,td⟩:=t7.open_; obtain ⟨r0,r1,r2,z0,z1,z2⟩:=(P2.o.below' (aa (aa (aa (aa (aa (aa S1.o S2.o) S3.o) S4.o) S5.o) S6.o) S7.o)).three; have TA:=aH ta; have TB:=aH tb; have TC:=aH tc; have TD:=aH td; clear ta tb tc td; clear t7 hb7))
 go_wp2_with fail
 refine bodyPost_ret (v:=.agg #[.bool (ae (mkRat (sgn (s != t) (n * n')) (d * d'))),.slice A m c,.slice A' m' c']) (by simp [results,Tryz.results91,go_sem,r0,r1,r2]) rfl ⟨_,rfl,?_,af (PB.o.trans (((aa (aa (aa (aa (aa (aa S1.o S2.o) S3.o) S4.o) S5.o) S6.o) S7.o)).mono (by omega))) (by omega) _ _ _⟩
 exact (CanNew.box3 TA.o TB.o TC.o TD.o (by omega) _ _ _).mono (by omega)
end Go.Proofs.YtjebfdfkjlkifaaGreat
