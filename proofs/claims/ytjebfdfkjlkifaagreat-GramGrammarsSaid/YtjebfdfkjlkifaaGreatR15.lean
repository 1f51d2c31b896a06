/- Lemmas. -/
import Derived.Test.YtjebfdfkjlkifaaGreatR14
set_option linter.all false
set_option maxRecDepth 1000000
set_option maxHeartbeats 32000000
namespace Go.Proofs.YtjebfdfkjlkifaaGreat
open Go.RowKit
theorem j6 (s:Bool) {a b c d:Nat} (hb:b ≠ 0)(hd:d ≠ 0):mkRat (sgn s a) b + mkRat (sgn s c) d = mkRat (sgn s (a * d + c * b)) (b * d):=by
 rw [Rat.mkRat_add_mkRat _ _ hb hd]
 congr 1
 unfold sgn
 cases s <;> simp [Int.natCast_mul,Int.natCast_add,Int.neg_mul] <;> omega
theorem j7 {s t:Bool} {a b c d:Nat} (hst:s ≠ t)(hb:b ≠ 0)(hd:d ≠ 0)(h:c * b <= a * d):mkRat (sgn s a) b + mkRat (sgn t c) d = mkRat (sgn s (a * d - c * b)) (b * d):=by
 rw [Rat.mkRat_add_mkRat _ _ hb hd]
 congr 1
 unfold sgn
 cases s <;> cases t <;> simp_all [Int.neg_mul] <;> rw [Int.natCast_sub (by omega)] <;> simp [Int.natCast_mul] <;> omega
theorem j8 {s t:Bool} {a b c d:Nat} (hst:s ≠ t)(hb:b ≠ 0)(hd:d ≠ 0)(h:a * d < c * b):mkRat (sgn s a) b + mkRat (sgn t c) d = mkRat (sgn t (c * b - a * d)) (b * d):=by
 rw [Rat.mkRat_add_mkRat _ _ hb hd]
 congr 1
 unfold sgn
 cases s <;> cases t <;> simp_all [Int.neg_mul] <;> rw [Int.natCast_sub (by omega)] <;> simp [Int.natCast_mul] <;> omega

theorem ofR (w:World) (n:Nat)(hn:n < 9223372036854775808) :
  Calls Tryz.prog 33 #[.int .i64 (n:Int)] w fun e w'=>∃ u,e = .returned u/\CanNew w.heap.size w' u (n:Rat)/\Below w.heap.size w w':=by
 have HQ:Hd ((n:Rat) = mkRat (sgn false n) 1):=aH (by simp only [sgn,Bool.false_eq_true,if_false,Rat.mkRat_one]; exact (Rat.intCast_natCast n).symm)
 rw [HQ.o]
 have hlt:decide ((n:Int) < 0) = false:=dF (by omega)
 go_enter Tryz.func33,Tryz.ntmps33
 go_wp2_with fail
 obtain ⟨W,hW,P0,PB,Phs⟩:=aA w 40 [.bool false,.slice none 0 0,.slice none 0 0]
 rw [<- hW]
 clear hW
 refine (rG W n hn).mono ?_
 rintro e wz ⟨hwz,rfl⟩
 cases hwz
 go_wp2_with fail
 refine (jC W n (by omega)).mono ?_
 rintro e w1 ⟨v1,rfl,t1,hb1⟩
 have T1:=aH t1
 have S1:Hd (Below W.heap.size W w1):=aH hb1
 have hs1:W.heap.size <= w1.heap.size:=hb1.size
 clear t1 hb1
 go_wp2_with fail
 have M1:Hd (Calls Tryz.prog 94 #[.bool false,v1,.slice none 0 0] w1 fun e w'=>∃ v',e = .returned v'/\CanNew w1.heap.size w' v' (mkRat (sgn false n) 1)/\Below w1.heap.size w1 w'):=aH (by
  obtain ⟨l,dl,rfl⟩:=T1.o.digs
  exact oE w1 false v1 _ l [] 64 dl (DigAt.nil_ _) (by omega) (by simp [val]) (by omega) (by omega))
 refine (M1.o).mono ?_
 rintro e w2 ⟨v2,rfl,t2,hb2⟩
 have T2:=aH t2
 have S2:Hd (Below w1.heap.size w1 w2):=aH hb2
 have hs2:w1.heap.size <= w2.heap.size:=hb2.size
 obtain ⟨A,m,c,A',m',c',rfl,ta,tb,tc,td⟩:=t2.open_
 obtain ⟨r0,r1,r2,z0,z1,z2⟩:=(P0.o.below' (aa S1.o S2.o)).three
 have TA:=aH ta
 have TB:=aH tb
 have TC:=aH tc
 have TD:=aH td
 clear ta tb tc td
 clear t2 hb2
 go_wp2_with fail
 refine bodyPost_ret (v:=.agg #[.bool (ae (mkRat (sgn false n) 1)),.slice A m c,.slice A' m' c']) (by simp [results,Tryz.results33,go_sem,r0,r1,r2]) rfl ⟨_,rfl,?_,af (PB.o.trans (((aa S1.o S2.o)).mono (by omega))) (by omega) _ _ _⟩
 exact (CanNew.box3 TA.o TB.o TC.o TD.o (by omega) _ _ _).mono (by omega)

theorem ic (w:World) (n d:Nat)(hn:n < 9223372036854775808)(hd:d < 9223372036854775808) (d0:0 < d) :
  Calls Tryz.prog 35 #[.int .i64 (n:Int),.int .i64 (d:Int)] w fun e w'=>∃ u,e = .returned u/\CanNew w.heap.size w' u ((n:Rat) / (d:Rat))/\Below w.heap.size w w':=by
 have HQ:Hd ((n:Rat) / (d:Rat) = mkRat (sgn false n) d):=aH (by simp only [sgn,Bool.false_eq_true,if_false,Rat.mkRat_eq_div]; rw [Rat.intCast_natCast n])
 rw [HQ.o]
 have hlt:decide ((n:Int) < 0) = false:=dF (by omega)
 have hlt':decide ((d:Int) < 0) = false:=dF (by omega)
 go_enter Tryz.func35,Tryz.ntmps35
 go_wp2_with fail
 obtain ⟨W,hW,P0,PB,Phs⟩:=aA w 40 [.bool false,.slice none 0 0,.slice none 0 0]
 rw [<- hW]
 clear hW
 refine (rG W n hn).mono ?_
 rintro e wz ⟨hwz,rfl⟩
 cases hwz
 go_wp2_with fail
 refine (jC W n (by omega)).mono ?_
 rintro e w1 ⟨v1,rfl,t1,hb1⟩
 have T1:=aH t1
 have S1:Hd (Below W.heap.size W w1):=aH hb1
 have hs1:W.heap.size <= w1.heap.size:=hb1.size
 clear t1 hb1
 go_wp2_with fail
 refine (rG w1 d hd).mono ?_
 rintro e wz ⟨hwz,rfl⟩
 cases hwz
 go_wp2_with fail
 refine (jC w1 d (by omega)).mono ?_
 rintro e w2 ⟨v2,rfl,t2,hb2⟩
 have T2:=aH t2
 have S2:Hd (Below w1.heap.size w1 w2):=aH hb2
 have hs2:w1.heap.size <= w2.heap.size:=hb2.size
 clear t2 hb2
 go_wp2_with fail
 refine (iL w2 false v1 v2 n d 64 (T1.o.below S2.o) T2.o (by omega) (by omega) d0 (by omega) (by omega)).mono ?_
 rintro e w3 ⟨v3,rfl,t3,hb3⟩
 have T3:=aH t3
 have S3:Hd (Below w2.heap.size w2 w3):=aH hb3
 have hs3:w2.heap.size <= w3.heap.size:=hb3.size
 obtain ⟨A,m,c,A',m',c',rfl,ta,tb,tc,td⟩:=t3.open_
 obtain ⟨r0,r1,r2,z0,z1,z2⟩:=(P0.o.below' (aa (aa S1.o S2.o) S3.o)).three
 have TA:=aH ta
 have TB:=aH tb
 have TC:=aH tc
 have TD:=aH td
 clear ta tb tc td
 clear t3 hb3
 go_wp2_with fail
 refine bodyPost_ret (v:=.agg #[.bool (ae (mkRat (sgn false n) d)),.slice A m c,.slice A' m' c']) (by simp [results,Tryz.results35,go_sem,r0,r1,r2]) rfl ⟨_,rfl,?_,af (PB.o.trans (((aa (aa S1.o S2.o) S3.o)).mono (by omega))) (by omega) _ _ _⟩
 exact (CanNew.box3 TA.o TB.o TC.o TD.o (by omega) _ _ _).mono (by omega)

theorem oh (s:Bool) {n d:Nat} (hd:d ≠ 0):aU (mkRat (sgn s n) d) = if n = 0 then 0 else if s then -1 else 1:=by
 unfold aU
 by_cases hn:n = 0
 ·rw [if_pos hn,if_pos ((eR s hd).2 hn)]
 rw [if_neg hn,if_neg (fun e=>hn ((eR s hd).1 e))]
 have:mkRat (sgn s n) d < 0 ↔ s = true:=by
  rw [<- kQ]
  obtain ⟨r1,_⟩:=red s n d (Nat.pos_of_ne_zero hd)
  have hg:0 < n / Nat.gcd n d:=Nat.div_pos (Nat.gcd_le_left _ (Nat.pos_of_ne_zero hn)) (Nat.gcd_pos_of_pos_left _ (Nat.pos_of_ne_zero hn))
  rw [iM r1,dT hg,Bool.and_true]
 simp only [this]

theorem ez (w:World) (v:Value) (q:Rat) (k:Nat)(h:FracAt k w v q)(h0:0 < k) :
  Calls Tryz.prog 37 #[v] w fun e w'=>e = .returned (.int .i64 (aU q))/\Below w.heap.size w w':=by
 obtain ⟨s,vn,vd,ln,ld,n,d,rfl,h1,h2,h3,h4,h5,h6,h7,h8,h9⟩:=h.parts h0
 have H1:=aH h1
 have H2:=aH h2
 have H3:=aH h3
 have H4:=aH h4
 have H5:=aH h5
 have H6:=aH h6
 have H7:=aH h7
 have H8:=aH h8
 have H9:=aH h9
 clear h h1 h2 h3 h4 h5 h6 h7 h8 h9
 have HS:Hd (aU q = if n = 0 then 0 else if s then -1 else 1):=aH (by rw [H5.o]; exact oh s (by have:=H8.o; omega))
 go_enter Tryz.func37,Tryz.ntmps37
 go_wp2_with fail
 obtain ⟨W,hW,P0,PB,Phs⟩:=aA w 40 [.bool s,vn,vd]
 rw [<- hW]
 clear hW
 obtain ⟨p0,p1,p2,_,_,_⟩:=P0.o.three
 go_wp2_with fail
 refine (fk W vn ln (H1.o.below PB.o)).mono ?_
 rintro e w1 ⟨hw1,v1,rfl,t1,_,_⟩
 cases hw1
 rw [H3.o] at t1
 obtain ⟨A,m,c,rfl,hm,hm0⟩:=t1.len
 clear t1
 by_cases hz:m = 0
 ·obtain rfl:n = 0:=by omega
  subst hz
  go_wp2_with fail
  go_ret
  exact ⟨ag (by have:=HS.o; simpa using this.symm),PB.o⟩
 have hmz:((m:Int) == 0) = false:=by simp; omega
 have HN:Hd (n ≠ 0):=aH (by omega)
 cases s
 ·go_wp2_with fail
  go_ret
  exact ⟨ag (by rw [HS.o,if_neg HN.o]; rfl),PB.o⟩
 go_wp2_with fail
 go_ret
 exact ⟨ag (by rw [HS.o,if_neg HN.o]; rfl),PB.o⟩

theorem nO (w:World) (v v':Value) (q r:Rat) (k:Nat)(h:FracAt k w v q) (h':FracAt k w v' r)(h0:0 < k)(hk:k <= 549755813888) :
  Calls Tryz.prog 34 #[v,v'] w fun e w'=>∃ u,e = .returned u/\CanNew w.heap.size w' u (q + r)/\Below w.heap.size w w':=by
 obtain ⟨s,vn,vd,ln,ld,n,d,rfl,h1,h2,h3,h4,h5,h6,h7,h8,h9⟩:=h.parts h0
 have H1:=aH h1
 have H2:=aH h2
 have H3:=aH h3
 have H4:=aH h4
 have H5:=aH h5
 have H6:=aH h6
 have H7:=aH h7
 have H8:=aH h8
 have H9:=aH h9
 clear h h1 h2 h3 h4 h5 h6 h7 h8 h9
 obtain ⟨t,vn',vd',ln',ld',n',d',rfl,h1,h2,h3,h4,h5,h6,h7,h8,h9⟩:=h'.parts h0
 have G1:=aH h1
 have G2:=aH h2
 have G3:=aH h3
 have G4:=aH h4
 have G5:=aH h5
 have G6:=aH h6
 have G7:=aH h7
 have G8:=aH h8
 have G9:=aH h9
 clear h' h1 h2 h3 h4 h5 h6 h7 h8 h9
 go_enter Tryz.func34,Tryz.ntmps34
 go_wp2_with fail
 obtain ⟨W,hW,P0,P1,P2,PB,Phs⟩:=box3 w 40 [.bool s,vn,vd] 40 [.bool t,vn',vd'] 40 [.bool false,.slice none 0 0,.slice none 0 0]
 rw [<- hW]
 clear hW
 obtain ⟨p0,p1,p2,_,_,_⟩:=P0.o.three
 obtain ⟨q0,q1,q2,_,_,_⟩:=P1.o.three
 have tok1:True:=trivial
 have tok2:True:=trivial
 have tok3:True:=trivial
 have tok4:True:=trivial
 have tok5:True:=trivial
 have tok6:True:=trivial
 have tok7:True:=trivial
 have tok8:True:=trivial
 have tok9:True:=trivial
 go_region_held3 (fun w'=>w'.cell? ⟨w.heap.size,0,none⟩ = some (.bool s)/\w'.cell? ⟨w.heap.size,1,none⟩ = some (vn)/\w'.cell? ⟨w.heap.size,2,none⟩ = some (vd)/\w'.cell? ⟨w.heap.size + 1,0,none⟩ = some (.bool t)/\w'.cell? ⟨w.heap.size + 1,1,none⟩ = some (vn')/\w'.cell? ⟨w.heap.size + 1,2,none⟩ = some (vd')) (first | assumption | (refine bF hS ?_ ?_ _ _ _ <;> omega) | go_keep)
  (first
   | (go_at_call_of 98 (vn); have _t:=tok1; refine (mh _ _ ln (H1.o.below (PB.o.trans (bS _)))).mono ?_; rintro e w1 ⟨v1,rfl,t1,hb1⟩; have S1:Hd (Below W.heap.size W w1):=aH (by first | exact hb1 | exact bO hb1); have hs1:W.heap.size <= w1.heap.size:=S1.o.size; have T1:=aH t1; have hS:=six (P0.o.below' S1.o) (P1.o.below' S1.o); rw [H3.o] at t1; have T1:=aH t1; clear t1 hb1 tok1 _t)
   | (go_at_call_of 99 (Value.agg #[.bool t,vn',vd']); have _t:=tok2; refine (oF w1 _ _ _ ld' d' ((G2.o.below PB.o).below S1.o) G4.o).mono ?_; rintro e w2 ⟨v2,rfl,t2,hb2⟩; have S2:Hd (Below w1.heap.size w1 w2):=aH hb2; have hs2:w1.heap.size <= w2.heap.size:=S2.o.size; have T2:=aH t2; have hS:=six (P0.o.below' (aa S1.o S2.o)) (P1.o.below' (aa S1.o S2.o)); clear t2 hb2 tok2 _t)
   | (go_at_call_of 97 (v1); have _t:=tok3; refine (jg w2 _ _ n d' k k (T1.o.below S2.o) T2.o H6.o G7.o (by omega) (by omega)).mono ?_; rintro e w3 ⟨v3,rfl,t3,hb3,_⟩; have S3:Hd (Below w2.heap.size w2 w3):=aH hb3; have hs3:w2.heap.size <= w3.heap.size:=S3.o.size; have T3:=aH t3; have hS:=six (P0.o.below' (aa (aa S1.o S2.o) S3.o)) (P1.o.below' (aa (aa S1.o S2.o) S3.o)); clear t3 hb3 tok3 _t)
   | (go_at_call_of 98 (vn'); have _t:=tok4; refine (mh w3 _ ln' ((G1.o.below PB.o).below (aa (aa S1.o S2.o) S3.o))).mono ?_; rintro e w4 ⟨v4,rfl,t4,hb4⟩; have S4:Hd (Below w3.heap.size w3 w4):=aH hb4; have hs4:w3.heap.size <= w4.heap.size:=S4.o.size; have T4:=aH t4; have hS:=six (P0.o.below' (aa (aa (aa S1.o S2.o) S3.o) S4.o)) (P1.o.below' (aa (aa (aa S1.o S2.o) S3.o) S4.o)); rw [G3.o] at t4; have T4:=aH t4; clear t4 hb4 tok4 _t)
   | (go_at_call_of 99 (Value.agg #[.bool s,vn,vd]); have _t:=tok5; refine (oF w4 _ _ _ ld d ((H2.o.below PB.o).below (aa (aa (aa S1.o S2.o) S3.o) S4.o)) H4.o).mono ?_; rintro e w5 ⟨v5,rfl,t5,hb5⟩; have S5:Hd (Below w4.heap.size w4 w5):=aH hb5; have hs5:w4.heap.size <= w5.heap.size:=S5.o.size; have T5:=aH t5; have hS:=six (P0.o.below' (aa (aa (aa (aa S1.o S2.o) S3.o) S4.o) S5.o)) (P1.o.below' (aa (aa (aa (aa S1.o S2.o) S3.o) S4.o) S5.o)); clear t5 hb5 tok5 _t)
   | (go_at_call_of 97 (v4); have _t:=tok6; refine (jg w5 _ _ n' d k k (T4.o.below S5.o) T5.o G6.o H7.o (by omega) (by omega)).mono ?_; rintro e w6 ⟨v6,rfl,t6,hb6,_⟩; have S6:Hd (Below w5.heap.size w5 w6):=aH hb6; have hs6:w5.heap.size <= w6.heap.size:=S6.o.size; have T6:=aH t6; have hS:=six (P0.o.below' (aa (aa (aa (aa (aa S1.o S2.o) S3.o) S4.o) S5.o) S6.o)) (P1.o.below' (aa (aa (aa (aa (aa S1.o S2.o) S3.o) S4.o) S5.o) S6.o)); clear t6 hb6 tok6 _t)
   | (go_at_call_of 99 (Value.agg #[.bool s,vn,vd]); have _t:=tok7; refine (oF w6 _ _ _ ld d ((H2.o.below PB.o).below (aa (aa (aa (aa (aa S1.o S2.o) S3.o) S4.o) S5.o) S6.o)) H4.o).mono ?_; rintro e w7 ⟨v7,rfl,t7,hb7⟩; have S7:Hd (Below w6.heap.size w6 w7):=aH hb7; have hs7:w6.heap.size <= w7.heap.size:=S7.o.size; have T7:=aH t7; have hS:=six (P0.o.below' (aa (aa (aa (aa (aa (aa S1.o S2.o) S3.o) S4.o) S5.o) S6.o) S7.o)) (P1.o.below' (aa (aa (aa (aa (aa (aa S1.o S2.o) S3.o) S4.o) S5.o) S6.o) S7.o)); clear t7 hb7 tok7 _t)
   | (go_at_call_of 99 (Value.agg #[.bool t,vn',vd']); have _t:=tok8; refine (oF w7 _ _ _ ld' d' ((G2.o.below PB.o).below (aa (aa (aa (aa (aa (aa S1.o S2.o) S3.o) S4.o) S5.o) S6.o) S7.o)) G4.o).mono ?_; rintro e w8 ⟨v8,rfl,t8,hb8⟩; have S8:Hd (Below w7.heap.size w7 w8):=aH hb8; have hs8:w7.heap.size <= w8.heap.size:=S8.o.size; have T8:=aH t8; have hS:=six (P0.o.below' (aa (aa (aa (aa (aa (aa (aa S1.o S2.o) S3.o) S4.o) S5.o) S6.o) S7.o) S8.o)) (P1.o.below' (aa (aa (aa (aa (aa (aa (aa S1.o S2.o) S3.o) S4.o) S5.o) S6.o) S7.o) S8.o)); clear t8 hb8 tok8 _t)
   | (go_at_call_of 97 (v7); have _t:=tok9; refine (jg w8 _ _ d d' k k (T7.o.below S8.o) T8.o H7.o G7.o (by omega) (by omega)).mono ?_; rintro e w9 ⟨v9,rfl,t9,hb9,_⟩; have S9:Hd (Below w8.heap.size w8 w9):=aH hb9; have hs9:w8.heap.size <= w9.heap.size:=S9.o.size; have T9:=aH t9; have hS:=six (P0.o.below' (aa (aa (aa (aa (aa (aa (aa (aa S1.o S2.o) S3.o) S4.o) S5.o) S6.o) S7.o) S8.o) S9.o)) (P1.o.below' (aa (aa (aa (aa (aa (aa (aa (aa S1.o S2.o) S3.o) S4.o) S5.o) S6.o) S7.o) S8.o) S9.o)); clear t9 hb9 tok9 _t))
 have PP0:=aH (P0.o.below' (aa (aa (aa (aa (aa (aa (aa (aa S1.o S2.o) S3.o) S4.o) S5.o) S6.o) S7.o) S8.o) S9.o))
 have PP1:=aH (P1.o.below' (aa (aa (aa (aa (aa (aa (aa (aa S1.o S2.o) S3.o) S4.o) S5.o) S6.o) S7.o) S8.o) S9.o))
 clear p0 p1 p2 q0 q1 q2
 obtain ⟨p0,p1,p2,_,_,_⟩:=PP0.o.three
 obtain ⟨q0,q1,q2,_,_,_⟩:=PP1.o.three
 by_cases hst:s = t
 ·subst hst
  have HQ:Hd (q + r = mkRat (sgn s (n * d' + n' * d)) (d * d')):=aH (by rw [H5.o,G5.o,j6 s (by have:=H8.o; omega) (by have:=G8.o; omega)])
  go_wp2_with fail
  go_region_held3 (fun w'=>w'.cell? ⟨w.heap.size,0,none⟩ = some (.bool s)/\w'.cell? ⟨w.heap.size,1,none⟩ = some (vn)/\w'.cell? ⟨w.heap.size,2,none⟩ = some (vd)/\w'.cell? ⟨w.heap.size + 1,0,none⟩ = some (.bool s)/\w'.cell? ⟨w.heap.size + 1,1,none⟩ = some (vn')/\w'.cell? ⟨w.heap.size + 1,2,none⟩ = some (vd')) (first | assumption | (refine bF hS ?_ ?_ _ _ _ <;> omega) | go_keep)
   (first
    | (go_at_call 100; refine (mQ _ _ _ (n * d') (n' * d) (k + k) ((((((((T3.o.below S4.o).below S5.o).below S6.o).below S7.o).below S8.o).below S9.o)).drew) (((((T6.o.below S7.o).below S8.o).below S9.o)).drew) (aE H6.o G7.o) (aE G6.o H7.o) (by omega)).mono ?_; rintro e w10 ⟨v10,rfl,t10,hb10,_⟩; have S10:Hd (Below w9.heap.size w9 w10):=aH (by first | exact hb10 | exact bO hb10); have hs10:w9.heap.size <= w10.heap.size:=S10.o.size; have T10:=aH t10; have hS:=six (P0.o.below' (aa (aa (aa (aa (aa (aa (aa (aa (aa S1.o S2.o) S3.o) S4.o) S5.o) S6.o) S7.o) S8.o) S9.o) S10.o)) (P1.o.below' (aa (aa (aa (aa (aa (aa (aa (aa (aa S1.o S2.o) S3.o) S4.o) S5.o) S6.o) S7.o) S8.o) S9.o) S10.o)); clear t10 hb10)
    | (go_at_call 94; refine (iL w10 s _ _ (n * d' + n' * d) (d * d') (k + k + 1) T10.o (T9.o.below S10.o) (by have h1:=aE H6.o G7.o; have h2:=aE G6.o H7.o; rw [Nat.pow_succ]; omega) (by have:=aE H7.o G7.o; rw [Nat.pow_succ]; omega) (Nat.mul_pos H8.o G8.o) (by omega) (by omega)).mono ?_; rintro e w11 ⟨v11,rfl,t11,hb11⟩; have S11:Hd (Below w10.heap.size w10 w11):=aH hb11; have hs11:w10.heap.size <= w11.heap.size:=S11.o.size; have T11:=aH t11; have hS:=six (P0.o.below' (aa (aa (aa (aa (aa (aa (aa (aa (aa (aa S1.o S2.o) S3.o) S4.o) S5.o) S6.o) S7.o) S8.o) S9.o) S10.o) S11.o)) (P1.o.below' (aa (aa (aa (aa (aa (aa (aa (aa (aa (aa S1.o S2.o) S3.o) S4.o) S5.o) S6.o) S7.o) S8.o) S9.o) S10.o) S11.o)); obtain ⟨A,m,c,A',m',c',rfl,ta,tb,tc,td⟩:=t11.open_; obtain ⟨r0,r1,r2,z0,z1,z2⟩:=(P2.o.below' (aa (aa (aa (aa (aa (aa (aa (aa (aa (aa S1.o S2.o) S3.o) S4.o) S5.o) S6.o) S7.o) S8.o) S9.o) S10.o) S11.o)).three; have TA:=aH ta; have TB:=aH tb; have TC:=aH tc; have TD:=aH td; clear ta tb tc td; clear t11 hb11))
  go_wp2_with fail
  refine bodyPost_ret (v:=.agg #[.bool (ae (mkRat (sgn s (n * d' + n' * d)) (d * d'))),.slice A m c,.slice A' m' c']) (by simp [results,Tryz.results34,go_sem,r0,r1,r2]) rfl ⟨_,rfl,?_,af (PB.o.trans (((aa (aa (aa (aa (aa (aa (aa (aa (aa (aa S1.o S2.o) S3.o) S4.o) S5.o) S6.o) S7.o) S8.o) S9.o) S10.o) S11.o)).mono (by omega))) (by omega) _ _ _⟩
  rw [HQ.o]
  exact (CanNew.box3 TA.o TB.o TC.o TD.o (by omega) _ _ _).mono (by omega)
 have hst':(s == t) = false:=by cases s <;> cases t <;> simp_all
 have HST:=aH hst
 clear hst
 rcases Nat.lt_or_ge (n * d') (n' * d) with hlt | hge
 ·have HQ:Hd (q + r = mkRat (sgn t (n' * d - n * d')) (d * d')):=aH (by rw [H5.o,G5.o,j8 HST.o (by have:=H8.o; omega) (by have:=G8.o; omega) hlt])
  have OC:=jz w9 _ _ _ _ ((((((T3.o.below S4.o).below S5.o).below S6.o).below S7.o).below S8.o).below S9.o) (((T6.o.below S7.o).below S8.o).below S9.o)
  rw [d9 hlt] at OC
  have HLT:=aH hlt
  clear hlt
  go_wp2_with fail
  refine OC.mono ?_
  rintro e wo ⟨rfl,nd,rfl⟩
  obtain ⟨V9,hV9⟩:∃ V,V = w9.drewN nd:=⟨_,rfl⟩
  have S10':Hd (Below w9.heap.size w9 V9):=aH (by rw [hV9]; exact ak (Below.refl _ _) nd)
  have U3:=aH ((((((((T3.o.below S4.o).below S5.o).below S6.o).below S7.o).below S8.o).below S9.o)).below S10'.o)
  have U6:=aH (((((T6.o.below S7.o).below S8.o).below S9.o)).below S10'.o)
  have T9':=aH (T9.o.below S10'.o)
  have S9':=aH (aa S9.o S10'.o)
  have PP0':=aH (PP0.o.below' S10'.o)
  have PP1':=aH (PP1.o.below' S10'.o)
  have hs9':w8.heap.size <= V9.heap.size:=S9'.o.size
  rw [<- hV9]
  clear hV9 S10' T9 S9 PP0 PP1 p0 p1 p2 q0 q1 q2 hs9 T3 T6
  have T9:=T9'
  have S9:=S9'
  have hs9:=hs9'
  have PP0:=PP0'
  have PP1:=PP1'
  obtain ⟨w9,rfl⟩:∃ w9,w9 = V9:=⟨_,rfl⟩
  clear T9' S9' PP0' PP1' hs9'
  obtain ⟨p0,p1,p2,_,_,_⟩:=PP0.o.three
  obtain ⟨q0,q1,q2,_,_,_⟩:=PP1.o.three
  go_wp2_with fail
  go_region_held3 (fun w'=>w'.cell? ⟨w.heap.size,0,none⟩ = some (.bool s)/\w'.cell? ⟨w.heap.size,1,none⟩ = some (vn)/\w'.cell? ⟨w.heap.size,2,none⟩ = some (vd)/\w'.cell? ⟨w.heap.size + 1,0,none⟩ = some (.bool t)/\w'.cell? ⟨w.heap.size + 1,1,none⟩ = some (vn')/\w'.cell? ⟨w.heap.size + 1,2,none⟩ = some (vd')) (first | assumption | (refine bF hS ?_ ?_ _ _ _ <;> omega) | go_keep)
   (first
    | (go_at_call 102; refine (gK _ _ _ (n' * d) (n * d') (k + k) (U6.o.drew) (U3.o.drew) (aE G6.o H7.o) (Nat.le_of_lt HLT.o) (by omega)).mono ?_; rintro e w10 ⟨v10,rfl,t10,hb10,_⟩; have S10:Hd (Below w9.heap.size w9 w10):=aH (by first | exact hb10 | exact bO hb10); have hs10:w9.heap.size <= w10.heap.size:=S10.o.size; have T10:=aH t10; have hS:=six (P0.o.below' (aa (aa (aa (aa (aa (aa (aa (aa (aa S1.o S2.o) S3.o) S4.o) S5.o) S6.o) S7.o) S8.o) S9.o) S10.o)) (P1.o.below' (aa (aa (aa (aa (aa (aa (aa (aa (aa S1.o S2.o) S3.o) S4.o) S5.o) S6.o) S7.o) S8.o) S9.o) S10.o)); clear t10 hb10)
    | (go_at_call 94; refine (iL w10 t _ _ (n' * d - n * d') (d * d') (k + k + 1) T10.o (T9.o.below S10.o) (by have h2:=aE G6.o H7.o; rw [Nat.pow_succ]; omega) (by have:=aE H7.o G7.o; rw [Nat.pow_succ]; omega) (Nat.mul_pos H8.o G8.o) (by omega) (by omega)).mono ?_; rintro e w11 ⟨v11,rfl,t11,hb11⟩; have S11:Hd (Below w10.heap.size w10 w11):=aH hb11; have hs11:w10.heap.size <= w11.heap.size:=S11.o.size; have T11:=aH t11; have hS:=six (P0.o.below' (aa (aa (aa (aa (aa (aa (aa (aa (aa (aa S1.o S2.o) S3.o) S4.o) S5.o) S6.o) S7.o) S8.o) S9.o) S10.o) S11.o)) (P1.o.below' (aa (aa (aa (aa (aa (aa (aa (aa (aa (aa S1.o S2.o) S3.o) S4.o) S5.o) S6.o) S7.o) S8.o) S9.o) S10.o) S11.o)); obtain ⟨A,m,c,A',m',c',rfl,ta,tb,tc,td⟩:=t11.open_; obtain ⟨r0,r1,r2,z0,z1,z2⟩:=(P2.o.below' (aa (aa (aa (aa (aa (aa (aa (aa (aa (aa S1.o S2.o) S3.o) S4.o) S5.o) S6.o) S7.o) S8.o) S9.o) S10.o) S11.o)).three; have TA:=aH ta; have TB:=aH tb; have TC:=aH tc; have TD:=aH td; clear ta tb tc td; clear t11 hb11))
  go_wp2_with fail
  refine bodyPost_ret (v:=.agg #[.bool (ae (mkRat (sgn t (n' * d - n * d')) (d * d'))),.slice A m c,.slice A' m' c']) (by simp [results,Tryz.results34,go_sem,r0,r1,r2]) rfl ⟨_,rfl,?_,af (PB.o.trans (((aa (aa (aa (aa (aa (aa (aa (aa (aa (aa S1.o S2.o) S3.o) S4.o) S5.o) S6.o) S7.o) S8.o) S9.o) S10.o) S11.o)).mono (by omega))) (by omega) _ _ _⟩
  rw [HQ.o]
  exact (CanNew.box3 TA.o TB.o TC.o TD.o (by omega) _ _ _).mono (by omega)
 have HQ:Hd (q + r = mkRat (sgn s (n * d' - n' * d)) (d * d')):=aH (by rw [H5.o,G5.o,j7 HST.o (by have:=H8.o; omega) (by have:=G8.o; omega) hge])
 obtain ⟨z,hz,hz0⟩:∃ z,dX (n * d') (n' * d) = z/\decide (0 <= z) = true:=⟨_,rfl,dT (by unfold dX; rw [if_neg (by omega)]; split <;> omega)⟩
 have OC:=jz w9 _ _ _ _ ((((((T3.o.below S4.o).below S5.o).below S6.o).below S7.o).below S8.o).below S9.o) (((T6.o.below S7.o).below S8.o).below S9.o)
 rw [hz] at OC
 have HGE:=aH hge
 clear hge hz
 go_wp2_with fail
 refine OC.mono ?_
 rintro e wo ⟨rfl,nd,rfl⟩
 obtain ⟨V9,hV9⟩:∃ V,V = w9.drewN nd:=⟨_,rfl⟩
 have S10':Hd (Below w9.heap.size w9 V9):=aH (by rw [hV9]; exact ak (Below.refl _ _) nd)
 have U3:=aH ((((((((T3.o.below S4.o).below S5.o).below S6.o).below S7.o).below S8.o).below S9.o)).below S10'.o)
 have U6:=aH (((((T6.o.below S7.o).below S8.o).below S9.o)).below S10'.o)
 have T9':=aH (T9.o.below S10'.o)
 have S9':=aH (aa S9.o S10'.o)
 have PP0':=aH (PP0.o.below' S10'.o)
 have PP1':=aH (PP1.o.below' S10'.o)
 have hs9':w8.heap.size <= V9.heap.size:=S9'.o.size
 rw [<- hV9]
 clear hV9 S10' T9 S9 PP0 PP1 p0 p1 p2 q0 q1 q2 hs9 T3 T6
 have T9:=T9'
 have S9:=S9'
 have hs9:=hs9'
 have PP0:=PP0'
 have PP1:=PP1'
 obtain ⟨w9,rfl⟩:∃ w9,w9 = V9:=⟨_,rfl⟩
 clear T9' S9' PP0' PP1' hs9'
 obtain ⟨p0,p1,p2,_,_,_⟩:=PP0.o.three
 obtain ⟨q0,q1,q2,_,_,_⟩:=PP1.o.three
 go_wp2_with fail
 go_region_held3 (fun w'=>w'.cell? ⟨w.heap.size,0,none⟩ = some (.bool s)/\w'.cell? ⟨w.heap.size,1,none⟩ = some (vn)/\w'.cell? ⟨w.heap.size,2,none⟩ = some (vd)/\w'.cell? ⟨w.heap.size + 1,0,none⟩ = some (.bool t)/\w'.cell? ⟨w.heap.size + 1,1,none⟩ = some (vn')/\w'.cell? ⟨w.heap.size + 1,2,none⟩ = some (vd')) (first | assumption | (refine bF hS ?_ ?_ _ _ _ <;> omega) | go_keep)
  (first
   | (go_at_call 102; refine (gK _ _ _ (n * d') (n' * d) (k + k) (U3.o.drew) (U6.o.drew) (aE H6.o G7.o) HGE.o (by omega)).mono ?_; rintro e w10 ⟨v10,rfl,t10,hb10,_⟩; have S10:Hd (Below w9.heap.size w9 w10):=aH (by first | exact hb10 | exact bO hb10); have hs10:w9.heap.size <= w10.heap.size:=S10.o.size; have T10:=aH t10; have hS:=six (P0.o.below' (aa (aa (aa (aa (aa (aa (aa (aa (aa S1.o S2.o) S3.o) S4.o) S5.o) S6.o) S7.o) S8.o) S9.o) S10.o)) (P1.o.below' (aa (aa (aa (aa (aa (aa (aa (aa (aa S1.o S2.o) S3.o) S4.o) S5.o) S6.o) S7.o) S8.o) S9.o) S10.o)); clear t10 hb10)
   | (go_at_call 94; refine (iL w10 s _ _ (n * d' - n' * d) (d * d') (k + k + 1) T10.o (T9.o.below S10.o) (by have h2:=aE H6.o G7.o; rw [Nat.pow_succ]; omega) (by have:=aE H7.o G7.o; rw [Nat.pow_succ]; omega) (Nat.mul_pos H8.o G8.o) (by omega) (by omega)).mono ?_; rintro e w11 ⟨v11,rfl,t11,hb11⟩; have S11:Hd (Below w10.heap.size w10 w11):=aH hb11; have hs11:w10.heap.size <= w11.heap.size:=S11.o.size; have T11:=aH t11; have hS:=six (P0.o.below' (aa (aa (aa (aa (aa (aa (aa (aa (aa (aa S1.o S2.o) S3.o) S4.o) S5.o) S6.o) S7.o) S8.o) S9.o) S10.o) S11.o)) (P1.o.below' (aa (aa (aa (aa (aa (aa (aa (aa (aa (aa S1.o S2.o) S3.o) S4.o) S5.o) S6.o) S7.o) S8.o) S9.o) S10.o) S11.o)); obtain ⟨A,m,c,A',m',c',rfl,ta,tb,tc,td⟩:=t11.open_; obtain ⟨r0,r1,r2,z0,z1,z2⟩:=(P2.o.below' (aa (aa (aa (aa (aa (aa (aa (aa (aa (aa S1.o S2.o) S3.o) S4.o) S5.o) S6.o) S7.o) S8.o) S9.o) S10.o) S11.o)).three; have TA:=aH ta; have TB:=aH tb; have TC:=aH tc; have TD:=aH td; clear ta tb tc td; clear t11 hb11))
 go_wp2_with fail
 refine bodyPost_ret (v:=.agg #[.bool (ae (mkRat (sgn s (n * d' - n' * d)) (d * d'))),.slice A m c,.slice A' m' c']) (by simp [results,Tryz.results34,go_sem,r0,r1,r2]) rfl ⟨_,rfl,?_,af (PB.o.trans (((aa (aa (aa (aa (aa (aa (aa (aa (aa (aa S1.o S2.o) S3.o) S4.o) S5.o) S6.o) S7.o) S8.o) S9.o) S10.o) S11.o)).mono (by omega))) (by omega) _ _ _⟩
 rw [HQ.o]
 exact (CanNew.box3 TA.o TB.o TC.o TD.o (by omega) _ _ _).mono (by omega)
end Go.Proofs.YtjebfdfkjlkifaaGreat
