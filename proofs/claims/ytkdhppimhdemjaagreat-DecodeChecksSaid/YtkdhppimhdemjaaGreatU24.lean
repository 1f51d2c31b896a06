/- Lemmas on the way: Ref14, Ref15. -/
import Derived.Test.YtkdhppimhdemjaaGreatU23
set_option linter.all false
set_option maxRecDepth 1000000
set_option maxHeartbeats 32000000
namespace Go.Proofs.YtkdhppimhdemjaaGreat
open Go.RowKit
theorem aa {w w1 w2:World} (h1:Below w.heap.size w w1)(h2:Below w1.heap.size w1 w2):Below w.heap.size w w2:=h1.trans (h2.mono h1.size)

theorem J8 (w:World) (v:Value) (l:List Nat)(hd:bW w v l) :
  Calls Tryz.prog 55 #[v] w fun e w'=>∃ v',e = .returned v'/\ab w' v' (val l)/\Below w.heap.size w w':=by
 refine (iM w v l hd).mono ?_
 rintro e w1 ⟨hw,v',rfl,h1,_⟩
 cases hw
 exact ⟨v',rfl,h1,Below.refl _ _⟩

theorem ab.digs {w:World} {v:Value} {n:Nat} (h:ab w v n):∃ l,bW w v l/\val l = n:=by
 obtain ⟨l,d,_,e⟩:=h
 exact ⟨l,d,e⟩

theorem uV (w:World) (neg:Bool) (vn vd:Value) (n d k:Nat)(hn:ab w vn n)(hd:ab w vd d) (qn:n < 2 ^ k) (qd:d < 2 ^ k) (d0:0 < d)(h0:0 < k)(hk:k <= 17592186044416) :
  Calls Tryz.prog 63 #[.bool neg,vn,vd] w fun e w'=>∃ v',e = .returned v'/\ay w.heap.size w' v' (mkRat (dV neg n) d)/\Below w.heap.size w w':=by
 obtain ⟨ln,dn,rfl⟩:=hn.digs
 obtain ⟨ld,dd,rfl⟩:=hd.digs
 refine (uU w neg vn vd ln ld k dn dd qn qd h0 hk).mono ?_
 unfold bX
 rw [if_neg (by omega)]
 exact fun _ _ h=>h

theorem az.parts {k:Nat} {w:World} {v:Value} {q:Rat} (h:az k w v q)(h0:0 < k):∃ s vn vd ln ld n d,v = .agg #[.bool s,vn,vd]/\bW w vn ln/\bW w vd ld/\val ln = n/\(if val ld = 0 then 1 else val ld) = d/\q = mkRat (dV s n) d/\n < 2 ^ k/\d < 2 ^ k/\0 < d/\val ld < 2 ^ k:=by
 obtain ⟨s,vn,vd,ln,ld,rfl,h1,h2,h3,h4,h5,_,_⟩:=h
 have:=Nat.one_lt_two_pow (n:=k) (by omega)
 exact ⟨s,vn,vd,ln,ld,_,_,rfl,h1,h2,rfl,rfl,h3,h4,by split <;> omega,by split <;> omega,h5⟩

theorem Hr (s:Bool) (n:Nat):dV (!s) n = - dV s n:=by cases s <;> simp [dV]
theorem CB (s:Bool) (n d:Nat):-(mkRat (dV s n) d) = mkRat (dV (!s) n) d:=by rw [Hr,Rat.neg_mkRat]
theorem kp (s:Bool) {a b:Nat} (hb:b ≠ 0):mkRat (dV s a) b = 0 ↔ a = 0:=by
 rw [Rat.mkRat_eq_zero hb]
 cases s <;> simp [dV]

theorem IA (w:World) (s vn vd:Value) (ld:List Nat) (d:Nat)(hd:bW w vd ld) (e0:(if val ld = 0 then 1 else val ld) = d) :
  Calls Tryz.prog 159 #[.agg #[s,vn,vd]] w fun e w'=>∃ v',e = .returned v'/\ab w' v' d/\Below w.heap.size w w':=by
 have HD:=Lib.hid hd
 have HE:=Lib.hid e0
 clear hd e0
 go_enter Tryz.func159,Tryz.ntmps159
 go_wp2_with fail
 obtain ⟨W,hW,P0,PB,Phs⟩:=eU w 30 [s,vn,vd]
 rw [<- hW]
 clear hW
 obtain ⟨p0,p1,p2,_,_,_⟩:=P0.out.three
 go_wp2_with fail
 refine (iM W vd ld (HD.out.below PB.out)).mono ?_
 rintro e w1 ⟨hw1,v1,rfl,t1,_,_⟩
 cases hw1
 have T1:=Lib.hid t1
 obtain ⟨A,m,c,rfl,hm,hm0⟩:=t1.len
 clear t1
 by_cases h0:m = 0
 ·have hd0:val ld = 0:=by omega
  subst h0
  have HX:Hid (d = 1):=Lib.hid (by rw [<- HE.out,if_pos hd0])
  clear hm0 hd0
  go_wp2_with fail
  go_ret
  refine ⟨_,rfl,⟨[1],⟨?_,Ok.cons.2 ⟨by omega,Ok.nil⟩⟩,by simp [cS],by rw [HX.out]; rfl⟩,PB.out.alloc (by omega) _⟩
  exact Sl.one _ _ _
 have hz:((m:Int) == 0) = false:=by simp; omega
 have HX:Hid (val ld = d):=Lib.hid (by rw [<- HE.out,if_neg (by omega)])
 clear hm0
 go_wp2_with fail
 go_ret
 exact ⟨_,rfl,by rw [<- HX.out]; exact T1.out,PB.out⟩

theorem LI (w:World) (v:Value) (q:Rat) (k:Nat)(h:az k w v q)(h0:0 < k)(hk:k <= 17592186044416) :
  Calls Tryz.prog 308 #[v] w fun e w'=>∃ v',e = .returned v'/\ay w.heap.size w' v' (q)/\Below w.heap.size w w':=by
 obtain ⟨s,vn,vd,ln,ld,n,d,rfl,h1,h2,h3,h4,h5,h6,h7,h8,h9⟩:=h.parts h0
 have H1:=Lib.hid h1
 have H2:=Lib.hid h2
 have H3:=Lib.hid h3
 have H4:=Lib.hid h4
 have H5:=Lib.hid h5
 have H6:=Lib.hid h6
 have H7:=Lib.hid h7
 have H8:=Lib.hid h8
 have H9:=Lib.hid h9
 clear h h1 h2 h3 h4 h5 h6 h7 h8 h9
 have HQ:Hid (q = bX s (val ln) (val ld)):=Lib.hid (by rw [H5.out,<- H4.out,<- H3.out]; rfl)
 rw [HQ.out]
 go_enter Tryz.func308,Tryz.ntmps308
 go_wp2_with fail
 obtain ⟨W,hW,P0,P1,PB,Phs⟩:=jz w 30 [.bool s,vn,vd] 30 [.bool false,.slice none 0 0,.slice none 0 0]
 rw [<- hW]
 clear hW
 obtain ⟨p0,p1,p2,_,_,_⟩:=P0.out.three
 go_wp2_with fail
 refine (uU W s _ _ ln ld k (H1.out.below PB.out) (H2.out.below PB.out) (by rw [H3.out]; exact H6.out) H9.out h0 hk).mono ?_
 rintro e w1 ⟨v1,rfl,t1,hb1⟩
 have T1:=Lib.hid t1
 have S1:Hid (Below W.heap.size W w1):=Lib.hid hb1
 have hs1:W.heap.size <= w1.heap.size:=hb1.size
 obtain ⟨A,m,c,A',m',c',rfl,ta,tb,tc,td⟩:=t1.open_
 obtain ⟨r0,r1,r2,z0,z1,z2⟩:=(P1.out.below' S1.out).three
 have TA:=Lib.hid ta
 have TB:=Lib.hid tb
 have TC:=Lib.hid tc
 have TD:=Lib.hid td
 clear ta tb tc td
 clear t1 hb1
 go_wp2_with fail
 refine bodyPost_ret (v:=.agg #[.bool (ap (bX s (val ln) (val ld))),.slice A m c,.slice A' m' c']) (by simp [results,Tryz.results308,go_sem,r0,r1,r2]) rfl ⟨_,rfl,?_,ar (PB.out.trans ((S1.out).mono (by omega))) (by omega) _ _ _⟩
 exact (ay.box3 TA.out TB.out TC.out TD.out (by omega) _ _ _).mono (by omega)

theorem Ov (w:World) (v:Value) (q:Rat) (k:Nat)(h:az k w v q)(h0:0 < k)(hk:k <= 17592186044416) :
  Calls Tryz.prog 176 #[v] w fun e w'=>∃ v',e = .returned v'/\ay w.heap.size w' v' (-q)/\Below w.heap.size w w':=by
 obtain ⟨s,vn,vd,ln,ld,n,d,rfl,h1,h2,h3,h4,h5,h6,h7,h8,h9⟩:=h.parts h0
 have H1:=Lib.hid h1
 have H2:=Lib.hid h2
 have H3:=Lib.hid h3
 have H4:=Lib.hid h4
 have H5:=Lib.hid h5
 have H6:=Lib.hid h6
 have H7:=Lib.hid h7
 have H8:=Lib.hid h8
 have H9:=Lib.hid h9
 clear h h1 h2 h3 h4 h5 h6 h7 h8 h9
 have HQ:Hid (-q = bX (!s) (val ln) (val ld)):=Lib.hid (by rw [H5.out,CB,<- H4.out,<- H3.out]; rfl)
 rw [HQ.out]
 go_enter Tryz.func176,Tryz.ntmps176
 go_wp2_with fail
 obtain ⟨W,hW,P0,P1,PB,Phs⟩:=jz w 30 [.bool s,vn,vd] 30 [.bool false,.slice none 0 0,.slice none 0 0]
 rw [<- hW]
 clear hW
 obtain ⟨p0,p1,p2,_,_,_⟩:=P0.out.three
 go_wp2_with fail
 refine (uU W (!s) _ _ ln ld k (H1.out.below PB.out) (H2.out.below PB.out) (by rw [H3.out]; exact H6.out) H9.out h0 hk).mono ?_
 rintro e w1 ⟨v1,rfl,t1,hb1⟩
 have T1:=Lib.hid t1
 have S1:Hid (Below W.heap.size W w1):=Lib.hid hb1
 have hs1:W.heap.size <= w1.heap.size:=hb1.size
 obtain ⟨A,m,c,A',m',c',rfl,ta,tb,tc,td⟩:=t1.open_
 obtain ⟨r0,r1,r2,z0,z1,z2⟩:=(P1.out.below' S1.out).three
 have TA:=Lib.hid ta
 have TB:=Lib.hid tb
 have TC:=Lib.hid tc
 have TD:=Lib.hid td
 clear ta tb tc td
 clear t1 hb1
 go_wp2_with fail
 refine bodyPost_ret (v:=.agg #[.bool (ap (bX (!s) (val ln) (val ld))),.slice A m c,.slice A' m' c']) (by simp [results,Tryz.results176,go_sem,r0,r1,r2]) rfl ⟨_,rfl,?_,ar (PB.out.trans ((S1.out).mono (by omega))) (by omega) _ _ _⟩
 exact (ay.box3 TA.out TB.out TC.out TD.out (by omega) _ _ _).mono (by omega)
theorem rS (s:Bool) {a b c d:Nat} (hb:b ≠ 0)(hd:d ≠ 0):mkRat (dV s a) b + mkRat (dV s c) d = mkRat (dV s (a * d + c * b)) (b * d):=by
 rw [Rat.mkRat_add_mkRat _ _ hb hd]
 congr 1
 unfold dV
 cases s <;> simp [Int.natCast_mul,Int.natCast_add,Int.neg_mul] <;> omega
theorem rT {s t:Bool} {a b c d:Nat} (hst:s ≠ t)(hb:b ≠ 0)(hd:d ≠ 0)(h:c * b <= a * d):mkRat (dV s a) b + mkRat (dV t c) d = mkRat (dV s (a * d - c * b)) (b * d):=by
 rw [Rat.mkRat_add_mkRat _ _ hb hd]
 congr 1
 unfold dV
 cases s <;> cases t <;> simp_all [Int.neg_mul] <;> rw [Int.natCast_sub (by omega)] <;> simp [Int.natCast_mul] <;> omega
theorem rU {s t:Bool} {a b c d:Nat} (hst:s ≠ t)(hb:b ≠ 0)(hd:d ≠ 0)(h:a * d < c * b):mkRat (dV s a) b + mkRat (dV t c) d = mkRat (dV t (c * b - a * d)) (b * d):=by
 rw [Rat.mkRat_add_mkRat _ _ hb hd]
 congr 1
 unfold dV
 cases s <;> cases t <;> simp_all [Int.neg_mul] <;> rw [Int.natCast_sub (by omega)] <;> simp [Int.natCast_mul] <;> omega

theorem NW (w:World) (n:Nat)(hn:n < 9223372036854775808) :
  Calls Tryz.prog 17 #[.int .i64 (n:Int)] w fun e w'=>∃ u,e = .returned u/\ay w.heap.size w' u (n:Rat)/\Below w.heap.size w w':=by
 have HQ:Hid ((n:Rat) = mkRat (dV false n) 1):=Lib.hid (by simp only [dV,Bool.false_eq_true,if_false,Rat.mkRat_one]; exact (Rat.intCast_natCast n).symm)
 rw [HQ.out]
 have hlt:decide ((n:Int) < 0) = false:=decide_eq_false (by omega)
 go_enter Tryz.func17,Tryz.ntmps17
 go_wp2_with fail
 obtain ⟨W,hW,P0,PB,Phs⟩:=eU w 30 [.bool false,.slice none 0 0,.slice none 0 0]
 rw [<- hW]
 clear hW
 refine (En W n hn).mono ?_
 rintro e wz ⟨hwz,rfl⟩
 cases hwz
 go_wp2_with fail
 refine (qW W n (by omega)).mono ?_
 rintro e w1 ⟨v1,rfl,t1,hb1⟩
 have T1:=Lib.hid t1
 have S1:Hid (Below W.heap.size W w1):=Lib.hid hb1
 have hs1:W.heap.size <= w1.heap.size:=hb1.size
 clear t1 hb1
 go_wp2_with fail
 have M1:Hid (Calls Tryz.prog 63 #[.bool false,v1,.slice none 0 0] w1 fun e w'=>∃ v',e = .returned v'/\ay w1.heap.size w' v' (mkRat (dV false n) 1)/\Below w1.heap.size w1 w'):=Lib.hid (by
  obtain ⟨l,dl,rfl⟩:=T1.out.digs
  exact uU w1 false v1 _ l [] 64 dl (bW.nil_ _) (by omega) (by simp [val]) (by omega) (by omega))
 refine (M1.out).mono ?_
 rintro e w2 ⟨v2,rfl,t2,hb2⟩
 have T2:=Lib.hid t2
 have S2:Hid (Below w1.heap.size w1 w2):=Lib.hid hb2
 have hs2:w1.heap.size <= w2.heap.size:=hb2.size
 obtain ⟨A,m,c,A',m',c',rfl,ta,tb,tc,td⟩:=t2.open_
 obtain ⟨r0,r1,r2,z0,z1,z2⟩:=(P0.out.below' (aa S1.out S2.out)).three
 have TA:=Lib.hid ta
 have TB:=Lib.hid tb
 have TC:=Lib.hid tc
 have TD:=Lib.hid td
 clear ta tb tc td
 clear t2 hb2
 go_wp2_with fail
 refine bodyPost_ret (v:=.agg #[.bool (ap (mkRat (dV false n) 1)),.slice A m c,.slice A' m' c']) (by simp [results,Tryz.results17,go_sem,r0,r1,r2]) rfl ⟨_,rfl,?_,ar (PB.out.trans (((aa S1.out S2.out)).mono (by omega))) (by omega) _ _ _⟩
 exact (ay.box3 TA.out TB.out TC.out TD.out (by omega) _ _ _).mono (by omega)

theorem Ni (w:World) (n d:Nat)(hn:n < 9223372036854775808)(hd:d < 9223372036854775808) (d0:0 < d) :
  Calls Tryz.prog 31 #[.int .i64 (n:Int),.int .i64 (d:Int)] w fun e w'=>∃ u,e = .returned u/\ay w.heap.size w' u ((n:Rat) / (d:Rat))/\Below w.heap.size w w':=by
 have HQ:Hid ((n:Rat) / (d:Rat) = mkRat (dV false n) d):=Lib.hid (by simp only [dV,Bool.false_eq_true,if_false,Rat.mkRat_eq_div]; rw [Rat.intCast_natCast n])
 rw [HQ.out]
 have hlt:decide ((n:Int) < 0) = false:=decide_eq_false (by omega)
 have hlt':decide ((d:Int) < 0) = false:=decide_eq_false (by omega)
 go_enter Tryz.func31,Tryz.ntmps31
 go_wp2_with fail
 obtain ⟨W,hW,P0,PB,Phs⟩:=eU w 30 [.bool false,.slice none 0 0,.slice none 0 0]
 rw [<- hW]
 clear hW
 refine (En W n hn).mono ?_
 rintro e wz ⟨hwz,rfl⟩
 cases hwz
 go_wp2_with fail
 refine (qW W n (by omega)).mono ?_
 rintro e w1 ⟨v1,rfl,t1,hb1⟩
 have T1:=Lib.hid t1
 have S1:Hid (Below W.heap.size W w1):=Lib.hid hb1
 have hs1:W.heap.size <= w1.heap.size:=hb1.size
 clear t1 hb1
 go_wp2_with fail
 refine (En w1 d hd).mono ?_
 rintro e wz ⟨hwz,rfl⟩
 cases hwz
 go_wp2_with fail
 refine (qW w1 d (by omega)).mono ?_
 rintro e w2 ⟨v2,rfl,t2,hb2⟩
 have T2:=Lib.hid t2
 have S2:Hid (Below w1.heap.size w1 w2):=Lib.hid hb2
 have hs2:w1.heap.size <= w2.heap.size:=hb2.size
 clear t2 hb2
 go_wp2_with fail
 refine (uV w2 false v1 v2 n d 64 (T1.out.below S2.out) T2.out (by omega) (by omega) d0 (by omega) (by omega)).mono ?_
 rintro e w3 ⟨v3,rfl,t3,hb3⟩
 have T3:=Lib.hid t3
 have S3:Hid (Below w2.heap.size w2 w3):=Lib.hid hb3
 have hs3:w2.heap.size <= w3.heap.size:=hb3.size
 obtain ⟨A,m,c,A',m',c',rfl,ta,tb,tc,td⟩:=t3.open_
 obtain ⟨r0,r1,r2,z0,z1,z2⟩:=(P0.out.below' (aa (aa S1.out S2.out) S3.out)).three
 have TA:=Lib.hid ta
 have TB:=Lib.hid tb
 have TC:=Lib.hid tc
 have TD:=Lib.hid td
 clear ta tb tc td
 clear t3 hb3
 go_wp2_with fail
 refine bodyPost_ret (v:=.agg #[.bool (ap (mkRat (dV false n) d)),.slice A m c,.slice A' m' c']) (by simp [results,Tryz.results31,go_sem,r0,r1,r2]) rfl ⟨_,rfl,?_,ar (PB.out.trans (((aa (aa S1.out S2.out) S3.out)).mono (by omega))) (by omega) _ _ _⟩
 exact (ay.box3 TA.out TB.out TC.out TD.out (by omega) _ _ _).mono (by omega)

theorem yQ (s:Bool) {n d:Nat} (hd:d ≠ 0):ce (mkRat (dV s n) d) = if n = 0 then 0 else if s then -1 else 1:=by
 unfold ce
 by_cases hn:n = 0
 ·rw [if_pos hn,if_pos ((kp s hd).2 hn)]
 rw [if_neg hn,if_neg (fun e=>hn ((kp s hd).1 e))]
 have:mkRat (dV s n) d < 0 ↔ s = true:=by
  rw [<- s8]
  obtain ⟨r1,_⟩:=red s n d (Nat.pos_of_ne_zero hd)
  have hg:0 < n / Nat.gcd n d:=Nat.div_pos (Nat.gcd_le_left _ (Nat.pos_of_ne_zero hn)) (Nat.gcd_pos_of_pos_left _ (Nat.pos_of_ne_zero hn))
  rw [oC r1,decide_eq_true hg,Bool.and_true]
 simp only [this]

theorem iV (w:World) (v:Value) (q:Rat) (k:Nat)(h:az k w v q)(h0:0 < k) :
  Calls Tryz.prog 14 #[v] w fun e w'=>e = .returned (.int .i64 (ce q))/\Below w.heap.size w w':=by
 obtain ⟨s,vn,vd,ln,ld,n,d,rfl,h1,h2,h3,h4,h5,h6,h7,h8,h9⟩:=h.parts h0
 have H1:=Lib.hid h1
 have H2:=Lib.hid h2
 have H3:=Lib.hid h3
 have H4:=Lib.hid h4
 have H5:=Lib.hid h5
 have H6:=Lib.hid h6
 have H7:=Lib.hid h7
 have H8:=Lib.hid h8
 have H9:=Lib.hid h9
 clear h h1 h2 h3 h4 h5 h6 h7 h8 h9
 have HS:Hid (ce q = if n = 0 then 0 else if s then -1 else 1):=Lib.hid (by rw [H5.out]; exact yQ s (by have:=H8.out; omega))
 go_enter Tryz.func14,Tryz.ntmps14
 go_wp2_with fail
 obtain ⟨W,hW,P0,PB,Phs⟩:=eU w 30 [.bool s,vn,vd]
 rw [<- hW]
 clear hW
 obtain ⟨p0,p1,p2,_,_,_⟩:=P0.out.three
 go_wp2_with fail
 refine (iM W vn ln (H1.out.below PB.out)).mono ?_
 rintro e w1 ⟨hw1,v1,rfl,t1,_,_⟩
 cases hw1
 rw [H3.out] at t1
 obtain ⟨A,m,c,rfl,hm,hm0⟩:=t1.len
 clear t1
 by_cases hz:m = 0
 ·obtain rfl:n = 0:=by omega
  subst hz
  go_wp2_with fail
  go_ret
  exact ⟨aq (by have:=HS.out; simpa using this.symm),PB.out⟩
 have hmz:((m:Int) == 0) = false:=by simp; omega
 have HN:Hid (n ≠ 0):=Lib.hid (by omega)
 cases s
 ·go_wp2_with fail
  go_ret
  exact ⟨aq (by rw [HS.out,if_neg HN.out]; rfl),PB.out⟩
 go_wp2_with fail
 go_ret
 exact ⟨aq (by rw [HS.out,if_neg HN.out]; rfl),PB.out⟩

theorem NM (w:World) (v v':Value) (q r:Rat) (k:Nat)(h:az k w v q) (h':az k w v' r)(h0:0 < k)(hk:k <= 549755813888) :
  Calls Tryz.prog 161 #[v,v'] w fun e w'=>∃ u,e = .returned u/\ay w.heap.size w' u (q + r)/\Below w.heap.size w w':=by
 obtain ⟨s,vn,vd,ln,ld,n,d,rfl,h1,h2,h3,h4,h5,h6,h7,h8,h9⟩:=h.parts h0
 have H1:=Lib.hid h1
 have H2:=Lib.hid h2
 have H3:=Lib.hid h3
 have H4:=Lib.hid h4
 have H5:=Lib.hid h5
 have H6:=Lib.hid h6
 have H7:=Lib.hid h7
 have H8:=Lib.hid h8
 have H9:=Lib.hid h9
 clear h h1 h2 h3 h4 h5 h6 h7 h8 h9
 obtain ⟨t,vn',vd',ln',ld',n',d',rfl,h1,h2,h3,h4,h5,h6,h7,h8,h9⟩:=h'.parts h0
 have G1:=Lib.hid h1
 have G2:=Lib.hid h2
 have G3:=Lib.hid h3
 have G4:=Lib.hid h4
 have G5:=Lib.hid h5
 have G6:=Lib.hid h6
 have G7:=Lib.hid h7
 have G8:=Lib.hid h8
 have G9:=Lib.hid h9
 clear h' h1 h2 h3 h4 h5 h6 h7 h8 h9
 go_enter Tryz.func161,Tryz.ntmps161
 go_wp2_with fail
 obtain ⟨W,hW,P0,P1,P2,PB,Phs⟩:=box3 w 30 [.bool s,vn,vd] 30 [.bool t,vn',vd'] 30 [.bool false,.slice none 0 0,.slice none 0 0]
 rw [<- hW]
 clear hW
 obtain ⟨p0,p1,p2,_,_,_⟩:=P0.out.three
 obtain ⟨q0,q1,q2,_,_,_⟩:=P1.out.three
 have tok1:True:=trivial
 have tok2:True:=trivial
 have tok3:True:=trivial
 have tok4:True:=trivial
 have tok5:True:=trivial
 have tok6:True:=trivial
 have tok7:True:=trivial
 have tok8:True:=trivial
 have tok9:True:=trivial
 go_region_held3 (fun w'=>w'.cell? ⟨w.heap.size,0,none⟩ = some (.bool s)/\w'.cell? ⟨w.heap.size,1,none⟩ = some (vn)/\w'.cell? ⟨w.heap.size,2,none⟩ = some (vd)/\w'.cell? ⟨w.heap.size + 1,0,none⟩ = some (.bool t)/\w'.cell? ⟨w.heap.size + 1,1,none⟩ = some (vn')/\w'.cell? ⟨w.heap.size + 1,2,none⟩ = some (vd')) (first | assumption | (refine da hS ?_ ?_ _ _ _ <;> omega) | go_keep)
  (first
   | (go_at_call_of 55 (vn); have _t:=tok1; refine (J8 _ _ ln (H1.out.below (PB.out.trans (ak _)))).mono ?_; rintro e w1 ⟨v1,rfl,t1,hb1⟩; have S1:Hid (Below W.heap.size W w1):=Lib.hid (by first | exact hb1 | exact ah hb1); have hs1:W.heap.size <= w1.heap.size:=S1.out.size; have T1:=Lib.hid t1; have hS:=iy (P0.out.below' S1.out) (P1.out.below' S1.out); rw [H3.out] at t1; have T1:=Lib.hid t1; clear t1 hb1 tok1 _t)
   | (go_at_call_of 159 (Value.agg #[.bool t,vn',vd']); have _t:=tok2; refine (IA w1 _ _ _ ld' d' ((G2.out.below PB.out).below S1.out) G4.out).mono ?_; rintro e w2 ⟨v2,rfl,t2,hb2⟩; have S2:Hid (Below w1.heap.size w1 w2):=Lib.hid hb2; have hs2:w1.heap.size <= w2.heap.size:=S2.out.size; have T2:=Lib.hid t2; have hS:=iy (P0.out.below' (aa S1.out S2.out)) (P1.out.below' (aa S1.out S2.out)); clear t2 hb2 tok2 _t)
   | (go_at_call_of 158 (v1); have _t:=tok3; refine (yK w2 _ _ n d' k k (T1.out.below S2.out) T2.out H6.out G7.out (by omega) (by omega)).mono ?_; rintro e w3 ⟨v3,rfl,t3,hb3,_⟩; have S3:Hid (Below w2.heap.size w2 w3):=Lib.hid hb3; have hs3:w2.heap.size <= w3.heap.size:=S3.out.size; have T3:=Lib.hid t3; have hS:=iy (P0.out.below' (aa (aa S1.out S2.out) S3.out)) (P1.out.below' (aa (aa S1.out S2.out) S3.out)); clear t3 hb3 tok3 _t)
   | (go_at_call_of 55 (vn'); have _t:=tok4; refine (J8 w3 _ ln' ((G1.out.below PB.out).below (aa (aa S1.out S2.out) S3.out))).mono ?_; rintro e w4 ⟨v4,rfl,t4,hb4⟩; have S4:Hid (Below w3.heap.size w3 w4):=Lib.hid hb4; have hs4:w3.heap.size <= w4.heap.size:=S4.out.size; have T4:=Lib.hid t4; have hS:=iy (P0.out.below' (aa (aa (aa S1.out S2.out) S3.out) S4.out)) (P1.out.below' (aa (aa (aa S1.out S2.out) S3.out) S4.out)); rw [G3.out] at t4; have T4:=Lib.hid t4; clear t4 hb4 tok4 _t)
   | (go_at_call_of 159 (Value.agg #[.bool s,vn,vd]); have _t:=tok5; refine (IA w4 _ _ _ ld d ((H2.out.below PB.out).below (aa (aa (aa S1.out S2.out) S3.out) S4.out)) H4.out).mono ?_; rintro e w5 ⟨v5,rfl,t5,hb5⟩; have S5:Hid (Below w4.heap.size w4 w5):=Lib.hid hb5; have hs5:w4.heap.size <= w5.heap.size:=S5.out.size; have T5:=Lib.hid t5; have hS:=iy (P0.out.below' (aa (aa (aa (aa S1.out S2.out) S3.out) S4.out) S5.out)) (P1.out.below' (aa (aa (aa (aa S1.out S2.out) S3.out) S4.out) S5.out)); clear t5 hb5 tok5 _t)
   | (go_at_call_of 158 (v4); have _t:=tok6; refine (yK w5 _ _ n' d k k (T4.out.below S5.out) T5.out G6.out H7.out (by omega) (by omega)).mono ?_; rintro e w6 ⟨v6,rfl,t6,hb6,_⟩; have S6:Hid (Below w5.heap.size w5 w6):=Lib.hid hb6; have hs6:w5.heap.size <= w6.heap.size:=S6.out.size; have T6:=Lib.hid t6; have hS:=iy (P0.out.below' (aa (aa (aa (aa (aa S1.out S2.out) S3.out) S4.out) S5.out) S6.out)) (P1.out.below' (aa (aa (aa (aa (aa S1.out S2.out) S3.out) S4.out) S5.out) S6.out)); clear t6 hb6 tok6 _t)
   | (go_at_call_of 159 (Value.agg #[.bool s,vn,vd]); have _t:=tok7; refine (IA w6 _ _ _ ld d ((H2.out.below PB.out).below (aa (aa (aa (aa (aa S1.out S2.out) S3.out) S4.out) S5.out) S6.out)) H4.out).mono ?_; rintro e w7 ⟨v7,rfl,t7,hb7⟩; have S7:Hid (Below w6.heap.size w6 w7):=Lib.hid hb7; have hs7:w6.heap.size <= w7.heap.size:=S7.out.size; have T7:=Lib.hid t7; have hS:=iy (P0.out.below' (aa (aa (aa (aa (aa (aa S1.out S2.out) S3.out) S4.out) S5.out) S6.out) S7.out)) (P1.out.below' (aa (aa (aa (aa (aa (aa S1.out S2.out) S3.out) S4.out) S5.out) S6.out) S7.out)); clear t7 hb7 tok7 _t)
   | (go_at_call_of 159 (Value.agg #[.bool t,vn',vd']); have _t:=tok8; refine (IA w7 _ _ _ ld' d' ((G2.out.below PB.out).below (aa (aa (aa (aa (aa (aa S1.out S2.out) S3.out) S4.out) S5.out) S6.out) S7.out)) G4.out).mono ?_; rintro e w8 ⟨v8,rfl,t8,hb8⟩; have S8:Hid (Below w7.heap.size w7 w8):=Lib.hid hb8; have hs8:w7.heap.size <= w8.heap.size:=S8.out.size; have T8:=Lib.hid t8; have hS:=iy (P0.out.below' (aa (aa (aa (aa (aa (aa (aa S1.out S2.out) S3.out) S4.out) S5.out) S6.out) S7.out) S8.out)) (P1.out.below' (aa (aa (aa (aa (aa (aa (aa S1.out S2.out) S3.out) S4.out) S5.out) S6.out) S7.out) S8.out)); clear t8 hb8 tok8 _t)
   | (go_at_call_of 158 (v7); have _t:=tok9; refine (yK w8 _ _ d d' k k (T7.out.below S8.out) T8.out H7.out G7.out (by omega) (by omega)).mono ?_; rintro e w9 ⟨v9,rfl,t9,hb9,_⟩; have S9:Hid (Below w8.heap.size w8 w9):=Lib.hid hb9; have hs9:w8.heap.size <= w9.heap.size:=S9.out.size; have T9:=Lib.hid t9; have hS:=iy (P0.out.below' (aa (aa (aa (aa (aa (aa (aa (aa S1.out S2.out) S3.out) S4.out) S5.out) S6.out) S7.out) S8.out) S9.out)) (P1.out.below' (aa (aa (aa (aa (aa (aa (aa (aa S1.out S2.out) S3.out) S4.out) S5.out) S6.out) S7.out) S8.out) S9.out)); clear t9 hb9 tok9 _t))
 have PP0:=Lib.hid (P0.out.below' (aa (aa (aa (aa (aa (aa (aa (aa S1.out S2.out) S3.out) S4.out) S5.out) S6.out) S7.out) S8.out) S9.out))
 have PP1:=Lib.hid (P1.out.below' (aa (aa (aa (aa (aa (aa (aa (aa S1.out S2.out) S3.out) S4.out) S5.out) S6.out) S7.out) S8.out) S9.out))
 clear p0 p1 p2 q0 q1 q2
 obtain ⟨p0,p1,p2,_,_,_⟩:=PP0.out.three
 obtain ⟨q0,q1,q2,_,_,_⟩:=PP1.out.three
 by_cases hst:s = t
 ·subst hst
  have HQ:Hid (q + r = mkRat (dV s (n * d' + n' * d)) (d * d')):=Lib.hid (by rw [H5.out,G5.out,rS s (by have:=H8.out; omega) (by have:=G8.out; omega)])
  go_wp2_with fail
  go_region_held3 (fun w'=>w'.cell? ⟨w.heap.size,0,none⟩ = some (.bool s)/\w'.cell? ⟨w.heap.size,1,none⟩ = some (vn)/\w'.cell? ⟨w.heap.size,2,none⟩ = some (vd)/\w'.cell? ⟨w.heap.size + 1,0,none⟩ = some (.bool s)/\w'.cell? ⟨w.heap.size + 1,1,none⟩ = some (vn')/\w'.cell? ⟨w.heap.size + 1,2,none⟩ = some (vd')) (first | assumption | (refine da hS ?_ ?_ _ _ _ <;> omega) | go_keep)
   (first
    | (go_at_call 196; refine (wC _ _ _ (n * d') (n' * d) (k + k) ((((((((T3.out.below S4.out).below S5.out).below S6.out).below S7.out).below S8.out).below S9.out)).drew) (((((T6.out.below S7.out).below S8.out).below S9.out)).drew) (aR H6.out G7.out) (aR G6.out H7.out) (by omega)).mono ?_; rintro e w10 ⟨v10,rfl,t10,hb10,_⟩; have S10:Hid (Below w9.heap.size w9 w10):=Lib.hid (by first | exact hb10 | exact ah hb10); have hs10:w9.heap.size <= w10.heap.size:=S10.out.size; have T10:=Lib.hid t10; have hS:=iy (P0.out.below' (aa (aa (aa (aa (aa (aa (aa (aa (aa S1.out S2.out) S3.out) S4.out) S5.out) S6.out) S7.out) S8.out) S9.out) S10.out)) (P1.out.below' (aa (aa (aa (aa (aa (aa (aa (aa (aa S1.out S2.out) S3.out) S4.out) S5.out) S6.out) S7.out) S8.out) S9.out) S10.out)); clear t10 hb10)
    | (go_at_call 63; refine (uV w10 s _ _ (n * d' + n' * d) (d * d') (k + k + 1) T10.out (T9.out.below S10.out) (by have h1:=aR H6.out G7.out; have h2:=aR G6.out H7.out; rw [Nat.pow_succ]; omega) (by have:=aR H7.out G7.out; rw [Nat.pow_succ]; omega) (Nat.mul_pos H8.out G8.out) (by omega) (by omega)).mono ?_; rintro e w11 ⟨v11,rfl,t11,hb11⟩; have S11:Hid (Below w10.heap.size w10 w11):=Lib.hid hb11; have hs11:w10.heap.size <= w11.heap.size:=S11.out.size; have T11:=Lib.hid t11; have hS:=iy (P0.out.below' (aa (aa (aa (aa (aa (aa (aa (aa (aa (aa S1.out S2.out) S3.out) S4.out) S5.out) S6.out) S7.out) S8.out) S9.out) S10.out) S11.out)) (P1.out.below' (aa (aa (aa (aa (aa (aa (aa (aa (aa (aa S1.out S2.out) S3.out) S4.out) S5.out) S6.out) S7.out) S8.out) S9.out) S10.out) S11.out)); obtain ⟨A,m,c,A',m',c',rfl,ta,tb,tc,td⟩:=t11.open_; obtain ⟨r0,r1,r2,z0,z1,z2⟩:=(P2.out.below' (aa (aa (aa (aa (aa (aa (aa (aa (aa (aa S1.out S2.out) S3.out) S4.out) S5.out) S6.out) S7.out) S8.out) S9.out) S10.out) S11.out)).three; have TA:=Lib.hid ta; have TB:=Lib.hid tb; have TC:=Lib.hid tc; have TD:=Lib.hid td; clear ta tb tc td; clear t11 hb11))
  go_wp2_with fail
  refine bodyPost_ret (v:=.agg #[.bool (ap (mkRat (dV s (n * d' + n' * d)) (d * d'))),.slice A m c,.slice A' m' c']) (by simp [results,Tryz.results161,go_sem,r0,r1,r2]) rfl ⟨_,rfl,?_,ar (PB.out.trans (((aa (aa (aa (aa (aa (aa (aa (aa (aa (aa S1.out S2.out) S3.out) S4.out) S5.out) S6.out) S7.out) S8.out) S9.out) S10.out) S11.out)).mono (by omega))) (by omega) _ _ _⟩
  rw [HQ.out]
  exact (ay.box3 TA.out TB.out TC.out TD.out (by omega) _ _ _).mono (by omega)
 have hst':(s == t) = false:=by cases s <;> cases t <;> simp_all
 have HST:=Lib.hid hst
 clear hst
 rcases Nat.lt_or_ge (n * d') (n' * d) with hlt | hge
 ·have HQ:Hid (q + r = mkRat (dV t (n' * d - n * d')) (d * d')):=Lib.hid (by rw [H5.out,G5.out,rU HST.out (by have:=H8.out; omega) (by have:=G8.out; omega) hlt])
  have OC:=qS w9 _ _ _ _ ((((((T3.out.below S4.out).below S5.out).below S6.out).below S7.out).below S8.out).below S9.out) (((T6.out.below S7.out).below S8.out).below S9.out)
  rw [fP hlt] at OC
  have HLT:=Lib.hid hlt
  clear hlt
  go_wp2_with fail
  refine OC.mono ?_
  rintro e wo ⟨rfl,nd,rfl⟩
  obtain ⟨V9,hV9⟩:∃ V,V = w9.drewN nd:=⟨_,rfl⟩
  have S10':Hid (Below w9.heap.size w9 V9):=Lib.hid (by rw [hV9]; exact aJ (Below.refl _ _) nd)
  have U3:=Lib.hid ((((((((T3.out.below S4.out).below S5.out).below S6.out).below S7.out).below S8.out).below S9.out)).below S10'.out)
  have U6:=Lib.hid (((((T6.out.below S7.out).below S8.out).below S9.out)).below S10'.out)
  have T9':=Lib.hid (T9.out.below S10'.out)
  have S9':=Lib.hid (aa S9.out S10'.out)
  have PP0':=Lib.hid (PP0.out.below' S10'.out)
  have PP1':=Lib.hid (PP1.out.below' S10'.out)
  have hs9':w8.heap.size <= V9.heap.size:=S9'.out.size
  rw [<- hV9]
  clear hV9 S10' T9 S9 PP0 PP1 p0 p1 p2 q0 q1 q2 hs9 T3 T6
  have T9:=T9'
  have S9:=S9'
  have hs9:=hs9'
  have PP0:=PP0'
  have PP1:=PP1'
  obtain ⟨w9,rfl⟩:∃ w9,w9 = V9:=⟨_,rfl⟩
  clear T9' S9' PP0' PP1' hs9'
  obtain ⟨p0,p1,p2,_,_,_⟩:=PP0.out.three
  obtain ⟨q0,q1,q2,_,_,_⟩:=PP1.out.three
  go_wp2_with fail
  go_region_held3 (fun w'=>w'.cell? ⟨w.heap.size,0,none⟩ = some (.bool s)/\w'.cell? ⟨w.heap.size,1,none⟩ = some (vn)/\w'.cell? ⟨w.heap.size,2,none⟩ = some (vd)/\w'.cell? ⟨w.heap.size + 1,0,none⟩ = some (.bool t)/\w'.cell? ⟨w.heap.size + 1,1,none⟩ = some (vn')/\w'.cell? ⟨w.heap.size + 1,2,none⟩ = some (vd')) (first | assumption | (refine da hS ?_ ?_ _ _ _ <;> omega) | go_keep)
   (first
    | (go_at_call 195; refine (me _ _ _ (n' * d) (n * d') (k + k) (U6.out.drew) (U3.out.drew) (aR G6.out H7.out) (Nat.le_of_lt HLT.out) (by omega)).mono ?_; rintro e w10 ⟨v10,rfl,t10,hb10,_⟩; have S10:Hid (Below w9.heap.size w9 w10):=Lib.hid (by first | exact hb10 | exact ah hb10); have hs10:w9.heap.size <= w10.heap.size:=S10.out.size; have T10:=Lib.hid t10; have hS:=iy (P0.out.below' (aa (aa (aa (aa (aa (aa (aa (aa (aa S1.out S2.out) S3.out) S4.out) S5.out) S6.out) S7.out) S8.out) S9.out) S10.out)) (P1.out.below' (aa (aa (aa (aa (aa (aa (aa (aa (aa S1.out S2.out) S3.out) S4.out) S5.out) S6.out) S7.out) S8.out) S9.out) S10.out)); clear t10 hb10)
    | (go_at_call 63; refine (uV w10 t _ _ (n' * d - n * d') (d * d') (k + k + 1) T10.out (T9.out.below S10.out) (by have h2:=aR G6.out H7.out; rw [Nat.pow_succ]; omega) (by have:=aR H7.out G7.out; rw [Nat.pow_succ]; omega) (Nat.mul_pos H8.out G8.out) (by omega) (by omega)).mono ?_; rintro e w11 ⟨v11,rfl,t11,hb11⟩; have S11:Hid (Below w10.heap.size w10 w11):=Lib.hid hb11; have hs11:w10.heap.size <= w11.heap.size:=S11.out.size; have T11:=Lib.hid t11; have hS:=iy (P0.out.below' (aa (aa (aa (aa (aa (aa (aa (aa (aa (aa S1.out S2.out) S3.out) S4.out) S5.out) S6.out) S7.out) S8.out) S9.out) S10.out) S11.out)) (P1.out.below' (aa (aa (aa (aa (aa (aa (aa (aa (aa (aa S1.out S2.out) S3.out) S4.out) S5.out) S6.out) S7.out) S8.out) S9.out) S10.out) S11.out)); obtain ⟨A,m,c,A',m',c',rfl,ta,tb,tc,td⟩:=t11.open_; obtain ⟨r0,r1,r2,z0,z1,z2⟩:=(P2.out.below' (aa (aa (aa (aa (aa (aa (aa (aa (aa (aa S1.out S2.out) S3.out) S4.out) S5.out) S6.out) S7.out) S8.out) S9.out) S10.out) S11.out)).three; have TA:=Lib.hid ta; have TB:=Lib.hid tb; have TC:=Lib.hid tc; have TD:=Lib.hid td; clear ta tb tc td; clear t11 hb11))
  go_wp2_with fail
  refine bodyPost_ret (v:=.agg #[.bool (ap (mkRat (dV t (n' * d - n * d')) (d * d'))),.slice A m c,.slice A' m' c']) (by simp [results,Tryz.results161,go_sem,r0,r1,r2]) rfl ⟨_,rfl,?_,ar (PB.out.trans (((aa (aa (aa (aa (aa (aa (aa (aa (aa (aa S1.out S2.out) S3.out) S4.out) S5.out) S6.out) S7.out) S8.out) S9.out) S10.out) S11.out)).mono (by omega))) (by omega) _ _ _⟩
  rw [HQ.out]
  exact (ay.box3 TA.out TB.out TC.out TD.out (by omega) _ _ _).mono (by omega)
 have HQ:Hid (q + r = mkRat (dV s (n * d' - n' * d)) (d * d')):=Lib.hid (by rw [H5.out,G5.out,rT HST.out (by have:=H8.out; omega) (by have:=G8.out; omega) hge])
 obtain ⟨z,hz,hz0⟩:∃ z,fK (n * d') (n' * d) = z/\decide (0 <= z) = true:=⟨_,rfl,decide_eq_true (by unfold fK; rw [if_neg (by omega)]; split <;> omega)⟩
 have OC:=qS w9 _ _ _ _ ((((((T3.out.below S4.out).below S5.out).below S6.out).below S7.out).below S8.out).below S9.out) (((T6.out.below S7.out).below S8.out).below S9.out)
 rw [hz] at OC
 have HGE:=Lib.hid hge
 clear hge hz
 go_wp2_with fail
 refine OC.mono ?_
 rintro e wo ⟨rfl,nd,rfl⟩
 obtain ⟨V9,hV9⟩:∃ V,V = w9.drewN nd:=⟨_,rfl⟩
 have S10':Hid (Below w9.heap.size w9 V9):=Lib.hid (by rw [hV9]; exact aJ (Below.refl _ _) nd)
 have U3:=Lib.hid ((((((((T3.out.below S4.out).below S5.out).below S6.out).below S7.out).below S8.out).below S9.out)).below S10'.out)
 have U6:=Lib.hid (((((T6.out.below S7.out).below S8.out).below S9.out)).below S10'.out)
 have T9':=Lib.hid (T9.out.below S10'.out)
 have S9':=Lib.hid (aa S9.out S10'.out)
 have PP0':=Lib.hid (PP0.out.below' S10'.out)
 have PP1':=Lib.hid (PP1.out.below' S10'.out)
 have hs9':w8.heap.size <= V9.heap.size:=S9'.out.size
 rw [<- hV9]
 clear hV9 S10' T9 S9 PP0 PP1 p0 p1 p2 q0 q1 q2 hs9 T3 T6
 have T9:=T9'
 have S9:=S9'
 have hs9:=hs9'
 have PP0:=PP0'
 have PP1:=PP1'
 obtain ⟨w9,rfl⟩:∃ w9,w9 = V9:=⟨_,rfl⟩
 clear T9' S9' PP0' PP1' hs9'
 obtain ⟨p0,p1,p2,_,_,_⟩:=PP0.out.three
 obtain ⟨q0,q1,q2,_,_,_⟩:=PP1.out.three
 go_wp2_with fail
 go_region_held3 (fun w'=>w'.cell? ⟨w.heap.size,0,none⟩ = some (.bool s)/\w'.cell? ⟨w.heap.size,1,none⟩ = some (vn)/\w'.cell? ⟨w.heap.size,2,none⟩ = some (vd)/\w'.cell? ⟨w.heap.size + 1,0,none⟩ = some (.bool t)/\w'.cell? ⟨w.heap.size + 1,1,none⟩ = some (vn')/\w'.cell? ⟨w.heap.size + 1,2,none⟩ = some (vd')) (first | assumption | (refine da hS ?_ ?_ _ _ _ <;> omega) | go_keep)
  (first
   | (go_at_call 195; refine (me _ _ _ (n * d') (n' * d) (k + k) (U3.out.drew) (U6.out.drew) (aR H6.out G7.out) HGE.out (by omega)).mono ?_; rintro e w10 ⟨v10,rfl,t10,hb10,_⟩; have S10:Hid (Below w9.heap.size w9 w10):=Lib.hid (by first | exact hb10 | exact ah hb10); have hs10:w9.heap.size <= w10.heap.size:=S10.out.size; have T10:=Lib.hid t10; have hS:=iy (P0.out.below' (aa (aa (aa (aa (aa (aa (aa (aa (aa S1.out S2.out) S3.out) S4.out) S5.out) S6.out) S7.out) S8.out) S9.out) S10.out)) (P1.out.below' (aa (aa (aa (aa (aa (aa (aa (aa (aa S1.out S2.out) S3.out) S4.out) S5.out) S6.out) S7.out) S8.out) S9.out) S10.out)); clear t10 hb10)
   | (go_at_call 63; refine (uV w10 s _ _ (n * d' - n' * d) (d * d') (k + k + 1) T10.out (T9.out.below S10.out) (by have h2:=aR H6.out G7.out; rw [Nat.pow_succ]; omega) (by have:=aR H7.out G7.out; rw [Nat.pow_succ]; omega) (Nat.mul_pos H8.out G8.out) (by omega) (by omega)).mono ?_; rintro e w11 ⟨v11,rfl,t11,hb11⟩; have S11:Hid (Below w10.heap.size w10 w11):=Lib.hid hb11; have hs11:w10.heap.size <= w11.heap.size:=S11.out.size; have T11:=Lib.hid t11; have hS:=iy (P0.out.below' (aa (aa (aa (aa (aa (aa (aa (aa (aa (aa S1.out S2.out) S3.out) S4.out) S5.out) S6.out) S7.out) S8.out) S9.out) S10.out) S11.out)) (P1.out.below' (aa (aa (aa (aa (aa (aa (aa (aa (aa (aa S1.out S2.out) S3.out) S4.out) S5.out) S6.out) S7.out) S8.out) S9.out) S10.out) S11.out)); obtain ⟨A,m,c,A',m',c',rfl,ta,tb,tc,td⟩:=t11.open_; obtain ⟨r0,r1,r2,z0,z1,z2⟩:=(P2.out.below' (aa (aa (aa (aa (aa (aa (aa (aa (aa (aa S1.out S2.out) S3.out) S4.out) S5.out) S6.out) S7.out) S8.out) S9.out) S10.out) S11.out)).three; have TA:=Lib.hid ta; have TB:=Lib.hid tb; have TC:=Lib.hid tc; have TD:=Lib.hid td; clear ta tb tc td; clear t11 hb11))
 go_wp2_with fail
 refine bodyPost_ret (v:=.agg #[.bool (ap (mkRat (dV s (n * d' - n' * d)) (d * d'))),.slice A m c,.slice A' m' c']) (by simp [results,Tryz.results161,go_sem,r0,r1,r2]) rfl ⟨_,rfl,?_,ar (PB.out.trans (((aa (aa (aa (aa (aa (aa (aa (aa (aa (aa S1.out S2.out) S3.out) S4.out) S5.out) S6.out) S7.out) S8.out) S9.out) S10.out) S11.out)).mono (by omega))) (by omega) _ _ _⟩
 rw [HQ.out]
 exact (ay.box3 TA.out TB.out TC.out TD.out (by omega) _ _ _).mono (by omega)
end Go.Proofs.YtkdhppimhdemjaaGreat
