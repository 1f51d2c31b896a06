/- Lemmas on the way: Frac7, Frac8. -/
import Derived.Test.YtdehimgccmbfkaaGreatT21
set_option linter.all false
set_option maxRecDepth 1000000
set_option maxHeartbeats 32000000
namespace Go.Proofs.YtdehimgccmbfkaaGreat
open Go.RowKit
theorem CanNew.at_ {B:Nat} {w:World} {v:Value} {q:Rat} (h:CanNew B w v q):CanAt w v q:=by
 obtain ⟨vn,vd,e,h1,h2,_⟩:=h
 exact ⟨vn,vd,e,h1,h2⟩
theorem CanNew.below {B:Nat} {w w':World} {v:Value} {q:Rat} (h:CanNew B w v q)(hb:Below w.heap.size w w'):CanNew B w' v q:=by
 obtain ⟨vn,vd,e,h1,h2,h3⟩:=h
 exact ⟨vn,vd,e,h1.below hb,h2.below hb,h3⟩
theorem CanNew.mono {B B':Nat} {w:World} {v:Value} {q:Rat} (h:CanNew B w v q)(hb:B' <= B):CanNew B' w v q:=by
 obtain ⟨vn,vd,e,h1,h2,h3,h4⟩:=h
 exact ⟨vn,vd,e,h1,h2,h3.mono hb,h4.mono hb⟩
theorem CanAt.below {w w':World} {v:Value} {q:Rat} (h:CanAt w v q)(hb:Below w.heap.size w w'):CanAt w' v q:=by
 obtain ⟨vn,vd,e,h1,h2⟩:=h
 exact ⟨vn,vd,e,h1.below hb,h2.below hb⟩
theorem CanNew.open_ {B:Nat} {w:World} {v:Value} {q:Rat} (h:CanNew B w v q):∃ A m c A' m' c',v = .agg #[.bool (isNeg q),.slice A m c,.slice A' m' c']/\NatAt w (.slice A m c) q.num.natAbs/\NatAt w (.slice A' m' c') (if q.den = 1 then 0 else q.den)/\From (.slice A m c) B/\From (.slice A' m' c') B:=by
 obtain ⟨vn,vd,rfl,h1,h2,h3,h4⟩:=h
 obtain ⟨A,m,c,rfl,_⟩:=h1.len
 obtain ⟨A',m',c',rfl,_⟩:=h2.len
 exact ⟨A,m,c,A',m',c',rfl,h1,h2,h3,h4⟩
theorem CanNew.box3 {B g:Nat} {w:World} {q:Rat} {A A':Option Addr} {m c m' c':Nat} (h1:NatAt w (.slice A m c) q.num.natAbs)(h2:NatAt w (.slice A' m' c') (if q.den = 1 then 0 else q.den))(h3:From (.slice A m c) B)(h4:From (.slice A' m' c') B)(hg:g < B) (u0 u1 u2:Value) :
  CanNew B (((w.setCell ⟨g,0,none⟩ u0).setCell ⟨g,1,none⟩ u1).setCell ⟨g,2,none⟩ u2) (.agg #[.bool (isNeg q),.slice A m c,.slice A' m' c']) q :=
 ⟨_,_,rfl,h1.box3 (h3.mono hg) _ _ _,h2.box3 (h4.mono hg) _ _ _,h3,h4⟩
theorem FracAt.shape {k:Nat} {w:World} {v:Value} {q:Rat} (h:FracAt k w v q):∃ neg vn vd,v = .agg #[.bool neg,vn,vd]:=by
 obtain ⟨neg,vn,vd,_,_,e,_⟩:=h
 exact ⟨neg,vn,vd,e⟩
theorem CanAt.frac {k:Nat} {w:World} {v:Value} {q:Rat} (h:CanAt w v q)(hb:QB k q)(hk:k <= 17592186044416):FracAt k w v q:=by
 obtain ⟨vn,vd,e,⟨l,d1,t1,e1⟩,⟨l',d2,t2,e2⟩⟩:=h
 have hp:=q.den_pos
 have b1:val l < 2 ^ k:=by rw [e1]; exact hb.1
 have b2:val l' < 2 ^ k:=by
  rw [e2]
  split
  ·exact Nat.pow_pos (by omega)
  exact hb.2
 refine ⟨isNeg q,vn,vd,l,l',e,d1,d2,?_,b1,b2,by have:=t1.length_le b1; omega,by have:=t2.length_le b2; omega⟩
 unfold fracVal
 rw [e1,e2,<- num_eq]
 by_cases h:q.den = 1
 ·rw [if_pos h,if_pos rfl,<- h,Rat.mkRat_self]
 rw [if_neg h,if_neg (by omega),Rat.mkRat_self]

theorem canon (w:World) (v:Value) (q:Rat) (k:Nat)(h:FracAt k w v q)(h0:0 < k)(hk:k <= 17592186044416) :
  Calls Tryz.prog 103 #[v] w fun e w'=>∃ v',e = .returned v'/\CanNew w.heap.size w' v' q/\Below w.heap.size w w':=by
 have QH:=Lib.hid (h.qb h0)
 have HF:=Lib.hid h
 obtain ⟨neg,vn,vd,rfl⟩:=h.shape
 clear h
 go_enter Tryz.func103,Tryz.ntmps103
 go_wp2_with fail
 obtain ⟨W,hW,P0,P1,PB,Phs⟩:=box2 w 31 [.bool neg,vn,vd] 31 [.bool false,.slice none 0 0,.slice none 0 0]
 rw [<- hW]
 clear hW
 refine (take W _ q k (HF.out.below PB.out) h0 hk).mono ?_
 rintro e w1 ⟨v1,rfl,t1,hb1⟩
 have T1:=Lib.hid t1
 have B1:=Lib.hid hb1
 clear t1 hb1
 go_wp2_with fail
 refine (give w1 _ q k T1.out.at_ QH.out hk).mono ?_
 rintro e wz ⟨vz,rfl,tz,hz⟩
 have BZ:=Lib.hid (B1.out.trans (hz.mono B1.out.size))
 have hsz:W.heap.size <= w1.heap.size:=B1.out.size
 obtain ⟨A,m,c,A',m',c',rfl,ta,tb,tc,td⟩:=tz.open_
 obtain ⟨r0,r1,r2,z0,z1,z2⟩:=(P1.out.below' BZ.out).three
 have TA:=Lib.hid ta
 have TB:=Lib.hid tb
 have TC:=Lib.hid tc
 have TD:=Lib.hid td
 clear tz hz ta tb tc td
 go_wp2_with fail
 refine bodyPost_ret (v:=.agg #[.bool (isNeg (q)),.slice A m c,.slice A' m' c']) (by simp [results,Tryz.results103,go_sem,r0,r1,r2]) rfl ⟨_,rfl,?_,below_box3 (PB.out.trans (BZ.out.mono (by omega))) (by omega) _ _ _⟩
 exact (CanNew.box3 TA.out TB.out TC.out TD.out (by omega) _ _ _).mono (by omega)

theorem signF (w:World) (v:Value) (q:Rat) (k:Nat)(h:FracAt k w v q)(h0:0 < k)(hk:k <= 17592186044416) :
  Calls Tryz.prog 91 #[v] w fun e w'=>e = .returned (.int .i64 (sgnI q))/\Below w.heap.size w w':=by
 have HF:=Lib.hid h
 obtain ⟨neg,vn,vd,rfl⟩:=h.shape
 clear h
 go_enter Tryz.func91,Tryz.ntmps91
 go_wp2_with fail
 obtain ⟨W,hW,P0,PB,Phs⟩:=box1 w 31 [.bool neg,vn,vd]
 rw [<- hW]
 clear hW
 refine (take W _ q k (HF.out.below PB.out) h0 hk).mono ?_
 rintro e w1 ⟨v1,rfl,t1,hb1⟩
 have T1:=Lib.hid t1
 have B1:=Lib.hid (PB.out.trans (hb1.mono (by omega)))
 clear t1 hb1
 go_wp2_with fail
 refine (signN w1 _ q T1.out.at_).mono ?_
 rintro e w2 ⟨rfl,hb2⟩
 have B2:=Lib.hid (B1.out.trans (hb2.mono B1.out.size))
 clear hb2
 go_wp2_with fail
 go_ret
 exact ⟨rfl,B2.out⟩

theorem qb_nat {n k:Nat} (h:n < 2 ^ k)(hk:0 < k):QB k (n:Rat):=⟨by simpa using h,by simpa using Nat.one_lt_two_pow (n:=k) (by omega)⟩

theorem ofN (w:World) (n:Nat)(hn:n < 9223372036854775808) :
  Calls Tryz.prog 92 #[.int .i64 (n:Int)] w fun e w'=>∃ v',e = .returned v'/\CanNew w.heap.size w' v' (n:Rat)/\Below w.heap.size w w':=by
 have QH:Hid (QB 63 (n:Rat)):=Lib.hid (qb_nat (by omega) (by omega))
 go_enter Tryz.func92,Tryz.ntmps92
 go_wp2_with fail
 obtain ⟨W,hW,P0,PB,Phs⟩:=box1 w 31 [.bool false,.slice none 0 0,.slice none 0 0]
 rw [<- hW]
 clear hW
 refine (wholeN W n hn).mono ?_
 rintro e w1 ⟨v1,rfl,t1,hb1⟩
 have T1:=Lib.hid t1
 have B1:=Lib.hid hb1
 clear t1 hb1
 go_wp2_with fail
 refine (give w1 _ (n:Rat) 63 T1.out.at_ QH.out (by omega)).mono ?_
 rintro e wz ⟨vz,rfl,tz,hz⟩
 have BZ:=Lib.hid (B1.out.trans (hz.mono B1.out.size))
 have hsz:W.heap.size <= w1.heap.size:=B1.out.size
 obtain ⟨A,m,c,A',m',c',rfl,ta,tb,tc,td⟩:=tz.open_
 obtain ⟨r0,r1,r2,z0,z1,z2⟩:=(P0.out.below' BZ.out).three
 have TA:=Lib.hid ta
 have TB:=Lib.hid tb
 have TC:=Lib.hid tc
 have TD:=Lib.hid td
 clear tz hz ta tb tc td
 go_wp2_with fail
 refine bodyPost_ret (v:=.agg #[.bool (isNeg ((n:Rat))),.slice A m c,.slice A' m' c']) (by simp [results,Tryz.results92,go_sem,r0,r1,r2]) rfl ⟨_,rfl,?_,below_box3 (PB.out.trans (BZ.out.mono (by omega))) (by omega) _ _ _⟩
 exact (CanNew.box3 TA.out TB.out TC.out TD.out (by omega) _ _ _).mono (by omega)

def FracsAt (k:Nat) (w:World) (v:Value) (qs:List Rat):Prop:=∃ cells,Sl w 3 v qs.length cells /\
 ∀ i q,qs[i]? = some q->∃ c0 c1 c2,cells[i * 3]? = some c0/\cells[i * 3 + 1]? = some c1/\cells[i * 3 + 2]? = some c2/\FracAt k w (.agg #[c0,c1,c2]) q
theorem FracsAt.below {k:Nat} {w w':World} {v:Value} {qs:List Rat} (h:FracsAt k w v qs)(hb:Below w.heap.size w w'):FracsAt k w' v qs:=by
 obtain ⟨cs,h1,h2⟩:=h
 refine ⟨cs,h1.below hb,fun i q hq=>?_⟩
 obtain ⟨c0,c1,c2,e0,e1,e2,h3⟩:=h2 i q hq
 exact ⟨c0,c1,c2,e0,e1,e2,h3.below hb⟩
theorem FracsAt.at_ {k:Nat} {w:World} {v:Value} {qs:List Rat} (h:FracsAt k w v qs):∃ A c,v = .slice A qs.length c/\qs.length <= c/\c <= 9223372036854775807 /\
  ∀ i q,qs[i]? = some q->∃ b off neg An n cn Ad d cd,A = some ⟨b,off,none⟩/\b < w.heap.size/\w.cell? ⟨b,off + i * 3,none⟩ = some (.bool neg)/\w.cell? ⟨b,off + i * 3 + 1,none⟩ = some (.slice An n cn)/\w.cell? ⟨b,off + i * 3 + 2,none⟩ = some (.slice Ad d cd)/\FracAt k w (.agg #[.bool neg,.slice An n cn,.slice Ad d cd]) q:=by
 obtain ⟨cs,h1,h2⟩:=h
 obtain ⟨hl,A,c,rfl,hc,hm,h3⟩:=h1
 refine ⟨A,c,rfl,hc,by unfold maxLen at hm; omega,fun i q hq=>?_⟩
 have hi:=(List.getElem?_eq_some_iff.1 hq).1
 obtain ⟨b,off,rfl,hb,hcell⟩:=h3 (by omega)
 obtain ⟨c0,c1,c2,e0,e1,e2,h4⟩:=h2 i q hq
 have h5:=h4
 obtain ⟨neg,vn,vd,ln,ld,e,hn,hd,_⟩:=h5
 obtain ⟨_,An,cn,rfl,_⟩:=hn.open_
 obtain ⟨_,Ad,cd,rfl,_⟩:=hd.open_
 injection e with e
 have e':[c0,c1,c2] = [.bool neg,.slice An ln.length cn,.slice Ad ld.length cd]:=congrArg Array.toList e
 simp only [List.cons.injEq,and_true] at e'
 obtain ⟨rfl,rfl,rfl⟩:=e'
 exact ⟨b,off,neg,_,_,_,_,_,_,rfl,hb,hcell _ _ e0,by rw [Nat.add_assoc]; exact hcell _ _ e1,by rw [Nat.add_assoc]; exact hcell _ _ e2,h4⟩

theorem foldAdd (w:World) (v0:Value) (k:Nat) (q0:Rat) (lv:Value) (qs:List Rat)(h:NumAt w v0 q0)(hl:FracsAt k w lv qs)(h0:0 < k)(hb:QB k q0)(hk:(qs.length + 1) * (2 * k) <= 4398046511104) :
  Calls Tryz.prog 169 #[v0,.func (.func 152) #[] #[],lv] w fun e w'=>∃ v',e = .returned v'/\NumAt w' v' (qs.foldl (· + ·) q0)/\Below w.heap.size w w':=by
 obtain ⟨A,c,rfl,hlc,hcm,hat⟩:=hl.at_
 obtain ⟨A0,m,c0,A0',m',c0',rfl,hm,hm',hp,h1,h2⟩:=h.open_
 have HL:=Lib.hid hl
 have HAT:=Lib.hid hat
 have HN:=Lib.hid h
 have HB:=Lib.hid hb
 have OF1:=Lib.hid (h1.off (F:=w.heap.size + 1) (Nat.le_succ _))
 have OF2:=Lib.hid (h2.off (F:=w.heap.size + 1) (Nat.le_succ _))
 clear hl hat h hp h1 h2 hb
 obtain ⟨n,hn⟩:∃ n,qs.length = n:=⟨_,rfl⟩
 have HLN:=Lib.hid hn
 rw [hn] at hlc hk ⊢
 clear hn
 generalize isNeg q0 = s at *
 go_enter Tryz.func169,Tryz.ntmps169
 go_wp2_with fail
 obtain ⟨W,hW,P0,P1,PB,Phs⟩:=box2 w 196 [.bool s,.slice A0 m c0,.slice A0' m' c0'] 196 [.bool false,.slice none 0 0,.slice none 0 0]
 rw [<- hW]
 clear hW
 go_loopg [11] n (fun g i wr=>∃ (j:Nat) (q:Rat) (b:Bool) (A1 A1':Option Addr) (m1 c1 m1' c1':Nat),i = .int .i64 j/\j + g = n/\q = (qs.take j).foldl (· + ·) q0/\QB ((j + 1) * (2 * k)) q /\
  Blk wr w.heap.size 196 [.bool b,.slice A1 m1 c1,.slice A1' m1' c1']/\NumAt wr (.agg #[.bool b,.slice A1 m1 c1,.slice A1' m1' c1']) q/\Off (.slice A1 m1 c1) (w.heap.size + 1)/\Off (.slice A1' m1' c1') (w.heap.size + 1) /\
  Blk wr (w.heap.size + 1) 196 [.bool false,.slice none 0 0,.slice none 0 0]/\Below w.heap.size w wr)
 case atStart=>exact ⟨0,q0,s,A0,A0',m,c0,m',c0',rfl,by omega,rfl,HB.out.mono (by omega),P0.out,HN.out.below PB.out,OF1.out,OF2.out,P1.out,PB.out⟩
 obtain ⟨j,q,b,A1,A1',m1,c1,m1',c1',rfl,hj,hq,hqb,hbk,hna,ho1,ho2,hrb,hbel⟩:=hrel
 have HQ:=Lib.hid hq
 have HQB:=Lib.hid hqb
 have BK:=Lib.hid hbk
 have NA:=Lib.hid hna
 have O1:=Lib.hid ho1
 have O2:=Lib.hid ho2
 have RB:=Lib.hid hrb
 have BEL:=Lib.hid hbel
 have hsz:w.heap.size + 2 <= wr.heap.size:=by have:=hrb.lt; omega
 clear hq hqb hbk hna ho1 ho2 hrb hbel
 obtain ⟨p0,p1,p2,_,_,_⟩:=BK.out.three
 rcases Nat.eq_zero_or_pos gk with h | h
 ·obtain rfl:j = n:=by omega
  obtain ⟨r0,r1,r2,z0,z1,z2⟩:=RB.out.three
  go_wp2_with fail
  refine bodyPost_ret (v:=.agg #[.bool b,.slice A1 m1 c1,.slice A1' m1' c1']) (by simp [results,Tryz.results169,go_sem,r0,r1,r2]) rfl ⟨_,rfl,?_,below_box3 BEL.out (Nat.le_succ _) _ _ _⟩
  obtain ⟨vn,vd,e,t1,t2⟩:=NA.out
  rw [HQ.out,List.take_of_length_le (by rw [HLN.out]; exact Nat.le_refl _)] at *
  injection e with e
  have e':[Value.bool b,.slice A1 m1 c1,.slice A1' m1' c1'] = [.bool _,vn,vd]:=congrArg Array.toList e
  simp only [List.cons.injEq,and_true] at e'
  obtain ⟨e0,rfl,rfl⟩:=e'
  exact ⟨_,_,by rw [e0],t1.box3off O1.out _ _ _,t2.box3off O2.out _ _ _⟩
 obtain ⟨g,rfl⟩:∃ g,gk = g + 1:=⟨gk - 1,by omega⟩
 obtain ⟨x,hx⟩:∃ x,qs[j]? = some x:=⟨_,List.getElem?_eq_getElem (by rw [HLN.out]; omega)⟩
 obtain ⟨bb,off,neg,An,nn,cn,Ad,nd,cd,rfl,hbb,e0,e1,e2,hfr⟩:=HAT.out j x hx
 have d0:=(BEL.out.cell (p:=⟨bb,off + j * 3,none⟩) hbb).trans e0
 have d1:=(BEL.out.cell (p:=⟨bb,off + j * 3 + 1,none⟩) hbb).trans e1
 have d2:=(BEL.out.cell (p:=⟨bb,off + j * 3 + 2,none⟩) hbb).trans e2
 have FR:=Lib.hid (hfr.below BEL.out)
 have QX:=Lib.hid (hfr.qb h0)
 have HX:=Lib.hid hx
 have hjk:(j + 1) * (2 * k) <= (n + 1) * (2 * k):=Nat.mul_le_mul_right _ (by omega)
 have hjk2:(j + 1 + 1) * (2 * k) = (j + 1) * (2 * k) + 2 * k:=by rw [Nat.add_mul (j + 1) 1,Nat.one_mul]
 have HJ:Hid (k <= (j + 1) * (2 * k)/\(j + 1) * (2 * k) <= 4398046511104):=Lib.hid ⟨by have:1 * (2 * k) <= (j + 1) * (2 * k):=Nat.mul_le_mul_right _ (by omega); omega,by omega⟩
 have HK:=Lib.hid hk
 have HJ2:=Lib.hid hjk2
 clear hx e0 e1 e2 hfr hjk hjk2 hk
 go_wp2_with fail
 obtain ⟨W1,hW1⟩:∃ W1,W1 = wr.alloc (.cells #[.bool neg,.slice An nn cn,.slice Ad nd cd] 31):=⟨_,rfl⟩
 have X1:Hid (Blk W1 wr.heap.size 31 [.bool neg,.slice An nn cn,.slice Ad nd cd]):=Lib.hid (by rw [hW1]; exact Blk.new wr _ _)
 have Y1:Hid (Below wr.heap.size wr W1):=Lib.hid (by rw [hW1]; exact (Below.refl _ _).alloc (Nat.le_refl _) _)
 rw [<- hW1]
 clear hW1
 have K1:=Lib.hid (BK.out.below' Y1.out)
 obtain ⟨x0,x1,x2,_,_,_⟩:=X1.out.three
 obtain ⟨k0,k1,k2,_,_,_⟩:=K1.out.three
 have hs1:wr.heap.size + 1 <= W1.heap.size:=X1.out.lt
 clear d0 d1 d2 p0 p1 p2
 go_region_with (first
   | (go_at_call 140; refine (take _ _ x k ?_ h0 (by have:=HJ.out; omega)).mono ?_; (exact FR.out.below (Y1.out.trans (below_drew_self _))); rintro e w2 ⟨v2,rfl,t2,hb2'⟩; have hb2:=below_of_drew hb2'; have B2:=Lib.hid hb2; obtain ⟨k0',k1',k2',_,_,_⟩:=(K1.out.below' hb2).three; have T2:=Lib.hid t2; have NA2:=Lib.hid (NA.out.below (Y1.out.trans (hb2.mono (by omega)))); clear t2 hb2 hb2')
   | (go_at_call 152; refine (addN w2 _ _ q x ((j + 1) * (2 * k)) NA2.out T2.out.at_ HQB.out (QX.out.mono HJ.out.1) (by have:=HJ.out; omega)).mono ?_; rintro e w3 ⟨v3,rfl,t3,hb3⟩; have B3:=Lib.hid (B2.out.trans (hb3.mono B2.out.size)); have K3:=Lib.hid (K1.out.below' B3.out); have hs2:=B2.out.size; obtain ⟨A3,m3,c3,A3',m3',c3',rfl,t3a,t3b,t3c,t3d⟩:=t3.open_; obtain ⟨r0,r1,r2,z0,z1,z2⟩:=K3.out.three; have TA:=Lib.hid t3a; have TB:=Lib.hid t3b; have TC:=Lib.hid t3c; have TD:=Lib.hid t3d; clear t3 t3a t3b t3c t3d hb3))
 all_goals
  go_wp2_with fail
  go_roundg g
  case measure=>omega
  case rel =>
   have BZ:Below wr.heap.size wr w3:=Y1.out.trans (B3.out.mono (by omega))
   have hx':=HX.out
   exact ⟨j + 1,_,_,A3,A3',m3,c3,m3',c3',rfl,by omega,by rw [take_succ_get _ hx',List.foldl_append,<- HQ.out]; rfl,by rw [HJ2.out]; exact (HQB.out.add QX.out).mono (by omega),
    K3.out.box3 _ _ _,(NumNew.box3 TA.out TB.out TC.out TD.out (g:=w.heap.size) (by omega) _ _ _).at_,TC.out.off (by omega),TD.out.off (by omega),Blk.box3far (RB.out.below' BZ) (by omega) _ _ _,below_box3 (BEL.out.trans (BZ.mono (by omega))) (Nat.le_refl _) _ _ _⟩

theorem foldMul (w:World) (v0:Value) (k:Nat) (q0:Rat) (lv:Value) (qs:List Rat)(h:NumAt w v0 q0)(hl:FracsAt k w lv qs)(h0:0 < k)(hb:QB k q0)(hk:(qs.length + 1) * (2 * k) <= 4398046511104) :
  Calls Tryz.prog 169 #[v0,.func (.func 150) #[] #[],lv] w fun e w'=>∃ v',e = .returned v'/\NumAt w' v' (qs.foldl (· * ·) q0)/\Below w.heap.size w w':=by
 obtain ⟨A,c,rfl,hlc,hcm,hat⟩:=hl.at_
 obtain ⟨A0,m,c0,A0',m',c0',rfl,hm,hm',hp,h1,h2⟩:=h.open_
 have HL:=Lib.hid hl
 have HAT:=Lib.hid hat
 have HN:=Lib.hid h
 have HB:=Lib.hid hb
 have OF1:=Lib.hid (h1.off (F:=w.heap.size + 1) (Nat.le_succ _))
 have OF2:=Lib.hid (h2.off (F:=w.heap.size + 1) (Nat.le_succ _))
 clear hl hat h hp h1 h2 hb
 obtain ⟨n,hn⟩:∃ n,qs.length = n:=⟨_,rfl⟩
 have HLN:=Lib.hid hn
 rw [hn] at hlc hk ⊢
 clear hn
 generalize isNeg q0 = s at *
 go_enter Tryz.func169,Tryz.ntmps169
 go_wp2_with fail
 obtain ⟨W,hW,P0,P1,PB,Phs⟩:=box2 w 196 [.bool s,.slice A0 m c0,.slice A0' m' c0'] 196 [.bool false,.slice none 0 0,.slice none 0 0]
 rw [<- hW]
 clear hW
 go_loopg [11] n (fun g i wr=>∃ (j:Nat) (q:Rat) (b:Bool) (A1 A1':Option Addr) (m1 c1 m1' c1':Nat),i = .int .i64 j/\j + g = n/\q = (qs.take j).foldl (· * ·) q0/\QB ((j + 1) * (2 * k)) q /\
  Blk wr w.heap.size 196 [.bool b,.slice A1 m1 c1,.slice A1' m1' c1']/\NumAt wr (.agg #[.bool b,.slice A1 m1 c1,.slice A1' m1' c1']) q/\Off (.slice A1 m1 c1) (w.heap.size + 1)/\Off (.slice A1' m1' c1') (w.heap.size + 1) /\
  Blk wr (w.heap.size + 1) 196 [.bool false,.slice none 0 0,.slice none 0 0]/\Below w.heap.size w wr)
 case atStart=>exact ⟨0,q0,s,A0,A0',m,c0,m',c0',rfl,by omega,rfl,HB.out.mono (by omega),P0.out,HN.out.below PB.out,OF1.out,OF2.out,P1.out,PB.out⟩
 obtain ⟨j,q,b,A1,A1',m1,c1,m1',c1',rfl,hj,hq,hqb,hbk,hna,ho1,ho2,hrb,hbel⟩:=hrel
 have HQ:=Lib.hid hq
 have HQB:=Lib.hid hqb
 have BK:=Lib.hid hbk
 have NA:=Lib.hid hna
 have O1:=Lib.hid ho1
 have O2:=Lib.hid ho2
 have RB:=Lib.hid hrb
 have BEL:=Lib.hid hbel
 have hsz:w.heap.size + 2 <= wr.heap.size:=by have:=hrb.lt; omega
 clear hq hqb hbk hna ho1 ho2 hrb hbel
 obtain ⟨p0,p1,p2,_,_,_⟩:=BK.out.three
 rcases Nat.eq_zero_or_pos gk with h | h
 ·obtain rfl:j = n:=by omega
  obtain ⟨r0,r1,r2,z0,z1,z2⟩:=RB.out.three
  go_wp2_with fail
  refine bodyPost_ret (v:=.agg #[.bool b,.slice A1 m1 c1,.slice A1' m1' c1']) (by simp [results,Tryz.results169,go_sem,r0,r1,r2]) rfl ⟨_,rfl,?_,below_box3 BEL.out (Nat.le_succ _) _ _ _⟩
  obtain ⟨vn,vd,e,t1,t2⟩:=NA.out
  rw [HQ.out,List.take_of_length_le (by rw [HLN.out]; exact Nat.le_refl _)] at *
  injection e with e
  have e':[Value.bool b,.slice A1 m1 c1,.slice A1' m1' c1'] = [.bool _,vn,vd]:=congrArg Array.toList e
  simp only [List.cons.injEq,and_true] at e'
  obtain ⟨e0,rfl,rfl⟩:=e'
  exact ⟨_,_,by rw [e0],t1.box3off O1.out _ _ _,t2.box3off O2.out _ _ _⟩
 obtain ⟨g,rfl⟩:∃ g,gk = g + 1:=⟨gk - 1,by omega⟩
 obtain ⟨x,hx⟩:∃ x,qs[j]? = some x:=⟨_,List.getElem?_eq_getElem (by rw [HLN.out]; omega)⟩
 obtain ⟨bb,off,neg,An,nn,cn,Ad,nd,cd,rfl,hbb,e0,e1,e2,hfr⟩:=HAT.out j x hx
 have d0:=(BEL.out.cell (p:=⟨bb,off + j * 3,none⟩) hbb).trans e0
 have d1:=(BEL.out.cell (p:=⟨bb,off + j * 3 + 1,none⟩) hbb).trans e1
 have d2:=(BEL.out.cell (p:=⟨bb,off + j * 3 + 2,none⟩) hbb).trans e2
 have FR:=Lib.hid (hfr.below BEL.out)
 have QX:=Lib.hid (hfr.qb h0)
 have HX:=Lib.hid hx
 have hjk:(j + 1) * (2 * k) <= (n + 1) * (2 * k):=Nat.mul_le_mul_right _ (by omega)
 have hjk2:(j + 1 + 1) * (2 * k) = (j + 1) * (2 * k) + 2 * k:=by rw [Nat.add_mul (j + 1) 1,Nat.one_mul]
 have HJ:Hid (k <= (j + 1) * (2 * k)/\(j + 1) * (2 * k) <= 4398046511104):=Lib.hid ⟨by have:1 * (2 * k) <= (j + 1) * (2 * k):=Nat.mul_le_mul_right _ (by omega); omega,by omega⟩
 have HK:=Lib.hid hk
 have HJ2:=Lib.hid hjk2
 clear hx e0 e1 e2 hfr hjk hjk2 hk
 go_wp2_with fail
 obtain ⟨W1,hW1⟩:∃ W1,W1 = wr.alloc (.cells #[.bool neg,.slice An nn cn,.slice Ad nd cd] 31):=⟨_,rfl⟩
 have X1:Hid (Blk W1 wr.heap.size 31 [.bool neg,.slice An nn cn,.slice Ad nd cd]):=Lib.hid (by rw [hW1]; exact Blk.new wr _ _)
 have Y1:Hid (Below wr.heap.size wr W1):=Lib.hid (by rw [hW1]; exact (Below.refl _ _).alloc (Nat.le_refl _) _)
 rw [<- hW1]
 clear hW1
 have K1:=Lib.hid (BK.out.below' Y1.out)
 obtain ⟨x0,x1,x2,_,_,_⟩:=X1.out.three
 obtain ⟨k0,k1,k2,_,_,_⟩:=K1.out.three
 have hs1:wr.heap.size + 1 <= W1.heap.size:=X1.out.lt
 clear d0 d1 d2 p0 p1 p2
 go_region_with (first
   | (go_at_call 140; refine (take _ _ x k ?_ h0 (by have:=HJ.out; omega)).mono ?_; (exact FR.out.below (Y1.out.trans (below_drew_self _))); rintro e w2 ⟨v2,rfl,t2,hb2'⟩; have hb2:=below_of_drew hb2'; have B2:=Lib.hid hb2; obtain ⟨k0',k1',k2',_,_,_⟩:=(K1.out.below' hb2).three; have T2:=Lib.hid t2; have NA2:=Lib.hid (NA.out.below (Y1.out.trans (hb2.mono (by omega)))); clear t2 hb2 hb2')
   | (go_at_call 150; refine (mulN w2 _ _ q x ((j + 1) * (2 * k)) NA2.out T2.out.at_ HQB.out (QX.out.mono HJ.out.1) (by have:=HJ.out; omega)).mono ?_; rintro e w3 ⟨v3,rfl,t3,hb3⟩; have B3:=Lib.hid (B2.out.trans (hb3.mono B2.out.size)); have K3:=Lib.hid (K1.out.below' B3.out); have hs2:=B2.out.size; obtain ⟨A3,m3,c3,A3',m3',c3',rfl,t3a,t3b,t3c,t3d⟩:=t3.open_; obtain ⟨r0,r1,r2,z0,z1,z2⟩:=K3.out.three; have TA:=Lib.hid t3a; have TB:=Lib.hid t3b; have TC:=Lib.hid t3c; have TD:=Lib.hid t3d; clear t3 t3a t3b t3c t3d hb3))
 all_goals
  go_wp2_with fail
  go_roundg g
  case measure=>omega
  case rel =>
   have BZ:Below wr.heap.size wr w3:=Y1.out.trans (B3.out.mono (by omega))
   have hx':=HX.out
   exact ⟨j + 1,_,_,A3,A3',m3,c3,m3',c3',rfl,by omega,by rw [take_succ_get _ hx',List.foldl_append,<- HQ.out]; rfl,by rw [HJ2.out]; exact (HQB.out.mul QX.out).mono (by omega),
    K3.out.box3 _ _ _,(NumNew.box3 TA.out TB.out TC.out TD.out (g:=w.heap.size) (by omega) _ _ _).at_,TC.out.off (by omega),TD.out.off (by omega),Blk.box3far (RB.out.below' BZ) (by omega) _ _ _,below_box3 (BEL.out.trans (BZ.mono (by omega))) (Nat.le_refl _) _ _ _⟩
def sumQ (qs:List Rat):Rat:=qs.foldl (· + ·) 0
def prodQ (qs:List Rat):Rat:=qs.foldl (· * ·) 1

theorem qb_sum {k:Nat} (qs:List Rat)(h:∀ q ∈ qs,QB k q) (k0:Nat) (q0:Rat)(hq:QB k0 q0):QB (k0 + qs.length * (k + 1)) (qs.foldl (· + ·) q0):=by
 induction qs generalizing k0 q0 with
 | nil=>simpa using hq
 | cons q qs ih =>
  have:=ih (fun x hx=>h x (by simp [hx])) (k0 + k + 1) (q0 + q) (hq.add (h q (by simp)))
  refine this.mono ?_
  rw [List.length_cons,Nat.add_mul,Nat.one_mul]
  omega
theorem qb_prod {k:Nat} (qs:List Rat)(h:∀ q ∈ qs,QB k q) (k0:Nat) (q0:Rat)(hq:QB k0 q0):QB (k0 + qs.length * (k + 1)) (qs.foldl (· * ·) q0):=by
 induction qs generalizing k0 q0 with
 | nil=>simpa using hq
 | cons q qs ih =>
  have:=ih (fun x hx=>h x (by simp [hx])) (k0 + k) (q0 * q) (hq.mul (h q (by simp)))
  refine this.mono ?_
  rw [List.length_cons,Nat.add_mul,Nat.one_mul]
  omega
theorem FracsAt.qb {k:Nat} {w:World} {v:Value} {qs:List Rat} (h:FracsAt k w v qs)(h0:0 < k):∀ q ∈ qs,QB k q:=by
 intro q hq
 obtain ⟨cs,_,h2⟩:=h
 obtain ⟨i,hi,rfl⟩:=List.getElem_of_mem hq
 obtain ⟨_,_,_,_,_,_,h3⟩:=h2 i _ (List.getElem?_eq_getElem hi)
 exact h3.qb h0

theorem sumF (w:World) (k:Nat) (lv:Value) (qs:List Rat)(hl:FracsAt k w lv qs)(h0:0 < k)(hk:(qs.length + 1) * (2 * k) <= 4398046511104) :
  Calls Tryz.prog 124 #[lv] w fun e w'=>∃ v',e = .returned v'/\CanNew w.heap.size w' v' (sumQ qs)/\Below w.heap.size w w':=by
 have HL:=Lib.hid hl
 have QS:Hid (QB (k + qs.length * (k + 1)) (sumQ qs)):=Lib.hid (qb_sum qs (hl.qb h0) k 0 (qb_nat (n:=0) (Nat.pow_pos (by omega)) h0))
 have Q0:Hid (QB k ((0:Nat):Rat)):=Lib.hid (qb_nat (n:=0) (Nat.pow_pos (by omega)) h0)
 have HK:Hid (k + qs.length * (k + 1) <= 17592186044416):=Lib.hid (by
  have h1:qs.length * (k + 1) <= qs.length * (2 * k):=Nat.mul_le_mul_left _ (by omega)
  rw [Nat.add_mul,Nat.one_mul] at hk
  omega)
 have HK0:=Lib.hid hk
 have HZ:Hid (((0:Nat):Rat) = 0):=Lib.hid rfl
 clear hl hk
 go_enter Tryz.func124,Tryz.ntmps124
 go_wp2_with fail
 obtain ⟨W,hW,P0,PB,Phs⟩:=box1 w 31 [.bool false,.slice none 0 0,.slice none 0 0]
 rw [<- hW]
 clear hW
 refine (wholeN W 0 (by omega)).mono ?_
 rintro e w1 ⟨v1,rfl,t1,hb1⟩
 have T1:=Lib.hid t1
 have B1:=Lib.hid hb1
 have L1:=Lib.hid ((HL.out.below PB.out).below hb1)
 clear t1 hb1
 go_wp2_with fail
 refine (foldAdd w1 _ k ((0:Nat):Rat) _ qs T1.out.at_ L1.out h0 Q0.out HK0.out).mono ?_
 rintro e w2 ⟨v2,rfl,t2,hb2⟩
 have T2:=Lib.hid t2
 have B2:=Lib.hid (B1.out.trans (hb2.mono B1.out.size))
 clear t2 hb2
 go_wp2_with fail
 refine (give w2 _ (sumQ qs) _ (by have:=T2.out; rwa [HZ.out] at this) QS.out HK.out).mono ?_
 rintro e wz ⟨vz,rfl,tz,hz⟩
 have BZ:=Lib.hid (B2.out.trans (hz.mono B2.out.size))
 have hsz:W.heap.size <= w2.heap.size:=B2.out.size
 obtain ⟨A,m,c,A',m',c',rfl,ta,tb,tc,td⟩:=tz.open_
 obtain ⟨r0,r1,r2,z0,z1,z2⟩:=(P0.out.below' BZ.out).three
 have TA:=Lib.hid ta
 have TB:=Lib.hid tb
 have TC:=Lib.hid tc
 have TD:=Lib.hid td
 clear tz hz ta tb tc td
 go_wp2_with fail
 refine bodyPost_ret (v:=.agg #[.bool (isNeg (sumQ qs)),.slice A m c,.slice A' m' c']) (by simp [results,Tryz.results124,go_sem,r0,r1,r2]) rfl ⟨_,rfl,?_,below_box3 (PB.out.trans (BZ.out.mono (by omega))) (by omega) _ _ _⟩
 exact (CanNew.box3 TA.out TB.out TC.out TD.out (by omega) _ _ _).mono (by omega)

theorem prodF (w:World) (k:Nat) (lv:Value) (qs:List Rat)(hl:FracsAt k w lv qs)(h0:0 < k)(hk:(qs.length + 1) * (2 * k) <= 4398046511104) :
  Calls Tryz.prog 144 #[lv] w fun e w'=>∃ v',e = .returned v'/\CanNew w.heap.size w' v' (prodQ qs)/\Below w.heap.size w w':=by
 have HL:=Lib.hid hl
 have QS:Hid (QB (k + qs.length * (k + 1)) (prodQ qs)):=Lib.hid (qb_prod qs (hl.qb h0) k 1 (qb_nat (n:=1) (Nat.one_lt_two_pow (by omega)) h0))
 have Q0:Hid (QB k ((1:Nat):Rat)):=Lib.hid (qb_nat (n:=1) (Nat.one_lt_two_pow (by omega)) h0)
 have HK:Hid (k + qs.length * (k + 1) <= 17592186044416):=Lib.hid (by
  have h1:qs.length * (k + 1) <= qs.length * (2 * k):=Nat.mul_le_mul_left _ (by omega)
  rw [Nat.add_mul,Nat.one_mul] at hk
  omega)
 have HK0:=Lib.hid hk
 have HZ:Hid (((1:Nat):Rat) = 1):=Lib.hid rfl
 clear hl hk
 go_enter Tryz.func144,Tryz.ntmps144
 go_wp2_with fail
 obtain ⟨W,hW,P0,PB,Phs⟩:=box1 w 31 [.bool false,.slice none 0 0,.slice none 0 0]
 rw [<- hW]
 clear hW
 refine (wholeN W 1 (by omega)).mono ?_
 rintro e w1 ⟨v1,rfl,t1,hb1⟩
 have T1:=Lib.hid t1
 have B1:=Lib.hid hb1
 have L1:=Lib.hid ((HL.out.below PB.out).below hb1)
 clear t1 hb1
 go_wp2_with fail
 refine (foldMul w1 _ k ((1:Nat):Rat) _ qs T1.out.at_ L1.out h0 Q0.out HK0.out).mono ?_
 rintro e w2 ⟨v2,rfl,t2,hb2⟩
 have T2:=Lib.hid t2
 have B2:=Lib.hid (B1.out.trans (hb2.mono B1.out.size))
 clear t2 hb2
 go_wp2_with fail
 refine (give w2 _ (prodQ qs) _ (by have:=T2.out; rwa [HZ.out] at this) QS.out HK.out).mono ?_
 rintro e wz ⟨vz,rfl,tz,hz⟩
 have BZ:=Lib.hid (B2.out.trans (hz.mono B2.out.size))
 have hsz:W.heap.size <= w2.heap.size:=B2.out.size
 obtain ⟨A,m,c,A',m',c',rfl,ta,tb,tc,td⟩:=tz.open_
 obtain ⟨r0,r1,r2,z0,z1,z2⟩:=(P0.out.below' BZ.out).three
 have TA:=Lib.hid ta
 have TB:=Lib.hid tb
 have TC:=Lib.hid tc
 have TD:=Lib.hid td
 clear tz hz ta tb tc td
 go_wp2_with fail
 refine bodyPost_ret (v:=.agg #[.bool (isNeg (prodQ qs)),.slice A m c,.slice A' m' c']) (by simp [results,Tryz.results144,go_sem,r0,r1,r2]) rfl ⟨_,rfl,?_,below_box3 (PB.out.trans (BZ.out.mono (by omega))) (by omega) _ _ _⟩
 exact (CanNew.box3 TA.out TB.out TC.out TD.out (by omega) _ _ _).mono (by omega)

theorem cmpF (w:World) (v v':Value) (q r:Rat) (k:Nat)(h:FracAt k w v q) (h':FracAt k w v' r)(h0:0 < k)(hk:k <= 4398046511104) :
  Calls Tryz.prog 101 #[v,v'] w fun e w'=>e = .returned (.int .i64 (sgnI (q - r)))/\Below w.heap.size w w':=by
 have H1:=Lib.hid h
 have H2:=Lib.hid h'
 have Q1:=Lib.hid (h.qb h0)
 have Q2:=Lib.hid (h'.qb h0)
 obtain ⟨s,vn,vd,rfl⟩:=h.shape
 obtain ⟨t,vn',vd',rfl⟩:=h'.shape
 clear h h'
 go_enter Tryz.func101,Tryz.ntmps101
 go_wp2_with fail
 obtain ⟨W,hW,P0,P1,PB,Phs⟩:=box2 w 31 [.bool s,vn,vd] 31 [.bool t,vn',vd']
 rw [<- hW]
 clear hW
 obtain ⟨p0,p1,p2,_,_,_⟩:=P0.out.three
 obtain ⟨q0,q1,q2,_,_,_⟩:=P1.out.three
 go_region_held3 (fun w'=>w'.cell? ⟨w.heap.size,0,none⟩ = some (.bool s)/\w'.cell? ⟨w.heap.size,1,none⟩ = some vn/\w'.cell? ⟨w.heap.size,2,none⟩ = some vd/\w'.cell? ⟨w.heap.size + 1,0,none⟩ = some (.bool t)/\w'.cell? ⟨w.heap.size + 1,1,none⟩ = some vn'/\w'.cell? ⟨w.heap.size + 1,2,none⟩ = some vd') (first | assumption | (refine six_box3 hS ?_ ?_ _ _ _ <;> omega) | go_keep)
  (first
   | (go_at_call_of 140 (Value.bool s); refine (take _ _ q k ?_ h0 (by omega)).mono ?_; (exact H1.out.below (PB.out.trans (below_drew_self _))); rintro e w1 ⟨v1,rfl,t1,hb1'⟩; have hb1:=below_of_drew hb1'; have B1:=Lib.hid hb1; have hS:=six (P0.out.below' hb1) (P1.out.below' hb1); have T1:=Lib.hid t1; have H2':=Lib.hid ((H2.out.below PB.out).below hb1); clear t1 hb1 hb1')
   | (go_at_call_of 140 (Value.bool t); refine (take w1 _ r k H2'.out h0 (by omega)).mono ?_; rintro e w2 ⟨v2,rfl,t2,hb2⟩; have B2:=Lib.hid (B1.out.trans (hb2.mono B1.out.size)); have hS:=six (P0.out.below' B2.out) (P1.out.below' B2.out); have T2:=Lib.hid t2; have T1':=Lib.hid (T1.out.below hb2); clear t2 hb2)
   | (go_at_call 153; refine (minusN w2 _ r T2.out.at_).mono ?_; rintro e w3 ⟨v3,rfl,t3,hb3⟩; have B3:=Lib.hid (B2.out.trans (hb3.mono B2.out.size)); have hS:=six (P0.out.below' B3.out) (P1.out.below' B3.out); have T3:=Lib.hid t3; have T1'':=Lib.hid (T1'.out.below hb3); clear t3 hb3)
   | (go_at_call 152; refine (addN w3 _ _ q (-r) k T1''.out.at_ T3.out Q1.out Q2.out.neg (by omega)).mono ?_; rintro e w4 ⟨v4,rfl,t4,hb4⟩; have B4:=Lib.hid (B3.out.trans (hb4.mono B3.out.size)); have hS:=six (P0.out.below' B4.out) (P1.out.below' B4.out); have T4:=Lib.hid t4; clear t4 hb4)
   | (go_at_call 141; refine (signN w4 _ _ T4.out.at_).mono ?_; rintro e w5 ⟨rfl,hb5⟩; have B5:=Lib.hid (B4.out.trans (hb5.mono B4.out.size)); have hS:=six (P0.out.below' B5.out) (P1.out.below' B5.out); clear hb5))
 go_wp2_with fail
 go_ret
 exact ⟨ret_i64 (by rw [Rat.sub_eq_add_neg]),PB.out.trans (B5.out.mono (by omega))⟩

theorem subFr (w:World) (v v':Value) (q r:Rat) (k:Nat)(h:FracAt k w v q) (h':FracAt k w v' r)(h0:0 < k)(hk:k <= 549755813888) :
  Calls Tryz.prog 98 #[v,v'] w fun e w'=>∃ u,e = .returned u/\CanNew w.heap.size w' u (q - r)/\Below w.heap.size w w':=by
 have H1:=Lib.hid h
 have H2:=Lib.hid h'
 have Q1:=Lib.hid (h.qb h0)
 have Q2:=Lib.hid (h'.qb h0)
 obtain ⟨s,vn,vd,rfl⟩:=h.shape
 obtain ⟨t,vn',vd',rfl⟩:=h'.shape
 clear h h'
 rw [Rat.sub_eq_add_neg]
 go_enter Tryz.func98,Tryz.ntmps98
 go_wp2_with fail
 obtain ⟨W,hW,P0,P1,P2,PB,Phs⟩:=box3 w 31 [.bool s,vn,vd] 31 [.bool t,vn',vd'] 31 [.bool false,.slice none 0 0,.slice none 0 0]
 rw [<- hW]
 clear hW
 obtain ⟨p0,p1,p2,_,_,_⟩:=P0.out.three
 obtain ⟨q0,q1,q2,_,_,_⟩:=P1.out.three
 go_region_held3 (fun w'=>w'.cell? ⟨w.heap.size,0,none⟩ = some (.bool s)/\w'.cell? ⟨w.heap.size,1,none⟩ = some vn/\w'.cell? ⟨w.heap.size,2,none⟩ = some vd/\w'.cell? ⟨w.heap.size + 1,0,none⟩ = some (.bool t)/\w'.cell? ⟨w.heap.size + 1,1,none⟩ = some vn'/\w'.cell? ⟨w.heap.size + 1,2,none⟩ = some vd') (first | assumption | (refine six_box3 hS ?_ ?_ _ _ _ <;> omega) | go_keep)
  (first
   | (go_at_call_of 140 (Value.bool s); refine (take _ _ q k ?_ h0 (by omega)).mono ?_; (exact H1.out.below (PB.out.trans (below_drew_self _))); rintro e w1 ⟨v1,rfl,t1,hb1'⟩; have hb1:=below_of_drew hb1'; have B1:=Lib.hid hb1; have hS:=six (P0.out.below' hb1) (P1.out.below' hb1); have T1:=Lib.hid t1; have H2':=Lib.hid ((H2.out.below PB.out).below hb1); clear t1 hb1 hb1')
   | (go_at_call_of 140 (Value.bool t); refine (take w1 _ r k H2'.out h0 (by omega)).mono ?_; rintro e w2 ⟨v2,rfl,t2,hb2⟩; have B2:=Lib.hid (B1.out.trans (hb2.mono B1.out.size)); have hS:=six (P0.out.below' B2.out) (P1.out.below' B2.out); have T2:=Lib.hid t2; have T1':=Lib.hid (T1.out.below hb2); clear t2 hb2)
   | (go_at_call 153; refine (minusN w2 _ r T2.out.at_).mono ?_; rintro e w3 ⟨v3,rfl,t3,hb3⟩; have B3:=Lib.hid (B2.out.trans (hb3.mono B2.out.size)); have hS:=six (P0.out.below' B3.out) (P1.out.below' B3.out); have T3:=Lib.hid t3; have T1'':=Lib.hid (T1'.out.below hb3); clear t3 hb3)
   | (go_at_call 152; refine (addN w3 _ _ q (-r) k T1''.out.at_ T3.out Q1.out Q2.out.neg (by omega)).mono ?_; rintro e w4 ⟨v4,rfl,t4,hb4⟩; have B4:=Lib.hid (B3.out.trans (hb4.mono B3.out.size)); have hS:=six (P0.out.below' B4.out) (P1.out.below' B4.out); have T4:=Lib.hid t4; clear t4 hb4)
   | (go_at_call 143; refine (give w4 _ (q + -r) (k + k + 1) T4.out.at_ (Q1.out.add Q2.out.neg) (by omega)).mono ?_; rintro e w5 ⟨v5,rfl,t5,hb5⟩; have B5:=Lib.hid (B4.out.trans (hb5.mono B4.out.size)); have hS:=six (P0.out.below' B5.out) (P1.out.below' B5.out); obtain ⟨A,m,c,A',m',c',rfl,ta,tb,tc,td⟩:=t5.open_; obtain ⟨r0,r1,r2,z0,z1,z2⟩:=(P2.out.below' B5.out).three; have TA:=Lib.hid ta; have TB:=Lib.hid tb; have TC:=Lib.hid tc; have TD:=Lib.hid td; clear t5 hb5 ta tb tc td))
 go_wp2_with fail
 refine bodyPost_ret (v:=.agg #[.bool (isNeg (q + -r)),.slice A m c,.slice A' m' c']) (by simp [results,Tryz.results98,go_sem,r0,r1,r2]) rfl ⟨_,rfl,?_,below_box3 (PB.out.trans (B5.out.mono (by omega))) (by omega) _ _ _⟩
 have hb4:=B4.out.size
 exact (CanNew.box3 TA.out TB.out TC.out TD.out (by omega) _ _ _).mono (by omega)

theorem Blk.fracs2 {k:Nat} {w:World} {g:Nat} {e:TypeId} {a b c a' b' c':Value} {q r:Rat} (h:Blk w g e [a,b,c,a',b',c'])(h1:FracAt k w (.agg #[a,b,c]) q)(h2:FracAt k w (.agg #[a',b',c']) r) :
  FracsAt k w (.slice (some ⟨g,0,none⟩) 2 2) [q,r]:=by
 refine ⟨[a,b,c,a',b',c'],h.sl (sz:=3) (n:=2) (c:=2) (by simp) (by omega) (by unfold maxLen; omega),fun i x hx=>?_⟩
 match i,hx with
 | 0,hx=>simp at hx; subst hx; exact ⟨a,b,c,rfl,rfl,rfl,h1⟩
 | 1,hx=>simp at hx; subst hx; exact ⟨a',b',c',rfl,rfl,rfl,h2⟩

theorem addF (w:World) (v v':Value) (q r:Rat) (k:Nat)(h:FracAt k w v q) (h':FracAt k w v' r)(h0:0 < k)(hk:k <= 549755813888) :
  Calls Tryz.prog 86 #[v,v'] w fun e w'=>∃ u,e = .returned u/\CanNew w.heap.size w' u (q + r)/\Below w.heap.size w w':=by
 have H1:=Lib.hid h
 have H2:=Lib.hid h'
 have HE:Hid (sumQ [q,r] = q + r):=Lib.hid (by simp [sumQ,Rat.zero_add])
 obtain ⟨s,vn,vd,rfl⟩:=h.shape
 obtain ⟨t,vn',vd',rfl⟩:=h'.shape
 clear h h'
 go_enter Tryz.func86,Tryz.ntmps86
 go_wp2_with fail
 obtain ⟨W,hW,P0,P1,P2,P3,PB,Phs⟩:=box4 w 31 [.bool s,vn,vd] 31 [.bool t,vn',vd'] 31 [.bool false,.slice none 0 0,.slice none 0 0] 31 [.bool s,vn,vd,.bool t,vn',vd']
 rw [<- hW]
 clear hW
 refine (sumF W k _ [q,r] (P3.out.fracs2 (H1.out.below PB.out) (H2.out.below PB.out)) h0 (by simp; omega)).mono ?_
 rw [HE.out]
 rintro e wz ⟨vz,rfl,tz,hz⟩
 have BZ:=Lib.hid ((Below.refl W.heap.size W).trans (hz.mono (Nat.le_refl W.heap.size)))
 have hsz:W.heap.size <= W.heap.size:=(Nat.le_refl W.heap.size)
 obtain ⟨A,m,c,A',m',c',rfl,ta,tb,tc,td⟩:=tz.open_
 obtain ⟨r0,r1,r2,z0,z1,z2⟩:=(P2.out.below' BZ.out).three
 have TA:=Lib.hid ta
 have TB:=Lib.hid tb
 have TC:=Lib.hid tc
 have TD:=Lib.hid td
 clear tz hz ta tb tc td
 go_wp2_with fail
 refine bodyPost_ret (v:=.agg #[.bool (isNeg (q + r)),.slice A m c,.slice A' m' c']) (by simp [results,Tryz.results86,go_sem,r0,r1,r2]) rfl ⟨_,rfl,?_,below_box3 (PB.out.trans (BZ.out.mono (by omega))) (by omega) _ _ _⟩
 exact (CanNew.box3 TA.out TB.out TC.out TD.out (by omega) _ _ _).mono (by omega)

theorem mulF (w:World) (v v':Value) (q r:Rat) (k:Nat)(h:FracAt k w v q) (h':FracAt k w v' r)(h0:0 < k)(hk:k <= 549755813888) :
  Calls Tryz.prog 93 #[v,v'] w fun e w'=>∃ u,e = .returned u/\CanNew w.heap.size w' u (q * r)/\Below w.heap.size w w':=by
 have H1:=Lib.hid h
 have H2:=Lib.hid h'
 have HE:Hid (prodQ [q,r] = q * r):=Lib.hid (by simp [prodQ,Rat.one_mul])
 obtain ⟨s,vn,vd,rfl⟩:=h.shape
 obtain ⟨t,vn',vd',rfl⟩:=h'.shape
 clear h h'
 go_enter Tryz.func93,Tryz.ntmps93
 go_wp2_with fail
 obtain ⟨W,hW,P0,P1,P2,P3,PB,Phs⟩:=box4 w 31 [.bool s,vn,vd] 31 [.bool t,vn',vd'] 31 [.bool false,.slice none 0 0,.slice none 0 0] 31 [.bool s,vn,vd,.bool t,vn',vd']
 rw [<- hW]
 clear hW
 refine (prodF W k _ [q,r] (P3.out.fracs2 (H1.out.below PB.out) (H2.out.below PB.out)) h0 (by simp; omega)).mono ?_
 rw [HE.out]
 rintro e wz ⟨vz,rfl,tz,hz⟩
 have BZ:=Lib.hid ((Below.refl W.heap.size W).trans (hz.mono (Nat.le_refl W.heap.size)))
 have hsz:W.heap.size <= W.heap.size:=(Nat.le_refl W.heap.size)
 obtain ⟨A,m,c,A',m',c',rfl,ta,tb,tc,td⟩:=tz.open_
 obtain ⟨r0,r1,r2,z0,z1,z2⟩:=(P2.out.below' BZ.out).three
 have TA:=Lib.hid ta
 have TB:=Lib.hid tb
 have TC:=Lib.hid tc
 have TD:=Lib.hid td
 clear tz hz ta tb tc td
 go_wp2_with fail
 refine bodyPost_ret (v:=.agg #[.bool (isNeg (q * r)),.slice A m c,.slice A' m' c']) (by simp [results,Tryz.results93,go_sem,r0,r1,r2]) rfl ⟨_,rfl,?_,below_box3 (PB.out.trans (BZ.out.mono (by omega))) (by omega) _ _ _⟩
 exact (CanNew.box3 TA.out TB.out TC.out TD.out (by omega) _ _ _).mono (by omega)
end Go.Proofs.YtdehimgccmbfkaaGreat
