/- Lemmas on the way: Frac7, Frac8, Frac9. -/
import Derived.Test.YtkdhppimhdemjaaGreatU19
set_option linter.all false
set_option maxRecDepth 1000000
set_option maxHeartbeats 32000000
namespace Go.Proofs.YtkdhppimhdemjaaGreat
open Go.RowKit
theorem ay.at_ {B:Nat} {w:World} {v:Value} {q:Rat} (h:ay B w v q):cJ w v q:=by
 obtain ⟨vn,vd,e,h1,h2,_⟩:=h
 exact ⟨vn,vd,e,h1,h2⟩
theorem ay.below {B:Nat} {w w':World} {v:Value} {q:Rat} (h:ay B w v q)(hb:Below w.heap.size w w'):ay B w' v q:=by
 obtain ⟨vn,vd,e,h1,h2,h3⟩:=h
 exact ⟨vn,vd,e,h1.below hb,h2.below hb,h3⟩
theorem ay.mono {B B':Nat} {w:World} {v:Value} {q:Rat} (h:ay B w v q)(hb:B' <= B):ay B' w v q:=by
 obtain ⟨vn,vd,e,h1,h2,h3,h4⟩:=h
 exact ⟨vn,vd,e,h1,h2,h3.mono hb,h4.mono hb⟩
theorem cJ.below {w w':World} {v:Value} {q:Rat} (h:cJ w v q)(hb:Below w.heap.size w w'):cJ w' v q:=by
 obtain ⟨vn,vd,e,h1,h2⟩:=h
 exact ⟨vn,vd,e,h1.below hb,h2.below hb⟩
theorem ay.open_ {B:Nat} {w:World} {v:Value} {q:Rat} (h:ay B w v q):∃ A m c A' m' c',v = .agg #[.bool (ap q),.slice A m c,.slice A' m' c']/\ab w (.slice A m c) q.num.natAbs/\ab w (.slice A' m' c') (if q.den = 1 then 0 else q.den)/\bf (.slice A m c) B/\bf (.slice A' m' c') B:=by
 obtain ⟨vn,vd,rfl,h1,h2,h3,h4⟩:=h
 obtain ⟨A,m,c,rfl,_⟩:=h1.len
 obtain ⟨A',m',c',rfl,_⟩:=h2.len
 exact ⟨A,m,c,A',m',c',rfl,h1,h2,h3,h4⟩
theorem ay.box3 {B g:Nat} {w:World} {q:Rat} {A A':Option Addr} {m c m' c':Nat} (h1:ab w (.slice A m c) q.num.natAbs)(h2:ab w (.slice A' m' c') (if q.den = 1 then 0 else q.den))(h3:bf (.slice A m c) B)(h4:bf (.slice A' m' c') B)(hg:g < B) (u0 u1 u2:Value) :
  ay B (((w.setCell ⟨g,0,none⟩ u0).setCell ⟨g,1,none⟩ u1).setCell ⟨g,2,none⟩ u2) (.agg #[.bool (ap q),.slice A m c,.slice A' m' c']) q :=
 ⟨_,_,rfl,h1.box3 (h3.mono hg) _ _ _,h2.box3 (h4.mono hg) _ _ _,h3,h4⟩
theorem az.shape {k:Nat} {w:World} {v:Value} {q:Rat} (h:az k w v q):∃ neg vn vd,v = .agg #[.bool neg,vn,vd]:=by
 obtain ⟨neg,vn,vd,_,_,e,_⟩:=h
 exact ⟨neg,vn,vd,e⟩
theorem cJ.frac {k:Nat} {w:World} {v:Value} {q:Rat} (h:cJ w v q)(hb:QB k q)(hk:k <= 17592186044416):az k w v q:=by
 obtain ⟨vn,vd,e,⟨l,d1,t1,e1⟩,⟨l',d2,t2,e2⟩⟩:=h
 have hp:=q.den_pos
 have b1:val l < 2 ^ k:=by rw [e1]; exact hb.1
 have b2:val l' < 2 ^ k:=by
  rw [e2]
  split
  ·exact Nat.pow_pos (by omega)
  exact hb.2
 refine ⟨ap q,vn,vd,l,l',e,d1,d2,?_,b1,b2,by have:=t1.length_le b1; omega,by have:=t2.length_le b2; omega⟩
 unfold bX
 rw [e1,e2,<- f6]
 by_cases h:q.den = 1
 ·rw [if_pos h,if_pos rfl,<- h,Rat.mkRat_self]
 rw [if_neg h,if_neg (by omega),Rat.mkRat_self]

theorem ND (w:World) (v:Value) (q:Rat) (k:Nat)(h:az k w v q)(h0:0 < k)(hk:k <= 17592186044416) :
  Calls Tryz.prog 45 #[v] w fun e w'=>∃ v',e = .returned v'/\ay w.heap.size w' v' q/\Below w.heap.size w w':=by
 have QH:=Lib.hid (h.qb h0)
 have HF:=Lib.hid h
 obtain ⟨neg,vn,vd,rfl⟩:=h.shape
 clear h
 go_enter Tryz.func45,Tryz.ntmps45
 go_wp2_with fail
 obtain ⟨W,hW,P0,P1,PB,Phs⟩:=jz w 30 [.bool neg,vn,vd] 30 [.bool false,.slice none 0 0,.slice none 0 0]
 rw [<- hW]
 clear hW
 refine (take W _ q k (HF.out.below PB.out) h0 hk).mono ?_
 rintro e w1 ⟨v1,rfl,t1,hb1⟩
 have T1:=Lib.hid t1
 have B1:=Lib.hid hb1
 clear t1 hb1
 go_wp2_with fail
 refine (CR w1 _ q k T1.out.at_ QH.out hk).mono ?_
 rintro e wz ⟨vz,rfl,tz,hz⟩
 have BZ:=Lib.hid (B1.out.trans (hz.mono B1.out.size))
 have hsz:W.heap.size <= w1.heap.size:=B1.out.size
 obtain ⟨A,m,c,A',m',c',rfl,ta,tb,tc,td⟩:=tz.open_
 obtain ⟨r0,r1,r2,z0,z1,z2⟩:=(P1.out.below' BZ.out).three
 have TA:=Lib.hid ta
 have TB:=Lib.hid tb
 have TC:=Lib.hid tc
 have TD:=Lib.hid td
 clear tz hz ta tb tc td
 go_wp2_with fail
 refine bodyPost_ret (v:=.agg #[.bool (ap (q)),.slice A m c,.slice A' m' c']) (by simp [results,Tryz.results45,go_sem,r0,r1,r2]) rfl ⟨_,rfl,?_,ar (PB.out.trans (BZ.out.mono (by omega))) (by omega) _ _ _⟩
 exact (ay.box3 TA.out TB.out TC.out TD.out (by omega) _ _ _).mono (by omega)

theorem Av (w:World) (v:Value) (q:Rat) (k:Nat)(h:az k w v q)(h0:0 < k)(hk:k <= 17592186044416) :
  Calls Tryz.prog 59 #[v] w fun e w'=>e = .returned (.int .i64 (ce q))/\Below w.heap.size w w':=by
 have HF:=Lib.hid h
 obtain ⟨neg,vn,vd,rfl⟩:=h.shape
 clear h
 go_enter Tryz.func59,Tryz.ntmps59
 go_wp2_with fail
 obtain ⟨W,hW,P0,PB,Phs⟩:=eU w 30 [.bool neg,vn,vd]
 rw [<- hW]
 clear hW
 refine (take W _ q k (HF.out.below PB.out) h0 hk).mono ?_
 rintro e w1 ⟨v1,rfl,t1,hb1⟩
 have T1:=Lib.hid t1
 have B1:=Lib.hid (PB.out.trans (hb1.mono (by omega)))
 clear t1 hb1
 go_wp2_with fail
 refine (Ka w1 _ q T1.out.at_).mono ?_
 rintro e w2 ⟨rfl,hb2⟩
 have B2:=Lib.hid (B1.out.trans (hb2.mono B1.out.size))
 clear hb2
 go_wp2_with fail
 go_ret
 exact ⟨rfl,B2.out⟩

theorem eX {n k:Nat} (h:n < 2 ^ k)(hk:0 < k):QB k (n:Rat):=⟨by simpa using h,by simpa using Nat.one_lt_two_pow (n:=k) (by omega)⟩

theorem Ot (w:World) (n:Nat)(hn:n < 9223372036854775808) :
  Calls Tryz.prog 40 #[.int .i64 (n:Int)] w fun e w'=>∃ v',e = .returned v'/\ay w.heap.size w' v' (n:Rat)/\Below w.heap.size w w':=by
 have QH:Hid (QB 63 (n:Rat)):=Lib.hid (eX (by omega) (by omega))
 go_enter Tryz.func40,Tryz.ntmps40
 go_wp2_with fail
 obtain ⟨W,hW,P0,PB,Phs⟩:=eU w 30 [.bool false,.slice none 0 0,.slice none 0 0]
 rw [<- hW]
 clear hW
 refine (yE W n hn).mono ?_
 rintro e w1 ⟨v1,rfl,t1,hb1⟩
 have T1:=Lib.hid t1
 have B1:=Lib.hid hb1
 clear t1 hb1
 go_wp2_with fail
 refine (CR w1 _ (n:Rat) 63 T1.out.at_ QH.out (by omega)).mono ?_
 rintro e wz ⟨vz,rfl,tz,hz⟩
 have BZ:=Lib.hid (B1.out.trans (hz.mono B1.out.size))
 have hsz:W.heap.size <= w1.heap.size:=B1.out.size
 obtain ⟨A,m,c,A',m',c',rfl,ta,tb,tc,td⟩:=tz.open_
 obtain ⟨r0,r1,r2,z0,z1,z2⟩:=(P0.out.below' BZ.out).three
 have TA:=Lib.hid ta
 have TB:=Lib.hid tb
 have TC:=Lib.hid tc
 have TD:=Lib.hid td
 clear tz hz ta tb tc td
 go_wp2_with fail
 refine bodyPost_ret (v:=.agg #[.bool (ap ((n:Rat))),.slice A m c,.slice A' m' c']) (by simp [results,Tryz.results40,go_sem,r0,r1,r2]) rfl ⟨_,rfl,?_,ar (PB.out.trans (BZ.out.mono (by omega))) (by omega) _ _ _⟩
 exact (ay.box3 TA.out TB.out TC.out TD.out (by omega) _ _ _).mono (by omega)

def bz (k:Nat) (w:World) (v:Value) (qs:List Rat):Prop:=∃ cells,Sl w 3 v qs.length cells /\
 ∀ i q,qs[i]? = some q->∃ c0 c1 c2,cells[i * 3]? = some c0/\cells[i * 3 + 1]? = some c1/\cells[i * 3 + 2]? = some c2/\az k w (.agg #[c0,c1,c2]) q
theorem bz.below {k:Nat} {w w':World} {v:Value} {qs:List Rat} (h:bz k w v qs)(hb:Below w.heap.size w w'):bz k w' v qs:=by
 obtain ⟨cs,h1,h2⟩:=h
 refine ⟨cs,h1.below hb,fun i q hq=>?_⟩
 obtain ⟨c0,c1,c2,e0,e1,e2,h3⟩:=h2 i q hq
 exact ⟨c0,c1,c2,e0,e1,e2,h3.below hb⟩
theorem bz.at_ {k:Nat} {w:World} {v:Value} {qs:List Rat} (h:bz k w v qs):∃ A c,v = .slice A qs.length c/\qs.length <= c/\c <= 9223372036854775807 /\
  ∀ i q,qs[i]? = some q->∃ b off neg An n cn Ad d cd,A = some ⟨b,off,none⟩/\b < w.heap.size/\w.cell? ⟨b,off + i * 3,none⟩ = some (.bool neg)/\w.cell? ⟨b,off + i * 3 + 1,none⟩ = some (.slice An n cn)/\w.cell? ⟨b,off + i * 3 + 2,none⟩ = some (.slice Ad d cd)/\az k w (.agg #[.bool neg,.slice An n cn,.slice Ad d cd]) q:=by
 obtain ⟨cs,h1,h2⟩:=h
 obtain ⟨hl,A,c,rfl,hc,hm,h3⟩:=h1
 refine ⟨A,c,rfl,hc,by unfold maxLen at hm; omega,fun i q hq=>?_⟩
 have hi:=(List.getElem?_eq_some_iff.1 hq).1
 obtain ⟨b,off,rfl,hb,hcell⟩:=h3 (by omega)
 obtain ⟨c0,c1,c2,e0,e1,e2,h4⟩:=h2 i q hq
 have h5:=h4
 obtain ⟨neg,vn,vd,ln,ld,e,hn,hd,_⟩:=h5
 obtain ⟨_,An,cn,rfl,_⟩:=hn.open_
 obtain ⟨_,Ad,cd,rfl,_⟩:=hd.open_
 injection e with e
 have e':[c0,c1,c2] = [.bool neg,.slice An ln.length cn,.slice Ad ld.length cd]:=congrArg Array.toList e
 simp only [List.cons.injEq,and_true] at e'
 obtain ⟨rfl,rfl,rfl⟩:=e'
 exact ⟨b,off,neg,_,_,_,_,_,_,rfl,hb,hcell _ _ e0,by rw [Nat.add_assoc]; exact hcell _ _ e1,by rw [Nat.add_assoc]; exact hcell _ _ e2,h4⟩

theorem Je (w:World) (v0:Value) (k:Nat) (q0:Rat) (lv:Value) (qs:List Rat)(h:dU w v0 q0)(hl:bz k w lv qs)(h0:0 < k)(hb:QB k q0)(hk:(qs.length + 1) * (2 * k) <= 4398046511104) :
  Calls Tryz.prog 112 #[v0,.func (.func 126) #[] #[],lv] w fun e w'=>∃ v',e = .returned v'/\dU w' v' (qs.foldl (· + ·) q0)/\Below w.heap.size w w':=by
 obtain ⟨A,c,rfl,hlc,hcm,hat⟩:=hl.at_
 obtain ⟨A0,m,c0,A0',m',c0',rfl,hm,hm',hp,h1,h2⟩:=h.open_
 have HL:=Lib.hid hl
 have HAT:=Lib.hid hat
 have HN:=Lib.hid h
 have HB:=Lib.hid hb
 have OF1:=Lib.hid (h1.off (F:=w.heap.size + 1) (Nat.le_succ _))
 have OF2:=Lib.hid (h2.off (F:=w.heap.size + 1) (Nat.le_succ _))
 clear hl hat h hp h1 h2 hb
 obtain ⟨n,hn⟩:∃ n,qs.length = n:=⟨_,rfl⟩
 have HLN:=Lib.hid hn
 rw [hn] at hlc hk ⊢
 clear hn
 generalize ap q0 = s at *
 go_enter Tryz.func112,Tryz.ntmps112
 go_wp2_with fail
 obtain ⟨W,hW,P0,P1,PB,Phs⟩:=jz w 185 [.bool s,.slice A0 m c0,.slice A0' m' c0'] 185 [.bool false,.slice none 0 0,.slice none 0 0]
 rw [<- hW]
 clear hW
 go_loopg [11] n (fun g i wr=>∃ (j:Nat) (q:Rat) (b:Bool) (A1 A1':Option Addr) (m1 c1 m1' c1':Nat),i = .int .i64 j/\j + g = n/\q = (qs.take j).foldl (· + ·) q0/\QB ((j + 1) * (2 * k)) q /\
  bw wr w.heap.size 185 [.bool b,.slice A1 m1 c1,.slice A1' m1' c1']/\dU wr (.agg #[.bool b,.slice A1 m1 c1,.slice A1' m1' c1']) q/\rZ (.slice A1 m1 c1) (w.heap.size + 1)/\rZ (.slice A1' m1' c1') (w.heap.size + 1) /\
  bw wr (w.heap.size + 1) 185 [.bool false,.slice none 0 0,.slice none 0 0]/\Below w.heap.size w wr)
 case atStart=>exact ⟨0,q0,s,A0,A0',m,c0,m',c0',rfl,by omega,rfl,HB.out.mono (by omega),P0.out,HN.out.below PB.out,OF1.out,OF2.out,P1.out,PB.out⟩
 obtain ⟨j,q,b,A1,A1',m1,c1,m1',c1',rfl,hj,hq,hqb,hbk,hna,ho1,ho2,hrb,hbel⟩:=hrel
 have HQ:=Lib.hid hq
 have HQB:=Lib.hid hqb
 have BK:=Lib.hid hbk
 have NA:=Lib.hid hna
 have O1:=Lib.hid ho1
 have O2:=Lib.hid ho2
 have RB:=Lib.hid hrb
 have BEL:=Lib.hid hbel
 have hsz:w.heap.size + 2 <= wr.heap.size:=by have:=hrb.lt; omega
 clear hq hqb hbk hna ho1 ho2 hrb hbel
 obtain ⟨p0,p1,p2,_,_,_⟩:=BK.out.three
 rcases Nat.eq_zero_or_pos gk with h | h
 ·obtain rfl:j = n:=by omega
  obtain ⟨r0,r1,r2,z0,z1,z2⟩:=RB.out.three
  go_wp2_with fail
  refine bodyPost_ret (v:=.agg #[.bool b,.slice A1 m1 c1,.slice A1' m1' c1']) (by simp [results,Tryz.results112,go_sem,r0,r1,r2]) rfl ⟨_,rfl,?_,ar BEL.out (Nat.le_succ _) _ _ _⟩
  obtain ⟨vn,vd,e,t1,t2⟩:=NA.out
  rw [HQ.out,List.take_of_length_le (by rw [HLN.out]; exact Nat.le_refl _)] at *
  injection e with e
  have e':[Value.bool b,.slice A1 m1 c1,.slice A1' m1' c1'] = [.bool _,vn,vd]:=congrArg Array.toList e
  simp only [List.cons.injEq,and_true] at e'
  obtain ⟨e0,rfl,rfl⟩:=e'
  exact ⟨_,_,by rw [e0],t1.box3off O1.out _ _ _,t2.box3off O2.out _ _ _⟩
 obtain ⟨g,rfl⟩:∃ g,gk = g + 1:=⟨gk - 1,by omega⟩
 obtain ⟨x,hx⟩:∃ x,qs[j]? = some x:=⟨_,List.getElem?_eq_getElem (by rw [HLN.out]; omega)⟩
 obtain ⟨bb,off,neg,An,nn,cn,Ad,nd,cd,rfl,hbb,e0,e1,e2,hfr⟩:=HAT.out j x hx
 have d0:=(BEL.out.cell (p:=⟨bb,off + j * 3,none⟩) hbb).trans e0
 have d1:=(BEL.out.cell (p:=⟨bb,off + j * 3 + 1,none⟩) hbb).trans e1
 have d2:=(BEL.out.cell (p:=⟨bb,off + j * 3 + 2,none⟩) hbb).trans e2
 have FR:=Lib.hid (hfr.below BEL.out)
 have QX:=Lib.hid (hfr.qb h0)
 have HX:=Lib.hid hx
 have hjk:(j + 1) * (2 * k) <= (n + 1) * (2 * k):=Nat.mul_le_mul_right _ (by omega)
 have hjk2:(j + 1 + 1) * (2 * k) = (j + 1) * (2 * k) + 2 * k:=by rw [Nat.add_mul (j + 1) 1,Nat.one_mul]
 have HJ:Hid (k <= (j + 1) * (2 * k)/\(j + 1) * (2 * k) <= 4398046511104):=Lib.hid ⟨by have:1 * (2 * k) <= (j + 1) * (2 * k):=Nat.mul_le_mul_right _ (by omega); omega,by omega⟩
 have HK:=Lib.hid hk
 have HJ2:=Lib.hid hjk2
 clear hx e0 e1 e2 hfr hjk hjk2 hk
 go_wp2_with fail
 obtain ⟨W1,hW1⟩:∃ W1,W1 = wr.alloc (.cells #[.bool neg,.slice An nn cn,.slice Ad nd cd] 30):=⟨_,rfl⟩
 have X1:Hid (bw W1 wr.heap.size 30 [.bool neg,.slice An nn cn,.slice Ad nd cd]):=Lib.hid (by rw [hW1]; exact bw.new wr _ _)
 have Y1:Hid (Below wr.heap.size wr W1):=Lib.hid (by rw [hW1]; exact (Below.refl _ _).alloc (Nat.le_refl _) _)
 rw [<- hW1]
 clear hW1
 have K1:=Lib.hid (BK.out.below' Y1.out)
 obtain ⟨x0,x1,x2,_,_,_⟩:=X1.out.three
 obtain ⟨k0,k1,k2,_,_,_⟩:=K1.out.three
 have hs1:wr.heap.size + 1 <= W1.heap.size:=X1.out.lt
 clear d0 d1 d2 p0 p1 p2
 go_region_with (first
   | (go_at_call 115; refine (take _ _ x k ?_ h0 (by have:=HJ.out; omega)).mono ?_; (exact FR.out.below (Y1.out.trans (ak _))); rintro e w2 ⟨v2,rfl,t2,hb2'⟩; have hb2:=ah hb2'; have B2:=Lib.hid hb2; obtain ⟨k0',k1',k2',_,_,_⟩:=(K1.out.below' hb2).three; have T2:=Lib.hid t2; have NA2:=Lib.hid (NA.out.below (Y1.out.trans (hb2.mono (by omega)))); clear t2 hb2 hb2')
   | (go_at_call 126; refine (Mb w2 _ _ q x ((j + 1) * (2 * k)) NA2.out T2.out.at_ HQB.out (QX.out.mono HJ.out.1) (by have:=HJ.out; omega)).mono ?_; rintro e w3 ⟨v3,rfl,t3,hb3⟩; have B3:=Lib.hid (B2.out.trans (hb3.mono B2.out.size)); have K3:=Lib.hid (K1.out.below' B3.out); have hs2:=B2.out.size; obtain ⟨A3,m3,c3,A3',m3',c3',rfl,t3a,t3b,t3c,t3d⟩:=t3.open_; obtain ⟨r0,r1,r2,z0,z1,z2⟩:=K3.out.three; have TA:=Lib.hid t3a; have TB:=Lib.hid t3b; have TC:=Lib.hid t3c; have TD:=Lib.hid t3d; clear t3 t3a t3b t3c t3d hb3))
 all_goals
  go_wp2_with fail
  go_roundg g
  case measure=>omega
  case rel =>
   have BZ:Below wr.heap.size wr w3:=Y1.out.trans (B3.out.mono (by omega))
   have hx':=HX.out
   exact ⟨j + 1,_,_,A3,A3',m3,c3,m3',c3',rfl,by omega,by rw [aG _ hx',List.foldl_append,<- HQ.out]; rfl,by rw [HJ2.out]; exact (HQB.out.add QX.out).mono (by omega),
    K3.out.box3 _ _ _,(cg.box3 TA.out TB.out TC.out TD.out (g:=w.heap.size) (by omega) _ _ _).at_,TC.out.off (by omega),TD.out.off (by omega),bw.box3far (RB.out.below' BZ) (by omega) _ _ _,ar (BEL.out.trans (BZ.mono (by omega))) (Nat.le_refl _) _ _ _⟩

theorem Jc (w:World) (v0:Value) (k:Nat) (q0:Rat) (lv:Value) (qs:List Rat)(h:dU w v0 q0)(hl:bz k w lv qs)(h0:0 < k)(hb:QB k q0)(hk:(qs.length + 1) * (2 * k) <= 4398046511104) :
  Calls Tryz.prog 112 #[v0,.func (.func 113) #[] #[],lv] w fun e w'=>∃ v',e = .returned v'/\dU w' v' (qs.foldl (· * ·) q0)/\Below w.heap.size w w':=by
 obtain ⟨A,c,rfl,hlc,hcm,hat⟩:=hl.at_
 obtain ⟨A0,m,c0,A0',m',c0',rfl,hm,hm',hp,h1,h2⟩:=h.open_
 have HL:=Lib.hid hl
 have HAT:=Lib.hid hat
 have HN:=Lib.hid h
 have HB:=Lib.hid hb
 have OF1:=Lib.hid (h1.off (F:=w.heap.size + 1) (Nat.le_succ _))
 have OF2:=Lib.hid (h2.off (F:=w.heap.size + 1) (Nat.le_succ _))
 clear hl hat h hp h1 h2 hb
 obtain ⟨n,hn⟩:∃ n,qs.length = n:=⟨_,rfl⟩
 have HLN:=Lib.hid hn
 rw [hn] at hlc hk ⊢
 clear hn
 generalize ap q0 = s at *
 go_enter Tryz.func112,Tryz.ntmps112
 go_wp2_with fail
 obtain ⟨W,hW,P0,P1,PB,Phs⟩:=jz w 185 [.bool s,.slice A0 m c0,.slice A0' m' c0'] 185 [.bool false,.slice none 0 0,.slice none 0 0]
 rw [<- hW]
 clear hW
 go_loopg [11] n (fun g i wr=>∃ (j:Nat) (q:Rat) (b:Bool) (A1 A1':Option Addr) (m1 c1 m1' c1':Nat),i = .int .i64 j/\j + g = n/\q = (qs.take j).foldl (· * ·) q0/\QB ((j + 1) * (2 * k)) q /\
  bw wr w.heap.size 185 [.bool b,.slice A1 m1 c1,.slice A1' m1' c1']/\dU wr (.agg #[.bool b,.slice A1 m1 c1,.slice A1' m1' c1']) q/\rZ (.slice A1 m1 c1) (w.heap.size + 1)/\rZ (.slice A1' m1' c1') (w.heap.size + 1) /\
  bw wr (w.heap.size + 1) 185 [.bool false,.slice none 0 0,.slice none 0 0]/\Below w.heap.size w wr)
 case atStart=>exact ⟨0,q0,s,A0,A0',m,c0,m',c0',rfl,by omega,rfl,HB.out.mono (by omega),P0.out,HN.out.below PB.out,OF1.out,OF2.out,P1.out,PB.out⟩
 obtain ⟨j,q,b,A1,A1',m1,c1,m1',c1',rfl,hj,hq,hqb,hbk,hna,ho1,ho2,hrb,hbel⟩:=hrel
 have HQ:=Lib.hid hq
 have HQB:=Lib.hid hqb
 have BK:=Lib.hid hbk
 have NA:=Lib.hid hna
 have O1:=Lib.hid ho1
 have O2:=Lib.hid ho2
 have RB:=Lib.hid hrb
 have BEL:=Lib.hid hbel
 have hsz:w.heap.size + 2 <= wr.heap.size:=by have:=hrb.lt; omega
 clear hq hqb hbk hna ho1 ho2 hrb hbel
 obtain ⟨p0,p1,p2,_,_,_⟩:=BK.out.three
 rcases Nat.eq_zero_or_pos gk with h | h
 ·obtain rfl:j = n:=by omega
  obtain ⟨r0,r1,r2,z0,z1,z2⟩:=RB.out.three
  go_wp2_with fail
  refine bodyPost_ret (v:=.agg #[.bool b,.slice A1 m1 c1,.slice A1' m1' c1']) (by simp [results,Tryz.results112,go_sem,r0,r1,r2]) rfl ⟨_,rfl,?_,ar BEL.out (Nat.le_succ _) _ _ _⟩
  obtain ⟨vn,vd,e,t1,t2⟩:=NA.out
  rw [HQ.out,List.take_of_length_le (by rw [HLN.out]; exact Nat.le_refl _)] at *
  injection e with e
  have e':[Value.bool b,.slice A1 m1 c1,.slice A1' m1' c1'] = [.bool _,vn,vd]:=congrArg Array.toList e
  simp only [List.cons.injEq,and_true] at e'
  obtain ⟨e0,rfl,rfl⟩:=e'
  exact ⟨_,_,by rw [e0],t1.box3off O1.out _ _ _,t2.box3off O2.out _ _ _⟩
 obtain ⟨g,rfl⟩:∃ g,gk = g + 1:=⟨gk - 1,by omega⟩
 obtain ⟨x,hx⟩:∃ x,qs[j]? = some x:=⟨_,List.getElem?_eq_getElem (by rw [HLN.out]; omega)⟩
 obtain ⟨bb,off,neg,An,nn,cn,Ad,nd,cd,rfl,hbb,e0,e1,e2,hfr⟩:=HAT.out j x hx
 have d0:=(BEL.out.cell (p:=⟨bb,off + j * 3,none⟩) hbb).trans e0
 have d1:=(BEL.out.cell (p:=⟨bb,off + j * 3 + 1,none⟩) hbb).trans e1
 have d2:=(BEL.out.cell (p:=⟨bb,off + j * 3 + 2,none⟩) hbb).trans e2
 have FR:=Lib.hid (hfr.below BEL.out)
 have QX:=Lib.hid (hfr.qb h0)
 have HX:=Lib.hid hx
 have hjk:(j + 1) * (2 * k) <= (n + 1) * (2 * k):=Nat.mul_le_mul_right _ (by omega)
 have hjk2:(j + 1 + 1) * (2 * k) = (j + 1) * (2 * k) + 2 * k:=by rw [Nat.add_mul (j + 1) 1,Nat.one_mul]
 have HJ:Hid (k <= (j + 1) * (2 * k)/\(j + 1) * (2 * k) <= 4398046511104):=Lib.hid ⟨by have:1 * (2 * k) <= (j + 1) * (2 * k):=Nat.mul_le_mul_right _ (by omega); omega,by omega⟩
 have HK:=Lib.hid hk
 have HJ2:=Lib.hid hjk2
 clear hx e0 e1 e2 hfr hjk hjk2 hk
 go_wp2_with fail
 obtain ⟨W1,hW1⟩:∃ W1,W1 = wr.alloc (.cells #[.bool neg,.slice An nn cn,.slice Ad nd cd] 30):=⟨_,rfl⟩
 have X1:Hid (bw W1 wr.heap.size 30 [.bool neg,.slice An nn cn,.slice Ad nd cd]):=Lib.hid (by rw [hW1]; exact bw.new wr _ _)
 have Y1:Hid (Below wr.heap.size wr W1):=Lib.hid (by rw [hW1]; exact (Below.refl _ _).alloc (Nat.le_refl _) _)
 rw [<- hW1]
 clear hW1
 have K1:=Lib.hid (BK.out.below' Y1.out)
 obtain ⟨x0,x1,x2,_,_,_⟩:=X1.out.three
 obtain ⟨k0,k1,k2,_,_,_⟩:=K1.out.three
 have hs1:wr.heap.size + 1 <= W1.heap.size:=X1.out.lt
 clear d0 d1 d2 p0 p1 p2
 go_region_with (first
   | (go_at_call 115; refine (take _ _ x k ?_ h0 (by have:=HJ.out; omega)).mono ?_; (exact FR.out.below (Y1.out.trans (ak _))); rintro e w2 ⟨v2,rfl,t2,hb2'⟩; have hb2:=ah hb2'; have B2:=Lib.hid hb2; obtain ⟨k0',k1',k2',_,_,_⟩:=(K1.out.below' hb2).three; have T2:=Lib.hid t2; have NA2:=Lib.hid (NA.out.below (Y1.out.trans (hb2.mono (by omega)))); clear t2 hb2 hb2')
   | (go_at_call 113; refine (Nd w2 _ _ q x ((j + 1) * (2 * k)) NA2.out T2.out.at_ HQB.out (QX.out.mono HJ.out.1) (by have:=HJ.out; omega)).mono ?_; rintro e w3 ⟨v3,rfl,t3,hb3⟩; have B3:=Lib.hid (B2.out.trans (hb3.mono B2.out.size)); have K3:=Lib.hid (K1.out.below' B3.out); have hs2:=B2.out.size; obtain ⟨A3,m3,c3,A3',m3',c3',rfl,t3a,t3b,t3c,t3d⟩:=t3.open_; obtain ⟨r0,r1,r2,z0,z1,z2⟩:=K3.out.three; have TA:=Lib.hid t3a; have TB:=Lib.hid t3b; have TC:=Lib.hid t3c; have TD:=Lib.hid t3d; clear t3 t3a t3b t3c t3d hb3))
 all_goals
  go_wp2_with fail
  go_roundg g
  case measure=>omega
  case rel =>
   have BZ:Below wr.heap.size wr w3:=Y1.out.trans (B3.out.mono (by omega))
   have hx':=HX.out
   exact ⟨j + 1,_,_,A3,A3',m3,c3,m3',c3',rfl,by omega,by rw [aG _ hx',List.foldl_append,<- HQ.out]; rfl,by rw [HJ2.out]; exact (HQB.out.mul QX.out).mono (by omega),
    K3.out.box3 _ _ _,(cg.box3 TA.out TB.out TC.out TD.out (g:=w.heap.size) (by omega) _ _ _).at_,TC.out.off (by omega),TD.out.off (by omega),bw.box3far (RB.out.below' BZ) (by omega) _ _ _,ar (BEL.out.trans (BZ.mono (by omega))) (Nat.le_refl _) _ _ _⟩
def lC (qs:List Rat):Rat:=qs.foldl (· + ·) 0
def pj (qs:List Rat):Rat:=qs.foldl (· * ·) 1

theorem yR {k:Nat} (qs:List Rat)(h:∀ q ∈ qs,QB k q) (k0:Nat) (q0:Rat)(hq:QB k0 q0):QB (k0 + qs.length * (k + 1)) (qs.foldl (· + ·) q0):=by
 induction qs generalizing k0 q0 with
 | nil=>simpa using hq
 | cons q qs ih =>
  have:=ih (fun x hx=>h x (by simp [hx])) (k0 + k + 1) (q0 + q) (hq.add (h q (by simp)))
  refine this.mono ?_
  rw [List.length_cons,Nat.add_mul,Nat.one_mul]
  omega
theorem Ib {k:Nat} (qs:List Rat)(h:∀ q ∈ qs,QB k q) (k0:Nat) (q0:Rat)(hq:QB k0 q0):QB (k0 + qs.length * (k + 1)) (qs.foldl (· * ·) q0):=by
 induction qs generalizing k0 q0 with
 | nil=>simpa using hq
 | cons q qs ih =>
  have:=ih (fun x hx=>h x (by simp [hx])) (k0 + k) (q0 * q) (hq.mul (h q (by simp)))
  refine this.mono ?_
  rw [List.length_cons,Nat.add_mul,Nat.one_mul]
  omega
theorem bz.qb {k:Nat} {w:World} {v:Value} {qs:List Rat} (h:bz k w v qs)(h0:0 < k):∀ q ∈ qs,QB k q:=by
 intro q hq
 obtain ⟨cs,_,h2⟩:=h
 obtain ⟨i,hi,rfl⟩:=List.getElem_of_mem hq
 obtain ⟨_,_,_,_,_,_,h3⟩:=h2 i _ (List.getElem?_eq_getElem hi)
 exact h3.qb h0

theorem ML (w:World) (k:Nat) (lv:Value) (qs:List Rat)(hl:bz k w lv qs)(h0:0 < k)(hk:(qs.length + 1) * (2 * k) <= 4398046511104) :
  Calls Tryz.prog 116 #[lv] w fun e w'=>∃ v',e = .returned v'/\ay w.heap.size w' v' (lC qs)/\Below w.heap.size w w':=by
 have HL:=Lib.hid hl
 have QS:Hid (QB (k + qs.length * (k + 1)) (lC qs)):=Lib.hid (yR qs (hl.qb h0) k 0 (eX (n:=0) (Nat.pow_pos (by omega)) h0))
 have Q0:Hid (QB k ((0:Nat):Rat)):=Lib.hid (eX (n:=0) (Nat.pow_pos (by omega)) h0)
 have HK:Hid (k + qs.length * (k + 1) <= 17592186044416):=Lib.hid (by
  have h1:qs.length * (k + 1) <= qs.length * (2 * k):=Nat.mul_le_mul_left _ (by omega)
  rw [Nat.add_mul,Nat.one_mul] at hk
  omega)
 have HK0:=Lib.hid hk
 have HZ:Hid (((0:Nat):Rat) = 0):=Lib.hid rfl
 clear hl hk
 go_enter Tryz.func116,Tryz.ntmps116
 go_wp2_with fail
 obtain ⟨W,hW,P0,PB,Phs⟩:=eU w 30 [.bool false,.slice none 0 0,.slice none 0 0]
 rw [<- hW]
 clear hW
 refine (yE W 0 (by omega)).mono ?_
 rintro e w1 ⟨v1,rfl,t1,hb1⟩
 have T1:=Lib.hid t1
 have B1:=Lib.hid hb1
 have L1:=Lib.hid ((HL.out.below PB.out).below hb1)
 clear t1 hb1
 go_wp2_with fail
 refine (Je w1 _ k ((0:Nat):Rat) _ qs T1.out.at_ L1.out h0 Q0.out HK0.out).mono ?_
 rintro e w2 ⟨v2,rfl,t2,hb2⟩
 have T2:=Lib.hid t2
 have B2:=Lib.hid (B1.out.trans (hb2.mono B1.out.size))
 clear t2 hb2
 go_wp2_with fail
 refine (CR w2 _ (lC qs) _ (by have:=T2.out; rwa [HZ.out] at this) QS.out HK.out).mono ?_
 rintro e wz ⟨vz,rfl,tz,hz⟩
 have BZ:=Lib.hid (B2.out.trans (hz.mono B2.out.size))
 have hsz:W.heap.size <= w2.heap.size:=B2.out.size
 obtain ⟨A,m,c,A',m',c',rfl,ta,tb,tc,td⟩:=tz.open_
 obtain ⟨r0,r1,r2,z0,z1,z2⟩:=(P0.out.below' BZ.out).three
 have TA:=Lib.hid ta
 have TB:=Lib.hid tb
 have TC:=Lib.hid tc
 have TD:=Lib.hid td
 clear tz hz ta tb tc td
 go_wp2_with fail
 refine bodyPost_ret (v:=.agg #[.bool (ap (lC qs)),.slice A m c,.slice A' m' c']) (by simp [results,Tryz.results116,go_sem,r0,r1,r2]) rfl ⟨_,rfl,?_,ar (PB.out.trans (BZ.out.mono (by omega))) (by omega) _ _ _⟩
 exact (ay.box3 TA.out TB.out TC.out TD.out (by omega) _ _ _).mono (by omega)

theorem Kg (w:World) (k:Nat) (lv:Value) (qs:List Rat)(hl:bz k w lv qs)(h0:0 < k)(hk:(qs.length + 1) * (2 * k) <= 4398046511104) :
  Calls Tryz.prog 43 #[lv] w fun e w'=>∃ v',e = .returned v'/\ay w.heap.size w' v' (pj qs)/\Below w.heap.size w w':=by
 have HL:=Lib.hid hl
 have QS:Hid (QB (k + qs.length * (k + 1)) (pj qs)):=Lib.hid (Ib qs (hl.qb h0) k 1 (eX (n:=1) (Nat.one_lt_two_pow (by omega)) h0))
 have Q0:Hid (QB k ((1:Nat):Rat)):=Lib.hid (eX (n:=1) (Nat.one_lt_two_pow (by omega)) h0)
 have HK:Hid (k + qs.length * (k + 1) <= 17592186044416):=Lib.hid (by
  have h1:qs.length * (k + 1) <= qs.length * (2 * k):=Nat.mul_le_mul_left _ (by omega)
  rw [Nat.add_mul,Nat.one_mul] at hk
  omega)
 have HK0:=Lib.hid hk
 have HZ:Hid (((1:Nat):Rat) = 1):=Lib.hid rfl
 clear hl hk
 go_enter Tryz.func43,Tryz.ntmps43
 go_wp2_with fail
 obtain ⟨W,hW,P0,PB,Phs⟩:=eU w 30 [.bool false,.slice none 0 0,.slice none 0 0]
 rw [<- hW]
 clear hW
 refine (yE W 1 (by omega)).mono ?_
 rintro e w1 ⟨v1,rfl,t1,hb1⟩
 have T1:=Lib.hid t1
 have B1:=Lib.hid hb1
 have L1:=Lib.hid ((HL.out.below PB.out).below hb1)
 clear t1 hb1
 go_wp2_with fail
 refine (Jc w1 _ k ((1:Nat):Rat) _ qs T1.out.at_ L1.out h0 Q0.out HK0.out).mono ?_
 rintro e w2 ⟨v2,rfl,t2,hb2⟩
 have T2:=Lib.hid t2
 have B2:=Lib.hid (B1.out.trans (hb2.mono B1.out.size))
 clear t2 hb2
 go_wp2_with fail
 refine (CR w2 _ (pj qs) _ (by have:=T2.out; rwa [HZ.out] at this) QS.out HK.out).mono ?_
 rintro e wz ⟨vz,rfl,tz,hz⟩
 have BZ:=Lib.hid (B2.out.trans (hz.mono B2.out.size))
 have hsz:W.heap.size <= w2.heap.size:=B2.out.size
 obtain ⟨A,m,c,A',m',c',rfl,ta,tb,tc,td⟩:=tz.open_
 obtain ⟨r0,r1,r2,z0,z1,z2⟩:=(P0.out.below' BZ.out).three
 have TA:=Lib.hid ta
 have TB:=Lib.hid tb
 have TC:=Lib.hid tc
 have TD:=Lib.hid td
 clear tz hz ta tb tc td
 go_wp2_with fail
 refine bodyPost_ret (v:=.agg #[.bool (ap (pj qs)),.slice A m c,.slice A' m' c']) (by simp [results,Tryz.results43,go_sem,r0,r1,r2]) rfl ⟨_,rfl,?_,ar (PB.out.trans (BZ.out.mono (by omega))) (by omega) _ _ _⟩
 exact (ay.box3 TA.out TB.out TC.out TD.out (by omega) _ _ _).mono (by omega)

theorem LH (w:World) (v v':Value) (q r:Rat) (k:Nat)(h:az k w v q) (h':az k w v' r)(h0:0 < k)(hk:k <= 4398046511104) :
  Calls Tryz.prog 60 #[v,v'] w fun e w'=>e = .returned (.int .i64 (ce (q - r)))/\Below w.heap.size w w':=by
 have H1:=Lib.hid h
 have H2:=Lib.hid h'
 have Q1:=Lib.hid (h.qb h0)
 have Q2:=Lib.hid (h'.qb h0)
 obtain ⟨s,vn,vd,rfl⟩:=h.shape
 obtain ⟨t,vn',vd',rfl⟩:=h'.shape
 clear h h'
 go_enter Tryz.func60,Tryz.ntmps60
 go_wp2_with fail
 obtain ⟨W,hW,P0,P1,PB,Phs⟩:=jz w 30 [.bool s,vn,vd] 30 [.bool t,vn',vd']
 rw [<- hW]
 clear hW
 obtain ⟨p0,p1,p2,_,_,_⟩:=P0.out.three
 obtain ⟨q0,q1,q2,_,_,_⟩:=P1.out.three
 go_region_held3 (fun w'=>w'.cell? ⟨w.heap.size,0,none⟩ = some (.bool s)/\w'.cell? ⟨w.heap.size,1,none⟩ = some vn/\w'.cell? ⟨w.heap.size,2,none⟩ = some vd/\w'.cell? ⟨w.heap.size + 1,0,none⟩ = some (.bool t)/\w'.cell? ⟨w.heap.size + 1,1,none⟩ = some vn'/\w'.cell? ⟨w.heap.size + 1,2,none⟩ = some vd') (first | assumption | (refine da hS ?_ ?_ _ _ _ <;> omega) | go_keep)
  (first
   | (go_at_call_of 115 (Value.bool s); refine (take _ _ q k ?_ h0 (by omega)).mono ?_; (exact H1.out.below (PB.out.trans (ak _))); rintro e w1 ⟨v1,rfl,t1,hb1'⟩; have hb1:=ah hb1'; have B1:=Lib.hid hb1; have hS:=iy (P0.out.below' hb1) (P1.out.below' hb1); have T1:=Lib.hid t1; have H2':=Lib.hid ((H2.out.below PB.out).below hb1); clear t1 hb1 hb1')
   | (go_at_call_of 115 (Value.bool t); refine (take w1 _ r k H2'.out h0 (by omega)).mono ?_; rintro e w2 ⟨v2,rfl,t2,hb2⟩; have B2:=Lib.hid (B1.out.trans (hb2.mono B1.out.size)); have hS:=iy (P0.out.below' B2.out) (P1.out.below' B2.out); have T2:=Lib.hid t2; have T1':=Lib.hid (T1.out.below hb2); clear t2 hb2)
   | (go_at_call 127; refine (E4 w2 _ r T2.out.at_).mono ?_; rintro e w3 ⟨v3,rfl,t3,hb3⟩; have B3:=Lib.hid (B2.out.trans (hb3.mono B2.out.size)); have hS:=iy (P0.out.below' B3.out) (P1.out.below' B3.out); have T3:=Lib.hid t3; have T1'':=Lib.hid (T1'.out.below hb3); clear t3 hb3)
   | (go_at_call 126; refine (Mb w3 _ _ q (-r) k T1''.out.at_ T3.out Q1.out Q2.out.neg (by omega)).mono ?_; rintro e w4 ⟨v4,rfl,t4,hb4⟩; have B4:=Lib.hid (B3.out.trans (hb4.mono B3.out.size)); have hS:=iy (P0.out.below' B4.out) (P1.out.below' B4.out); have T4:=Lib.hid t4; clear t4 hb4)
   | (go_at_call 125; refine (Ka w4 _ _ T4.out.at_).mono ?_; rintro e w5 ⟨rfl,hb5⟩; have B5:=Lib.hid (B4.out.trans (hb5.mono B4.out.size)); have hS:=iy (P0.out.below' B5.out) (P1.out.below' B5.out); clear hb5))
 go_wp2_with fail
 go_ret
 exact ⟨aq (by rw [Rat.sub_eq_add_neg]),PB.out.trans (B5.out.mono (by omega))⟩

theorem OQ (w:World) (v v':Value) (q r:Rat) (k:Nat)(h:az k w v q) (h':az k w v' r)(h0:0 < k)(hk:k <= 549755813888) :
  Calls Tryz.prog 150 #[v,v'] w fun e w'=>∃ u,e = .returned u/\ay w.heap.size w' u (q - r)/\Below w.heap.size w w':=by
 have H1:=Lib.hid h
 have H2:=Lib.hid h'
 have Q1:=Lib.hid (h.qb h0)
 have Q2:=Lib.hid (h'.qb h0)
 obtain ⟨s,vn,vd,rfl⟩:=h.shape
 obtain ⟨t,vn',vd',rfl⟩:=h'.shape
 clear h h'
 rw [Rat.sub_eq_add_neg]
 go_enter Tryz.func150,Tryz.ntmps150
 go_wp2_with fail
 obtain ⟨W,hW,P0,P1,P2,PB,Phs⟩:=box3 w 30 [.bool s,vn,vd] 30 [.bool t,vn',vd'] 30 [.bool false,.slice none 0 0,.slice none 0 0]
 rw [<- hW]
 clear hW
 obtain ⟨p0,p1,p2,_,_,_⟩:=P0.out.three
 obtain ⟨q0,q1,q2,_,_,_⟩:=P1.out.three
 go_region_held3 (fun w'=>w'.cell? ⟨w.heap.size,0,none⟩ = some (.bool s)/\w'.cell? ⟨w.heap.size,1,none⟩ = some vn/\w'.cell? ⟨w.heap.size,2,none⟩ = some vd/\w'.cell? ⟨w.heap.size + 1,0,none⟩ = some (.bool t)/\w'.cell? ⟨w.heap.size + 1,1,none⟩ = some vn'/\w'.cell? ⟨w.heap.size + 1,2,none⟩ = some vd') (first | assumption | (refine da hS ?_ ?_ _ _ _ <;> omega) | go_keep)
  (first
   | (go_at_call_of 115 (Value.bool s); refine (take _ _ q k ?_ h0 (by omega)).mono ?_; (exact H1.out.below (PB.out.trans (ak _))); rintro e w1 ⟨v1,rfl,t1,hb1'⟩; have hb1:=ah hb1'; have B1:=Lib.hid hb1; have hS:=iy (P0.out.below' hb1) (P1.out.below' hb1); have T1:=Lib.hid t1; have H2':=Lib.hid ((H2.out.below PB.out).below hb1); clear t1 hb1 hb1')
   | (go_at_call_of 115 (Value.bool t); refine (take w1 _ r k H2'.out h0 (by omega)).mono ?_; rintro e w2 ⟨v2,rfl,t2,hb2⟩; have B2:=Lib.hid (B1.out.trans (hb2.mono B1.out.size)); have hS:=iy (P0.out.below' B2.out) (P1.out.below' B2.out); have T2:=Lib.hid t2; have T1':=Lib.hid (T1.out.below hb2); clear t2 hb2)
   | (go_at_call 127; refine (E4 w2 _ r T2.out.at_).mono ?_; rintro e w3 ⟨v3,rfl,t3,hb3⟩; have B3:=Lib.hid (B2.out.trans (hb3.mono B2.out.size)); have hS:=iy (P0.out.below' B3.out) (P1.out.below' B3.out); have T3:=Lib.hid t3; have T1'':=Lib.hid (T1'.out.below hb3); clear t3 hb3)
   | (go_at_call 126; refine (Mb w3 _ _ q (-r) k T1''.out.at_ T3.out Q1.out Q2.out.neg (by omega)).mono ?_; rintro e w4 ⟨v4,rfl,t4,hb4⟩; have B4:=Lib.hid (B3.out.trans (hb4.mono B3.out.size)); have hS:=iy (P0.out.below' B4.out) (P1.out.below' B4.out); have T4:=Lib.hid t4; clear t4 hb4)
   | (go_at_call 110; refine (CR w4 _ (q + -r) (k + k + 1) T4.out.at_ (Q1.out.add Q2.out.neg) (by omega)).mono ?_; rintro e w5 ⟨v5,rfl,t5,hb5⟩; have B5:=Lib.hid (B4.out.trans (hb5.mono B4.out.size)); have hS:=iy (P0.out.below' B5.out) (P1.out.below' B5.out); obtain ⟨A,m,c,A',m',c',rfl,ta,tb,tc,td⟩:=t5.open_; obtain ⟨r0,r1,r2,z0,z1,z2⟩:=(P2.out.below' B5.out).three; have TA:=Lib.hid ta; have TB:=Lib.hid tb; have TC:=Lib.hid tc; have TD:=Lib.hid td; clear t5 hb5 ta tb tc td))
 go_wp2_with fail
 refine bodyPost_ret (v:=.agg #[.bool (ap (q + -r)),.slice A m c,.slice A' m' c']) (by simp [results,Tryz.results150,go_sem,r0,r1,r2]) rfl ⟨_,rfl,?_,ar (PB.out.trans (B5.out.mono (by omega))) (by omega) _ _ _⟩
 have hb4:=B4.out.size
 exact (ay.box3 TA.out TB.out TC.out TD.out (by omega) _ _ _).mono (by omega)

theorem bw.fracs2 {k:Nat} {w:World} {g:Nat} {e:TypeId} {a b c a' b' c':Value} {q r:Rat} (h:bw w g e [a,b,c,a',b',c'])(h1:az k w (.agg #[a,b,c]) q)(h2:az k w (.agg #[a',b',c']) r) :
  bz k w (.slice (some ⟨g,0,none⟩) 2 2) [q,r]:=by
 refine ⟨[a,b,c,a',b',c'],h.sl (sz:=3) (n:=2) (c:=2) (by simp) (by omega) (by unfold maxLen; omega),fun i x hx=>?_⟩
 match i,hx with
 | 0,hx=>simp at hx; subst hx; exact ⟨a,b,c,rfl,rfl,rfl,h1⟩
 | 1,hx=>simp at hx; subst hx; exact ⟨a',b',c',rfl,rfl,rfl,h2⟩

theorem Md (w:World) (v v':Value) (q r:Rat) (k:Nat)(h:az k w v q) (h':az k w v' r)(h0:0 < k)(hk:k <= 549755813888) :
  Calls Tryz.prog 48 #[v,v'] w fun e w'=>∃ u,e = .returned u/\ay w.heap.size w' u (q + r)/\Below w.heap.size w w':=by
 have H1:=Lib.hid h
 have H2:=Lib.hid h'
 have HE:Hid (lC [q,r] = q + r):=Lib.hid (by simp [lC,Rat.zero_add])
 obtain ⟨s,vn,vd,rfl⟩:=h.shape
 obtain ⟨t,vn',vd',rfl⟩:=h'.shape
 clear h h'
 go_enter Tryz.func48,Tryz.ntmps48
 go_wp2_with fail
 obtain ⟨W,hW,P0,P1,P2,P3,PB,Phs⟩:=NF w 30 [.bool s,vn,vd] 30 [.bool t,vn',vd'] 30 [.bool false,.slice none 0 0,.slice none 0 0] 30 [.bool s,vn,vd,.bool t,vn',vd']
 rw [<- hW]
 clear hW
 refine (ML W k _ [q,r] (P3.out.fracs2 (H1.out.below PB.out) (H2.out.below PB.out)) h0 (by simp; omega)).mono ?_
 rw [HE.out]
 rintro e wz ⟨vz,rfl,tz,hz⟩
 have BZ:=Lib.hid ((Below.refl W.heap.size W).trans (hz.mono (Nat.le_refl W.heap.size)))
 have hsz:W.heap.size <= W.heap.size:=(Nat.le_refl W.heap.size)
 obtain ⟨A,m,c,A',m',c',rfl,ta,tb,tc,td⟩:=tz.open_
 obtain ⟨r0,r1,r2,z0,z1,z2⟩:=(P2.out.below' BZ.out).three
 have TA:=Lib.hid ta
 have TB:=Lib.hid tb
 have TC:=Lib.hid tc
 have TD:=Lib.hid td
 clear tz hz ta tb tc td
 go_wp2_with fail
 refine bodyPost_ret (v:=.agg #[.bool (ap (q + r)),.slice A m c,.slice A' m' c']) (by simp [results,Tryz.results48,go_sem,r0,r1,r2]) rfl ⟨_,rfl,?_,ar (PB.out.trans (BZ.out.mono (by omega))) (by omega) _ _ _⟩
 exact (ay.box3 TA.out TB.out TC.out TD.out (by omega) _ _ _).mono (by omega)

theorem Nf (w:World) (v v':Value) (q r:Rat) (k:Nat)(h:az k w v q) (h':az k w v' r)(h0:0 < k)(hk:k <= 549755813888) :
  Calls Tryz.prog 42 #[v,v'] w fun e w'=>∃ u,e = .returned u/\ay w.heap.size w' u (q * r)/\Below w.heap.size w w':=by
 have H1:=Lib.hid h
 have H2:=Lib.hid h'
 have HE:Hid (pj [q,r] = q * r):=Lib.hid (by simp [pj,Rat.one_mul])
 obtain ⟨s,vn,vd,rfl⟩:=h.shape
 obtain ⟨t,vn',vd',rfl⟩:=h'.shape
 clear h h'
 go_enter Tryz.func42,Tryz.ntmps42
 go_wp2_with fail
 obtain ⟨W,hW,P0,P1,P2,P3,PB,Phs⟩:=NF w 30 [.bool s,vn,vd] 30 [.bool t,vn',vd'] 30 [.bool false,.slice none 0 0,.slice none 0 0] 30 [.bool s,vn,vd,.bool t,vn',vd']
 rw [<- hW]
 clear hW
 refine (Kg W k _ [q,r] (P3.out.fracs2 (H1.out.below PB.out) (H2.out.below PB.out)) h0 (by simp; omega)).mono ?_
 rw [HE.out]
 rintro e wz ⟨vz,rfl,tz,hz⟩
 have BZ:=Lib.hid ((Below.refl W.heap.size W).trans (hz.mono (Nat.le_refl W.heap.size)))
 have hsz:W.heap.size <= W.heap.size:=(Nat.le_refl W.heap.size)
 obtain ⟨A,m,c,A',m',c',rfl,ta,tb,tc,td⟩:=tz.open_
 obtain ⟨r0,r1,r2,z0,z1,z2⟩:=(P2.out.below' BZ.out).three
 have TA:=Lib.hid ta
 have TB:=Lib.hid tb
 have TC:=Lib.hid tc
 have TD:=Lib.hid td
 clear tz hz ta tb tc td
 go_wp2_with fail
 refine bodyPost_ret (v:=.agg #[.bool (ap (q * r)),.slice A m c,.slice A' m' c']) (by simp [results,Tryz.results42,go_sem,r0,r1,r2]) rfl ⟨_,rfl,?_,ar (PB.out.trans (BZ.out.mono (by omega))) (by omega) _ _ _⟩
 exact (ay.box3 TA.out TB.out TC.out TD.out (by omega) _ _ _).mono (by omega)
theorem OE (w:World) (v v':Value) (q r:Rat) (k:Nat)(h:az k w v q) (h':az k w v' r)(h0:0 < k)(hk:k <= 549755813888)(hr:r ≠ 0) :
  Calls Tryz.prog 149 #[v,v'] w fun e w'=>∃ u,e = .returned (.tuple #[u,.int .i64 0])/\ay w.heap.size w' u (q / r)/\Below w.heap.size w w':=by
 have H1:=Lib.hid h
 have H2:=Lib.hid h'
 have Q1:=Lib.hid (h.qb h0)
 have Q2:=Lib.hid (h'.qb h0)
 have HR:=Lib.hid hr
 obtain ⟨s,vn,vd,rfl⟩:=h.shape
 obtain ⟨t,vn',vd',rfl⟩:=h'.shape
 clear h h' hr
 rw [Rat.div_def]
 go_enter Tryz.func149,Tryz.ntmps149
 go_wp2_with fail
 obtain ⟨W,hW,P0,P1,P2,PB,Phs⟩:=box3 w 30 [.bool s,vn,vd] 30 [.bool t,vn',vd'] 30 [.bool false,.slice none 0 0,.slice none 0 0]
 rw [<- hW]
 clear hW
 refine (take W _ r k (H2.out.below PB.out) h0 (by omega)).mono ?_
 rintro e w1 ⟨v1,rfl,t1,hb1⟩
 obtain ⟨Ay,my,cy,Ay',my',cy',rfl,ta,tb,tc,td⟩:=t1.open_
 have T1:=Lib.hid t1
 have B1:=Lib.hid hb1
 have H1':=Lib.hid ((H1.out.below PB.out).below hb1)
 clear t1 hb1 ta tb tc td
 generalize ap r = sy at *
 go_wp2_with fail
 obtain ⟨W1,hW1⟩:∃ W1,W1 = w1.alloc (.cells #[.bool sy,.slice Ay my cy,.slice Ay' my' cy'] 185):=⟨_,rfl⟩
 rw [<- hW1]
 have Y1:Hid (bw W1 w1.heap.size 185 [.bool sy,.slice Ay my cy,.slice Ay' my' cy']):=Lib.hid (by rw [hW1]; exact bw.new w1 _ _)
 have BW1:Hid (Below w1.heap.size w1 W1):=Lib.hid (by rw [hW1]; exact (Below.refl _ _).alloc (Nat.le_refl _) _)
 have ZC:=DJ W1 _ r (T1.out.at_.below BW1.out)
 rw [decide_eq_false HR.out] at ZC
 have HZC:=Lib.hid ZC
 have hs1:W.heap.size <= w1.heap.size:=B1.out.size
 clear ZC hW1
 refine HZC.out.mono ?_
 rintro e w2 ⟨rfl,hb2⟩
 have hs2:w1.heap.size + 1 <= w2.heap.size:=by have:=hb2.size; have:=Y1.out.lt; omega
 have B12:=Lib.hid (BW1.out.trans (hb2.mono (by have:=Y1.out.lt; omega)))
 have B2:=Lib.hid (B1.out.trans (B12.out.mono hs1))
 have Y2:=Lib.hid (Y1.out.below' hb2)
 have X2:=Lib.hid (P0.out.below' B2.out)
 have H1'':=Lib.hid (H1'.out.below B12.out)
 have TY:=Lib.hid (T1.out.below B12.out)
 clear hb2
 obtain ⟨y0,y1,y2,_,_,_⟩:=Y2.out.three
 obtain ⟨p0,p1,p2,_,_,_⟩:=X2.out.three
 go_wp2_with fail
 go_region_held3 (fun w'=>w'.cell? ⟨w.heap.size,0,none⟩ = some (.bool s)/\w'.cell? ⟨w.heap.size,1,none⟩ = some vn/\w'.cell? ⟨w.heap.size,2,none⟩ = some vd/\w'.cell? ⟨w1.heap.size,0,none⟩ = some (.bool sy)/\w'.cell? ⟨w1.heap.size,1,none⟩ = some (.slice Ay my cy)/\w'.cell? ⟨w1.heap.size,2,none⟩ = some (.slice Ay' my' cy')) (first | assumption | (refine da hS ?_ ?_ _ _ _ <;> omega) | go_keep)
  (first
   | (go_at_call 115; refine (take _ _ q k ?_ h0 (by omega)).mono ?_; (exact H1''.out.below (ak _)); rintro e w3 ⟨v3,rfl,t3,hb3'⟩; have hb3:=ah hb3'; have B3:=Lib.hid hb3; have hS:=iy (X2.out.below' hb3) (Y2.out.below' hb3); have T3:=Lib.hid t3; have TY3:=Lib.hid (TY.out.below hb3); clear t3 hb3 hb3')
   | (go_at_call 223; refine (Fh w3 _ r TY3.out.at_ HR.out).mono ?_; rintro e w4 ⟨v4,rfl,t4,hb4⟩; have B4:=Lib.hid (B3.out.trans (hb4.mono B3.out.size)); have hS:=iy (X2.out.below' B4.out) (Y2.out.below' B4.out); have T4:=Lib.hid t4; have T3':=Lib.hid (T3.out.below hb4); clear t4 hb4)
   | (go_at_call 113; refine (Nd w4 _ _ q r⁻¹ k T3'.out.at_ T4.out Q1.out (Q2.out.inv h0) (by omega)).mono ?_; rintro e w5 ⟨v5,rfl,t5,hb5⟩; have B5:=Lib.hid (B4.out.trans (hb5.mono B4.out.size)); have hS:=iy (X2.out.below' B5.out) (Y2.out.below' B5.out); have T5:=Lib.hid t5; clear t5 hb5)
   | (go_at_call 110; refine (CR w5 _ (q * r⁻¹) (k + k) T5.out.at_ (Q1.out.mul (Q2.out.inv h0)) (by omega)).mono ?_; rintro e w6 ⟨v6,rfl,t6,hb6⟩; have B6:=Lib.hid (B5.out.trans (hb6.mono B5.out.size)); have hs6:w2.heap.size <= w5.heap.size:=B5.out.size; have hS:=iy (X2.out.below' B6.out) (Y2.out.below' B6.out); obtain ⟨A,m,c,A',m',c',rfl,ta,tb,tc,td⟩:=t6.open_; have PR:=P2.out.below' (B2.out.trans (B6.out.mono (by omega))); obtain ⟨r0,r1,r2,z0,z1,z2⟩:=PR.three; have TA:=Lib.hid ta; have TB:=Lib.hid tb; have TC:=Lib.hid tc; have TD:=Lib.hid td; clear t6 hb6 PR ta tb tc td))
 go_wp2_with fail
 refine bodyPost_ret (v:=.tuple #[.agg #[.bool (ap (q * r⁻¹)),.slice A m c,.slice A' m' c'],.int .i64 0]) (by simp [results,Tryz.results149,go_sem,r0,r1,r2,List.mapM_cons]) rfl ⟨_,rfl,?_,ar (PB.out.trans ((B2.out.trans (B6.out.mono (by omega))).mono (by omega))) (by omega) _ _ _⟩
 exact (ay.box3 TA.out TB.out TC.out TD.out (by omega) _ _ _).mono (by omega)
end Go.Proofs.YtkdhppimhdemjaaGreat
