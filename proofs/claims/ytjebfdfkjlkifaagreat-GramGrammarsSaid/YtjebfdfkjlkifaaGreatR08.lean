/- Lemmas. -/
import Derived.Test.YtjebfdfkjlkifaaGreatR07
import Derived.Deep.DeepCutAuto
set_option linter.all false
set_option maxRecDepth 1000000
set_option maxHeartbeats 32000000
namespace Go.Proofs.YtjebfdfkjlkifaaGreat
open Go.RowKit
def dM (neg:Bool) (n d:Nat):Rat:=mkRat (sgn neg n) (if d = 0 then 1 else d)

def FracAt (k:Nat) (w:World) (v:Value) (q:Rat):Prop:=∃ neg vn vd ln ld,v = .agg #[.bool neg,vn,vd]/\DigAt w vn ln/\DigAt w vd ld /\
 q = dM neg (val ln) (val ld)/\val ln < 2 ^ k/\val ld < 2 ^ k/\ln.length <= 17592186044416/\ld.length <= 17592186044416
theorem FracAt.below {k:Nat} {w w':World} {v:Value} {q:Rat} (h:FracAt k w v q)(hb:Below w.heap.size w w'):FracAt k w' v q:=by
 obtain ⟨neg,vn,vd,ln,ld,e,h1,h2,h3⟩:=h
 exact ⟨neg,vn,vd,ln,ld,e,h1.below hb,h2.below hb,h3⟩
theorem FracAt.qb {k:Nat} {w:World} {v:Value} {q:Rat} (h:FracAt k w v q)(hk:0 < k):QB k q:=by
 obtain ⟨neg,vn,vd,ln,ld,e,_,_,rfl,h1,h2,_⟩:=h
 unfold dM
 have:=Nat.one_lt_two_pow (n:=k) (by omega)
 exact QB.red h1 (by split <;> omega) (by split <;> omega)

theorem take (w:World) (v:Value) (q:Rat) (k:Nat)(h:FracAt k w v q)(h0:0 < k)(hk:k <= 17592186044416) :
  Calls Tryz.prog 146 #[v] w fun e w'=>∃ v',e = .returned v'/\NumNew w.heap.size w' v' q/\Below w.heap.size w w':=by
 obtain ⟨neg,vn,vd,ln,ld,rfl,h1,h2,h3,h4,h5,h6,h7⟩:=h
 obtain ⟨_,A,c,rfl,hlc,hcm,_⟩:=h1.open_
 obtain ⟨_,A',c',rfl,hlc',hcm',_⟩:=h2.open_
 have H1:=aH h1
 have H2:=aH h2
 have H3:=aH h3
 have H4:=aH h4
 have H5:=aH h5
 clear h1 h2 h3 h4 h5
 have HW:Hd (∀ o o',Below w.heap.size w ((w.alloc o).alloc o')):=aH (fun o o'=>((Below.refl _ _).alloc (nR _) o).alloc (by simp) o')
 have hd0:0 < 2 ^ k:=Nat.pow_pos (by omega)
 have h1k:=Nat.one_lt_two_pow (n:=k) (by omega)
 have HK1:=aH h1k
 clear hd0 h1k
 go_enter Tryz.func146,Tryz.ntmps146
 go_wp2_with fail
 refine (trimmed _ _ ld ((H2.o.alloc _).alloc _) h7).mono ?_
 rintro e w1 ⟨v1,rfl,t1,hb1⟩
 have hs1:w.heap.size + 2 <= w1.heap.size:=by have:=hb1.size; simpa using this
 have T1:=aH t1
 have N1:=aH (((H1.o.alloc _).alloc _).below hb1)
 have B1:=aH ((HW.o _ _).trans (hb1.mono (by simp; omega)))
 have P1:=aH (((Blk.new w 40 [.bool neg,.slice A ln.length c,.slice A' ld.length c']).alloc _).below' hb1)
 have R1:Hd (Blk w1 (w.heap.size + 1) 190 [.bool false,.slice none 0 0,.slice none 0 0]):=aH (by
  have:=(Blk.new (w.alloc (.cells #[.bool neg,.slice A ln.length c,.slice A' ld.length c'] 40)) 190 [.bool false,.slice none 0 0,.slice none 0 0]).below' hb1
  rwa [World.size_alloc] at this)
 clear hb1 t1
 obtain ⟨A1,m,c1,rfl,hm,hmp⟩:=T1.o.len
 have HMP:=aH hmp
 clear hmp
 obtain ⟨p0,p1,p2,_,_,_⟩:=P1.o.three
 by_cases h0':0 < m
 ·have hm0:((m:Int) == 0) = false:=by simp; omega
  have hq:q = mkRat (sgn neg (val ln)) (val ld):=by
   rw [H3.o]
   unfold dM
   rw [if_neg (by have:=HMP.o.1 h0'; omega)]
  have HQ:=aH hq
  clear hq
  go_wp2_with fail
  go_region_with (first
   | (go_at_call 167; refine (trimmed _ _ ln ?_ h6).mono ?_; (exact N1.o); rintro e w2 ⟨v2,rfl,t2,hb2'⟩; have hb2:Below w1.heap.size w1 w2:=(by first | exact hb2' | exact bO hb2'); have T2:=aH t2; have D2:=aH (T1.o.below hb2); have P2:=aH (P1.o.below' hb2); have R2:=aH (R1.o.below' hb2); have B2:=aH (B1.o.trans (hb2.mono (by omega))); clear t2 hb2 hb2'; obtain ⟨p0',p1',p2',_,_,_⟩:=P2.o.three)
   | (go_at_call 169; refine (reduced _ neg _ _ (val ln) (val ld) k T2.o D2.o H4.o H5.o hk (HMP.o.1 h0')).mono ?_; rintro e w3 ⟨v3,rfl,t3,hb3⟩; obtain ⟨A3,m3,c3,A3',m3',c3',rfl,t3a,t3b,t3c,t3d⟩:=t3.open_; obtain ⟨r0,r1,r2,z0,z1,z2⟩:=(R2.o.below' hb3).three; have TA:=aH t3a; have TB:=aH t3b; have TC:=aH t3c; have TD:=aH t3d; have B3:=aH (B2.o.trans (hb3.mono B2.o.size)); have RL:=aH (R2.o.lt); clear t3 t3a t3b t3c t3d hb3))
  all_goals
   go_wp2_with fail
   refine bodyPost_ret (v:=.agg #[.bool (ae (mkRat (sgn neg (val ln)) (val ld))),.slice A3 m3 c3,.slice A3' m3' c3']) (by simp [results,Tryz.results146,go_sem,r0,r1,r2]) rfl ⟨_,rfl,?_,af B3.o (Nat.le_succ _) _ _ _⟩
   rw [HQ.o]
   exact (NumNew.box3 TA.o TB.o TC.o TD.o RL.o _ _ _).mono (by have:=RL.o; omega)
 have hm0:((m:Int) == 0) = true:=by simp; omega
 have hv0:val ld = 0:=by have:=HMP.o; omega
 have hq:q = mkRat (sgn neg (val ln)) 1:=by
  rw [H3.o]
  unfold dM
  rw [if_pos hv0]
 have HQ:=aH hq
 clear hq hv0
 go_wp2_with fail
 refine (small w1 1 (by omega)).mono ?_
 rintro e w1b ⟨vs,rfl,ts,hbs⟩
 have T1:=aH ts
 have N1:=aH (N1.o.below hbs)
 have B1:=aH (B1.o.trans (hbs.mono (by omega)))
 have P1:=aH (P1.o.below' hbs)
 have R1:=aH (R1.o.below' hbs)
 have hs1:w.heap.size + 2 <= w1b.heap.size:=by have:=hbs.size; omega
 obtain ⟨p0,p1,p2,_,_,_⟩:=P1.o.three
 clear ts hbs
 go_wp2_with fail
 go_region_with (first
  | (go_at_call 167; refine (trimmed _ _ ln ?_ h6).mono ?_; (exact N1.o); rintro e w2 ⟨v2,rfl,t2,hb2'⟩; have hb2:Below w1b.heap.size w1b w2:=(by first | exact hb2' | exact bO hb2'); have T2:=aH t2; have D2:=aH (T1.o.below hb2); have P2:=aH (P1.o.below' hb2); have R2:=aH (R1.o.below' hb2); have B2:=aH (B1.o.trans (hb2.mono (by omega))); clear t2 hb2 hb2'; obtain ⟨p0',p1',p2',_,_,_⟩:=P2.o.three)
  | (go_at_call 169; refine (reduced _ neg _ _ (val ln) 1 k T2.o D2.o H4.o HK1.o hk (by omega)).mono ?_; rintro e w3 ⟨v3,rfl,t3,hb3⟩; obtain ⟨A3,m3,c3,A3',m3',c3',rfl,t3a,t3b,t3c,t3d⟩:=t3.open_; obtain ⟨r0,r1,r2,z0,z1,z2⟩:=(R2.o.below' hb3).three; have TA:=aH t3a; have TB:=aH t3b; have TC:=aH t3c; have TD:=aH t3d; have B3:=aH (B2.o.trans (hb3.mono B2.o.size)); have RL:=aH (R2.o.lt); clear t3 t3a t3b t3c t3d hb3))
 all_goals
  go_wp2_with fail
  refine bodyPost_ret (v:=.agg #[.bool (ae (mkRat (sgn neg (val ln)) (1))),.slice A3 m3 c3,.slice A3' m3' c3']) (by simp [results,Tryz.results146,go_sem,r0,r1,r2]) rfl ⟨_,rfl,?_,af B3.o (Nat.le_succ _) _ _ _⟩
  rw [HQ.o]
  exact (NumNew.box3 TA.o TB.o TC.o TD.o RL.o _ _ _).mono (by have:=RL.o; omega)
def CanAt (w:World) (v:Value) (q:Rat):Prop:=∃ vn vd,v = .agg #[.bool (ae q),vn,vd]/\NatAt w vn q.num.natAbs/\NatAt w vd (if q.den = 1 then 0 else q.den)
def CanNew (B:Nat) (w:World) (v:Value) (q:Rat):Prop:=∃ vn vd,v = .agg #[.bool (ae q),vn,vd]/\NatAt w vn q.num.natAbs/\NatAt w vd (if q.den = 1 then 0 else q.den)/\From vn B/\From vd B

theorem iR (w:World) (v:Value) (n k:Nat)(h:NatAt w v n)(hn:n < 2 ^ k)(hk:k <= 70368744177664) :
  Calls Tryz.prog 174 #[v] w fun e w'=>∃ v',e = .returned v'/\NatAt w' v' n/\Below w.heap.size w w'/\From v' w.heap.size:=by
 obtain ⟨l,d,t,rfl⟩:=h
 refine (ed w v l.length (l.map dg) d.1 (gR l) (by have:=t.length_le hn; omega)).mono ?_
 rintro e w' ⟨v',rfl,h1,h2,base,hbase,hown⟩
 exact ⟨v',rfl,⟨l,⟨h1,d.2⟩,t,rfl⟩,h2,(From.of_own hown).mono hbase⟩

theorem give (w:World) (v:Value) (q:Rat) (k:Nat)(h:NumAt w v q)(hb:QB k q)(hk:k <= 17592186044416) :
  Calls Tryz.prog 152 #[v] w fun e w'=>∃ v',e = .returned v'/\CanNew w.heap.size w' v' q/\Below w.heap.size w w':=by
 obtain ⟨A,m,c,A',m',c',rfl,hm,hm',hp,h1,h2⟩:=h.open_
 have H1:=aH h1
 have H2:=aH h2
 have HQ1:=aH hb.1
 have HQ2:=aH hb.2
 have HC:Hd (dX q.den 1 = 0/\q.den = 1 ∨ dX q.den 1 = 1/\q.den ≠ 1):=aH (by
  have:=q.den_pos
  rcases Nat.lt_or_ge 1 q.den with h | h
  ·exact .inr ⟨fc h,by omega⟩
  have:q.den = 1:=by omega
  exact .inl ⟨by rw [this]; exact ir 1,this⟩)
 clear h h1 h2 hb hp
 obtain ⟨neg,hneg⟩:=nm (ae q)
 have HNEG:=aH hneg
 rw [hneg]
 clear hneg
 have HW:Hd (∀ o o',Below w.heap.size w ((w.alloc o).alloc o')):=aH (fun o o'=>((Below.refl _ _).alloc (nR _) o).alloc (by simp) o')
 have HW1:Hd (∀ o o',NatAt ((w.alloc o).alloc o') (.slice A m c) q.num.natAbs/\NatAt ((w.alloc o).alloc o') (.slice A' m' c') q.den):=aH (fun o o'=>⟨(H1.o.alloc _).alloc _,(H2.o.alloc _).alloc _⟩)
 have HW2:Hd (∀ (a b:Array Value) s t,(((w.alloc (.cells a s)).alloc (.cells b t)).heap.size = w.heap.size + 2)):=aH (fun _ _ _ _=>by simp)
 go_enter Tryz.func152,Tryz.ntmps152
 go_upto_region 1 with fail
 obtain ⟨W,hW⟩:∃ W,W = (w.alloc (.cells #[.bool neg,.slice A m c,.slice A' m' c'] 190)).alloc (.cells #[.bool false,.slice none 0 0,.slice none 0 0] 40):=⟨_,rfl⟩
 have P0:Hd (Blk W w.heap.size 190 [.bool neg,.slice A m c,.slice A' m' c']):=aH (by rw [hW]; exact (Blk.new w _ _).alloc _)
 have R0:Hd (Blk W (w.heap.size + 1) 40 [.bool false,.slice none 0 0,.slice none 0 0]):=aH (by
  rw [hW]
  have:=Blk.new (w.alloc (.cells #[.bool neg,.slice A m c,.slice A' m' c'] 190)) 40 [.bool false,.slice none 0 0,.slice none 0 0]
  rwa [World.size_alloc] at this)
 have N0:Hd (NatAt W (.slice A m c) q.num.natAbs/\NatAt W (.slice A' m' c') q.den):=aH (by rw [hW]; exact HW1.o _ _)
 have B0:Hd (Below w.heap.size w W):=aH (by rw [hW]; exact HW.o _ _)
 have hs0:W.heap.size = w.heap.size + 2:=by rw [hW]; exact HW2.o _ _ _ _
 rw [<- hW]
 clear hW
 obtain ⟨p0,p1,p2,_,_,_⟩:=P0.o.three
 have HS0:=aH hs0
 have hs1:w.heap.size + 2 <= W.heap.size:=by omega
 clear hs0
 go_cut [3] (fun s3 wx=>∃ F A1 m1 c1,s3 = .pointer (some ⟨F,0,none⟩)/\w.heap.size + 2 <= F/\Blk wx F 40 [.bool neg,.slice A1 m1 c1,.slice none 0 0] /\
  NatAt wx (.slice A1 m1 c1) q.num.natAbs/\From (.slice A1 m1 c1) (w.heap.size + 2)/\Off (.slice A1 m1 c1) F/\Below (w.heap.size + 2) W wx)
 case first =>
  go_region_held3 (fun w'=>w'.cell? ⟨w.heap.size,0,none⟩ = some (.bool neg)/\w'.cell? ⟨w.heap.size,1,none⟩ = some (.slice A m c)) (first | go_keep | assumption | exact ⟨aX hS.1 (show w.heap.size ≠ _ by (try simp); omega) _ _ _,aX hS.2 (show w.heap.size ≠ _ by (try simp); omega) _ _ _⟩)
   (first
    | (go_at_call 174; refine (iR _ _ q.num.natAbs k ?_ HQ1.o (by omega)).mono ?_; (exact (N0.o.1.alloc _).drew); rintro e w1 ⟨v1,rfl,t1,hb1',f1⟩; have hb1:=bO hb1'; have PP:=(P0.o.alloc (.cells #[.bool false,.slice none 0 0,.slice none 0 0] 40)).below' hb1; have hS:=aI PP.three.1 PP.three.2.1; obtain ⟨A1,m1,c1,rfl,_⟩:=t1.len; obtain ⟨r0,r1,r2,z0,z1,z2⟩:=((Blk.new W 40 [.bool false,.slice none 0 0,.slice none 0 0]).below' hb1).three; have BN:=aH ((Blk.new W 40 [.bool false,.slice none 0 0,.slice none 0 0]).below' hb1); have hsz:=hb1.size; have T1:=aH t1; have F1:=aH (show From _ (W.heap.size + 1) from by simpa using f1); have BB1:=aH (((Below.refl _ W).alloc (nR _) _).trans (hb1.mono (by simp))); clear t1 f1 hb1 hb1')
    | (go_at_call 174; refine (iR _ _ q.num.natAbs k ?_ HQ1.o (by omega)).mono ?_; (exact N0.o.1.drew); rintro e w1 ⟨v1,rfl,t1,hb1',f1⟩; have hb1:=bO hb1'; have PP:=P0.o.below' hb1; have hS:=aI PP.three.1 PP.three.2.1; obtain ⟨A1,m1,c1,rfl,_⟩:=t1.len; have hsz:=hb1.size; have T1:=aH t1; have F1:=aH (show From _ W.heap.size from f1); have BB1:=aH hb1; clear t1 f1 hb1 hb1'))
  ·go_wp2_with fail
   go_meet
   have e0:=HS0.o
   exact ⟨_,_,_,_,rfl,by omega,Blk.new w1 40 [.bool neg,.slice A1 m1 c1,.slice none 0 0],T1.o.alloc _,F1.o.mono (by omega),T1.o.off (nR _),(BB1.o.alloc hsz _).mono (by omega)⟩
  go_wp2_with fail
  go_meet
  have e0:=HS0.o
  exact ⟨_,_,_,_,rfl,by omega,BN.o.box3 _ _ _,T1.o.box3off (F1.o.off (Nat.lt_succ_self _)) _ _ _,F1.o.mono (by omega),F1.o.off (Nat.lt_succ_self _),(af BB1.o (nR _) _ _ _).mono (by omega)⟩
 obtain ⟨F,A1,m1,c1,rfl,hF,hfb,hn1,hf1,ho1,hb1⟩:=hcut
 have FB:=aH hfb
 have N1:=aH hn1
 have F1:=aH hf1
 have O1:=aH ho1
 have BB1:=aH hb1
 have PP:Hd (Blk wc w.heap.size 190 [.bool neg,.slice A m c,.slice A' m' c']):=aH (P0.o.below hb1 (by omega))
 have D1:Hd (NatAt wc (.slice A' m' c') q.den):=aH (N0.o.2.below (hb1.mono (by have:=HS0.o; omega)))
 have hs2:W.heap.size <= wc.heap.size:=hb1.size
 clear hfb hn1 hf1 ho1 hb1 p0 p1 p2
 obtain ⟨p0,p1,p2,_,_,_⟩:=PP.o.three
 rcases HC.o with hc | hc
 ·have CM:Hd (∀ W v2,NatAt W (.slice A' m' c') q.den->NatAt W v2 1->Calls Tryz.prog 172 #[.slice A' m' c',v2] W fun e w'=>e = .returned (.int .i64 0)/\∃ k,w' = W.drewN k):=aH (fun W v2 h1 h2=>by have:=compare W _ _ _ _ h1 h2; rwa [hc.1] at this)
  have HD:=aH hc.2
  clear hc
  go_upto_region 2 with fail
  go_region_held3 (fun w'=>w'.cell? ⟨w.heap.size,2,none⟩ = some (.slice A' m' c')) (first | go_keep | assumption)
   (first
    | (go_at_call 168; refine (small _ 1 (by omega)).mono ?_; rintro e w2 ⟨v2,rfl,t2,hb2'⟩; have hb2:=bO hb2'; have hS:=(PP.o.below' hb2).three.2.2.1; have T2:=aH t2; have BB2:=aH hb2; have PP2:=aH (PP.o.below' hb2); have D2:=aH (D1.o.below hb2); clear t2 hb2 hb2')
    | (go_at_call 172; refine (CM.o _ _ D2.o T2.o).mono ?_; rintro e w3 ⟨rfl,nd,rfl⟩; have hS:=(PP2.o.drewN nd).three.2.2.1))
  obtain ⟨f0,f1,f2,_,_,_⟩:=(FB.o.below' BB2.o).three
  obtain ⟨r0,r1,r2,z0,z1,z2⟩:=((R0.o.below BB1.o (by omega)).below' BB2.o).three
  have BA:=aH (B0.o.trans ((BB1.o.mono (by omega)).trans (BB2.o.mono (by omega))))
  have NA:=aH (N1.o.below BB2.o)
  go_wp2_with fail
  refine bodyPost_ret (v:=.agg #[.bool neg,.slice A1 m1 c1,.slice none 0 0]) (by simp [results,Tryz.results152,go_sem,r0,r1,r2]) rfl ⟨_,rfl,⟨_,_,by rw [HNEG.o],?_,?_,F1.o.mono (by omega),From.nil_ _⟩,af (ak BA.o nd) (Nat.le_succ _) _ _ _⟩
  ·exact (NA.o.drewN nd).box3 (F1.o.mono (by omega)) _ _ _
  rw [if_pos HD.o]
  exact NatAt.nil_ _
 have CM:Hd (∀ W v2,NatAt W (.slice A' m' c') q.den->NatAt W v2 1->Calls Tryz.prog 172 #[.slice A' m' c',v2] W fun e w'=>e = .returned (.int .i64 1)/\∃ k,w' = W.drewN k):=aH (fun W v2 h1 h2=>by have:=compare W _ _ _ _ h1 h2; rwa [hc.1] at this)
 have HD:=aH hc.2
 clear hc
 go_upto_region 2 with fail
 go_region_held3 (fun w'=>w'.cell? ⟨w.heap.size,2,none⟩ = some (.slice A' m' c')) (first | go_keep | assumption)
  (first
   | (go_at_call 168; refine (small _ 1 (by omega)).mono ?_; rintro e w2 ⟨v2,rfl,t2,hb2'⟩; have hb2:=bO hb2'; have hS:=(PP.o.below' hb2).three.2.2.1; have T2:=aH t2; have BB2:=aH hb2; have PP2:=aH (PP.o.below' hb2); have D2:=aH (D1.o.below hb2); clear t2 hb2 hb2')
   | (go_at_call 172; refine (CM.o _ _ D2.o T2.o).mono ?_; rintro e w3 ⟨rfl,nd,rfl⟩; have hS:=(PP2.o.drewN nd).three.2.2.1))
 obtain ⟨f0,f1,f2,y0,y1,y2⟩:=(FB.o.below' BB2.o).three
 have BA:=aH (B0.o.trans ((BB1.o.mono (by omega)).trans (BB2.o.mono (by omega))))
 have NA:=aH (N1.o.below BB2.o)
 have QA:=aH (PP.o.below' BB2.o)
 obtain ⟨q0,q1,q2,_,_,_⟩:=QA.o.three
 have hs3:wc.heap.size <= w2.heap.size:=BB2.o.size
 have RA:=aH ((R0.o.below BB1.o (by omega)).below' BB2.o)
 have FA:=aH (FB.o.below' BB2.o)
 go_wp2_with fail
 refine (iR _ _ q.den k (D2.o.drewN nd) HQ2.o (by omega)).mono ?_
 rintro e w4 ⟨v4,rfl,t4,hb4',f4⟩
 have hb4:=ar hb4'
 obtain ⟨A4,m4,c4,rfl,_⟩:=t4.len
 have R4:=aH (RA.o.below' hb4)
 have FC:=aH (FA.o.below' hb4)
 have N4:=aH (NA.o.below hb4)
 have BC:=aH (BA.o.trans (hb4.mono (by omega)))
 have T4:=aH t4
 have F4:=aH (show From _ w2.heap.size from f4)
 have hF2:F < w2.heap.size:=FA.o.lt
 clear t4 hb4 hb4' f4 f0 f1 f2 y0 y1 y2 q0 q1 q2
 obtain ⟨f0,f1,f2,y0,y1,y2⟩:=FC.o.three
 obtain ⟨r0,r1,r2,z0,z1,z2⟩:=R4.o.three
 have hne:F ≠ w.heap.size + 1:=by omega
 go_wp2_with fail
 refine bodyPost_ret (v:=.agg #[.bool neg,.slice A1 m1 c1,.slice A4 m4 c4]) (by simp [results,Tryz.results152,go_sem,r0,r1,r2]) rfl ⟨_,rfl,⟨_,_,by rw [HNEG.o],?_,?_,F1.o.mono (by omega),F4.o.mono (by omega)⟩,af (BC.o.setCell (p:=⟨F,2,none⟩) (by show w.heap.size <= F; omega) _) (Nat.le_succ _) _ _ _⟩
 ·exact (N4.o.setOff (p:=⟨F,2,none⟩) O1.o _).box3 (F1.o.mono (by omega)) _ _ _
 rw [if_neg HD.o]
 exact (T4.o.setFar (p:=⟨F,2,none⟩) F4.o hF2 _).box3 (F4.o.mono (by omega)) _ _ _
theorem qo (q:Rat):ae (-q) = (!ae q && decide (0 < q.num.natAbs)):=by
 unfold ae
 rw [Rat.neg_num,Bool.eq_iff_iff]
 simp only [decide_eq_true_eq,Bool.and_eq_true,Bool.not_eq_true',decide_eq_false_iff_not]
 omega

theorem sh (w:World) (v:Value) (q:Rat)(h:NumAt w v q) :
  Calls Tryz.prog 149 #[v] w fun e w'=>∃ v',e = .returned v'/\NumAt w' v' (-q)/\Below w.heap.size w w':=by
 obtain ⟨A,m,c,A',m',c',rfl,hm,hm',hp,h1,h2⟩:=h.open_
 have H1:=aH h1
 have H2:=aH h2
 have HN:=aH (qo q)
 have HP:Hd (∀ W,NatAt W (.slice A m c) q.num.natAbs->NatAt W (.slice A m c) (-q).num.natAbs):=aH (fun W h=>by rwa [Rat.neg_num,Int.natAbs_neg])
 have HE:Hd (decide (0 < q.num.natAbs) = decide (0 < m)):=aH (decide_eq_decide.2 hp.symm)
 clear h h1 h2 hp
 generalize ae q = s at *
 go_enter Tryz.func149,Tryz.ntmps149
 go_upto_region 1 with fail
 obtain ⟨W,hW,P0,P1,PB,Phs⟩:=cP w 190 [.bool s,.slice A m c,.slice A' m' c'] 190 [.bool false,.slice none 0 0,.slice none 0 0]
 rw [<- hW]
 clear hW
 obtain ⟨p0,p1,p2,_,_,_⟩:=P0.o.three
 obtain ⟨r0,r1,r2,z0,z1,z2⟩:=P1.o.three
 cases s
 ·by_cases h:0 < m
  ·go_wp2_with fail
   refine bodyPost_ret (v:=.agg #[.bool true,.slice A m c,.slice A' m' c']) (by simp [results,Tryz.results149,go_sem,r0,r1,r2]) rfl ⟨_,rfl,⟨.slice A m c,.slice A' m' c',by rw [HN.o,HE.o]; simp [h],?_,?_⟩,af PB.o (Nat.le_succ _) _ _ _⟩
   ·exact HP.o _ ((H1.o.below PB.o).box3off (H1.o.off (Nat.le_succ _)) _ _ _)
   exact (H2.o.below PB.o).box3off (H2.o.off (Nat.le_succ _)) _ _ _
  go_wp2_with fail
  refine bodyPost_ret (v:=.agg #[.bool false,.slice A m c,.slice A' m' c']) (by simp [results,Tryz.results149,go_sem,r0,r1,r2]) rfl ⟨_,rfl,⟨.slice A m c,.slice A' m' c',by rw [HN.o,HE.o]; simp [h],?_,?_⟩,af PB.o (Nat.le_succ _) _ _ _⟩
  ·exact HP.o _ ((H1.o.below PB.o).box3off (H1.o.off (Nat.le_succ _)) _ _ _)
  exact (H2.o.below PB.o).box3off (H2.o.off (Nat.le_succ _)) _ _ _
 go_wp2_with fail
 refine bodyPost_ret (v:=.agg #[.bool false,.slice A m c,.slice A' m' c']) (by simp [results,Tryz.results149,go_sem,r0,r1,r2]) rfl ⟨_,rfl,⟨.slice A m c,.slice A' m' c',by rw [HN.o]; simp,?_,?_⟩,af PB.o (Nat.le_succ _) _ _ _⟩
 ·exact HP.o _ ((H1.o.below PB.o).box3off (H1.o.off (Nat.le_succ _)) _ _ _)
 exact (H2.o.below PB.o).box3off (H2.o.off (Nat.le_succ _)) _ _ _

theorem uM (q:Rat)(h:q ≠ 0):q⁻¹.num.natAbs = q.den/\q⁻¹.den = q.num.natAbs/\ae q⁻¹ = ae q:=by
 have h0:q.num ≠ 0:=fun e=>h (Rat.num_eq_zero.1 e)
 have hd:=q.den_pos
 refine ⟨?_,?_,?_⟩
 ·rw [Rat.num_inv,Int.natAbs_mul,Int.natAbs_natCast,Int.natAbs_sign_of_ne_zero h0,Nat.one_mul]
 ·rw [Rat.den_inv,if_neg h0]
 unfold ae
 rw [Rat.num_inv]
 rcases Int.lt_or_gt_of_ne h0 with h1 | h1
 ·rw [Int.sign_eq_neg_one_of_neg h1]; simp [h1]; omega
 rw [Int.sign_eq_one_of_pos h1]; simp; omega

theorem sH (w:World) (v:Value) (q:Rat)(h:NumAt w v q)(h0:q ≠ 0) :
  Calls Tryz.prog 156 #[v] w fun e w'=>∃ v',e = .returned v'/\NumAt w' v' (q⁻¹)/\Below w.heap.size w w':=by
 obtain ⟨A,m,c,A',m',c',rfl,hm,hm',hp,h1,h2⟩:=h.open_
 have H1:=aH h1
 have H2:=aH h2
 have HI:=aH (uM q h0)
 clear h h1 h2 hp h0
 generalize ae q = s at *
 go_enter Tryz.func156,Tryz.ntmps156
 go_upto_region 1 with fail
 obtain ⟨W,hW,P0,P1,PB,Phs⟩:=cP w 190 [.bool s,.slice A m c,.slice A' m' c'] 190 [.bool false,.slice none 0 0,.slice none 0 0]
 rw [<- hW]
 clear hW
 obtain ⟨p0,p1,p2,_,_,_⟩:=P0.o.three
 obtain ⟨r0,r1,r2,z0,z1,z2⟩:=P1.o.three
 go_wp2_with fail
 refine bodyPost_ret (v:=.agg #[.bool s,.slice A' m' c',.slice A m c]) (by simp [results,Tryz.results156,go_sem,r0,r1,r2]) rfl ⟨_,rfl,⟨_,_,by rw [HI.o.2.2],?_,?_⟩,af PB.o (Nat.le_succ _) _ _ _⟩
 ·rw [HI.o.1]
  exact (H2.o.below PB.o).box3off (H2.o.off (Nat.le_succ _)) _ _ _
 rw [HI.o.2.1]
 exact (H1.o.below PB.o).box3off (H1.o.off (Nat.le_succ _)) _ _ _

theorem rg (w:World) (v:Value) (q:Rat)(h:NumAt w v q) :
  Calls Tryz.prog 155 #[v] w fun e w'=>e = .returned (.bool (decide (q = 0)))/\Below w.heap.size w w':=by
 obtain ⟨A,m,c,A',m',c',rfl,hm,hm',hp,h1,h2⟩:=h.open_
 have HE:Hd (decide (q = 0) = decide (m = 0)):=aH (decide_eq_decide.2 (by rw [<- Rat.num_eq_zero]; omega))
 have HW:Hd (∀ o,Below w.heap.size w (w.alloc o)):=aH (fun o=>(Below.refl _ _).alloc (nR _) o)
 clear h h1 h2 hp
 generalize ae q = s at *
 go_enter Tryz.func155,Tryz.ntmps155
 go_wp2_with fail
 go_ret
 rw [HE.o]
 refine ⟨?_,HW.o _⟩
 by_cases h:m = 0 <;> simp [h]

def aU (q:Rat):Int:=if q = 0 then 0 else if q < 0 then -1 else 1

theorem u9 (w:World) (v:Value) (q:Rat)(h:NumAt w v q) :
  Calls Tryz.prog 147 #[v] w fun e w'=>e = .returned (.int .i64 (aU q))/\Below w.heap.size w w':=by
 have HZ:=aH h
 obtain ⟨A,m,c,A',m',c',rfl,hm,hm',hp,h1,h2⟩:=h.open_
 have HS:Hd (aU q = if q = 0 then 0 else if ae q = true then -1 else 1):=aH (by unfold aU; simp only [kQ])
 clear h h1 h2 hp
 obtain ⟨s,hs⟩:=nm (ae q)
 have HSN:=aH hs
 rw [hs]
 clear hs
 go_enter Tryz.func147,Tryz.ntmps147
 go_upto_region 1 with fail
 obtain ⟨W,hW,P0,PB,Phs⟩:=aA w 190 [.bool s,.slice A m c,.slice A' m' c']
 rw [<- hW]
 clear hW
 obtain ⟨p0,p1,p2,_,_,_⟩:=P0.o.three
 have NZ:Hd (NumAt W (.agg #[.bool s,.slice A m c,.slice A' m' c']) q):=aH (by have:=HZ.o.below PB.o; rwa [HSN.o] at this)
 by_cases h0:q = 0
 ·have hs:aU q = 0:=by rw [HS.o,if_pos h0]
  have ZC:=rg W _ q NZ.o
  rw [dT h0] at ZC
  have HZC:=aH ZC
  have HSS:=aH hs
  clear hs ZC h0
  go_wp2_with (go_at_call 155; refine HZC.o.mono ?_; rintro e w1 ⟨rfl,hb1⟩)
  go_ret
  exact ⟨ag HSS.o.symm,PB.o.trans (hb1.mono (by omega))⟩
 have hs:aU q = if s = true then -1 else 1:=by rw [HS.o,if_neg h0,HSN.o]
 have ZC:=rg W _ q NZ.o
 rw [dF h0] at ZC
 have HZC:=aH ZC
 have HSS:=aH hs
 clear hs ZC h0
 cases s
 ·go_wp2_with (go_at_call 155; refine HZC.o.mono ?_; rintro e w1 ⟨rfl,hb1⟩; have BB:=aH hb1; obtain ⟨p0',p1',p2',_,_,_⟩:=(P0.o.below' hb1).three; clear hb1)
  go_ret
  exact ⟨ag HSS.o.symm,PB.o.trans (BB.o.mono (by omega))⟩
 go_wp2_with (go_at_call 155; refine HZC.o.mono ?_; rintro e w1 ⟨rfl,hb1⟩; have BB:=aH hb1; obtain ⟨p0',p1',p2',_,_,_⟩:=(P0.o.below' hb1).three; clear hb1)
 go_ret
 exact ⟨ag HSS.o.symm,PB.o.trans (BB.o.mono (by omega))⟩

theorem nV (w:World) (n:Nat)(hn:n < 9223372036854775808) :
  Calls Tryz.prog 151 #[.int .i64 (n:Int)] w fun e w'=>∃ v',e = .returned v'/\NumNew w.heap.size w' v' (n:Rat)/\Below w.heap.size w w':=by
 have HI:Hd ((n:Rat).num.natAbs = n/\(n:Rat).den = 1/\ae (n:Rat) = false):=aH ⟨by simp,by simp,by unfold ae; exact dF (by show ¬ ((n:Int) < 0); omega)⟩
 go_enter Tryz.func151,Tryz.ntmps151
 go_wp2_with fail
 obtain ⟨W,hW,P0,PB,Phs⟩:=aA w 190 [.bool false,.slice none 0 0,.slice none 0 0]
 rw [<- hW]
 clear hW
 refine (od W n (by omega)).mono ?_
 rintro e w1 ⟨v1,rfl,t1,hb1,f1⟩
 have T1:=aH t1
 have B1:=aH hb1
 have F1:=aH f1
 clear t1 hb1 f1
 go_wp2_with fail
 refine (od w1 1 (by omega)).mono ?_
 rintro e w2 ⟨v2,rfl,t2,hb2,f2⟩
 have B2:=aH (B1.o.trans (hb2.mono B1.o.size))
 obtain ⟨A,m,c,rfl,_⟩:=T1.o.len
 obtain ⟨A',m',c',rfl,_⟩:=t2.len
 have T1':=aH (T1.o.below hb2)
 have T2:=aH t2
 have F2:=aH (f2.mono B1.o.size)
 obtain ⟨r0,r1,r2,z0,z1,z2⟩:=(P0.o.below' B2.o).three
 clear t2 hb2 f2
 go_wp2_with fail
 refine bodyPost_ret (v:=.agg #[.bool false,.slice A m c,.slice A' m' c']) (by simp [results,Tryz.results151,go_sem,r0,r1,r2]) rfl ⟨_,rfl,⟨_,_,by rw [HI.o.2.2],?_,?_,F1.o.mono (by omega),F2.o.mono (by omega)⟩,af (PB.o.trans (B2.o.mono (by omega))) (nR _) _ _ _⟩
 ·rw [HI.o.1]
  exact T1'.o.box3 (F1.o.mono (by omega)) _ _ _
 rw [HI.o.2.1]
 exact T2.o.box3 (F2.o.mono (by omega)) _ _ _
theorem six {w:World} {g g':Nat} {e e':TypeId} {a b c a' b' c':Value} (h:Blk w g e [a,b,c]) (h':Blk w g' e' [a',b',c']) :
  w.cell? ⟨g,0,none⟩ = some a/\w.cell? ⟨g,1,none⟩ = some b/\w.cell? ⟨g,2,none⟩ = some c/\w.cell? ⟨g',0,none⟩ = some a'/\w.cell? ⟨g',1,none⟩ = some b'/\w.cell? ⟨g',2,none⟩ = some c' :=
 ⟨h.three.1,h.three.2.1,h.three.2.2.1,h'.three.1,h'.three.2.1,h'.three.2.2.1⟩

theorem bF {w:World} {g g' B:Nat} {a b c a' b' c':Value}
  (h:w.cell? ⟨g,0,none⟩ = some a/\w.cell? ⟨g,1,none⟩ = some b/\w.cell? ⟨g,2,none⟩ = some c/\w.cell? ⟨g',0,none⟩ = some a'/\w.cell? ⟨g',1,none⟩ = some b'/\w.cell? ⟨g',2,none⟩ = some c')
  (hg:g ≠ B) (hg':g' ≠ B) (u0 u1 u2:Value) :
  (((w.setCell ⟨B,0,none⟩ u0).setCell ⟨B,1,none⟩ u1).setCell ⟨B,2,none⟩ u2).cell? ⟨g,0,none⟩ = some a/\(((w.setCell ⟨B,0,none⟩ u0).setCell ⟨B,1,none⟩ u1).setCell ⟨B,2,none⟩ u2).cell? ⟨g,1,none⟩ = some b/\(((w.setCell ⟨B,0,none⟩ u0).setCell ⟨B,1,none⟩ u1).setCell ⟨B,2,none⟩ u2).cell? ⟨g,2,none⟩ = some c/\(((w.setCell ⟨B,0,none⟩ u0).setCell ⟨B,1,none⟩ u1).setCell ⟨B,2,none⟩ u2).cell? ⟨g',0,none⟩ = some a'/\(((w.setCell ⟨B,0,none⟩ u0).setCell ⟨B,1,none⟩ u1).setCell ⟨B,2,none⟩ u2).cell? ⟨g',1,none⟩ = some b'/\(((w.setCell ⟨B,0,none⟩ u0).setCell ⟨B,1,none⟩ u1).setCell ⟨B,2,none⟩ u2).cell? ⟨g',2,none⟩ = some c' :=
 ⟨aX h.1 hg _ _ _,aX h.2.1 hg _ _ _,aX h.2.2.1 hg _ _ _,aX h.2.2.2.1 hg' _ _ _,aX h.2.2.2.2.1 hg' _ _ _,aX h.2.2.2.2.2 hg' _ _ _⟩

theorem wT (w:World) (v v':Value) (q r:Rat) (k:Nat)(h:NumAt w v q) (h':NumAt w v' r)(hb:QB k q) (hb':QB k r)(hk:k <= 8796093022208) :
  Calls Tryz.prog 175 #[v,v'] w fun e w'=>∃ v',e = .returned v'/\NumNew w.heap.size w' v' (q * r)/\Below w.heap.size w w':=by
 obtain ⟨A,m,c,A',m',c',rfl,hm,hm',hp,h1,h2⟩:=h.open_
 obtain ⟨C,n,d,C',n',d',rfl,hn,hn',hp',h1',h2'⟩:=h'.open_
 have H1:=aH h1
 have H2:=aH h2
 have H1':=aH h1'
 have H2':=aH h2'
 have HB:=aH hb
 have HB':=aH hb'
 have MS:=aH (pc q r)
 have DP:Hd (0 < q.den * r.den):=aH (Nat.mul_pos q.den_pos r.den_pos)
 clear h h' h1 h2 h1' h2' hb hb' hp hp' hn hn' hm hm'
 generalize ae q = s at *
 generalize ae r = t at *
 go_enter Tryz.func175,Tryz.ntmps175
 go_upto_region 1 with fail
 obtain ⟨W,hW,P0,P1,P2,PB,Phs⟩:=box3 w 190 [.bool s,.slice A m c,.slice A' m' c'] 190 [.bool t,.slice C n d,.slice C' n' d'] 190 [.bool false,.slice none 0 0,.slice none 0 0]
 rw [<- hW]
 clear hW
 have N1:=aH (H1.o.below PB.o)
 have N2:=aH (H2.o.below PB.o)
 have N1':=aH (H1'.o.below PB.o)
 have N2':=aH (H2'.o.below PB.o)
 obtain ⟨p0,p1,p2,_,_,_⟩:=P0.o.three
 obtain ⟨q0,q1,q2,_,_,_⟩:=P1.o.three
 go_region_held3 (fun w'=>w'.cell? ⟨w.heap.size,0,none⟩ = some (.bool s)/\w'.cell? ⟨w.heap.size,1,none⟩ = some (.slice A m c)/\w'.cell? ⟨w.heap.size,2,none⟩ = some (.slice A' m' c')/\w'.cell? ⟨w.heap.size + 1,0,none⟩ = some (.bool t)/\w'.cell? ⟨w.heap.size + 1,1,none⟩ = some (.slice C n d)/\w'.cell? ⟨w.heap.size + 1,2,none⟩ = some (.slice C' n' d')) (first | assumption | (refine bF hS ?_ ?_ _ _ _ <;> omega) | go_keep)
  (first
   | (go_at_call_of 170 (Value.slice A m c); refine (mul _ _ _ _ _ k k ?_ ?_ HB.o.1 HB'.o.1 (by omega) (by omega)).mono ?_; (exact N1.o.drew); (exact N1'.o.drew); rintro e w1 ⟨v1,rfl,t1,hb1'⟩; have hb1:=bO hb1'; have hS:=six (P0.o.below' hb1) (P1.o.below' hb1); have T1:=aH t1; have B1:=aH hb1; clear t1 hb1 hb1')
   | (go_at_call_of 170 (Value.slice A' m' c'); refine (mul w1 _ _ _ _ k k (N2.o.below B1.o) (N2'.o.below B1.o) HB.o.2 HB'.o.2 (by omega) (by omega)).mono ?_; rintro e w2 ⟨v2,rfl,t2,hb2⟩; have B2:=aH (B1.o.trans (hb2.mono B1.o.size)); have T1':=aH (T1.o.below hb2); have T2:=aH t2; have hS:=six (P0.o.below' B2.o) (P1.o.below' B2.o); clear t2 hb2)
   | (go_at_call 169; refine (reduced w2 (s != t) _ _ _ _ (k + k) T1'.o T2.o (aE HB.o.1 HB'.o.1) (aE HB.o.2 HB'.o.2) (by omega) DP.o).mono ?_; rintro e w3 ⟨v3,rfl,t3,hb3⟩; have B3:=aH (B2.o.trans (hb3.mono B2.o.size)); obtain ⟨A3,m3,c3,A3',m3',c3',rfl,t3a,t3b,t3c,t3d⟩:=t3.open_; obtain ⟨r0,r1,r2,z0,z1,z2⟩:=(P2.o.below' B3.o).three; have hS:=six (P0.o.below' B3.o) (P1.o.below' B3.o); have TA:=aH t3a; have TB:=aH t3b; have TC:=aH t3c; have TD:=aH t3d; clear t3 t3a t3b t3c t3d hb3))
 go_wp2_with fail
 refine bodyPost_ret (v:=.agg #[.bool (ae (mkRat (sgn (s != t) (q.num.natAbs * r.num.natAbs)) (q.den * r.den))),.slice A3 m3 c3,.slice A3' m3' c3']) (by simp [results,Tryz.results175,go_sem,r0,r1,r2]) rfl ⟨_,rfl,?_,af (PB.o.trans (B3.o.mono (by omega))) (by omega) _ _ _⟩
 rw [MS.o]
 have hb2:=B2.o.size
 exact (NumNew.box3 TA.o TB.o TC.o TD.o (by omega) _ _ _).mono (by omega)
end Go.Proofs.YtjebfdfkjlkifaaGreat
