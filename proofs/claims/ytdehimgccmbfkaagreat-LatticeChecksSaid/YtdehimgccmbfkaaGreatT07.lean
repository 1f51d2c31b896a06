/- Lemmas on the way: Num, Frac1, Ev2. -/
import Derived.Test.YtdehimgccmbfkaaGreatT06
set_option linter.all false
set_option maxRecDepth 1000000
set_option maxHeartbeats 32000000
namespace Go.Proofs.YtdehimgccmbfkaaGreat
open Go.RowKit
def sgn (neg:Bool) (n:Nat):Int:=if neg then -(n:Int) else (n:Int)

theorem sgn_natAbs (neg:Bool) (n:Nat):(sgn neg n).natAbs = n:=by unfold sgn; split <;> simp

theorem sgn_div (neg:Bool) (n g:Nat)(h:g ∣ n):sgn neg n / (g:Int) = sgn neg (n / g):=by
 unfold sgn
 split
 ·rw [Int.neg_ediv_of_dvd (Int.natCast_dvd_natCast.2 h),Int.natCast_ediv]
 rw [Int.natCast_ediv]

theorem red (neg:Bool) (n d:Nat)(hd:0 < d):(mkRat (sgn neg n) d).num = sgn neg (n / Nat.gcd n d)/\(mkRat (sgn neg n) d).den = d / Nat.gcd n d:=by
 rw [Rat.num_mkRat,Rat.den_mkRat,if_neg (by omega),if_neg (by omega),sgn_natAbs,Nat.gcd_comm d n]
 exact ⟨sgn_div _ _ _ (Nat.gcd_dvd_left n d),rfl⟩

def isNeg (q:Rat):Bool:=decide (q.num < 0)

theorem isNeg_sgn {q:Rat} {neg:Bool} {m:Nat} (h:q.num = sgn neg m):isNeg q = (neg && decide (0 < m)):=by
 unfold isNeg
 rw [h]
 unfold sgn
 cases neg <;> simp <;> omega

theorem num_eq (q:Rat):q.num = sgn (isNeg q) q.num.natAbs:=by
 unfold sgn isNeg
 by_cases h:q.num < 0
 ·simp [h]; omega
 simp [h]; omega

theorem isNeg_iff (q:Rat):isNeg q = true ↔ q < 0:=by
 unfold isNeg
 rw [decide_eq_true_iff,Rat.lt_iff]
 simp

def QB (k:Nat) (q:Rat):Prop:=q.num.natAbs < 2 ^ k/\q.den < 2 ^ k

theorem QB.mono {k k':Nat} {q:Rat} (h:QB k q)(hk:k <= k'):QB k' q :=
 ⟨Nat.lt_of_lt_of_le h.1 (Nat.pow_le_pow_right (by omega) hk),Nat.lt_of_lt_of_le h.2 (Nat.pow_le_pow_right (by omega) hk)⟩
theorem QB.neg {k:Nat} {q:Rat} (h:QB k q):QB k (-q):=by
 refine ⟨?_,h.2⟩
 rw [Rat.neg_num,Int.natAbs_neg]
 exact h.1
theorem QB.red {k n d:Nat} {neg:Bool} (hn:n < 2 ^ k)(hd:d < 2 ^ k)(h0:0 < d):QB k (mkRat (sgn neg n) d):=by
 obtain ⟨h1,h2⟩:=Go.Proofs.YtdehimgccmbfkaaGreat.red neg n d h0
 refine ⟨?_,?_⟩
 ·rw [h1,sgn_natAbs]; exact Nat.lt_of_le_of_lt (Nat.div_le_self _ _) hn
 rw [h2]; exact Nat.lt_of_le_of_lt (Nat.div_le_self _ _) hd
theorem pow_mul_lt {a b j k:Nat} (ha:a < 2 ^ j)(hb:b < 2 ^ k):a * b < 2 ^ (j + k):=by
 rw [Nat.pow_add]
 exact Nat.mul_lt_mul'' ha hb

theorem add_sgn (a b:Rat):a + b = mkRat (a.num * b.den + b.num * a.den) (a.den * b.den):=Rat.add_def' a b
theorem mul_sgn (a b:Rat):a * b = mkRat (sgn (isNeg a != isNeg b) (a.num.natAbs * b.num.natAbs)) (a.den * b.den):=by
 rw [Rat.mul_def']
 congr 1
 conv=>lhs; rw [num_eq a,num_eq b]
 unfold sgn
 cases isNeg a <;> cases isNeg b <;> simp [Int.natCast_mul,Int.neg_mul,Int.mul_neg]
theorem add_same (a b:Rat)(h:isNeg a = isNeg b):a + b = mkRat (sgn (isNeg a) (a.num.natAbs * b.den + b.num.natAbs * a.den)) (a.den * b.den):=by
 rw [add_sgn]
 congr 1
 conv=>lhs; rw [num_eq a,num_eq b,<- h]
 unfold sgn
 cases isNeg a <;> simp [Int.natCast_mul,Int.natCast_add,Int.neg_mul] <;> omega
theorem add_less (a b:Rat)(h:isNeg a ≠ isNeg b)(hlt:a.num.natAbs * b.den < b.num.natAbs * a.den):a + b = mkRat (sgn (isNeg b) (b.num.natAbs * a.den - a.num.natAbs * b.den)) (a.den * b.den):=by
 rw [add_sgn]
 congr 1
 conv=>lhs; rw [num_eq a,num_eq b]
 unfold sgn
 cases ha:isNeg a <;> cases hb:isNeg b <;> simp_all [Int.neg_mul] <;> rw [Int.natCast_sub (by omega)] <;> simp [Int.natCast_mul] <;> omega
theorem add_more (a b:Rat)(h:isNeg a ≠ isNeg b)(hlt:b.num.natAbs * a.den <= a.num.natAbs * b.den):a + b = mkRat (sgn (isNeg a) (a.num.natAbs * b.den - b.num.natAbs * a.den)) (a.den * b.den):=by
 rw [add_sgn]
 congr 1
 conv=>lhs; rw [num_eq a,num_eq b]
 unfold sgn
 cases ha:isNeg a <;> cases hb:isNeg b <;> simp_all [Int.neg_mul] <;> rw [Int.natCast_sub (by omega)] <;> simp [Int.natCast_mul] <;> omega

theorem QB.mul {j k:Nat} {a b:Rat} (ha:QB j a)(hb:QB k b):QB (j + k) (a * b):=by
 rw [mul_sgn]
 exact QB.red (pow_mul_lt ha.1 hb.1) (pow_mul_lt ha.2 hb.2) (Nat.mul_pos a.den_pos b.den_pos)
theorem QB.add {j k:Nat} {a b:Rat} (ha:QB j a)(hb:QB k b):QB (j + k + 1) (a + b):=by
 have h1:=pow_mul_lt ha.1 hb.2
 have h2:=pow_mul_lt hb.1 ha.2
 rw [Nat.add_comm k j] at h2
 have h3:=pow_mul_lt ha.2 hb.2
 have h4:2 ^ (j + k + 1) = 2 ^ (j + k) + 2 ^ (j + k):=by rw [Nat.pow_succ]; omega
 have h0:=Nat.mul_pos a.den_pos b.den_pos
 by_cases h:isNeg a = isNeg b
 ·rw [add_same a b h]
  exact QB.red (by omega) (by omega) h0
 rcases Nat.lt_or_ge (a.num.natAbs * b.den) (b.num.natAbs * a.den) with h' | h'
 ·rw [add_less a b h h']
  exact QB.red (by omega) (by omega) h0
 rw [add_more a b h h']
 exact QB.red (by omega) (by omega) h0
theorem QB.inv {k:Nat} {a:Rat} (ha:QB k a)(hk:0 < k):QB k a⁻¹:=by
 refine ⟨?_,?_⟩
 ·rw [Rat.num_inv,Int.natAbs_mul,Int.natAbs_natCast]
  by_cases h:a.num = 0
  ·rw [h]; simpa using Nat.pow_pos (by omega)
  rw [Int.natAbs_sign_of_ne_zero h,Nat.one_mul]; exact ha.2
 rw [Rat.den_inv]
 split
 ·exact Nat.one_lt_two_pow (by omega)
 exact ha.1
def Off (v:Value) (F:Nat):Prop:=∀ ad n c,v = .slice (some ad) n c->0 < n->ad.block ≠ F
theorem From.off {v:Value} {B F:Nat} (h:From v B)(hf:F < B):Off v F:=fun ad n c e _=>by have:=h ad n c e; omega
theorem Sl.off {w:World} {sz:Nat} {v:Value} {n F:Nat} {xs:List Value} (h:Sl w sz v n xs)(hf:w.heap.size <= F):Off v F:=by
 obtain ⟨_,A,c,rfl,_,_,h5⟩:=h
 intro ad n' c' e hn
 cases e
 obtain ⟨b,off,e,hb,_⟩:=h5 hn
 cases e
 simp only
 omega
theorem NatAt.off {w:World} {v:Value} {n F:Nat} (h:NatAt w v n)(hf:w.heap.size <= F):Off v F:=by
 obtain ⟨l,d,_⟩:=h
 exact d.1.off hf
theorem Sl.setOff {w:World} {sz:Nat} {v:Value} {n:Nat} {xs:List Value} (h:Sl w sz v n xs) {p:Addr} (hf:Off v p.block) (u:Value):Sl (w.setCell p u) sz v n xs:=by
 obtain ⟨h0,A,c,h1,h2,h3,h5⟩:=h
 refine ⟨h0,A,c,h1,h2,h3,fun hn=>?_⟩
 obtain ⟨b,off,e,hlt,hc⟩:=h5 hn
 subst e
 have hb:=hf _ _ _ h1 hn
 refine ⟨b,off,rfl,by simpa [World.setCell] using hlt,fun j x hx=>?_⟩
 rw [World.cell?_setCell_other w p _ u (fun e=>hb (by rw [e]))]
 exact hc j x hx
theorem NatAt.setOff {w:World} {v:Value} {n:Nat} (h:NatAt w v n) {p:Addr} (hf:Off v p.block) (u:Value):NatAt (w.setCell p u) v n:=by
 obtain ⟨l,⟨h1,h2⟩,h3⟩:=h
 exact ⟨l,⟨h1.setOff hf u,h2⟩,h3⟩

def NumAt (w:World) (v:Value) (q:Rat):Prop:=∃ vn vd,v = .agg #[.bool (isNeg q),vn,vd]/\NatAt w vn q.num.natAbs/\NatAt w vd q.den
theorem NumAt.below {w w':World} {v:Value} {q:Rat} (h:NumAt w v q)(hb:Below w.heap.size w w'):NumAt w' v q:=by
 obtain ⟨vn,vd,e,h1,h2⟩:=h
 exact ⟨vn,vd,e,h1.below hb,h2.below hb⟩

def NumNew (B:Nat) (w:World) (v:Value) (q:Rat):Prop:=∃ vn vd,v = .agg #[.bool (isNeg q),vn,vd]/\NatAt w vn q.num.natAbs/\NatAt w vd q.den/\From vn B/\From vd B
theorem NumNew.at_ {B:Nat} {w:World} {v:Value} {q:Rat} (h:NumNew B w v q):NumAt w v q:=by
 obtain ⟨vn,vd,e,h1,h2,_⟩:=h
 exact ⟨vn,vd,e,h1,h2⟩
theorem NumNew.below {B:Nat} {w w':World} {v:Value} {q:Rat} (h:NumNew B w v q)(hb:Below w.heap.size w w'):NumNew B w' v q:=by
 obtain ⟨vn,vd,e,h1,h2,h3⟩:=h
 exact ⟨vn,vd,e,h1.below hb,h2.below hb,h3⟩
theorem NumNew.mono {B B':Nat} {w:World} {v:Value} {q:Rat} (h:NumNew B w v q)(hb:B' <= B):NumNew B' w v q:=by
 obtain ⟨vn,vd,e,h1,h2,h3,h4⟩:=h
 exact ⟨vn,vd,e,h1,h2,h3.mono hb,h4.mono hb⟩

theorem NatAt.box3 {w:World} {v:Value} {n B:Nat} (h:NatAt w v n)(hf:From v (B + 1)) (u0 u1 u2:Value) :
  NatAt (((w.setCell ⟨B,0,none⟩ u0).setCell ⟨B,1,none⟩ u1).setCell ⟨B,2,none⟩ u2) v n :=
 ((h.setFar hf (p:=⟨B,0,none⟩) (Nat.lt_succ_self _) u0).setFar hf (p:=⟨B,1,none⟩) (Nat.lt_succ_self _) u1).setFar hf (p:=⟨B,2,none⟩) (Nat.lt_succ_self _) u2
theorem cell_box3 {w:World} {B:Nat} {p:Addr} {x:Value} (h:w.cell? p = some x)(hp:p.block ≠ B) (u0 u1 u2:Value) :
  (((w.setCell ⟨B,0,none⟩ u0).setCell ⟨B,1,none⟩ u1).setCell ⟨B,2,none⟩ u2).cell? p = some x:=by
 rw [World.cell?_setCell_other _ _ _ _ (fun e=>hp (by rw [<- e])),World.cell?_setCell_other _ _ _ _ (fun e=>hp (by rw [<- e])),World.cell?_setCell_other _ _ _ _ (fun e=>hp (by rw [<- e]))]
 exact h
theorem Blk.box3 {w:World} {B:Nat} {e:TypeId} {a b c:Value} (h:Blk w B e [a,b,c]) (u0 u1 u2:Value) :
  Blk (((w.setCell ⟨B,0,none⟩ u0).setCell ⟨B,1,none⟩ u1).setCell ⟨B,2,none⟩ u2) B e [u0,u1,u2]:=((h.set_ 0 u0).set_ 1 u1).set_ 2 u2
theorem Blk.box3far {w:World} {B g:Nat} {e:TypeId} {xs:List Value} (h:Blk w g e xs)(hg:g ≠ B) (u0 u1 u2:Value) :
  Blk (((w.setCell ⟨B,0,none⟩ u0).setCell ⟨B,1,none⟩ u1).setCell ⟨B,2,none⟩ u2) g e xs :=
 ((h.far (p:=⟨B,0,none⟩) hg u0).far (p:=⟨B,1,none⟩) hg u1).far (p:=⟨B,2,none⟩) hg u2
theorem NatAt.box3off {w:World} {v:Value} {n B:Nat} (h:NatAt w v n)(hf:Off v B) (u0 u1 u2:Value) :
  NatAt (((w.setCell ⟨B,0,none⟩ u0).setCell ⟨B,1,none⟩ u1).setCell ⟨B,2,none⟩ u2) v n :=
 ((h.setOff (p:=⟨B,0,none⟩) hf u0).setOff (p:=⟨B,1,none⟩) hf u1).setOff (p:=⟨B,2,none⟩) hf u2
theorem below_box3 {w w':World} {B0 B:Nat} (h:Below B0 w w')(hb:B0 <= B) (u0 u1 u2:Value) :
  Below B0 w (((w'.setCell ⟨B,0,none⟩ u0).setCell ⟨B,1,none⟩ u1).setCell ⟨B,2,none⟩ u2) :=
 ((h.setCell (p:=⟨B,0,none⟩) hb u0).setCell (p:=⟨B,1,none⟩) hb u1).setCell (p:=⟨B,2,none⟩) hb u2

theorem NatAt.len {w:World} {v:Value} {n:Nat} (h:NatAt w v n):∃ A m c,v = .slice A m c/\m <= 9223372036854775807/\(0 < m ↔ 0 < n):=by
 obtain ⟨l,d,t,rfl⟩:=h
 obtain ⟨_,A,c,rfl,hlc,hcm,_⟩:=d.open_
 refine ⟨A,l.length,c,rfl,by omega,?_⟩
 rw [List.length_pos_iff,Nat.pos_iff_ne_zero]
 exact (not_congr t.eq_nil).symm

theorem Blk.three {w:World} {g:Nat} {e:TypeId} {a b c:Value} (h:Blk w g e [a,b,c]) :
  w.cell? ⟨g,0,none⟩ = some a/\w.cell? ⟨g,1,none⟩ = some b/\w.cell? ⟨g,2,none⟩ = some c/\w.frozen? ⟨g,0,none⟩ = false/\w.frozen? ⟨g,1,none⟩ = false/\w.frozen? ⟨g,2,none⟩ = false :=
 ⟨h.cell 0,h.cell 1,h.cell 2,h.frozen 0,h.frozen 1,h.frozen 2⟩
theorem NumNew.open_ {B:Nat} {w:World} {v:Value} {q:Rat} (h:NumNew B w v q):∃ A m c A' m' c',v = .agg #[.bool (isNeg q),.slice A m c,.slice A' m' c']/\NatAt w (.slice A m c) q.num.natAbs/\NatAt w (.slice A' m' c') q.den/\From (.slice A m c) B/\From (.slice A' m' c') B:=by
 obtain ⟨vn,vd,rfl,h1,h2,h3,h4⟩:=h
 obtain ⟨A,m,c,rfl,_⟩:=h1.len
 obtain ⟨A',m',c',rfl,_⟩:=h2.len
 exact ⟨A,m,c,A',m',c',rfl,h1,h2,h3,h4⟩
theorem NumAt.open_ {w:World} {v:Value} {q:Rat} (h:NumAt w v q):∃ A m c A' m' c',v = .agg #[.bool (isNeg q),.slice A m c,.slice A' m' c']/\m <= 9223372036854775807/\m' <= 9223372036854775807/\(0 < m ↔ 0 < q.num.natAbs)/\NatAt w (.slice A m c) q.num.natAbs/\NatAt w (.slice A' m' c') q.den:=by
 obtain ⟨vn,vd,rfl,h1,h2⟩:=h
 obtain ⟨A,m,c,rfl,hm,hp⟩:=h1.len
 obtain ⟨A',m',c',rfl,hm',_⟩:=h2.len
 exact ⟨A,m,c,A',m',c',rfl,hm,hm',hp,h1,h2⟩
theorem NumNew.box3 {B g:Nat} {w:World} {q:Rat} {A A':Option Addr} {m c m' c':Nat} (h1:NatAt w (.slice A m c) q.num.natAbs)(h2:NatAt w (.slice A' m' c') q.den)(h3:From (.slice A m c) B)(h4:From (.slice A' m' c') B)(hg:g < B) (u0 u1 u2:Value) :
  NumNew B (((w.setCell ⟨g,0,none⟩ u0).setCell ⟨g,1,none⟩ u1).setCell ⟨g,2,none⟩ u2) (.agg #[.bool (isNeg q),.slice A m c,.slice A' m' c']) q :=
 ⟨_,_,rfl,h1.box3 (h3.mono hg) _ _ _,h2.box3 (h4.mono hg) _ _ _,h3,h4⟩

theorem reduced (w:World) (neg:Bool) (vn vd:Value) (n d k:Nat)(hn:NatAt w vn n)(hd:NatAt w vd d) (ln:n < 2 ^ k) (ld:d < 2 ^ k)(hk:k <= 17592186044416)(h0:0 < d) :
  Calls Tryz.prog 184 #[.bool neg,vn,vd] w fun e w'=>∃ v',e = .returned v'/\NumNew w.heap.size w' v' (mkRat (sgn neg n) d)/\Below w.heap.size w w':=by
 have HN:=Lib.hid hn
 have HD:=Lib.hid hd
 have LN:=Lib.hid ln
 have LD:=Lib.hid ld
 obtain ⟨r1,r2⟩:=red neg n d h0
 have R1:=Lib.hid r1
 have R2:=Lib.hid r2
 have hg0:0 < Nat.gcd n d:=Nat.gcd_pos_of_pos_right _ h0
 clear hn hd ln ld r1 r2
 generalize hg:Nat.gcd n d = g at *
 have HGE:=Lib.hid hg
 clear hg
 have HW:Hid (∀ o,Below w.heap.size w (w.alloc o)):=Lib.hid (fun o=>(Below.refl _ _).alloc (Nat.le_refl _) o)
 go_enter Tryz.func184,Tryz.ntmps184
 go_wp2_with fail
 refine (gcd _ vn vd n d k (HN.out.alloc _) (HD.out.alloc _) LN.out LD.out hk).mono ?_
 rintro e w1 ⟨vg,rfl,hg1,hb1⟩
 rw [HGE.out] at hg1
 have HG1:=Lib.hid hg1
 have hs1:w.heap.size + 1 <= w1.heap.size:=by have:=hb1.size; simpa using this
 have HN1:=Lib.hid ((HN.out.alloc _).below hb1)
 have HD1:=Lib.hid ((HD.out.alloc _).below hb1)
 have HB1:=Lib.hid ((HW.out _).trans (hb1.mono (by simp)))
 have BX1:=Lib.hid ((Blk.new w 196 [.bool false,.slice none 0 0,.slice none 0 0]).below' hb1)
 clear hg1 hb1
 go_wp2_with fail
 refine (div w1 vn vg n g k HN1.out HG1.out LN.out hk hg0).mono ?_
 rintro e w2 ⟨vq,vr,rfl,hq2,_,hb2,hf2⟩
 have HQ2:=Lib.hid hq2
 have HB2:=Lib.hid (HB1.out.trans (hb2.mono (by omega)))
 have HG2:=Lib.hid (HG1.out.below hb2)
 have HD2:=Lib.hid (HD1.out.below hb2)
 have HF2:=Lib.hid (hf2.mono hs1)
 have BX2:=Lib.hid (BX1.out.below' hb2)
 have hs2:w.heap.size + 1 <= w2.heap.size:=by have:=hb2.size; omega
 clear hq2 hb2 hf2
 go_wp2_with fail
 refine (div w2 vd vg d g k HD2.out HG2.out LD.out hk hg0).mono ?_
 rintro e w3 ⟨vq',vr',rfl,hq3,_,hb3,hf3⟩
 have HQ3:=Lib.hid hq3
 have HB3:=Lib.hid (HB2.out.trans (hb3.mono (by omega)))
 have HQ2':=Lib.hid (HQ2.out.below hb3)
 have HF3:=Lib.hid (hf3.mono hs2)
 have BX3:=Lib.hid (BX2.out.below' hb3)
 have hs3:w.heap.size + 1 <= w3.heap.size:=by have:=hb3.size; omega
 clear hq3 hb3 hf3
 obtain ⟨A,m,c,rfl,hm,hmp⟩:=HQ2'.out.len
 obtain ⟨A',m',c',rfl,hm',_⟩:=HQ3.out.len
 have hb:isNeg (mkRat (sgn neg n) d) = (neg && decide (0 < m)):=by
  rw [isNeg_sgn R1.out]
  congr 1
  exact decide_eq_decide.2 hmp.symm
 have HBN:=Lib.hid hb
 clear hmp hb
 have hc0:=BX3.out.cell 0
 have hc1:=BX3.out.cell 1
 have hc2:=BX3.out.cell 2
 have hz0:=BX3.out.frozen 0
 have hz1:=BX3.out.frozen 1
 have hz2:=BX3.out.frozen 2
 simp only [List.getElem?_cons_zero,List.getElem?_cons_succ] at hc0 hc1 hc2
 have fin:∀ (b:Bool),b = (neg && decide (0 < m))->NumNew w.heap.size (((w3.setCell ⟨w.heap.size,0,none⟩ (.bool b)).setCell ⟨w.heap.size,1,none⟩ (.slice A m c)).setCell ⟨w.heap.size,2,none⟩ (.slice A' m' c')) (.agg #[.bool b,.slice A m c,.slice A' m' c']) (mkRat (sgn neg n) d) /\
   Below w.heap.size w (((w3.setCell ⟨w.heap.size,0,none⟩ (.bool b)).setCell ⟨w.heap.size,1,none⟩ (.slice A m c)).setCell ⟨w.heap.size,2,none⟩ (.slice A' m' c')):=by
  intro b hb
  refine ⟨⟨_,_,by rw [HBN.out,<- hb],?_,?_,HF2.out.mono (Nat.le_succ _),HF3.out.mono (Nat.le_succ _)⟩,below_box3 HB3.out (Nat.le_refl _) _ _ _⟩
  ·rw [R1.out,sgn_natAbs]
   exact HQ2'.out.box3 HF2.out _ _ _
  rw [R2.out]
  exact HQ3.out.box3 HF3.out _ _ _
 have FIN:=Lib.hid fin
 clear fin
 cases neg
 ·go_wp2_with fail
  exact bodyPost_ret (v:=.agg #[.bool false,.slice A m c,.slice A' m' c']) (by simp [results,Tryz.results184,go_sem,hc0,hc1,hc2]) rfl ⟨_,rfl,FIN.out false (by simp)⟩
 by_cases h:0 < m
 ·go_wp2_with fail
  exact bodyPost_ret (v:=.agg #[.bool true,.slice A m c,.slice A' m' c']) (by simp [results,Tryz.results184,go_sem,hc0,hc1,hc2]) rfl ⟨_,rfl,FIN.out true (by simp [h])⟩
 go_wp2_with fail
 exact bodyPost_ret (v:=.agg #[.bool false,.slice A m c,.slice A' m' c']) (by simp [results,Tryz.results184,go_sem,hc0,hc1,hc2]) rfl ⟨_,rfl,FIN.out false (by simp [h])⟩
theorem NatAt.keep {w w':World} {v:Value} {n:Nat} (h:NatAt w v n)(hs:w.heap.size <= w'.heap.size)
  (hb:∀ ad m c,v = .slice (some ad) m c->0 < m->ad.block < w.heap.size->w'.heap[ad.block]? = w.heap[ad.block]?):NatAt w' v n:=by
 obtain ⟨l,⟨⟨h0,A,c,h1,h2,h3,h4⟩,h5⟩,h6⟩:=h
 refine ⟨l,⟨⟨h0,A,c,h1,h2,h3,fun hn=>?_⟩,h5⟩,h6⟩
 obtain ⟨b,off,rfl,hlt,hc⟩:=h4 hn
 refine ⟨b,off,rfl,Nat.lt_of_lt_of_le hlt hs,fun j u hu=>?_⟩
 have e:=hb _ _ _ h1 hn hlt
 rw [<- hc j u hu]
 exact World.cell?_of_block (w:=w) e

def lsOf:LS->LoopState
 | .ready=>.ready
 | .busy=>.busy
 | .done=>.done
 | .over=>.exhausted
def TR (μ:Mu) (n:Nat) (T:Tr AV) (tm:Array Value):Prop:=tm.size = n/\∀ t x,T.get t = some x->∃ y,tm[t]? = some y/\VR μ x y
theorem TR.mono {μ μ':Mu} {n:Nat} {T:Tr AV} {tm:Array Value} (h:TR μ n T tm)(hs:Sub μ μ'):TR μ' n T tm :=
 ⟨h.1,fun t x e=>let ⟨y,h1,h2⟩:=h.2 t x e; ⟨y,h1,h2.mono hs⟩⟩
theorem TR.put {μ:Mu} {n:Nat} {T:Tr AV} {tm:Array Value} (h:TR μ n T tm) {d:Nat} (hd:d < n) {x:AV} {y:Value} (hx:VR μ x y):TR μ n (T.set d (some x)) (tm.setIfInBounds d y):=by
 refine ⟨by simp [h.1],fun t z e=>?_⟩
 rw [Tr.get_set] at e
 split at e
 ·next e2=>subst e2; cases e; exact ⟨y,by simp [h.1,hd],hx⟩
 next e2 =>
 obtain ⟨u,h1,h2⟩:=h.2 t z e
 exact ⟨u,by rw [Array.getElem?_setIfInBounds_ne (Ne.symm e2)]; exact h1,h2⟩

def noDig:Value->Bool
 | .int .u32 _=>false
 | _=>true
theorem noDig_of_flat {μ:Mu} {x:AV} {v:Value} (h:VR μ x v)(hf:flat x = true):noDig v = true:=by
 cases x <;> simp only [VR] at h <;> simp only [flat] at hf
 case i k n=>subst h; cases k <;> first | rfl | (simp [flat] at hf; done)
 all_goals first
  | (subst h; rfl)
  | (obtain ⟨_,_,rfl⟩:=h; rfl)
  | (obtain ⟨_,_,_,rfl,_⟩:=h; rfl)
  | (obtain ⟨_,_,_,_,rfl⟩:=h; rfl)
  | (obtain ⟨_,_,rfl,_⟩:=h; rfl)
  | (obtain ⟨_,rfl,_⟩:=h; rfl)
  | (obtain ⟨_,_,_,_,_,_,rfl,_⟩:=h; rfl)
  | (obtain ⟨_,⟨_,_,rfl,_⟩,_⟩:=h; rfl)
  | (obtain ⟨_,_,_,rfl,_⟩:=h; rfl)
  | cases hf
theorem noDigs_of_flat {μ:Mu}:∀ {l:List AV} {m:List Value},VRs μ l m->l.all flat = true->m.all noDig = true
 | [],m,h,_=>by simp only [VRs] at h; subst h; rfl
 | x :: l,m,h,hf=>by
  simp only [VRs] at h
  obtain ⟨y,ys,rfl,h1,h2⟩:=h
  simp only [List.all_cons,Bool.and_eq_true] at hf ⊢
  exact ⟨noDig_of_flat h1 hf.1,noDigs_of_flat h2 hf.2⟩

def EsR (μ:Mu):List AE->List MapEntry->Prop
 | [],l=>l = []
 | e :: es,l=>∃ k v l',l = ⟨k,v,e.born⟩ :: l'/\VR μ e.key k/\VR μ e.val v/\EsR μ es l'
theorem EsR.mono {μ μ':Mu} (hs:Sub μ μ'):∀ {es:List AE} {l:List MapEntry},EsR μ es l->EsR μ' es l
 | [],_,h=>h
 | _ :: _,_,⟨k,v,l',e,h1,h2,h3⟩=>⟨k,v,l',e,h1.mono hs,h2.mono hs,EsR.mono hs h3⟩

def OR (μ:Mu) (w:World) (o:Nat):AO->Prop
 | .cells c t op=>∃ p cs,μ o = some (.at_ p)/\w.heap[p.blk]? = some (.cells cs t (0,0))/\cs.size = p.tot/\(c.all flat = true/\cs.toList.all noDig = true) /\
   ∀ i x,c[i]? = some x->∃ y,cs[p.base + i]? = some y/\VR μ x y
 | .map es clock=>∃ p l,μ o = some (.at_ p)/\w.heap[p.blk]? = some (.map l.toArray clock)/\EsR μ es l
 | .iter m since seen st=>∃ p m',μ o = some (.at_ p)/\p.base = 0/\w.heap[p.blk]? = some (.mapIter m' since seen.toArray st) /\
   (match m with
    | none=>m' = none
    | some m=>∃ q,μ m = some (.at_ q)/\m' = some q.blk)
 | .loop st pe _ n T ps asn body ds=>∃ p q tm fn,μ o = some (.at_ p)/\μ ds = some (.at_ q)/\TR μ n T tm /\
   w.heap[p.blk]? = some (.loop { state:=lsOf st,pending:=pe,fn,tmps:=tm,params:=ps.toArray,assign:=asn,body,defers:=q.blk })
 | .defs=>∃ p,μ o = some (.at_ p)/\w.heap[p.blk]? = some (.deferred (some []))
 | .nat n=>∃ A m c,μ o = some (.val A m c)/\NatAt w (.slice A m c) n

theorem OR.at_ {μ:Mu} {w:World} {o:Nat} {x:AO} {p:Pl} (h:OR μ w o x)(hm:μ o = some (.at_ p)):∃ b,w.heap[p.blk]? = some b:=by
 cases x <;> simp only [OR] at h
 case cells=>obtain ⟨p',cs,h1,h2,_⟩:=h; rw [hm] at h1; cases h1; exact ⟨_,h2⟩
 case map=>obtain ⟨p',cs,h1,h2,_⟩:=h; rw [hm] at h1; cases h1; exact ⟨_,h2⟩
 case iter=>obtain ⟨p',m',h1,_,h2,_⟩:=h; rw [hm] at h1; cases h1; exact ⟨_,h2⟩
 case loop=>obtain ⟨p',q,tm,fn,h1,_,_,h2⟩:=h; rw [hm] at h1; cases h1; exact ⟨_,h2⟩
 case defs=>obtain ⟨p',h1,h2⟩:=h; rw [hm] at h1; cases h1; exact ⟨_,h2⟩
 case nat=>obtain ⟨A,m,c,h1,_⟩:=h; rw [hm] at h1; cases h1
theorem OR.keep {μ μ':Mu} {w w':World} {o:Nat} {x:AO} (h:OR μ w o x)(hs:Sub μ μ')(hz:w.heap.size <= w'.heap.size)
  (hb:∀ p,μ o = some (.at_ p)->w'.heap[p.blk]? = w.heap[p.blk]?)
  (hv:∀ A m c,μ o = some (.val A m c)->∀ ad,A = some ad->0 < m->ad.block < w.heap.size->w'.heap[ad.block]? = w.heap[ad.block]?):OR μ' w' o x:=by
 cases x <;> simp only [OR] at h ⊢
 case cells=>obtain ⟨p,cs,h1,h2,h3,h4,h5⟩:=h; exact ⟨p,cs,hs _ _ h1,(hb p h1).trans h2,h3,h4,fun i x e=>let ⟨y,a,b⟩:=h5 i x e; ⟨y,a,b.mono hs⟩⟩
 case map=>obtain ⟨p,cs,h1,h2,h3⟩:=h; exact ⟨p,cs,hs _ _ h1,(hb p h1).trans h2,h3.mono hs⟩
 case iter m _ _ _ =>
  obtain ⟨p,m',h1,h0,h2,h3⟩:=h
  refine ⟨p,m',hs _ _ h1,h0,(hb p h1).trans h2,?_⟩
  cases m with
  | none=>exact h3
  | some m=>obtain ⟨q,a,b⟩:=h3; exact ⟨q,hs _ _ a,b⟩
 case loop=>obtain ⟨p,q,tm,fn,h1,h2,h3,h4⟩:=h; exact ⟨p,q,tm,fn,hs _ _ h1,hs _ _ h2,h3.mono hs,(hb p h1).trans h4⟩
 case defs=>obtain ⟨p,h1,h2⟩:=h; exact ⟨p,hs _ _ h1,(hb p h1).trans h2⟩
 case nat =>
  obtain ⟨A,m,c,h1,h2⟩:=h
  refine ⟨A,m,c,hs _ _ h1,h2.keep hz fun ad m' c' e hm hlt=>?_⟩
  cases e
  exact hv _ m c h1 ad rfl hm hlt
theorem OR.val {μ:Mu} {w:World} {o:Nat} {x:AO} {A:Option Addr} {m c:Nat} (h:OR μ w o x)(hm:μ o = some (.val A m c)):∃ n,x = .nat n:=by
 cases x <;> simp only [OR] at h
 case cells=>obtain ⟨p',cs,h1,h2,_⟩:=h; rw [hm] at h1; cases h1
 case map=>obtain ⟨p',cs,h1,h2,_⟩:=h; rw [hm] at h1; cases h1
 case iter=>obtain ⟨p',m',h1,_,h2,_⟩:=h; rw [hm] at h1; cases h1
 case loop=>obtain ⟨p',q,tm,fn,h1,_,_,h2⟩:=h; rw [hm] at h1; cases h1
 case defs=>obtain ⟨p',h1,h2⟩:=h; rw [hm] at h1; cases h1
 case nat=>exact ⟨_,rfl⟩

def hasDig (w:World) (g:Nat):Prop:=∃ i v,w.cell? ⟨g,i,none⟩ = some v/\noDig v = false
theorem OR.nodig {μ:Mu} {w:World} {o:Nat} {x:AO} {p:Pl} (h:OR μ w o x)(hm:μ o = some (.at_ p)):¬ hasDig w p.blk:=by
 rintro ⟨i,v,hv,hd⟩
 cases x <;> simp only [OR] at h
 case cells =>
  obtain ⟨p',cs,h1,h2,h3,h4,h5⟩:=h
  rw [hm] at h1
  cases h1
  simp only [World.cell?,h2] at hv
  have hv:cs[i]? = some v:=by simpa using hv
  have:=List.all_eq_true.1 h4.2 v (by rw [<- Array.getElem?_toList] at hv; exact List.mem_of_getElem? hv)
  rw [hd] at this
  cases this
 case map=>obtain ⟨p',l,g1,g2,_⟩:=h; rw [hm] at g1; cases g1; simp [World.cell?,g2] at hv
 case iter=>obtain ⟨p',m',g1,_,g2,_⟩:=h; rw [hm] at g1; cases g1; simp [World.cell?,g2] at hv
 case loop=>obtain ⟨p',q,tm,fn,g1,_,_,g2⟩:=h; rw [hm] at g1; cases g1; simp [World.cell?,g2] at hv
 case defs=>obtain ⟨p',g1,g2⟩:=h; rw [hm] at g1; cases g1; simp [World.cell?,g2] at hv
 case nat=>obtain ⟨A,m,c,h1,_⟩:=h; rw [hm] at h1; cases h1
theorem nat_off {μ:Mu} {w:World} {o o' n:Nat} {x:AO} {A:Option Addr} {m c:Nat} {p:Pl} (h:OR μ w o (.nat n))(hm:μ o = some (.val A m c)) (h':OR μ w o' x) (hm':μ o' = some (.at_ p))(hx:∀ n,x ≠ .nat n):Off (.slice A m c) p.blk:=by
 simp only [OR] at h
 obtain ⟨A',m',c',h1,h2⟩:=h
 rw [hm] at h1
 cases h1
 intro ad n' c'' e hpos eb
 cases e
 obtain ⟨l,⟨⟨hl,A'',c2,e3,_,_,h4⟩,_⟩,_⟩:=h2
 cases e3
 obtain ⟨b,off,e4,hlt,hc⟩:=h4 hpos
 cases e4
 obtain ⟨d,hd⟩:∃ d,l[0]? = some d:=⟨_,List.getElem?_eq_getElem hpos⟩
 have hcell:=hc 0 (dg d) (by rw [List.getElem?_map,hd]; rfl)
 simp only at eb
 subst eb
 simp only [World.cell?] at hcell
 cases x <;> simp only [OR] at h'
 case cells =>
  obtain ⟨p',cs,g1,g2,g3,g4,g5⟩:=h'
  rw [hm'] at g1
  cases g1
  rw [g2] at hcell
  simp only [Option.isSome_none,Bool.false_eq_true,if_false] at hcell
  have:=g4.2
  rw [List.all_eq_true] at this
  have:=this (dg d) (List.mem_of_getElem? (i:=off + 0) (by rw [Array.getElem?_toList]; exact hcell))
  simp [noDig,dg] at this
 case map=>obtain ⟨p',l,g1,g2,_⟩:=h'; rw [hm'] at g1; cases g1; rw [g2] at hcell; simp at hcell
 case iter=>obtain ⟨p',m',g1,_,g2,_⟩:=h'; rw [hm'] at g1; cases g1; rw [g2] at hcell; simp at hcell
 case loop=>obtain ⟨p',q,tm,fn,g1,_,_,g2⟩:=h'; rw [hm'] at g1; cases g1; rw [g2] at hcell; simp at hcell
 case defs=>obtain ⟨p',g1,g2⟩:=h'; rw [hm'] at g1; cases g1; rw [g2] at hcell; simp at hcell
 case nat k=>exact absurd rfl (hx k)

structure Rel0 (μ:Mu) (s:St) (w:World):Prop where
 obj:∀ o x,s.h.get o = some x->μ o ≠ none->OR μ w o x
 inj:∀ o o' x x' p p',s.h.get o = some x->s.h.get o' = some x'->μ o = some (.at_ p)->μ o' = some (.at_ p')->p.blk = p'.blk->o = o'
 nat:∀ o n A m c o' x' p',s.h.get o = some (.nat n)->μ o = some (.val A m c)->s.h.get o' = some x'->μ o' = some (.at_ p')->Off (.slice A m c) p'.blk
 wf:∀ o,s.nx <= o->s.h.get o = none
def FzR (μ:Mu) (s:St) (w:World):Prop:=∀ b i v,μ.fz b i = some v->b < w.heap.size/\w.cell? ⟨b,i,none⟩ = some v/\∀ o x p,s.h.get o = some x->μ o = some (.at_ p)->p.blk ≠ b
structure Rel (μ:Mu) (s:St) (w:World):Prop extends Rel0 μ s w where
 fz:FzR μ s w

structure Stp (μ:Mu) (s:St) (w:World) (μ':Mu) (s':St) (w':World):Prop where
 sub:Sub μ μ'
 dom:∀ o,μ o = none->μ' o ≠ none->s.nx <= o/\o < s'.nx
 nx:s.nx <= s'.nx
 os:w'.os = w.os
 tape:w'.tape = w.tape
 output:w'.output = w.output
 size:w.heap.size <= w'.heap.size
 blk:∀ g,g < w.heap.size->(∀ o x p,s.h.get o = some x->μ o = some (.at_ p)->p.blk ≠ g)->w'.heap[g]? = w.heap[g]?
 own:∀ o x p,s'.h.get o = some x->μ' o = some (.at_ p)->w.heap.size <= p.blk ∨ ∃ o0 x0 p0,s.h.get o0 = some x0/\μ o0 = some (.at_ p0)/\p0.blk = p.blk
 keep:∀ o,μ o = none->o < s.nx->s'.h.get o = s.h.get o
 fz:∀ b i v,μ'.fz b i = some v->μ.fz b i = some v ∨ w.heap.size <= b ∨ (∃ o x p,s.h.get o = some x/\μ o = some (.at_ p)/\p.blk = b) ∨ noDig v = false
theorem fz_step {μ μ':Mu} {s s':St} {w w':World} (h:Rel μ s w) (t:Stp μ s w μ' s' w') (e:μ'.fz = μ.fz):FzR μ' s' w':=by
 intro b i v hv
 rw [e] at hv
 obtain ⟨h1,h2,h3⟩:=h.fz b i v hv
 refine ⟨Nat.lt_of_lt_of_le h1 t.size,?_,fun o x p e1 e2=>?_⟩
 ·rw [<- h2]
  exact World.cell?_of_block (w:=w) (t.blk b h1 h3)
 rcases t.own o x p e1 e2 with h4 | ⟨o0,x0,p0,g1,g2,g3⟩
 ·omega
 rw [<- g3]; exact h3 o0 x0 p0 g1 g2
theorem pair_up {μ μ':Mu} {s s':St} {w w':World} (h:Rel μ s w) (e:μ'.fz = μ.fz) (k:Rel0 μ' s' w'/\Stp μ s w μ' s' w'):Rel μ' s' w'/\Stp μ s w μ' s' w':=⟨⟨k.1,fz_step h k.2 e⟩,k.2⟩
theorem Stp.refl (μ:Mu) (s:St) (w:World):Stp μ s w μ s w :=
 ⟨Sub.refl μ,fun _ h h'=>absurd h h',Nat.le_refl _,rfl,rfl,rfl,Nat.le_refl _,fun _ _ _=>rfl,fun o x p h h'=>.inr ⟨o,x,p,h,h',rfl⟩,fun _ _ _=>rfl,fun _ _ _ h=>.inl h⟩
theorem Stp.trans {a b c:Mu} {s t u:St} {w v z:World} (h:Stp a s w b t v) (k:Stp b t v c u z):Stp a s w c u z:=by
 refine ⟨h.sub.trans k.sub,fun o h1 h2=>?_,Nat.le_trans h.nx k.nx,k.os.trans h.os,k.tape.trans h.tape,k.output.trans h.output,Nat.le_trans h.size k.size,fun g hg hn=>?_,fun o x p e1 e2=>?_,fun o h1 h2=>?_,fun b' i v hv=>?_⟩
 ·by_cases e:b o = none
  ·have:=k.dom o e h2
   have:=h.nx
   omega
  have:=h.dom o h1 e
  have:=k.nx
  omega
 ·exact (k.blk g (Nat.lt_of_lt_of_le hg h.size) fun o x p e1 e2=>by
   rcases h.own o x p e1 e2 with h1 | ⟨o0,x0,p0,h1,h2,h3⟩
   ·omega
   ·rw [<- h3]; exact hn o0 x0 p0 h1 h2).trans (h.blk g hg hn)
 ·rcases k.own o x p e1 e2 with h1 | ⟨o0,x0,p0,h1,h2,h3⟩
  ·exact .inl (Nat.le_trans h.size h1)
  rw [<- h3]; exact h.own o0 x0 p0 h1 h2
 ·exact (k.keep o (by
   cases e:b o with
   | none=>rfl
   | some l=>have:=h.dom o h1 (by rw [e]; simp); omega) (by have:=h.nx; omega)).trans (h.keep o h1 h2)
 rcases k.fz b' i v hv with h1 | h1 | ⟨o,x,p,e1,e2,e3⟩ | h1
 ·exact h.fz b' i v h1
 ·exact .inr (.inl (Nat.le_trans h.size h1))
 ·rcases h.own o x p e1 e2 with h1 | ⟨o0,x0,p0,h1,h2,h3⟩
  ·exact .inr (.inl (by omega))
  exact .inr (.inr (.inl ⟨o0,x0,p0,h1,h2,h3.trans e3⟩))
 exact .inr (.inr (.inr h1))
theorem Stp.drew {μ μ':Mu} {s s':St} {w w':World} (h:Stp μ s w.drew μ' s' w'):Stp μ s w μ' s' w':=⟨h.sub,h.dom,h.nx,h.os,h.tape,h.output,h.size,h.blk,h.own,h.keep,h.fz⟩
theorem Rel.drew {μ:Mu} {s:St} {w:World} (h:Rel μ s w):Rel μ s w.drew:=⟨⟨fun o x e m=>by
  have:=h.obj o x e m
  exact this.keep (Sub.refl μ) (Nat.le_refl _) (fun _ _=>rfl) (fun _ _ _ _ _ _ _ _=>rfl),h.inj,h.nat,h.wf⟩,h.fz⟩

def Mu.with (μ:Mu) (o:Nat) (l:Lc):Mu:=⟨fun k=>if k = o then some l else μ k,μ.fz⟩
theorem Mu.sub_with {μ:Mu} {o:Nat} (l:Lc)(h:μ o = none):Sub μ (μ.with o l):=⟨fun k l' e=>by
 unfold Mu.with
 simp only
 rw [if_neg (fun e2=>by subst e2; rw [h] at e; cases e)]
 exact e,fun _ _ _ e=>e⟩
theorem Mu.with_same (μ:Mu) (o:Nat) (l:Lc):μ.with o l o = some l:=if_pos rfl
theorem Mu.with_ne (μ:Mu) {o k:Nat} (l:Lc)(h:k ≠ o):μ.with o l k = μ k:=if_neg h

theorem heap_new (w:World) (O:Obj):(w.alloc O).heap[w.heap.size]? = some O:=heap_alloc_new w O

theorem Rel.new {μ:Mu} {s:St} {w:World} (h:Rel μ s w)(hn:μ s.nx = none) (O:Obj) (x:AO) (p:Pl)(hp:p.blk = w.heap.size)
  (hx:OR (μ.with s.nx (.at_ p)) (w.alloc O) s.nx x):Rel (μ.with s.nx (.at_ p)) (s.new x) (w.alloc O)/\Stp μ s w (μ.with s.nx (.at_ p)) (s.new x) (w.alloc O):=by
 have hs:=Mu.sub_with (.at_ p) hn
 have hsz:w.heap.size <= (w.alloc O).heap.size:=by simp
 have hold:∀ g,g < w.heap.size->(w.alloc O).heap[g]? = w.heap[g]?:=fun g hg=>Below.heap_alloc w O g hg
 have lt:∀ o x p',s.h.get o = some x->μ o = some (.at_ p')->p'.blk < w.heap.size:=fun o x p' e m=>by
  obtain ⟨b,hb⟩:=(h.obj o x e (by rw [m]; simp)).at_ m
  exact (Array.getElem?_eq_some_iff.1 hb).1
 have ne:∀ o x,s.h.get o = some x->o ≠ s.nx:=fun o x e e2=>by subst e2; rw [h.wf _ (Nat.le_refl _)] at e; cases e
 refine pair_up h rfl ?_
 constructor
 ·refine ⟨fun o y e m=>?_,fun o o' y y' q q' e1 e2 m1 m2 hb=>?_,fun o n A m c o' x' p' e1 m1 e2 m2=>?_,fun o ho=>?_⟩
  ·simp only [St.new,Tr.get_set] at e
   split at e
   ·next e2=>subst e2; cases e; exact hx
   next e2 =>
   rw [Mu.with_ne _ _ e2] at m
   refine (h.obj o y e m).keep hs hsz (fun q hq=>hold _ (lt o y q e hq)) (fun A m' c hq ad hA hm hlt=>hold _ hlt)
  ·simp only [St.new,Tr.get_set] at e1 e2
   split at e1 <;> split at e2
   ·next a b=>rw [a,b]
   ·next a b =>
    subst a
    rw [Mu.with_same] at m1
    cases m1
    rw [Mu.with_ne _ _ b] at m2
    have:=lt _ _ _ e2 m2
    omega
   ·next a b =>
    subst b
    rw [Mu.with_same] at m2
    cases m2
    rw [Mu.with_ne _ _ a] at m1
    have:=lt _ _ _ e1 m1
    omega
   next a b =>
   rw [Mu.with_ne _ _ a] at m1
   rw [Mu.with_ne _ _ b] at m2
   exact h.inj o o' y y' q q' e1 e2 m1 m2 hb
  ·simp only [St.new,Tr.get_set] at e1 e2
   split at e1
   ·next a=>subst a; rw [Mu.with_same] at m1; cases m1
   next a =>
   rw [Mu.with_ne _ _ a] at m1
   split at e2
   ·next b =>
    subst b
    rw [Mu.with_same] at m2
    cases m2
    have hv:=h.obj o _ e1 (by rw [m1]; simp)
    simp only [OR] at hv
    obtain ⟨A',m',c',h1,h2⟩:=hv
    rw [m1] at h1
    cases h1
    intro ad n' c'' e hpos
    cases e
    obtain ⟨l,⟨⟨_,A'',c2,e3,_,_,h4⟩,_⟩,_⟩:=h2
    cases e3
    obtain ⟨b,off,e4,hlt,_⟩:=h4 hpos
    cases e4
    simp only
    omega
   next b =>
   rw [Mu.with_ne _ _ b] at m2
   exact h.nat o n A m c o' x' p' e1 m1 e2 m2
  have h1:s.nx + 1 <= o:=ho
  simp only [St.new]
  rw [Tr.get_set_ne _ _ (by omega)]
  exact h.wf o (by omega)
 refine ⟨hs,fun o h1 h2=>?_,by simp [St.new],rfl,rfl,rfl,hsz,fun g hg _=>hold g hg,fun o y q e1 m1=>?_,fun o _ h2=>by simp only [St.new]; exact Tr.get_set_ne _ _ (by omega),fun _ _ _ h=>.inl h⟩
 ·by_cases e:o = s.nx
  ·subst e; simp [St.new]
  rw [Mu.with_ne _ _ e] at h2; exact absurd h1 h2
 simp only [St.new,Tr.get_set] at e1
 split at e1
 ·next a=>subst a; rw [Mu.with_same] at m1; cases m1; left; omega
 next a=>rw [Mu.with_ne _ _ a] at m1; right; exact ⟨o,y,q,e1,m1,rfl⟩

theorem Rel.turn {μ:Mu} {s:St} {w w':World} (h:Rel μ s w) {o:Nat} {p:Pl} {x0:AO} (h0:s.h.get o = some x0)(hm:μ o = some (.at_ p)) (x:AO)
  (hos:w'.os = w.os)(htp:w'.tape = w.tape)(hou:w'.output = w.output)(hsz:w'.heap.size = w.heap.size)
  (hb:∀ g,g ≠ p.blk->w'.heap[g]? = w.heap[g]?)(hx:OR μ w' o x)(hn:∀ n,x ≠ .nat n):Rel μ (s.set o x) w'/\Stp μ s w μ (s.set o x) w':=by
 refine pair_up h rfl ?_
 constructor
 ·refine ⟨fun o' y e m=>?_,fun o1 o2 y y' q q' e1 e2 m1 m2 hbb=>?_,fun o1 n A m c o' x' p' e1 m1 e2 m2=>?_,fun o1 ho=>?_⟩
  ·simp only [St.set,Tr.get_set] at e
   split at e
   ·next e2=>subst e2; cases e; exact hx
   next e2 =>
   refine (h.obj o' y e m).keep (Sub.refl μ) (by omega) (fun q hq=>hb _ fun e3=>e2 (h.inj o' o y x0 q p e h0 hq hm e3)) (fun A m' c hq ad hA hm' hlt=>hb _ ?_)
   subst hA
   obtain ⟨n,rfl⟩:=(h.obj o' y e m).val hq
   exact h.nat o' n _ m' c o x0 p e hq h0 hm ad m' c rfl hm'
  ·simp only [St.set,Tr.get_set] at e1 e2
   split at e1 <;> split at e2
   ·next a b=>rw [a,b]
   ·next a b=>subst a; exact h.inj _ _ _ _ q q' h0 e2 m1 m2 hbb
   ·next a b=>subst b; exact h.inj _ _ _ _ q q' e1 h0 m1 m2 hbb
   exact h.inj _ _ _ _ q q' e1 e2 m1 m2 hbb
  ·simp only [St.set,Tr.get_set] at e1 e2
   split at e1
   ·next a=>cases e1; exact absurd rfl (hn n)
   split at e2
   ·next b=>subst b; exact h.nat o1 n A m c _ _ p' e1 m1 h0 m2
   exact h.nat o1 n A m c _ _ p' e1 m1 e2 m2
  simp only [St.set]
  rw [Tr.get_set_ne _ _ (fun e=>by subst e; rw [h.wf _ ho] at h0; cases h0)]
  exact h.wf o1 ho
 refine ⟨Sub.refl μ,fun o h1 h2=>absurd h1 h2,Nat.le_refl _,hos,htp,hou,by omega,fun g _ hg=>hb g fun e=>hg o x0 p h0 hm e.symm,fun o' y q e1 m1=>?_,fun o' h1 _=>by simp only [St.set]; exact Tr.get_set_ne _ _ (fun e=>by subst e; rw [hm] at h1; cases h1),fun _ _ _ h=>.inl h⟩
 simp only [St.set,Tr.get_set] at e1
 split at e1
 ·next a=>subst a; right; exact ⟨o',x0,q,h0,m1,rfl⟩
 right; exact ⟨o',y,q,e1,m1,rfl⟩
theorem Rel.less {μ:Mu} {s:St} {w:World} (h:Rel μ s w) (h':Tr AO) (nx:Nat)(hs:∀ o x,h'.get o = some x->s.h.get o = some x)(hx:∀ o,nx <= o->h'.get o = none):Rel μ ⟨h',nx⟩ w :=
 ⟨⟨fun o x e m=>h.obj o x (hs o x e) m,fun o o' x x' p p' e e'=>h.inj o o' x x' p p' (hs _ _ e) (hs _ _ e'),fun o n A m c o' x' p' e m1 e'=>h.nat o n A m c o' x' p' (hs _ _ e) m1 (hs _ _ e'),hx⟩,
  fun b i v hv=>let ⟨h1,h2,h3⟩:=h.fz b i v hv; ⟨h1,h2,fun o x p e=>h3 o x p (hs _ _ e)⟩⟩
theorem Rel.drop {μ:Mu} {s:St} {w:World} (h:Rel μ s w) (k:Nat):Rel μ (s.drop k) w :=
 h.less _ _ (fun o x e=>by rw [Tr.get_set] at e; split at e <;> simp_all) (fun o ho=>by rw [Tr.get_set]; split; rfl; exact h.wf o ho)
theorem Stp.drop (μ:Mu) (s:St) (w:World) (k:Nat)(hk:μ k ≠ none):Stp μ s w μ (s.drop k) w :=
 ⟨Sub.refl μ,fun _ h h'=>absurd h h',Nat.le_refl _,rfl,rfl,rfl,Nat.le_refl _,fun _ _ _=>rfl,
  fun o x p h h'=>.inr ⟨o,x,p,by simp only [St.drop,Tr.get_set] at h; split at h <;> simp_all,h',rfl⟩,
  fun o h1 _=>by simp only [St.drop]; exact Tr.get_set_ne _ _ (fun e=>hk (e ▸ h1)),fun _ _ _ h=>.inl h⟩
end Go.Proofs.YtdehimgccmbfkaaGreat
