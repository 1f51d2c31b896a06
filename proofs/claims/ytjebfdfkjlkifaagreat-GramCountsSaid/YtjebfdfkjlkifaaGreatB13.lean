/- Lemmas on the way: Ref14. -/
import Derived.Test.YtjebfdfkjlkifaaGreatB12
import Derived.Test.YtjebfdfkjlkifaaGreatB09
/- earshotref01: Canon, Neg, Inverse, Mul, Of, Make, Sign. (printed by gen_ref14.py) -/
namespace Go.Proofs.YtjebfdfkjlkifaaGreat
open Go.RowKit

theorem bcomp {w w1 w2 : World} (h1 : Below w.heap.size w w1) (h2 : Below w1.heap.size w1 w2) : Below w.heap.size w w2 := h1.trans (h2.mono h1.size)

theorem trimB (w : World) (v : Value) (l : List Nat) (hd : DigAt w v l) :
    Calls Tryz.prog 98 #[v] w fun e w' => ∃ v', e = .returned v' ∧ NatAt w' v' (val l) ∧ Below w.heap.size w w' := by
  refine (trimR w v l hd).mono ?_
  rintro e w1 ⟨hw, v', rfl, h1, _⟩
  cases hw
  exact ⟨v', rfl, h1, Below.refl _ _⟩

theorem three_box3 {w : World} {g B : Nat} {a b c : Value}
    (h : w.cell? ⟨g, 0, none⟩ = some a ∧ w.cell? ⟨g, 1, none⟩ = some b ∧ w.cell? ⟨g, 2, none⟩ = some c) (hg : g ≠ B) (u0 u1 u2 : Value) :
    (((w.setCell ⟨B, 0, none⟩ u0).setCell ⟨B, 1, none⟩ u1).setCell ⟨B, 2, none⟩ u2).cell? ⟨g, 0, none⟩ = some a ∧ (((w.setCell ⟨B, 0, none⟩ u0).setCell ⟨B, 1, none⟩ u1).setCell ⟨B, 2, none⟩ u2).cell? ⟨g, 1, none⟩ = some b ∧ (((w.setCell ⟨B, 0, none⟩ u0).setCell ⟨B, 1, none⟩ u1).setCell ⟨B, 2, none⟩ u2).cell? ⟨g, 2, none⟩ = some c :=
  ⟨cell_box3 h.1 hg _ _ _, cell_box3 h.2.1 hg _ _ _, cell_box3 h.2.2 hg _ _ _⟩

theorem NatAt.digs {w : World} {v : Value} {n : Nat} (h : NatAt w v n) : ∃ l, DigAt w v l ∧ val l = n := by
  obtain ⟨l, d, _, e⟩ := h
  exact ⟨l, d, e⟩

theorem make1N (w : World) (neg : Bool) (vn vd : Value) (n d k : Nat) (hn : NatAt w vn n) (hd : NatAt w vd d) (qn : n < 2 ^ k) (qd : d < 2 ^ k) (d0 : 0 < d) (h0 : 0 < k) (hk : k ≤ 17592186044416) :
    Calls Tryz.prog 94 #[.bool neg, vn, vd] w fun e w' => ∃ v', e = .returned v' ∧ CanNew w.heap.size w' v' (mkRat (sgn neg n) d) ∧ Below w.heap.size w w' := by
  obtain ⟨ln, dn, rfl⟩ := hn.digs
  obtain ⟨ld, dd, rfl⟩ := hd.digs
  refine (make1R w neg vn vd ln ld k dn dd qn qd h0 hk).mono ?_
  unfold fracVal
  rw [if_neg (by omega)]
  exact fun _ _ h => h

/-- The parts of a Frac, as they are used. -/
theorem FracAt.parts {k : Nat} {w : World} {v : Value} {q : Rat} (h : FracAt k w v q) (h0 : 0 < k) : ∃ s vn vd ln ld n d, v = .agg #[.bool s, vn, vd] ∧ DigAt w vn ln ∧ DigAt w vd ld ∧ val ln = n ∧ (if val ld = 0 then 1 else val ld) = d ∧ q = mkRat (sgn s n) d ∧ n < 2 ^ k ∧ d < 2 ^ k ∧ 0 < d ∧ val ld < 2 ^ k := by
  obtain ⟨s, vn, vd, ln, ld, rfl, h1, h2, h3, h4, h5, _, _⟩ := h
  have := Nat.one_lt_two_pow (n := k) (by omega)
  exact ⟨s, vn, vd, ln, ld, _, _, rfl, h1, h2, rfl, rfl, h3, h4, by split <;> omega, by split <;> omega, h5⟩

theorem sgn_not (s : Bool) (n : Nat) : sgn (!s) n = - sgn s n := by cases s <;> simp [sgn]
theorem neg_parts (s : Bool) (n d : Nat) : -(mkRat (sgn s n) d) = mkRat (sgn (!s) n) d := by rw [sgn_not, Rat.neg_mkRat]
theorem mul_parts (s t : Bool) (a b c d : Nat) : mkRat (sgn s a) b * mkRat (sgn t c) d = mkRat (sgn (s != t) (a * c)) (b * d) := by
  rw [Rat.mkRat_mul_mkRat]
  congr 1
  unfold sgn
  cases s <;> cases t <;> simp [Int.natCast_mul, Int.neg_mul, Int.mul_neg]
theorem inv_parts (s : Bool) {a : Nat} (b : Nat) (ha : a ≠ 0) : (mkRat (sgn s a) b)⁻¹ = mkRat (sgn s b) a := by
  by_cases hb : b = 0
  · subst hb
    have e : sgn s 0 = 0 := by cases s <;> simp [sgn]
    rw [e]
    simp
  have h1 : mkRat (sgn s a) b * mkRat (sgn s b) a = 1 := by
    rw [mul_parts, Nat.mul_comm b a]
    have e : (s != s) = false := by cases s <;> rfl
    rw [e]
    simp only [sgn]
    exact ((Rat.mkRat_eq_iff (n₁ := ((a * b : Nat) : Int)) (n₂ := 1) (d₁ := a * b) (d₂ := 1) (by have := Nat.mul_pos (Nat.pos_of_ne_zero ha) (Nat.pos_of_ne_zero hb); omega) (by omega)).2 (by omega)).trans rfl
  have h2 : mkRat (sgn s a) b ≠ 0 := fun e => by rw [e, Rat.zero_mul] at h1; exact absurd h1 (by decide)
  calc (mkRat (sgn s a) b)⁻¹ = (mkRat (sgn s a) b)⁻¹ * (mkRat (sgn s a) b * mkRat (sgn s b) a) := by rw [h1, Rat.mul_one]
    _ = mkRat (sgn s b) a := by rw [← Rat.mul_assoc, Rat.inv_mul_cancel _ h2, Rat.one_mul]
theorem num_zero_parts (s : Bool) {a b : Nat} (hb : b ≠ 0) : mkRat (sgn s a) b = 0 ↔ a = 0 := by
  rw [Rat.mkRat_eq_zero hb]
  cases s <;> simp [sgn]

set_option maxRecDepth 1000000 in
set_option maxHeartbeats 1000000 in
theorem lowD (w : World) (s vn vd : Value) (ld : List Nat) (d : Nat) (hd : DigAt w vd ld) (e0 : (if val ld = 0 then 1 else val ld) = d) :
    Calls Tryz.prog 99 #[.agg #[s, vn, vd]] w fun e w' => ∃ v', e = .returned v' ∧ NatAt w' v' d ∧ Below w.heap.size w w' := by
  have HD := Lib.hid hd
  have HE := Lib.hid e0
  clear hd e0
  go_enter Tryz.func99, Tryz.ntmps99
  go_wp2_with fail
  obtain ⟨W, hW⟩ : ∃ W, W = (w.alloc (.cells #[s, vn, vd] 40)) := ⟨_, rfl⟩
  have P0 : Hid (Blk W (w.heap.size) 40 [s, vn, vd]) := Lib.hid (by
    rw [hW]
    have := (Blk.new w 40 [s, vn, vd])
    try simp only [World.size_alloc] at this
    exact this)
  have PB : Hid (Below w.heap.size w W) := Lib.hid (by rw [hW]; exact ((Below.refl _ w).alloc (by first | exact Nat.le_refl _ | (simp only [World.size_alloc]; omega)) _))
  have Phs : w.heap.size + 1 ≤ W.heap.size := by rw [hW]; simp only [World.size_alloc]; omega
  rw [← hW]
  clear hW
  obtain ⟨p0, p1, p2, _, _, _⟩ := P0.out.three
  go_wp2_with fail
  refine (trimR W vd ld (HD.out.below PB.out)).mono ?_
  rintro e w1 ⟨hw1, v1, rfl, t1, _, _⟩
  cases hw1
  have T1 := Lib.hid t1
  obtain ⟨A, m, c, rfl, hm, hm0⟩ := t1.len
  clear t1
  by_cases h0 : m = 0
  · have hd0 : val ld = 0 := by omega
    subst h0
    have HX : Hid (d = 1) := Lib.hid (by rw [← HE.out, if_pos hd0])
    clear hm0 hd0
    go_wp2_with fail
    go_ret
    refine ⟨_, rfl, ⟨[1], ⟨?_, Ok.cons.2 ⟨by omega, Ok.nil⟩⟩, by simp [Trim], by rw [HX.out]; rfl⟩, PB.out.alloc (by omega) _⟩
    exact Sl.one _ _ _
  · have hz : ((m : Int) == 0) = false := by simp; omega
    have HX : Hid (val ld = d) := Lib.hid (by rw [← HE.out, if_neg (by omega)])
    clear hm0
    go_wp2_with fail
    go_ret
    exact ⟨_, rfl, by rw [← HX.out]; exact T1.out, PB.out⟩

set_option maxRecDepth 1000000 in
set_option maxHeartbeats 1000000 in
theorem canonR (w : World) (v : Value) (q : Rat) (k : Nat) (h : FracAt k w v q) (h0 : 0 < k) (hk : k ≤ 17592186044416) :
    Calls Tryz.prog 154 #[v] w fun e w' => ∃ v', e = .returned v' ∧ CanNew w.heap.size w' v' (q) ∧ Below w.heap.size w w' := by
  obtain ⟨s, vn, vd, ln, ld, n, d, rfl, h1, h2, h3, h4, h5, h6, h7, h8, h9⟩ := h.parts h0
  have H1 := Lib.hid h1
  have H2 := Lib.hid h2
  have H3 := Lib.hid h3
  have H4 := Lib.hid h4
  have H5 := Lib.hid h5
  have H6 := Lib.hid h6
  have H7 := Lib.hid h7
  have H8 := Lib.hid h8
  have H9 := Lib.hid h9
  clear h h1 h2 h3 h4 h5 h6 h7 h8 h9
  have HQ : Hid (q = fracVal s (val ln) (val ld)) := Lib.hid (by rw [H5.out, ← H4.out, ← H3.out]; rfl)
  rw [HQ.out]
  go_enter Tryz.func154, Tryz.ntmps154
  go_wp2_with fail
  obtain ⟨W, hW⟩ : ∃ W, W = ((w.alloc (.cells #[.bool s, vn, vd] 40)).alloc (.cells #[.bool false, .slice none 0 0, .slice none 0 0] 40)) := ⟨_, rfl⟩
  have P0 : Hid (Blk W (w.heap.size) 40 [.bool s, vn, vd]) := Lib.hid (by
    rw [hW]
    have := (Blk.new w 40 [.bool s, vn, vd])
    try simp only [World.size_alloc] at this
    exact (this.alloc _))
  have P1 : Hid (Blk W (w.heap.size + 1) 40 [.bool false, .slice none 0 0, .slice none 0 0]) := Lib.hid (by
    rw [hW]
    have := (Blk.new (w.alloc (.cells #[.bool s, vn, vd] 40)) 40 [.bool false, .slice none 0 0, .slice none 0 0])
    try simp only [World.size_alloc] at this
    exact this)
  have PB : Hid (Below w.heap.size w W) := Lib.hid (by rw [hW]; exact (((Below.refl _ w).alloc (by first | exact Nat.le_refl _ | (simp only [World.size_alloc]; omega)) _).alloc (by first | exact Nat.le_refl _ | (simp only [World.size_alloc]; omega)) _))
  have Phs : w.heap.size + 2 ≤ W.heap.size := by rw [hW]; simp only [World.size_alloc]; omega
  rw [← hW]
  clear hW
  obtain ⟨p0, p1, p2, _, _, _⟩ := P0.out.three
  go_wp2_with fail
  refine (make1R W s _ _ ln ld k (H1.out.below PB.out) (H2.out.below PB.out) (by rw [H3.out]; exact H6.out) H9.out h0 hk).mono ?_
  rintro e w1 ⟨v1, rfl, t1, hb1⟩
  have T1 := Lib.hid t1
  have S1 : Hid (Below W.heap.size W w1) := Lib.hid hb1
  have hs1 : W.heap.size ≤ w1.heap.size := hb1.size
  obtain ⟨A, m, c, A', m', c', rfl, ta, tb, tc, td⟩ := t1.open_
  obtain ⟨r0, r1, r2, z0, z1, z2⟩ := (P1.out.below' S1.out).three
  have TA := Lib.hid ta
  have TB := Lib.hid tb
  have TC := Lib.hid tc
  have TD := Lib.hid td
  clear ta tb tc td
  clear t1 hb1
  go_wp2_with fail
  refine bodyPost_ret (v := .agg #[.bool (isNeg (fracVal s (val ln) (val ld))), .slice A m c, .slice A' m' c']) (by simp [results, Tryz.results154, go_sem, r0, r1, r2]) rfl ⟨_, rfl, ?_, below_box3 (PB.out.trans ((S1.out).mono (by omega))) (by omega) _ _ _⟩
  exact (CanNew.box3 TA.out TB.out TC.out TD.out (by omega) _ _ _).mono (by omega)

set_option maxRecDepth 1000000 in
set_option maxHeartbeats 1000000 in
theorem negR (w : World) (v : Value) (q : Rat) (k : Nat) (h : FracAt k w v q) (h0 : 0 < k) (hk : k ≤ 17592186044416) :
    Calls Tryz.prog 93 #[v] w fun e w' => ∃ v', e = .returned v' ∧ CanNew w.heap.size w' v' (-q) ∧ Below w.heap.size w w' := by
  obtain ⟨s, vn, vd, ln, ld, n, d, rfl, h1, h2, h3, h4, h5, h6, h7, h8, h9⟩ := h.parts h0
  have H1 := Lib.hid h1
  have H2 := Lib.hid h2
  have H3 := Lib.hid h3
  have H4 := Lib.hid h4
  have H5 := Lib.hid h5
  have H6 := Lib.hid h6
  have H7 := Lib.hid h7
  have H8 := Lib.hid h8
  have H9 := Lib.hid h9
  clear h h1 h2 h3 h4 h5 h6 h7 h8 h9
  have HQ : Hid (-q = fracVal (!s) (val ln) (val ld)) := Lib.hid (by rw [H5.out, neg_parts, ← H4.out, ← H3.out]; rfl)
  rw [HQ.out]
  go_enter Tryz.func93, Tryz.ntmps93
  go_wp2_with fail
  obtain ⟨W, hW⟩ : ∃ W, W = ((w.alloc (.cells #[.bool s, vn, vd] 40)).alloc (.cells #[.bool false, .slice none 0 0, .slice none 0 0] 40)) := ⟨_, rfl⟩
  have P0 : Hid (Blk W (w.heap.size) 40 [.bool s, vn, vd]) := Lib.hid (by
    rw [hW]
    have := (Blk.new w 40 [.bool s, vn, vd])
    try simp only [World.size_alloc] at this
    exact (this.alloc _))
  have P1 : Hid (Blk W (w.heap.size + 1) 40 [.bool false, .slice none 0 0, .slice none 0 0]) := Lib.hid (by
    rw [hW]
    have := (Blk.new (w.alloc (.cells #[.bool s, vn, vd] 40)) 40 [.bool false, .slice none 0 0, .slice none 0 0])
    try simp only [World.size_alloc] at this
    exact this)
  have PB : Hid (Below w.heap.size w W) := Lib.hid (by rw [hW]; exact (((Below.refl _ w).alloc (by first | exact Nat.le_refl _ | (simp only [World.size_alloc]; omega)) _).alloc (by first | exact Nat.le_refl _ | (simp only [World.size_alloc]; omega)) _))
  have Phs : w.heap.size + 2 ≤ W.heap.size := by rw [hW]; simp only [World.size_alloc]; omega
  rw [← hW]
  clear hW
  obtain ⟨p0, p1, p2, _, _, _⟩ := P0.out.three
  go_wp2_with fail
  refine (make1R W (!s) _ _ ln ld k (H1.out.below PB.out) (H2.out.below PB.out) (by rw [H3.out]; exact H6.out) H9.out h0 hk).mono ?_
  rintro e w1 ⟨v1, rfl, t1, hb1⟩
  have T1 := Lib.hid t1
  have S1 : Hid (Below W.heap.size W w1) := Lib.hid hb1
  have hs1 : W.heap.size ≤ w1.heap.size := hb1.size
  obtain ⟨A, m, c, A', m', c', rfl, ta, tb, tc, td⟩ := t1.open_
  obtain ⟨r0, r1, r2, z0, z1, z2⟩ := (P1.out.below' S1.out).three
  have TA := Lib.hid ta
  have TB := Lib.hid tb
  have TC := Lib.hid tc
  have TD := Lib.hid td
  clear ta tb tc td
  clear t1 hb1
  go_wp2_with fail
  refine bodyPost_ret (v := .agg #[.bool (isNeg (fracVal (!s) (val ln) (val ld))), .slice A m c, .slice A' m' c']) (by simp [results, Tryz.results93, go_sem, r0, r1, r2]) rfl ⟨_, rfl, ?_, below_box3 (PB.out.trans ((S1.out).mono (by omega))) (by omega) _ _ _⟩
  exact (CanNew.box3 TA.out TB.out TC.out TD.out (by omega) _ _ _).mono (by omega)

set_option maxRecDepth 1000000 in
set_option maxHeartbeats 1000000 in
theorem inverseR (w : World) (v : Value) (q : Rat) (k : Nat) (h : FracAt k w v q) (h0 : 0 < k) (hk : k ≤ 17592186044416) (hq : q ≠ 0) :
    Calls Tryz.prog 92 #[v] w fun e w' => ∃ v', e = .returned v' ∧ CanNew w.heap.size w' v' (q⁻¹) ∧ Below w.heap.size w w' := by
  obtain ⟨s, vn, vd, ln, ld, n, d, rfl, h1, h2, h3, h4, h5, h6, h7, h8, h9⟩ := h.parts h0
  have H1 := Lib.hid h1
  have H2 := Lib.hid h2
  have H3 := Lib.hid h3
  have H4 := Lib.hid h4
  have H5 := Lib.hid h5
  have H6 := Lib.hid h6
  have H7 := Lib.hid h7
  have H8 := Lib.hid h8
  have H9 := Lib.hid h9
  clear h h1 h2 h3 h4 h5 h6 h7 h8 h9
  have HN0 : Hid (n ≠ 0) := Lib.hid (fun e => hq (by rw [H5.out, num_zero_parts s (by have := H8.out; omega)]; exact e))
  have HQ : Hid (q⁻¹ = mkRat (sgn s d) n) := Lib.hid (by rw [H5.out, inv_parts s d HN0.out])
  clear hq
  rw [HQ.out]
  go_enter Tryz.func92, Tryz.ntmps92
  go_wp2_with fail
  obtain ⟨W, hW⟩ : ∃ W, W = ((w.alloc (.cells #[.bool s, vn, vd] 40)).alloc (.cells #[.bool false, .slice none 0 0, .slice none 0 0] 40)) := ⟨_, rfl⟩
  have P0 : Hid (Blk W (w.heap.size) 40 [.bool s, vn, vd]) := Lib.hid (by
    rw [hW]
    have := (Blk.new w 40 [.bool s, vn, vd])
    try simp only [World.size_alloc] at this
    exact (this.alloc _))
  have P1 : Hid (Blk W (w.heap.size + 1) 40 [.bool false, .slice none 0 0, .slice none 0 0]) := Lib.hid (by
    rw [hW]
    have := (Blk.new (w.alloc (.cells #[.bool s, vn, vd] 40)) 40 [.bool false, .slice none 0 0, .slice none 0 0])
    try simp only [World.size_alloc] at this
    exact this)
  have PB : Hid (Below w.heap.size w W) := Lib.hid (by rw [hW]; exact (((Below.refl _ w).alloc (by first | exact Nat.le_refl _ | (simp only [World.size_alloc]; omega)) _).alloc (by first | exact Nat.le_refl _ | (simp only [World.size_alloc]; omega)) _))
  have Phs : w.heap.size + 2 ≤ W.heap.size := by rw [hW]; simp only [World.size_alloc]; omega
  rw [← hW]
  clear hW
  obtain ⟨p0, p1, p2, _, _, _⟩ := P0.out.three
  go_region_held3 (fun w' => w'.cell? ⟨w.heap.size, 0, none⟩ = some (.bool s) ∧ w'.cell? ⟨w.heap.size, 1, none⟩ = some (vn) ∧ w'.cell? ⟨w.heap.size, 2, none⟩ = some (vd)) (first | assumption | (refine three_box3 hS ?_ _ _ _ <;> omega) | go_keep)
    (first
      | (go_at_call 99; refine (lowD _ _ _ _ ld d (H2.out.below (PB.out.trans (below_drew_self _))) H4.out).mono ?_; rintro e w1 ⟨v1, rfl, t1, hb1⟩; have S1 : Hid (Below W.heap.size W w1) := Lib.hid (by first | exact hb1 | exact below_of_drew hb1); have hs1 : W.heap.size ≤ w1.heap.size := S1.out.size; have T1 := Lib.hid t1; have hS := And.intro (P0.out.below' S1.out).three.1 (And.intro (P0.out.below' S1.out).three.2.1 (P0.out.below' S1.out).three.2.2.1); clear t1 hb1)
      | (go_at_call 98; refine (trimB w1 _ ln ((H1.out.below PB.out).below S1.out)).mono ?_; rintro e w2 ⟨v2, rfl, t2, hb2⟩; have S2 : Hid (Below w1.heap.size w1 w2) := Lib.hid hb2; have hs2 : w1.heap.size ≤ w2.heap.size := S2.out.size; have T2 := Lib.hid t2; have hS := And.intro (P0.out.below' (bcomp S1.out S2.out)).three.1 (And.intro (P0.out.below' (bcomp S1.out S2.out)).three.2.1 (P0.out.below' (bcomp S1.out S2.out)).three.2.2.1); clear t2 hb2)
      | (go_at_call 94; refine (make1N w2 s _ _ d n k (T1.out.below S2.out) (by have := T2.out; rwa [H3.out] at this) H7.out H6.out (by have := HN0.out; omega) h0 hk).mono ?_; rintro e w3 ⟨v3, rfl, t3, hb3⟩; have S3 : Hid (Below w2.heap.size w2 w3) := Lib.hid hb3; have hs3 : w2.heap.size ≤ w3.heap.size := S3.out.size; have T3 := Lib.hid t3; have hS := And.intro (P0.out.below' (bcomp (bcomp S1.out S2.out) S3.out)).three.1 (And.intro (P0.out.below' (bcomp (bcomp S1.out S2.out) S3.out)).three.2.1 (P0.out.below' (bcomp (bcomp S1.out S2.out) S3.out)).three.2.2.1); obtain ⟨A, m, c, A', m', c', rfl, ta, tb, tc, td⟩ := t3.open_; obtain ⟨r0, r1, r2, z0, z1, z2⟩ := (P1.out.below' (bcomp (bcomp S1.out S2.out) S3.out)).three; have TA := Lib.hid ta; have TB := Lib.hid tb; have TC := Lib.hid tc; have TD := Lib.hid td; clear ta tb tc td; clear t3 hb3))
  go_wp2_with fail
  refine bodyPost_ret (v := .agg #[.bool (isNeg (mkRat (sgn s d) n)), .slice A m c, .slice A' m' c']) (by simp [results, Tryz.results92, go_sem, r0, r1, r2]) rfl ⟨_, rfl, ?_, below_box3 (PB.out.trans (((bcomp (bcomp S1.out S2.out) S3.out)).mono (by omega))) (by omega) _ _ _⟩
  exact (CanNew.box3 TA.out TB.out TC.out TD.out (by omega) _ _ _).mono (by omega)

set_option maxRecDepth 1000000 in
set_option maxHeartbeats 1000000 in
theorem mulR (w : World) (v v' : Value) (q r : Rat) (k : Nat) (h : FracAt k w v q) (h' : FracAt k w v' r) (h0 : 0 < k) (hk : k ≤ 549755813888) :
    Calls Tryz.prog 91 #[v, v'] w fun e w' => ∃ u, e = .returned u ∧ CanNew w.heap.size w' u (q * r) ∧ Below w.heap.size w w' := by
  obtain ⟨s, vn, vd, ln, ld, n, d, rfl, h1, h2, h3, h4, h5, h6, h7, h8, h9⟩ := h.parts h0
  have H1 := Lib.hid h1
  have H2 := Lib.hid h2
  have H3 := Lib.hid h3
  have H4 := Lib.hid h4
  have H5 := Lib.hid h5
  have H6 := Lib.hid h6
  have H7 := Lib.hid h7
  have H8 := Lib.hid h8
  have H9 := Lib.hid h9
  clear h h1 h2 h3 h4 h5 h6 h7 h8 h9
  obtain ⟨t, vn', vd', ln', ld', n', d', rfl, h1, h2, h3, h4, h5, h6, h7, h8, h9⟩ := h'.parts h0
  have G1 := Lib.hid h1
  have G2 := Lib.hid h2
  have G3 := Lib.hid h3
  have G4 := Lib.hid h4
  have G5 := Lib.hid h5
  have G6 := Lib.hid h6
  have G7 := Lib.hid h7
  have G8 := Lib.hid h8
  have G9 := Lib.hid h9
  clear h' h1 h2 h3 h4 h5 h6 h7 h8 h9
  have HQ : Hid (q * r = mkRat (sgn (s != t) (n * n')) (d * d')) := Lib.hid (by rw [H5.out, G5.out, mul_parts])
  rw [HQ.out]
  go_enter Tryz.func91, Tryz.ntmps91
  go_wp2_with fail
  obtain ⟨W, hW⟩ : ∃ W, W = (((w.alloc (.cells #[.bool s, vn, vd] 40)).alloc (.cells #[.bool t, vn', vd'] 40)).alloc (.cells #[.bool false, .slice none 0 0, .slice none 0 0] 40)) := ⟨_, rfl⟩
  have P0 : Hid (Blk W (w.heap.size) 40 [.bool s, vn, vd]) := Lib.hid (by
    rw [hW]
    have := (Blk.new w 40 [.bool s, vn, vd])
    try simp only [World.size_alloc] at this
    exact ((this.alloc _).alloc _))
  have P1 : Hid (Blk W (w.heap.size + 1) 40 [.bool t, vn', vd']) := Lib.hid (by
    rw [hW]
    have := (Blk.new (w.alloc (.cells #[.bool s, vn, vd] 40)) 40 [.bool t, vn', vd'])
    try simp only [World.size_alloc] at this
    exact (this.alloc _))
  have P2 : Hid (Blk W (w.heap.size + 1 + 1) 40 [.bool false, .slice none 0 0, .slice none 0 0]) := Lib.hid (by
    rw [hW]
    have := (Blk.new ((w.alloc (.cells #[.bool s, vn, vd] 40)).alloc (.cells #[.bool t, vn', vd'] 40)) 40 [.bool false, .slice none 0 0, .slice none 0 0])
    try simp only [World.size_alloc] at this
    exact this)
  have PB : Hid (Below w.heap.size w W) := Lib.hid (by rw [hW]; exact ((((Below.refl _ w).alloc (by first | exact Nat.le_refl _ | (simp only [World.size_alloc]; omega)) _).alloc (by first | exact Nat.le_refl _ | (simp only [World.size_alloc]; omega)) _).alloc (by first | exact Nat.le_refl _ | (simp only [World.size_alloc]; omega)) _))
  have Phs : w.heap.size + 3 ≤ W.heap.size := by rw [hW]; simp only [World.size_alloc]; omega
  rw [← hW]
  clear hW
  obtain ⟨p0, p1, p2, _, _, _⟩ := P0.out.three
  obtain ⟨q0, q1, q2, _, _, _⟩ := P1.out.three
  go_region_held3 (fun w' => w'.cell? ⟨w.heap.size, 0, none⟩ = some (.bool s) ∧ w'.cell? ⟨w.heap.size, 1, none⟩ = some (vn) ∧ w'.cell? ⟨w.heap.size, 2, none⟩ = some (vd) ∧ w'.cell? ⟨w.heap.size + 1, 0, none⟩ = some (.bool t) ∧ w'.cell? ⟨w.heap.size + 1, 1, none⟩ = some (vn') ∧ w'.cell? ⟨w.heap.size + 1, 2, none⟩ = some (vd')) (first | assumption | (refine six_box3 hS ?_ ?_ _ _ _ <;> omega) | go_keep)
    (first
      | (go_at_call_of 98 (vn); refine (trimB _ _ ln (H1.out.below (PB.out.trans (below_drew_self _)))).mono ?_; rintro e w1 ⟨v1, rfl, t1, hb1⟩; have S1 : Hid (Below W.heap.size W w1) := Lib.hid (by first | exact hb1 | exact below_of_drew hb1); have hs1 : W.heap.size ≤ w1.heap.size := S1.out.size; have T1 := Lib.hid t1; have hS := six (P0.out.below' S1.out) (P1.out.below' S1.out); rw [H3.out] at t1; have T1 := Lib.hid t1; clear t1 hb1)
      | (go_at_call_of 98 (vn'); refine (trimB w1 _ ln' ((G1.out.below PB.out).below S1.out)).mono ?_; rintro e w2 ⟨v2, rfl, t2, hb2⟩; have S2 : Hid (Below w1.heap.size w1 w2) := Lib.hid hb2; have hs2 : w1.heap.size ≤ w2.heap.size := S2.out.size; have T2 := Lib.hid t2; have hS := six (P0.out.below' (bcomp S1.out S2.out)) (P1.out.below' (bcomp S1.out S2.out)); rw [G3.out] at t2; have T2 := Lib.hid t2; clear t2 hb2)
      | (go_at_call_of 97 (v1); refine (timesR w2 _ _ n n' k k (T1.out.below S2.out) T2.out H6.out G6.out (by omega) (by omega)).mono ?_; rintro e w3 ⟨v3, rfl, t3, hb3, _⟩; have S3 : Hid (Below w2.heap.size w2 w3) := Lib.hid hb3; have hs3 : w2.heap.size ≤ w3.heap.size := S3.out.size; have T3 := Lib.hid t3; have hS := six (P0.out.below' (bcomp (bcomp S1.out S2.out) S3.out)) (P1.out.below' (bcomp (bcomp S1.out S2.out) S3.out)); clear t3 hb3)
      | (go_at_call_of 99 (Value.agg #[.bool s, vn, vd]); refine (lowD w3 _ _ _ ld d ((H2.out.below PB.out).below (bcomp (bcomp S1.out S2.out) S3.out)) H4.out).mono ?_; rintro e w4 ⟨v4, rfl, t4, hb4⟩; have S4 : Hid (Below w3.heap.size w3 w4) := Lib.hid hb4; have hs4 : w3.heap.size ≤ w4.heap.size := S4.out.size; have T4 := Lib.hid t4; have hS := six (P0.out.below' (bcomp (bcomp (bcomp S1.out S2.out) S3.out) S4.out)) (P1.out.below' (bcomp (bcomp (bcomp S1.out S2.out) S3.out) S4.out)); clear t4 hb4)
      | (go_at_call_of 99 (Value.agg #[.bool t, vn', vd']); refine (lowD w4 _ _ _ ld' d' ((G2.out.below PB.out).below (bcomp (bcomp (bcomp S1.out S2.out) S3.out) S4.out)) G4.out).mono ?_; rintro e w5 ⟨v5, rfl, t5, hb5⟩; have S5 : Hid (Below w4.heap.size w4 w5) := Lib.hid hb5; have hs5 : w4.heap.size ≤ w5.heap.size := S5.out.size; have T5 := Lib.hid t5; have hS := six (P0.out.below' (bcomp (bcomp (bcomp (bcomp S1.out S2.out) S3.out) S4.out) S5.out)) (P1.out.below' (bcomp (bcomp (bcomp (bcomp S1.out S2.out) S3.out) S4.out) S5.out)); clear t5 hb5)
      | (go_at_call_of 97 (v4); refine (timesR w5 _ _ d d' k k (T4.out.below S5.out) T5.out H7.out G7.out (by omega) (by omega)).mono ?_; rintro e w6 ⟨v6, rfl, t6, hb6, _⟩; have S6 : Hid (Below w5.heap.size w5 w6) := Lib.hid hb6; have hs6 : w5.heap.size ≤ w6.heap.size := S6.out.size; have T6 := Lib.hid t6; have hS := six (P0.out.below' (bcomp (bcomp (bcomp (bcomp (bcomp S1.out S2.out) S3.out) S4.out) S5.out) S6.out)) (P1.out.below' (bcomp (bcomp (bcomp (bcomp (bcomp S1.out S2.out) S3.out) S4.out) S5.out) S6.out)); clear t6 hb6)
      | (go_at_call 94; refine (make1N w6 (s != t) _ _ (n * n') (d * d') (k + k) (((T3.out.below S4.out).below S5.out).below S6.out) T6.out (pow_mul_lt H6.out G6.out) (pow_mul_lt H7.out G7.out) (Nat.mul_pos H8.out G8.out) (by omega) (by omega)).mono ?_; rintro e w7 ⟨v7, rfl, t7, hb7⟩; have S7 : Hid (Below w6.heap.size w6 w7) := Lib.hid hb7; have hs7 : w6.heap.size ≤ w7.heap.size := S7.out.size; have T7 := Lib.hid t7; have hS := six (P0.out.below' (bcomp (bcomp (bcomp (bcomp (bcomp (bcomp S1.out S2.out) S3.out) S4.out) S5.out) S6.out) S7.out)) (P1.out.below' (bcomp (bcomp (bcomp (bcomp (bcomp (bcomp S1.out S2.out) S3.out) S4.out) S5.out) S6.out) S7.out)); obtain ⟨A, m, c, A', m', c', rfl, ta, tb, tc, td⟩ := t7.open_; obtain ⟨r0, r1, r2, z0, z1, z2⟩ := (P2.out.below' (bcomp (bcomp (bcomp (bcomp (bcomp (bcomp S1.out S2.out) S3.out) S4.out) S5.out) S6.out) S7.out)).three; have TA := Lib.hid ta; have TB := Lib.hid tb; have TC := Lib.hid tc; have TD := Lib.hid td; clear ta tb tc td; clear t7 hb7))
  go_wp2_with fail
  refine bodyPost_ret (v := .agg #[.bool (isNeg (mkRat (sgn (s != t) (n * n')) (d * d'))), .slice A m c, .slice A' m' c']) (by simp [results, Tryz.results91, go_sem, r0, r1, r2]) rfl ⟨_, rfl, ?_, below_box3 (PB.out.trans (((bcomp (bcomp (bcomp (bcomp (bcomp (bcomp S1.out S2.out) S3.out) S4.out) S5.out) S6.out) S7.out)).mono (by omega))) (by omega) _ _ _⟩
  exact (CanNew.box3 TA.out TB.out TC.out TD.out (by omega) _ _ _).mono (by omega)

end Go.Proofs.YtjebfdfkjlkifaaGreat
