/- Lemmas on the way: Ref16, Ref17, Ref18, Ref19. -/
import Derived.Test.YtjebfdfkjlkifaaGreatB14
/- earshotref01: Sub, Div, Cmp, Same. (printed by gen_ref16.py) -/
namespace Go.Proofs.YtjebfdfkjlkifaaGreat
open Go.RowKit

set_option maxRecDepth 1000000 in
set_option maxHeartbeats 1000000 in
theorem subR (w : World) (v v' : Value) (q r : Rat) (k : Nat) (h : FracAt k w v q) (h' : FracAt k w v' r) (h0 : 0 < k) (hk : k ≤ 549755813888) :
    Calls Tryz.prog 32 #[v, v'] w fun e w' => ∃ u, e = .returned u ∧ CanNew w.heap.size w' u (q - r) ∧ Below w.heap.size w w' := by
  have H1 := Lib.hid h
  have H2 := Lib.hid h'
  have Q1 := Lib.hid (h.qb h0)
  have Q2 := Lib.hid (h'.qb h0)
  obtain ⟨s, vn, vd, rfl⟩ := h.shape
  obtain ⟨t, vn', vd', rfl⟩ := h'.shape
  clear h h'
  rw [Rat.sub_eq_add_neg]
  go_enter Tryz.func32, Tryz.ntmps32
  go_wp2_with fail
  obtain ⟨W, hW⟩ : ∃ W, W = (((w.alloc (.cells #[.bool s, vn, vd] 40)).alloc (.cells #[.bool t, vn', vd'] 40)).alloc (.cells #[.bool false, .slice none 0 0, .slice none 0 0] 40)) := ⟨_, rfl⟩
  have P0 : Hid (Blk W (w.heap.size) 40 [.bool s, vn, vd]) := Lib.hid (by
    rw [hW]
    have := (Blk.new w 40 [.bool s, vn, vd])
    try simp only [World.size_alloc] at this
    exact ((this.alloc _).alloc _))
  have P1 : Hid (Blk W (w.heap.size + 1) 40 [.bool t, vn', vd']) := Lib.hid (by
    rw [hW]
    have := (Blk.new (w.alloc (.cells #[.bool s, vn, vd] 40)) 40 [.bool t, vn', vd'])
    try simp only [World.size_alloc] at this
    exact (this.alloc _))
  have P2 : Hid (Blk W (w.heap.size + 1 + 1) 40 [.bool false, .slice none 0 0, .slice none 0 0]) := Lib.hid (by
    rw [hW]
    have := (Blk.new ((w.alloc (.cells #[.bool s, vn, vd] 40)).alloc (.cells #[.bool t, vn', vd'] 40)) 40 [.bool false, .slice none 0 0, .slice none 0 0])
    try simp only [World.size_alloc] at this
    exact this)
  have PB : Hid (Below w.heap.size w W) := Lib.hid (by rw [hW]; exact ((((Below.refl _ w).alloc (by first | exact Nat.le_refl _ | (simp only [World.size_alloc]; omega)) _).alloc (by first | exact Nat.le_refl _ | (simp only [World.size_alloc]; omega)) _).alloc (by first | exact Nat.le_refl _ | (simp only [World.size_alloc]; omega)) _))
  have Phs : w.heap.size + 3 ≤ W.heap.size := by rw [hW]; simp only [World.size_alloc]; omega
  rw [← hW]
  clear hW
  obtain ⟨p0, p1, p2, _, _, _⟩ := P0.out.three
  obtain ⟨q0, q1, q2, _, _, _⟩ := P1.out.three
  go_region_held3 (fun w' => w'.cell? ⟨w.heap.size, 0, none⟩ = some (.bool s) ∧ w'.cell? ⟨w.heap.size, 1, none⟩ = some (vn) ∧ w'.cell? ⟨w.heap.size, 2, none⟩ = some (vd) ∧ w'.cell? ⟨w.heap.size + 1, 0, none⟩ = some (.bool t) ∧ w'.cell? ⟨w.heap.size + 1, 1, none⟩ = some (vn') ∧ w'.cell? ⟨w.heap.size + 1, 2, none⟩ = some (vd')) (first | assumption | (refine six_box3 hS ?_ ?_ _ _ _ <;> omega) | go_keep)
    (first
      | (go_at_call 93; refine (negR _ _ r k (H2.out.below (PB.out.trans (below_drew_self _))) h0 (by omega)).mono ?_; rintro e w1 ⟨v1, rfl, t1, hb1⟩; have S1 : Hid (Below W.heap.size W w1) := Lib.hid (by first | exact hb1 | exact below_of_drew hb1); have hs1 : W.heap.size ≤ w1.heap.size := S1.out.size; have T1 := Lib.hid t1; have hS := six (P0.out.below' S1.out) (P1.out.below' S1.out); clear t1 hb1)
      | (go_at_call 34; refine (addR w1 _ _ q (-r) k ((H1.out.below PB.out).below S1.out) (T1.out.at_.frac Q2.out.neg (by omega)) h0 hk).mono ?_; rintro e w2 ⟨v2, rfl, t2, hb2⟩; have S2 : Hid (Below w1.heap.size w1 w2) := Lib.hid hb2; have hs2 : w1.heap.size ≤ w2.heap.size := S2.out.size; have T2 := Lib.hid t2; have hS := six (P0.out.below' (bcomp S1.out S2.out)) (P1.out.below' (bcomp S1.out S2.out)); obtain ⟨A, m, c, A', m', c', rfl, ta, tb, tc, td⟩ := t2.open_; obtain ⟨r0, r1, r2, z0, z1, z2⟩ := (P2.out.below' (bcomp S1.out S2.out)).three; have TA := Lib.hid ta; have TB := Lib.hid tb; have TC := Lib.hid tc; have TD := Lib.hid td; clear ta tb tc td; clear t2 hb2))
  go_wp2_with fail
  refine bodyPost_ret (v := .agg #[.bool (isNeg (q + -r)), .slice A m c, .slice A' m' c']) (by simp [results, Tryz.results32, go_sem, r0, r1, r2]) rfl ⟨_, rfl, ?_, below_box3 (PB.out.trans (((bcomp S1.out S2.out)).mono (by omega))) (by omega) _ _ _⟩
  exact (CanNew.box3 TA.out TB.out TC.out TD.out (by omega) _ _ _).mono (by omega)

set_option maxRecDepth 1000000 in
set_option maxHeartbeats 1000000 in
theorem divR (w : World) (v v' : Value) (q r : Rat) (k : Nat) (h : FracAt k w v q) (h' : FracAt k w v' r) (h0 : 0 < k) (hk : k ≤ 549755813888) (hr : r ≠ 0) :
    Calls Tryz.prog 31 #[v, v'] w fun e w' => ∃ u, e = .returned u ∧ CanNew w.heap.size w' u (q / r) ∧ Below w.heap.size w w' := by
  have H1 := Lib.hid h
  have H2 := Lib.hid h'
  have Q1 := Lib.hid (h.qb h0)
  have Q2 := Lib.hid (h'.qb h0)
  obtain ⟨s, vn, vd, rfl⟩ := h.shape
  obtain ⟨t, vn', vd', rfl⟩ := h'.shape
  clear h h'
  have HR := Lib.hid hr
  clear hr
  rw [Rat.div_def]
  go_enter Tryz.func31, Tryz.ntmps31
  go_wp2_with fail
  obtain ⟨W, hW⟩ : ∃ W, W = (((w.alloc (.cells #[.bool s, vn, vd] 40)).alloc (.cells #[.bool t, vn', vd'] 40)).alloc (.cells #[.bool false, .slice none 0 0, .slice none 0 0] 40)) := ⟨_, rfl⟩
  have P0 : Hid (Blk W (w.heap.size) 40 [.bool s, vn, vd]) := Lib.hid (by
    rw [hW]
    have := (Blk.new w 40 [.bool s, vn, vd])
    try simp only [World.size_alloc] at this
    exact ((this.alloc _).alloc _))
  have P1 : Hid (Blk W (w.heap.size + 1) 40 [.bool t, vn', vd']) := Lib.hid (by
    rw [hW]
    have := (Blk.new (w.alloc (.cells #[.bool s, vn, vd] 40)) 40 [.bool t, vn', vd'])
    try simp only [World.size_alloc] at this
    exact (this.alloc _))
  have P2 : Hid (Blk W (w.heap.size + 1 + 1) 40 [.bool false, .slice none 0 0, .slice none 0 0]) := Lib.hid (by
    rw [hW]
    have := (Blk.new ((w.alloc (.cells #[.bool s, vn, vd] 40)).alloc (.cells #[.bool t, vn', vd'] 40)) 40 [.bool false, .slice none 0 0, .slice none 0 0])
    try simp only [World.size_alloc] at this
    exact this)
  have PB : Hid (Below w.heap.size w W) := Lib.hid (by rw [hW]; exact ((((Below.refl _ w).alloc (by first | exact Nat.le_refl _ | (simp only [World.size_alloc]; omega)) _).alloc (by first | exact Nat.le_refl _ | (simp only [World.size_alloc]; omega)) _).alloc (by first | exact Nat.le_refl _ | (simp only [World.size_alloc]; omega)) _))
  have Phs : w.heap.size + 3 ≤ W.heap.size := by rw [hW]; simp only [World.size_alloc]; omega
  rw [← hW]
  clear hW
  obtain ⟨p0, p1, p2, _, _, _⟩ := P0.out.three
  obtain ⟨q0, q1, q2, _, _, _⟩ := P1.out.three
  go_region_held3 (fun w' => w'.cell? ⟨w.heap.size, 0, none⟩ = some (.bool s) ∧ w'.cell? ⟨w.heap.size, 1, none⟩ = some (vn) ∧ w'.cell? ⟨w.heap.size, 2, none⟩ = some (vd) ∧ w'.cell? ⟨w.heap.size + 1, 0, none⟩ = some (.bool t) ∧ w'.cell? ⟨w.heap.size + 1, 1, none⟩ = some (vn') ∧ w'.cell? ⟨w.heap.size + 1, 2, none⟩ = some (vd')) (first | assumption | (refine six_box3 hS ?_ ?_ _ _ _ <;> omega) | go_keep)
    (first
      | (go_at_call 92; refine (inverseR _ _ r k (H2.out.below (PB.out.trans (below_drew_self _))) h0 (by omega) HR.out).mono ?_; rintro e w1 ⟨v1, rfl, t1, hb1⟩; have S1 : Hid (Below W.heap.size W w1) := Lib.hid (by first | exact hb1 | exact below_of_drew hb1); have hs1 : W.heap.size ≤ w1.heap.size := S1.out.size; have T1 := Lib.hid t1; have hS := six (P0.out.below' S1.out) (P1.out.below' S1.out); clear t1 hb1)
      | (go_at_call 91; refine (mulR w1 _ _ q r⁻¹ k ((H1.out.below PB.out).below S1.out) (T1.out.at_.frac (Q2.out.inv h0) (by omega)) h0 hk).mono ?_; rintro e w2 ⟨v2, rfl, t2, hb2⟩; have S2 : Hid (Below w1.heap.size w1 w2) := Lib.hid hb2; have hs2 : w1.heap.size ≤ w2.heap.size := S2.out.size; have T2 := Lib.hid t2; have hS := six (P0.out.below' (bcomp S1.out S2.out)) (P1.out.below' (bcomp S1.out S2.out)); obtain ⟨A, m, c, A', m', c', rfl, ta, tb, tc, td⟩ := t2.open_; obtain ⟨r0, r1, r2, z0, z1, z2⟩ := (P2.out.below' (bcomp S1.out S2.out)).three; have TA := Lib.hid ta; have TB := Lib.hid tb; have TC := Lib.hid tc; have TD := Lib.hid td; clear ta tb tc td; clear t2 hb2))
  go_wp2_with fail
  refine bodyPost_ret (v := .agg #[.bool (isNeg (q * r⁻¹)), .slice A m c, .slice A' m' c']) (by simp [results, Tryz.results31, go_sem, r0, r1, r2]) rfl ⟨_, rfl, ?_, below_box3 (PB.out.trans (((bcomp S1.out S2.out)).mono (by omega))) (by omega) _ _ _⟩
  exact (CanNew.box3 TA.out TB.out TC.out TD.out (by omega) _ _ _).mono (by omega)

set_option maxRecDepth 1000000 in
set_option maxHeartbeats 1000000 in
theorem cmpR (w : World) (v v' : Value) (q r : Rat) (k : Nat) (h : FracAt k w v q) (h' : FracAt k w v' r) (h0 : 0 < k) (hk : k ≤ 549755813888) :
    Calls Tryz.prog 30 #[v, v'] w fun e w' => e = .returned (.int .i64 (sgnI (q - r))) ∧ Below w.heap.size w w' := by
  have H1 := Lib.hid h
  have H2 := Lib.hid h'
  have Q1 := Lib.hid (h.qb h0)
  have Q2 := Lib.hid (h'.qb h0)
  obtain ⟨s, vn, vd, rfl⟩ := h.shape
  obtain ⟨t, vn', vd', rfl⟩ := h'.shape
  clear h h'
  have QS : Hid (QB (k + k + 1) (q - r)) := Lib.hid (by rw [Rat.sub_eq_add_neg]; exact Q1.out.add Q2.out.neg)
  go_enter Tryz.func30, Tryz.ntmps30
  go_wp2_with fail
  obtain ⟨W, hW⟩ : ∃ W, W = ((w.alloc (.cells #[.bool s, vn, vd] 40)).alloc (.cells #[.bool t, vn', vd'] 40)) := ⟨_, rfl⟩
  have P0 : Hid (Blk W (w.heap.size) 40 [.bool s, vn, vd]) := Lib.hid (by
    rw [hW]
    have := (Blk.new w 40 [.bool s, vn, vd])
    try simp only [World.size_alloc] at this
    exact (this.alloc _))
  have P1 : Hid (Blk W (w.heap.size + 1) 40 [.bool t, vn', vd']) := Lib.hid (by
    rw [hW]
    have := (Blk.new (w.alloc (.cells #[.bool s, vn, vd] 40)) 40 [.bool t, vn', vd'])
    try simp only [World.size_alloc] at this
    exact this)
  have PB : Hid (Below w.heap.size w W) := Lib.hid (by rw [hW]; exact (((Below.refl _ w).alloc (by first | exact Nat.le_refl _ | (simp only [World.size_alloc]; omega)) _).alloc (by first | exact Nat.le_refl _ | (simp only [World.size_alloc]; omega)) _))
  have Phs : w.heap.size + 2 ≤ W.heap.size := by rw [hW]; simp only [World.size_alloc]; omega
  rw [← hW]
  clear hW
  obtain ⟨p0, p1, p2, _, _, _⟩ := P0.out.three
  obtain ⟨q0, q1, q2, _, _, _⟩ := P1.out.three
  go_wp2_with fail
  refine (subR W _ _ q r k (H1.out.below PB.out) (H2.out.below PB.out) h0 hk).mono ?_
  rintro e w1 ⟨v1, rfl, t1, hb1⟩
  have T1 := Lib.hid t1
  have S1 : Hid (Below W.heap.size W w1) := Lib.hid hb1
  have hs1 : W.heap.size ≤ w1.heap.size := hb1.size
  clear t1 hb1
  go_wp2_with fail
  refine (signR w1 v1 (q - r) (k + k + 1) (T1.out.at_.frac QS.out (by omega)) (by omega)).mono ?_
  rintro e w2 ⟨rfl, hb2⟩
  have S2 : Hid (Below w1.heap.size w1 w2) := Lib.hid hb2
  have hs2 : w1.heap.size ≤ w2.heap.size := hb2.size
  clear hb2
  go_wp2_with fail
  go_ret
  exact ⟨rfl, PB.out.trans (((bcomp S1.out S2.out)).mono (by omega))⟩

/-- The denominator as it is kept. -/
def dnQ (q : Rat) : Nat := if q.den = 1 then 0 else q.den
theorem can_eq (q r : Rat) : q = r ↔ isNeg q = isNeg r ∧ q.num.natAbs = r.num.natAbs ∧ dnQ q = dnQ r := by
  constructor
  · intro h
    subst h
    exact ⟨rfl, rfl, rfl⟩
  · rintro ⟨h1, h2, h3⟩
    apply Rat.ext
    · rw [num_eq q, num_eq r, h1, h2]
    · have a := q.den_pos
      have b := r.den_pos
      unfold dnQ at h3
      split at h3 <;> split at h3 <;> omega
theorem sameT {w : World} {va vb : Value} {a b : Nat} (ha : NatAt w va a) (hb : NatAt w vb b) (h : a = b) : Calls Tryz.prog 111 #[va, vb] w fun e w' => e = .returned (.bool true) ∧ Below w.heap.size w w' := by
  refine (sameDigitsR w va vb a b ha hb).mono ?_
  rw [decide_eq_true h]
  exact fun _ _ ⟨h1, h2⟩ => ⟨h2, h1⟩
theorem sameF {w : World} {va vb : Value} {a b : Nat} (ha : NatAt w va a) (hb : NatAt w vb b) (h : a ≠ b) : Calls Tryz.prog 111 #[va, vb] w fun e w' => e = .returned (.bool false) ∧ Below w.heap.size w w' := by
  refine (sameDigitsR w va vb a b ha hb).mono ?_
  rw [decide_eq_false h]
  exact fun _ _ ⟨h1, h2⟩ => ⟨h2, h1⟩

set_option maxRecDepth 1000000 in
set_option maxHeartbeats 1000000 in
theorem sameR (w : World) (v v' : Value) (q r : Rat) (h : CanAt w v q) (h' : CanAt w v' r) :
    Calls Tryz.prog 40 #[v, v'] w fun e w' => e = .returned (.bool (decide (q = r))) ∧ Below w.heap.size w w' := by
  have HX := Lib.hid (can_eq q r)
  obtain ⟨vn, vd, rfl, n1, n2⟩ := h
  obtain ⟨vn', vd', rfl, m1, m2⟩ := h'
  have N1 := Lib.hid n1
  have N2 := Lib.hid (show NatAt w vd (dnQ q) from n2)
  have M1 := Lib.hid m1
  have M2 := Lib.hid (show NatAt w vd' (dnQ r) from m2)
  clear n1 n2 m1 m2
  generalize isNeg q = s at *
  generalize isNeg r = t at *
  by_cases hst : s = t
  · subst hst
    by_cases hn : q.num.natAbs = r.num.natAbs
    · by_cases hd : dnQ q = dnQ r
      · have HB : Hid (decide (q = r) = true) := Lib.hid (decide_eq_true (HX.out.2 ⟨rfl, hn, hd⟩))
        have HN := Lib.hid hn
        have HD := Lib.hid hd
        clear hn hd
        go_enter Tryz.func40, Tryz.ntmps40
        go_wp2_with fail
        obtain ⟨W, hW⟩ : ∃ W, W = ((w.alloc (.cells #[.bool s, vn, vd] 40)).alloc (.cells #[.bool s, vn', vd'] 40)) := ⟨_, rfl⟩
        have P0 : Hid (Blk W (w.heap.size) 40 [.bool s, vn, vd]) := Lib.hid (by
          rw [hW]
          have := (Blk.new w 40 [.bool s, vn, vd])
          try simp only [World.size_alloc] at this
          exact (this.alloc _))
        have P1 : Hid (Blk W (w.heap.size + 1) 40 [.bool s, vn', vd']) := Lib.hid (by
          rw [hW]
          have := (Blk.new (w.alloc (.cells #[.bool s, vn, vd] 40)) 40 [.bool s, vn', vd'])
          try simp only [World.size_alloc] at this
          exact this)
        have PB : Hid (Below w.heap.size w W) := Lib.hid (by rw [hW]; exact (((Below.refl _ w).alloc (by first | exact Nat.le_refl _ | (simp only [World.size_alloc]; omega)) _).alloc (by first | exact Nat.le_refl _ | (simp only [World.size_alloc]; omega)) _))
        have Phs : w.heap.size + 2 ≤ W.heap.size := by rw [hW]; simp only [World.size_alloc]; omega
        rw [← hW]
        clear hW
        obtain ⟨p0, p1, p2, _, _, _⟩ := P0.out.three
        obtain ⟨q0, q1, q2, _, _, _⟩ := P1.out.three
        go_wp2_with fail
        refine (sameT (N1.out.below PB.out) (M1.out.below PB.out) HN.out).mono ?_
        rintro e w1 ⟨rfl, hb1⟩
        have S1 : Hid (Below W.heap.size W w1) := Lib.hid hb1
        have hs1 : W.heap.size ≤ w1.heap.size := hb1.size
        obtain ⟨p0', p1', p2', _, _, _⟩ := (P0.out.below' S1.out).three
        obtain ⟨q0', q1', q2', _, _, _⟩ := (P1.out.below' S1.out).three
        clear hb1
        go_wp2_with fail
        refine (sameT ((N2.out.below PB.out).below S1.out) ((M2.out.below PB.out).below S1.out) HD.out).mono ?_
        rintro e w2 ⟨rfl, hb2⟩
        have S2 : Hid (Below w1.heap.size w1 w2) := Lib.hid hb2
        have hs2 : w1.heap.size ≤ w2.heap.size := hb2.size
        clear hb2
        go_wp2_with fail
        go_ret
        exact ⟨ret_bool HB.out.symm, PB.out.trans (((bcomp S1.out S2.out)).mono (by omega))⟩
      · have HB : Hid (decide (q = r) = false) := Lib.hid (decide_eq_false (fun e => hd (HX.out.1 e).2.2))
        have HN := Lib.hid hn
        have HD := Lib.hid hd
        clear hn hd
        go_enter Tryz.func40, Tryz.ntmps40
        go_wp2_with fail
        obtain ⟨W, hW⟩ : ∃ W, W = ((w.alloc (.cells #[.bool s, vn, vd] 40)).alloc (.cells #[.bool s, vn', vd'] 40)) := ⟨_, rfl⟩
        have P0 : Hid (Blk W (w.heap.size) 40 [.bool s, vn, vd]) := Lib.hid (by
          rw [hW]
          have := (Blk.new w 40 [.bool s, vn, vd])
          try simp only [World.size_alloc] at this
          exact (this.alloc _))
        have P1 : Hid (Blk W (w.heap.size + 1) 40 [.bool s, vn', vd']) := Lib.hid (by
          rw [hW]
          have := (Blk.new (w.alloc (.cells #[.bool s, vn, vd] 40)) 40 [.bool s, vn', vd'])
          try simp only [World.size_alloc] at this
          exact this)
        have PB : Hid (Below w.heap.size w W) := Lib.hid (by rw [hW]; exact (((Below.refl _ w).alloc (by first | exact Nat.le_refl _ | (simp only [World.size_alloc]; omega)) _).alloc (by first | exact Nat.le_refl _ | (simp only [World.size_alloc]; omega)) _))
        have Phs : w.heap.size + 2 ≤ W.heap.size := by rw [hW]; simp only [World.size_alloc]; omega
        rw [← hW]
        clear hW
        obtain ⟨p0, p1, p2, _, _, _⟩ := P0.out.three
        obtain ⟨q0, q1, q2, _, _, _⟩ := P1.out.three
        go_wp2_with fail
        refine (sameT (N1.out.below PB.out) (M1.out.below PB.out) HN.out).mono ?_
        rintro e w1 ⟨rfl, hb1⟩
        have S1 : Hid (Below W.heap.size W w1) := Lib.hid hb1
        have hs1 : W.heap.size ≤ w1.heap.size := hb1.size
        obtain ⟨p0', p1', p2', _, _, _⟩ := (P0.out.below' S1.out).three
        obtain ⟨q0', q1', q2', _, _, _⟩ := (P1.out.below' S1.out).three
        clear hb1
        go_wp2_with fail
        refine (sameF ((N2.out.below PB.out).below S1.out) ((M2.out.below PB.out).below S1.out) HD.out).mono ?_
        rintro e w2 ⟨rfl, hb2⟩
        have S2 : Hid (Below w1.heap.size w1 w2) := Lib.hid hb2
        have hs2 : w1.heap.size ≤ w2.heap.size := hb2.size
        clear hb2
        go_wp2_with fail
        go_ret
        exact ⟨ret_bool HB.out.symm, PB.out.trans (((bcomp S1.out S2.out)).mono (by omega))⟩
    · have HB : Hid (decide (q = r) = false) := Lib.hid (decide_eq_false (fun e => hn (HX.out.1 e).2.1))
      have HN := Lib.hid hn
      clear hn
      go_enter Tryz.func40, Tryz.ntmps40
      go_wp2_with fail
      obtain ⟨W, hW⟩ : ∃ W, W = ((w.alloc (.cells #[.bool s, vn, vd] 40)).alloc (.cells #[.bool s, vn', vd'] 40)) := ⟨_, rfl⟩
      have P0 : Hid (Blk W (w.heap.size) 40 [.bool s, vn, vd]) := Lib.hid (by
        rw [hW]
        have := (Blk.new w 40 [.bool s, vn, vd])
        try simp only [World.size_alloc] at this
        exact (this.alloc _))
      have P1 : Hid (Blk W (w.heap.size + 1) 40 [.bool s, vn', vd']) := Lib.hid (by
        rw [hW]
        have := (Blk.new (w.alloc (.cells #[.bool s, vn, vd] 40)) 40 [.bool s, vn', vd'])
        try simp only [World.size_alloc] at this
        exact this)
      have PB : Hid (Below w.heap.size w W) := Lib.hid (by rw [hW]; exact (((Below.refl _ w).alloc (by first | exact Nat.le_refl _ | (simp only [World.size_alloc]; omega)) _).alloc (by first | exact Nat.le_refl _ | (simp only [World.size_alloc]; omega)) _))
      have Phs : w.heap.size + 2 ≤ W.heap.size := by rw [hW]; simp only [World.size_alloc]; omega
      rw [← hW]
      clear hW
      obtain ⟨p0, p1, p2, _, _, _⟩ := P0.out.three
      obtain ⟨q0, q1, q2, _, _, _⟩ := P1.out.three
      go_wp2_with fail
      refine (sameF (N1.out.below PB.out) (M1.out.below PB.out) HN.out).mono ?_
      rintro e w1 ⟨rfl, hb1⟩
      have S1 : Hid (Below W.heap.size W w1) := Lib.hid hb1
      have hs1 : W.heap.size ≤ w1.heap.size := hb1.size
      obtain ⟨p0', p1', p2', _, _, _⟩ := (P0.out.below' S1.out).three
      obtain ⟨q0', q1', q2', _, _, _⟩ := (P1.out.below' S1.out).three
      clear hb1
      go_wp2_with fail
      go_ret
      exact ⟨ret_bool HB.out.symm, PB.out.trans ((S1.out).mono (by omega))⟩
  · have HB : Hid (decide (q = r) = false) := Lib.hid (decide_eq_false (fun e => hst (HX.out.1 e).1))
    have hst' : (s == t) = false := by cases s <;> cases t <;> simp_all
    clear hst
    go_enter Tryz.func40, Tryz.ntmps40
    go_wp2_with fail
    obtain ⟨W, hW⟩ : ∃ W, W = ((w.alloc (.cells #[.bool s, vn, vd] 40)).alloc (.cells #[.bool t, vn', vd'] 40)) := ⟨_, rfl⟩
    have P0 : Hid (Blk W (w.heap.size) 40 [.bool s, vn, vd]) := Lib.hid (by
      rw [hW]
      have := (Blk.new w 40 [.bool s, vn, vd])
      try simp only [World.size_alloc] at this
      exact (this.alloc _))
    have P1 : Hid (Blk W (w.heap.size + 1) 40 [.bool t, vn', vd']) := Lib.hid (by
      rw [hW]
      have := (Blk.new (w.alloc (.cells #[.bool s, vn, vd] 40)) 40 [.bool t, vn', vd'])
      try simp only [World.size_alloc] at this
      exact this)
    have PB : Hid (Below w.heap.size w W) := Lib.hid (by rw [hW]; exact (((Below.refl _ w).alloc (by first | exact Nat.le_refl _ | (simp only [World.size_alloc]; omega)) _).alloc (by first | exact Nat.le_refl _ | (simp only [World.size_alloc]; omega)) _))
    have Phs : w.heap.size + 2 ≤ W.heap.size := by rw [hW]; simp only [World.size_alloc]; omega
    rw [← hW]
    clear hW
    obtain ⟨p0, p1, p2, _, _, _⟩ := P0.out.three
    obtain ⟨q0, q1, q2, _, _, _⟩ := P1.out.three
    go_wp2_with fail
    go_ret
    exact ⟨ret_bool HB.out.symm, PB.out⟩

end Go.Proofs.YtjebfdfkjlkifaaGreat
/- earshotref01: Sum. -/
namespace Go.Proofs.YtjebfdfkjlkifaaGreat
open Go.RowKit

theorem CanNew.zero_ (B : Nat) (w : World) : CanNew B w (.agg #[.bool false, .slice none 0 0, .slice none 0 0]) 0 :=
  ⟨_, _, by simp [isNeg], NatAt.nil_ _, by simpa using NatAt.nil_ _, From.nil_ _, From.nil_ _⟩
theorem CanNew.parts {B : Nat} {w : World} {q : Rat} {b : Bool} {A A' : Option Addr} {m c m' c' : Nat} (h : CanNew B w (.agg #[.bool b, .slice A m c, .slice A' m' c']) q) :
    b = isNeg q ∧ NatAt w (.slice A m c) q.num.natAbs ∧ NatAt w (.slice A' m' c') (if q.den = 1 then 0 else q.den) ∧ From (.slice A m c) B ∧ From (.slice A' m' c') B := by
  obtain ⟨vn, vd, e, h1, h2, h3, h4⟩ := h
  injection e with e
  have e' : [Value.bool b, .slice A m c, .slice A' m' c'] = [.bool (isNeg q), vn, vd] := congrArg Array.toList e
  simp only [List.cons.injEq, and_true, Value.bool.injEq] at e'
  obtain ⟨e0, rfl, rfl⟩ := e'
  exact ⟨e0, h1, h2, h3, h4⟩
theorem FracAt.mono {k k' : Nat} {w : World} {v : Value} {q : Rat} (h : FracAt k w v q) (hk : k ≤ k') : FracAt k' w v q := by
  obtain ⟨s, vn, vd, ln, ld, e, h1, h2, h3, h4, h5, h6, h7⟩ := h
  exact ⟨s, vn, vd, ln, ld, e, h1, h2, h3, Nat.lt_of_lt_of_le h4 (Nat.pow_le_pow_right (by omega) hk), Nat.lt_of_lt_of_le h5 (Nat.pow_le_pow_right (by omega) hk), h6, h7⟩
theorem CanNew.drew {B : Nat} {w : World} {v : Value} {q : Rat} (h : CanNew B w v q) : CanNew B w.drew v q := h

set_option maxRecDepth 1000000 in
set_option maxHeartbeats 1000000 in
theorem sumR (w : World) (k : Nat) (lv : Value) (qs : List Rat) (hl : FracsAt k w lv qs) (h0 : 0 < k) (hk : (qs.length + 1) * (2 * k) ≤ 549755813888) :
    Calls Tryz.prog 139 #[lv] w fun e w' => ∃ v', e = .returned v' ∧ CanNew w.heap.size w' v' (sumQ qs) ∧ Below w.heap.size w w' := by
  obtain ⟨A, c, rfl, hlc, hcm, hat⟩ := hl.at_
  have HAT := Lib.hid hat
  clear hl hat
  obtain ⟨n, hn⟩ : ∃ n, qs.length = n := ⟨_, rfl⟩
  have HLN := Lib.hid hn
  rw [hn] at hlc hk ⊢
  clear hn
  have HZ : Hid (QB ((0 + 1) * (2 * k)) (0 : Rat)) := Lib.hid (qb_nat (n := 0) (Nat.pow_pos (by omega)) (by omega))
  go_enter Tryz.func139, Tryz.ntmps139
  go_wp2_with fail
  obtain ⟨W, hW⟩ : ∃ W, W = ((w.alloc (.cells #[.bool false, .slice none 0 0, .slice none 0 0] 40)).alloc (.cells #[.bool false, .slice none 0 0, .slice none 0 0] 40)) := ⟨_, rfl⟩
  have P0 : Hid (Blk W (w.heap.size) 40 [.bool false, .slice none 0 0, .slice none 0 0]) := Lib.hid (by
    rw [hW]
    have := (Blk.new w 40 [.bool false, .slice none 0 0, .slice none 0 0])
    try simp only [World.size_alloc] at this
    exact (this.alloc _))
  have P1 : Hid (Blk W (w.heap.size + 1) 40 [.bool false, .slice none 0 0, .slice none 0 0]) := Lib.hid (by
    rw [hW]
    have := (Blk.new (w.alloc (.cells #[.bool false, .slice none 0 0, .slice none 0 0] 40)) 40 [.bool false, .slice none 0 0, .slice none 0 0])
    try simp only [World.size_alloc] at this
    exact this)
  have PB : Hid (Below w.heap.size w W) := Lib.hid (by rw [hW]; exact (((Below.refl _ w).alloc (by first | exact Nat.le_refl _ | (simp only [World.size_alloc]; omega)) _).alloc (by first | exact Nat.le_refl _ | (simp only [World.size_alloc]; omega)) _))
  have Phs : w.heap.size + 2 ≤ W.heap.size := by rw [hW]; simp only [World.size_alloc]; omega
  rw [← hW]
  clear hW
  go_loopg [4] n (fun g i wr => ∃ (j : Nat) (q : Rat) (b : Bool) (A1 A1' : Option Addr) (m1 c1 m1' c1' : Nat), i = .int .i64 j ∧ j + g = n ∧ Hid (q = sumQ (qs.take j)) ∧ Hid (QB ((j + 1) * (2 * k)) q) ∧
    Hid (Blk wr w.heap.size 40 [.bool false, .slice none 0 0, .slice none 0 0]) ∧ Hid (Blk wr (w.heap.size + 1) 40 [.bool b, .slice A1 m1 c1, .slice A1' m1' c1']) ∧ Hid (CanNew (w.heap.size + 2) wr (.agg #[.bool b, .slice A1 m1 c1, .slice A1' m1' c1']) q) ∧ Hid (Below w.heap.size w wr))
  case atStart => exact ⟨0, 0, false, none, none, 0, 0, 0, 0, rfl, by omega, Lib.hid rfl, HZ, P0, P1, Lib.hid (CanNew.zero_ _ _), PB⟩
  case round =>
    obtain ⟨j, q, b, A1, A1', m1, c1, m1', c1', rfl, hj, HQ, HQB, RB, BK, NA, BEL⟩ := hrel
    have hsz : w.heap.size + 2 ≤ wr.heap.size := BK.out.lt
    obtain ⟨p0, p1, p2, _, _, _⟩ := BK.out.three
    rcases Nat.eq_zero_or_pos gk with h | h
    · obtain rfl : j = n := by omega
      obtain ⟨r0, r1, r2, z0, z1, z2⟩ := RB.out.three
      go_wp2_with fail
      refine bodyPost_ret (v := .agg #[.bool b, .slice A1 m1 c1, .slice A1' m1' c1']) (by simp [results, Tryz.results139, go_sem, r0, r1, r2]) rfl ⟨_, rfl, ?_, below_box3 BEL.out (Nat.le_refl _) _ _ _⟩
      obtain ⟨e0, t1, t2, t3, t4⟩ := NA.out.parts
      rw [e0]
      rw [HQ.out, List.take_of_length_le (by rw [HLN.out]; exact Nat.le_refl _)] at t1 t2 ⊢
      exact (CanNew.box3 t1 t2 t3 t4 (by omega) _ _ _).mono (by omega)
    · obtain ⟨g, rfl⟩ : ∃ g, gk = g + 1 := ⟨gk - 1, by omega⟩
      obtain ⟨x, hx⟩ : ∃ x, qs[j]? = some x := ⟨_, List.getElem?_eq_getElem (by rw [HLN.out]; omega)⟩
      obtain ⟨bb, off, neg, An, nn, cn, Ad, nd, cd, rfl, hbb, e0, e1, e2, hfr⟩ := HAT.out j x hx
      have d0 := (BEL.out.cell (p := ⟨bb, off + j * 3, none⟩) hbb).trans e0
      have d1 := (BEL.out.cell (p := ⟨bb, off + j * 3 + 1, none⟩) hbb).trans e1
      have d2 := (BEL.out.cell (p := ⟨bb, off + j * 3 + 2, none⟩) hbb).trans e2
      have FR := Lib.hid (hfr.below BEL.out)
      have QX := Lib.hid (hfr.qb h0)
      have HX := Lib.hid hx
      have hjk : (j + 1) * (2 * k) ≤ (n + 1) * (2 * k) := Nat.mul_le_mul_right _ (by omega)
      have hjk2 : (j + 1 + 1) * (2 * k) = (j + 1) * (2 * k) + 2 * k := by rw [Nat.add_mul (j + 1) 1, Nat.one_mul]
      have HJ : Hid (k ≤ (j + 1) * (2 * k) ∧ (j + 1) * (2 * k) ≤ 549755813888 ∧ 0 < (j + 1) * (2 * k)) := Lib.hid (by have : 1 * (2 * k) ≤ (j + 1) * (2 * k) := Nat.mul_le_mul_right _ (by omega); omega)
      have HJ2 := Lib.hid hjk2
      have FK : Hid (FracAt ((j + 1) * (2 * k)) wr (.agg #[.bool neg, .slice An nn cn, .slice Ad nd cd]) x) := Lib.hid (FR.out.mono HJ.out.1)
      clear hx e0 e1 e2 hfr hjk hjk2
      go_wp2_with fail
      go_region_with (first
          | (go_at_call 34; refine (addR _ _ _ q x ((j + 1) * (2 * k)) ?_ ?_ HJ.out.2.2 HJ.out.2.1).mono ?_; (exact (NA.out.at_.frac HQB.out (by have := HJ.out; omega)).below (below_drew_self _)); (exact FK.out.below (below_drew_self _)); rintro e w3 ⟨v3, rfl, t3, hb3'⟩; have hb3 := below_of_drew hb3'; have B3 := Lib.hid hb3; have K3 := Lib.hid (BK.out.below' hb3); have hs3 := hb3.size; obtain ⟨A3, m3, c3, A3', m3', c3', rfl, t3a, t3b, t3c, t3d⟩ := t3.open_; obtain ⟨r0, r1, r2, z0, z1, z2⟩ := K3.out.three; have TA := Lib.hid t3a; have TB := Lib.hid t3b; have TC := Lib.hid (t3c.mono (show w.heap.size + 2 ≤ _ from hsz)); have TD := Lib.hid (t3d.mono (show w.heap.size + 2 ≤ _ from hsz)); clear t3 t3a t3b t3c t3d hb3 hb3'))
      all_goals
        go_wp2_with fail
        go_roundg g
        case measure => omega
        case rel =>
          have hx' := HX.out
          exact ⟨j + 1, _, _, A3, A3', m3, c3, m3', c3', rfl, by omega, Lib.hid (by unfold sumQ; rw [take_succ_get _ hx', List.foldl_append, HQ.out]; rfl), Lib.hid (by rw [HJ2.out]; exact (HQB.out.add QX.out).mono (by omega)),
            Lib.hid (Blk.box3far (RB.out.below' B3.out) (by omega) _ _ _), Lib.hid (K3.out.box3 _ _ _), Lib.hid (CanNew.box3 TA.out TB.out TC.out TD.out (by omega) _ _ _), Lib.hid (below_box3 (BEL.out.trans (B3.out.mono (by omega))) (Nat.le_succ _) _ _ _)⟩
end Go.Proofs.YtjebfdfkjlkifaaGreat
/- earshotref01: Distribution. -/
namespace Go.Proofs.YtjebfdfkjlkifaaGreat
open Go.RowKit

set_option maxRecDepth 1000000 in
set_option maxHeartbeats 1000000 in
theorem distributionR (w : World) (k : Nat) (lv : Value) (qs : List Rat) (hl : FracsAt k w lv qs) (h0 : 0 < k) (hk : (qs.length + 1) * (2 * k) ≤ 549755813888) :
    Calls Tryz.prog 87 #[lv] w fun e w' => e = .returned (.bool (distr qs)) ∧ Below w.heap.size w w' := by
  obtain ⟨A, c, rfl, hlc, hcm, hat⟩ := hl.at_
  have hkl : 1 * (2 * k) ≤ (qs.length + 1) * (2 * k) := Nat.mul_le_mul_right _ (by omega)
  have HL := Lib.hid hl
  have HAT := Lib.hid hat
  have SQ : Hid (QB ((qs.length + 1) * (2 * k)) (sumQ qs)) := Lib.hid ((qb_sum qs (hl.qb h0) k 0 (qb_nat (n := 0) (Nat.pow_pos (by omega)) h0)).mono (by
      have : qs.length * (k + 1) ≤ qs.length * (2 * k) := Nat.mul_le_mul_left _ (by omega)
      rw [Nat.add_mul]; omega))
  have Q1 : Hid (QB ((qs.length + 1) * (2 * k)) ((1 : Nat) : Rat)) := Lib.hid (qb_nat (Nat.one_lt_two_pow (by omega)) (by omega))
  clear hl hat
  obtain ⟨n, hn⟩ : ∃ n, qs.length = n := ⟨_, rfl⟩
  have HLN := Lib.hid hn
  rw [hn] at hlc hk hkl HL SQ Q1 ⊢
  clear hn
  have HK := Lib.hid hk
  have HKL := Lib.hid hkl
  clear hk hkl
  unfold distr
  go_enter Tryz.func87, Tryz.ntmps87
  go_wp2_with fail
  go_loopg [3] n (fun g i wr => ∃ (j : Nat), i = .int .i64 j ∧ j + g = n ∧ Hid (firstNeg qs 0 = firstNeg (qs.drop j) j) ∧ Hid (Below w.heap.size w wr))
  case atStart => exact ⟨0, rfl, by omega, Lib.hid rfl, Lib.hid (Below.refl _ _)⟩
  case round =>
    obtain ⟨j, rfl, hj, HQ, BEL⟩ := hrel
    have hsz : w.heap.size ≤ wr.heap.size := BEL.out.size
    rcases Nat.eq_zero_or_pos gk with h | h
    · obtain rfl : j = n := by omega
      have HF : Hid (decide (0 ≤ firstNeg qs 0) = false) := Lib.hid (by
        rw [HQ.out, List.drop_eq_nil_of_le (by rw [HLN.out]; exact Nat.le_refl _)]
        rfl)
      go_wp2_with fail
      refine (sumR wr k _ qs (HL.out.below BEL.out) h0 (by rw [HLN.out]; exact HK.out)).mono ?_
      rintro e w2 ⟨v2, rfl, t2, hb2⟩
      have B2 := Lib.hid (BEL.out.trans (hb2.mono hsz))
      have T2 := Lib.hid t2
      have hs2 : wr.heap.size ≤ w2.heap.size := hb2.size
      clear t2 hb2
      go_wp2_with fail
      refine (ofR w2 1 (by omega)).mono ?_
      rintro e w3 ⟨v3, rfl, t3, hb3⟩
      have B3 := Lib.hid (B2.out.trans (hb3.mono (by omega)))
      have F2 := Lib.hid ((T2.out.below hb3).at_.frac SQ.out (by have := HK.out; omega))
      have F3 := Lib.hid (t3.at_.frac Q1.out (by have := HK.out; omega))
      have hs3 : w2.heap.size ≤ w3.heap.size := hb3.size
      clear t3 hb3
      go_wp2_with fail
      refine (cmpR w3 v2 v3 (sumQ qs) (1 : Nat) _ F2.out F3.out (by have := HKL.out; omega) HK.out).mono ?_
      rintro e w4 ⟨rfl, hb4⟩
      have B4 := Lib.hid (B3.out.trans (hb4.mono (by omega)))
      clear hb4
      go_wp2_with fail
      go_ret
      refine ⟨?_, B4.out⟩
      rw [HF.out]
      rfl
    · obtain ⟨g, rfl⟩ : ∃ g, gk = g + 1 := ⟨gk - 1, by omega⟩
      obtain ⟨x, hx⟩ : ∃ x, qs[j]? = some x := ⟨_, List.getElem?_eq_getElem (by rw [HLN.out]; omega)⟩
      obtain ⟨bb, off, neg, An, nn, cn, Ad, nd, cd, rfl, hbb, e0, e1, e2, hfr⟩ := HAT.out j x hx
      have d0 := (BEL.out.cell (p := ⟨bb, off + j * 3, none⟩) hbb).trans e0
      have d1 := (BEL.out.cell (p := ⟨bb, off + j * 3 + 1, none⟩) hbb).trans e1
      have d2 := (BEL.out.cell (p := ⟨bb, off + j * 3 + 2, none⟩) hbb).trans e2
      have FR := Lib.hid (hfr.below BEL.out)
      have DR := Lib.hid (firstNeg_drop hx)
      clear hx e0 e1 e2 hfr
      have SC := signR wr _ x k FR.out h0
      by_cases hd : sgnI x < 0
      · have HN : Hid (decide (0 ≤ firstNeg qs 0) = true) := Lib.hid (decide_eq_true (by rw [HQ.out, DR.out, if_pos hd]; omega))
        obtain ⟨z, hz, hz0⟩ : ∃ z, sgnI x = z ∧ decide (z < 0) = true := ⟨_, rfl, decide_eq_true hd⟩
        rw [hz] at SC
        clear hz hd
        go_wp2_with fail
        refine SC.mono ?_
        rintro e w1 ⟨rfl, hb1⟩
        have B1 := Lib.hid hb1
        clear hb1
        go_wp2_with fail
        go_ret
        refine ⟨ret_bool ?_, BEL.out.trans (B1.out.mono hsz)⟩
        rw [HN.out]
        rfl
      · have HN : Hid (firstNeg qs 0 = firstNeg (qs.drop (j + 1)) (j + 1)) := Lib.hid (by rw [HQ.out, DR.out, if_neg hd])
        obtain ⟨z, hz, hz0⟩ : ∃ z, sgnI x = z ∧ decide (z < 0) = false := ⟨_, rfl, decide_eq_false hd⟩
        rw [hz] at SC
        clear hz hd
        go_wp2_with fail
        refine SC.mono ?_
        rintro e w1 ⟨rfl, hb1⟩
        have B1 := Lib.hid hb1
        clear hb1
        go_wp2_with fail
        go_roundg g
        case measure => omega
        case rel => exact ⟨j + 1, rfl, by omega, HN, Lib.hid (BEL.out.trans (B1.out.mono hsz))⟩
end Go.Proofs.YtjebfdfkjlkifaaGreat
/- earshotref01: SameList; lists of canonical Fracs. -/
namespace Go.Proofs.YtjebfdfkjlkifaaGreat
open Go.RowKit

/-- The slice v reads as a list of canonical Fracs. -/
def CansAt (w : World) (v : Value) (qs : List Rat) : Prop := ∃ cells, Sl w 3 v qs.length cells ∧
  ∀ i x, qs[i]? = some x → ∃ a b c, cells[i * 3]? = some a ∧ cells[i * 3 + 1]? = some b ∧ cells[i * 3 + 2]? = some c ∧ CanAt w (.agg #[a, b, c]) x
theorem CansAt.below {w w' : World} {v : Value} {qs : List Rat} (h : CansAt w v qs) (hb : Below w.heap.size w w') : CansAt w' v qs := by
  obtain ⟨cs, h1, h2⟩ := h
  refine ⟨cs, h1.below hb, fun i x hx => ?_⟩
  obtain ⟨a, b, c, ha, hb', hc, hf⟩ := h2 i x hx
  exact ⟨a, b, c, ha, hb', hc, hf.below hb⟩
theorem CansAt.fracs {k : Nat} {w : World} {v : Value} {qs : List Rat} (h : CansAt w v qs) (hb : ∀ q ∈ qs, QB k q) (hk : k ≤ 17592186044416) : FracsAt k w v qs := by
  obtain ⟨cs, h1, h2⟩ := h
  refine ⟨cs, h1, fun i x hx => ?_⟩
  obtain ⟨a, b, c, ha, hb', hc, hf⟩ := h2 i x hx
  exact ⟨a, b, c, ha, hb', hc, hf.frac (hb x (List.mem_of_getElem? hx)) hk⟩
theorem CansAt.at_ {w : World} {v : Value} {qs : List Rat} (h : CansAt w v qs) : ∃ A c, v = .slice A qs.length c ∧ qs.length ≤ c ∧ c ≤ 9223372036854775807 ∧
    ∀ j x, qs[j]? = some x → ∃ b off u0 u1 u2, A = some ⟨b, off, none⟩ ∧ b < w.heap.size ∧ w.cell? ⟨b, off + j * 3, none⟩ = some u0 ∧ w.cell? ⟨b, off + j * 3 + 1, none⟩ = some u1 ∧
      w.cell? ⟨b, off + j * 3 + 2, none⟩ = some u2 ∧ CanAt w (.agg #[u0, u1, u2]) x := by
  obtain ⟨cells, h1, h2⟩ := h
  obtain ⟨h0, A, c, rfl, hc, hm, h5⟩ := h1
  refine ⟨A, c, rfl, hc, by unfold maxLen at hm; omega, fun j x hx => ?_⟩
  have hj := (List.getElem?_eq_some_iff.1 hx).1
  obtain ⟨b, off, e, hlt, hcell⟩ := h5 (by omega)
  obtain ⟨u0, u1, u2, e0, e1, e2, hf⟩ := h2 j x hx
  exact ⟨b, off, u0, u1, u2, e, hlt, hcell _ _ e0, by have := hcell _ _ e1; rwa [← Nat.add_assoc] at this, by have := hcell _ _ e2; rwa [← Nat.add_assoc] at this, hf⟩

set_option maxRecDepth 1000000 in
set_option maxHeartbeats 1000000 in
theorem sameListR (w : World) (va vb : Value) (qs rs : List Rat) (ha : CansAt w va qs) (hb : CansAt w vb rs) :
    Calls Tryz.prog 44 #[va, vb] w fun e w' => e = .returned (.bool (decide (qs = rs))) ∧ Below w.heap.size w w' := by
  obtain ⟨A, c, rfl, hlc, hcm, hat⟩ := ha.at_
  obtain ⟨B, c', rfl, hlc', hcm', hbt⟩ := hb.at_
  have HA := Lib.hid hat
  have HB := Lib.hid hbt
  clear ha hb hat hbt
  obtain ⟨n, hn⟩ : ∃ n, qs.length = n := ⟨_, rfl⟩
  obtain ⟨p, hp⟩ : ∃ p, rs.length = p := ⟨_, rfl⟩
  rw [hn] at hlc ⊢
  rw [hp] at hlc' ⊢
  have HN := Lib.hid hn
  have HP := Lib.hid hp
  clear hn hp
  by_cases hne : n = p
  · subst hne
    go_enter Tryz.func44, Tryz.ntmps44
    go_wp2_with fail
    go_loopg [5] n (fun g i wr => ∃ (j : Nat), i = .int .i64 j ∧ j + g = n ∧ Hid (qs.take j = rs.take j) ∧ Hid (Below w.heap.size w wr))
    case atStart => exact ⟨0, rfl, by omega, Lib.hid rfl, Lib.hid (Below.refl _ _)⟩
    case round =>
      obtain ⟨j, rfl, hj, HQ, BEL⟩ := hrel
      have hsz : w.heap.size ≤ wr.heap.size := BEL.out.size
      rcases Nat.eq_zero_or_pos gk with h | h
      · obtain rfl : j = n := by omega
        have HT : Hid (decide (qs = rs) = true) := Lib.hid (decide_eq_true (by
          have := HQ.out
          rwa [List.take_of_length_le (by rw [HN.out]; exact Nat.le_refl _), List.take_of_length_le (by rw [HP.out]; exact Nat.le_refl _)] at this))
        go_wp2_with fail
        go_ret
        exact ⟨ret_bool HT.out.symm, BEL.out⟩
      · obtain ⟨g, rfl⟩ : ∃ g, gk = g + 1 := ⟨gk - 1, by omega⟩
        obtain ⟨x, hx⟩ : ∃ x, qs[j]? = some x := ⟨_, List.getElem?_eq_getElem (by rw [HN.out]; omega)⟩
        obtain ⟨y, hy⟩ : ∃ y, rs[j]? = some y := ⟨_, List.getElem?_eq_getElem (by rw [HP.out]; omega)⟩
        obtain ⟨ba, oa, a0, a1, a2, rfl, hba, ea0, ea1, ea2, fa⟩ := HA.out j x hx
        obtain ⟨bb, ob, b0, b1, b2, rfl, hbb, eb0, eb1, eb2, fb⟩ := HB.out j y hy
        have d0 := (BEL.out.cell (p := ⟨ba, oa + j * 3, none⟩) hba).trans ea0
        have d1 := (BEL.out.cell (p := ⟨ba, oa + j * 3 + 1, none⟩) hba).trans ea1
        have d2 := (BEL.out.cell (p := ⟨ba, oa + j * 3 + 2, none⟩) hba).trans ea2
        have f0 := (BEL.out.cell (p := ⟨bb, ob + j * 3, none⟩) hbb).trans eb0
        have f1 := (BEL.out.cell (p := ⟨bb, ob + j * 3 + 1, none⟩) hbb).trans eb1
        have f2 := (BEL.out.cell (p := ⟨bb, ob + j * 3 + 2, none⟩) hbb).trans eb2
        have FA := Lib.hid (fa.below BEL.out)
        have FB := Lib.hid (fb.below BEL.out)
        have HX := Lib.hid hx
        have HY := Lib.hid hy
        clear hx hy ea0 ea1 ea2 eb0 eb1 eb2 fa fb
        by_cases hxy : x = y
        · have SC : Hid (∀ W, W = wr.drew → Calls Tryz.prog 40 #[.agg #[a0, a1, a2], .agg #[b0, b1, b2]] W fun e w' => e = .returned (.bool true) ∧ Below W.heap.size W w') := Lib.hid (fun W e => by
            rw [e]
            have := sameR wr.drew _ _ x y (FA.out.below (below_drew_self _)) (FB.out.below (below_drew_self _))
            rwa [decide_eq_true hxy] at this)
          have HXY := Lib.hid hxy
          clear hxy
          go_wp2_with fail
          go_region_with ((go_at_call 40; refine (SC.out _ rfl).mono ?_; rintro e w1 ⟨rfl, hb1'⟩; have hb1 := below_of_drew hb1'; have B1 := Lib.hid (BEL.out.trans (hb1.mono hsz)); clear hb1 hb1'))
          all_goals
            go_wp2_with fail
            go_roundg g
            case measure => omega
            case rel => exact ⟨j + 1, rfl, by omega, Lib.hid (by rw [take_succ_get _ HX.out, take_succ_get _ HY.out, HQ.out, HXY.out]), B1⟩
        · have SC : Hid (∀ W, W = wr.drew → Calls Tryz.prog 40 #[.agg #[a0, a1, a2], .agg #[b0, b1, b2]] W fun e w' => e = .returned (.bool false) ∧ Below W.heap.size W w') := Lib.hid (fun W e => by
            rw [e]
            have := sameR wr.drew _ _ x y (FA.out.below (below_drew_self _)) (FB.out.below (below_drew_self _))
            rwa [decide_eq_false hxy] at this)
          have HF : Hid (decide (qs = rs) = false) := Lib.hid (decide_eq_false (fun e => hxy (by
            have h1 := HX.out
            rw [e, HY.out] at h1
            injection h1 with h1
            exact h1.symm)))
          clear hxy
          go_wp2_with fail
          go_region_with ((go_at_call 40; refine (SC.out _ rfl).mono ?_; rintro e w1 ⟨rfl, hb1'⟩; have hb1 := below_of_drew hb1'; have B1 := Lib.hid (BEL.out.trans (hb1.mono hsz)); clear hb1 hb1'))
          all_goals
            go_wp2_with fail
            go_ret
            exact ⟨ret_bool HF.out.symm, B1.out⟩
  · have hne' : ((n : Int) != (p : Int)) = true := by simp; omega
    have HF : Hid (decide (qs = rs) = false) := Lib.hid (decide_eq_false (fun h => hne (by rw [← HN.out, ← HP.out, h])))
    go_enter Tryz.func44, Tryz.ntmps44
    go_wp2_with fail
    go_ret
    exact ⟨ret_bool HF.out.symm, Below.refl _ _⟩
end Go.Proofs.YtjebfdfkjlkifaaGreat
