/- Lemmas on the way: @rI2, Frac8, Frac9, Frac10. -/
import Derived.Test.YtlhankdkhiilkaaGreatI09
set_option linter.unusedSimpArgs false
set_option linter.unusedVariables false
set_option linter.unusedSectionVars false
set_option linter.unnecessarySimpa false
namespace Go.Proofs.YtlhankdkhiilkaaGreat
open Go.RowKit
theorem box4 (w : World) (e : TypeId) (xs : List Value) (f : TypeId) (ys : List Value) (g : TypeId) (zs : List Value) (h : TypeId) (us : List Value) : ∃ W, W = (((((((w.alloc (.cells xs.toArray e))).alloc (.cells ys.toArray f))).alloc (.cells zs.toArray g))).alloc (.cells us.toArray h)) ∧ Hid (Blk W (w.heap.size) e xs) ∧ Hid (Blk W (w.heap.size + 1) f ys) ∧ Hid (Blk W (w.heap.size + 1 + 1) g zs) ∧ Hid (Blk W (w.heap.size + 1 + 1 + 1) h us) ∧ Hid (Below w.heap.size w W) ∧ w.heap.size + 4 ≤ W.heap.size := by
 obtain ⟨W, hW, h0, h1, h2, hb, hz⟩ := box3 w e xs f ys g zs
 have hs : W.heap.size = w.heap.size + 1 + 1 + 1 := by rw [hW]; simp only [World.size_alloc]
 have a := Blk.new W h us
 rw [hs] at a
 exact ⟨_, by rw [hW], Lib.hid (h0.out.alloc _), Lib.hid (h1.out.alloc _), Lib.hid (h2.out.alloc _), Lib.hid a, Lib.hid (hb.out.alloc (by omega) _), by rw [World.size_alloc]; omega⟩
def sumQ (qs : List Rat) : Rat := qs.foldl (· + ·) 0
def prodQ (qs : List Rat) : Rat := qs.foldl (· * ·) 1

theorem qb_sum {k : Nat} (qs : List Rat) (h : ∀ q ∈ qs, QB k q) (k0 : Nat) (q0 : Rat) (hq : QB k0 q0) : QB (k0 + qs.length * (k + 1)) (qs.foldl (· + ·) q0) := by
 induction qs generalizing k0 q0 with
 | nil => simpa using hq
 | cons q qs ih =>
  have := ih (fun x hx => h x (by simp [hx])) (k0 + k + 1) (q0 + q) (hq.add (h q (by simp)))
  refine this.mono ?_
  rw [List.length_cons, Nat.add_mul, Nat.one_mul]
  omega
theorem qb_prod {k : Nat} (qs : List Rat) (h : ∀ q ∈ qs, QB k q) (k0 : Nat) (q0 : Rat) (hq : QB k0 q0) : QB (k0 + qs.length * (k + 1)) (qs.foldl (· * ·) q0) := by
 induction qs generalizing k0 q0 with
 | nil => simpa using hq
 | cons q qs ih =>
  have := ih (fun x hx => h x (by simp [hx])) (k0 + k) (q0 * q) (hq.mul (h q (by simp)))
  refine this.mono ?_
  rw [List.length_cons, Nat.add_mul, Nat.one_mul]
  omega
theorem FracsAt.qb {k : Nat} {w : World} {v : Value} {qs : List Rat} (h : FracsAt k w v qs) (h0 : 0 < k) : ∀ q ∈ qs, QB k q := by
 intro q hq
 obtain ⟨cs, _, h2⟩ := h
 obtain ⟨i, hi, rfl⟩ := List.getElem_of_mem hq
 obtain ⟨_, _, _, _, _, _, h3⟩ := h2 i _ (List.getElem?_eq_getElem hi)
 exact h3.qb h0

set_option maxRecDepth 1000000 in
set_option maxHeartbeats 1000000 in
theorem sumF (w : World) (k : Nat) (lv : Value) (qs : List Rat) (hl : FracsAt k w lv qs) (h0 : 0 < k) (hk : (qs.length + 1) * (2 * k) ≤ 4398046511104) :
  Calls Tryz.prog 96 #[lv] w fun e w' => ∃ v', e = .returned v' ∧ CanNew w.heap.size w' v' (sumQ qs) ∧ Below w.heap.size w w' := by
 have HL := Lib.hid hl
 have QS : Hid (QB (k + qs.length * (k + 1)) (sumQ qs)) := Lib.hid (qb_sum qs (hl.qb h0) k 0 (qb_nat (n := 0) (Nat.pow_pos (by omega)) h0))
 have Q0 : Hid (QB k ((0 : Nat) : Rat)) := Lib.hid (qb_nat (n := 0) (Nat.pow_pos (by omega)) h0)
 have HK : Hid (k + qs.length * (k + 1) ≤ 17592186044416) := Lib.hid (by
  have h1 : qs.length * (k + 1) ≤ qs.length * (2 * k) := Nat.mul_le_mul_left _ (by omega)
  rw [Nat.add_mul, Nat.one_mul] at hk
  omega)
 have HK0 := Lib.hid hk
 have HZ : Hid (((0 : Nat) : Rat) = 0) := Lib.hid rfl
 clear hl hk
 go_enter Tryz.func96, Tryz.ntmps96
 go_wp2_with fail
 obtain ⟨W, hW, P0, PB, Phs⟩ := box1 w 27 [.bool false, .slice none 0 0, .slice none 0 0]
 rw [← hW]
 clear hW
 refine (wholeN W 0 (by omega)).mono ?_
 rintro e w1 ⟨v1, rfl, t1, hb1⟩
 have T1 := Lib.hid t1
 have B1 := Lib.hid hb1
 have L1 := Lib.hid ((HL.out.below PB.out).below hb1)
 clear t1 hb1
 go_wp2_with fail
 refine (foldAdd w1 _ k ((0 : Nat) : Rat) _ qs T1.out.at_ L1.out h0 Q0.out HK0.out).mono ?_
 rintro e w2 ⟨v2, rfl, t2, hb2⟩
 have T2 := Lib.hid t2
 have B2 := Lib.hid (B1.out.trans (hb2.mono B1.out.size))
 clear t2 hb2
 go_wp2_with fail
 refine (give w2 _ (sumQ qs) _ (by have := T2.out; rwa [HZ.out] at this) QS.out HK.out).mono ?_
 rintro e wz ⟨vz, rfl, tz, hz⟩
 have BZ := Lib.hid (B2.out.trans (hz.mono B2.out.size))
 have hsz : W.heap.size ≤ w2.heap.size := B2.out.size
 obtain ⟨A, m, c, A', m', c', rfl, ta, tb, tc, td⟩ := tz.open_
 obtain ⟨r0, r1, r2, z0, z1, z2⟩ := (P0.out.below' BZ.out).three
 have TA := Lib.hid ta
 have TB := Lib.hid tb
 have TC := Lib.hid tc
 have TD := Lib.hid td
 clear tz hz ta tb tc td
 go_wp2_with fail
 refine bodyPost_ret (v := .agg #[.bool (isNeg (sumQ qs)), .slice A m c, .slice A' m' c']) (by simp [results, Tryz.results96, go_sem, r0, r1, r2]) rfl ⟨_, rfl, ?_, below_box3 (PB.out.trans (BZ.out.mono (by omega))) (by omega) _ _ _⟩
 exact (CanNew.box3 TA.out TB.out TC.out TD.out (by omega) _ _ _).mono (by omega)

set_option maxRecDepth 1000000 in
set_option maxHeartbeats 1000000 in
theorem prodF (w : World) (k : Nat) (lv : Value) (qs : List Rat) (hl : FracsAt k w lv qs) (h0 : 0 < k) (hk : (qs.length + 1) * (2 * k) ≤ 4398046511104) :
  Calls Tryz.prog 34 #[lv] w fun e w' => ∃ v', e = .returned v' ∧ CanNew w.heap.size w' v' (prodQ qs) ∧ Below w.heap.size w w' := by
 have HL := Lib.hid hl
 have QS : Hid (QB (k + qs.length * (k + 1)) (prodQ qs)) := Lib.hid (qb_prod qs (hl.qb h0) k 1 (qb_nat (n := 1) (Nat.one_lt_two_pow (by omega)) h0))
 have Q0 : Hid (QB k ((1 : Nat) : Rat)) := Lib.hid (qb_nat (n := 1) (Nat.one_lt_two_pow (by omega)) h0)
 have HK : Hid (k + qs.length * (k + 1) ≤ 17592186044416) := Lib.hid (by
  have h1 : qs.length * (k + 1) ≤ qs.length * (2 * k) := Nat.mul_le_mul_left _ (by omega)
  rw [Nat.add_mul, Nat.one_mul] at hk
  omega)
 have HK0 := Lib.hid hk
 have HZ : Hid (((1 : Nat) : Rat) = 1) := Lib.hid rfl
 clear hl hk
 go_enter Tryz.func34, Tryz.ntmps34
 go_wp2_with fail
 obtain ⟨W, hW, P0, PB, Phs⟩ := box1 w 27 [.bool false, .slice none 0 0, .slice none 0 0]
 rw [← hW]
 clear hW
 refine (wholeN W 1 (by omega)).mono ?_
 rintro e w1 ⟨v1, rfl, t1, hb1⟩
 have T1 := Lib.hid t1
 have B1 := Lib.hid hb1
 have L1 := Lib.hid ((HL.out.below PB.out).below hb1)
 clear t1 hb1
 go_wp2_with fail
 refine (foldMul w1 _ k ((1 : Nat) : Rat) _ qs T1.out.at_ L1.out h0 Q0.out HK0.out).mono ?_
 rintro e w2 ⟨v2, rfl, t2, hb2⟩
 have T2 := Lib.hid t2
 have B2 := Lib.hid (B1.out.trans (hb2.mono B1.out.size))
 clear t2 hb2
 go_wp2_with fail
 refine (give w2 _ (prodQ qs) _ (by have := T2.out; rwa [HZ.out] at this) QS.out HK.out).mono ?_
 rintro e wz ⟨vz, rfl, tz, hz⟩
 have BZ := Lib.hid (B2.out.trans (hz.mono B2.out.size))
 have hsz : W.heap.size ≤ w2.heap.size := B2.out.size
 obtain ⟨A, m, c, A', m', c', rfl, ta, tb, tc, td⟩ := tz.open_
 obtain ⟨r0, r1, r2, z0, z1, z2⟩ := (P0.out.below' BZ.out).three
 have TA := Lib.hid ta
 have TB := Lib.hid tb
 have TC := Lib.hid tc
 have TD := Lib.hid td
 clear tz hz ta tb tc td
 go_wp2_with fail
 refine bodyPost_ret (v := .agg #[.bool (isNeg (prodQ qs)), .slice A m c, .slice A' m' c']) (by simp [results, Tryz.results34, go_sem, r0, r1, r2]) rfl ⟨_, rfl, ?_, below_box3 (PB.out.trans (BZ.out.mono (by omega))) (by omega) _ _ _⟩
 exact (CanNew.box3 TA.out TB.out TC.out TD.out (by omega) _ _ _).mono (by omega)

set_option maxRecDepth 1000000 in
set_option maxHeartbeats 1000000 in
theorem cmpF (w : World) (v v' : Value) (q r : Rat) (k : Nat) (h : FracAt k w v q) (h' : FracAt k w v' r) (h0 : 0 < k) (hk : k ≤ 4398046511104) :
  Calls Tryz.prog 16 #[v, v'] w fun e w' => e = .returned (.int .i64 (sgnI (q - r))) ∧ Below w.heap.size w w' := by
 have H1 := Lib.hid h
 have H2 := Lib.hid h'
 have Q1 := Lib.hid (h.qb h0)
 have Q2 := Lib.hid (h'.qb h0)
 obtain ⟨s, vn, vd, rfl⟩ := h.shape
 obtain ⟨t, vn', vd', rfl⟩ := h'.shape
 clear h h'
 go_enter Tryz.func16, Tryz.ntmps16
 go_wp2_with fail
 obtain ⟨W, hW, P0, P1, PB, Phs⟩ := box2 w 27 [.bool s, vn, vd] 27 [.bool t, vn', vd']
 rw [← hW]
 clear hW
 obtain ⟨p0, p1, p2, _, _, _⟩ := P0.out.three
 obtain ⟨q0, q1, q2, _, _, _⟩ := P1.out.three
 go_region_held3 (fun w' => w'.cell? ⟨w.heap.size, 0, none⟩ = some (.bool s) ∧ w'.cell? ⟨w.heap.size, 1, none⟩ = some vn ∧ w'.cell? ⟨w.heap.size, 2, none⟩ = some vd ∧ w'.cell? ⟨w.heap.size + 1, 0, none⟩ = some (.bool t) ∧ w'.cell? ⟨w.heap.size + 1, 1, none⟩ = some vn' ∧ w'.cell? ⟨w.heap.size + 1, 2, none⟩ = some vd') (first | assumption | (refine six_box3 hS ?_ ?_ _ _ _ <;> omega) | go_keep)
  (first
   | (go_at_call_of 30 (Value.bool s); refine (take _ _ q k ?_ h0 (by omega)).mono ?_; (exact H1.out.below (PB.out.trans (below_drew_self _))); rintro e w1 ⟨v1, rfl, t1, hb1'⟩; have hb1 := below_of_drew hb1'; have B1 := Lib.hid hb1; have hS := six (P0.out.below' hb1) (P1.out.below' hb1); have T1 := Lib.hid t1; have H2' := Lib.hid ((H2.out.below PB.out).below hb1); clear t1 hb1 hb1')
   | (go_at_call_of 30 (Value.bool t); refine (take w1 _ r k H2'.out h0 (by omega)).mono ?_; rintro e w2 ⟨v2, rfl, t2, hb2⟩; have B2 := Lib.hid (B1.out.trans (hb2.mono B1.out.size)); have hS := six (P0.out.below' B2.out) (P1.out.below' B2.out); have T2 := Lib.hid t2; have T1' := Lib.hid (T1.out.below hb2); clear t2 hb2)
   | (go_at_call 38; refine (minusN w2 _ r T2.out.at_).mono ?_; rintro e w3 ⟨v3, rfl, t3, hb3⟩; have B3 := Lib.hid (B2.out.trans (hb3.mono B2.out.size)); have hS := six (P0.out.below' B3.out) (P1.out.below' B3.out); have T3 := Lib.hid t3; have T1'' := Lib.hid (T1'.out.below hb3); clear t3 hb3)
   | (go_at_call 37; refine (addN w3 _ _ q (-r) k T1''.out.at_ T3.out Q1.out Q2.out.neg (by omega)).mono ?_; rintro e w4 ⟨v4, rfl, t4, hb4⟩; have B4 := Lib.hid (B3.out.trans (hb4.mono B3.out.size)); have hS := six (P0.out.below' B4.out) (P1.out.below' B4.out); have T4 := Lib.hid t4; clear t4 hb4)
   | (go_at_call 33; refine (signN w4 _ _ T4.out.at_).mono ?_; rintro e w5 ⟨rfl, hb5⟩; have B5 := Lib.hid (B4.out.trans (hb5.mono B4.out.size)); have hS := six (P0.out.below' B5.out) (P1.out.below' B5.out); clear hb5))
 go_wp2_with fail
 go_ret
 exact ⟨ret_i64 (by rw [Rat.sub_eq_add_neg]), PB.out.trans (B5.out.mono (by omega))⟩

theorem Blk.fracs2 {k : Nat} {w : World} {g : Nat} {e : TypeId} {a b c a' b' c' : Value} {q r : Rat} (h : Blk w g e [a, b, c, a', b', c']) (h1 : FracAt k w (.agg #[a, b, c]) q) (h2 : FracAt k w (.agg #[a', b', c']) r) :
  FracsAt k w (.slice (some ⟨g, 0, none⟩) 2 2) [q, r] := by
 refine ⟨[a, b, c, a', b', c'], h.sl (sz := 3) (n := 2) (c := 2) (by simp) (by omega) (by unfold maxLen; omega), fun i x hx => ?_⟩
 match i, hx with
 | 0, hx => simp at hx; subst hx; exact ⟨a, b, c, rfl, rfl, rfl, h1⟩
 | 1, hx => simp at hx; subst hx; exact ⟨a', b', c', rfl, rfl, rfl, h2⟩

set_option maxRecDepth 1000000 in
set_option maxHeartbeats 1000000 in
theorem addF (w : World) (v v' : Value) (q r : Rat) (k : Nat) (h : FracAt k w v q) (h' : FracAt k w v' r) (h0 : 0 < k) (hk : k ≤ 549755813888) :
  Calls Tryz.prog 56 #[v, v'] w fun e w' => ∃ u, e = .returned u ∧ CanNew w.heap.size w' u (q + r) ∧ Below w.heap.size w w' := by
 have H1 := Lib.hid h
 have H2 := Lib.hid h'
 have HE : Hid (sumQ [q, r] = q + r) := Lib.hid (by simp [sumQ, Rat.zero_add])
 obtain ⟨s, vn, vd, rfl⟩ := h.shape
 obtain ⟨t, vn', vd', rfl⟩ := h'.shape
 clear h h'
 go_enter Tryz.func56, Tryz.ntmps56
 go_wp2_with fail
 obtain ⟨W, hW, P0, P1, P2, P3, PB, Phs⟩ := box4 w 27 [.bool s, vn, vd] 27 [.bool t, vn', vd'] 27 [.bool false, .slice none 0 0, .slice none 0 0] 27 [.bool s, vn, vd, .bool t, vn', vd']
 rw [← hW]
 clear hW
 refine (sumF W k _ [q, r] (P3.out.fracs2 (H1.out.below PB.out) (H2.out.below PB.out)) h0 (by simp; omega)).mono ?_
 rw [HE.out]
 rintro e wz ⟨vz, rfl, tz, hz⟩
 have BZ := Lib.hid ((Below.refl W.heap.size W).trans (hz.mono (Nat.le_refl W.heap.size)))
 have hsz : W.heap.size ≤ W.heap.size := (Nat.le_refl W.heap.size)
 obtain ⟨A, m, c, A', m', c', rfl, ta, tb, tc, td⟩ := tz.open_
 obtain ⟨r0, r1, r2, z0, z1, z2⟩ := (P2.out.below' BZ.out).three
 have TA := Lib.hid ta
 have TB := Lib.hid tb
 have TC := Lib.hid tc
 have TD := Lib.hid td
 clear tz hz ta tb tc td
 go_wp2_with fail
 refine bodyPost_ret (v := .agg #[.bool (isNeg (q + r)), .slice A m c, .slice A' m' c']) (by simp [results, Tryz.results56, go_sem, r0, r1, r2]) rfl ⟨_, rfl, ?_, below_box3 (PB.out.trans (BZ.out.mono (by omega))) (by omega) _ _ _⟩
 exact (CanNew.box3 TA.out TB.out TC.out TD.out (by omega) _ _ _).mono (by omega)

set_option maxRecDepth 1000000 in
set_option maxHeartbeats 1000000 in
theorem mulF (w : World) (v v' : Value) (q r : Rat) (k : Nat) (h : FracAt k w v q) (h' : FracAt k w v' r) (h0 : 0 < k) (hk : k ≤ 549755813888) :
  Calls Tryz.prog 14 #[v, v'] w fun e w' => ∃ u, e = .returned u ∧ CanNew w.heap.size w' u (q * r) ∧ Below w.heap.size w w' := by
 have H1 := Lib.hid h
 have H2 := Lib.hid h'
 have HE : Hid (prodQ [q, r] = q * r) := Lib.hid (by simp [prodQ, Rat.one_mul])
 obtain ⟨s, vn, vd, rfl⟩ := h.shape
 obtain ⟨t, vn', vd', rfl⟩ := h'.shape
 clear h h'
 go_enter Tryz.func14, Tryz.ntmps14
 go_wp2_with fail
 obtain ⟨W, hW, P0, P1, P2, P3, PB, Phs⟩ := box4 w 27 [.bool s, vn, vd] 27 [.bool t, vn', vd'] 27 [.bool false, .slice none 0 0, .slice none 0 0] 27 [.bool s, vn, vd, .bool t, vn', vd']
 rw [← hW]
 clear hW
 refine (prodF W k _ [q, r] (P3.out.fracs2 (H1.out.below PB.out) (H2.out.below PB.out)) h0 (by simp; omega)).mono ?_
 rw [HE.out]
 rintro e wz ⟨vz, rfl, tz, hz⟩
 have BZ := Lib.hid ((Below.refl W.heap.size W).trans (hz.mono (Nat.le_refl W.heap.size)))
 have hsz : W.heap.size ≤ W.heap.size := (Nat.le_refl W.heap.size)
 obtain ⟨A, m, c, A', m', c', rfl, ta, tb, tc, td⟩ := tz.open_
 obtain ⟨r0, r1, r2, z0, z1, z2⟩ := (P2.out.below' BZ.out).three
 have TA := Lib.hid ta
 have TB := Lib.hid tb
 have TC := Lib.hid tc
 have TD := Lib.hid td
 clear tz hz ta tb tc td
 go_wp2_with fail
 refine bodyPost_ret (v := .agg #[.bool (isNeg (q * r)), .slice A m c, .slice A' m' c']) (by simp [results, Tryz.results14, go_sem, r0, r1, r2]) rfl ⟨_, rfl, ?_, below_box3 (PB.out.trans (BZ.out.mono (by omega))) (by omega) _ _ _⟩
 exact (CanNew.box3 TA.out TB.out TC.out TD.out (by omega) _ _ _).mono (by omega)
set_option maxRecDepth 1000000 in
set_option maxHeartbeats 1000000 in
theorem divF (w : World) (v v' : Value) (q r : Rat) (k : Nat) (h : FracAt k w v q) (h' : FracAt k w v' r) (h0 : 0 < k) (hk : k ≤ 549755813888) (hr : r ≠ 0) :
  Calls Tryz.prog 207 #[v, v'] w fun e w' => ∃ u, e = .returned (.tuple #[u, .int .i64 0]) ∧ CanNew w.heap.size w' u (q / r) ∧ Below w.heap.size w w' := by
 have H1 := Lib.hid h
 have H2 := Lib.hid h'
 have Q1 := Lib.hid (h.qb h0)
 have Q2 := Lib.hid (h'.qb h0)
 have HR := Lib.hid hr
 obtain ⟨s, vn, vd, rfl⟩ := h.shape
 obtain ⟨t, vn', vd', rfl⟩ := h'.shape
 clear h h' hr
 rw [Rat.div_def]
 go_enter Tryz.func207, Tryz.ntmps207
 go_wp2_with fail
 obtain ⟨W, hW, P0, P1, P2, PB, Phs⟩ := box3 w 27 [.bool s, vn, vd] 27 [.bool t, vn', vd'] 27 [.bool false, .slice none 0 0, .slice none 0 0]
 rw [← hW]
 clear hW
 refine (take W _ r k (H2.out.below PB.out) h0 (by omega)).mono ?_
 rintro e w1 ⟨v1, rfl, t1, hb1⟩
 obtain ⟨Ay, my, cy, Ay', my', cy', rfl, ta, tb, tc, td⟩ := t1.open_
 have T1 := Lib.hid t1
 have B1 := Lib.hid hb1
 have H1' := Lib.hid ((H1.out.below PB.out).below hb1)
 clear t1 hb1 ta tb tc td
 generalize isNeg r = sy at *
 go_wp2_with fail
 obtain ⟨W1, hW1⟩ : ∃ W1, W1 = w1.alloc (.cells #[.bool sy, .slice Ay my cy, .slice Ay' my' cy'] 97) := ⟨_, rfl⟩
 rw [← hW1]
 have Y1 : Hid (Blk W1 w1.heap.size 97 [.bool sy, .slice Ay my cy, .slice Ay' my' cy']) := Lib.hid (by rw [hW1]; exact Blk.new w1 _ _)
 have BW1 : Hid (Below w1.heap.size w1 W1) := Lib.hid (by rw [hW1]; exact (Below.refl _ _).alloc (Nat.le_refl _) _)
 have ZC := zeroN W1 _ r (T1.out.at_.below BW1.out)
 rw [decide_eq_false HR.out] at ZC
 have HZC := Lib.hid ZC
 have hs1 : W.heap.size ≤ w1.heap.size := B1.out.size
 clear ZC hW1
 refine HZC.out.mono ?_
 rintro e w2 ⟨rfl, hb2⟩
 have hs2 : w1.heap.size + 1 ≤ w2.heap.size := by have := hb2.size; have := Y1.out.lt; omega
 have B12 := Lib.hid (BW1.out.trans (hb2.mono (by have := Y1.out.lt; omega)))
 have B2 := Lib.hid (B1.out.trans (B12.out.mono hs1))
 have Y2 := Lib.hid (Y1.out.below' hb2)
 have X2 := Lib.hid (P0.out.below' B2.out)
 have H1'' := Lib.hid (H1'.out.below B12.out)
 have TY := Lib.hid (T1.out.below B12.out)
 clear hb2
 obtain ⟨y0, y1, y2, _, _, _⟩ := Y2.out.three
 obtain ⟨p0, p1, p2, _, _, _⟩ := X2.out.three
 go_wp2_with fail
 go_region_held3 (fun w' => w'.cell? ⟨w.heap.size, 0, none⟩ = some (.bool s) ∧ w'.cell? ⟨w.heap.size, 1, none⟩ = some vn ∧ w'.cell? ⟨w.heap.size, 2, none⟩ = some vd ∧ w'.cell? ⟨w1.heap.size, 0, none⟩ = some (.bool sy) ∧ w'.cell? ⟨w1.heap.size, 1, none⟩ = some (.slice Ay my cy) ∧ w'.cell? ⟨w1.heap.size, 2, none⟩ = some (.slice Ay' my' cy')) (first | assumption | (refine six_box3 hS ?_ ?_ _ _ _ <;> omega) | go_keep)
  (first
   | (go_at_call 30; refine (take _ _ q k ?_ h0 (by omega)).mono ?_; (exact H1''.out.below (below_drew_self _)); rintro e w3 ⟨v3, rfl, t3, hb3'⟩; have hb3 := below_of_drew hb3'; have B3 := Lib.hid hb3; have hS := six (X2.out.below' hb3) (Y2.out.below' hb3); have T3 := Lib.hid t3; have TY3 := Lib.hid (TY.out.below hb3); clear t3 hb3 hb3')
   | (go_at_call 208; refine (inverseN w3 _ r TY3.out.at_ HR.out).mono ?_; rintro e w4 ⟨v4, rfl, t4, hb4⟩; have B4 := Lib.hid (B3.out.trans (hb4.mono B3.out.size)); have hS := six (X2.out.below' B4.out) (Y2.out.below' B4.out); have T4 := Lib.hid t4; have T3' := Lib.hid (T3.out.below hb4); clear t4 hb4)
   | (go_at_call 73; refine (mulN w4 _ _ q r⁻¹ k T3'.out.at_ T4.out Q1.out (Q2.out.inv h0) (by omega)).mono ?_; rintro e w5 ⟨v5, rfl, t5, hb5⟩; have B5 := Lib.hid (B4.out.trans (hb5.mono B4.out.size)); have hS := six (X2.out.below' B5.out) (Y2.out.below' B5.out); have T5 := Lib.hid t5; clear t5 hb5)
   | (go_at_call 31; refine (give w5 _ (q * r⁻¹) (k + k) T5.out.at_ (Q1.out.mul (Q2.out.inv h0)) (by omega)).mono ?_; rintro e w6 ⟨v6, rfl, t6, hb6⟩; have B6 := Lib.hid (B5.out.trans (hb6.mono B5.out.size)); have hs6 : w2.heap.size ≤ w5.heap.size := B5.out.size; have hS := six (X2.out.below' B6.out) (Y2.out.below' B6.out); obtain ⟨A, m, c, A', m', c', rfl, ta, tb, tc, td⟩ := t6.open_; have PR := P2.out.below' (B2.out.trans (B6.out.mono (by omega))); obtain ⟨r0, r1, r2, z0, z1, z2⟩ := PR.three; have TA := Lib.hid ta; have TB := Lib.hid tb; have TC := Lib.hid tc; have TD := Lib.hid td; clear t6 hb6 PR ta tb tc td))
 go_wp2_with fail
 refine bodyPost_ret (v := .tuple #[.agg #[.bool (isNeg (q * r⁻¹)), .slice A m c, .slice A' m' c'], .int .i64 0]) (by simp [results, Tryz.results207, go_sem, r0, r1, r2, List.mapM_cons]) rfl ⟨_, rfl, ?_, below_box3 (PB.out.trans ((B2.out.trans (B6.out.mono (by omega))).mono (by omega))) (by omega) _ _ _⟩
 exact (CanNew.box3 TA.out TB.out TC.out TD.out (by omega) _ _ _).mono (by omega)
set_option maxRecDepth 1000000 in
set_option maxHeartbeats 1000000 in
theorem negF (w : World) (v : Value) (q : Rat) (k : Nat) (h : FracAt k w v q) (h0 : 0 < k) (hk : k ≤ 17592186044416) :
  Calls Tryz.prog 161 #[v] w fun e w' => e = .returned (.bool (decide (sgnI q < 0))) ∧ Below w.heap.size w w' := by
 have HF := Lib.hid h
 obtain ⟨neg, vn, vd, rfl⟩ := h.shape
 clear h
 go_enter Tryz.func161, Tryz.ntmps161
 go_wp2_with fail
 obtain ⟨W, hW, P0, PB, Phs⟩ := box1 w 27 [.bool neg, vn, vd]
 rw [← hW]
 clear hW
 refine (signF W _ q k (HF.out.below PB.out) h0 hk).mono ?_
 rintro e w1 ⟨rfl, hb1⟩
 have B1 := Lib.hid (PB.out.trans (hb1.mono (by omega)))
 clear hb1
 go_wp2_with fail
 go_ret
 exact ⟨rfl, B1.out⟩

def firstNeg : List Rat → Nat → Int
 | [], _ => -1
 | q :: l, j => if sgnI q < 0 then j else firstNeg l (j + 1)

theorem firstNeg_drop {qs : List Rat} {j : Nat} {x : Rat} (h : qs[j]? = some x) : firstNeg (qs.drop j) j = if sgnI x < 0 then (j : Int) else firstNeg (qs.drop (j + 1)) (j + 1) := by
 have hj : j < qs.length := (List.getElem?_eq_some_iff.1 h).1
 rw [List.drop_eq_getElem_cons hj]
 have : qs[j] = x := by rw [List.getElem?_eq_getElem hj] at h; injection h
 rw [this]; rfl

set_option maxRecDepth 1000000 in
set_option maxHeartbeats 1000000 in
theorem indexNeg (w : World) (k : Nat) (lv : Value) (qs : List Rat) (hl : FracsAt k w lv qs) (h0 : 0 < k) (hk : k ≤ 17592186044416) (hn : qs.length < 9223372036854775807) :
  Calls Tryz.prog 180 #[lv, .func (.func 161) #[] #[]] w fun e w' => e = .returned (.int .i64 (firstNeg qs 0)) ∧ Below w.heap.size w w' := by
 obtain ⟨A, c, rfl, hlc, hcm, hat⟩ := hl.at_
 have HAT := Lib.hid hat
 clear hl hat
 obtain ⟨n, hn'⟩ : ∃ n, qs.length = n := ⟨_, rfl⟩
 have HLN := Lib.hid hn'
 rw [hn'] at hlc hn ⊢
 clear hn'
 go_enter Tryz.func180, Tryz.ntmps180
 go_wp2_with fail
 go_loopg [5, 8] n (fun g _ i wr => ∃ (j : Nat), i = .int .i64 j ∧ j + g = n ∧ Hid (firstNeg qs 0 = firstNeg (qs.drop j) j) ∧ Below w.heap.size w wr)
 case atStart => exact ⟨0, rfl, by omega, Lib.hid rfl, Below.refl _ _⟩
 case round =>
  obtain ⟨j, rfl, hj, HQ, hbel⟩ := hrel
  have BEL := Lib.hid hbel
  have hsz : w.heap.size ≤ wr.heap.size := hbel.size
  clear hbel
  rcases Nat.eq_zero_or_pos gk with h | h
  ·obtain rfl : j = n := by omega
   go_wp2_with fail
   go_ret
   refine ⟨?_, BEL.out⟩
   rw [HQ.out, List.drop_eq_nil_of_le (by rw [HLN.out]; exact Nat.le_refl _)]
   rfl
  ·obtain ⟨g, rfl⟩ : ∃ g, gk = g + 1 := ⟨gk - 1, by omega⟩
   obtain ⟨x, hx⟩ : ∃ x, qs[j]? = some x := ⟨_, List.getElem?_eq_getElem (by rw [HLN.out]; omega)⟩
   obtain ⟨bb, off, neg, An, nn, cn, Ad, nd, cd, rfl, hbb, e0, e1, e2, hfr⟩ := HAT.out j x hx
   have d0 := (BEL.out.cell (p := ⟨bb, off + j * 3, none⟩) hbb).trans e0
   have d1 := (BEL.out.cell (p := ⟨bb, off + j * 3 + 1, none⟩) hbb).trans e1
   have d2 := (BEL.out.cell (p := ⟨bb, off + j * 3 + 2, none⟩) hbb).trans e2
   have FR := Lib.hid (hfr.below BEL.out)
   have DR := Lib.hid (firstNeg_drop hx)
   clear hx e0 e1 e2 hfr
   have hlt : (j : Int) < (n : Int) := by omega
   go_wp2_with fail
   have NC := negF wr _ x k FR.out h0 hk
   cases hd : decide (sgnI x < 0) with
   | true =>
    rw [hd] at NC
    have HD := Lib.hid hd
    clear hd
    refine NC.mono ?_
    rintro e w1 ⟨rfl, hb1⟩
    have B1 := Lib.hid hb1
    clear hb1
    go_wp2_with fail
    go_ret
    refine ⟨?_, BEL.out.trans (B1.out.mono hsz)⟩
    rw [HQ.out, DR.out, if_pos (of_decide_eq_true HD.out)]
    rfl
   | false =>
    rw [hd] at NC
    have HD := Lib.hid hd
    clear hd
    refine NC.mono ?_
    rintro e w1 ⟨rfl, hb1⟩
    have B1 := Lib.hid hb1
    clear hb1
    go_wp2_with fail
    go_roundg g
    case measure => omega
    case rel =>
     refine ⟨j + 1, rfl, by omega, Lib.hid ?_, BEL.out.trans (B1.out.mono hsz)⟩
     rw [HQ.out, DR.out, if_neg (of_decide_eq_false HD.out)]

set_option maxRecDepth 1000000 in
set_option maxHeartbeats 1000000 in
theorem containsNeg (w : World) (k : Nat) (lv : Value) (qs : List Rat) (hl : FracsAt k w lv qs) (h0 : 0 < k) (hk : k ≤ 17592186044416) (hn : qs.length < 9223372036854775807) :
  Calls Tryz.prog 160 #[lv, .func (.func 161) #[] #[]] w fun e w' => e = .returned (.bool (decide (0 ≤ firstNeg qs 0))) ∧ Below w.heap.size w w' := by
 obtain ⟨A, c, rfl, hlc, hcm, _⟩ := hl.at_
 have IC := indexNeg w k _ qs hl h0 hk hn
 clear hl
 generalize firstNeg qs 0 = r at *
 go_enter Tryz.func160, Tryz.ntmps160
 go_wp2_with fail
 refine IC.mono ?_
 rintro e w1 ⟨rfl, hb1⟩
 have B1 := Lib.hid hb1
 clear hb1
 go_wp2_with fail
 go_ret
 exact ⟨by simp, B1.out⟩

def distr (qs : List Rat) : Bool := !decide (0 ≤ firstNeg qs 0) && decide (sgnI (sumQ qs - 1) = 0)

set_option maxRecDepth 1000000 in
set_option maxHeartbeats 1000000 in
theorem distributionF (w : World) (k : Nat) (lv : Value) (qs : List Rat) (hl : FracsAt k w lv qs) (h0 : 0 < k) (hk : (qs.length + 1) * (2 * k) ≤ 2199023255552) :
  Calls Tryz.prog 129 #[lv] w fun e w' => e = .returned (.bool (distr qs)) ∧ Below w.heap.size w w' := by
 have hks : (qs.length + 1) * 2 ≤ (qs.length + 1) * (2 * k) := Nat.mul_le_mul_left _ (by omega)
 have hkl : 1 * (2 * k) ≤ (qs.length + 1) * (2 * k) := Nat.mul_le_mul_right _ (by omega)
 have CN := containsNeg w k lv qs hl h0 (by omega) (by omega)
 have HL := Lib.hid hl
 obtain ⟨A, c, rfl, hlc, hcm, _⟩ := hl.at_
 clear hl
 unfold distr
 go_enter Tryz.func129, Tryz.ntmps129
 go_wp2_with fail
 cases hd : decide (0 ≤ firstNeg qs 0) with
 | true =>
  rw [hd] at CN
  refine CN.mono ?_
  rintro e w1 ⟨rfl, hb1⟩
  have B1 := Lib.hid hb1
  have HD := Lib.hid hd
  clear hb1 hd
  go_wp2_with fail
  go_ret
  exact ⟨by rw [HD.out]; rfl, B1.out⟩
 | false =>
  rw [hd] at CN
  refine CN.mono ?_
  rintro e w1 ⟨rfl, hb1⟩
  have B1 := Lib.hid hb1
  have H1 := Lib.hid (HL.out.below hb1)
  have hs1 : w.heap.size ≤ w1.heap.size := hb1.size
  have HD := Lib.hid hd
  clear hb1 hd
  have QS : Hid (QB ((qs.length + 1) * (2 * k)) (sumQ qs)) := Lib.hid ((qb_sum qs (HL.out.qb h0) k 0 (qb_nat (n := 0) (Nat.pow_pos (by omega)) h0)).mono (by
   have : qs.length * (k + 1) ≤ qs.length * (2 * k) := Nat.mul_le_mul_left _ (by omega)
   rw [Nat.add_mul]; omega))
  have Q1 : Hid (QB ((qs.length + 1) * (2 * k)) ((1 : Nat) : Rat)) := Lib.hid (qb_nat (Nat.one_lt_two_pow (by omega)) (by omega))
  have HZ : Hid ((decide (sgnI (sumQ qs - (1 : Nat)) = 0)) = (decide (sgnI (sumQ qs - 1) = 0))) := Lib.hid rfl
  go_wp2_with fail
  refine (sumF w1 k _ qs H1.out h0 (by omega)).mono ?_
  rintro e w2 ⟨v2, rfl, t2, hb2⟩
  have B2 := Lib.hid (B1.out.trans (hb2.mono hs1))
  have T2 := Lib.hid t2
  have hs2 : w1.heap.size ≤ w2.heap.size := hb2.size
  clear t2 hb2
  go_wp2_with fail
  refine (ofN w2 1 (by omega)).mono ?_
  rintro e w3 ⟨v3, rfl, t3, hb3⟩
  have B3 := Lib.hid (B2.out.trans (hb3.mono (by omega)))
  have F2 := Lib.hid ((T2.out.below hb3).at_.frac QS.out (by omega))
  have F3 := Lib.hid (t3.at_.frac Q1.out (by omega))
  have hs3 : w2.heap.size ≤ w3.heap.size := hb3.size
  clear t3 hb3
  go_wp2_with fail
  refine (cmpF w3 v2 v3 (sumQ qs) (1 : Nat) _ F2.out F3.out (by omega) (by omega)).mono ?_
  rintro e w4 ⟨rfl, hb4⟩
  have B4 := Lib.hid (B3.out.trans (hb4.mono (by omega)))
  clear hb4
  go_wp2_with fail
  go_ret
  refine ⟨?_, B4.out⟩
  rw [HD.out, ← HZ.out]
  rfl
end Go.Proofs.YtlhankdkhiilkaaGreat
