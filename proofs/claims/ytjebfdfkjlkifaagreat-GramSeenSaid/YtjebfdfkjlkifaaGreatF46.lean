/- Lemmas on the way: @2. -/
import Derived.Test.YtjebfdfkjlkifaaGreatE41
set_option linter.unusedSimpArgs false
set_option linter.unusedVariables false
set_option linter.unusedSectionVars false
set_option linter.unnecessarySimpa false
namespace Go.Proofs.YtjebfdfkjlkifaaGreat
open Go.RowKit
theorem mul_parts (s t : Bool) (a b c d : Nat) : mkRat (sgn s a) b * mkRat (sgn t c) d = mkRat (sgn (s != t) (a * c)) (b * d) := by
 rw [Rat.mkRat_mul_mkRat]
 congr 1
 unfold sgn
 cases s <;> cases t <;> simp [Int.natCast_mul, Int.neg_mul, Int.mul_neg]
theorem inv_parts (s : Bool) {a : Nat} (b : Nat) (ha : a ≠ 0) : (mkRat (sgn s a) b)⁻¹ = mkRat (sgn s b) a := by
 by_cases hb : b = 0
 ·subst hb
  have e : sgn s 0 = 0 := by cases s <;> simp [sgn]
  rw [e]
  simp
 have h1 : mkRat (sgn s a) b * mkRat (sgn s b) a = 1 := by
  rw [mul_parts, Nat.mul_comm b a]
  have e : (s != s) = false := by cases s <;> rfl
  rw [e]
  simp only [sgn]
  exact ((Rat.mkRat_eq_iff (n₁ := ((a * b : Nat) : Int)) (n₂ := 1) (d₁ := a * b) (d₂ := 1) (by have := Nat.mul_pos (Nat.pos_of_ne_zero ha) (Nat.pos_of_ne_zero hb); omega) (by omega)).2 (by omega)).trans rfl
 have h2 : mkRat (sgn s a) b ≠ 0 := fun e => by rw [e, Rat.zero_mul] at h1; exact absurd h1 (by decide)
 calc (mkRat (sgn s a) b)⁻¹ = (mkRat (sgn s a) b)⁻¹ * (mkRat (sgn s a) b * mkRat (sgn s b) a) := by rw [h1, Rat.mul_one]
  _ = mkRat (sgn s b) a := by rw [← Rat.mul_assoc, Rat.inv_mul_cancel _ h2, Rat.one_mul]
set_option maxRecDepth 1000000 in
set_option maxHeartbeats 1000000 in
theorem inverseR (w : World) (v : Value) (q : Rat) (k : Nat) (h : FracAt k w v q) (h0 : 0 < k) (hk : k ≤ 17592186044416) (hq : q ≠ 0) :
  Calls Tryz.prog 92 #[v] w fun e w' => ∃ v', e = .returned v' ∧ CanNew w.heap.size w' v' (q⁻¹) ∧ Below w.heap.size w w' := by
 obtain ⟨s, vn, vd, ln, ld, n, d, rfl, h1, h2, h3, h4, h5, h6, h7, h8, h9⟩ := h.parts h0
 have H1 := Lib.hid h1
 have H2 := Lib.hid h2
 have H3 := Lib.hid h3
 have H4 := Lib.hid h4
 have H5 := Lib.hid h5
 have H6 := Lib.hid h6
 have H7 := Lib.hid h7
 have H8 := Lib.hid h8
 have H9 := Lib.hid h9
 clear h h1 h2 h3 h4 h5 h6 h7 h8 h9
 have HN0 : Hid (n ≠ 0) := Lib.hid (fun e => hq (by rw [H5.out, num_zero_parts s (by have := H8.out; omega)]; exact e))
 have HQ : Hid (q⁻¹ = mkRat (sgn s d) n) := Lib.hid (by rw [H5.out, inv_parts s d HN0.out])
 clear hq
 rw [HQ.out]
 go_enter Tryz.func92, Tryz.ntmps92
 go_wp2_with fail
 obtain ⟨W, hW, P0, P1, PB, Phs⟩ := box2 w 40 [.bool s, vn, vd] 40 [.bool false, .slice none 0 0, .slice none 0 0]
 rw [← hW]
 clear hW
 obtain ⟨p0, p1, p2, _, _, _⟩ := P0.out.three
 go_region_held3 (fun w' => w'.cell? ⟨w.heap.size, 0, none⟩ = some (.bool s) ∧ w'.cell? ⟨w.heap.size, 1, none⟩ = some (vn) ∧ w'.cell? ⟨w.heap.size, 2, none⟩ = some (vd)) (first | assumption | (refine three_box3 hS ?_ _ _ _ <;> omega) | go_keep)
  (first
   | (go_at_call 99; refine (lowD _ _ _ _ ld d (H2.out.below (PB.out.trans (below_drew_self _))) H4.out).mono ?_; rintro e w1 ⟨v1, rfl, t1, hb1⟩; have S1 : Hid (Below W.heap.size W w1) := Lib.hid (by first | exact hb1 | exact below_of_drew hb1); have hs1 : W.heap.size ≤ w1.heap.size := S1.out.size; have T1 := Lib.hid t1; have hS := And.intro (P0.out.below' S1.out).three.1 (And.intro (P0.out.below' S1.out).three.2.1 (P0.out.below' S1.out).three.2.2.1); clear t1 hb1)
   | (go_at_call 98; refine (trimB w1 _ ln ((H1.out.below PB.out).below S1.out)).mono ?_; rintro e w2 ⟨v2, rfl, t2, hb2⟩; have S2 : Hid (Below w1.heap.size w1 w2) := Lib.hid hb2; have hs2 : w1.heap.size ≤ w2.heap.size := S2.out.size; have T2 := Lib.hid t2; have hS := And.intro (P0.out.below' (bcomp S1.out S2.out)).three.1 (And.intro (P0.out.below' (bcomp S1.out S2.out)).three.2.1 (P0.out.below' (bcomp S1.out S2.out)).three.2.2.1); clear t2 hb2)
   | (go_at_call 94; refine (make1N w2 s _ _ d n k (T1.out.below S2.out) (by have := T2.out; rwa [H3.out] at this) H7.out H6.out (by have := HN0.out; omega) h0 hk).mono ?_; rintro e w3 ⟨v3, rfl, t3, hb3⟩; have S3 : Hid (Below w2.heap.size w2 w3) := Lib.hid hb3; have hs3 : w2.heap.size ≤ w3.heap.size := S3.out.size; have T3 := Lib.hid t3; have hS := And.intro (P0.out.below' (bcomp (bcomp S1.out S2.out) S3.out)).three.1 (And.intro (P0.out.below' (bcomp (bcomp S1.out S2.out) S3.out)).three.2.1 (P0.out.below' (bcomp (bcomp S1.out S2.out) S3.out)).three.2.2.1); obtain ⟨A, m, c, A', m', c', rfl, ta, tb, tc, td⟩ := t3.open_; obtain ⟨r0, r1, r2, z0, z1, z2⟩ := (P1.out.below' (bcomp (bcomp S1.out S2.out) S3.out)).three; have TA := Lib.hid ta; have TB := Lib.hid tb; have TC := Lib.hid tc; have TD := Lib.hid td; clear ta tb tc td; clear t3 hb3))
 go_wp2_with fail
 refine bodyPost_ret (v := .agg #[.bool (isNeg (mkRat (sgn s d) n)), .slice A m c, .slice A' m' c']) (by simp [results, Tryz.results92, go_sem, r0, r1, r2]) rfl ⟨_, rfl, ?_, below_box3 (PB.out.trans (((bcomp (bcomp S1.out S2.out) S3.out)).mono (by omega))) (by omega) _ _ _⟩
 exact (CanNew.box3 TA.out TB.out TC.out TD.out (by omega) _ _ _).mono (by omega)
set_option maxRecDepth 1000000 in
set_option maxHeartbeats 1000000 in
theorem mulR (w : World) (v v' : Value) (q r : Rat) (k : Nat) (h : FracAt k w v q) (h' : FracAt k w v' r) (h0 : 0 < k) (hk : k ≤ 549755813888) :
  Calls Tryz.prog 91 #[v, v'] w fun e w' => ∃ u, e = .returned u ∧ CanNew w.heap.size w' u (q * r) ∧ Below w.heap.size w w' := by
 obtain ⟨s, vn, vd, ln, ld, n, d, rfl, h1, h2, h3, h4, h5, h6, h7, h8, h9⟩ := h.parts h0
 have H1 := Lib.hid h1
 have H2 := Lib.hid h2
 have H3 := Lib.hid h3
 have H4 := Lib.hid h4
 have H5 := Lib.hid h5
 have H6 := Lib.hid h6
 have H7 := Lib.hid h7
 have H8 := Lib.hid h8
 have H9 := Lib.hid h9
 clear h h1 h2 h3 h4 h5 h6 h7 h8 h9
 obtain ⟨t, vn', vd', ln', ld', n', d', rfl, h1, h2, h3, h4, h5, h6, h7, h8, h9⟩ := h'.parts h0
 have G1 := Lib.hid h1
 have G2 := Lib.hid h2
 have G3 := Lib.hid h3
 have G4 := Lib.hid h4
 have G5 := Lib.hid h5
 have G6 := Lib.hid h6
 have G7 := Lib.hid h7
 have G8 := Lib.hid h8
 have G9 := Lib.hid h9
 clear h' h1 h2 h3 h4 h5 h6 h7 h8 h9
 have HQ : Hid (q * r = mkRat (sgn (s != t) (n * n')) (d * d')) := Lib.hid (by rw [H5.out, G5.out, mul_parts])
 rw [HQ.out]
 go_enter Tryz.func91, Tryz.ntmps91
 go_wp2_with fail
 obtain ⟨W, hW, P0, P1, P2, PB, Phs⟩ := box3 w 40 [.bool s, vn, vd] 40 [.bool t, vn', vd'] 40 [.bool false, .slice none 0 0, .slice none 0 0]
 rw [← hW]
 clear hW
 obtain ⟨p0, p1, p2, _, _, _⟩ := P0.out.three
 obtain ⟨q0, q1, q2, _, _, _⟩ := P1.out.three
 go_region_held3 (fun w' => w'.cell? ⟨w.heap.size, 0, none⟩ = some (.bool s) ∧ w'.cell? ⟨w.heap.size, 1, none⟩ = some (vn) ∧ w'.cell? ⟨w.heap.size, 2, none⟩ = some (vd) ∧ w'.cell? ⟨w.heap.size + 1, 0, none⟩ = some (.bool t) ∧ w'.cell? ⟨w.heap.size + 1, 1, none⟩ = some (vn') ∧ w'.cell? ⟨w.heap.size + 1, 2, none⟩ = some (vd')) (first | assumption | (refine six_box3 hS ?_ ?_ _ _ _ <;> omega) | go_keep)
  (first
   | (go_at_call_of 98 (vn); refine (trimB _ _ ln (H1.out.below (PB.out.trans (below_drew_self _)))).mono ?_; rintro e w1 ⟨v1, rfl, t1, hb1⟩; have S1 : Hid (Below W.heap.size W w1) := Lib.hid (by first | exact hb1 | exact below_of_drew hb1); have hs1 : W.heap.size ≤ w1.heap.size := S1.out.size; have T1 := Lib.hid t1; have hS := six (P0.out.below' S1.out) (P1.out.below' S1.out); rw [H3.out] at t1; have T1 := Lib.hid t1; clear t1 hb1)
   | (go_at_call_of 98 (vn'); refine (trimB w1 _ ln' ((G1.out.below PB.out).below S1.out)).mono ?_; rintro e w2 ⟨v2, rfl, t2, hb2⟩; have S2 : Hid (Below w1.heap.size w1 w2) := Lib.hid hb2; have hs2 : w1.heap.size ≤ w2.heap.size := S2.out.size; have T2 := Lib.hid t2; have hS := six (P0.out.below' (bcomp S1.out S2.out)) (P1.out.below' (bcomp S1.out S2.out)); rw [G3.out] at t2; have T2 := Lib.hid t2; clear t2 hb2)
   | (go_at_call_of 97 (v1); refine (timesR w2 _ _ n n' k k (T1.out.below S2.out) T2.out H6.out G6.out (by omega) (by omega)).mono ?_; rintro e w3 ⟨v3, rfl, t3, hb3, _⟩; have S3 : Hid (Below w2.heap.size w2 w3) := Lib.hid hb3; have hs3 : w2.heap.size ≤ w3.heap.size := S3.out.size; have T3 := Lib.hid t3; have hS := six (P0.out.below' (bcomp (bcomp S1.out S2.out) S3.out)) (P1.out.below' (bcomp (bcomp S1.out S2.out) S3.out)); clear t3 hb3)
   | (go_at_call_of 99 (Value.agg #[.bool s, vn, vd]); refine (lowD w3 _ _ _ ld d ((H2.out.below PB.out).below (bcomp (bcomp S1.out S2.out) S3.out)) H4.out).mono ?_; rintro e w4 ⟨v4, rfl, t4, hb4⟩; have S4 : Hid (Below w3.heap.size w3 w4) := Lib.hid hb4; have hs4 : w3.heap.size ≤ w4.heap.size := S4.out.size; have T4 := Lib.hid t4; have hS := six (P0.out.below' (bcomp (bcomp (bcomp S1.out S2.out) S3.out) S4.out)) (P1.out.below' (bcomp (bcomp (bcomp S1.out S2.out) S3.out) S4.out)); clear t4 hb4)
   | (go_at_call_of 99 (Value.agg #[.bool t, vn', vd']); refine (lowD w4 _ _ _ ld' d' ((G2.out.below PB.out).below (bcomp (bcomp (bcomp S1.out S2.out) S3.out) S4.out)) G4.out).mono ?_; rintro e w5 ⟨v5, rfl, t5, hb5⟩; have S5 : Hid (Below w4.heap.size w4 w5) := Lib.hid hb5; have hs5 : w4.heap.size ≤ w5.heap.size := S5.out.size; have T5 := Lib.hid t5; have hS := six (P0.out.below' (bcomp (bcomp (bcomp (bcomp S1.out S2.out) S3.out) S4.out) S5.out)) (P1.out.below' (bcomp (bcomp (bcomp (bcomp S1.out S2.out) S3.out) S4.out) S5.out)); clear t5 hb5)
   | (go_at_call_of 97 (v4); refine (timesR w5 _ _ d d' k k (T4.out.below S5.out) T5.out H7.out G7.out (by omega) (by omega)).mono ?_; rintro e w6 ⟨v6, rfl, t6, hb6, _⟩; have S6 : Hid (Below w5.heap.size w5 w6) := Lib.hid hb6; have hs6 : w5.heap.size ≤ w6.heap.size := S6.out.size; have T6 := Lib.hid t6; have hS := six (P0.out.below' (bcomp (bcomp (bcomp (bcomp (bcomp S1.out S2.out) S3.out) S4.out) S5.out) S6.out)) (P1.out.below' (bcomp (bcomp (bcomp (bcomp (bcomp S1.out S2.out) S3.out) S4.out) S5.out) S6.out)); clear t6 hb6)
   | (go_at_call 94; refine (make1N w6 (s != t) _ _ (n * n') (d * d') (k + k) (((T3.out.below S4.out).below S5.out).below S6.out) T6.out (pow_mul_lt H6.out G6.out) (pow_mul_lt H7.out G7.out) (Nat.mul_pos H8.out G8.out) (by omega) (by omega)).mono ?_; rintro e w7 ⟨v7, rfl, t7, hb7⟩; have S7 : Hid (Below w6.heap.size w6 w7) := Lib.hid hb7; have hs7 : w6.heap.size ≤ w7.heap.size := S7.out.size; have T7 := Lib.hid t7; have hS := six (P0.out.below' (bcomp (bcomp (bcomp (bcomp (bcomp (bcomp S1.out S2.out) S3.out) S4.out) S5.out) S6.out) S7.out)) (P1.out.below' (bcomp (bcomp (bcomp (bcomp (bcomp (bcomp S1.out S2.out) S3.out) S4.out) S5.out) S6.out) S7.out)); obtain ⟨A, m, c, A', m', c', rfl, ta, tb, tc, td⟩ := t7.open_; obtain ⟨r0, r1, r2, z0, z1, z2⟩ := (P2.out.below' (bcomp (bcomp (bcomp (bcomp (bcomp (bcomp S1.out S2.out) S3.out) S4.out) S5.out) S6.out) S7.out)).three; have TA := Lib.hid ta; have TB := Lib.hid tb; have TC := Lib.hid tc; have TD := Lib.hid td; clear ta tb tc td; clear t7 hb7))
 go_wp2_with fail
 refine bodyPost_ret (v := .agg #[.bool (isNeg (mkRat (sgn (s != t) (n * n')) (d * d'))), .slice A m c, .slice A' m' c']) (by simp [results, Tryz.results91, go_sem, r0, r1, r2]) rfl ⟨_, rfl, ?_, below_box3 (PB.out.trans (((bcomp (bcomp (bcomp (bcomp (bcomp (bcomp S1.out S2.out) S3.out) S4.out) S5.out) S6.out) S7.out)).mono (by omega))) (by omega) _ _ _⟩
 exact (CanNew.box3 TA.out TB.out TC.out TD.out (by omega) _ _ _).mono (by omega)
set_option maxRecDepth 1000000 in
set_option maxHeartbeats 1000000 in
theorem divR (w : World) (v v' : Value) (q r : Rat) (k : Nat) (h : FracAt k w v q) (h' : FracAt k w v' r) (h0 : 0 < k) (hk : k ≤ 549755813888) (hr : r ≠ 0) :
  Calls Tryz.prog 31 #[v, v'] w fun e w' => ∃ u, e = .returned u ∧ CanNew w.heap.size w' u (q / r) ∧ Below w.heap.size w w' := by
 have H1 := Lib.hid h
 have H2 := Lib.hid h'
 have Q1 := Lib.hid (h.qb h0)
 have Q2 := Lib.hid (h'.qb h0)
 obtain ⟨s, vn, vd, rfl⟩ := h.shape
 obtain ⟨t, vn', vd', rfl⟩ := h'.shape
 clear h h'
 have HR := Lib.hid hr
 clear hr
 rw [Rat.div_def]
 go_enter Tryz.func31, Tryz.ntmps31
 go_wp2_with fail
 obtain ⟨W, hW, P0, P1, P2, PB, Phs⟩ := box3 w 40 [.bool s, vn, vd] 40 [.bool t, vn', vd'] 40 [.bool false, .slice none 0 0, .slice none 0 0]
 rw [← hW]
 clear hW
 obtain ⟨p0, p1, p2, _, _, _⟩ := P0.out.three
 obtain ⟨q0, q1, q2, _, _, _⟩ := P1.out.three
 go_region_held3 (fun w' => w'.cell? ⟨w.heap.size, 0, none⟩ = some (.bool s) ∧ w'.cell? ⟨w.heap.size, 1, none⟩ = some (vn) ∧ w'.cell? ⟨w.heap.size, 2, none⟩ = some (vd) ∧ w'.cell? ⟨w.heap.size + 1, 0, none⟩ = some (.bool t) ∧ w'.cell? ⟨w.heap.size + 1, 1, none⟩ = some (vn') ∧ w'.cell? ⟨w.heap.size + 1, 2, none⟩ = some (vd')) (first | assumption | (refine six_box3 hS ?_ ?_ _ _ _ <;> omega) | go_keep)
  (first
   | (go_at_call 92; refine (inverseR _ _ r k (H2.out.below (PB.out.trans (below_drew_self _))) h0 (by omega) HR.out).mono ?_; rintro e w1 ⟨v1, rfl, t1, hb1⟩; have S1 : Hid (Below W.heap.size W w1) := Lib.hid (by first | exact hb1 | exact below_of_drew hb1); have hs1 : W.heap.size ≤ w1.heap.size := S1.out.size; have T1 := Lib.hid t1; have hS := six (P0.out.below' S1.out) (P1.out.below' S1.out); clear t1 hb1)
   | (go_at_call 91; refine (mulR w1 _ _ q r⁻¹ k ((H1.out.below PB.out).below S1.out) (T1.out.at_.frac (Q2.out.inv h0) (by omega)) h0 hk).mono ?_; rintro e w2 ⟨v2, rfl, t2, hb2⟩; have S2 : Hid (Below w1.heap.size w1 w2) := Lib.hid hb2; have hs2 : w1.heap.size ≤ w2.heap.size := S2.out.size; have T2 := Lib.hid t2; have hS := six (P0.out.below' (bcomp S1.out S2.out)) (P1.out.below' (bcomp S1.out S2.out)); obtain ⟨A, m, c, A', m', c', rfl, ta, tb, tc, td⟩ := t2.open_; obtain ⟨r0, r1, r2, z0, z1, z2⟩ := (P2.out.below' (bcomp S1.out S2.out)).three; have TA := Lib.hid ta; have TB := Lib.hid tb; have TC := Lib.hid tc; have TD := Lib.hid td; clear ta tb tc td; clear t2 hb2))
 go_wp2_with fail
 refine bodyPost_ret (v := .agg #[.bool (isNeg (q * r⁻¹)), .slice A m c, .slice A' m' c']) (by simp [results, Tryz.results31, go_sem, r0, r1, r2]) rfl ⟨_, rfl, ?_, below_box3 (PB.out.trans (((bcomp S1.out S2.out)).mono (by omega))) (by omega) _ _ _⟩
 exact (CanNew.box3 TA.out TB.out TC.out TD.out (by omega) _ _ _).mono (by omega)
end Go.Proofs.YtjebfdfkjlkifaaGreat
