/- Lemmas on the way: SmQ, Wa1, Rw3, Wt1. -/
import Derived.Test.YtjebfdfkjlkifaaGreatE42
import Derived.Test.YtjebfdfkjlkifaaGreatC37
set_option linter.unusedSimpArgs false
set_option linter.unusedVariables false
set_option linter.unusedSectionVars false
set_option linter.unnecessarySimpa false
namespace Go.Proofs.YtjebfdfkjlkifaaGreat
open Go.RowKit
def sumTo (f : Nat → Rat) : Nat → Rat
 | 0 => 0
 | n + 1 => sumTo f n + f n
theorem foldl_sum (l : List Rat) (a : Rat) : l.foldl (· + ·) a = a + sumQ l := by
 induction l generalizing a with
 | nil => simp only [sumQ, List.foldl_nil]; rw [Rat.add_zero]
 | cons x l ih =>
  unfold sumQ at ih ⊢
  rw [List.foldl_cons, List.foldl_cons, ih, ih (0 + x)]
  rw [Rat.zero_add, Rat.add_assoc]
theorem sumQ_append (l r : List Rat) : sumQ (l ++ r) = sumQ l + sumQ r := by
 unfold sumQ
 rw [List.foldl_append, foldl_sum r]
 rfl
theorem sumQ_map (f : Nat → Rat) (n : Nat) : sumQ ((List.range n).map f) = sumTo f n := by
 induction n with
 | zero => rfl
 | succ n ih =>
  rw [List.range_succ, List.map_append, sumQ_append, ih]
  show _ + sumQ [f n] = sumTo f n + f n
  rw [show sumQ [f n] = f n from by simp only [sumQ, List.foldl_cons, List.foldl_nil]; rw [Rat.zero_add]]
theorem sumTo_getD (l : List Rat) : sumTo (fun j => l.getD j 0) l.length = sumQ l := by
 rw [← sumQ_map]
 congr 1
 apply List.ext_getElem?
 intro i
 by_cases hi : i < l.length
 ·rw [List.getElem?_map, List.getElem?_range hi, List.getElem?_eq_getElem hi]
  simp [List.getD_eq_getElem?_getD, List.getElem?_eq_getElem hi]
 ·rw [List.getElem?_eq_none_iff.2 (by simp; omega), List.getElem?_eq_none_iff.2 (by omega)]
theorem sumTo_congr {f g : Nat → Rat} {n : Nat} (h : ∀ x < n, f x = g x) : sumTo f n = sumTo g n := by
 induction n with
 | zero => rfl
 | succ n ih =>
  show sumTo f n + f n = sumTo g n + g n
  rw [ih (fun x hx => h x (by omega)), h n (by omega)]
theorem sumTo_mul (f : Nat → Rat) (c : Rat) (n : Nat) : sumTo (fun x => c * f x) n = c * sumTo f n := by
 induction n with
 | zero => show (0 : Rat) = c * 0; rw [Rat.mul_zero]
 | succ n ih => show sumTo (fun x => c * f x) n + c * f n = c * (sumTo f n + f n); rw [ih, Rat.mul_add]
theorem sumTo_div (f : Nat → Rat) (c : Rat) (n : Nat) : sumTo (fun x => f x / c) n = sumTo f n / c := by
 induction n with
 | zero => show (0 : Rat) = 0 / c; rw [Rat.div_def, Rat.zero_mul]
 | succ n ih =>
  show sumTo (fun x => f x / c) n + f n / c = (sumTo f n + f n) / c
  rw [ih, Rat.div_def, Rat.div_def, Rat.div_def, Rat.add_mul]
theorem sumTo_add (f g : Nat → Rat) (n : Nat) : sumTo (fun x => f x + g x) n = sumTo f n + sumTo g n := by
 induction n with
 | zero => show (0 : Rat) = 0 + 0; rw [Rat.add_zero]
 | succ n ih =>
  show sumTo (fun x => f x + g x) n + (f n + g n) = (sumTo f n + f n) + (sumTo g n + g n)
  rw [ih]
  grind
theorem sumTo_const (c : Rat) (n : Nat) : sumTo (fun _ => c) n = c * (n : Rat) := by
 induction n with
 | zero => show (0 : Rat) = c * ((0 : Nat) : Rat); rw [show ((0 : Nat) : Rat) = 0 from rfl, Rat.mul_zero]
 | succ n ih =>
  show sumTo (fun _ => c) n + c = c * ((n + 1 : Nat) : Rat)
  rw [ih, show ((n + 1 : Nat) : Rat) = (n : Rat) + 1 from by push_cast; rfl, Rat.mul_add, Rat.mul_one]
theorem sumTo_cast (C : Int → Int) (v : Nat) : sumTo (fun x => (C (x : Int) : Rat)) (v + 1) = (sumC C v : Rat) := by
 induction v with
 | zero => show (0 : Rat) + (C 0 : Rat) = _; rw [Rat.zero_add, sumC_zero]
 | succ v ih =>
  show sumTo (fun x => (C (x : Int) : Rat)) (v + 1) + (C ((v + 1 : Nat) : Int) : Rat) = _
  rw [ih, sumC_succ, Rat.intCast_add]
theorem div_self' {a : Rat} (h : a ≠ 0) : a / a = 1 := by rw [Rat.div_def, Rat.mul_inv_cancel a h]
theorem cast_pos {z : Int} (h : 0 < z) : (0 : Rat) < (z : Rat) := by exact_mod_cast h
theorem ne_pos {a : Rat} (h : 0 < a) : a ≠ 0 := fun e => Rat.lt_irrefl (e ▸ h)

theorem flat_sum (v : Nat) : sumQ (flatQ v) = 1 := by
 have h : flatQ v = (List.range (v + 1)).map fun _ => (1 : Rat) / ((v + 1 : Nat) : Rat) := by
  apply List.ext_getElem?
  intro i
  unfold flatQ
  by_cases hi : i < v + 1
  ·rw [List.getElem?_map, List.getElem?_range hi, List.getElem?_replicate_of_lt hi]; rfl
  ·rw [List.getElem?_eq_none_iff.2 (by simp; omega), List.getElem?_eq_none_iff.2 (by simp; omega)]
 rw [h, sumQ_map, sumTo_const, Rat.div_def, Rat.one_mul, Rat.inv_mul_cancel]
 exact ne_pos (by exact_mod_cast Nat.succ_pos v)
theorem share_sum {C : Int → Int} {v : Nat} (hs : 0 < sumC C v) : sumQ (shareQ C v) = 1 := by
 unfold shareQ
 rw [sumQ_map, sumTo_div, sumTo_cast, div_self' (ne_pos (cast_pos hs))]
theorem added_sum {C : Int → Int} (h : Mild C) {v : Nat} {a : Rat} (ha : 0 < a) : sumQ (addedQ C v a) = 1 := by
 unfold addedQ
 rw [sumQ_map, sumTo_div, sumTo_add, sumTo_cast, sumTo_const]
 refine div_self' (ne_pos ?_)
 have h1 : (0 : Rat) ≤ (sumC C v : Rat) := by exact_mod_cast (sumC_bd h v).1
 have h2 : 0 < a * ((v + 1 : Nat) : Rat) := Rat.mul_pos ha (by exact_mod_cast Nat.succ_pos v)
 grind
theorem added_pos {C : Int → Int} (h : Mild C) {v : Nat} {a : Rat} (ha : 0 < a) : ∀ q ∈ addedQ C v a, 0 < q := by
 intro q hq
 obtain ⟨x, hx, rfl⟩ := List.mem_map.1 hq
 have h1 : (0 : Rat) ≤ (sumC C v : Rat) := by exact_mod_cast (sumC_bd h v).1
 have h2 : 0 < a * ((v + 1 : Nat) : Rat) := Rat.mul_pos ha (by exact_mod_cast Nat.succ_pos v)
 have h3 : (0 : Rat) ≤ (C x : Rat) := by exact_mod_cast (h x).1
 exact div_pos' (by grind) (by grind)
theorem sumTo_getD' (l : List Rat) {n : Nat} (h : l.length = n) : sumTo (fun j => l.getD j 0) n = sumQ l := by
 subst h; exact sumTo_getD l
theorem typed_sum {T : Nat → List Int → Int → Int} (hT : ∀ n h, Mild (T n h)) (v n : Nat) (h : List Int) : sumQ (typedQ T v n h) = 1 := by
 induction n generalizing h with
 | zero => exact flat_sum v
 | succ n ih =>
  unfold typedQ
  split
  ·exact ih _
  ·next hs =>
   have h0 : 0 < sumC (T (n + 1) h) v := by have := sumC_bd (hT (n + 1) h) v; omega
   have e : sumTo (fun x => typedW (T (n + 1) h) v ((typedQ T v n (h.drop 1)).getD x 0) x) (v + 1) = (sumTo (fun x => (T (n + 1) h (x : Int) : Rat)) (v + 1) + sumTo (fun x => (kindsC (T (n + 1) h) v : Rat) * (typedQ T v n (h.drop 1)).getD x 0) (v + 1)) / ((sumC (T (n + 1) h) v + kindsC (T (n + 1) h) v : Int) : Rat) := by
    rw [← sumTo_add, ← sumTo_div]
    rfl
   rw [sumQ_map, e, sumTo_cast, sumTo_mul, sumTo_getD' _ (typedQ_length T v n _), ih, Rat.mul_one, Rat.intCast_add, show (((kindsC (T (n + 1) h) v : Nat) : Int) : Rat) = ((kindsC (T (n + 1) h) v : Nat) : Rat) from Rat.intCast_natCast _]
   refine div_self' (ne_pos ?_)
   have h1 := cast_pos h0
   have h2 : (0 : Rat) ≤ ((kindsC (T (n + 1) h) v : Nat) : Rat) := by exact_mod_cast Nat.zero_le _
   grind
theorem typed_pos {T : Nat → List Int → Int → Int} (hT : ∀ n h, Mild (T n h)) (v n : Nat) (h : List Int) : ∀ q ∈ typedQ T v n h, 0 < q := by
 induction n generalizing h with
 | zero => exact flatQ_pos v
 | succ n ih =>
  unfold typedQ
  split
  ·exact ih _
  ·next hs =>
   intro q hq
   obtain ⟨x, hx, rfl⟩ := List.mem_map.1 hq
   have hxl := List.mem_range.1 hx
   have h0 : 0 < sumC (T (n + 1) h) v := by have := sumC_bd (hT (n + 1) h) v; omega
   have hk := (kinds_pos (hT (n + 1) h) v).1 h0
   have hp : 0 < (typedQ T v n (h.drop 1)).getD x 0 := by
    rw [List.getD_eq_getElem?_getD, List.getElem?_eq_getElem (by rw [typedQ_length]; exact hxl)]
    exact ih _ _ (List.getElem_mem _)
   have h1 : (0 : Rat) ≤ (T (n + 1) h x : Rat) := by exact_mod_cast (hT (n + 1) h x).1
   have h2 : (0 : Rat) < ((kindsC (T (n + 1) h) v : Nat) : Rat) := by exact_mod_cast hk
   have h3 := Rat.mul_pos h2 hp
   exact div_pos' (by grind) (cast_pos (by omega))
theorem disc_seen {C : Int → Int} (hC : Mild C) (a : Rat) (n : Nat) : sumTo (fun x => if 0 < C (x : Int) then (C (x : Int) : Rat) - a else 0) (n + 1) = (sumC C n : Rat) - a * (kindsC C n : Rat) := by
 induction n with
 | zero =>
  show (0 : Rat) + (if 0 < C 0 then (C 0 : Rat) - a else 0) = _
  rw [sumC_zero, kindsC_zero, Rat.zero_add]
  have := hC 0
  by_cases h : C 0 = 0
  ·rw [if_pos h, if_neg (by omega), h]
   show (0 : Rat) = 0 - a * 0
   grind
  ·rw [if_neg h, if_pos (by omega)]
   show _ = (C 0 : Rat) - a * 1
   rw [Rat.mul_one]
 | succ n ih =>
  show sumTo _ (n + 1) + (if 0 < C ((n + 1 : Nat) : Int) then (C ((n + 1 : Nat) : Int) : Rat) - a else 0) = _
  rw [ih, sumC_succ, kindsC_succ, Rat.intCast_add]
  have := hC ((n + 1 : Nat) : Int)
  by_cases h : C ((n + 1 : Nat) : Int) = 0
  ·rw [if_pos h, if_neg (by omega), h]
   show _ = _ + ((0 : Int) : Rat) - a * ((kindsC C n : Nat) : Rat)
   rw [show ((0 : Int) : Rat) = 0 from rfl]
   grind
  ·rw [if_neg h, if_pos (by omega), show ((kindsC C n + 1 : Nat) : Rat) = (kindsC C n : Rat) + 1 from by push_cast; rfl]
   grind
theorem rest_sum {C : Int → Int} (hC : Mild C) (ps : List Rat) (n : Nat) : sumTo (fun x => if 0 < C (x : Int) then 0 else ps.getD x 0) n = restN C ps n := by
 induction n with
 | zero => rfl
 | succ n ih =>
  have := hC (n : Int)
  show sumTo _ n + (if 0 < C (n : Int) then 0 else ps.getD n 0) = restN C ps (n + 1)
  rw [ih]
  unfold restN
  by_cases h : C (n : Int) = 0
  ·rw [if_pos h, if_neg (by omega)]
   cases n <;> rfl
  ·rw [if_neg h, if_pos (by omega), Rat.add_zero]
   cases n <;> rfl
theorem disc_sum {T : Nat → List Int → Int → Int} (hT : ∀ n h, Mild (T n h)) {v : Nat} {a : Rat} (ha : 0 < a) (ha1 : a < 1) (n : Nat) (h : List Int) : sumQ (discQ T v a n h) = 1 := by
 induction n generalizing h with
 | zero => exact flat_sum v
 | succ n ih =>
  unfold discQ
  split
  ·next hk => exact share_sum ((kinds_pos (hT _ _) v).2 (by omega))
  ·next hk =>
   split
   ·exact ih _
   ·next hs =>
    have h0 : 0 < sumC (T (n + 1) h) v := by have := sumC_bd (hT (n + 1) h) v; omega
    obtain ⟨y, hy, hy0⟩ := unseen hk
    have hr : 0 < restN (T (n + 1) h) (discQ T v a n (h.drop 1)) (v + 1) := restN_pos (discQ_pos hT ha ha1 n _) (x := y) (by omega) (by rw [discQ_length]; exact Nat.le_refl _) hy0
    generalize hR : restN (T (n + 1) h) (discQ T v a n (h.drop 1)) (v + 1) = R at hr
    generalize hps : discQ T v a n (h.drop 1) = ps at hR
    generalize hCC : T (n + 1) h = C at *
    have hM : Mild C := by rw [← hCC]; exact hT _ _
    have hsr := cast_pos h0
    have e : sumTo (fun x => discW C v a R (ps.getD x 0) x) (v + 1) = sumTo (fun x => (if 0 < C (x : Int) then (C (x : Int) : Rat) - a else 0) / (sumC C v : Rat)) (v + 1) + sumTo (fun x => (a * (kindsC C v : Rat) / (sumC C v : Rat) / R) * (if 0 < C (x : Int) then 0 else ps.getD x 0)) (v + 1) := by
     rw [← sumTo_add]
     refine sumTo_congr (fun x _ => ?_)
     unfold discW
     by_cases hx : 0 < C (x : Int)
     ·rw [if_pos hx, if_pos hx, if_pos hx, Rat.mul_zero, Rat.add_zero]
     ·rw [if_neg hx, if_neg hx, if_neg hx]
      simp only [Rat.div_def]
      grind
    rw [sumQ_map, e, sumTo_div, sumTo_mul, disc_seen hM, rest_sum hM, hR]
    simp only [Rat.div_def]
    have hRR : R⁻¹ * R = 1 := Rat.inv_mul_cancel _ (ne_pos hr)
    have hSS : (sumC C v : Rat) * (sumC C v : Rat)⁻¹ = 1 := Rat.mul_inv_cancel _ (ne_pos hsr)
    generalize (sumC C v : Rat)⁻¹ = i at *
    generalize R⁻¹ = j at *
    grind
theorem est_sum {T : Nat → List Int → Int → Int} (v : Nat) (h : List Int) (j : Nat) : sumQ (estQ T v h j) = 1 := by
 induction j with
 | zero => exact flat_sum v
 | succ j ih =>
  unfold estQ
  split
  ·next hs => exact share_sum hs
  ·exact ih
theorem share_nonneg {C : Int → Int} (hC : Mild C) (v : Nat) : ∀ q ∈ shareQ C v, 0 ≤ q := by
 intro q hq
 obtain ⟨x, hx, rfl⟩ := List.mem_map.1 hq
 have h1 : (0 : Rat) ≤ (C (x : Int) : Rat) := by exact_mod_cast (hC x).1
 have h2 : (0 : Rat) ≤ (sumC C v : Rat) := by exact_mod_cast (sumC_bd hC v).1
 rw [Rat.div_def]
 refine Rat.mul_nonneg h1 ?_
 by_cases h0 : (sumC C v : Rat) = 0
 ·rw [h0, Rat.inv_zero]; exact Rat.le_refl
 ·exact Rat.le_of_lt (Rat.inv_pos.2 (Rat.lt_of_le_of_ne h2 (Ne.symm h0)))
theorem est_nonneg {T : Nat → List Int → Int → Int} (hT : ∀ n h, Mild (T n h)) (v : Nat) (h : List Int) (j : Nat) : ∀ q ∈ estQ T v h j, 0 ≤ q := by
 induction j with
 | zero => exact fun q hq => Rat.le_of_lt (flatQ_pos v q hq)
 | succ j ih =>
  unfold estQ
  split
  ·exact share_nonneg (hT _ _) v
  ·exact ih
theorem mixN_sum {T : Nat → List Int → Int → Int} (v : Nat) (mix : List Rat) (h : List Int) (j : Nat) : sumTo (fun x => mixN T v mix h x j) (v + 1) = sumTo (fun i => mix.getD i 0) j := by
 induction j with
 | zero => show sumTo (fun _ => (0 : Rat)) (v + 1) = 0; rw [sumTo_const, Rat.zero_mul]
 | succ j ih =>
  show sumTo (fun x => mixN T v mix h x j + mix.getD j 0 * (estQ T v h j).getD x 0) (v + 1) = sumTo (fun i => mix.getD i 0) j + mix.getD j 0
  rw [sumTo_add, ih, sumTo_mul, sumTo_getD' _ (estQ_length T v h j), est_sum, Rat.mul_one]
theorem mixed_sum {T : Nat → List Int → Int → Int} (v : Nat) {mix : List Rat} {n : Nat} (hl : mix.length = n + 1) (hm : sumQ mix = 1) (h : List Int) : sumQ (mixedQ T v mix n h) = 1 := by
 unfold mixedQ
 rw [sumQ_map, mixN_sum, sumTo_getD' _ hl, hm]
theorem mixN_pos {T : Nat → List Int → Int → Int} (hT : ∀ n h, Mild (T n h)) {v : Nat} {mix : List Rat} (hm : ∀ q ∈ mix, 0 ≤ q) (h0 : 0 < mix.getD 0 0) (h : List Int) {x : Nat} (hx : x < v + 1) (j : Nat) : 0 < mixN T v mix h x (j + 1) := by
 induction j with
 | zero =>
  have hp : 0 < (flatQ v).getD x 0 := by
   rw [List.getD_eq_getElem?_getD, List.getElem?_eq_getElem (by rw [flatQ_length]; exact hx)]
   exact flatQ_pos v _ (List.getElem_mem _)
  show 0 < (0 : Rat) + mix.getD 0 0 * (flatQ v).getD x 0
  rw [Rat.zero_add]
  exact Rat.mul_pos h0 hp
 | succ j ih =>
  show 0 < mixN T v mix h x (j + 1) + mix.getD (j + 1) 0 * (estQ T v h (j + 1)).getD x 0
  have h1 : 0 ≤ mix.getD (j + 1) 0 := getD_mem (i := j + 1) (P := fun q => 0 ≤ q) Rat.le_refl hm
  have h2 : 0 ≤ (estQ T v h (j + 1)).getD x 0 := getD_mem (i := x) (P := fun q => 0 ≤ q) Rat.le_refl (est_nonneg hT v h (j + 1))
  have h3 := Rat.mul_nonneg h1 h2
  grind
theorem mixed_pos {T : Nat → List Int → Int → Int} (hT : ∀ n h, Mild (T n h)) {v : Nat} {mix : List Rat} (hm : ∀ q ∈ mix, 0 ≤ q) (h0 : 0 < mix.getD 0 0) (n : Nat) (h : List Int) : ∀ q ∈ mixedQ T v mix n h, 0 < q := by
 intro q hq
 obtain ⟨x, hx, rfl⟩ := List.mem_map.1 hq
 exact mixN_pos hT hm h0 h (List.mem_range.1 hx) n

def rowQ (k : Int) (O : Nat) (gs : List Gr) (v : Nat) (a : Rat) (mix : List Rat) (h : List Int) : List Rat :=
 if k = 1 then addedQ (totN O gs O h) v a else if k = 2 then mixedQ (totN O gs) v mix O h else if k = 3 then discQ (totN O gs) v a O h else typedQ (totN O gs) v O h
theorem sgnI_eq0 {q : Rat} (h : sgnI q = 0) : q = 0 := by
 unfold sgnI at h
 split at h
 ·assumption
 ·split at h <;> omega
theorem sgnI_nonneg {q : Rat} (h : ¬ sgnI q < 0) : 0 ≤ q := by
 unfold sgnI at h
 split at h
 ·next e => rw [e]; exact Rat.le_refl
 ·split at h
  ·omega
  ·next h1 => exact Rat.not_lt.1 h1
theorem distr_iff {qs : List Rat} : distr qs = true ↔ (∀ q ∈ qs, 0 ≤ q) ∧ sumQ qs = 1 := by
 unfold distr
 rw [Bool.and_eq_true, Bool.not_eq_true', decide_eq_false_iff_not, decide_eq_true_eq, firstNeg_miss]
 constructor
 ·rintro ⟨h1, h2⟩
  refine ⟨fun q hq => sgnI_nonneg (fun h => h1 ⟨q, hq, h⟩), ?_⟩
  have := sgnI_eq0 h2
  grind
 ·rintro ⟨h1, h2⟩
  refine ⟨?_, ?_⟩
  ·rintro ⟨q, hq, h⟩
   have h3 := h1 q hq
   unfold sgnI at h
   split at h
   ·omega
   ·split at h
    ·next h4 => exact absurd h4 (Rat.not_lt.2 h3)
    ·omega
  ·rw [h2, Rat.sub_self]
   rfl
theorem valid_mixed {a : Rat} {mix : List Rat} {O : Nat} (h : validB 2 a mix O = true) : mix.length = O + 1 ∧ (∀ q ∈ mix, 0 ≤ q) ∧ sumQ mix = 1 ∧ 0 < mix.getD 0 0 := by
 unfold validB at h
 rw [if_neg (by decide), if_pos rfl] at h
 simp only [Bool.and_eq_true, decide_eq_true_eq, beq_iff_eq] at h
 obtain ⟨⟨⟨_, h1⟩, h2⟩, h3⟩ := h
 have := distr_iff.1 h2
 exact ⟨by omega, this.1, this.2, sgnI_pos h3⟩
theorem valid_kind {k : Int} {a : Rat} {mix : List Rat} {O : Int} (h : validB k a mix O = true) : k = 1 ∨ k = 2 ∨ k = 3 ∨ k = 4 := by
 unfold validB at h
 by_cases h1 : k = 1
 ·exact Or.inl h1
 ·by_cases h2 : k = 2
  ·exact Or.inr (Or.inl h2)
  ·by_cases h3 : k = 3
   ·exact Or.inr (Or.inr (Or.inl h3))
   ·by_cases h4 : k = 4
    ·exact Or.inr (Or.inr (Or.inr h4))
    ·rw [if_neg h1, if_neg h2, if_neg h3, if_neg h4] at h
     cases h
theorem row_all {k : Int} {O : Nat} {gs : List Gr} {v : Nat} {a : Rat} {mix : List Rat} (hT : SmallT gs v) (h : validB k a mix O = true) (hl : List Int) :
  (rowQ k O gs v a mix hl).length = v + 1 ∧ sumQ (rowQ k O gs v a mix hl) = 1 ∧ ∀ q ∈ rowQ k O gs v a mix hl, 0 < q := by
 have hM : ∀ n h, Mild (totN O gs n h) := fun n h => hT.mild O n h
 unfold rowQ
 rcases valid_kind h with rfl | rfl | rfl | rfl
 ·have := valid_added h
  rw [if_pos rfl]
  exact ⟨by simp [addedQ], added_sum (hM _ _) this.1, added_pos (hM _ _) this.1⟩
 ·have := valid_mixed h
  rw [if_neg (by decide), if_pos rfl]
  exact ⟨mixedQ_length _ _ _ _ _, mixed_sum v this.1 this.2.2.1 hl, mixed_pos hM this.2.1 this.2.2.2 O hl⟩
 ·have := valid_disc h
  rw [if_neg (by decide), if_neg (by decide), if_pos rfl]
  exact ⟨discQ_length _ _ _ _ _, disc_sum hM this.1 this.2.1 O hl, discQ_pos hM this.1 this.2.1 O hl⟩
 ·rw [if_neg (by decide), if_neg (by decide), if_neg (by decide)]
  exact ⟨typedQ_length _ _ _ _, typed_sum hM v O hl, typed_pos hM v O hl⟩
theorem methM (x : Value) (w : World) : (method 358 175 x "earshot/gram.row").run Tryz.prog w = .ok (218, x) w := by kernel_rfl
theorem nilM (x : Value) (w : World) : (nilAhead 358 175 x "earshot/gram.row").run Tryz.prog w = .ok (some false) w := by kernel_rfl
theorem nilD (x : Value) (w : World) : (nilAhead 358 177 x "earshot/gram.row").run Tryz.prog w = .ok (some false) w := by kernel_rfl
theorem nilT (x : Value) (w : World) : (nilAhead 358 179 x "earshot/gram.row").run Tryz.prog w = .ok (some false) w := by kernel_rfl

structure WayOk (w : World) (O v : Nat) (gs : List Gr) (k : Int) (s : Bool) (A A' : Option Addr) (m c m' c' : Nat) (mv : Value) (rw_ : List Int → List Rat) (T : TypeId) (rv : Nat → Value) (F : FuncId) : Prop where
 way : ∀ b, wayV k b O v s A A' m c m' c' mv = .iface T (rv b)
 meth : ∀ b w, (method 358 T (rv b) "earshot/gram.row").run Tryz.prog w = .ok (F, rv b) w
 nil : ∀ b w, (nilAhead 358 T (rv b) "earshot/gram.row").run Tryz.prog w = .ok (some false) w
 cf : ∀ args w, (callFunc F args).run Tryz.prog w = .ok (.enter F args) w
 row : ∀ b W hv h, LvsAt W b O 0 gs → Below w.heap.size w W → IntsAt W hv h → h.length = O - 1 → NiceK h → Calls Tryz.prog F #[rv b, .int .i64 O, hv] W (RowNew W v (rw_ h))
 qb : ∀ h, ∀ q ∈ rw_ h, QB 5000000 q
 len : ∀ h, (rw_ h).length = v + 1

theorem way_ok (w : World) (O v : Nat) (lv : Value) (gs : List Gr) (k : Int) (s : Bool) (A A' : Option Addr) (m c m' c' : Nat) (mv : Value) (a : Rat) (mix : List Rat) (h : LangAt w lv gs s A A' m c m' c' a mv mix) (hE : checkE O v gs k a mix = 0) (hv8 : v ≤ 8) :
  ∃ T rv F, WayOk w O v gs k s A A' m c m' c' mv (rowQ k O gs v a mix) T rv F := by
 have hG := table_good (check_ok hE).1
 have hT := table_small (check_ok hE).1 hv8
 have hV := (check_ok hE).2
 have hM : ∀ n h, Mild (totN O gs n h) := fun n h => hT.mild O n h
 have hqa : QB 64 a := h.amount.qb (by omega)
 have hbq : bq O ≤ 4392300 := bq_le hG.2.1.2
 rcases valid_kind hV with rfl | rfl | rfl | rfl
 ·have hA := valid_added hV
  have e : rowQ 1 O gs v a mix = fun h => addedQ (totN O gs O h) v a := by funext h; unfold rowQ; rw [if_pos rfl]
  rw [e]
  refine ⟨180, fun b => .agg #[.slice (some ⟨b, 0, none⟩) (O + 1) (O + 1), .int .i64 ((v : Int) + 1), .bool s, .slice A m c, .slice A' m' c'], 226, ?_, fun b w => methA _ w, fun b w => nilA _ w, fun args w => by kernel_rfl, ?_, ?_, ?_⟩
  ·intro b
   unfold wayV
   rw [if_neg (by decide), if_neg (by decide), if_neg (by decide)]
  ·intro b W hv hl hL hb hi hll hk
   exact addedG W O O b v hv gs hl s A A' m c m' c' a hL ⟨hG.2.1.1, Nat.le_refl _⟩ hG.2.1.2 hi hll hk (h.amount.below hb) hA.1 hv8 hT.1 hT.2.1 hT.2.2.1
  ·intro hl q hq
   exact (added_qb (hT.mild O O hl) hv8 hqa q hq).mono (by omega)
  ·intro hl
   simp [addedQ]
 ·have hA := valid_mixed hV
  have e : rowQ 2 O gs v a mix = fun h => mixedQ (totN O gs) v mix O h := by funext h; unfold rowQ; rw [if_neg (by decide), if_pos rfl]
  rw [e]
  refine ⟨175, fun b => .agg #[.slice (some ⟨b, 0, none⟩) (O + 1) (O + 1), .int .i64 ((v : Int) + 1), mv], 218, ?_, fun b w => methM _ w, fun b w => nilM _ w, fun args w => by kernel_rfl, ?_, ?_, ?_⟩
  ·intro b
   unfold wayV
   rw [if_pos rfl]
  ·intro b W hv hl hL hb hi hll hk
   exact mixedG O b v gs hG.2.1.2 hT O W hv hl mv mix ⟨hG.2.1.1, Nat.le_refl _⟩ hL hi hll hk (h.mixes.below hb) hA.1
  ·intro hl q hq
   exact (mixedQ_qb hM hv8 (h.mixes.qb (by omega)) hG.2.1.2 hl q hq).mono (by omega)
  ·intro hl
   exact mixedQ_length _ _ _ _ _
 ·have hA := valid_disc hV
  have e : rowQ 3 O gs v a mix = fun h => discQ (totN O gs) v a O h := by funext h; unfold rowQ; rw [if_neg (by decide), if_neg (by decide), if_pos rfl]
  rw [e]
  refine ⟨177, fun b => .agg #[.slice (some ⟨b, 0, none⟩) (O + 1) (O + 1), .int .i64 ((v : Int) + 1), .bool s, .slice A m c, .slice A' m' c'], 222, ?_, fun b w => methD _ w, fun b w => nilD _ w, fun args w => by kernel_rfl, ?_, ?_, ?_⟩
  ·intro b
   unfold wayV
   rw [if_neg (by decide), if_pos rfl]
  ·intro b W hv hl hL hb hi hll hk
   exact discG O b v gs hG.2.1.2 hT s A A' m c m' c' a hA.1 hA.2.1 O W hv hl (Nat.le_refl _) hL hi hll hk (h.amount.below hb)
  ·intro hl q hq
   exact (discQ_qb hM hv8 hqa O hl q hq).mono (by omega)
  ·intro hl
   exact discQ_length _ _ _ _ _
 ·have e : rowQ 4 O gs v a mix = fun h => typedQ (totN O gs) v O h := by funext h; unfold rowQ; rw [if_neg (by decide), if_neg (by decide), if_neg (by decide)]
  rw [e]
  refine ⟨179, fun b => .agg #[.slice (some ⟨b, 0, none⟩) (O + 1) (O + 1), .int .i64 ((v : Int) + 1)], 225, ?_, fun b w => methT _ w, fun b w => nilT _ w, fun args w => by kernel_rfl, ?_, ?_, ?_⟩
  ·intro b
   unfold wayV
   rw [if_neg (by decide), if_neg (by decide), if_pos rfl]
  ·intro b W hv hl hL hb hi hll hk
   exact typedG O b v gs hG.2.1.2 hT O W hv hl (Nat.le_refl _) hL hi hll hk
  ·intro hl q hq
   exact (typedQ_qb hM hv8 O hl q hq).mono (by omega)
  ·intro hl
   exact typedQ_length _ _ _ _
set_option maxRecDepth 1000000 in
set_option maxHeartbeats 16000000 in
theorem rowG (w : World) (O v : Nat) (lv : Value) (gs : List Gr) (k : Int) (s : Bool) (A A' : Option Addr) (m c m' c' : Nat) (mv : Value) (a : Rat) (mix : List Rat) (hv : Value) (hl : List Int) (h : LangAt w lv gs s A A' m c m' c' a mv mix) (hh : IntsAt w hv hl) (hE : histE O v gs k a mix hl = 0) (hv8 : v ≤ 8) :
  Calls Tryz.prog 28 #[langV O v lv k s A A' m c m' c' mv, hv] w (RowOk w v (rowQ k O gs v a mix hl)) := by
 have hck : checkE O v gs k a mix = 0 := by
  unfold histE at hE
  split at hE
  ·next h0 => exact absurd hE h0
  ·next h0 => exact Decidable.not_not.1 h0
 obtain ⟨T, rv, F, hw⟩ := way_ok w O v lv gs k s A A' m c m' c' mv a mix h hck hv8
 obtain ⟨Al, cl, rfl, _, _, _⟩ := h.grams.open_
 obtain ⟨Am, cm, rfl, _, _, _⟩ := h.mixes.open_
 obtain ⟨Ah, ch, rfl, hlc, hcm, _⟩ := hh.open_
 have HL := Lib.hid h
 have HI := Lib.hid hh
 have HE := Lib.hid hE
 have WO := Lib.hid hw
 have HG := Lib.hid (table_good (hist_ok hE).1)
 have HT := Lib.hid (table_small (hist_ok hE).1 hv8)
 have hO := HG.out.2.1
 have HLN : Hid (hl.length = O - 1) := Lib.hid (by have := (hist_ok hE).2.2.1; omega)
 have HNK : Hid (NiceK hl) := Lib.hid ⟨by have := HLN.out; omega, fun x hx => by have := (hist_ok hE).2.2.2 x hx; omega⟩
 have hm3 := hw.cf
 clear h hh hE hck hw
 unfold langV
 go_enter Tryz.func28, Tryz.ntmps28
 go_wp2_with fail
 obtain ⟨W, hW, P0, PB, Phs⟩ := box1 w 43 [.int .i64 O, .int .i64 v, .slice Al gs.length cl, .int .i64 k, .bool s, .slice A m c, .slice A' m' c', .slice Am mix.length cm]
 rw [← hW]
 clear hW
 obtain ⟨p0, p1, p2, p3, p4, p5, p6, p7⟩ := eight P0.out
 go_wp2_with fail
 refine (checkHistG W O v (.slice Al gs.length cl) gs k s A A' m c m' c' (.slice Am mix.length cm) a mix _ hl (HL.out.below PB.out) (HI.out.below PB.out)).mono ?_
 rintro e w1 ⟨rfl, hb1⟩
 rw [HE.out]
 have P1 := Lib.hid (P0.out.below' hb1)
 have B1 := Lib.hid (PB.out.trans (hb1.mono PB.out.size))
 clear p0 p1 p2 p3 p4 p5 p6 p7 hb1 P0 PB
 obtain ⟨p0, p1, p2, p3, p4, p5, p6, p7⟩ := eight P1.out
 have hS := eight P1.out
 go_wp2_with fail
 go_region_held3 (fun w' => w'.cell? ⟨w.heap.size, 0, none⟩ = some (.int .i64 O) ∧ w'.cell? ⟨w.heap.size, 1, none⟩ = some (.int .i64 v) ∧ w'.cell? ⟨w.heap.size, 2, none⟩ = some (.slice Al gs.length cl) ∧ w'.cell? ⟨w.heap.size, 3, none⟩ = some (.int .i64 k) ∧ w'.cell? ⟨w.heap.size, 4, none⟩ = some (.bool s) ∧ w'.cell? ⟨w.heap.size, 5, none⟩ = some (.slice A m c) ∧ w'.cell? ⟨w.heap.size, 6, none⟩ = some (.slice A' m' c') ∧ w'.cell? ⟨w.heap.size, 7, none⟩ = some (.slice Am mix.length cm))
  (first | assumption | go_keep)
  (first
   | (go_at_call 90; refine (wayG _ O v (.slice Al gs.length cl) gs k s A A' m c m' c' Am mix.length cm ((HL.out.grams.below B1.out).below (below_drew_self _)) HG.out (by have := HT.out.2.2.2; omega)).mono ?_; rintro e wl ⟨b, rfl, hlv, hb'⟩; have hb := below_of_drew hb'; have BB := Lib.hid (B1.out.trans (hb.mono B1.out.size)); have LV := Lib.hid hlv; have R1 := Lib.hid hb; have hS := eight (P1.out.below' hb); rw [WO.out.way b]; have hm1 := WO.out.meth b; have hm2 := WO.out.nil b; clear hlv hb hb')
   | (go_simp; refine (WO.out.row b _ _ hl LV.out BB.out (HI.out.below BB.out) HLN.out HNK.out).mono ?_; rintro e w2 ⟨b2, rfl, hb2, hf2, hbl⟩; have F2 := Lib.hid hf2; have B2 := Lib.hid (BB.out.trans (hbl.mono BB.out.size)); have s2 : w.heap.size ≤ b2 := Nat.le_trans BB.out.size hb2; have hS := eight ((P1.out.below' R1.out).below' hbl); clear hf2 hbl hb2))
 all_goals
  go_wp2_with fail
  go_ret2
  exact ⟨b2, rfl, s2, F2.out, B2.out⟩
set_option maxRecDepth 1000000 in
set_option maxHeartbeats 16000000 in
theorem weightG (w : World) (O v x : Nat) (lv : Value) (gs : List Gr) (k : Int) (s : Bool) (A A' : Option Addr) (m c m' c' : Nat) (mv : Value) (a : Rat) (mix : List Rat) (hv : Value) (hl : List Int) (h : LangAt w lv gs s A A' m c m' c' a mv mix) (hh : IntsAt w hv hl) (hE : histE O v gs k a mix hl = 0) (hv8 : v ≤ 8) (hx : x < v + 1) :
  Calls Tryz.prog 39 #[langV O v lv k s A A' m c m' c' mv, hv, .int .i64 x] w fun e w' => ∃ u, e = .returned (.tuple #[u, .int .i64 0]) ∧ CanAt w' u ((rowQ k O gs v a mix hl).getD x 0) ∧ Below w.heap.size w w' := by
 have hck : checkE O v gs k a mix = 0 := by
  unfold histE at hE
  split at hE
  ·next h0 => exact absurd hE h0
  ·next h0 => exact Decidable.not_not.1 h0
 obtain ⟨T, rv, F, hw⟩ := way_ok w O v lv gs k s A A' m c m' c' mv a mix h hck hv8
 obtain ⟨Al, cl, rfl, _, _, _⟩ := h.grams.open_
 obtain ⟨Am, cm, rfl, _, _, _⟩ := h.mixes.open_
 obtain ⟨Ah, ch, rfl, hlc, hcm, _⟩ := hh.open_
 have HL := Lib.hid h
 have HI := Lib.hid hh
 have HE := Lib.hid hE
 have WO := Lib.hid hw
 have HG := Lib.hid (table_good (hist_ok hE).1)
 have HT := Lib.hid (table_small (hist_ok hE).1 hv8)
 have hO := HG.out.2.1
 have HLN : Hid (hl.length = O - 1) := Lib.hid (by have := (hist_ok hE).2.2.1; omega)
 have HNK : Hid (NiceK hl) := Lib.hid ⟨by have := HLN.out; omega, fun x hx => by have := (hist_ok hE).2.2.2 x hx; omega⟩
 have hm3 := hw.cf
 obtain ⟨row, hrow⟩ : ∃ l, rowQ k O gs v a mix hl = l := ⟨_, rfl⟩
 have HR := Lib.hid hrow
 obtain ⟨qx, hqx⟩ : ∃ q, row[x]? = some q := ⟨_, List.getElem?_eq_getElem (by rw [← hrow, hw.len]; exact hx)⟩
 have HQX := Lib.hid hqx
 have hgd : row.getD x 0 = qx := by rw [List.getD_eq_getElem?_getD, hqx]; rfl
 rw [hrow, hgd]
 have x0 : decide ((x : Int) < 0) = false := decide_eq_false (by omega)
 have x1 : decide ((v : Int) < (x : Int)) = false := decide_eq_false (by omega)
 have x2 : (0 : Int) ≤ (x : Int) := by omega
 have x3 : (x : Int) < (v : Int) + 1 := by omega
 clear h hh hE hck hw hrow hqx hgd
 unfold langV
 go_enter Tryz.func39, Tryz.ntmps39
 go_wp2_with fail
 obtain ⟨W, hW, P0, P1, PB, Phs⟩ := box2 w 43 [.int .i64 O, .int .i64 v, .slice Al gs.length cl, .int .i64 k, .bool s, .slice A m c, .slice A' m' c', .slice Am mix.length cm] 40 [.bool false, .slice none 0 0, .slice none 0 0]
 rw [← hW]
 clear hW
 obtain ⟨p0, p1, p2, p3, p4, p5, p6, p7⟩ := eight P0.out
 go_wp2_with fail
 refine (checkHistG W O v (.slice Al gs.length cl) gs k s A A' m c m' c' (.slice Am mix.length cm) a mix _ hl (HL.out.below PB.out) (HI.out.below PB.out)).mono ?_
 rintro e w1 ⟨rfl, hb1⟩
 rw [HE.out]
 have P2 := Lib.hid (P0.out.below' hb1)
 have R1 : Hid (BoxC w1 (w.heap.size + 1) 0) := Lib.hid ((BoxC.of (q := 0) P1.out ((CanNew.zero_ 0 W).at_)).below hb1)
 have B1 := Lib.hid (PB.out.trans (hb1.mono PB.out.size))
 clear p0 p1 p2 p3 p4 p5 p6 p7 hb1 P0 P1 PB
 obtain ⟨p0, p1, p2, p3, p4, p5, p6, p7⟩ := eight P2.out
 have nb : w.heap.size ≠ w.heap.size + 1 := by omega
 go_wp2_with fail
 clear p0 p1 p2 p3 p4 p5 p6 p7
 refine wp_region_held_drew (S := fun w' => w'.cell? ⟨w.heap.size, 0, none⟩ = some (.int .i64 O) ∧ w'.cell? ⟨w.heap.size, 1, none⟩ = some (.int .i64 v) ∧ w'.cell? ⟨w.heap.size, 2, none⟩ = some (.slice Al gs.length cl) ∧ w'.cell? ⟨w.heap.size, 3, none⟩ = some (.int .i64 k) ∧ w'.cell? ⟨w.heap.size, 4, none⟩ = some (.bool s) ∧ w'.cell? ⟨w.heap.size, 5, none⟩ = some (.slice A m c) ∧ w'.cell? ⟨w.heap.size, 6, none⟩ = some (.slice A' m' c') ∧ w'.cell? ⟨w.heap.size, 7, none⟩ = some (.slice Am mix.length cm)) (by kernel_rfl) (eight (P2.out.below' (below_drew_self w1))) (fun hHeld => ?_)
 refine wpAnyH_take (i := 0) (v := ?_) rfl (by kernel_rfl) (by kernel_rfl) (by kernel_rfl) (fun _ _ _ h => h) (Or.inl ⟨by rfl, ?_⟩) (by assumption) ?_
 rotate_left
 ·(intro w' hSw; (try dsimp only at hSw); go_simp <;> with_reducible rfl)
 simp only [List.getElem_toArray, List.getElem_cons_succ, List.getElem_cons_zero, Act.put, List.setIfInBounds_toArray, List.set_cons_zero, List.set_cons_succ]
 refine wpAnyH_take (i := 2) (v := ?_) rfl (by kernel_rfl) (by kernel_rfl) (by kernel_rfl) (fun _ _ _ h => h) (Or.inl ⟨by rfl, ?_⟩) (by assumption) ?_
 rotate_left
 ·(intro w' hSw; (try dsimp only at hSw); go_simp <;> with_reducible rfl)
 simp only [List.getElem_toArray, List.getElem_cons_succ, List.getElem_cons_zero, Act.put, List.setIfInBounds_toArray, List.set_cons_zero, List.set_cons_succ]
 refine wpAnyH_take (i := 3) (v := ?_) rfl (by kernel_rfl) (by kernel_rfl) (by kernel_rfl) (fun _ _ _ h => h) (Or.inl ⟨by rfl, ?_⟩) (by assumption) ?_
 rotate_left
 ·(intro w' hSw; (try dsimp only at hSw); go_simp <;> with_reducible rfl)
 simp only [List.getElem_toArray, List.getElem_cons_succ, List.getElem_cons_zero, Act.put, List.setIfInBounds_toArray, List.set_cons_zero, List.set_cons_succ]
 refine wpAnyH_take (i := 4) (v := ?_) rfl (by kernel_rfl) (by kernel_rfl) (by kernel_rfl) (fun _ _ _ h => h) (Or.inl ⟨by rfl, ?_⟩) (by assumption) ?_
 rotate_left
 ·(intro w' hSw; (try dsimp only at hSw); go_simp <;> with_reducible rfl)
 simp only [List.getElem_toArray, List.getElem_cons_succ, List.getElem_cons_zero, Act.put, List.setIfInBounds_toArray, List.set_cons_zero, List.set_cons_succ]
 refine wpAnyH_take (i := 5) (v := ?_) rfl (by kernel_rfl) (by kernel_rfl) (by kernel_rfl) (fun _ _ _ h => h) (Or.inl ⟨by rfl, ?_⟩) (by assumption) ?_
 rotate_left
 ·(intro w' hSw; (try dsimp only at hSw); go_simp <;> with_reducible rfl)
 simp only [List.getElem_toArray, List.getElem_cons_succ, List.getElem_cons_zero, Act.put, List.setIfInBounds_toArray, List.set_cons_zero, List.set_cons_succ]
 refine wpAnyH_take (i := 7) (v := ?_) rfl (by kernel_rfl) (by kernel_rfl) (by kernel_rfl) (fun _ _ _ h => h) (Or.inl ⟨by rfl, ?_⟩) (by assumption) ?_
 rotate_left
 ·(intro w' hSw; (try dsimp only at hSw); go_simp <;> with_reducible rfl)
 simp only [List.getElem_toArray, List.getElem_cons_succ, List.getElem_cons_zero, Act.put, List.setIfInBounds_toArray, List.set_cons_zero, List.set_cons_succ]
 refine wpAnyH_ready (rs := [1]) (by kernel_rfl) (by simp) ?_
 refine AllReadyH.cons rfl (fun K hK => ?_) AllReadyH.nil
 go_simp
 refine (wayG _ O v (.slice Al gs.length cl) gs k s A A' m c m' c' Am mix.length cm ((HL.out.grams.below B1.out).below (below_drew_self _)) HG.out (by have := HT.out.2.2.2; omega)).mono ?_
 rintro e wl ⟨b, rfl, hlv, hb'⟩
 have hb := below_of_drew hb'
 have BB := Lib.hid (B1.out.trans (hb.mono B1.out.size))
 have LV := Lib.hid hlv
 have R2 := Lib.hid hb
 rw [WO.out.way b]
 have hm1 := WO.out.meth b
 have hm2 := WO.out.nil b
 clear hlv hb' hHeld
 have hS := eight (P2.out.below' hb)
 try go_simp
 refine hK.out _ _ hS (fun hHeld => ?_)
 clear hK K hS
 try simp only [List.getElem_toArray, List.getElem_cons_succ, List.getElem_cons_zero, Act.put, List.setIfInBounds_toArray, List.set_cons_zero, List.set_cons_succ]
 clear hb
 refine wpAnyH_ready (rs := [6]) (by kernel_rfl) (by simp) ?_
 refine AllReadyH.cons rfl (fun K hK => ?_) AllReadyH.nil
 go_simp
 refine (WO.out.row b _ _ hl LV.out BB.out (HI.out.below BB.out) HLN.out HNK.out).mono ?_
 rw [HR.out]
 rintro e w2 ⟨b2, rfl, hb2, hf2, hbl⟩
 have F2 := Lib.hid hf2
 have B2 := Lib.hid (BB.out.trans (hbl.mono BB.out.size))
 have R3 := Lib.hid (R1.out.below (R2.out.trans (hbl.mono R2.out.size)))
 obtain ⟨Ax, mx, cx, Ax', mx', cx', g0, g1, g2, _, _, _, tx⟩ := F2.out.get HQX.out
 have TX := Lib.hid tx
 obtain ⟨_, _, _, _, _, _, r0, r1, r2, y0, y1, y2, _⟩ := R3.out.get
 clear hf2 hb2 tx hHeld
 have hS := eight ((P2.out.below' R2.out).below' hbl)
 try go_simp
 refine hK.out _ _ hS (fun hHeld => ?_)
 clear hK K hS
 try simp only [List.getElem_toArray, List.getElem_cons_succ, List.getElem_cons_zero, Act.put, List.setIfInBounds_toArray, List.set_cons_zero, List.set_cons_succ]
 clear hbl hm1 hm2 hm3
 refine wpAnyH_take (i := 8) (v := ?_) rfl (by kernel_rfl) (by kernel_rfl) (by kernel_rfl) (fun _ _ _ h => h) (Or.inl ⟨by rfl, ?_⟩) (by assumption) ?_
 rotate_left
 ·(intro w' hSw; (try dsimp only at hSw); go_simp <;> with_reducible rfl)
 simp only [List.getElem_toArray, List.getElem_cons_succ, List.getElem_cons_zero, Act.put, List.setIfInBounds_toArray, List.set_cons_zero, List.set_cons_succ]
 refine wpAnyH_ready (rs := [9]) (by kernel_rfl) (by simp) ?_
 refine AllReadyH.cons rfl (fun K hK => ?_) AllReadyH.nil
 go_simp
 refine hK.out _ _ hHeld (fun _ => ?_)
 clear hK K g0 g1 g2
 try simp only [List.getElem_toArray, List.getElem_cons_succ, List.getElem_cons_zero, Act.put, List.setIfInBounds_toArray, List.set_cons_zero, List.set_cons_succ]
 refine wpAnyH_ready (rs := [10]) (by kernel_rfl) (by simp) ?_
 refine AllReadyH.cons rfl (fun K hK => ?_) AllReadyH.nil
 go_simp
 refine hK.out _ _ ⟨cell3 hHeld.1 nb _ _ _ _ _ _, cell3 hHeld.2.1 nb _ _ _ _ _ _, cell3 hHeld.2.2.1 nb _ _ _ _ _ _, cell3 hHeld.2.2.2.1 nb _ _ _ _ _ _, cell3 hHeld.2.2.2.2.1 nb _ _ _ _ _ _, cell3 hHeld.2.2.2.2.2.1 nb _ _ _ _ _ _, cell3 hHeld.2.2.2.2.2.2.1 nb _ _ _ _ _ _, cell3 hHeld.2.2.2.2.2.2.2 nb _ _ _ _ _ _⟩ (fun _ => ?_)
 clear hK K hHeld
 try simp only [List.getElem_toArray, List.getElem_cons_succ, List.getElem_cons_zero, Act.put, List.setIfInBounds_toArray, List.set_cons_zero, List.set_cons_succ]
 refine wpAnyH_take (i := 11) (v := ?_) rfl (by kernel_rfl) (by kernel_rfl) (by kernel_rfl) (fun _ _ _ h => h) (Or.inl ⟨by rfl, ?_⟩) (by assumption) ?_
 rotate_left
 ·(intro w' hSw; (try dsimp only at hSw); go_simp <;> with_reducible rfl)
 simp only [List.getElem_toArray, List.getElem_cons_succ, List.getElem_cons_zero, Act.put, List.setIfInBounds_toArray, List.set_cons_zero, List.set_cons_succ]
 refine wpAnyH_done (by kernel_rfl) ?_ _
 go_wp2_with fail
 have R4 := R3.out.put rfl TX.out
 obtain ⟨Az, mz, cz, Az', mz', cz', g0, g1, g2, _, _, _, tz⟩ := R4.get
 refine bodyPost_ret (v := .tuple #[.agg #[.bool (isNeg qx), .slice Az mz cz, .slice Az' mz' cz'], .int .i64 0]) (by simp [results, Tryz.results39, go_sem, g0, g1, g2, List.mapM_cons]) rfl ⟨_, rfl, tz, below3 B2.out (by omega) _ _ _ _ _ _⟩
end Go.Proofs.YtjebfdfkjlkifaaGreat
