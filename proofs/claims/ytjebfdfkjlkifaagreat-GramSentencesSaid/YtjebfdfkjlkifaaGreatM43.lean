/- Lemmas. -/
import Derived.Test.YtjebfdfkjlkifaaGreatM42
import Derived.Test.YtjebfdfkjlkifaaGreatM38
set_option linter.all false
set_option maxRecDepth 1000000
set_option maxHeartbeats 32000000
namespace Go.Proofs.YtjebfdfkjlkifaaGreat
open Go.RowKit
def aQ (f : Nat -> Rat) : Nat -> Rat
 | 0 => 0
 | n + 1 => aQ f n + f n
theorem qI (l : List Rat) (a : Rat) : l.foldl (· + ·) a = a + bX l := by
 induction l generalizing a with
 | nil => simp only [bX, List.foldl_nil]; rw [Rat.add_zero]
 | cons x l ih =>
  unfold bX at ih ⊢
  rw [List.foldl_cons, List.foldl_cons, ih, ih (0 + x)]
  rw [Rat.zero_add, Rat.add_assoc]
theorem mC (l r : List Rat) : bX (l ++ r) = bX l + bX r := by
 unfold bX
 rw [List.foldl_append, qI r]
 rfl
theorem eL (f : Nat -> Rat) (n : Nat) : bX ((List.range n).map f) = aQ f n := by
 induction n with
 | zero => rfl
 | succ n ih =>
  rw [List.range_succ, List.map_append, mC, ih]
  show _ + bX [f n] = aQ f n + f n
  rw [show bX [f n] = f n from by simp only [bX, List.foldl_cons, List.foldl_nil]; rw [Rat.zero_add]]
theorem n8 (l : List Rat) : aQ (fun j => l.getD j 0) l.length = bX l := by
 rw [<- eL]
 congr 1
 apply List.ext_getElem?
 intro i
 by_cases hi : i < l.length
 ·rw [List.getElem?_map, List.getElem?_range hi, eG hi]
  simp [gD, eG hi]
 rw [nI.2 (by simp; omega), nI.2 (by omega)]
theorem mB {f g : Nat -> Rat} {n : Nat} (h : ∀ x < n, f x = g x) : aQ f n = aQ g n := by
 induction n with
 | zero => rfl
 | succ n ih =>
  show aQ f n + f n = aQ g n + g n
  rw [ih (fun x hx => h x (by omega)), h n (by omega)]
theorem iE (f : Nat -> Rat) (c : Rat) (n : Nat) : aQ (fun x => c * f x) n = c * aQ f n := by
 induction n with
 | zero => show (0 : Rat) = c * 0; rw [Rat.mul_zero]
 | succ n ih => show aQ (fun x => c * f x) n + c * f n = c * (aQ f n + f n); rw [ih, Rat.mul_add]
theorem fZ (f : Nat -> Rat) (c : Rat) (n : Nat) : aQ (fun x => f x / c) n = aQ f n / c := by
 induction n with
 | zero => show (0 : Rat) = 0 / c; rw [Rat.div_def, Rat.zero_mul]
 | succ n ih =>
  show aQ (fun x => f x / c) n + f n / c = (aQ f n + f n) / c
  rw [ih, Rat.div_def, Rat.div_def, Rat.div_def, Rat.add_mul]
theorem f8 (f g : Nat -> Rat) (n : Nat) : aQ (fun x => f x + g x) n = aQ f n + aQ g n := by
 induction n with
 | zero => show (0 : Rat) = 0 + 0; rw [Rat.add_zero]
 | succ n ih =>
  show aQ (fun x => f x + g x) n + (f n + g n) = (aQ f n + f n) + (aQ g n + g n)
  rw [ih]
  grind
theorem fL (c : Rat) (n : Nat) : aQ (fun _ => c) n = c * (n : Rat) := by
 induction n with
 | zero => show (0 : Rat) = c * ((0 : Nat) : Rat); rw [show ((0 : Nat) : Rat) = 0 from rfl, Rat.mul_zero]
 | succ n ih =>
  show aQ (fun _ => c) n + c = c * ((n + 1 : Nat) : Rat)
  rw [ih, show ((n + 1 : Nat) : Rat) = (n : Rat) + 1 from by push_cast; rfl, Rat.mul_add, Rat.mul_one]
theorem gJ (C : Int -> Int) (v : Nat) : aQ (fun x => (C (x : Int) : Rat)) (v + 1) = (aM C v : Rat) := by
 induction v with
 | zero => show (0 : Rat) + (C 0 : Rat) = _; rw [Rat.zero_add, dB]
 | succ v ih =>
  show aQ (fun x => (C (x : Int) : Rat)) (v + 1) + (C ((v + 1 : Nat) : Int) : Rat) = _
  rw [ih, dC, Rat.intCast_add]
theorem iO {a : Rat} (h : a ≠ 0) : a / a = 1 := by rw [Rat.div_def, Rat.mul_inv_cancel a h]
theorem fr {z : Int} (h : 0 < z) : (0 : Rat) < (z : Rat) := by exact_mod_cast h
theorem fh {a : Rat} (h : 0 < a) : a ≠ 0 := fun e => Rat.lt_irrefl (e ▸ h)

theorem jN (v : Nat) : bX (dO v) = 1 := by
 have h : dO v = (List.range (v + 1)).map fun _ => (1 : Rat) / ((v + 1 : Nat) : Rat) := by
  apply List.ext_getElem?
  intro i
  unfold dO
  by_cases hi : i < v + 1
  ·rw [List.getElem?_map, List.getElem?_range hi, List.getElem?_replicate_of_lt hi]; rfl
  rw [nI.2 (by simp; omega), nI.2 (by simp; omega)]
 rw [h, eL, fL, Rat.div_def, Rat.one_mul, Rat.inv_mul_cancel]
 exact fh (by exact_mod_cast Nat.succ_pos v)
theorem kF {C : Int -> Int} {v : Nat} (hs : 0 < aM C v) : bX (bQ C v) = 1 := by
 unfold bQ
 rw [eL, fZ, gJ, iO (fh (fr hs))]
theorem q9 {C : Int -> Int} (h : Mild C) {v : Nat} {a : Rat} (ha : 0 < a) : bX (cQ C v a) = 1 := by
 unfold cQ
 rw [eL, fZ, f8, gJ, fL]
 refine iO (fh ?_)
 have h1 : (0 : Rat) <= (aM C v : Rat) := by exact_mod_cast (bH h v).1
 have h2 : 0 < a * ((v + 1 : Nat) : Rat) := Rat.mul_pos ha (by exact_mod_cast Nat.succ_pos v)
 grind
theorem ra {C : Int -> Int} (h : Mild C) {v : Nat} {a : Rat} (ha : 0 < a) : ∀ q ∈ cQ C v a, 0 < q := by
 intro q hq
 obtain ⟨x, hx, rfl⟩ := List.mem_map.1 hq
 have h1 : (0 : Rat) <= (aM C v : Rat) := by exact_mod_cast (bH h v).1
 have h2 : 0 < a * ((v + 1 : Nat) : Rat) := Rat.mul_pos ha (by exact_mod_cast Nat.succ_pos v)
 have h3 : (0 : Rat) <= (C x : Rat) := by exact_mod_cast (h x).1
 exact fT (by grind) (by grind)
theorem ti {f : Nat -> Rat} {n x : Nat} (h : x < n) : ((List.range n).map f).getD x 0 = f x := by
 rw [gD, List.getElem?_map, List.getElem?_range h]
 rfl
theorem fK (l : List Rat) {n : Nat} (h : l.length = n) : aQ (fun j => l.getD j 0) n = bX l := by
 subst h; exact n8 l
theorem pA {T : Nat -> List Int -> Int -> Int} (hT : ∀ n h, Mild (T n h)) (v n : Nat) (h : List Int) : bX (bw T v n h) = 1 := by
 induction n generalizing h with
 | zero => exact jN v
 | succ n ih =>
  unfold bw
  split
  ·exact ih _
  next hs =>
  have h0 : 0 < aM (T (n + 1) h) v := by have := bH (hT (n + 1) h) v; omega
  have e : aQ (fun x => iA (T (n + 1) h) v ((bw T v n (h.drop 1)).getD x 0) x) (v + 1) = (aQ (fun x => (T (n + 1) h (x : Int) : Rat)) (v + 1) + aQ (fun x => (aF (T (n + 1) h) v : Rat) * (bw T v n (h.drop 1)).getD x 0) (v + 1)) / ((aM (T (n + 1) h) v + aF (T (n + 1) h) v : Int) : Rat) := by
   rw [<- f8, <- fZ]
   rfl
  rw [eL, e, gJ, iE, fK _ (cL T v n _), ih, Rat.mul_one, Rat.intCast_add, show (((aF (T (n + 1) h) v : Nat) : Int) : Rat) = ((aF (T (n + 1) h) v : Nat) : Rat) from Rat.intCast_natCast _]
  refine iO (fh ?_)
  have h1 := fr h0
  have h2 : (0 : Rat) <= ((aF (T (n + 1) h) v : Nat) : Rat) := by exact_mod_cast Nat.zero_le _
  grind
theorem pB {T : Nat -> List Int -> Int -> Int} (hT : ∀ n h, Mild (T n h)) (v n : Nat) (h : List Int) : ∀ q ∈ bw T v n h, 0 < q := by
 induction n generalizing h with
 | zero => exact gm v
 | succ n ih =>
  unfold bw
  split
  ·exact ih _
  next hs =>
  intro q hq
  obtain ⟨x, hx, rfl⟩ := List.mem_map.1 hq
  have hxl := List.mem_range.1 hx
  have h0 : 0 < aM (T (n + 1) h) v := by have := bH (hT (n + 1) h) v; omega
  have hk := (dU (hT (n + 1) h) v).1 h0
  have hp : 0 < (bw T v n (h.drop 1)).getD x 0 := by
   rw [gD, eG (by rw [cL]; exact hxl)]
   exact ih _ _ (List.getElem_mem _)
  have h1 : (0 : Rat) <= (T (n + 1) h x : Rat) := by exact_mod_cast (hT (n + 1) h x).1
  have h2 : (0 : Rat) < ((aF (T (n + 1) h) v : Nat) : Rat) := by exact_mod_cast hk
  have h3 := Rat.mul_pos h2 hp
  exact fT (by grind) (fr (by omega))
theorem qM {C : Int -> Int} (hC : Mild C) (a : Rat) (n : Nat) : aQ (fun x => if 0 < C (x : Int) then (C (x : Int) : Rat) - a else 0) (n + 1) = (aM C n : Rat) - a * (aF C n : Rat) := by
 induction n with
 | zero =>
  show (0 : Rat) + (if 0 < C 0 then (C 0 : Rat) - a else 0) = _
  rw [dB, ep, Rat.zero_add]
  have := hC 0
  by_cases h : C 0 = 0
  ·rw [if_pos h, if_neg (by omega), h]
   show (0 : Rat) = 0 - a * 0
   grind
  rw [if_neg h, if_pos (by omega)]
  show _ = (C 0 : Rat) - a * 1
  rw [Rat.mul_one]
 | succ n ih =>
  show aQ _ (n + 1) + (if 0 < C ((n + 1 : Nat) : Int) then (C ((n + 1 : Nat) : Int) : Rat) - a else 0) = _
  rw [ih, dC, er, Rat.intCast_add]
  have := hC ((n + 1 : Nat) : Int)
  by_cases h : C ((n + 1 : Nat) : Int) = 0
  ·rw [if_pos h, if_neg (by omega), h]
   show _ = _ + ((0 : Int) : Rat) - a * ((aF C n : Nat) : Rat)
   rw [show ((0 : Int) : Rat) = 0 from rfl]
   grind
  rw [if_neg h, if_pos (by omega), show ((aF C n + 1 : Nat) : Rat) = (aF C n : Rat) + 1 from by push_cast; rfl]
  grind
theorem rR {C : Int -> Int} (hC : Mild C) (ps : List Rat) (n : Nat) : aQ (fun x => if 0 < C (x : Int) then 0 else ps.getD x 0) n = aY C ps n := by
 induction n with
 | zero => rfl
 | succ n ih =>
  have := hC (n : Int)
  show aQ _ n + (if 0 < C (n : Int) then 0 else ps.getD n 0) = aY C ps (n + 1)
  rw [ih]
  unfold aY
  by_cases h : C (n : Int) = 0
  ·rw [if_pos h, if_neg (by omega)]
   cases n <;> rfl
  rw [if_neg h, if_pos (by omega), Rat.add_zero]
  cases n <;> rfl
theorem tG {T : Nat -> List Int -> Int -> Int} (hT : ∀ n h, Mild (T n h)) {v : Nat} {a : Rat} (ha : 0 < a) (ha1 : a < 1) (n : Nat) (h : List Int) : bX (bJ T v a n h) = 1 := by
 induction n generalizing h with
 | zero => exact jN v
 | succ n ih =>
  unfold bJ
  split
  ·next hk => exact kF ((dU (hT _ _) v).2 (by omega))
  next hk =>
  split
  ·exact ih _
  next hs =>
  have h0 : 0 < aM (T (n + 1) h) v := by have := bH (hT (n + 1) h) v; omega
  obtain ⟨y, hy, hy0⟩ := lF hk
  have hr : 0 < aY (T (n + 1) h) (bJ T v a n (h.drop 1)) (v + 1) := gc (gn hT ha ha1 n _) (x := y) (by omega) (by rw [bN]; exact nR _) hy0
  generalize hR : aY (T (n + 1) h) (bJ T v a n (h.drop 1)) (v + 1) = R at hr
  generalize hps : bJ T v a n (h.drop 1) = ps at hR
  generalize hCC : T (n + 1) h = C at *
  have hM : Mild C := by rw [<- hCC]; exact hT _ _
  have hsr := fr h0
  have e : aQ (fun x => fU C v a R (ps.getD x 0) x) (v + 1) = aQ (fun x => (if 0 < C (x : Int) then (C (x : Int) : Rat) - a else 0) / (aM C v : Rat)) (v + 1) + aQ (fun x => (a * (aF C v : Rat) / (aM C v : Rat) / R) * (if 0 < C (x : Int) then 0 else ps.getD x 0)) (v + 1) := by
   rw [<- f8]
   refine mB (fun x _ => ?_)
   unfold fU
   by_cases hx : 0 < C (x : Int)
   ·rw [if_pos hx, if_pos hx, if_pos hx, Rat.mul_zero, Rat.add_zero]
   rw [if_neg hx, if_neg hx, if_neg hx]
   simp only [Rat.div_def]
   grind
  rw [eL, e, fZ, iE, qM hM, rR hM, hR]
  simp only [Rat.div_def]
  have hRR : R⁻¹ * R = 1 := Rat.inv_mul_cancel _ (fh hr)
  have hSS : (aM C v : Rat) * (aM C v : Rat)⁻¹ = 1 := Rat.mul_inv_cancel _ (fh hsr)
  generalize (aM C v : Rat)⁻¹ = i at *
  generalize R⁻¹ = j at *
  grind
theorem uR {T : Nat -> List Int -> Int -> Int} (v : Nat) (h : List Int) (j : Nat) : bX (cG T v h j) = 1 := by
 induction j with
 | zero => exact jN v
 | succ j ih =>
  unfold cG
  split
  ·next hs => exact kF hs
  exact ih
theorem lH {C : Int -> Int} (hC : Mild C) (v : Nat) : ∀ q ∈ bQ C v, 0 <= q := by
 intro q hq
 obtain ⟨x, hx, rfl⟩ := List.mem_map.1 hq
 have h1 : (0 : Rat) <= (C (x : Int) : Rat) := by exact_mod_cast (hC x).1
 have h2 : (0 : Rat) <= (aM C v : Rat) := by exact_mod_cast (bH hC v).1
 rw [Rat.div_def]
 refine Rat.mul_nonneg h1 ?_
 by_cases h0 : (aM C v : Rat) = 0
 ·rw [h0, Rat.inv_zero]; exact Rat.le_refl
 exact Rat.le_of_lt (Rat.inv_pos.2 (Rat.lt_of_le_of_ne h2 (Ne.symm h0)))
theorem oM {T : Nat -> List Int -> Int -> Int} (hT : ∀ n h, Mild (T n h)) (v : Nat) (h : List Int) (j : Nat) : ∀ q ∈ cG T v h j, 0 <= q := by
 induction j with
 | zero => exact fun q hq => Rat.le_of_lt (gm v q hq)
 | succ j ih =>
  unfold cG
  split
  ·exact lH (hT _ _) v
  exact ih
theorem r9 {T : Nat -> List Int -> Int -> Int} (v : Nat) (mix : List Rat) (h : List Int) (j : Nat) : aQ (fun x => jD T v mix h x j) (v + 1) = aQ (fun i => mix.getD i 0) j := by
 induction j with
 | zero => show aQ (fun _ => (0 : Rat)) (v + 1) = 0; rw [fL, Rat.zero_mul]
 | succ j ih =>
  show aQ (fun x => jD T v mix h x j + mix.getD j 0 * (cG T v h j).getD x 0) (v + 1) = aQ (fun i => mix.getD i 0) j + mix.getD j 0
  rw [f8, ih, iE, fK _ (dD T v h j), uR, Rat.mul_one]
theorem qi {T : Nat -> List Int -> Int -> Int} (v : Nat) {mix : List Rat} {n : Nat} (hl : mix.length = n + 1) (hm : bX mix = 1) (h : List Int) : bX (dR T v mix n h) = 1 := by
 unfold dR
 rw [eL, r9, fK _ hl, hm]
theorem sd {T : Nat -> List Int -> Int -> Int} (hT : ∀ n h, Mild (T n h)) {v : Nat} {mix : List Rat} (hm : ∀ q ∈ mix, 0 <= q) (h0 : 0 < mix.getD 0 0) (h : List Int) {x : Nat} (hx : x < v + 1) (j : Nat) : 0 < jD T v mix h x (j + 1) := by
 induction j with
 | zero =>
  have hp : 0 < (dO v).getD x 0 := by
   rw [gD, eG (by rw [eE]; exact hx)]
   exact gm v _ (List.getElem_mem _)
  show 0 < (0 : Rat) + mix.getD 0 0 * (dO v).getD x 0
  rw [Rat.zero_add]
  exact Rat.mul_pos h0 hp
 | succ j ih =>
  show 0 < jD T v mix h x (j + 1) + mix.getD (j + 1) 0 * (cG T v h (j + 1)).getD x 0
  have h1 : 0 <= mix.getD (j + 1) 0 := cF (i := j + 1) (P := fun q => 0 <= q) Rat.le_refl hm
  have h2 : 0 <= (cG T v h (j + 1)).getD x 0 := cF (i := x) (P := fun q => 0 <= q) Rat.le_refl (oM hT v h (j + 1))
  have h3 := Rat.mul_nonneg h1 h2
  grind
theorem qj {T : Nat -> List Int -> Int -> Int} (hT : ∀ n h, Mild (T n h)) {v : Nat} {mix : List Rat} (hm : ∀ q ∈ mix, 0 <= q) (h0 : 0 < mix.getD 0 0) (n : Nat) (h : List Int) : ∀ q ∈ dR T v mix n h, 0 < q := by
 intro q hq
 obtain ⟨x, hx, rfl⟩ := List.mem_map.1 hq
 exact sd hT hm h0 h (List.mem_range.1 hx) n

def fA (k : Int) (O : Nat) (gs : List Gr) (v : Nat) (a : Rat) (mix : List Rat) (h : List Int) : List Rat :=
 if k = 1 then cQ (ap O gs O h) v a else if k = 2 then dR (ap O gs) v mix O h else if k = 3 then bJ (ap O gs) v a O h else bw (ap O gs) v O h
theorem rI {q : Rat} (h : aU q = 0) : q = 0 := by
 unfold aU at h
 split at h
 ·assumption
 split at h <;> omega
theorem mF {q : Rat} (h : ¬ aU q < 0) : 0 <= q := by
 unfold aU at h
 split at h
 ·next e => rw [e]; exact Rat.le_refl
 split at h
 ·omega
 next h1 => exact Rat.not_lt.1 h1
theorem qL {qs : List Rat} : iq qs = true ↔ (∀ q ∈ qs, 0 <= q) /\ bX qs = 1 := by
 unfold iq
 rw [Bool.and_eq_true, Bool.not_eq_true', decide_eq_false_iff_not, decide_eq_true_eq, kr]
 constructor
 ·rintro ⟨h1, h2⟩
  refine ⟨fun q hq => mF (fun h => h1 ⟨q, hq, h⟩), ?_⟩
  have := rI h2
  grind
 rintro ⟨h1, h2⟩
 refine ⟨?_, ?_⟩
 ·rintro ⟨q, hq, h⟩
  have h3 := h1 q hq
  unfold aU at h
  split at h
  ·omega
  split at h
  ·next h4 => exact absurd h4 (Rat.not_lt.2 h3)
  omega
 rw [h2, Rat.sub_self]
 rfl
theorem fH {a : Rat} {mix : List Rat} {O : Nat} (h : av 2 a mix O = true) : mix.length = O + 1 /\ (∀ q ∈ mix, 0 <= q) /\ bX mix = 1 /\ 0 < mix.getD 0 0 := by
 unfold av at h
 rw [if_neg (by decide), if_pos rfl] at h
 simp only [Bool.and_eq_true, decide_eq_true_eq, beq_iff_eq] at h
 obtain ⟨⟨⟨_, h1⟩, h2⟩, h3⟩ := h
 have := qL.1 h2
 exact ⟨by omega, this.1, this.2, jm h3⟩
theorem gH {k : Int} {a : Rat} {mix : List Rat} {O : Int} (h : av k a mix O = true) : k = 1 ∨ k = 2 ∨ k = 3 ∨ k = 4 := by
 unfold av at h
 by_cases h1 : k = 1
 ·exact Or.inl h1
 by_cases h2 : k = 2
 ·exact Or.inr (Or.inl h2)
 by_cases h3 : k = 3
 ·exact Or.inr (Or.inr (Or.inl h3))
 by_cases h4 : k = 4
 ·exact Or.inr (Or.inr (Or.inr h4))
 rw [if_neg h1, if_neg h2, if_neg h3, if_neg h4] at h
 cases h
theorem uw {k : Int} {O : Nat} {gs : List Gr} {v : Nat} {a : Rat} {mix : List Rat} (hT : SmallT gs v) (h : av k a mix O = true) (hl : List Int) :
  (fA k O gs v a mix hl).length = v + 1 /\ bX (fA k O gs v a mix hl) = 1 /\ ∀ q ∈ fA k O gs v a mix hl, 0 < q := by
 have hM : ∀ n h, Mild (ap O gs n h) := fun n h => hT.mild O n h
 unfold fA
 rcases gH h with rfl | rfl | rfl | rfl
 ·have := eW h
  rw [if_pos rfl]
  exact ⟨by simp [cQ], q9 (hM _ _) this.1, ra (hM _ _) this.1⟩
 ·have := fH h
  rw [if_neg (by decide), if_pos rfl]
  exact ⟨gF _ _ _ _ _, qi v this.1 this.2.2.1 hl, qj hM this.2.1 this.2.2.2 O hl⟩
 ·have := eK h
  rw [if_neg (by decide), if_neg (by decide), if_pos rfl]
  exact ⟨bN _ _ _ _ _, tG hM this.1 this.2.1 O hl, gn hM this.1 this.2.1 O hl⟩
 rw [if_neg (by decide), if_neg (by decide), if_neg (by decide)]
 exact ⟨cL _ _ _ _, pA hM v O hl, pB hM v O hl⟩
theorem wU (x : Value) (w : World) : (method 358 175 x "earshot/gram.row").run Tryz.prog w = .ok (218, x) w := by kernel_rfl
theorem xr (x : Value) (w : World) : (nilAhead 358 175 x "earshot/gram.row").run Tryz.prog w = .ok (some false) w := by kernel_rfl
theorem xt (x : Value) (w : World) : (nilAhead 358 177 x "earshot/gram.row").run Tryz.prog w = .ok (some false) w := by kernel_rfl
theorem xq (x : Value) (w : World) : (nilAhead 358 179 x "earshot/gram.row").run Tryz.prog w = .ok (some false) w := by kernel_rfl

structure xi (w : World) (O v : Nat) (gs : List Gr) (k : Int) (s : Bool) (A A' : Option Addr) (m c m' c' : Nat) (mv : Value) (rw_ : List Int -> List Rat) (T : TypeId) (rv : Nat -> Value) (F : FuncId) : Prop where
 way : ∀ b, fs k b O v s A A' m c m' c' mv = .iface T (rv b)
 meth : ∀ b w, (method 358 T (rv b) "earshot/gram.row").run Tryz.prog w = .ok (F, rv b) w
 nil : ∀ b w, (nilAhead 358 T (rv b) "earshot/gram.row").run Tryz.prog w = .ok (some false) w
 cf : ∀ args w, (callFunc F args).run Tryz.prog w = .ok (.enter F args) w
 row : ∀ b W hv h, LvsAt W b O 0 gs -> Below w.heap.size w W -> IntsAt W hv h -> h.length = O - 1 -> NiceK h -> Calls Tryz.prog F #[rv b, .int .i64 O, hv] W (dj W v (rw_ h))
 qb : ∀ h, ∀ q ∈ rw_ h, QB 5000000 q
 len : ∀ h, (rw_ h).length = v + 1

theorem rk (w : World) (O v : Nat) (lv : Value) (gs : List Gr) (k : Int) (s : Bool) (A A' : Option Addr) (m c m' c' : Nat) (mv : Value) (a : Rat) (mix : List Rat) (h : LangAt w lv gs s A A' m c m' c' a mv mix) (hE : aJ O v gs k a mix = 0) (hv8 : v <= 8) :
  ∃ T rv F, xi w O v gs k s A A' m c m' c' mv (fA k O gs v a mix) T rv F := by
 have hG := dy (cI hE).1
 have hT := bY (cI hE).1 hv8
 have hV := (cI hE).2
 have hM : ∀ n h, Mild (ap O gs n h) := fun n h => hT.mild O n h
 have hqa : QB 64 a := h.amount.qb (by omega)
 have hbq : bq O <= 4392300 := po hG.2.1.2
 rcases gH hV with rfl | rfl | rfl | rfl
 ·have hA := eW hV
  have e : fA 1 O gs v a mix = fun h => cQ (ap O gs O h) v a := by funext h; unfold fA; rw [if_pos rfl]
  rw [e]
  refine ⟨180, fun b => .agg #[.slice (some ⟨b, 0, none⟩) (O + 1) (O + 1), .int .i64 ((v : Int) + 1), .bool s, .slice A m c, .slice A' m' c'], 226, ?_, fun b w => vi _ w, fun b w => wP _ w, fun args w => by kernel_rfl, ?_, ?_, ?_⟩
  ·intro b
   unfold fs
   rw [if_neg (by decide), if_neg (by decide), if_neg (by decide)]
  ·intro b W hv hl hL hb hi hll hk
   exact tW W O O b v hv gs hl s A A' m c m' c' a hL ⟨hG.2.1.1, nR _⟩ hG.2.1.2 hi hll hk (h.amount.below hb) hA.1 hv8 hT.1 hT.2.1 hT.2.2.1
  ·intro hl q hq
   exact (nJ (hT.mild O O hl) hv8 hqa q hq).mono (by omega)
  intro hl
  simp [cQ]
 ·have hA := fH hV
  have e : fA 2 O gs v a mix = fun h => dR (ap O gs) v mix O h := by funext h; unfold fA; rw [if_neg (by decide), if_pos rfl]
  rw [e]
  refine ⟨175, fun b => .agg #[.slice (some ⟨b, 0, none⟩) (O + 1) (O + 1), .int .i64 ((v : Int) + 1), mv], 218, ?_, fun b w => wU _ w, fun b w => xr _ w, fun args w => by kernel_rfl, ?_, ?_, ?_⟩
  ·intro b
   unfold fs
   rw [if_pos rfl]
  ·intro b W hv hl hL hb hi hll hk
   exact vP O b v gs hG.2.1.2 hT O W hv hl mv mix ⟨hG.2.1.1, nR _⟩ hL hi hll hk (h.mixes.below hb) hA.1
  ·intro hl q hq
   exact (qk hM hv8 (h.mixes.qb (by omega)) hG.2.1.2 hl q hq).mono (by omega)
  intro hl
  exact gF _ _ _ _ _
 ·have hA := eK hV
  have e : fA 3 O gs v a mix = fun h => bJ (ap O gs) v a O h := by funext h; unfold fA; rw [if_neg (by decide), if_neg (by decide), if_pos rfl]
  rw [e]
  refine ⟨177, fun b => .agg #[.slice (some ⟨b, 0, none⟩) (O + 1) (O + 1), .int .i64 ((v : Int) + 1), .bool s, .slice A m c, .slice A' m' c'], 222, ?_, fun b w => vh _ w, fun b w => xt _ w, fun args w => by kernel_rfl, ?_, ?_, ?_⟩
  ·intro b
   unfold fs
   rw [if_neg (by decide), if_pos rfl]
  ·intro b W hv hl hL hb hi hll hk
   exact vk O b v gs hG.2.1.2 hT s A A' m c m' c' a hA.1 hA.2.1 O W hv hl (nR _) hL hi hll hk (h.amount.below hb)
  ·intro hl q hq
   exact (jS hM hv8 hqa O hl q hq).mono (by omega)
  intro hl
  exact bN _ _ _ _ _
 have e : fA 4 O gs v a mix = fun h => bw (ap O gs) v O h := by funext h; unfold fA; rw [if_neg (by decide), if_neg (by decide), if_neg (by decide)]
 rw [e]
 refine ⟨179, fun b => .agg #[.slice (some ⟨b, 0, none⟩) (O + 1) (O + 1), .int .i64 ((v : Int) + 1)], 225, ?_, fun b w => vf _ w, fun b w => xq _ w, fun args w => by kernel_rfl, ?_, ?_, ?_⟩
 ·intro b
  unfold fs
  rw [if_neg (by decide), if_neg (by decide), if_pos rfl]
 ·intro b W hv hl hL hb hi hll hk
  exact ro O b v gs hG.2.1.2 hT O W hv hl (nR _) hL hi hll hk
 ·intro hl q hq
  exact (iB hM hv8 O hl q hq).mono (by omega)
 intro hl
 exact cL _ _ _ _
section
open Go.RowKit
end
section
open Go.RowKit
end
end Go.Proofs.YtjebfdfkjlkifaaGreat
