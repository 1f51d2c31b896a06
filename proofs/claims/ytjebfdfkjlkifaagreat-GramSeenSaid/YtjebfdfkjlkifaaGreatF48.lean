/- Lemmas on the way: Gs1, SeQ, Gs2. -/
import Derived.Test.YtjebfdfkjlkifaaGreatE43
import Derived.Test.YtjebfdfkjlkifaaGreatE44
import Derived.Test.YtjebfdfkjlkifaaGreatE45
import Derived.Test.YtjebfdfkjlkifaaGreatF46
set_option linter.unusedSimpArgs false
set_option linter.unusedVariables false
set_option linter.unusedSectionVars false
set_option linter.unnecessarySimpa false
namespace Go.Proofs.YtjebfdfkjlkifaaGreat
open Go.RowKit
theorem sgnI_gt {q : Rat} (h : 0 < q) : 0 < sgnI q := by
 unfold sgnI
 split
 ·next e => exact absurd e (ne_pos h)
 ·split
  ·next h1 => exact absurd h (Rat.not_lt.2 (Rat.le_of_lt h1))
  ·omega
theorem thin_ok {V : Int} {gs : List Gr} {a : Raw} {rs : List Raw} (h : thinB V gs a rs = true) : smallB V gs = true ∧ rs.length ≤ 8 ∧ a.thin = true ∧ rs.all Raw.thin = true := by
 unfold thinB at h
 simp only [Bool.and_eq_true, decide_eq_true_eq] at h
 exact ⟨h.1, h.2.1, h.2.2.1, h.2.2.2⟩
theorem small_ok {V : Int} {gs : List Gr} (h : smallB V gs = true) : gs.length ≤ 60 ∧ V ≤ 8 := by
 unfold smallB at h
 simp only [Bool.and_eq_true, decide_eq_true_eq] at h
 exact h.1
theorem hist_of {O V : Int} {gs : List Gr} {k : Int} {a : Rat} {mix : List Rat} {hl : List Int} (h : checkE O V gs k a mix = 0) (hb : (((hl.length : Int) == O - 1) && inR 0 V hl) = true) : histE O V gs k a mix hl = 0 := by
 unfold histE
 rw [if_neg (by rw [h]; decide), if_pos (by simpa using hb)]
theorem LangAt.of {w : World} {lv : Value} {V : Int} {gs : List Gr} {s : Bool} {A A' : Option Addr} {m c m' c' : Nat} {mv : Value} {am : Raw} {rs : List Raw} (hg : GramsAt w lv gs) (ha : RawAt w (.agg #[.bool s, .slice A m c, .slice A' m' c']) am) (hm : RawsAt w mv rs) (h : thinB V gs am rs = true) : LangAt w lv gs s A A' m c m' c' am.q mv (rs.map Raw.q) :=
 ⟨hg, ha.frac (thin_ok h).2.2.1, hm.fracs (thin_ok h).2.2.2, by rw [List.length_map]; have := (thin_ok h).2.1; omega⟩
theorem sumC_congr {C D : Int → Int} {v : Nat} (h : ∀ x : Nat, x ≤ v → C x = D x) : sumC C v = sumC D v := by
 unfold sumC
 congr 1
 exact List.map_congr_left (fun x hx => h x (by have := List.mem_range.1 hx; omega))
theorem kindsC_congr {C D : Int → Int} {v : Nat} (h : ∀ x : Nat, x ≤ v → C x = D x) : kindsC C v = kindsC D v := by
 unfold kindsC
 congr 1
 exact List.filter_congr (fun x hx => by rw [h x (by have := List.mem_range.1 hx; omega)])
theorem sumC_one {C D : Int → Int} {c : Int} {y : Nat} (v : Nat) (hy : y ≤ v) (h0 : C (y : Int) = 0) (h1 : D (y : Int) = c) (h : ∀ x : Nat, x ≤ v → x ≠ y → D x = C x) : sumC D v = sumC C v + c := by
 induction v with
 | zero =>
  obtain rfl : y = 0 := by omega
  rw [sumC_zero, sumC_zero]
  have h0' : C 0 = 0 := h0
  have h1' : D 0 = c := h1
  omega
 | succ v ih =>
  rw [sumC_succ, sumC_succ]
  by_cases hv : y = v + 1
  ·subst hv
   rw [sumC_congr (C := D) (D := C) (fun x hx => h x (by omega) (by omega)), h0, h1]
   omega
  ·rw [ih (by omega) (fun x hx hne => h x (by omega) hne), h (v + 1) (Nat.le_refl _) (by omega)]
   omega
theorem kindsC_one {C D : Int → Int} {c : Int} {y : Nat} (v : Nat) (hy : y ≤ v) (h0 : C (y : Int) = 0) (h1 : D (y : Int) = c) (hc : c ≠ 0) (h : ∀ x : Nat, x ≤ v → x ≠ y → D x = C x) : kindsC D v = kindsC C v + 1 := by
 induction v with
 | zero =>
  obtain rfl : y = 0 := by omega
  have h0' : C 0 = 0 := h0
  have h1' : D 0 = c := h1
  rw [kindsC_zero, kindsC_zero, if_pos h0', if_neg (by omega)]
 | succ v ih =>
  rw [kindsC_succ, kindsC_succ]
  by_cases hv : y = v + 1
  ·subst hv
   rw [kindsC_congr (C := D) (D := C) (fun x hx => h x (by omega) (by omega)), if_pos h0, if_neg (by omega)]
  ·rw [ih (by omega) (fun x hx hne => h x (by omega) hne), h (v + 1) (Nat.le_refl _) (by omega)]
   omega

def cntT (gs : List Gr) (h : List Int) (j : Nat) (x : Int) : Int := tot 0 (gs.take j) (h ++ [x])
theorem totP_zero {p : List Int → Bool} {gs : List Gr} (h : ∀ g ∈ gs, p g.1 = false) : totP p gs = 0 := by
 have key : ∀ (gs : List Gr) (a : Int), (∀ g ∈ gs, p g.1 = false) → gs.foldl (fun s g => if p g.1 then s + g.2 else s) a = a := by
  intro gs
  induction gs with
  | nil => intros; rfl
  | cons g gs ih =>
   intro a hg
   rw [List.foldl_cons, hg g (by simp), ih _ (fun x hx => hg x (by simp [hx]))]
   rfl
 exact key gs 0 h
theorem cntT_zero (gs : List Gr) (h : List Int) (x : Int) : cntT gs h 0 x = 0 := by
 unfold cntT tot
 exact totP_zero (fun g hg => by cases hg)
theorem cntT_succ {gs : List Gr} {h : List Int} {j : Nat} {g : Gr} (hg : gs[j]? = some g) (x : Int) : cntT gs h (j + 1) x = cntT gs h j x + if g.1 == h ++ [x] then g.2 else 0 := by
 unfold cntT tot
 have hj := (List.getElem?_eq_some_iff.1 hg).1
 have e : gs.take (j + 1) = gs.take j ++ [g] := by
  rw [List.take_add_one, hg]
  rfl
 rw [e, totP_snoc]
 simp only [List.drop_zero]
theorem is_snoc {g h : List Int} {x : Int} (hl : g.length = h.length + 1) : g = h ++ [x] ↔ g.take h.length = h ∧ g.getD h.length 0 = x := by
 constructor
 ·intro e
  subst e
  simp [List.getD_eq_getElem?_getD]
 ·rintro ⟨h1, h2⟩
  have h3 : g.drop h.length = [x] := by
   obtain ⟨y, hy⟩ : ∃ y, g[h.length]? = some y := ⟨_, List.getElem?_eq_getElem (by omega)⟩
   rw [List.getD_eq_getElem?_getD, hy] at h2
   have h2' : y = x := h2
   subst h2'
   apply List.ext_getElem?
   intro i
   rw [List.getElem?_drop]
   cases i with
   | zero => rw [Nat.add_zero, hy]; rfl
   | succ i => rw [List.getElem?_eq_none_iff.2 (by omega), List.getElem?_eq_none_iff.2 (by simp)]
  rw [← List.take_append_drop h.length g, h1, h3]
theorem cntT_miss {gs : List Gr} {h : List Int} {j : Nat} {g : Gr} (hg : gs[j]? = some g) (hl : g.1.length = h.length + 1) (hm : g.1.take h.length ≠ h) (x : Int) : cntT gs h (j + 1) x = cntT gs h j x := by
 rw [cntT_succ hg, if_neg (by rw [beq_iff_eq, is_snoc hl]; exact fun e => hm e.1), Int.add_zero]
theorem cntT_hit {gs : List Gr} {h : List Int} {j : Nat} {g : Gr} {y : Int} (hn : (gs.map Prod.fst).Nodup) (hg : gs[j]? = some g) (hl : g.1.length = h.length + 1) (hm : g.1.take h.length = h) (hy : g.1.getD h.length 0 = y) :
  cntT gs h j y = 0 ∧ cntT gs h (j + 1) y = g.2 ∧ ∀ x, x ≠ y → cntT gs h (j + 1) x = cntT gs h j x := by
 have e : g.1 = h ++ [y] := (is_snoc hl).2 ⟨hm, hy⟩
 have h0 : cntT gs h j y = 0 := by
  unfold cntT tot
  refine totP_zero (fun g' hg' => ?_)
  obtain ⟨i, hi⟩ := List.mem_iff_getElem?.1 hg'
  have hij : i < j := by
   have := (List.getElem?_eq_some_iff.1 hi).1
   rw [List.length_take] at this
   omega
  rw [List.getElem?_take_of_lt hij] at hi
  rw [List.drop_zero, beq_eq_false_iff_ne, ← e]
  intro e'
  have h1 : (gs.map Prod.fst)[i]? = some g'.1 := by rw [List.getElem?_map, hi]; rfl
  have h2 : (gs.map Prod.fst)[j]? = some g.1 := by rw [List.getElem?_map, hg]; rfl
  obtain ⟨i1, h1'⟩ := List.getElem?_eq_some_iff.1 h1
  obtain ⟨j1, h2'⟩ := List.getElem?_eq_some_iff.1 h2
  exact List.pairwise_iff_getElem.1 hn i j i1 j1 hij (by rw [h1', h2', e'])
 refine ⟨h0, ?_, fun x hx => ?_⟩
 ·rw [cntT_succ hg, h0, if_pos (by rw [beq_iff_eq]; exact e), Int.zero_add]
 ·rw [cntT_succ hg, if_neg (by rw [beq_iff_eq, is_snoc hl]; exact fun e' => hx (by rw [← e'.2, hy])), Int.add_zero]

theorem map_getD (f : Nat → Rat) {n x : Nat} (h : x < n) : ((List.range n).map f).getD x 0 = f x := by
 rw [List.getD_eq_getElem?_getD, List.getElem?_map, List.getElem?_range h]
 rfl
theorem divQ_lt {a b d : Rat} (h : a < b) (hd : 0 < d) : a / d < b / d := by
 have h1 : 0 < (b - a) / d := div_pos' (by grind) hd
 rw [Rat.div_def] at *
 rw [Rat.div_def]
 grind
theorem divQ_le {a b d : Rat} (h : a ≤ b) (hd : 0 < d) : a / d ≤ b / d := by
 rcases Rat.le_iff_lt_or_eq.1 h with h1 | h1
 ·exact Rat.le_of_lt (divQ_lt h1 hd)
 ·rw [h1]; exact Rat.le_refl
theorem cast_lt {a b : Int} (h : a < b) : (a : Rat) < (b : Rat) := by exact_mod_cast h
theorem seen_added {C : Int → Int} (hC : Mild C) {v x y : Nat} {a : Rat} (ha : 0 < a) (hx : x < v + 1) (hy : y < v + 1) (h : C y < C x) : (addedQ C v a).getD y 0 < (addedQ C v a).getD x 0 := by
 unfold addedQ
 rw [map_getD _ hx, map_getD _ hy]
 have h1 : (0 : Rat) ≤ (sumC C v : Rat) := by exact_mod_cast (sumC_bd hC v).1
 have h2 : 0 < a * ((v + 1 : Nat) : Rat) := Rat.mul_pos ha (by exact_mod_cast Nat.succ_pos v)
 have h3 := cast_lt h
 exact divQ_lt (by grind) (by grind)
theorem sumC_ge {C : Int → Int} (hC : ∀ x, 0 ≤ C x) (v : Nat) {x : Nat} (hx : x ≤ v) : C x ≤ sumC C v := by
 induction v with
 | zero =>
  obtain rfl : x = 0 := by omega
  rw [sumC_zero]
  exact Int.le_refl _
 | succ v ih =>
  rw [sumC_succ]
  have h1 : 0 ≤ sumC C v := by
   clear ih hx
   induction v with
   | zero => rw [sumC_zero]; exact hC 0
   | succ v ih => rw [sumC_succ]; have := hC ((v + 1 : Nat) : Int); omega
  by_cases hv : x = v + 1
  ·subst hv; omega
  ·have := ih (by omega)
   have := hC ((v + 1 : Nat) : Int)
   omega
theorem seen_disc {T : Nat → List Int → Int → Int} (hT : ∀ n h, Mild (T n h)) {v x n : Nat} {a : Rat} (ha : 0 < a) {h : List Int} (hx : x < v + 1) (hs : 0 < T (n + 1) h x) : (1 - a) / (sumC (T (n + 1) h) v : Rat) ≤ (discQ T v a (n + 1) h).getD x 0 := by
 have hge := sumC_ge (C := T (n + 1) h) (fun y => (hT (n + 1) h y).1) v (x := x) (by omega)
 have hS := cast_pos (show 0 < sumC (T (n + 1) h) v by omega)
 have h1 : (1 : Rat) ≤ (T (n + 1) h x : Rat) := by exact_mod_cast hs
 unfold discQ
 split
 ·unfold shareQ
  rw [map_getD _ hx]
  exact divQ_le (by grind) hS
 ·split
  ·next h0 => omega
  ·rw [map_getD _ hx]
   unfold discW
   rw [if_pos hs]
   exact divQ_le (by grind) hS
theorem sumTo_lt {f g : Nat → Rat} {n : Nat} (h : ∀ x < n, f x ≤ g x) {y : Nat} (hy : y < n) (hl : f y < g y) : sumTo f n < sumTo g n := by
 have le : ∀ m, m ≤ n → sumTo f m ≤ sumTo g m := by
  intro m
  induction m with
  | zero => intro _; exact Rat.le_refl
  | succ m ih =>
   intro hm
   show sumTo f m + f m ≤ sumTo g m + g m
   have h1 := ih (by omega)
   have h2 := h m (by omega)
   grind
 induction n with
 | zero => omega
 | succ n ih =>
  show sumTo f n + f n < sumTo g n + g n
  by_cases hn : y = n
  ·subst hn
   have h1 := le y (by omega)
   grind
  ·have h1 := ih (fun x hx => h x (by omega)) (by omega) (fun m hm => le m (by omega))
   have h2 := h n (by omega)
   grind
theorem seen_one {C : Int → Int} (v : Nat) (hs : 0 < sumC C v) : ∃ x : Nat, x ≤ v ∧ 0 < C x := by
 induction v with
 | zero => rw [sumC_zero] at hs; exact ⟨0, Nat.le_refl _, hs⟩
 | succ v ih =>
  rw [sumC_succ] at hs
  by_cases h0 : 0 < sumC C v
  ·obtain ⟨x, h1, h2⟩ := ih h0
   exact ⟨x, by omega, h2⟩
  ·exact ⟨v + 1, Nat.le_refl _, by omega⟩
theorem seen_typed {T : Nat → List Int → Int → Int} (hT : ∀ n h, Mild (T n h)) {v n : Nat} {h : List Int} (hs : 0 < sumC (T (n + 1) h) v) :
  restN (T (n + 1) h) (typedQ T v (n + 1) h) (v + 1) < (kindsC (T (n + 1) h) v : Rat) / ((sumC (T (n + 1) h) v + kindsC (T (n + 1) h) v : Int) : Rat) := by
 have hM := hT (n + 1) h
 have hk := (kinds_pos hM v).1 hs
 have hkr : (0 : Rat) < (kindsC (T (n + 1) h) v : Rat) := by exact_mod_cast hk
 have hD : (0 : Rat) < ((sumC (T (n + 1) h) v + kindsC (T (n + 1) h) v : Int) : Rat) := cast_pos (by omega)
 obtain ⟨y, hy, hy0⟩ := seen_one v hs
 unfold typedQ
 rw [if_neg (by omega)]
 have hl := typedQ_length T v n (h.drop 1)
 have h1 := typed_sum hT v n (h.drop 1)
 have hp := typed_pos hT v n (h.drop 1)
 generalize typedQ T v n (h.drop 1) = low at *
 rw [← rest_sum hM]
 have e : sumTo (fun x => if 0 < T (n + 1) h (x : Int) then 0 else ((List.range (v + 1)).map fun x => typedW (T (n + 1) h) v (low.getD x 0) x).getD x 0) (v + 1) = sumTo (fun x => ((kindsC (T (n + 1) h) v : Rat) / ((sumC (T (n + 1) h) v + kindsC (T (n + 1) h) v : Int) : Rat)) * (if 0 < T (n + 1) h (x : Int) then 0 else low.getD x 0)) (v + 1) := by
  refine sumTo_congr (fun x hx => ?_)
  by_cases h0 : 0 < T (n + 1) h (x : Int)
  ·rw [if_pos h0, if_pos h0, Rat.mul_zero]
  ·have hz : T (n + 1) h (x : Int) = 0 := by have := (hM x).1; omega
   rw [if_neg h0, if_neg h0, map_getD _ hx]
   unfold typedW
   rw [hz, show ((0 : Int) : Rat) = 0 from rfl]
   simp only [Rat.div_def]
   grind
 rw [e, sumTo_mul]
 have hlt : sumTo (fun x => if 0 < T (n + 1) h (x : Int) then 0 else low.getD x 0) (v + 1) < 1 := by
  rw [← h1, ← sumTo_getD' low hl]
  have pos : ∀ x < v + 1, 0 < low.getD x 0 := fun x hx => by
   rw [List.getD_eq_getElem?_getD, List.getElem?_eq_getElem (by rw [hl]; exact hx)]
   exact hp _ (List.getElem_mem _)
  refine sumTo_lt (fun x hx => ?_) (y := y) (by omega) ?_
  ·split
   ·exact Rat.le_of_lt (pos x hx)
   ·exact Rat.le_refl
  ·show (if 0 < T (n + 1) h (y : Int) then 0 else low.getD y 0) < low.getD y 0
   rw [if_pos hy0]
   exact pos y (by omega)
 have hq := div_pos' hkr hD
 have h2 := Rat.mul_lt_mul_of_pos_left hlt hq
 rwa [Rat.mul_one] at h2
theorem cnt_mild {gs : List Gr} {v : Nat} (h : SmallT gs v) (hl : List Int) (j : Nat) : Mild (cntT gs hl j) :=
 tot_mild (fun g hg => h.1 g (List.mem_of_mem_take hg)) (by rw [List.length_take]; have := h.2.1; omega) 0 hl
theorem map_set {f f' : Nat → Value} {n y : Nat} (h : ∀ x, x < n → x ≠ y → f' x = f x) {u : Value} (hu : f' y = u) : ((List.range n).map f).set y u = (List.range n).map f' := by
 apply List.ext_getElem?
 intro i
 by_cases hi : i < n
 ·by_cases hy : y = i
  ·subst hy
   rw [List.getElem?_set_self (by simpa using hi), List.getElem?_map, List.getElem?_range hi, ← hu]
   rfl
  ·rw [List.getElem?_set_ne hy, List.getElem?_map, List.getElem?_map, List.getElem?_range hi]
   show some (f i) = some (f' i)
   rw [h i hi (fun e => hy e.symm)]
 ·rw [List.getElem?_eq_none_iff.2 (by simp; omega), List.getElem?_eq_none_iff.2 (by simp; omega)]
def CntAt (w : World) (b v : Nat) (C : Int → Int) : Prop := Blk w b 3 ((List.range (v + 1)).map fun (x : Nat) => .int .i64 (C (x : Int)))
theorem CntAt.cell {w : World} {b v : Nat} {C : Int → Int} (h : CntAt w b v C) {x : Nat} (hx : x < v + 1) : w.cell? ⟨b, x, none⟩ = some (.int .i64 (C (x : Int))) := by
 have := Blk.cell h x
 rwa [List.getElem?_map, List.getElem?_range hx] at this
theorem CntAt.of_eq {w : World} {b v : Nat} {C D : Int → Int} (h : CntAt w b v C) (e : ∀ x : Nat, x ≤ v → C x = D x) : CntAt w b v D := by
 have hl : ((List.range (v + 1)).map fun (x : Nat) => Value.int .i64 (C (x : Int))) = (List.range (v + 1)).map fun (x : Nat) => Value.int .i64 (D (x : Int)) := List.map_congr_left (fun x hx => by rw [e x (by have := List.mem_range.1 hx; omega)])
 unfold CntAt at h ⊢
 rwa [hl] at h
theorem ofRI (w : World) (z : Int) (h0 : 0 ≤ z) (h1 : z < 9223372036854775808) :
  Calls Tryz.prog 33 #[.int .i64 z] w fun e w' => ∃ u, e = .returned u ∧ CanNew w.heap.size w' u (z : Rat) ∧ Below w.heap.size w w' := by
 obtain ⟨n, rfl⟩ := Int.eq_ofNat_of_zero_le h0
 have := ofR w n (by omega)
 rwa [show ((n : Int) : Rat) = (n : Rat) from Rat.intCast_natCast n]
theorem makeRI (w : World) (z d : Int) (h0 : 0 ≤ z) (h1 : z < 9223372036854775808) (d0 : 0 < d) (d1 : d < 9223372036854775808) :
  Calls Tryz.prog 35 #[.int .i64 z, .int .i64 d] w fun e w' => ∃ u, e = .returned u ∧ CanNew w.heap.size w' u ((z : Rat) / (d : Rat)) ∧ Below w.heap.size w w' := by
 obtain ⟨n, rfl⟩ := Int.eq_ofNat_of_zero_le h0
 obtain ⟨k, rfl⟩ := Int.eq_ofNat_of_zero_le (Int.le_of_lt d0)
 have := makeR w n k (by omega) (by omega) (by omega)
 rwa [show ((n : Int) : Rat) = (n : Rat) from Rat.intCast_natCast n, show ((k : Int) : Rat) = (k : Rat) from Rat.intCast_natCast k]
theorem sub_gt {q r : Rat} (h : q < r) : 0 < r - q := by grind
theorem QB.sub {j k : Nat} {a b : Rat} (ha : QB j a) (hb : QB k b) : QB (j + k + 1) (a - b) := by
 rw [Rat.sub_eq_add_neg]
 exact ha.add hb.neg
theorem le_sgn {q r : Rat} (h : r ≤ q) : ¬ sgnI (q - r) < 0 := by
 intro h1
 unfold sgnI at h1
 split at h1
 ·omega
 ·split at h1
  ·next h2 => grind
  ·omega
theorem lt_sgn {q r : Rat} (h : q < r) : sgnI (q - r) < 0 := by
 unfold sgnI
 rw [if_neg (by grind), if_pos (by grind)]
 decide

theorem sum_const0 (v : Nat) : sumC (fun _ => 0) v = 0 := by
 induction v with
 | zero => exact sumC_zero _
 | succ v ih => rw [sumC_succ, ih]; rfl
theorem kinds_const0 (v : Nat) : kindsC (fun _ => 0) v = 0 := by
 induction v with
 | zero => rw [kindsC_zero]; rfl
 | succ v ih => rw [kindsC_succ, ih]; rfl
theorem DigAt.offCnt {w : World} {v : Value} {l : List Nat} {b n : Nat} {C : Int → Int} (h : DigAt w v l) (hb : CntAt w b n C) : Off v b := by
 obtain ⟨⟨h0, A, c, rfl, _, _, h5⟩, _⟩ := h
 intro ad n' c' e' hn
 cases e'
 obtain ⟨b', off, e', _, hc⟩ := h5 hn
 cases e'
 simp only
 intro hbb
 subst hbb
 cases l with
 | nil => simp at hn
 | cons d l =>
  have h1 := hc 0 (dg d) rfl
  unfold CntAt at hb
  rw [hb.cell] at h1
  obtain ⟨y, _, hy⟩ := List.mem_map.1 (List.mem_of_getElem? h1)
  unfold dg at hy
  cases hy
theorem CanAt.putCnt {w : World} {v : Value} {q : Rat} {b n : Nat} {C : Int → Int} (h : CanAt w v q) (hb : CntAt w b n C) (i : Nat) (u : Value) : CanAt (w.setCell ⟨b, i, none⟩ u) v q := by
 obtain ⟨vn, vd, e, h1, h2⟩ := h
 have o1 : Off vn b := by obtain ⟨l, hd, _⟩ := h1; exact hd.offCnt hb
 have o2 : Off vd b := by obtain ⟨l, hd, _⟩ := h2; exact hd.offCnt hb
 exact ⟨vn, vd, e, h1.setOff (p := ⟨b, i, none⟩) o1 u, h2.setOff (p := ⟨b, i, none⟩) o2 u⟩
theorem FArc.farCnt {w : World} {b g n : Nat} {qs : List Rat} {C : Int → Int} (h : FArc w b qs) (hb : CntAt w g n C) (hne : b ≠ g) (i : Nat) (u : Value) : FArc (w.setCell ⟨g, i, none⟩ u) b qs := by
 obtain ⟨ys, g1, g2, gx, g3⟩ := h
 refine ⟨ys, g1.far (p := ⟨g, i, none⟩) hne u, g2, gx, fun j r hr => ?_⟩
 obtain ⟨A1, m1, c1, A1', m1', c1', e0, e1, e2, e3⟩ := g3 j r hr
 exact ⟨A1, m1, c1, A1', m1', c1', e0, e1, e2, e3.putCnt hb _ _⟩

set_option maxRecDepth 1000000 in
set_option maxHeartbeats 32000000 in
theorem gramSeenG (hsort : SortOk) (w : World) (O V : Int) (Al : Option Addr) (nl cl : Nat) (gs : List Gr) (k : Int) (s : Bool) (A A' : Option Addr) (m c m' c' : Nat) (mv : Value) (am : Raw) (rs : List Raw) (hv : Value) (hl : List Int) (x y : Int) (hg : GramsAt w (.slice Al nl cl) gs) (ha : RawAt w (.agg #[.bool s, .slice A m c, .slice A' m' c']) am) (hm : RawsAt w mv rs) (hh : IntsAt w hv hl) (hO : -9223372036854775808 ≤ O ∧ O ≤ 9223372036854775807) :
  Calls Tryz.prog 4 #[langV O V (.slice Al nl cl) k s A A' m c m' c' mv, hv, .int .i64 x, .int .i64 y] w fun e w' => e = .returned (.bool true) ∧ Below w.heap.size w w' := by
 have HGG := Lib.hid hg
 obtain ⟨Am, cm, rfl, hmc, hcm, _⟩ := hm.open_
 obtain ⟨Ah, ch, rfl, hlc, hcm', _⟩ := hh.open_
 have HK := Lib.hid (knownS hsort)
 have HG := Lib.hid hg
 have HA := Lib.hid ha
 have HM := Lib.hid hm
 have HH := Lib.hid hh
 obtain ⟨ml, hml⟩ : ∃ n, rs.length = n := ⟨_, rfl⟩
 obtain ⟨nh, hnh⟩ : ∃ n, hl.length = n := ⟨_, rfl⟩
 have HTN : Hid (∀ w', Below w.heap.size w w' → Calls Tryz.prog 25 #[langV O V (.slice Al nl cl) k s A A' m c m' c' (.slice Am ml cm)] w' fun e w2 => e = .returned (.bool (thinB V gs am rs)) ∧ Below w'.heap.size w' w2) := Lib.hid (fun w' hb => by
  rw [← hml]
  exact thinG w' O V (.slice Al nl cl) gs k s A A' m c m' c' _ am rs (hg.below hb) (ha.below hb) (hm.below hb))
 have HLA : Hid (thinB V gs am rs = true → ∀ w', Below w.heap.size w w' → LangAt w' (.slice Al nl cl) gs s A A' m c m' c' am.q (.slice Am ml cm) (rs.map Raw.q)) := Lib.hid (fun ht w' hb => by
  rw [← hml]
  exact (LangAt.of hg ha hm ht).below hb)
 have HHA : Hid (∀ w', Below w.heap.size w w' → IntsAt w' (.slice Ah nh ch) hl) := Lib.hid (fun w' hb => by rw [← hnh]; exact hh.below hb)
 rw [hml] at hmc ⊢
 rw [hnh] at hlc ⊢
 have HNH := Lib.hid hnh
 obtain ⟨tb, htb⟩ : ∃ b, thinB V gs am rs = b := ⟨_, rfl⟩
 have HTB := Lib.hid htb
 clear hsort hg ha hm hh hml hnh htb HG HA HM HH
 unfold langV
 go_enter Tryz.func4, Tryz.ntmps4
 go_wp2_with fail
 obtain ⟨W, hW, P0, PB, Phs⟩ := box1 w 43 [.int .i64 O, .int .i64 V, .slice Al nl cl, .int .i64 k, .bool s, .slice A m c, .slice A' m' c', .slice Am ml cm]
 rw [← hW]
 clear hW
 obtain ⟨p0, p1, p2, p3, p4, p5, p6, p7⟩ := eight P0.out
 go_wp2_with fail
 refine (HTN.out W PB.out).mono ?_
 rintro e w1 ⟨rfl, hb1⟩
 rw [HTB.out]
 have P1 := Lib.hid (P0.out.below' hb1)
 have B1 := Lib.hid (PB.out.trans (hb1.mono PB.out.size))
 clear p0 p1 p2 p3 p4 p5 p6 p7 hb1 P0 PB
 obtain ⟨p0, p1, p2, p3, p4, p5, p6, p7⟩ := eight P1.out
 cases tb with
 | false =>
  go_wp2_with fail
  refine (HK.out _).mono ?_
  rintro e wK ⟨rfl, hbK⟩
  have BK := Lib.hid (B1.out.trans (hbK.mono B1.out.size))
  clear hbK
  go_wp2_with fail
  go_ret
  exact ⟨rfl, BK.out⟩
 | true =>
  have LA := Lib.hid (HLA.out HTB.out)
  have SM := Lib.hid (small_ok (thin_ok HTB.out).1)
  obtain ⟨a, hqa⟩ : ∃ q, am.q = q := ⟨_, rfl⟩
  obtain ⟨mix, hmix⟩ : ∃ l, rs.map Raw.q = l := ⟨_, rfl⟩
  rw [hqa, hmix] at LA
  clear hqa hmix
  go_wp2_with fail
  refine (refCheckG w1 O V (.slice Al nl cl) gs k s A A' m c m' c' (.slice Am ml cm) a mix (LA.out w1 B1.out)).mono ?_
  rintro e w2 ⟨rfl, hb2⟩
  obtain ⟨ce, hce⟩ : ∃ z, checkE O V gs k a mix = z := ⟨_, rfl⟩
  rw [hce]
  have HCE := Lib.hid hce
  have P2 := Lib.hid (P1.out.below' hb2)
  have B2 := Lib.hid (B1.out.trans (hb2.mono B1.out.size))
  clear p0 p1 p2 p3 p4 p5 p6 p7 hb2 P1 B1 hce
  obtain ⟨p0, p1, p2, p3, p4, p5, p6, p7⟩ := eight P2.out
  by_cases hc0 : ce = 0
  ·subst hc0
   have HSZ := sizes_ok (tableE_ok (check_ok HCE.out).1).2.1
   obtain ⟨o, rfl⟩ : ∃ o : Nat, O = o := ⟨O.toNat, by omega⟩
   obtain ⟨v, rfl⟩ : ∃ v : Nat, V = v := ⟨V.toNat, by omega⟩
   have hv8 : v ≤ 8 := by have := SM.out.2; omega
   go_wp2_with fail
   refine (historyR w2 o v (.slice Al nl cl) gs k s A A' m c m' c' Am ml cm _ hl (by omega) Al nl cl rfl (HHA.out w2 B2.out)).mono ?_
   rintro e w3 ⟨rfl, hb3⟩
   obtain ⟨hb, hhb⟩ : ∃ b, (((hl.length : Int) == (o : Int) - 1) && inR 0 v hl) = b := ⟨_, rfl⟩
   rw [hhb]
   have HHB := Lib.hid hhb
   have P3 := Lib.hid (P2.out.below' hb3)
   have B3 := Lib.hid (B2.out.trans (hb3.mono B2.out.size))
   clear p0 p1 p2 p3 p4 p5 p6 p7 hb3 P2 B2 hhb
   obtain ⟨p0, p1, p2, p3, p4, p5, p6, p7⟩ := eight P3.out
   cases hb with
   | false =>
    go_wp2_with fail
    refine (HK.out _).mono ?_
    rintro e wK ⟨rfl, hbK⟩
    have BK := Lib.hid (B3.out.trans (hbK.mono B3.out.size))
    clear hbK
    go_wp2_with fail
    go_ret
    exact ⟨rfl, BK.out⟩
   | true =>
    have HE := Lib.hid (hist_of HCE.out HHB.out)
    by_cases x1 : 0 ≤ x
    ·have x1' : decide (x < 0) = false := decide_eq_false (by omega)
     by_cases x2 : x ≤ (v : Int)
     ·have x2' : decide ((v : Int) < x) = false := decide_eq_false (by omega)
      by_cases y1 : 0 ≤ y
      ·have y1' : decide (y < 0) = false := decide_eq_false (by omega)
       by_cases y2 : y ≤ (v : Int)
       ·have y2' : decide ((v : Int) < y) = false := decide_eq_false (by omega)
        obtain ⟨X, rfl⟩ : ∃ X : Nat, x = X := ⟨x.toNat, by omega⟩
        obtain ⟨Y, rfl⟩ : ∃ Y : Nat, y = Y := ⟨y.toNat, by omega⟩
        have hX : X < v + 1 := by omega
        have hY : Y < v + 1 := by omega
        clear x1 x2 y1 y2
        have HT := Lib.hid (table_small (check_ok HCE.out).1 hv8)
        have HTA := Lib.hid (table_all (check_ok HCE.out).1)
        have HGT := Lib.hid (table_good (check_ok HCE.out).1)
        have HVB := Lib.hid (check_ok HCE.out).2
        have hno : nh + 1 = o := by have := (hist_ok HE.out).2.2.1; have := HNH.out; omega
        obtain ⟨qs, hqs⟩ : ∃ l, rowQ k o gs v a mix hl = l := ⟨_, rfl⟩
        have RA : Hid (qs.length = v + 1) := Lib.hid (by rw [← hqs]; exact (row_all HT.out HVB.out hl).1)
        have QB5 : Hid (∀ q ∈ qs, QB 5000000 q) := Lib.hid (by
         obtain ⟨T, rv, F, hw⟩ := way_ok w3 o v (.slice Al nl cl) gs k s A A' m c m' c' (.slice Am ml cm) a mix (LA.out w3 B3.out) HCE.out hv8
         rw [← hqs]
         exact hw.qb hl)
        have HQS := Lib.hid hqs
        clear hqs
        go_wp2_with fail
        refine (Go.Proofs.YtjebfdfkjlkifaaGreat.rowG w3 o v (.slice Al nl cl) gs k s A A' m c m' c' (.slice Am ml cm) a mix _ hl (LA.out w3 B3.out) (HHA.out w3 B3.out) HE.out hv8).mono ?_
        rw [HQS.out]
        rintro e w4 ⟨b4, rfl, hs4, hf4, hb4⟩
        have F4 := Lib.hid hf4
        have P4 := Lib.hid (P3.out.below' hb4)
        have B4 := Lib.hid (B3.out.trans (hb4.mono B3.out.size))
        clear p0 p1 p2 p3 p4 p5 p6 p7 hb4 P3 B3 hf4 hs4
        obtain ⟨p0, p1, p2, p3, p4, p5, p6, p7⟩ := eight P4.out
        have v1 : IntKind.i64.wrap ((v : Int) + 1) = (v : Int) + 1 := IntWalk.i64_in _ (by omega)
        have v2 : (((v : Int) + 1) != (v : Int) + 1) = false := by simp
        obtain ⟨i0, gi, gz0, gz1, gz2⟩ := info_parts infoInt
        go_wp2_with (at_make; refine wpList_make_blk rfl _ _ 44 rfl 3 i0 (.int .i64 0) 8 Tryz.underlying44 gi gz0 gz1 gz2 rfl .i64 .i64 _ _ (v + 1) rfl rfl (by omega) (by omega) (by omega) (by unfold maxLen; omega) ?_)
        intro w5 hblk hb5
        have C5 : Hid (CntAt w5 w4.heap.size v (cntT gs hl 0)) := Lib.hid (by
         have e : (List.range (v + 1)).map (fun (x : Nat) => Value.int .i64 (cntT gs hl 0 (x : Int))) = List.replicate (v + 1) (.int .i64 0) := by
          apply List.ext_getElem?
          intro i
          by_cases hi : i < v + 1
          ·rw [List.getElem?_map, List.getElem?_range hi, List.getElem?_replicate_of_lt hi]
           show some (Value.int .i64 (cntT gs hl 0 (i : Int))) = _
           rw [cntT_zero]
          ·rw [List.getElem?_eq_none_iff.2 (by simp; omega), List.getElem?_eq_none_iff.2 (by simp; omega)]
         unfold CntAt
         rw [e]
         exact hblk)
        have F5 := Lib.hid (F4.out.below hb5)
        have P5 := Lib.hid (P4.out.below' hb5)
        have B5 := Lib.hid (B4.out.trans (hb5.mono B4.out.size))
        have hs4 : w.heap.size < w4.heap.size := P4.out.lt
        have hs4' : b4 < w4.heap.size := F4.out.lt
        obtain ⟨bn, hbn⟩ : ∃ n, w4.heap.size = n := ⟨_, rfl⟩
        rw [hbn] at C5 hs4 hs4' ⊢
        clear p0 p1 p2 p3 p4 p5 p6 p7 hblk hb5 P4 B4 F4 gi gz0 gz1 gz2 hbn
        obtain ⟨p0, p1, p2, p3, p4, p5, p6, p7⟩ := eight P5.out
        have HZ1 : Hid (sumC (cntT gs hl 0) v = 0) := Lib.hid (by rw [sumC_congr (D := fun _ => 0) (fun x _ => cntT_zero gs hl x)]; exact sum_const0 v)
        have HZ2 : Hid (kindsC (cntT gs hl 0) v = 0) := Lib.hid (by rw [kindsC_congr (D := fun _ => 0) (fun x _ => cntT_zero gs hl x)]; exact kinds_const0 v)
        obtain ⟨A1, c1, e1, hlg, hcg, hat⟩ := HGG.out.open_
        have hnl : nl = gs.length ∧ Al = A1 := by injection e1 with e2 e3 e4; exact ⟨e3, e2⟩
        obtain ⟨hnl, rfl⟩ := hnl
        have HAT := Lib.hid hat
        have HNL : Hid (gs.length = nl) := Lib.hid hnl.symm
        have hnl2 : nl ≤ 20000 := by have := HTA.out.1; omega
        clear e1 hlg hat hnl
        go_wp2_with fail
        go_loopg [12, 13, 14, 15] nl (fun gh sm kd i _ wz => ∃ (j : Nat), i = .int .i64 j ∧ j + gh = nl ∧ sm = .int .i64 (sumC (cntT gs hl j) v) ∧ kd = .int .i64 ((kindsC (cntT gs hl j) v : Nat) : Int) ∧ Hid (CntAt wz bn v (cntT gs hl j)) ∧ Hid (FArc wz b4 qs) ∧ Hid (Blk wz w.heap.size 43 [.int .i64 o, .int .i64 v, .slice Al nl cl, .int .i64 k, .bool s, .slice A m c, .slice A' m' c', .slice Am ml cm]) ∧ Hid (Below w.heap.size w wz))
        case atStart => exact ⟨0, rfl, by omega, by rw [HZ1.out], by rw [HZ2.out]; rfl, C5, F5, P5, B5⟩
        case round =>
         clear C5 F5 P5 B5 p0 p1 p2 p3 p4 p5 p6 p7
         obtain ⟨j, rfl, hj, rfl, rfl, C6, F6, P6, B6⟩ := hrel
         obtain ⟨p0, p1, p2, p3, p4, p5, p6, p7⟩ := eight P6.out
         have sP : w.heap.size < wr.heap.size := P6.out.lt
         have sF : b4 < wr.heap.size := F6.out.lt
         have sC : bn < wr.heap.size := Blk.lt C6.out
         rcases Nat.eq_zero_or_pos gk with hh | hh
         ·subst hh
          obtain rfl : j = nl := by omega
          obtain ⟨T, hT⟩ : ∃ f, totN o gs = f := ⟨_, rfl⟩
          have HC : Hid (∀ x : Nat, x ≤ v → cntT gs hl j x = T o hl x) := Lib.hid (fun x _ => by
           rw [← hT]
           unfold cntT totN
           rw [Nat.sub_self, ← HNL.out, List.take_length])
          have ML : Hid (∀ n h, Mild (T n h)) := Lib.hid (fun n h => by rw [← hT]; exact HT.out.mild o n h)
          have HTT := Lib.hid hT
          have C7 : Hid (CntAt wr bn v (T o hl)) := Lib.hid (C6.out.of_eq HC.out)
          rw [sumC_congr HC.out, kindsC_congr HC.out]
          obtain ⟨S, hS0⟩ : ∃ S, sumC (T o hl) v = S := ⟨_, rfl⟩
          obtain ⟨K0, hK0⟩ : ∃ n, kindsC (T o hl) v = n := ⟨_, rfl⟩
          have hbS := sumC_bd (ML.out o hl) v
          have hkS := kindsC_le (T o hl) v
          have hkp := kinds_pos (ML.out o hl) v
          rw [hS0] at hbS hkp ⊢
          rw [hK0] at hkS hkp ⊢
          have HKP := Lib.hid hkp
          clear hkp
          have HS := Lib.hid hS0
          have HKK := Lib.hid hK0
          have kx := C7.out.cell hX
          have ky := C7.out.cell hY
          obtain ⟨nx, hnx⟩ : ∃ z, T o hl (X : Int) = z := ⟨_, rfl⟩
          obtain ⟨ny, hny⟩ : ∃ z, T o hl (Y : Int) = z := ⟨_, rfl⟩
          rw [hnx] at kx
          rw [hny] at ky
          have HNX := Lib.hid hnx
          have HNY := Lib.hid hny
          obtain ⟨qX, hqx⟩ : ∃ q, qs[X]? = some q := ⟨_, List.getElem?_eq_getElem (by rw [RA.out]; exact hX)⟩
          obtain ⟨qY, hqy⟩ : ∃ q, qs[Y]? = some q := ⟨_, List.getElem?_eq_getElem (by rw [RA.out]; exact hY)⟩
          have HQX : Hid (qs.getD X 0 = qX) := Lib.hid (by rw [List.getD_eq_getElem?_getD, hqx]; rfl)
          have HQY : Hid (qs.getD Y 0 = qY) := Lib.hid (by rw [List.getD_eq_getElem?_getD, hqy]; rfl)
          have HX := Lib.hid hqx
          obtain ⟨AX, mX, cX, AX', mX', cX', gX0, gX1, gX2, _, _, _, tX⟩ := F6.out.get hqx
          obtain ⟨AY, mY, cY, AY', mY', cY', gY0, gY1, gY2, _, _, _, tY⟩ := F6.out.get hqy
          have TX := Lib.hid (tX.frac (k := 50000000) ((QB5.out qX (List.mem_of_getElem? hqx)).mono (by omega)) (by omega))
          have TY := Lib.hid (tY.frac (k := 50000000) ((QB5.out qY (List.mem_of_getElem? hqy)).mono (by omega)) (by omega))
          have i1 : (0 : Int) ≤ (X : Int) := by omega
          have i2 : (X : Int) < (v : Int) + 1 := by omega
          have i3 : (0 : Int) ≤ (Y : Int) := by omega
          have i4 : (Y : Int) < (v : Int) + 1 := by omega
          clear hT hS0 hK0 hnx hny hqx hqy tX tY C6
          go_upto_region 16 with fail
          go_cut [139] (fun t wc => t = .bool false ∧ Hid (Below wr.heap.size wr wc))
          case first =>
           by_cases hk1 : k = 1
           ·subst hk1
            by_cases hlt : ny < nx
            ·have t1 : decide (ny < nx) = true := decide_eq_true hlt
             have hpos : 0 < sgnI (qX - qY) := sgnI_gt (by
              have h1 := seen_added (ML.out o hl) (valid_added HVB.out).1 hX hY (show T o hl (Y : Int) < T o hl (X : Int) by rw [HNX.out, HNY.out]; exact hlt)
              have e : addedQ (T o hl) v a = qs := by
               rw [← HQS.out, ← HTT.out]
               unfold rowQ
               rw [if_pos rfl]
              rw [e, HQX.out, HQY.out] at h1
              exact sub_gt h1)
             obtain ⟨sg, hsg⟩ : ∃ z, sgnI (qX - qY) = z := ⟨_, rfl⟩
             rw [hsg] at hpos
             have HSG := Lib.hid hsg
             have d1 : decide (sg ≤ 0) = false := decide_eq_false (by omega)
             have BB := Lib.hid (Below.refl wr.heap.size wr)
             have hS := And.intro ((BB.out.cell (p := ⟨w.heap.size, 3, none⟩) sP).trans p3) (And.intro ((BB.out.cell (p := ⟨bn, X, none⟩) sC).trans kx) (And.intro ((BB.out.cell (p := ⟨bn, Y, none⟩) sC).trans ky) (And.intro ((BB.out.cell (p := ⟨b4, X * 3, none⟩) sF).trans gX0) (And.intro ((BB.out.cell (p := ⟨b4, X * 3 + 1, none⟩) sF).trans gX1) (And.intro ((BB.out.cell (p := ⟨b4, X * 3 + 2, none⟩) sF).trans gX2) (And.intro ((BB.out.cell (p := ⟨b4, Y * 3, none⟩) sF).trans gY0) (And.intro ((BB.out.cell (p := ⟨b4, Y * 3 + 1, none⟩) sF).trans gY1) ((BB.out.cell (p := ⟨b4, Y * 3 + 2, none⟩) sF).trans gY2))))))))
             clear hsg
             go_region_held3 (fun w' => w'.cell? ⟨w.heap.size, 3, none⟩ = some (.int .i64 1) ∧ w'.cell? ⟨bn, X, none⟩ = some (.int .i64 nx) ∧ w'.cell? ⟨bn, Y, none⟩ = some (.int .i64 ny) ∧ w'.cell? ⟨b4, X * 3, none⟩ = some (.bool (isNeg qX)) ∧ w'.cell? ⟨b4, X * 3 + 1, none⟩ = some (.slice AX mX cX) ∧ w'.cell? ⟨b4, X * 3 + 2, none⟩ = some (.slice AX' mX' cX') ∧ w'.cell? ⟨b4, Y * 3, none⟩ = some (.bool (isNeg qY)) ∧ w'.cell? ⟨b4, Y * 3 + 1, none⟩ = some (.slice AY mY cY) ∧ w'.cell? ⟨b4, Y * 3 + 2, none⟩ = some (.slice AY' mY' cY'))
              (first | assumption | exact hS | go_keep)
              (first
               | (go_at_call 30; refine (cmpR _ _ _ qX qY 50000000 (TX.out.below (below_drew_self _)) (TY.out.below (below_drew_self _)) (by omega) (by omega)).mono ?_; rintro e wl ⟨rfl, hb'⟩; rw [HSG.out]; have hb := below_of_drew hb'; replace BB := Lib.hid hb; have hS := And.intro ((BB.out.cell (p := ⟨w.heap.size, 3, none⟩) sP).trans p3) (And.intro ((BB.out.cell (p := ⟨bn, X, none⟩) sC).trans kx) (And.intro ((BB.out.cell (p := ⟨bn, Y, none⟩) sC).trans ky) (And.intro ((BB.out.cell (p := ⟨b4, X * 3, none⟩) sF).trans gX0) (And.intro ((BB.out.cell (p := ⟨b4, X * 3 + 1, none⟩) sF).trans gX1) (And.intro ((BB.out.cell (p := ⟨b4, X * 3 + 2, none⟩) sF).trans gX2) (And.intro ((BB.out.cell (p := ⟨b4, Y * 3, none⟩) sF).trans gY0) (And.intro ((BB.out.cell (p := ⟨b4, Y * 3 + 1, none⟩) sF).trans gY1) ((BB.out.cell (p := ⟨b4, Y * 3 + 2, none⟩) sF).trans gY2)))))))); clear hb hb'))
             all_goals
              go_wp2_with fail
              go_meet
              exact ⟨rfl, BB⟩
            ·have t1 : decide (ny < nx) = false := decide_eq_false hlt
             clear hlt
             go_quiet (fail)
             go_wp2_with fail
             go_meet
             exact ⟨rfl, Lib.hid (below_drewN (Below.refl _ _) _)⟩
           ·have e1 : (k == 1) = false := by simpa using hk1
            clear hk1
            go_quiet (fail)
            go_wp2_with fail
            go_meet
            exact ⟨rfl, Lib.hid (below_drewN (Below.refl _ _) _)⟩
          case rest =>
           obtain ⟨rfl, X9⟩ := hcut
           obtain ⟨w9, rfl⟩ : ∃ x, x = wc := ⟨_, rfl⟩
           have C9 : Hid (CntAt w9 bn v (T o hl)) := Lib.hid (Blk.below' C7.out X9.out)
           have F9 := Lib.hid (F6.out.below X9.out)
           have P9 := Lib.hid (P6.out.below' X9.out)
           have B9 := Lib.hid (B6.out.trans (X9.out.mono B6.out.size))
           have sP9 : w.heap.size < w9.heap.size := P9.out.lt
           have sF9 : b4 < w9.heap.size := F9.out.lt
           have sC9 : bn < w9.heap.size := Blk.lt C9.out
           clear gX0 gX1 gX2 gY0 gY1 gY2 kx ky TX TY p0 p1 p2 p3 p4 p5 p6 p7 C7 F6 P6 B6
           obtain ⟨p0, p1, p2, p3, p4, p5, p6, p7⟩ := eight P9.out
           have kx := C9.out.cell hX
           rw [HNX.out] at kx
           obtain ⟨AX, mX, cX, AX', mX', cX', gX0, gX1, gX2, _, _, _, tX⟩ := F9.out.get HX.out
           have TX := Lib.hid (tX.frac (k := 50000000) ((QB5.out qX (List.mem_of_getElem? HX.out)).mono (by omega)) (by omega))
           clear tX
           go_upto_region 18 with fail
           go_cut [164] (fun t wc => t = .bool false ∧ Hid (Below w9.heap.size w9 wc))
           case first =>
            by_cases hk3 : k = 3
            ·subst hk3
             by_cases hlt : 0 < nx
             ·have t1 : decide (0 < nx) = true := decide_eq_true hlt
              have HVD := Lib.hid (valid_disc HVB.out)
              have hS1 : 0 < S := by
               have := sumC_ge (C := T o hl) (fun y => (ML.out o hl y).1) v (x := X) (by omega)
               rw [HNX.out, HS.out] at this
               omega
              have QS : Hid (QB 64 (S : Rat)) := Lib.hid (qb_int (by omega) (by omega))
              have S0 : Hid ((S : Rat) ≠ 0) := Lib.hid (ne_pos (cast_pos hS1))
              obtain ⟨x1, hx1⟩ : ∃ y : Rat, ((1 : Nat) : Rat) - a = y := ⟨_, rfl⟩
              obtain ⟨x2, hx2⟩ : ∃ y : Rat, x1 / (S : Rat) = y := ⟨_, rfl⟩
              have QA : Hid (QB 64 a) := Lib.hid ((LA.out w (Below.refl _ _)).amount.qb (by omega))
              have Q1 : Hid (QB 64 ((1 : Nat) : Rat)) := Lib.hid (qb_nat (n := 1) (k := 64) (by omega) (by omega))
              have QX1 : Hid (QB 200 x1) := Lib.hid (by rw [← hx1]; exact (QB.sub Q1.out QA.out).mono (by omega))
              have QX2 : Hid (QB 300 x2) := Lib.hid (by rw [← hx2]; exact (QX1.out.div QS.out (by omega)).mono (by omega))
              have hpos : ¬ sgnI (qX - x2) < 0 := le_sgn (by
               have h1 := seen_disc (T := T) (n := o - 1) ML.out HVD.out.1 (h := hl) hX (by rw [Nat.sub_add_cancel (by omega), HNX.out]; exact hlt)
               rw [Nat.sub_add_cancel (by omega), HS.out] at h1
               have e : discQ T v a o hl = qs := by
                rw [← HQS.out, ← HTT.out]
                unfold rowQ
                rw [if_neg (by decide), if_neg (by decide), if_pos rfl]
               rw [e, HQX.out] at h1
               rw [← hx2, ← hx1]
               exact h1)
              obtain ⟨sg, hsg⟩ : ∃ z, sgnI (qX - x2) = z := ⟨_, rfl⟩
              rw [hsg] at hpos
              have HSG := Lib.hid hsg
              have HX1 := Lib.hid hx1
              have HX2 := Lib.hid hx2
              have d1 : decide (sg < 0) = false := decide_eq_false hpos
              have BB := Lib.hid (Below.refl w9.heap.size w9)
              have TA := Lib.hid (((LA.out w9 B9.out).amount).mono (show 64 ≤ 50000000 by omega))
              have hS := And.intro ((BB.out.cell (p := ⟨w.heap.size, 3, none⟩) sP9).trans p3) (And.intro ((BB.out.cell (p := ⟨w.heap.size, 4, none⟩) sP9).trans p4) (And.intro ((BB.out.cell (p := ⟨w.heap.size, 5, none⟩) sP9).trans p5) (And.intro ((BB.out.cell (p := ⟨w.heap.size, 6, none⟩) sP9).trans p6) (And.intro ((BB.out.cell (p := ⟨bn, X, none⟩) sC9).trans kx) (And.intro ((BB.out.cell (p := ⟨b4, X * 3, none⟩) sF9).trans gX0) (And.intro ((BB.out.cell (p := ⟨b4, X * 3 + 1, none⟩) sF9).trans gX1) ((BB.out.cell (p := ⟨b4, X * 3 + 2, none⟩) sF9).trans gX2)))))))
              clear hsg hx1 hx2
              go_region_held3 (fun w' => w'.cell? ⟨w.heap.size, 3, none⟩ = some (.int .i64 3) ∧ w'.cell? ⟨w.heap.size, 4, none⟩ = some (.bool s) ∧ w'.cell? ⟨w.heap.size, 5, none⟩ = some (.slice A m c) ∧ w'.cell? ⟨w.heap.size, 6, none⟩ = some (.slice A' m' c') ∧ w'.cell? ⟨bn, X, none⟩ = some (.int .i64 nx) ∧ w'.cell? ⟨b4, X * 3, none⟩ = some (.bool (isNeg qX)) ∧ w'.cell? ⟨b4, X * 3 + 1, none⟩ = some (.slice AX mX cX) ∧ w'.cell? ⟨b4, X * 3 + 2, none⟩ = some (.slice AX' mX' cX'))
               (first | assumption | exact hS | go_keep)
               (first
                | (go_at_call_of 33 (Value.int .i64 1); refine (ofR _ 1 (by omega)).mono ?_; rintro e wl ⟨u1, rfl, t, hb⟩; have hb0 := hb; (first | replace hb := below_new_drew hb | replace hb := below_new hb | replace hb := below_of_drew hb | skip); (try (first | replace AB := Lib.hid (AB.out.below' hb) | replace AB := Lib.hid (AB.out.below hb))); (first | have AB := Lib.hid ((BoxC.zero _).below hb0) | have AB := Lib.hid ((BoxC.zero _).below (below_of_drew hb0)) | skip); replace BB := Lib.hid (BB.out.trans (hb.mono BB.out.size)); have hs := BB.out.size; clear hb0; have T1 := Lib.hid (t.at_.frac (k := 50000000) (Q1.out.mono (by omega)) (by omega)); have hS := And.intro ((BB.out.cell (p := ⟨w.heap.size, 3, none⟩) sP9).trans p3) (And.intro ((BB.out.cell (p := ⟨w.heap.size, 4, none⟩) sP9).trans p4) (And.intro ((BB.out.cell (p := ⟨w.heap.size, 5, none⟩) sP9).trans p5) (And.intro ((BB.out.cell (p := ⟨w.heap.size, 6, none⟩) sP9).trans p6) (And.intro ((BB.out.cell (p := ⟨bn, X, none⟩) sC9).trans kx) (And.intro ((BB.out.cell (p := ⟨b4, X * 3, none⟩) sF9).trans gX0) (And.intro ((BB.out.cell (p := ⟨b4, X * 3 + 1, none⟩) sF9).trans gX1) ((BB.out.cell (p := ⟨b4, X * 3 + 2, none⟩) sF9).trans gX2))))))); clear t hb)
                | (go_at_call 32; refine (subR _ _ _ ((1 : Nat) : Rat) a 50000000 ?_ ?_ (by omega) (by omega)).mono ?_; (first | exact T1.out | exact T1.out.below (below_drew_self _) | exact T1.out.below (below_alloc_self _ _) | exact T1.out.below (below_alloc_drew _ _)); (first | exact TA.out.below BB.out | exact (TA.out.below BB.out).below (below_drew_self _)); rintro e wl ⟨u2, rfl, t, hb⟩; rw [HX1.out] at t; have hb0 := hb; (first | replace hb := below_new_drew hb | replace hb := below_new hb | replace hb := below_of_drew hb | skip); (try (first | replace AB := Lib.hid (AB.out.below' hb) | replace AB := Lib.hid (AB.out.below hb))); (first | have AB := Lib.hid ((BoxC.zero _).below hb0) | have AB := Lib.hid ((BoxC.zero _).below (below_of_drew hb0)) | skip); replace BB := Lib.hid (BB.out.trans (hb.mono BB.out.size)); have hs := BB.out.size; clear hb0; have T2 := Lib.hid (t.at_.frac (k := 50000000) (QX1.out.mono (by omega)) (by omega)); have hS := And.intro ((BB.out.cell (p := ⟨w.heap.size, 3, none⟩) sP9).trans p3) (And.intro ((BB.out.cell (p := ⟨w.heap.size, 4, none⟩) sP9).trans p4) (And.intro ((BB.out.cell (p := ⟨w.heap.size, 5, none⟩) sP9).trans p5) (And.intro ((BB.out.cell (p := ⟨w.heap.size, 6, none⟩) sP9).trans p6) (And.intro ((BB.out.cell (p := ⟨bn, X, none⟩) sC9).trans kx) (And.intro ((BB.out.cell (p := ⟨b4, X * 3, none⟩) sF9).trans gX0) (And.intro ((BB.out.cell (p := ⟨b4, X * 3 + 1, none⟩) sF9).trans gX1) ((BB.out.cell (p := ⟨b4, X * 3 + 2, none⟩) sF9).trans gX2))))))); clear t hb)
                | (go_at_call 33; refine (ofRI _ S (by omega) (by omega)).mono ?_; rintro e wl ⟨u3, rfl, t, hb⟩; have hb0 := hb; (first | replace hb := below_new_drew hb | replace hb := below_new hb | replace hb := below_of_drew hb | skip); (try (first | replace AB := Lib.hid (AB.out.below' hb) | replace AB := Lib.hid (AB.out.below hb))); (try (first | replace T2 := Lib.hid (T2.out.below' hb) | replace T2 := Lib.hid (T2.out.below hb))); (first | have AB := Lib.hid ((BoxC.zero _).below hb0) | have AB := Lib.hid ((BoxC.zero _).below (below_of_drew hb0)) | skip); replace BB := Lib.hid (BB.out.trans (hb.mono BB.out.size)); have hs := BB.out.size; clear hb0; have T3 := Lib.hid (t.at_.frac (k := 50000000) (QS.out.mono (by omega)) (by omega)); have hS := And.intro ((BB.out.cell (p := ⟨w.heap.size, 3, none⟩) sP9).trans p3) (And.intro ((BB.out.cell (p := ⟨w.heap.size, 4, none⟩) sP9).trans p4) (And.intro ((BB.out.cell (p := ⟨w.heap.size, 5, none⟩) sP9).trans p5) (And.intro ((BB.out.cell (p := ⟨w.heap.size, 6, none⟩) sP9).trans p6) (And.intro ((BB.out.cell (p := ⟨bn, X, none⟩) sC9).trans kx) (And.intro ((BB.out.cell (p := ⟨b4, X * 3, none⟩) sF9).trans gX0) (And.intro ((BB.out.cell (p := ⟨b4, X * 3 + 1, none⟩) sF9).trans gX1) ((BB.out.cell (p := ⟨b4, X * 3 + 2, none⟩) sF9).trans gX2))))))); clear t hb)
                | (go_at_call 31; refine (divR _ _ _ x1 (S : Rat) 50000000 ?_ ?_ (by omega) (by omega) S0.out).mono ?_; (first | exact T2.out | exact T2.out.below (below_drew_self _) | exact T2.out.below (below_alloc_self _ _) | exact T2.out.below (below_alloc_drew _ _)); (first | exact T3.out | exact T3.out.below (below_drew_self _) | exact T3.out.below (below_alloc_self _ _) | exact T3.out.below (below_alloc_drew _ _)); rintro e wl ⟨u4, rfl, t, hb⟩; rw [HX2.out] at t; have hb0 := hb; (first | replace hb := below_new_drew hb | replace hb := below_new hb | replace hb := below_of_drew hb | skip); (try (first | replace AB := Lib.hid (AB.out.below' hb) | replace AB := Lib.hid (AB.out.below hb))); (first | have AB := Lib.hid ((BoxC.zero _).below hb0) | have AB := Lib.hid ((BoxC.zero _).below (below_of_drew hb0)) | skip); replace BB := Lib.hid (BB.out.trans (hb.mono BB.out.size)); have hs := BB.out.size; clear hb0; have T4 := Lib.hid (t.at_.frac (k := 50000000) (QX2.out.mono (by omega)) (by omega)); have hS := And.intro ((BB.out.cell (p := ⟨w.heap.size, 3, none⟩) sP9).trans p3) (And.intro ((BB.out.cell (p := ⟨w.heap.size, 4, none⟩) sP9).trans p4) (And.intro ((BB.out.cell (p := ⟨w.heap.size, 5, none⟩) sP9).trans p5) (And.intro ((BB.out.cell (p := ⟨w.heap.size, 6, none⟩) sP9).trans p6) (And.intro ((BB.out.cell (p := ⟨bn, X, none⟩) sC9).trans kx) (And.intro ((BB.out.cell (p := ⟨b4, X * 3, none⟩) sF9).trans gX0) (And.intro ((BB.out.cell (p := ⟨b4, X * 3 + 1, none⟩) sF9).trans gX1) ((BB.out.cell (p := ⟨b4, X * 3 + 2, none⟩) sF9).trans gX2))))))); clear t hb)
                | (go_at_call 30; refine (cmpR _ _ _ qX x2 50000000 ?_ ?_ (by omega) (by omega)).mono ?_; (first | exact TX.out.below BB.out | exact (TX.out.below BB.out).below (below_drew_self _)); (first | exact T4.out | exact T4.out.below (below_drew_self _) | exact T4.out.below (below_alloc_self _ _) | exact T4.out.below (below_alloc_drew _ _)); rintro e wl ⟨rfl, hb⟩; rw [HSG.out]; have hb0 := hb; (first | replace hb := below_new_drew hb | replace hb := below_new hb | replace hb := below_of_drew hb | skip); (try (first | replace AB := Lib.hid (AB.out.below' hb) | replace AB := Lib.hid (AB.out.below hb))); (first | have AB := Lib.hid ((BoxC.zero _).below hb0) | have AB := Lib.hid ((BoxC.zero _).below (below_of_drew hb0)) | skip); replace BB := Lib.hid (BB.out.trans (hb.mono BB.out.size)); have hs := BB.out.size; clear hb0; have hS := And.intro ((BB.out.cell (p := ⟨w.heap.size, 3, none⟩) sP9).trans p3) (And.intro ((BB.out.cell (p := ⟨w.heap.size, 4, none⟩) sP9).trans p4) (And.intro ((BB.out.cell (p := ⟨w.heap.size, 5, none⟩) sP9).trans p5) (And.intro ((BB.out.cell (p := ⟨w.heap.size, 6, none⟩) sP9).trans p6) (And.intro ((BB.out.cell (p := ⟨bn, X, none⟩) sC9).trans kx) (And.intro ((BB.out.cell (p := ⟨b4, X * 3, none⟩) sF9).trans gX0) (And.intro ((BB.out.cell (p := ⟨b4, X * 3 + 1, none⟩) sF9).trans gX1) ((BB.out.cell (p := ⟨b4, X * 3 + 2, none⟩) sF9).trans gX2))))))); clear hb))
              all_goals
               go_wp2_with fail
               go_meet
               exact ⟨rfl, BB⟩
             ·have t1 : decide (0 < nx) = false := decide_eq_false hlt
              clear hlt
              go_quiet (fail)
              go_wp2_with fail
              go_meet
              exact ⟨rfl, Lib.hid (below_drewN (Below.refl _ _) _)⟩
            ·have e3 : (k == 3) = false := by simpa using hk3
             clear hk3
             go_quiet (fail)
             go_wp2_with fail
             go_meet
             exact ⟨rfl, Lib.hid (below_drewN (Below.refl _ _) _)⟩
           case rest =>
            obtain ⟨rfl, XD⟩ := hcut
            have CD : Hid (CntAt wc bn v (T o hl)) := Lib.hid (Blk.below' C9.out XD.out)
            have FD := Lib.hid (F9.out.below XD.out)
            have PD := Lib.hid (P9.out.below' XD.out)
            have BD := Lib.hid (B9.out.trans (XD.out.mono B9.out.size))
            clear gX0 gX1 gX2 kx TX p0 p1 p2 p3 p4 p5 p6 p7 C9 F9 P9 B9 XD X9
            obtain ⟨p0, p1, p2, p3, p4, p5, p6, p7⟩ := eight PD.out
            by_cases hk4 : k = 4
            ·subst hk4
             by_cases hs : 0 < S
             ·have t4 : decide (0 < S) = true := decide_eq_true hs
              have HTY : Hid (restN (T o hl) qs (v + 1) < (K0 : Rat) / ((S + K0 : Int) : Rat)) := Lib.hid (by
               have h1 := seen_typed (T := T) ML.out (v := v) (n := o - 1) (h := hl) (by rw [Nat.sub_add_cancel (by omega), HS.out]; exact hs)
               rw [Nat.sub_add_cancel (by omega), HS.out, HKK.out] at h1
               have e : typedQ T v o hl = qs := by
                rw [← HQS.out, ← HTT.out]
                unfold rowQ
                rw [if_neg (by decide), if_neg (by decide), if_neg (by decide)]
               rwa [e] at h1)
              have QR : Hid (∀ q, q ≤ v + 1 → QB 50000000 (restN (T o hl) qs q)) := Lib.hid (fun q hq => (restN_qb (T o hl) (B := 5000000) (by omega) QB5.out q).mono (by omega))
              have w5 : IntKind.i64.wrap (S + (K0 : Int)) = S + (K0 : Int) := IntWalk.i64_in _ (by omega)
              have hK0 : 0 < K0 := HKP.out.1 hs
              go_wp2_with fail
              obtain ⟨WA, hWA, R0, RB, Rhs⟩ := box1 wc 40 [.bool false, .slice none 0 0, .slice none 0 0]
              rw [← hWA]
              clear hWA
              have BX : Hid (BoxC WA wc.heap.size (restN (T o hl) qs 0)) := Lib.hid (BoxC.of (q := 0) R0.out ((CanNew.zero_ 0 WA).at_))
              have CE : Hid (CntAt WA bn v (T o hl)) := Lib.hid (Blk.below' CD.out RB.out)
              have FE := Lib.hid (FD.out.below RB.out)
              have PE := Lib.hid (PD.out.below' RB.out)
              have BE := Lib.hid (BD.out.trans (RB.out.mono BD.out.size))
              have ob := PD.out.lt
              have ob1 := FD.out.lt
              have ob2 : bn < wc.heap.size := Blk.lt CD.out
              obtain ⟨bx, hbx⟩ : ∃ n, wc.heap.size = n := ⟨_, rfl⟩
              rw [hbx] at BX ob ob1 ob2 ⊢
              clear hbx CD FD PD BD p0 p1 p2 p3 p4 p5 p6 p7 R0 RB Rhs
              go_loopg [17] (v + 1) (fun gh i wz => ∃ (q : Nat), i = .int .i64 q ∧ q + gh = v + 1 ∧ Hid (BoxC wz bx (restN (T o hl) qs q)) ∧ Hid (CntAt wz bn v (T o hl)) ∧ Hid (FArc wz b4 qs) ∧ Hid (Blk wz w.heap.size 43 [.int .i64 o, .int .i64 v, .slice Al j cl, .int .i64 4, .bool s, .slice A m c, .slice A' m' c', .slice Am ml cm]) ∧ Hid (Below w.heap.size w wz))
              case atStart => exact ⟨0, rfl, by omega, BX, CE, FE, PE, BE⟩
              case round =>
               clear BX CE FE PE BE
               obtain ⟨q, rfl, hq, BX, CE, FE, PE, BE⟩ := hrel
               have sX : bx < wr.heap.size := BX.out.lt
               have sF : b4 < wr.heap.size := FE.out.lt
               rcases Nat.eq_zero_or_pos gk with hh | hh
               ·subst hh
                obtain rfl : q = v + 1 := by omega
                obtain ⟨R, hR⟩ : ∃ r, restN (T o hl) qs (v + 1) = r := ⟨_, rfl⟩
                rw [hR] at BX
                have HR := Lib.hid hR
                obtain ⟨x1, hx1⟩ : ∃ y : Rat, (((K0 : Nat) : Int) : Rat) / ((S + (K0 : Int) : Int) : Rat) = y := ⟨_, rfl⟩
                have hlt : R < x1 := by
                 rw [← hR, ← hx1, show (((K0 : Nat) : Int) : Rat) = (K0 : Rat) from Rat.intCast_natCast K0]
                 exact HTY.out
                have hneg := lt_sgn hlt
                obtain ⟨sg, hsg⟩ : ∃ z, sgnI (R - x1) = z := ⟨_, rfl⟩
                rw [hsg] at hneg
                have HSG := Lib.hid hsg
                have HX1 := Lib.hid hx1
                have d1 : decide (sg < 0) = true := decide_eq_true hneg
                have Q1 : Hid (QB 200 x1) := Lib.hid (by rw [← hx1]; exact ((qb_int (k := 64) (z := ((K0 : Nat) : Int)) (by omega) (by omega)).div (qb_int (k := 64) (z := S + (K0 : Int)) (by omega) (by omega)) (by omega)).mono (by omega))
                have QRR : Hid (QB 50000000 R) := Lib.hid (by rw [← hR]; exact QR.out _ (Nat.le_refl _))
                obtain ⟨Ar, mr, cr, Ar', mr', cr', r0, r1, r2, _, _, _, tr⟩ := BX.out.get
                have TR := Lib.hid (tr.frac (k := 50000000) QRR.out (by omega))
                have BB := Lib.hid (Below.refl wr.heap.size wr)
                clear hR hx1 hlt hsg tr
                have hS := And.intro ((BB.out.cell (p := ⟨bx, 0, none⟩) sX).trans r0) (And.intro ((BB.out.cell (p := ⟨bx, 1, none⟩) sX).trans r1) ((BB.out.cell (p := ⟨bx, 2, none⟩) sX).trans r2))
                go_wp2_with fail
                go_region_held3 (fun w' => w'.cell? ⟨bx, 0, none⟩ = some (.bool (isNeg R)) ∧ w'.cell? ⟨bx, 1, none⟩ = some (.slice Ar mr cr) ∧ w'.cell? ⟨bx, 2, none⟩ = some (.slice Ar' mr' cr'))
                 (first | assumption | exact hS | go_keep)
                 (first
                  | (go_at_call 35; refine (makeRI _ (K0 : Int) (S + (K0 : Int)) (by omega) (by omega) (by omega) (by omega)).mono ?_; rintro e wl ⟨u1, rfl, t, hb⟩; rw [HX1.out] at t; have hb0 := hb; (first | replace hb := below_new_drew hb | replace hb := below_new hb | replace hb := below_of_drew hb | skip); (try (first | replace AB := Lib.hid (AB.out.below' hb) | replace AB := Lib.hid (AB.out.below hb))); (first | have AB := Lib.hid ((BoxC.zero _).below hb0) | have AB := Lib.hid ((BoxC.zero _).below (below_of_drew hb0)) | skip); replace BB := Lib.hid (BB.out.trans (hb.mono BB.out.size)); have hs := BB.out.size; clear hb0; have T1 := Lib.hid (t.at_.frac (k := 50000000) (Q1.out.mono (by omega)) (by omega)); have hS := And.intro ((BB.out.cell (p := ⟨bx, 0, none⟩) sX).trans r0) (And.intro ((BB.out.cell (p := ⟨bx, 1, none⟩) sX).trans r1) ((BB.out.cell (p := ⟨bx, 2, none⟩) sX).trans r2)); clear t hb)
                  | (go_at_call 30; refine (cmpR _ _ _ R x1 50000000 ?_ ?_ (by omega) (by omega)).mono ?_; (first | exact TR.out.below BB.out | exact (TR.out.below BB.out).below (below_drew_self _)); (first | exact T1.out | exact T1.out.below (below_drew_self _) | exact T1.out.below (below_alloc_self _ _) | exact T1.out.below (below_alloc_drew _ _)); rintro e wl ⟨rfl, hb⟩; rw [HSG.out]; have hb0 := hb; (first | replace hb := below_new_drew hb | replace hb := below_new hb | replace hb := below_of_drew hb | skip); (try (first | replace AB := Lib.hid (AB.out.below' hb) | replace AB := Lib.hid (AB.out.below hb))); (first | have AB := Lib.hid ((BoxC.zero _).below hb0) | have AB := Lib.hid ((BoxC.zero _).below (below_of_drew hb0)) | skip); replace BB := Lib.hid (BB.out.trans (hb.mono BB.out.size)); have hs := BB.out.size; clear hb0; have hS := And.intro ((BB.out.cell (p := ⟨bx, 0, none⟩) sX).trans r0) (And.intro ((BB.out.cell (p := ⟨bx, 1, none⟩) sX).trans r1) ((BB.out.cell (p := ⟨bx, 2, none⟩) sX).trans r2)); clear hb)
                  | (go_at_call 18; refine (HK.out _).mono ?_; rintro e wl ⟨rfl, hb⟩; have hb0 := hb; (first | replace hb := below_new_drew hb | replace hb := below_new hb | replace hb := below_of_drew hb | skip); (try (first | replace AB := Lib.hid (AB.out.below' hb) | replace AB := Lib.hid (AB.out.below hb))); (first | have AB := Lib.hid ((BoxC.zero _).below hb0) | have AB := Lib.hid ((BoxC.zero _).below (below_of_drew hb0)) | skip); replace BB := Lib.hid (BB.out.trans (hb.mono BB.out.size)); have hs := BB.out.size; clear hb0; have hS := And.intro ((BB.out.cell (p := ⟨bx, 0, none⟩) sX).trans r0) (And.intro ((BB.out.cell (p := ⟨bx, 1, none⟩) sX).trans r1) ((BB.out.cell (p := ⟨bx, 2, none⟩) sX).trans r2)); clear hb))
                all_goals
                 go_wp2_with fail
                 go_ret
                 exact ⟨rfl, BE.out.trans (BB.out.mono BE.out.size)⟩
               ·obtain ⟨gh, rfl⟩ : ∃ g, gk = g + 1 := ⟨gk - 1, by omega⟩
                have kq := CE.out.cell (x := q) (by omega)
                obtain ⟨cq, hcq⟩ : ∃ z, T o hl (q : Int) = z := ⟨_, rfl⟩
                rw [hcq] at kq
                have z1 : (0 : Int) ≤ (q : Int) := by omega
                have z2 : (q : Int) < (v : Int) + 1 := by omega
                by_cases h0 : cq = 0
                ·subst h0
                 have HCQ := Lib.hid hcq
                 obtain ⟨pq, hpq⟩ : ∃ p, qs[q]? = some p := ⟨_, List.getElem?_eq_getElem (by rw [RA.out]; omega)⟩
                 obtain ⟨rq, hrq⟩ : ∃ r, restN (T o hl) qs q = r := ⟨_, rfl⟩
                 have HRQ : Hid (rq + pq = restN (T o hl) qs (q + 1)) := Lib.hid (by
                  rw [← hrq]
                  show _ = if T o hl (q : Int) = 0 then restN (T o hl) qs q + qs.getD q 0 else restN (T o hl) qs q
                  rw [if_pos hcq, List.getD_eq_getElem?_getD, hpq]
                  rfl)
                 have QRQ : Hid (QB 50000000 rq) := Lib.hid (by rw [← hrq]; exact QR.out q (by omega))
                 have QPQ : Hid (QB 50000000 pq) := Lib.hid ((QB5.out pq (List.mem_of_getElem? hpq)).mono (by omega))
                 rw [hrq] at BX
                 obtain ⟨Ar, mr, cr, Ar', mr', cr', r0, r1, r2, _, _, _, tr⟩ := BX.out.get
                 obtain ⟨Ap, mp, cp, Ap', mp', cp', g0, g1, g2, _, _, _, tp⟩ := FE.out.get hpq
                 have TR := Lib.hid (tr.frac (k := 50000000) QRQ.out (by omega))
                 have TP := Lib.hid (tp.frac (k := 50000000) QPQ.out (by omega))
                 have nb : b4 ≠ bx := by omega
                 have HSET : Hid (∀ w', Below wr.heap.size wr w' → (fun w' => w'.cell? ⟨b4, q * 3, none⟩ = some (.bool (isNeg pq)) ∧ w'.cell? ⟨b4, q * 3 + 1, none⟩ = some (.slice Ap mp cp) ∧ w'.cell? ⟨b4, q * 3 + 2, none⟩ = some (.slice Ap' mp' cp')) w') := Lib.hid (fun w' hb => ⟨(hb.cell (p := ⟨b4, q * 3, none⟩) sF).trans g0, (hb.cell (p := ⟨b4, q * 3 + 1, none⟩) sF).trans g1, (hb.cell (p := ⟨b4, q * 3 + 2, none⟩) sF).trans g2⟩)
                 clear hcq hpq hrq tr tp g0 g1 g2
                 go_wp2_with fail
                 refine wp_region_held_drew (S := fun w' => w'.cell? ⟨b4, q * 3, none⟩ = some (.bool (isNeg pq)) ∧ w'.cell? ⟨b4, q * 3 + 1, none⟩ = some (.slice Ap mp cp) ∧ w'.cell? ⟨b4, q * 3 + 2, none⟩ = some (.slice Ap' mp' cp')) (by kernel_rfl) (HSET.out _ (below_drew_self wr)) (fun hHeld => ?_)
                 refine wpAnyH_take (i := 1) (v := ?_) rfl (by kernel_rfl) (by kernel_rfl) (by kernel_rfl) (fun _ _ _ h => h) (Or.inl ⟨by rfl, ?_⟩) (by assumption) ?_
                 rotate_left
                 ·(intro w' hSw; (try dsimp only at hSw); go_simp <;> with_reducible rfl)
                 simp only [List.getElem_toArray, List.getElem_cons_succ, List.getElem_cons_zero, Act.put, List.setIfInBounds_toArray, List.set_cons_zero, List.set_cons_succ]
                 refine wpAnyH_take (i := 2) (v := ?_) rfl (by kernel_rfl) (by kernel_rfl) (by kernel_rfl) (fun _ _ _ h => h) (Or.inl ⟨by rfl, ?_⟩) (by assumption) ?_
                 rotate_left
                 ·(intro w' hSw; (try dsimp only at hSw); go_simp <;> with_reducible rfl)
                 simp only [List.getElem_toArray, List.getElem_cons_succ, List.getElem_cons_zero, Act.put, List.setIfInBounds_toArray, List.set_cons_zero, List.set_cons_succ]
                 refine wpAnyH_take (i := 3) (v := ?_) rfl (by kernel_rfl) (by kernel_rfl) (by kernel_rfl) (fun _ _ _ h => h) (Or.inl ⟨by rfl, ?_⟩) (by assumption) ?_
                 rotate_left
                 ·(intro w' hSw; (try dsimp only at hSw); go_simp <;> with_reducible rfl)
                 simp only [List.getElem_toArray, List.getElem_cons_succ, List.getElem_cons_zero, Act.put, List.setIfInBounds_toArray, List.set_cons_zero, List.set_cons_succ]
                 refine wpAnyH_take (i := 4) (v := ?_) rfl (by kernel_rfl) (by kernel_rfl) (by kernel_rfl) (fun _ _ _ h => h) (Or.inl ⟨by rfl, ?_⟩) (by assumption) ?_
                 rotate_left
                 ·(intro w' hSw; (try dsimp only at hSw); go_simp <;> with_reducible rfl)
                 simp only [List.getElem_toArray, List.getElem_cons_succ, List.getElem_cons_zero, Act.put, List.setIfInBounds_toArray, List.set_cons_zero, List.set_cons_succ]
                 refine wpAnyH_ready (rs := [0]) (by kernel_rfl) (by simp) ?_
                 refine AllReadyH.cons rfl (fun K hK => ?_) AllReadyH.nil
                 go_simp
                 refine hK.out _ _ hHeld (fun _ => ?_)
                 clear hK K r0 r1 r2
                 try simp only [List.getElem_toArray, List.getElem_cons_succ, List.getElem_cons_zero, Act.put, List.setIfInBounds_toArray, List.set_cons_zero, List.set_cons_succ]
                 refine wpAnyH_ready (rs := [5]) (by kernel_rfl) (by simp) ?_
                 refine AllReadyH.cons rfl (fun K hK => ?_) AllReadyH.nil
                 go_simp
                 clear hHeld
                 refine (addR _ _ _ rq pq 50000000 (TR.out.below (below_drew_self _)) (TP.out.below (below_drew_self _)) (by omega) (by omega)).mono ?_
                 rintro e wl ⟨u, rfl, t, hb'⟩
                 rw [HRQ.out] at t
                 have hb := below_of_drew hb'
                 have BB := Lib.hid hb
                 obtain ⟨As, ms, cs, As', ms', cs', rfl⟩ := t.at_.open_
                 have T2 := Lib.hid t.at_
                 clear t hb'
                 have hS := HSET.out wl hb
                 try go_simp
                 refine hK.out _ _ hS (fun hHeld => ?_)
                 clear hK K hS
                 try simp only [List.getElem_toArray, List.getElem_cons_succ, List.getElem_cons_zero, Act.put, List.setIfInBounds_toArray, List.set_cons_zero, List.set_cons_succ]
                 obtain ⟨_, _, _, _, _, _, u0, u1, u2, y0, y1, y2, _⟩ := (BX.out.below BB.out).get
                 refine wpAnyH_ready (rs := [6]) (by kernel_rfl) (by simp) ?_
                 refine AllReadyH.cons rfl (fun K hK => ?_) AllReadyH.nil
                 go_simp
                 refine hK.out _ _ ⟨cell3 hHeld.1 nb _ _ _ _ _ _, cell3 hHeld.2.1 nb _ _ _ _ _ _, cell3 hHeld.2.2 nb _ _ _ _ _ _⟩ (fun _ => ?_)
                 clear hK K hHeld
                 try simp only [List.getElem_toArray, List.getElem_cons_succ, List.getElem_cons_zero, Act.put, List.setIfInBounds_toArray, List.set_cons_zero, List.set_cons_succ]
                 refine wpAnyH_done (by kernel_rfl) ?_ _
                 go_wp2_with fail
                 go_roundg gh
                 case measure => omega
                 case rel =>
                  have B8 := BX.out.below BB.out
                  exact ⟨q + 1, rfl, by omega, Lib.hid (B8.put rfl T2.out), Lib.hid (Blk.far3 (Blk.below' CE.out BB.out) (show bn ≠ bx by omega) _ _ _ _ _ _), Lib.hid ((FE.out.below BB.out).far B8 nb _ _ _ _ _ _ _ _ _ _), Lib.hid ((PE.out.below' BB.out).far3 (show w.heap.size ≠ bx by omega) _ _ _ _ _ _), Lib.hid (below3 (BE.out.trans (BB.out.mono BE.out.size)) (show w.heap.size ≤ bx by omega) _ _ _ _ _ _)⟩
                ·have hb0 : (cq == 0) = false := by simpa using h0
                 have HRQ : Hid (restN (T o hl) qs (q + 1) = restN (T o hl) qs q) := Lib.hid (by
                  show (if T o hl (q : Int) = 0 then restN (T o hl) qs q + qs.getD q 0 else restN (T o hl) qs q) = _
                  rw [if_neg (by rw [hcq]; exact h0)])
                 clear hcq h0
                 go_wp2_with fail
                 go_roundg gh
                 case measure => omega
                 case rel => exact ⟨q + 1, rfl, by omega, Lib.hid (by rw [HRQ.out]; exact BX.out), CE, FE, PE, BE⟩
             ·have t4 : decide (0 < S) = false := decide_eq_false hs
              clear hs
              go_wp2_with fail
              refine (HK.out _).mono ?_
              rintro e wK ⟨rfl, hbK⟩
              have BK := Lib.hid (BD.out.trans (hbK.mono BD.out.size))
              clear hbK
              go_wp2_with fail
              go_ret
              exact ⟨rfl, BK.out⟩
            ·have e4 : (k == 4) = false := by simpa using hk4
             clear hk4
             go_wp2_with fail
             refine (HK.out _).mono ?_
             rintro e wK ⟨rfl, hbK⟩
             have BK := Lib.hid (BD.out.trans (hbK.mono BD.out.size))
             clear hbK
             go_wp2_with fail
             go_ret
             exact ⟨rfl, BK.out⟩
         ·skip
          obtain ⟨gh, rfl⟩ : ∃ g, gk = g + 1 := ⟨gk - 1, by omega⟩
          obtain ⟨g, hgj⟩ : ∃ g, gs[j]? = some g := ⟨_, List.getElem?_eq_getElem (by rw [HNL.out]; omega)⟩
          obtain ⟨ba, oa, c0, rfl, hba, e0, e1, hi⟩ := HAT.out j g hgj
          obtain ⟨Ai, ci, rfl, hic, him, hig⟩ := hi.open_
          have hgm := HTA.out.2.2.2.2.2.1 g (List.mem_of_getElem? hgj)
          have hgl : g.1.length = o := by omega
          have HGL := Lib.hid hgl
          obtain ⟨z, hz⟩ : ∃ z, g.1[nh]? = some z := ⟨_, List.getElem?_eq_getElem (by omega)⟩
          obtain ⟨bi, oi, hAi, hbi, hcz⟩ := hig nh z hz
          subst hAi
          have hzr := hgm.2.1 z (List.mem_of_getElem? hz)
          obtain ⟨yz, rfl⟩ : ∃ q : Nat, z = q := ⟨z.toNat, by omega⟩
          have HZD : Hid (g.1.getD hl.length 0 = (yz : Int)) := Lib.hid (by rw [HNH.out, List.getD_eq_getElem?_getD, hz]; rfl)
          have HGJ := Lib.hid hgj
          have HI : Hid (∀ w', Below w.heap.size w w' → IntsAt w' (.slice (some ⟨bi, oi, none⟩) nh ci) (g.1.take nh)) := Lib.hid (fun w' hb => by
           have h1 := hi.below hb
           rw [hgl] at h1
           exact h1.head_ hgl (by omega))
          rw [hgl] at e0 hic
          obtain ⟨N, hN⟩ : ∃ N, g.2 = N := ⟨_, rfl⟩
          have hN1 : 1 ≤ N ∧ N ≤ 1073741824 := by omega
          rw [hN] at e1
          have HN := Lib.hid hN
          have d0 := (B6.out.cell (p := ⟨ba, oa + j * 2, none⟩) hba).trans e0
          have d1 := (B6.out.cell (p := ⟨ba, oa + j * 2 + 1, none⟩) hba).trans e1
          have M6 := cnt_mild HT.out hl j
          have hb6 := sumC_bd M6 v
          have hk6 := kindsC_le (cntT gs hl j) v
          obtain ⟨S, hS⟩ : ∃ S, sumC (cntT gs hl j) v = S := ⟨_, rfl⟩
          obtain ⟨kk, hkk⟩ : ∃ n, kindsC (cntT gs hl j) v = n := ⟨_, rfl⟩
          rw [hS] at hb6 ⊢
          rw [hkk] at hk6 ⊢
          have HS := Lib.hid hS
          have HKK := Lib.hid hkk
          have w1 : IntKind.i64.wrap (S + N) = S + N := IntWalk.i64_in _ (by omega)
          have w2 : IntKind.i64.wrap ((kk : Int) + 1) = (kk : Int) + 1 := IntWalk.i64_in _ (by omega)
          have w3 : IntKind.i64.wrap ((j : Int) + 1) = (j : Int) + 1 := IntWalk.i64_in _ (by omega)
          have b1 : (0 : Int) ≤ (j : Int) := by omega
          have b2 : (j : Int) < (nl : Int) := by omega
          have b3 : (0 : Int) ≤ (nh : Int) := by omega
          have b5 : (nh : Int) ≤ (ci : Int) := by omega
          have b6 : (nh : Int) < (o : Int) := by omega
          have b7 : (0 : Int) ≤ (yz : Int) := by omega
          have b8 : (yz : Int) < (v : Int) + 1 := by omega
          clear hgj e0 e1 hi hig hgm hgl hz hzr hN hS hkk M6
          obtain ⟨tb, htb⟩ : ∃ b, decide (g.1.take nh = hl) = b := ⟨_, rfl⟩
          have HTB' := Lib.hid htb
          go_upto_region 12 with fail
          obtain ⟨W7, hW7, G0, GB, Ghs⟩ := box1 wr 51 [.slice (some ⟨bi, oi, none⟩) o ci, .int .i64 N]
          rw [← hW7]
          clear hW7
          have q0 := G0.out.cell 0
          have q1 := G0.out.cell 1
          simp only [List.getElem?_cons_zero, List.getElem?_cons_succ] at q0 q1
          have B7 := Lib.hid (B6.out.trans (GB.out.mono B6.out.size))
          have hcz7 := (B7.out.cell (p := ⟨bi, oi + nh, none⟩) hbi).trans hcz
          have sG : wr.heap.size < W7.heap.size := G0.out.lt
          go_wp2_with fail
          refine (sameWordsG W7 _ _ (g.1.take nh) hl (HI.out W7 B7.out) (HHA.out W7 B7.out)).mono ?_
          rintro e w8 ⟨rfl, hb8⟩
          rw [htb]
          have B8 := Lib.hid (B7.out.trans (hb8.mono B7.out.size))
          have X8 := Lib.hid (GB.out.trans (hb8.mono GB.out.size))
          have C8 : Hid (CntAt w8 bn v (cntT gs hl j)) := Lib.hid (Blk.below' C6.out X8.out)
          have F8 := Lib.hid (F6.out.below X8.out)
          have P8 := Lib.hid (P6.out.below' X8.out)
          have r0 := (hb8.cell (p := ⟨wr.heap.size, 0, none⟩) sG).trans q0
          have r1 := (hb8.cell (p := ⟨wr.heap.size, 1, none⟩) sG).trans q1
          have hcz8 := (B8.out.cell (p := ⟨bi, oi + nh, none⟩) hbi).trans hcz
          clear hb8 q0 q1 hcz7 hcz d0 d1 p0 p1 p2 p3 p4 p5 p6 p7 htb C6 F6 P6
          cases tb with
          | false =>
           have HM : Hid (g.1.take hl.length ≠ hl) := Lib.hid (by rw [HNH.out]; exact of_decide_eq_false HTB'.out)
           have HGL2 : Hid (g.1.length = hl.length + 1) := Lib.hid (by rw [HGL.out, HNH.out, hno])
           go_wp2_with fail
           go_roundg gh
           case measure => omega
           case rel =>
            have hc : ∀ x : Nat, x ≤ v → cntT gs hl (j + 1) x = cntT gs hl j x := fun x _ => cntT_miss HGJ.out HGL2.out HM.out x
            exact ⟨j + 1, rfl, by omega, by rw [sumC_congr hc, HS.out], by rw [kindsC_congr hc, HKK.out], Lib.hid (C8.out.of_eq (fun x hx => (hc x hx).symm)), F8, P8, B8⟩
          | true =>
           have HM : Hid (g.1.take hl.length = hl) := Lib.hid (by rw [HNH.out]; exact of_decide_eq_true HTB'.out)
           have HGL2 : Hid (g.1.length = hl.length + 1) := Lib.hid (by rw [HGL.out, HNH.out, hno])
           have HHIT := Lib.hid (cntT_hit HGT.out.2.2.2 HGJ.out HGL2.out HM.out HZD.out)
           have f0 := Blk.frozen C8.out yz
           have f1 := C8.out.cell (x := yz) (by omega)
           go_wp2_with fail
           go_region
           all_goals
            go_wp2_with fail
            go_roundg gh
            case measure => omega
            case rel =>
             obtain ⟨h1, h2, h3⟩ := HHIT.out
             rw [HN.out] at h2
             have h3' : ∀ x : Nat, x ≤ v → x ≠ yz → cntT gs hl (j + 1) x = cntT gs hl j x := fun x _ hne => h3 x (by omega)
             exact ⟨j + 1, rfl, by omega, by rw [sumC_one v (show yz ≤ v by omega) h1 h2 h3', HS.out], by rw [kindsC_one v (show yz ≤ v by omega) h1 h2 (by omega) h3', HKK.out]; rfl, Lib.hid (by
              have h4 := Blk.set_ C8.out yz (.int .i64 N)
              rw [map_set (f' := fun (x : Nat) => Value.int .i64 (cntT gs hl (j + 1) (x : Int))) (fun x hx hne => by rw [h3' x (by omega) hne]) (by rw [h2])] at h4
              exact h4), Lib.hid (F8.out.farCnt C8.out (show b4 ≠ bn by omega) _ _), Lib.hid (P8.out.far (show w.heap.size ≠ bn by omega) _), Lib.hid ((B8.out.setCell (p := ⟨bn, yz, none⟩) (show w.heap.size ≤ bn by omega) _).drew)⟩
       ·have y2' : decide ((v : Int) < y) = true := decide_eq_true (by omega)
        go_wp2_with fail
        refine (HK.out _).mono ?_
        rintro e wK ⟨rfl, hbK⟩
        have BK := Lib.hid (B3.out.trans (hbK.mono B3.out.size))
        clear hbK
        go_wp2_with fail
        go_ret
        exact ⟨rfl, BK.out⟩
      ·have y1' : decide (y < 0) = true := decide_eq_true (by omega)
       go_wp2_with fail
       refine (HK.out _).mono ?_
       rintro e wK ⟨rfl, hbK⟩
       have BK := Lib.hid (B3.out.trans (hbK.mono B3.out.size))
       clear hbK
       go_wp2_with fail
       go_ret
       exact ⟨rfl, BK.out⟩
     ·have x2' : decide ((v : Int) < x) = true := decide_eq_true (by omega)
      go_wp2_with fail
      refine (HK.out _).mono ?_
      rintro e wK ⟨rfl, hbK⟩
      have BK := Lib.hid (B3.out.trans (hbK.mono B3.out.size))
      clear hbK
      go_wp2_with fail
      go_ret
      exact ⟨rfl, BK.out⟩
    ·have x1' : decide (x < 0) = true := decide_eq_true (by omega)
     go_wp2_with fail
     refine (HK.out _).mono ?_
     rintro e wK ⟨rfl, hbK⟩
     have BK := Lib.hid (B3.out.trans (hbK.mono B3.out.size))
     clear hbK
     go_wp2_with fail
     go_ret
     exact ⟨rfl, BK.out⟩
  ·have n0 : (ce != 0) = true := by simpa using hc0
   clear hc0
   go_wp2_with fail
   refine (HK.out _).mono ?_
   rintro e wK ⟨rfl, hbK⟩
   have BK := Lib.hid (B2.out.trans (hbK.mono B2.out.size))
   clear hbK
   go_wp2_with fail
   go_ret
   exact ⟨rfl, BK.out⟩
end Go.Proofs.YtjebfdfkjlkifaaGreat
