/- Lemmas on the way: Gm1, Gm2, Cp1. -/
import Derived.Test.YtlhankdkhiilkaaGreatI16
set_option linter.unusedSimpArgs false
set_option linter.unusedVariables false
set_option linter.unusedSectionVars false
set_option linter.unnecessarySimpa false
namespace Go.Proofs.YtlhankdkhiilkaaGreat
open Go.RowKit
def IntsAt (w : World) (v : Value) (l : List Int) : Prop := Sl w 1 v l.length (l.map (Value.int .i64))
theorem IntsAt.below {w w' : World} {v : Value} {l : List Int} (h : IntsAt w v l) (hb : Below w.heap.size w w') : IntsAt w' v l := Sl.below h hb
theorem IntsAt.drew {w : World} {v : Value} {l : List Int} (h : IntsAt w v l) : IntsAt w.drew v l := h
theorem IntsAt.drewN {w : World} {v : Value} {l : List Int} (h : IntsAt w v l) (n : Nat) : IntsAt (w.drewN n) v l := h
theorem IntsAt.nil_ (w : World) : IntsAt w (.slice none 0 0) [] := Sl.nil_ _ _
theorem IntsAt.open_ {w : World} {v : Value} {l : List Int} (h : IntsAt w v l) : ∃ A c, v = .slice A l.length c ∧ l.length ≤ c ∧ c ≤ 9223372036854775807 ∧
  ∀ j x, l[j]? = some x → ∃ b off, A = some ⟨b, off, none⟩ ∧ b < w.heap.size ∧ w.cell? ⟨b, off + j, none⟩ = some (.int .i64 x) := by
 obtain ⟨h0, A, c, rfl, hc, hm, h5⟩ := h
 refine ⟨A, c, rfl, hc, by unfold maxLen at hm; omega, fun j x hx => ?_⟩
 have hj := (List.getElem?_eq_some_iff.1 hx).1
 obtain ⟨b, off, e, hlt, hcell⟩ := h5 (by omega)
 exact ⟨b, off, e, hlt, hcell j _ (by rw [List.getElem?_map, hx]; rfl)⟩

def ordL : List Int → List Int → Int
 | x :: a, y :: b => if x = y then ordL a b else if x < y then -1 else 1
 | _, _ => 0
def inR (lo hi : Int) (l : List Int) : Bool := l.all fun x => decide (lo ≤ x) && decide (x ≤ hi)
def sizesB (o v : Int) : Bool := decide (1 ≤ o) && decide (o ≤ 4) && decide (1 ≤ v) && decide (v ≤ 2000)
def cmpL : List Int → List Int → Int
 | [], [] => 0
 | [], _ :: _ => -1
 | _ :: _, [] => 1
 | x :: a, y :: b => if x = y then cmpL a b else if x < y then -1 else 1
theorem cmpL_at {a b : List Int} {j : Nat} {x y : Int} (ht : a.take j = b.take j) (hx : a[j]? = some x) (hy : b[j]? = some y) (hne : x ≠ y) : cmpL a b = if x < y then -1 else 1 := by
 induction j generalizing a b with
 | zero =>
  cases a <;> cases b <;> simp at hx hy
  subst hx
  subst hy
  simp [cmpL, hne]
 | succ j ih =>
  cases a with
  | nil => simp at hx
  | cons p a =>
   cases b with
   | nil => simp at hy
   | cons q b =>
    simp at ht hx hy
    obtain ⟨rfl, ht⟩ := ht
    simp only [cmpL, if_true]
    exact ih ht hx hy
theorem cmpL_more {a b : List Int} (h : a.take b.length = b) (hl : b.length < a.length) : cmpL a b = 1 := by
 induction b generalizing a with
 | nil =>
  cases a with
  | nil => simp at hl
  | cons x a => rfl
 | cons y b ih =>
  cases a with
  | nil => simp at hl
  | cons x a =>
   simp at h hl
   obtain ⟨rfl, h⟩ := h
   simp only [cmpL, if_true]
   exact ih h hl
theorem cmpL_pre {a b : List Int} (h : a = b.take a.length) : cmpL a b = if a.length < b.length then -1 else 0 := by
 induction a generalizing b with
 | nil =>
  cases b with
  | nil => rfl
  | cons y b => simp [cmpL]
 | cons x a ih =>
  cases b with
  | nil => simp at h
  | cons y b =>
   simp at h
   obtain ⟨rfl, h⟩ := h
   simp only [cmpL, if_true, List.length_cons, Nat.add_lt_add_iff_right]
   exact ih h
theorem cmpL_ord {a b : List Int} (h : a.length = b.length) : cmpL a b = ordL a b := by
 induction a generalizing b with
 | nil =>
  cases b with
  | nil => rfl
  | cons y b => simp at h
 | cons x a ih =>
  cases b with
  | nil => simp at h
  | cons y b =>
   simp at h
   simp only [cmpL, ordL]
   rw [ih h]

set_option maxRecDepth 1000000 in
set_option maxHeartbeats 4000000 in
theorem cmpG (w : World) (va vb : Value) (a b : List Int) (ha : IntsAt w va a) (hb : IntsAt w vb b) :
  Calls Tryz.prog 98 #[va, vb] w fun e w' => e = .returned (.int .i64 (cmpL a b)) ∧ w = w' := by
 obtain ⟨A, ca, rfl, hlc, hcm, hA⟩ := ha.open_
 obtain ⟨B, cb, rfl, hmc, hcm', hB⟩ := hb.open_
 have HA := Lib.hid hA
 have HB := Lib.hid hB
 clear ha hb hA hB
 obtain ⟨n, hn⟩ : ∃ n, a.length = n := ⟨_, rfl⟩
 obtain ⟨p, hp⟩ : ∃ p, b.length = p := ⟨_, rfl⟩
 rw [hn] at hlc ⊢
 rw [hp] at hmc ⊢
 have HN := Lib.hid hn
 have HP := Lib.hid hp
 clear hn hp
 go_enter Tryz.func98, Tryz.ntmps98
 go_wp2_with fail
 go_loopg [5, 6, 7, 8, 11] n (fun g _ _ _ _ i wr => ∃ (j : Nat), wr = w ∧ i = .int .i64 j ∧ j + g = n ∧ j ≤ p ∧ Hid (a.take j = b.take j))
 case atStart => exact ⟨0, rfl, rfl, by omega, by omega, Lib.hid rfl⟩
 case round =>
  obtain ⟨j, rfl, rfl, hj, hjp, HQ⟩ := hrel
  rcases Nat.eq_zero_or_pos gk with h | h
  ·obtain rfl : j = n := by omega
   have HT : Hid (cmpL a b = if j < p then -1 else 0) := Lib.hid (by
    have h1 := cmpL_pre (a := a) (b := b) (by
     have := HQ.out
     rw [List.take_of_length_le (by rw [HN.out]; exact Nat.le_refl _)] at this
     rw [HN.out]; exact this)
    rwa [HN.out, HP.out] at h1)
   by_cases hlt : j < p
   ·have hd : decide (j < p) = true := decide_eq_true hlt
    have HT2 : Hid (cmpL a b = -1) := Lib.hid (by rw [HT.out, if_pos hlt])
    go_wp2_with fail
    go_ret
    exact ⟨ret_i64 HT2.out.symm, rfl⟩
   ·have hd : decide (j < p) = false := decide_eq_false hlt
    have HT2 : Hid (cmpL a b = 0) := Lib.hid (by rw [HT.out, if_neg hlt])
    go_wp2_with fail
    go_ret
    exact ⟨ret_i64 HT2.out.symm, rfl⟩
  ·obtain ⟨g, rfl⟩ : ∃ g, gk = g + 1 := ⟨gk - 1, by omega⟩
   obtain ⟨x, hx⟩ : ∃ x, a[j]? = some x := ⟨_, List.getElem?_eq_getElem (by rw [HN.out]; omega)⟩
   obtain ⟨ba, oa, rfl, _, hc⟩ := HA.out j x hx
   by_cases hjl : j < p
   ·obtain ⟨y, hy⟩ : ∃ y, b[j]? = some y := ⟨_, List.getElem?_eq_getElem (by rw [HP.out]; omega)⟩
    obtain ⟨bb, ob, rfl, _, hc'⟩ := HB.out j y hy
    have HX := Lib.hid hx
    have HY := Lib.hid hy
    have hd : decide (p ≤ j) = false := decide_eq_false (by omega)
    have hd2 : decide ((p : Int) ≤ (j : Int)) = false := decide_eq_false (by omega)
    clear hx hy
    by_cases hxy : x = y
    ·subst hxy
     have hcc : Lib.compareInt x x = 0 := by simp [Lib.compareInt]
     go_wp2_with fail
     refine (Tryz.cmp_Compare_int x x _).mono ?_
     rintro e w2 ⟨rfl, rfl⟩
     rw [hcc]
     go_wp2_with fail
     go_roundg g
     case measure => omega
     case rel => exact ⟨j + 1, rfl, rfl, by omega, by omega, Lib.hid (by rw [take_succ_get _ HX.out, take_succ_get _ HY.out, HQ.out])⟩
    ·have HF := Lib.hid (cmpL_at HQ.out HX.out HY.out hxy)
     by_cases hlt : x < y
     ·have hcc : Lib.compareInt x y = -1 := by simp [Lib.compareInt, hlt]
      have HF2 : Hid (cmpL a b = -1) := Lib.hid (by rw [HF.out, if_pos hlt])
      clear hxy hlt
      go_wp2_with fail
      refine (Tryz.cmp_Compare_int x y _).mono ?_
      rintro e w2 ⟨rfl, rfl⟩
      rw [hcc]
      go_wp2_with fail
      go_ret
      exact ⟨ret_i64 HF2.out.symm, rfl⟩
     ·have hcc : Lib.compareInt x y = 1 := by
       have h1 : y < x := by omega
       have h2 : ¬ x < y := hlt
       simp [Lib.compareInt, h1, h2]
      have HF2 : Hid (cmpL a b = 1) := Lib.hid (by rw [HF.out, if_neg hlt])
      clear hxy hlt
      go_wp2_with fail
      refine (Tryz.cmp_Compare_int x y _).mono ?_
      rintro e w2 ⟨rfl, rfl⟩
      rw [hcc]
      go_wp2_with fail
      go_ret
      exact ⟨ret_i64 HF2.out.symm, rfl⟩
   ·obtain rfl : j = p := by omega
    have HF2 : Hid (cmpL a b = 1) := Lib.hid (cmpL_more (by
     rw [HP.out, HQ.out, List.take_of_length_le (by rw [HP.out]; exact Nat.le_refl _)]) (by rw [HP.out, HN.out]; omega))
    clear hx
    go_wp2_with fail
    go_ret
    exact ⟨ret_i64 HF2.out.symm, rfl⟩
end Go.Proofs.YtlhankdkhiilkaaGreat
