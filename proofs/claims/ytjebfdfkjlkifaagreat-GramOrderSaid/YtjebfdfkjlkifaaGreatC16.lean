/- Lemmas on the way: Gm1, Gm2, Cp1. -/
import Derived.Test.YtjebfdfkjlkifaaGreatC15
set_option linter.unusedSimpArgs false
set_option linter.unusedVariables false
set_option linter.unusedSectionVars false
set_option linter.unnecessarySimpa false
namespace Go.Proofs.YtjebfdfkjlkifaaGreat
open Go.RowKit
def IntsAt (w : World) (v : Value) (l : List Int) : Prop := Sl w 1 v l.length (l.map (Value.int .i64))
theorem IntsAt.below {w w' : World} {v : Value} {l : List Int} (h : IntsAt w v l) (hb : Below w.heap.size w w') : IntsAt w' v l := Sl.below h hb
theorem IntsAt.drew {w : World} {v : Value} {l : List Int} (h : IntsAt w v l) : IntsAt w.drew v l := h
theorem IntsAt.drewN {w : World} {v : Value} {l : List Int} (h : IntsAt w v l) (n : Nat) : IntsAt (w.drewN n) v l := h
theorem IntsAt.nil_ (w : World) : IntsAt w (.slice none 0 0) [] := Sl.nil_ _ _
theorem IntsAt.open_ {w : World} {v : Value} {l : List Int} (h : IntsAt w v l) : ∃ A c, v = .slice A l.length c ∧ l.length ≤ c ∧ c ≤ 9223372036854775807 ∧
  ∀ j x, l[j]? = some x → ∃ b off, A = some ⟨b, off, none⟩ ∧ b < w.heap.size ∧ w.cell? ⟨b, off + j, none⟩ = some (.int .i64 x) := by
 obtain ⟨h0, A, c, rfl, hc, hm, h5⟩ := h
 refine ⟨A, c, rfl, hc, by unfold maxLen at hm; omega, fun j x hx => ?_⟩
 have hj := (List.getElem?_eq_some_iff.1 hx).1
 obtain ⟨b, off, e, hlt, hcell⟩ := h5 (by omega)
 exact ⟨b, off, e, hlt, hcell j _ (by rw [List.getElem?_map, hx]; rfl)⟩

def ordL : List Int → List Int → Int
 | x :: a, y :: b => if x = y then ordL a b else if x < y then -1 else 1
 | _, _ => 0
theorem ordL_at {a b : List Int} {j : Nat} {x y : Int} (ht : a.take j = b.take j) (hx : a[j]? = some x) (hy : b[j]? = some y) (hne : x ≠ y) : ordL a b = if x < y then -1 else 1 := by
 induction j generalizing a b with
 | zero =>
  cases a <;> cases b <;> simp at hx hy
  subst hx
  subst hy
  simp [ordL, hne]
 | succ j ih =>
  cases a with
  | nil => simp at hx
  | cons p a =>
   cases b with
   | nil => simp at hy
   | cons q b =>
    simp at ht hx hy
    obtain ⟨rfl, ht⟩ := ht
    simp only [ordL, if_true]
    exact ih ht hx hy
theorem ordL_pre {a b : List Int} (h : a = b.take a.length) : ordL a b = 0 := by
 induction a generalizing b with
 | nil => simp [ordL]
 | cons x a ih =>
  cases b with
  | nil => simp at h
  | cons y b =>
   simp at h
   obtain ⟨rfl, h⟩ := h
   simp only [ordL, if_true]
   exact ih h

set_option maxRecDepth 1000000 in
set_option maxHeartbeats 1000000 in
theorem ordG (w : World) (va vb : Value) (a b : List Int) (ha : IntsAt w va a) (hb : IntsAt w vb b) (hl : a.length ≤ b.length) :
  Calls Tryz.prog 83 #[va, vb] w fun e w' => e = .returned (.int .i64 (ordL a b)) ∧ Below w.heap.size w w' := by
 obtain ⟨A, ca, rfl, hlc, hcm, hA⟩ := ha.open_
 obtain ⟨B, cb, rfl, hmc, hcm', hB⟩ := hb.open_
 have HA := Lib.hid hA
 have HB := Lib.hid hB
 clear ha hb hA hB
 obtain ⟨n, hn⟩ : ∃ n, a.length = n := ⟨_, rfl⟩
 obtain ⟨p, hp⟩ : ∃ p, b.length = p := ⟨_, rfl⟩
 rw [hn] at hlc hl ⊢
 rw [hp] at hmc hl ⊢
 have HN := Lib.hid hn
 have HP := Lib.hid hp
 clear hn hp
 go_enter Tryz.func83, Tryz.ntmps83
 go_wp2_with fail
 go_loopg [5] n (fun g i wr => ∃ (j : Nat), (∃ d, wr = w.drewN d) ∧ i = .int .i64 j ∧ j + g = n ∧ Hid (a.take j = b.take j))
 case atStart => exact ⟨0, ⟨0, rfl⟩, rfl, by omega, Lib.hid rfl⟩
 case round =>
  obtain ⟨j, ⟨nd, rfl⟩, rfl, hj, HQ⟩ := hrel
  rcases Nat.eq_zero_or_pos gk with h | h
  ·obtain rfl : j = n := by omega
   have HT : Hid (ordL a b = 0) := Lib.hid (ordL_pre (by
    have := HQ.out
    rw [List.take_of_length_le (by rw [HN.out]; exact Nat.le_refl _)] at this
    rw [HN.out]; exact this))
   go_wp2_with fail
   go_ret
   exact ⟨ret_i64 HT.out.symm, below_drewN (Below.refl _ _) _⟩
  ·obtain ⟨g, rfl⟩ : ∃ g, gk = g + 1 := ⟨gk - 1, by omega⟩
   obtain ⟨x, hx⟩ : ∃ x, a[j]? = some x := ⟨_, List.getElem?_eq_getElem (by rw [HN.out]; omega)⟩
   obtain ⟨y, hy⟩ : ∃ y, b[j]? = some y := ⟨_, List.getElem?_eq_getElem (by rw [HP.out]; omega)⟩
   obtain ⟨ba, oa, rfl, _, hc⟩ := HA.out j x hx
   obtain ⟨bb, ob, rfl, _, hc'⟩ := HB.out j y hy
   have HX := Lib.hid hx
   have HY := Lib.hid hy
   clear hx hy
   by_cases hxy : x = y
   ·subst hxy
    have hne : (x != x) = false := by simp
    go_wp2_with fail
    go_quiet (fail)
    go_wp2_with fail
    go_roundg g
    case measure => omega
    case rel => exact ⟨j + 1, ⟨_, rfl⟩, rfl, by omega, Lib.hid (by rw [take_succ_get _ HX.out, take_succ_get _ HY.out, HQ.out])⟩
   ·have hne : (x != y) = true := by simpa using hxy
    have HF := Lib.hid (ordL_at HQ.out HX.out HY.out hxy)
    clear hxy
    by_cases hlt : x < y
    ·have HF2 : Hid (ordL a b = -1) := Lib.hid (by rw [HF.out, if_pos hlt])
     have hd : decide (x < y) = true := decide_eq_true hlt
     clear hlt
     go_wp2_with fail
     go_quiet (fail)
     go_wp2_with fail
     go_quiet (fail)
     go_wp2_with fail
     go_ret
     exact ⟨ret_i64 HF2.out.symm, below_drewN (below_drewN (below_drewN (Below.refl _ _) _) _) _⟩
    ·have HF2 : Hid (ordL a b = 1) := Lib.hid (by rw [HF.out, if_neg hlt])
     have hd : decide (x < y) = false := decide_eq_false hlt
     clear hlt
     go_wp2_with fail
     go_quiet (fail)
     go_wp2_with fail
     go_quiet (fail)
     go_wp2_with fail
     go_ret
     exact ⟨ret_i64 HF2.out.symm, below_drewN (below_drewN (below_drewN (Below.refl _ _) _) _) _⟩
def inR (lo hi : Int) (l : List Int) : Bool := l.all fun x => decide (lo ≤ x) && decide (x ≤ hi)
theorem inR_step {lo hi : Int} {l : List Int} {j : Nat} {x : Int} (hx : l[j]? = some x) : inR lo hi (l.drop j) = ((decide (lo ≤ x) && decide (x ≤ hi)) && inR lo hi (l.drop (j + 1))) := by
 have hj := (List.getElem?_eq_some_iff.1 hx).1
 have : l[j] = x := by rw [List.getElem?_eq_getElem hj] at hx; injection hx
 rw [List.drop_eq_getElem_cons hj, this]
 rfl
theorem inR_iff {lo hi : Int} {l : List Int} : inR lo hi l = true ↔ ∀ x ∈ l, lo ≤ x ∧ x ≤ hi := by
 simp [inR, List.all_eq_true]

set_option maxRecDepth 1000000 in
set_option maxHeartbeats 1000000 in
theorem fitsG (w : World) (v : Value) (l : List Int) (hi : Int) (h : IntsAt w v l) :
  Calls Tryz.prog 88 #[v, .int .i64 hi] w fun e w' => e = .returned (.bool (inR 0 hi l)) ∧ Below w.heap.size w w' := by
 obtain ⟨A, ca, rfl, hlc, hcm, hA⟩ := h.open_
 have HA := Lib.hid hA
 clear h hA
 obtain ⟨n, hn⟩ : ∃ n, l.length = n := ⟨_, rfl⟩
 rw [hn] at hlc ⊢
 have HN := Lib.hid hn
 clear hn
 go_enter Tryz.func88, Tryz.ntmps88
 go_wp2_with fail
 go_loopg [5] n (fun g i wr => ∃ (j : Nat), wr = w ∧ i = .int .i64 j ∧ j + g = n ∧ Hid (inR 0 hi l = inR 0 hi (l.drop j)))
 case atStart => exact ⟨0, rfl, rfl, by omega, Lib.hid rfl⟩
 case round =>
  obtain ⟨j, rfl, rfl, hj, HQ⟩ := hrel
  rcases Nat.eq_zero_or_pos gk with h | h
  ·obtain rfl : j = n := by omega
   have HT : Hid (inR 0 hi l = true) := Lib.hid (by rw [HQ.out, List.drop_eq_nil_of_le (by rw [HN.out]; exact Nat.le_refl _)]; rfl)
   go_wp2_with fail
   go_ret
   exact ⟨ret_bool HT.out.symm, Below.refl _ _⟩
  ·obtain ⟨g, rfl⟩ : ∃ g, gk = g + 1 := ⟨gk - 1, by omega⟩
   obtain ⟨x, hx⟩ : ∃ x, l[j]? = some x := ⟨_, List.getElem?_eq_getElem (by rw [HN.out]; omega)⟩
   obtain ⟨ba, oa, rfl, _, hc⟩ := HA.out j x hx
   have ST := Lib.hid (HQ.out.trans (inR_step hx))
   clear hx
   by_cases h1 : 0 ≤ x
   ·by_cases h2 : x ≤ hi
    ·have d1 : decide (x < 0) = false := decide_eq_false (by omega)
     have d2 : decide (hi < x) = false := decide_eq_false (by omega)
     have HT : Hid (inR 0 hi l = inR 0 hi (l.drop (j + 1))) := Lib.hid (by rw [ST.out, decide_eq_true h1, decide_eq_true h2]; rfl)
     clear h1 h2
     go_wp2_with fail
     go_roundg g
     case measure => omega
     case rel => exact ⟨j + 1, rfl, rfl, by omega, HT⟩
    ·have d1 : decide (x < 0) = false := decide_eq_false (by omega)
     have d2 : decide (hi < x) = true := decide_eq_true (by omega)
     have HT : Hid (inR 0 hi l = false) := Lib.hid (by rw [ST.out, decide_eq_true h1, decide_eq_false h2]; rfl)
     clear h1 h2
     go_wp2_with fail
     go_ret
     exact ⟨ret_bool HT.out.symm, Below.refl _ _⟩
   ·have d1 : decide (x < 0) = true := decide_eq_true (by omega)
    have HT : Hid (inR 0 hi l = false) := Lib.hid (by rw [ST.out, decide_eq_false h1]; rfl)
    clear h1
    go_wp2_with fail
    go_ret
    exact ⟨ret_bool HT.out.symm, Below.refl _ _⟩

set_option maxRecDepth 1000000 in
set_option maxHeartbeats 1000000 in
theorem sentG (w : World) (v : Value) (l : List Int) (hi : Int) (h : IntsAt w v l) :
  Calls Tryz.prog 48 #[v, .int .i64 hi] w fun e w' => e = .returned (.bool (inR 1 hi l)) ∧ Below w.heap.size w w' := by
 obtain ⟨A, ca, rfl, hlc, hcm, hA⟩ := h.open_
 have HA := Lib.hid hA
 clear h hA
 obtain ⟨n, hn⟩ : ∃ n, l.length = n := ⟨_, rfl⟩
 rw [hn] at hlc ⊢
 have HN := Lib.hid hn
 clear hn
 go_enter Tryz.func48, Tryz.ntmps48
 go_wp2_with fail
 go_loopg [5] n (fun g i wr => ∃ (j : Nat), wr = w ∧ i = .int .i64 j ∧ j + g = n ∧ Hid (inR 1 hi l = inR 1 hi (l.drop j)))
 case atStart => exact ⟨0, rfl, rfl, by omega, Lib.hid rfl⟩
 case round =>
  obtain ⟨j, rfl, rfl, hj, HQ⟩ := hrel
  rcases Nat.eq_zero_or_pos gk with h | h
  ·obtain rfl : j = n := by omega
   have HT : Hid (inR 1 hi l = true) := Lib.hid (by rw [HQ.out, List.drop_eq_nil_of_le (by rw [HN.out]; exact Nat.le_refl _)]; rfl)
   go_wp2_with fail
   go_ret
   exact ⟨ret_bool HT.out.symm, Below.refl _ _⟩
  ·obtain ⟨g, rfl⟩ : ∃ g, gk = g + 1 := ⟨gk - 1, by omega⟩
   obtain ⟨x, hx⟩ : ∃ x, l[j]? = some x := ⟨_, List.getElem?_eq_getElem (by rw [HN.out]; omega)⟩
   obtain ⟨ba, oa, rfl, _, hc⟩ := HA.out j x hx
   have ST := Lib.hid (HQ.out.trans (inR_step hx))
   clear hx
   by_cases h1 : 1 ≤ x
   ·by_cases h2 : x ≤ hi
    ·have d1 : decide (x < 1) = false := decide_eq_false (by omega)
     have d2 : decide (hi < x) = false := decide_eq_false (by omega)
     have HT : Hid (inR 1 hi l = inR 1 hi (l.drop (j + 1))) := Lib.hid (by rw [ST.out, decide_eq_true h1, decide_eq_true h2]; rfl)
     clear h1 h2
     go_wp2_with fail
     go_roundg g
     case measure => omega
     case rel => exact ⟨j + 1, rfl, rfl, by omega, HT⟩
    ·have d1 : decide (x < 1) = false := decide_eq_false (by omega)
     have d2 : decide (hi < x) = true := decide_eq_true (by omega)
     have HT : Hid (inR 1 hi l = false) := Lib.hid (by rw [ST.out, decide_eq_true h1, decide_eq_false h2]; rfl)
     clear h1 h2
     go_wp2_with fail
     go_ret
     exact ⟨ret_bool HT.out.symm, Below.refl _ _⟩
   ·have d1 : decide (x < 1) = true := decide_eq_true (by omega)
    have HT : Hid (inR 1 hi l = false) := Lib.hid (by rw [ST.out, decide_eq_false h1]; rfl)
    clear h1
    go_wp2_with fail
    go_ret
    exact ⟨ret_bool HT.out.symm, Below.refl _ _⟩

def sizesB (o v : Int) : Bool := decide (1 ≤ o) && decide (o ≤ 4) && decide (1 ≤ v) && decide (v ≤ 2000)

set_option maxRecDepth 1000000 in
set_option maxHeartbeats 1000000 in
theorem sizesG (w : World) (o v : Int) :
  Calls Tryz.prog 21 #[.int .i64 o, .int .i64 v] w fun e w' => e = .returned (.bool (sizesB o v)) ∧ Below w.heap.size w w' := by
 have HT : Hid (sizesB o v = (decide (1 ≤ o) && decide (o ≤ 4) && decide (1 ≤ v) && decide (v ≤ 2000))) := Lib.hid rfl
 by_cases h1 : 1 ≤ o
 ·have d1 := decide_eq_true h1
  by_cases h2 : o ≤ 4
  ·have d2 := decide_eq_true h2
   by_cases h3 : 1 ≤ v
   ·have d3 := decide_eq_true h3
    by_cases h4 : v ≤ 2000
    ·have d4 := decide_eq_true h4
     have HB : Hid (sizesB o v = true) := Lib.hid (by rw [HT.out, d1, d2, d3, d4]; rfl)
     clear h1 h2 h3 h4
     go_enter Tryz.func21, Tryz.ntmps21
     go_wp2_with fail
     go_ret
     exact ⟨ret_bool HB.out.symm, Below.refl _ _⟩
    ·have d4 := decide_eq_false h4
     have HB : Hid (sizesB o v = false) := Lib.hid (by rw [HT.out, d1, d2, d3, d4]; rfl)
     clear h1 h2 h3 h4
     go_enter Tryz.func21, Tryz.ntmps21
     go_wp2_with fail
     go_ret
     exact ⟨ret_bool HB.out.symm, Below.refl _ _⟩
   ·have d3 := decide_eq_false h3
    have HB : Hid (sizesB o v = false) := Lib.hid (by rw [HT.out, d1, d2, d3]; rfl)
    clear h1 h2 h3
    go_enter Tryz.func21, Tryz.ntmps21
    go_wp2_with fail
    go_ret
    exact ⟨ret_bool HB.out.symm, Below.refl _ _⟩
  ·have d2 := decide_eq_false h2
   have HB : Hid (sizesB o v = false) := Lib.hid (by rw [HT.out, d1, d2]; rfl)
   clear h1 h2
   go_enter Tryz.func21, Tryz.ntmps21
   go_wp2_with fail
   go_ret
   exact ⟨ret_bool HB.out.symm, Below.refl _ _⟩
 ·have d1 := decide_eq_false h1
  have HB : Hid (sizesB o v = false) := Lib.hid (by rw [HT.out, d1]; rfl)
  clear h1
  go_enter Tryz.func21, Tryz.ntmps21
  go_wp2_with fail
  go_ret
  exact ⟨ret_bool HB.out.symm, Below.refl _ _⟩

theorem ordL_eq {a b : List Int} (hl : a.length = b.length) : ordL a b = 0 ↔ a = b := by
 induction a generalizing b with
 | nil => cases b <;> simp_all [ordL]
 | cons x a ih =>
  cases b with
  | nil => simp at hl
  | cons y b =>
   simp only [ordL]
   by_cases h : x = y
   ·subst h
    rw [if_pos rfl, ih (by simpa using hl)]
    simp
   ·rw [if_neg h]
    constructor
    ·intro h'; split at h' <;> omega
    ·intro h'; simp_all

set_option maxRecDepth 1000000 in
set_option maxHeartbeats 1000000 in
theorem sameWordsG (w : World) (va vb : Value) (a b : List Int) (ha : IntsAt w va a) (hb : IntsAt w vb b) :
  Calls Tryz.prog 29 #[va, vb] w fun e w' => e = .returned (.bool (decide (a = b))) ∧ Below w.heap.size w w' := by
 by_cases hl : a.length = b.length
 ·have OC := Lib.hid (ordG w va vb a b ha hb (by omega))
  obtain ⟨A, ca, rfl, hlc, hcm, _⟩ := ha.open_
  obtain ⟨B, cb, rfl, hmc, hcm', _⟩ := hb.open_
  clear ha hb
  have HE : Hid (ordL a b = 0 ↔ a = b) := Lib.hid (ordL_eq hl)
  generalize ordL a b = z at *
  generalize a.length = n at *
  generalize b.length = m at *
  subst hl
  by_cases hz : z = 0
  ·have HD : Hid (decide (a = b) = true) := Lib.hid (decide_eq_true (HE.out.1 hz))
   have hz' : (z == 0) = true := by simpa using hz
   clear hz
   go_enter Tryz.func29, Tryz.ntmps29
   go_wp2_with fail
   refine OC.out.mono ?_
   rintro e w1 ⟨rfl, hb1⟩
   have B1 := Lib.hid hb1
   clear hb1
   go_wp2_with fail
   go_ret
   exact ⟨ret_bool HD.out.symm, B1.out⟩
  ·have HD : Hid (decide (a = b) = false) := Lib.hid (decide_eq_false (fun e => hz (HE.out.2 e)))
   have hz' : (z == 0) = false := by simpa using hz
   clear hz
   go_enter Tryz.func29, Tryz.ntmps29
   go_wp2_with fail
   refine OC.out.mono ?_
   rintro e w1 ⟨rfl, hb1⟩
   have B1 := Lib.hid hb1
   clear hb1
   go_wp2_with fail
   go_ret
   exact ⟨ret_bool HD.out.symm, B1.out⟩
 ·obtain ⟨A, ca, rfl, hlc, hcm, _⟩ := ha.open_
  obtain ⟨B, cb, rfl, hmc, hcm', _⟩ := hb.open_
  clear ha hb
  have HD : Hid (decide (a = b) = false) := Lib.hid (decide_eq_false (fun e => hl (by rw [e])))
  generalize a.length = n at *
  generalize b.length = m at *
  have hne : ((n : Int) == (m : Int)) = false := by simp; omega
  clear hl
  go_enter Tryz.func29, Tryz.ntmps29
  go_wp2_with fail
  go_ret
  exact ⟨ret_bool HD.out.symm, Below.refl _ _⟩
def cmpL : List Int → List Int → Int
 | [], [] => 0
 | [], _ :: _ => -1
 | _ :: _, [] => 1
 | x :: a, y :: b => if x = y then cmpL a b else if x < y then -1 else 1
theorem cmpL_at {a b : List Int} {j : Nat} {x y : Int} (ht : a.take j = b.take j) (hx : a[j]? = some x) (hy : b[j]? = some y) (hne : x ≠ y) : cmpL a b = if x < y then -1 else 1 := by
 induction j generalizing a b with
 | zero =>
  cases a <;> cases b <;> simp at hx hy
  subst hx
  subst hy
  simp [cmpL, hne]
 | succ j ih =>
  cases a with
  | nil => simp at hx
  | cons p a =>
   cases b with
   | nil => simp at hy
   | cons q b =>
    simp at ht hx hy
    obtain ⟨rfl, ht⟩ := ht
    simp only [cmpL, if_true]
    exact ih ht hx hy
theorem cmpL_more {a b : List Int} (h : a.take b.length = b) (hl : b.length < a.length) : cmpL a b = 1 := by
 induction b generalizing a with
 | nil =>
  cases a with
  | nil => simp at hl
  | cons x a => rfl
 | cons y b ih =>
  cases a with
  | nil => simp at hl
  | cons x a =>
   simp at h hl
   obtain ⟨rfl, h⟩ := h
   simp only [cmpL, if_true]
   exact ih h hl
theorem cmpL_pre {a b : List Int} (h : a = b.take a.length) : cmpL a b = if a.length < b.length then -1 else 0 := by
 induction a generalizing b with
 | nil =>
  cases b with
  | nil => rfl
  | cons y b => simp [cmpL]
 | cons x a ih =>
  cases b with
  | nil => simp at h
  | cons y b =>
   simp at h
   obtain ⟨rfl, h⟩ := h
   simp only [cmpL, if_true, List.length_cons, Nat.add_lt_add_iff_right]
   exact ih h
theorem cmpL_ord {a b : List Int} (h : a.length = b.length) : cmpL a b = ordL a b := by
 induction a generalizing b with
 | nil =>
  cases b with
  | nil => rfl
  | cons y b => simp at h
 | cons x a ih =>
  cases b with
  | nil => simp at h
  | cons y b =>
   simp at h
   simp only [cmpL, ordL]
   rw [ih h]

set_option maxRecDepth 1000000 in
set_option maxHeartbeats 4000000 in
theorem cmpG (w : World) (va vb : Value) (a b : List Int) (ha : IntsAt w va a) (hb : IntsAt w vb b) :
  Calls Tryz.prog 86 #[va, vb] w fun e w' => e = .returned (.int .i64 (cmpL a b)) ∧ w = w' := by
 obtain ⟨A, ca, rfl, hlc, hcm, hA⟩ := ha.open_
 obtain ⟨B, cb, rfl, hmc, hcm', hB⟩ := hb.open_
 have HA := Lib.hid hA
 have HB := Lib.hid hB
 clear ha hb hA hB
 obtain ⟨n, hn⟩ : ∃ n, a.length = n := ⟨_, rfl⟩
 obtain ⟨p, hp⟩ : ∃ p, b.length = p := ⟨_, rfl⟩
 rw [hn] at hlc ⊢
 rw [hp] at hmc ⊢
 have HN := Lib.hid hn
 have HP := Lib.hid hp
 clear hn hp
 go_enter Tryz.func86, Tryz.ntmps86
 go_wp2_with fail
 go_loopg [5, 6, 7, 8, 11] n (fun g _ _ _ _ i wr => ∃ (j : Nat), wr = w ∧ i = .int .i64 j ∧ j + g = n ∧ j ≤ p ∧ Hid (a.take j = b.take j))
 case atStart => exact ⟨0, rfl, rfl, by omega, by omega, Lib.hid rfl⟩
 case round =>
  obtain ⟨j, rfl, rfl, hj, hjp, HQ⟩ := hrel
  rcases Nat.eq_zero_or_pos gk with h | h
  ·obtain rfl : j = n := by omega
   have HT : Hid (cmpL a b = if j < p then -1 else 0) := Lib.hid (by
    have h1 := cmpL_pre (a := a) (b := b) (by
     have := HQ.out
     rw [List.take_of_length_le (by rw [HN.out]; exact Nat.le_refl _)] at this
     rw [HN.out]; exact this)
    rwa [HN.out, HP.out] at h1)
   by_cases hlt : j < p
   ·have hd : decide (j < p) = true := decide_eq_true hlt
    have HT2 : Hid (cmpL a b = -1) := Lib.hid (by rw [HT.out, if_pos hlt])
    go_wp2_with fail
    go_ret
    exact ⟨ret_i64 HT2.out.symm, rfl⟩
   ·have hd : decide (j < p) = false := decide_eq_false hlt
    have HT2 : Hid (cmpL a b = 0) := Lib.hid (by rw [HT.out, if_neg hlt])
    go_wp2_with fail
    go_ret
    exact ⟨ret_i64 HT2.out.symm, rfl⟩
  ·obtain ⟨g, rfl⟩ : ∃ g, gk = g + 1 := ⟨gk - 1, by omega⟩
   obtain ⟨x, hx⟩ : ∃ x, a[j]? = some x := ⟨_, List.getElem?_eq_getElem (by rw [HN.out]; omega)⟩
   obtain ⟨ba, oa, rfl, _, hc⟩ := HA.out j x hx
   by_cases hjl : j < p
   ·obtain ⟨y, hy⟩ : ∃ y, b[j]? = some y := ⟨_, List.getElem?_eq_getElem (by rw [HP.out]; omega)⟩
    obtain ⟨bb, ob, rfl, _, hc'⟩ := HB.out j y hy
    have HX := Lib.hid hx
    have HY := Lib.hid hy
    have hd : decide (p ≤ j) = false := decide_eq_false (by omega)
    have hd2 : decide ((p : Int) ≤ (j : Int)) = false := decide_eq_false (by omega)
    clear hx hy
    by_cases hxy : x = y
    ·subst hxy
     have hcc : Lib.compareInt x x = 0 := by simp [Lib.compareInt]
     go_wp2_with fail
     refine (Tryz.cmp_Compare_int x x _).mono ?_
     rintro e w2 ⟨rfl, rfl⟩
     rw [hcc]
     go_wp2_with fail
     go_roundg g
     case measure => omega
     case rel => exact ⟨j + 1, rfl, rfl, by omega, by omega, Lib.hid (by rw [take_succ_get _ HX.out, take_succ_get _ HY.out, HQ.out])⟩
    ·have HF := Lib.hid (cmpL_at HQ.out HX.out HY.out hxy)
     by_cases hlt : x < y
     ·have hcc : Lib.compareInt x y = -1 := by simp [Lib.compareInt, hlt]
      have HF2 : Hid (cmpL a b = -1) := Lib.hid (by rw [HF.out, if_pos hlt])
      clear hxy hlt
      go_wp2_with fail
      refine (Tryz.cmp_Compare_int x y _).mono ?_
      rintro e w2 ⟨rfl, rfl⟩
      rw [hcc]
      go_wp2_with fail
      go_ret
      exact ⟨ret_i64 HF2.out.symm, rfl⟩
     ·have hcc : Lib.compareInt x y = 1 := by
       have h1 : y < x := by omega
       have h2 : ¬ x < y := hlt
       simp [Lib.compareInt, h1, h2]
      have HF2 : Hid (cmpL a b = 1) := Lib.hid (by rw [HF.out, if_neg hlt])
      clear hxy hlt
      go_wp2_with fail
      refine (Tryz.cmp_Compare_int x y _).mono ?_
      rintro e w2 ⟨rfl, rfl⟩
      rw [hcc]
      go_wp2_with fail
      go_ret
      exact ⟨ret_i64 HF2.out.symm, rfl⟩
   ·obtain rfl : j = p := by omega
    have HF2 : Hid (cmpL a b = 1) := Lib.hid (cmpL_more (by
     rw [HP.out, HQ.out, List.take_of_length_le (by rw [HP.out]; exact Nat.le_refl _)]) (by rw [HP.out, HN.out]; omega))
    clear hx
    go_wp2_with fail
    go_ret
    exact ⟨ret_i64 HF2.out.symm, rfl⟩
end Go.Proofs.YtjebfdfkjlkifaaGreat
