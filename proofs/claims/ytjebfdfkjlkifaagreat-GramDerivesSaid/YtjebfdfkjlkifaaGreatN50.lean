/- Lemmas. -/
import Derived.Test.YtjebfdfkjlkifaaGreatN48
import Derived.Test.YtjebfdfkjlkifaaGreatN49
set_option linter.all false
set_option maxRecDepth 1000000
set_option maxHeartbeats 32000000
namespace Go.Proofs.YtjebfdfkjlkifaaGreat
open Go.RowKit
section
open Go.RowKit
end
section
open Go.RowKit
end
theorem sgn_one {q : Rat} : aU (q - 1) = 0 ↔ q = 1 := by
 constructor
 ·intro h
  have := rI h
  grind
 rintro rfl
 rw [Rat.sub_self]
 rfl
theorem sumTo_zero (n : Nat) : aQ (fun _ => (0 : Rat)) n = 0 := by
 rw [fL, Rat.zero_mul]
theorem sumQ_cons (x : Rat) (l : List Rat) : bX (x :: l) = x + bX l := by
 rw [show x :: l = [x] ++ l from rfl, mC, xF]
theorem sumQ_flat {A B : Type} (L : List A) (G : A -> List B) (f : B -> Rat) : bX ((L.flatMap G).map f) = bX (L.map fun l => bX ((G l).map f)) := by
 induction L with
 | nil => rfl
 | cons x L ih => rw [List.flatMap_cons, List.map_append, mC, ih, List.map_cons, sumQ_cons]
theorem sumQ_zero {A : Type} (L : List A) : bX (L.map fun _ => (0 : Rat)) = 0 := by
 induction L with
 | nil => rfl
 | cons x L ih => rw [List.map_cons, sumQ_cons, ih, Rat.add_zero]
theorem sumQ_mulL {A : Type} (L : List A) (c : Rat) (f : A -> Rat) : bX (L.map fun x => c * f x) = c * bX (L.map f) := by
 induction L with
 | nil => exact (Rat.mul_zero c).symm
 | cons x L ih => rw [List.map_cons, sumQ_cons, ih, List.map_cons, sumQ_cons, Rat.mul_add]
theorem sumQ_rules (rs : List bP) (h : bP -> Rat) : bX ((List.range rs.length).map fun (i : Nat) => h (ruleN rs (i : Int))) = bX (rs.map h) := by
 congr 1
 refine List.ext_getElem (by simp) fun i h1 h2 => ?_
 rw [List.getElem_map, List.getElem_map, List.getElem_range]
 unfold ruleN
 rw [Int.toNat_natCast, gD, eG (by simpa using h2)]
 rfl
theorem col_add (sl : List Int) (rest : List Rat) (t j : Nat) (rs : List bP) : ∀ a, colF (· + ·) sl rest t j a rs = a + bX (rs.map fun r => if r.f.toNat = j then (eM sl rest t r).getD 0 else 0) := by
 induction rs with
 | nil => exact fun a => (Rat.add_zero a).symm
 | cons r rs ih =>
  intro a
  rw [List.map_cons, sumQ_cons, <- Rat.add_assoc]
  have e : colF (· + ·) sl rest t j a (r :: rs) = colF (· + ·) sl rest t j (if r.f.toNat = j then (match eM sl rest t r with | some q => a + q | none => a) else a) rs := rfl
  rw [e, ih]
  congr 1
  split
  ·cases eM sl rest t r with
   | none => exact (Rat.add_zero a).symm
   | some q => rfl
  exact (Rat.add_zero a).symm

def allL (m : Nat) : Nat -> List (List Int)
 | 0 => [[]]
 | k + 1 => (allL m k).flatMap fun l => (List.range m).map fun (n : Nat) => l ++ [(n : Int)]
theorem allL_length {m k : Nat} : ∀ l ∈ allL m k, l.length = k := by
 induction k with
 | zero =>
  intro l hl
  rw [List.mem_singleton.1 hl]
  rfl
 | succ k ih =>
  intro l hl
  obtain ⟨a, ha, h⟩ := List.mem_flatMap.1 hl
  obtain ⟨n, _, rfl⟩ := List.mem_map.1 h
  rw [List.length_append, ih a ha]
  rfl
def stepP (rs : List bP) (a : Option (List Int × Rat × Int)) (e : Int) : Option (List Int × Rat × Int) :=
 match a with
 | none => none
 | some a => if (0 <= e /\ e < rs.length) /\ (ruleN rs e).f = a.2.2 /\ ¬ (ruleN rs e).w = 0 then some (if 0 < (ruleN rs e).w then a.1 ++ [(ruleN rs e).w] else a.1, a.2.1 * (ruleN rs e).q, (ruleN rs e).t) else none
def derP (rs : List bP) (l : List Int) : Option (List Int × Rat × Int) := l.foldl (stepP rs) (some ([], 1, 0))
theorem derN_pre (rs : List bP) (l : List Int) (e : Int) : ∀ j, j <= l.length -> derN rs (l ++ [e]) j = derP rs (l.take j) := by
 intro j
 induction j with
 | zero => exact fun _ => rfl
 | succ j ih =>
  intro hj
  have hjl : j < l.length := hj
  have hg : (l ++ [e]).getD j 0 = l[j] := by
   rw [gD, List.getElem?_append_left hjl, eG hjl]
   rfl
  have ht : l.take (j + 1) = l.take j ++ [l[j]] := List.take_succ_eq_append_getElem hjl
  rw [ht]
  unfold derP
  rw [List.foldl_append]
  show (match derN rs (l ++ [e]) j with
   | none => none
   | some a => if (0 <= (l ++ [e]).getD j 0 /\ (l ++ [e]).getD j 0 < rs.length) /\ (ruleN rs ((l ++ [e]).getD j 0)).f = a.2.2 /\ ((ruleN rs ((l ++ [e]).getD j 0)).w = 0 ↔ j + 1 = (l ++ [e]).length) then
     some (if 0 < (ruleN rs ((l ++ [e]).getD j 0)).w then a.1 ++ [(ruleN rs ((l ++ [e]).getD j 0)).w] else a.1, a.2.1 * (ruleN rs ((l ++ [e]).getD j 0)).q, (ruleN rs ((l ++ [e]).getD j 0)).t) else none) = stepP rs (derP rs (l.take j)) l[j]
  rw [ih (by omega), hg]
  unfold stepP
  have hn : ¬ (j + 1 = (l ++ [e]).length) := by rw [List.length_append, List.length_singleton]; omega
  cases derP rs (l.take j) with
  | none => rfl
  | some a => simp only [hn, iff_false]
def stepE (rs : List bP) (a : Option (List Int × Rat × Int)) (e : Int) : Option (List Int × Rat × Int) :=
 match a with
 | none => none
 | some a => if (0 <= e /\ e < rs.length) /\ (ruleN rs e).f = a.2.2 /\ (ruleN rs e).w = 0 then some (a.1, a.2.1 * (ruleN rs e).q, (ruleN rs e).t) else none
theorem derN_end (rs : List bP) (l : List Int) (e : Int) : deriveQ rs (l ++ [e]) = stepE rs (derP rs l) e := by
 unfold deriveQ stepE
 rw [if_neg (by simp), List.length_append, List.length_singleton]
 have hg : (l ++ [e]).getD l.length 0 = e := by
  rw [gD, List.getElem?_append_right (nR _), Nat.sub_self]
  rfl
 show (match derN rs (l ++ [e]) l.length with
   | none => none
   | some a => if (0 <= (l ++ [e]).getD l.length 0 /\ (l ++ [e]).getD l.length 0 < rs.length) /\ (ruleN rs ((l ++ [e]).getD l.length 0)).f = a.2.2 /\ ((ruleN rs ((l ++ [e]).getD l.length 0)).w = 0 ↔ l.length + 1 = (l ++ [e]).length) then
     some (if 0 < (ruleN rs ((l ++ [e]).getD l.length 0)).w then a.1 ++ [(ruleN rs ((l ++ [e]).getD l.length 0)).w] else a.1, a.2.1 * (ruleN rs ((l ++ [e]).getD l.length 0)).q, (ruleN rs ((l ++ [e]).getD l.length 0)).t) else none) = _
 rw [derN_pre rs l e _ (nR _), List.take_length, hg]
 have hn : l.length + 1 = (l ++ [e]).length := by simp
 cases derP rs l with
 | none => rfl
 | some a =>
  simp only [hn, iff_true]
  split
  ·next h =>
   rw [if_neg (by rw [h.2.2]; decide)]
  rfl
def shareL (rs : List bP) (s l : List Int) : Rat := match deriveQ rs l with
 | some a => if a.1 = s then a.2.1 else 0
 | none => 0
def shareP (rs : List bP) (Ln : Nat) (s l : List Int) (k : Nat) : Rat := match derP rs l with
 | some a => if a.1 = s.take k then a.2.1 * (rowT (· + ·) Ln rs s k).getD a.2.2.toNat 0 else 0
 | none => 0
theorem derP_place {L : Int} (hL : 1 <= L) {rs : List bP} (hr : RulesOk L rs) (l : List Int) : ∀ a, derP rs l = some a -> 0 <= a.2.2 /\ a.2.2 < L := by
 rcases List.eq_nil_or_concat l with rfl | ⟨l, e, rfl⟩
 ·intro a h
  cases h
  exact ⟨Int.le_refl 0, by show (0 : Int) < L; omega⟩
 intro a h
 unfold derP at h
 rw [List.concat_eq_append, List.foldl_append] at h
 change stepP rs (derP rs l) e = some a at h
 unfold stepP at h
 split at h
 ·cases h
 next b _ =>
 split at h
 ·next hc =>
  cases h
  have hl : e.toNat < rs.length := by have := hc.1; omega
  have hm : ruleN rs e ∈ rs := by
   unfold ruleN
   rw [gD, eG hl]
   exact List.getElem_mem _
  obtain ⟨r1, r2, r3, r4, r5, r6⟩ := hr _ hm
  exact ⟨r3, r4⟩
 cases h
theorem share_step {L : Int} {Ln : Nat} (hLn : L.toNat = Ln) (hL : 1 <= L) {rs : List bP} (hr : RulesOk L rs) {s : List Int} (hs : ∀ x ∈ s, 1 <= x) {k : Nat} (hk : k < s.length) (l : List Int) :
  bX (((List.range rs.length).map fun (n : Nat) => l ++ [(n : Int)]).map fun l => shareP rs Ln s l (k + 1)) = shareP rs Ln s l k := by
 rw [List.map_map]
 have hP : ∀ i : Nat, derP rs (l ++ [(i : Int)]) = stepP rs (derP rs l) (i : Int) := fun i => by
  unfold derP
  rw [List.foldl_append]
  rfl
 cases ha : derP rs l with
 | none =>
  have e0 : shareP rs Ln s l k = 0 := by unfold shareP; rw [ha]
  rw [e0, <- sumQ_zero (List.range rs.length)]
  congr 1
  refine List.map_congr_left fun i _ => ?_
  show shareP rs Ln s (l ++ [(i : Int)]) (k + 1) = 0
  unfold shareP
  rw [hP, ha]
  rfl
 | some a =>
  obtain ⟨p0, p1⟩ := derP_place hL hr l a ha
  have htk : s.take (k + 1) = s.take k ++ [s[k]] := List.take_succ_eq_append_getElem hk
  have hsk : 1 <= s[k] := hs _ (List.getElem_mem _)
  by_cases hat : a.1 = s.take k
  ·have e0 : shareP rs Ln s l k = a.2.1 * (rowT (· + ·) Ln rs s k).getD a.2.2.toNat 0 := by unfold shareP; rw [ha]; simp only; rw [if_pos hat]
   have e1 : (rowT (· + ·) Ln rs s k).getD a.2.2.toNat 0 = bX (rs.map fun r => if r.f.toNat = a.2.2.toNat then (eM s (nxtT (· + ·) Ln rs s k) k r).getD 0 else 0) := by
    rw [rowT_eq _ _ _ _ (Nat.le_of_lt hk), rowL_col _ _ _ _ _ (show a.2.2.toNat < Ln by omega), col_add, Rat.zero_add]
   rw [e0, e1, <- sumQ_mulL, <- sumQ_rules rs fun r => a.2.1 * (if r.f.toNat = a.2.2.toNat then (eM s (nxtT (· + ·) Ln rs s k) k r).getD 0 else 0)]
   congr 1
   refine List.map_congr_left fun i hi => ?_
   have hil := List.mem_range.1 hi
   show shareP rs Ln s (l ++ [(i : Int)]) (k + 1) = _
   obtain ⟨r, hrr⟩ : ∃ r, ruleN rs (i : Int) = r := ⟨_, rfl⟩
   have hm : r ∈ rs := by
    rw [<- hrr]
    unfold ruleN
    rw [Int.toNat_natCast, gD, eG hil]
    exact List.getElem_mem _
   obtain ⟨r1, r2, r3, r4, r5, r6⟩ := hr r hm
   unfold shareP
   rw [hP, ha]
   unfold stepP
   simp only [hrr]
   by_cases hf : r.f = a.2.2
   ·rw [if_pos (show r.f.toNat = a.2.2.toNat by rw [hf])]
    by_cases hw : r.w = 0
    ·rw [if_neg (fun h => h.2.2 hw)]
     simp only
     have : eM s (nxtT (· + ·) Ln rs s k) k r = none := by
      unfold eM
      rw [if_pos hw, if_neg (by omega)]
     rw [this]
     exact (Rat.mul_zero _).symm
    rw [if_pos ⟨⟨by omega, by omega⟩, hf, hw⟩, if_pos (by omega)]
    simp only
    rw [htk, hat]
    unfold eM
    rw [if_neg hw, eG hk]
    by_cases hx : s[k] = r.w
    ·rw [if_pos (by rw [hx]), if_pos (by rw [hx])]
     unfold nxtT
     rw [if_pos hk, Option.getD_some, Rat.mul_assoc]
    rw [if_neg (fun h => hx (by
     have := List.append_cancel_left h
     injection this with this
     exact this.symm)), if_neg (fun h => hx (by injection h)), Option.getD_none, Rat.mul_zero]
   rw [if_neg (fun h => hf h.2.1), if_neg (fun h => hf (by omega)), Rat.mul_zero]
  have e0 : shareP rs Ln s l k = 0 := by unfold shareP; rw [ha]; simp only; rw [if_neg hat]
  rw [e0, <- sumQ_zero (List.range rs.length)]
  congr 1
  refine List.map_congr_left fun i _ => ?_
  show shareP rs Ln s (l ++ [(i : Int)]) (k + 1) = 0
  unfold shareP
  rw [hP, ha]
  unfold stepP
  simp only
  split
  ·next b hb =>
   split at hb
   ·next hc =>
    cases hb
    simp only
    rw [if_neg]
    intro h
    split at h
    ·rw [htk] at h
     exact hat (List.append_inj_left' h rfl)
    next hw0 =>
    have hm : ruleN rs (i : Int) ∈ rs := by
     have hl : (i : Int).toNat < rs.length := by have := hc.1; omega
     unfold ruleN
     rw [gD, eG hl]
     exact List.getElem_mem _
    have := (hr _ hm).2.2.2.2.1
    have := hc.2.2
    omega
   cases hb
  rfl
theorem share_last {L : Int} {Ln : Nat} (hLn : L.toNat = Ln) (hL : 1 <= L) {rs : List bP} (hr : RulesOk L rs) {s : List Int} (l : List Int) :
  bX (((List.range rs.length).map fun (n : Nat) => l ++ [(n : Int)]).map fun l => shareL rs s l) = shareP rs Ln s l s.length := by
 rw [List.map_map]
 cases ha : derP rs l with
 | none =>
  have e0 : shareP rs Ln s l s.length = 0 := by unfold shareP; rw [ha]
  rw [e0, <- sumQ_zero (List.range rs.length)]
  congr 1
  refine List.map_congr_left fun i _ => ?_
  show shareL rs s (l ++ [(i : Int)]) = 0
  unfold shareL
  rw [derN_end, ha]
  rfl
 | some a =>
  obtain ⟨p0, p1⟩ := derP_place hL hr l a ha
  by_cases hat : a.1 = s
  ·have e0 : shareP rs Ln s l s.length = a.2.1 * (rowT (· + ·) Ln rs s s.length).getD a.2.2.toNat 0 := by unfold shareP; rw [ha]; simp only; rw [List.take_length, if_pos hat]
   have e1 : (rowT (· + ·) Ln rs s s.length).getD a.2.2.toNat 0 = bX (rs.map fun r => if r.f.toNat = a.2.2.toNat then (eM s (nxtT (· + ·) Ln rs s s.length) s.length r).getD 0 else 0) := by
    rw [rowT_eq _ _ _ _ (nR _), rowL_col _ _ _ _ _ (show a.2.2.toNat < Ln by omega), col_add, Rat.zero_add]
   rw [e0, e1, <- sumQ_mulL, <- sumQ_rules rs fun r => a.2.1 * (if r.f.toNat = a.2.2.toNat then (eM s (nxtT (· + ·) Ln rs s s.length) s.length r).getD 0 else 0)]
   congr 1
   refine List.map_congr_left fun i hi => ?_
   have hil := List.mem_range.1 hi
   show shareL rs s (l ++ [(i : Int)]) = _
   obtain ⟨r, hrr⟩ : ∃ r, ruleN rs (i : Int) = r := ⟨_, rfl⟩
   have hm : r ∈ rs := by
    rw [<- hrr]
    unfold ruleN
    rw [Int.toNat_natCast, gD, eG hil]
    exact List.getElem_mem _
   obtain ⟨r1, r2, r3, r4, r5, r6⟩ := hr r hm
   unfold shareL
   rw [derN_end, ha]
   unfold stepE
   simp only [hrr]
   by_cases hf : r.f = a.2.2
   ·rw [if_pos (show r.f.toNat = a.2.2.toNat by rw [hf])]
    unfold eM
    by_cases hw : r.w = 0
    ·rw [if_pos ⟨⟨by omega, by omega⟩, hf, hw⟩, if_pos hw, if_pos rfl]
     simp only
     rw [if_pos hat]
     rfl
    rw [if_neg (fun h => hw h.2.2), if_neg hw, nI.2 (nR _), if_neg (by simp)]
    exact (Rat.mul_zero _).symm
   rw [if_neg (fun h => hf h.2.1), if_neg (fun h => hf (by omega)), Rat.mul_zero]
  have e0 : shareP rs Ln s l s.length = 0 := by unfold shareP; rw [ha]; simp only; rw [List.take_length, if_neg hat]
  rw [e0, <- sumQ_zero (List.range rs.length)]
  congr 1
  refine List.map_congr_left fun i _ => ?_
  show shareL rs s (l ++ [(i : Int)]) = 0
  unfold shareL
  rw [derN_end, ha]
  unfold stepE
  simp only
  split
  ·next b hb =>
   split at hb
   ·cases hb
    simp only
    rw [if_neg hat]
   cases hb
  rfl
theorem all_lists {L : Int} {Ln : Nat} (hLn : L.toNat = Ln) (hL : 1 <= L) {rs : List bP} (hr : RulesOk L rs) {s : List Int} (hs : ∀ x ∈ s, 1 <= x) :
  bX ((allL rs.length (s.length + 1)).map fun l => shareL rs s l) = (eo (· + ·) Ln rs s s.length).getD 0 0 := by
 have pre : ∀ k, k <= s.length -> bX ((allL rs.length k).map fun l => shareP rs Ln s l k) = (eo (· + ·) Ln rs s s.length).getD 0 0 := by
  intro k
  induction k with
  | zero =>
   intro _
   show bX [shareP rs Ln s [] 0] = _
   rw [xF]
   show (if ([] : List Int) = s.take 0 then (1 : Rat) * (rowT (· + ·) Ln rs s 0).getD (0 : Int).toNat 0 else 0) = _
   rw [if_pos (show ([] : List Int) = s.take 0 from rfl), Rat.one_mul]
   unfold rowT
   rw [Nat.sub_zero]
   rfl
  | succ k ih =>
   intro hk
   rw [<- ih (by omega)]
   show bX (((allL rs.length k).flatMap _).map _) = _
   rw [sumQ_flat]
   congr 1
   exact List.map_congr_left fun l _ => share_step hLn hL hr hs (by omega) l
 rw [<- pre s.length (nR _)]
 show bX (((allL rs.length s.length).flatMap _).map _) = _
 rw [sumQ_flat]
 congr 1
 exact List.map_congr_left fun l _ => share_last hLn hL hr l
theorem radd_le {a b c d : Rat} (h : a <= b) (g : c <= d) : a + c <= b + d := by grind
def endQw (rs : List bP) (j : Nat) : Rat := bX (rs.map fun r => if r.f.toNat = j then (if r.w = 0 then r.q else 0) else 0)
def carQw (rs : List bP) (y : Nat -> Rat) (j : Nat) (v : Int) : Rat := bX (rs.map fun r => if r.f.toNat = j then (if r.w = v then r.q * y r.t.toNat else 0) else 0)
def allQw (rs : List bP) (j : Nat) : Rat := bX (rs.map fun r => if r.f.toNat = j then r.q else 0)
theorem pickW (w : Int) (c : Rat) (n : Nat) : aQ (fun v => if w = (v : Int) + 1 then c else 0) n = if 1 <= w /\ w <= n then c else 0 := by
 induction n with
 | zero =>
  rw [if_neg (by omega)]
  rfl
 | succ n ih =>
  show aQ (fun v => if w = (v : Int) + 1 then c else 0) n + (if w = (n : Int) + 1 then c else 0) = _
  rw [ih]
  by_cases h : w = (n : Int) + 1
  ·rw [if_neg (by omega), if_pos h, if_pos (by omega), Rat.zero_add]
  rw [if_neg h, Rat.add_zero]
  by_cases h2 : 1 <= w /\ w <= n
  ·rw [if_pos h2, if_pos (by omega)]
  rw [if_neg h2, if_neg (by omega)]
theorem e_c {rs : List bP} {y : Nat -> Rat} (hr : ∀ r ∈ rs, 0 <= r.q /\ 0 <= y r.t.toNat /\ y r.t.toNat <= 1) (j V : Nat) : endQw rs j + aQ (fun v => carQw rs y j ((v : Int) + 1)) V <= allQw rs j := by
 induction rs with
 | nil =>
  show (0 : Rat) + aQ (fun _ => (0 : Rat)) V <= 0
  rw [sumTo_zero, Rat.add_zero]
  exact Rat.le_refl
 | cons r rs ih =>
  have ih' := ih (fun x hx => hr x (List.mem_cons_of_mem _ hx))
  obtain ⟨h1, h2, h3⟩ := hr r List.mem_cons_self
  have e1 : endQw (r :: rs) j = (if r.f.toNat = j then (if r.w = 0 then r.q else 0) else 0) + endQw rs j := by unfold endQw; rw [List.map_cons, sumQ_cons]
  have e2 : allQw (r :: rs) j = (if r.f.toNat = j then r.q else 0) + allQw rs j := by unfold allQw; rw [List.map_cons, sumQ_cons]
  have e3 : ∀ v : Nat, v < V -> carQw (r :: rs) y j ((v : Int) + 1) = (if r.f.toNat = j then (if r.w = (v : Int) + 1 then r.q * y r.t.toNat else 0) else 0) + carQw rs y j ((v : Int) + 1) := fun v _ => by unfold carQw; rw [List.map_cons, sumQ_cons]
  rw [e1, e2, mB e3, f8]
  have key : (if r.f.toNat = j then (if r.w = 0 then r.q else 0) else 0) + aQ (fun v => if r.f.toNat = j then (if r.w = (v : Int) + 1 then r.q * y r.t.toNat else 0) else 0) V <= (if r.f.toNat = j then r.q else 0) := by
   by_cases hf : r.f.toNat = j
   ·simp only [if_pos hf]
    rw [pickW]
    by_cases hw : r.w = 0
    ·rw [if_pos hw, if_neg (by omega), Rat.add_zero]
     exact Rat.le_refl
    rw [if_neg hw, Rat.zero_add]
    split
    ·have := Rat.mul_le_mul_of_nonneg_left h3 h1
     rwa [Rat.mul_one] at this
    exact h1
   simp only [if_neg hf]
   rw [sumTo_zero, Rat.add_zero]
   exact Rat.le_refl
  have := radd_le key ih'
  grind
theorem carQw_congr {rs : List bP} {y z : Nat -> Rat} (h : ∀ r ∈ rs, y r.t.toNat = z r.t.toNat) (j : Nat) (v : Int) : carQw rs y j v = carQw rs z j v := by
 unfold carQw
 congr 1
 exact List.map_congr_left fun r hr => by rw [h r hr]
theorem carQw_add (rs : List bP) (y z : Nat -> Rat) (j : Nat) (v : Int) : carQw rs (fun i => y i + z i) j v = carQw rs y j v + carQw rs z j v := by
 unfold carQw
 induction rs with
 | nil => exact (Rat.add_zero 0).symm
 | cons r rs ih =>
  rw [List.map_cons, List.map_cons, List.map_cons, sumQ_cons, sumQ_cons, sumQ_cons, ih]
  by_cases hf : r.f.toNat = j
  ·rw [if_pos hf, if_pos hf, if_pos hf]
   by_cases hw : r.w = v
   ·rw [if_pos hw, if_pos hw, if_pos hw]
    grind
   rw [if_neg hw, if_neg hw, if_neg hw]
   grind
  rw [if_neg hf, if_neg hf, if_neg hf]
  grind
theorem carQw_zero (rs : List bP) (j : Nat) (v : Int) : carQw rs (fun _ => 0) j v = 0 := by
 refine Eq.trans ?_ (sumQ_zero rs)
 unfold carQw
 congr 1
 refine List.map_congr_left fun r _ => ?_
 split
 ·split
  ·exact Rat.mul_zero _
  rfl
 rfl
theorem carQw_sum (rs : List bP) (f : Nat -> Nat -> Rat) (j : Nat) (v : Int) (n : Nat) : carQw rs (fun i => aQ (fun w => f w i) n) j v = aQ (fun w => carQw rs (f w) j v) n := by
 induction n with
 | zero => exact carQw_zero rs j v
 | succ n ih =>
  show carQw rs (fun i => aQ (fun w => f w i) n + f n i) j v = aQ (fun w => carQw rs (f w) j v) n + carQw rs (f n) j v
  rw [carQw_add, ih]
theorem out_end (Ln : Nat) (rs : List bP) (sl : List Int) {j : Nat} (hj : j < Ln) : (eo (· + ·) Ln rs sl 0).getD j 0 = endQw rs j := by
 show (eP (· + ·) Ln rs sl [] sl.length).getD j 0 = _
 rw [rowL_col _ _ _ _ _ hj, col_add, Rat.zero_add]
 unfold endQw
 congr 1
 refine List.map_congr_left fun r _ => ?_
 by_cases hf : r.f.toNat = j
 ·rw [if_pos hf, if_pos hf]
  unfold eM
  by_cases hw : r.w = 0
  ·rw [if_pos hw, if_pos rfl, if_pos hw]
   rfl
  rw [if_neg hw, if_neg hw, nI.2 (nR _), if_neg (fun h => by cases h)]
  rfl
 rw [if_neg hf, if_neg hf]
theorem out_in (Ln : Nat) (rs : List bP) (sl : List Int) (rest : List Rat) {t : Nat} {v : Int} (hv : 1 <= v) (ht : sl[t]? = some v) {j : Nat} (hj : j < Ln) : (eP (· + ·) Ln rs sl rest t).getD j 0 = carQw rs (fun i => rest.getD i 0) j v := by
 rw [rowL_col _ _ _ _ _ hj, col_add, Rat.zero_add]
 have htl := (sI.1 ht).1
 unfold carQw
 congr 1
 refine List.map_congr_left fun r _ => ?_
 by_cases hf : r.f.toNat = j
 ·rw [if_pos hf, if_pos hf]
  unfold eM
  by_cases hw : r.w = 0
  ·rw [if_pos hw, if_neg (by omega), if_neg (show ¬ r.w = v by omega)]
   rfl
  rw [if_neg hw, ht]
  by_cases hx : r.w = v
  ·rw [if_pos hx, if_pos (by rw [hx])]
   rfl
  rw [if_neg hx, if_neg (fun h => hx (by injection h with h; exact h.symm))]
  rfl
 rw [if_neg hf, if_neg hf]
theorem sums_get (Ln : Nat) (rs : List bP) {j : Nat} (hj : j < Ln) : (bZ Ln rs).getD j 0 = allQw rs j := by
 have key : ∀ (rs : List bP) (s : List Rat), j < s.length -> (rs.foldl (fun s r => iY s r.f.toNat r.q) s).getD j 0 = s.getD j 0 + allQw rs j := by
  intro rs
  induction rs with
  | nil => exact fun s _ => (Rat.add_zero _).symm
  | cons r rs ih =>
   intro s hs
   have e2 : allQw (r :: rs) j = (if r.f.toNat = j then r.q else 0) + allQw rs j := by unfold allQw; rw [List.map_cons, sumQ_cons]
   rw [List.foldl_cons, ih _ (by unfold iY; rw [List.length_set]; exact hs), e2, <- Rat.add_assoc]
   congr 1
   unfold iY
   by_cases h : r.f.toNat = j
   ·subst h
    rw [if_pos rfl, gD, List.getElem?_set_self hs]
    rfl
   rw [if_neg h, Rat.add_zero, gD, sN h, <- gD]
 unfold bZ
 rw [key rs _ (by rw [List.length_replicate]; exact hj)]
 have : (List.replicate Ln (0 : Rat)).getD j 0 = 0 := by
  rw [gD, List.getElem?_replicate, if_pos hj]
  rfl
 rw [this, Rat.zero_add]

def sayW (Ln : Nat) (rs : List bP) (sl : List Int) : Rat := (eo (· + ·) Ln rs sl sl.length).getD 0 0
theorem yJ {Ln : Nat} (hL : 1 <= Ln) (rs : List bP) : sayW Ln rs [] = endQw rs 0 := out_end Ln rs [] hL
theorem say_one {L : Int} {Ln : Nat} (hLn : L.toNat = Ln) (hL : 1 <= L) {rs : List bP} (hr : RulesOk L rs) {v : Int} (hv : 1 <= v) : sayW Ln rs [v] = carQw rs (endQw rs) 0 v := by
 show (eP (· + ·) Ln rs [v] (eo (· + ·) Ln rs [v] 0) 0).getD 0 0 = _
 rw [out_in Ln rs [v] _ hv rfl (by omega)]
 exact carQw_congr (fun r hm => out_end Ln rs [v] (by have := hr r hm; omega)) 0 v
theorem say_two {L : Int} {Ln : Nat} (hLn : L.toNat = Ln) (hL : 1 <= L) {rs : List bP} (hr : RulesOk L rs) {v u : Int} (hv : 1 <= v) (hu : 1 <= u) : sayW Ln rs [v, u] = carQw rs (fun i => carQw rs (endQw rs) i u) 0 v := by
 show (eP (· + ·) Ln rs [v, u] (eP (· + ·) Ln rs [v, u] (eo (· + ·) Ln rs [v, u] 0) 1) 0).getD 0 0 = _
 rw [out_in Ln rs [v, u] _ hv rfl (by omega)]
 refine carQw_congr (fun r hm => ?_) 0 v
 have := hr r hm
 rw [out_in Ln rs [v, u] _ hu rfl (by omega)]
 exact carQw_congr (fun r hm => out_end Ln rs [v, u] (by have := hr r hm; omega)) _ u
def shortQ (Ln V : Nat) (rs : List bP) : Rat := sayW Ln rs [] + aQ (fun v => sayW Ln rs [(v : Int) + 1] + aQ (fun u => sayW Ln rs [(v : Int) + 1, (u : Int) + 1]) V) V
theorem short_le {L : Int} {Ln : Nat} (hLn : L.toNat = Ln) (hL : 1 <= L) {rs : List bP} (hr : RulesOk L rs) (hs : ∀ q ∈ bZ Ln rs, q = 1) (V : Nat) : shortQ Ln V rs <= 1 := by
 have h1 : ∀ j, j < Ln -> allQw rs j = 1 := fun j hj => by
  rw [<- sums_get Ln rs hj, gD, eG (by rw [dH]; exact hj)]
  exact hs _ (List.getElem_mem _)
 have hq0 : ∀ r ∈ rs, 0 <= r.q := fun r hm => (hr r hm).2.2.2.2.2
 have sum0 : ∀ (l : List Rat), (∀ q ∈ l, 0 <= q) -> 0 <= bX l := by
  intro l
  induction l with
  | nil => exact fun _ => Rat.le_refl
  | cons x l ih =>
   intro h
   rw [sumQ_cons]
   have := radd_le (h x List.mem_cons_self) (ih (fun q hq => h q (List.mem_cons_of_mem _ hq)))
   rwa [Rat.add_zero] at this
 have e0 : ∀ j, 0 <= endQw rs j := fun j => sum0 _ (fun q hq => by
  obtain ⟨r, hm, rfl⟩ := List.mem_map.1 hq
  split
  ·split
   ·exact hq0 r hm
   exact Rat.le_refl
  exact Rat.le_refl)
 have c0 : ∀ (y : Nat -> Rat), (∀ j, 0 <= y j) -> ∀ j v, 0 <= carQw rs y j v := fun y hy j v => sum0 _ (fun q hq => by
  obtain ⟨r, hm, rfl⟩ := List.mem_map.1 hq
  split
  ·split
   ·exact Rat.mul_nonneg (hq0 r hm) (hy _)
   exact Rat.le_refl
  exact Rat.le_refl)
 have s0 : ∀ (f : Nat -> Rat) (n : Nat), (∀ i, 0 <= f i) -> 0 <= aQ f n := by
  intro f n hf
  induction n with
  | zero => exact Rat.le_refl
  | succ n ih =>
   have := radd_le ih (hf n)
   rwa [Rat.add_zero] at this
 have e1 : ∀ j, j < Ln -> endQw rs j <= 1 := fun j hj => by
  have := e_c (rs := rs) (y := fun _ => 0) (fun r hm => ⟨hq0 r hm, Rat.le_refl, by decide⟩) j 0
  rw [h1 j hj] at this
  have h2 : endQw rs j + 0 <= 1 := this
  rwa [Rat.add_zero] at h2
 have y1 : ∀ j, j < Ln -> endQw rs j + aQ (fun u => carQw rs (endQw rs) j ((u : Int) + 1)) V <= 1 := fun j hj => by
  have := e_c (rs := rs) (y := endQw rs) (fun r hm => ⟨hq0 r hm, e0 _, e1 _ (by have := hr r hm; omega)⟩) j V
  rwa [h1 j hj] at this
 have fin := e_c (rs := rs) (y := fun i => endQw rs i + aQ (fun u => carQw rs (endQw rs) i ((u : Int) + 1)) V) (fun r hm => ⟨hq0 r hm, by
  have := radd_le (e0 r.t.toNat) (s0 (fun u => carQw rs (endQw rs) r.t.toNat ((u : Int) + 1)) V (fun u => c0 _ e0 _ _))
  rwa [Rat.add_zero] at this, y1 _ (by have := hr r hm; omega)⟩) 0 V
 rw [h1 0 (by omega)] at fin
 unfold shortQ
 rw [yJ (by omega)]
 have hcg : ∀ v : Nat, v < V -> sayW Ln rs [(v : Int) + 1] + aQ (fun u => sayW Ln rs [(v : Int) + 1, (u : Int) + 1]) V = carQw rs (fun i => endQw rs i + aQ (fun u => carQw rs (endQw rs) i ((u : Int) + 1)) V) 0 ((v : Int) + 1) := fun v _ => by
  rw [carQw_add, say_one hLn hL hr (by omega), carQw_sum rs (fun u i => carQw rs (endQw rs) i ((u : Int) + 1))]
  congr 1
  exact mB fun u _ => say_two hLn hL hr (by omega) (by omega)
 rw [mB hcg]
 exact fin
end Go.Proofs.YtjebfdfkjlkifaaGreat
