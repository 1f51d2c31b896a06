/- Lemmas. -/
import Derived.Test.YtjebfdfkjlkifaaGreatN27
set_option linter.all false
set_option maxRecDepth 1000000
set_option maxHeartbeats 32000000
namespace Go.Proofs.YtjebfdfkjlkifaaGreat
open Go.RowKit
def rowT (join : Rat -> Rat -> Rat) (Ln : Nat) (rs : List bP) (sl : List Int) (t : Nat) : List Rat := eo join Ln rs sl (sl.length - t)
def nxtT (join : Rat -> Rat -> Rat) (Ln : Nat) (rs : List bP) (sl : List Int) (t : Nat) : List Rat := if t < sl.length then rowT join Ln rs sl (t + 1) else []
theorem rowT_eq (join : Rat -> Rat -> Rat) (Ln : Nat) (rs : List bP) (sl : List Int) {t : Nat} (ht : t <= sl.length) : rowT join Ln rs sl t = eP join Ln rs sl (nxtT join Ln rs sl t) t := by
 unfold nxtT
 by_cases h : t < sl.length
 ·rw [if_pos h]
  obtain ⟨g, hg⟩ : ∃ g, sl.length - t = g + 1 := ⟨sl.length - t - 1, by omega⟩
  unfold rowT
  rw [hg, show sl.length - (t + 1) = g by omega]
  show eP join Ln rs sl _ (sl.length - (g + 1)) = _
  rw [show sl.length - (g + 1) = t by omega]
 rw [if_neg h]
 unfold rowT
 rw [show sl.length - t = 0 by omega]
 show eP join Ln rs sl [] sl.length = _
 rw [show t = sl.length by omega]
theorem rowStep_get (join : Rat -> Rat -> Rat) (sl : List Int) (rest : List Rat) (t : Nat) (out : List Rat) (r : bP) {j : Nat} (hj : j < out.length) :
  (dZ join sl rest t out r).getD j 0 = if r.f.toNat = j then (match eM sl rest t r with | some q => join (out.getD j 0) q | none => out.getD j 0) else out.getD j 0 := by
 unfold dZ
 cases eM sl rest t r with
 | none => simp
 | some q =>
  simp only
  by_cases h : r.f.toNat = j
  ·subst h
   rw [if_pos rfl, gD, List.getElem?_set_self hj]
   rfl
  rw [if_neg h, gD, sN h, <- gD]

def colF (join : Rat -> Rat -> Rat) (sl : List Int) (rest : List Rat) (t j : Nat) (a : Rat) (rs : List bP) : Rat := rs.foldl (fun a r => if r.f.toNat = j then (match eM sl rest t r with | some q => join a q | none => a) else a) a
theorem rowL_col (join : Rat -> Rat -> Rat) {Ln : Nat} (rs : List bP) (sl : List Int) (rest : List Rat) (t : Nat) {j : Nat} (hj : j < Ln) : (eP join Ln rs sl rest t).getD j 0 = colF join sl rest t j 0 rs := by
 have key : ∀ (rs : List bP) (out : List Rat), j < out.length -> (rs.foldl (dZ join sl rest t) out).getD j 0 = colF join sl rest t j (out.getD j 0) rs := by
  intro rs
  induction rs with
  | nil => intro out _; rfl
  | cons r rs ih =>
   intro out h
   rw [List.foldl_cons, ih _ (by rw [jp]; exact h), rowStep_get _ _ _ _ _ _ h]
   rfl
 unfold eP
 rw [key rs _ (by rw [List.length_replicate]; exact hj)]
 congr 1
 rw [gD, List.getElem?_replicate, if_pos hj]
 rfl
def RelR (o p : List Rat) : Prop := o.length = p.length /\ ∀ j, 0 <= o.getD j 0 /\ o.getD j 0 <= p.getD j 0 /\ (o.getD j 0 = 0 -> p.getD j 0 = 0)
theorem RelR.nil_ (n : Nat) : RelR (List.replicate n 0) (List.replicate n 0) := ⟨rfl, fun j => by
 have : (List.replicate n (0 : Rat)).getD j 0 = 0 := by
  rw [gD, List.getElem?_replicate]
  split <;> rfl
 rw [this]
 exact ⟨Rat.le_refl, Rat.le_refl, fun h => h⟩⟩
def ruleN (rs : List bP) (z : Int) : bP := rs.getD z.toNat ⟨0, 0, 0, 0⟩
def derN (rs : List bP) (l : List Int) : Nat -> Option (List Int × Rat × Int)
 | 0 => some ([], 1, 0)
 | j + 1 => match derN rs l j with
  | none => none
  | some a => if (0 <= l.getD j 0 /\ l.getD j 0 < rs.length) /\ (ruleN rs (l.getD j 0)).f = a.2.2 /\ ((ruleN rs (l.getD j 0)).w = 0 ↔ j + 1 = l.length) then
    some (if 0 < (ruleN rs (l.getD j 0)).w then a.1 ++ [(ruleN rs (l.getD j 0)).w] else a.1, a.2.1 * (ruleN rs (l.getD j 0)).q, (ruleN rs (l.getD j 0)).t) else none
def deriveQ (rs : List bP) (l : List Int) : Option (List Int × Rat × Int) := if l.length = 0 then none else derN rs l l.length
theorem derN_step {rs : List bP} {l : List Int} {j : Nat} {b : List Int × Rat × Int} (h : derN rs l (j + 1) = some b) : ∃ a r, derN rs l j = some a /\ ruleN rs (l.getD j 0) = r /\ 0 <= l.getD j 0 /\ l.getD j 0 < rs.length /\ r ∈ rs /\ r.f = a.2.2 /\ (r.w = 0 ↔ j + 1 = l.length) /\
  b = (if 0 < r.w then a.1 ++ [r.w] else a.1, a.2.1 * r.q, r.t) := by
 have h' : (match derN rs l j with
  | none => none
  | some a => if (0 <= l.getD j 0 /\ l.getD j 0 < rs.length) /\ (ruleN rs (l.getD j 0)).f = a.2.2 /\ ((ruleN rs (l.getD j 0)).w = 0 ↔ j + 1 = l.length) then
    some (if 0 < (ruleN rs (l.getD j 0)).w then a.1 ++ [(ruleN rs (l.getD j 0)).w] else a.1, a.2.1 * (ruleN rs (l.getD j 0)).q, (ruleN rs (l.getD j 0)).t) else none) = some b := h
 cases ha : derN rs l j with
 | none => rw [ha] at h'; cases h'
 | some a =>
  rw [ha] at h'
  simp only at h'
  split at h'
  ·next hc =>
   refine ⟨a, _, rfl, rfl, hc.1.1, hc.1.2, ?_, hc.2.1, hc.2.2, by injection h' with h'; exact h'.symm⟩
   unfold ruleN
   have hl : (l.getD j 0).toNat < rs.length := by have := hc.1; omega
   rw [gD, eG hl]
   exact List.getElem_mem _
  cases h'
theorem derN_none {rs : List bP} {l : List Int} {j : Nat} (h : derN rs l j = none) : ∀ k, j <= k -> derN rs l k = none := by
 intro k hk
 obtain ⟨d, rfl⟩ : ∃ d, k = j + d := ⟨k - j, by omega⟩
 clear hk
 induction d with
 | zero => exact h
 | succ d ih =>
  show (match derN rs l (j + d) with
   | none => none
   | some a => _) = none
  rw [ih]

def RulesOk (L : Int) (rs : List bP) : Prop := ∀ r ∈ rs, 0 <= r.f /\ r.f < L /\ 0 <= r.t /\ r.t < L /\ 0 <= r.w /\ 0 <= r.q
end Go.Proofs.YtjebfdfkjlkifaaGreat
