/- Lemmas on the way: CmL. -/
import Derived.Test.YtjebfdfkjlkifaaGreatC16
set_option linter.unusedSimpArgs false
set_option linter.unusedVariables false
set_option linter.unusedSectionVars false
set_option linter.unnecessarySimpa false
namespace Go.Proofs.YtjebfdfkjlkifaaGreat
open Go.RowKit
theorem cmpL_self : ∀ a : List Int, cmpL a a = 0
 | [] => rfl
 | x :: a => by unfold cmpL; rw [if_pos rfl]; exact cmpL_self a
theorem cmpL_swap : ∀ a b : List Int, cmpL b a = - cmpL a b
 | [], [] => rfl
 | [], _ :: _ => rfl
 | _ :: _, [] => rfl
 | x :: a, y :: b => by
  unfold cmpL
  by_cases h : x = y
  ·subst h
   rw [if_pos rfl, if_pos rfl]
   exact cmpL_swap a b
  ·rw [if_neg h, if_neg (fun e => h e.symm)]
   by_cases h2 : x < y
   ·rw [if_pos h2, if_neg (by omega)]; rfl
   ·rw [if_neg h2, if_pos (by omega)]
theorem cmpL_eq : ∀ {a b : List Int}, cmpL a b = 0 → a = b
 | [], [], _ => rfl
 | [], _ :: _, h => by cases h
 | _ :: _, [], h => by cases h
 | x :: a, y :: b, h => by
  unfold cmpL at h
  by_cases e : x = y
  ·rw [if_pos e] at h
   rw [e, cmpL_eq h]
  ·rw [if_neg e] at h
   split at h <;> cases h
theorem cmpL_trans : ∀ {a b c : List Int}, cmpL a b < 0 → cmpL b c < 0 → cmpL a c < 0
 | [], [], _, h, _ => by unfold cmpL at h; omega
 | [], _ :: _, [], _, h => by unfold cmpL at h; omega
 | [], _ :: _, _ :: _, _, _ => by unfold cmpL; omega
 | _ :: _, [], _, h, _ => by unfold cmpL at h; omega
 | _ :: _, _ :: _, [], _, h => by unfold cmpL at h; omega
 | x :: a, y :: b, z :: c, h, k => by
  unfold cmpL at h k ⊢
  by_cases h1 : x = y
  ·rw [if_pos h1] at h
   by_cases h2 : y = z
   ·rw [if_pos h2] at k
    rw [if_pos (h1.trans h2)]
    exact cmpL_trans h k
   ·rw [if_neg h2] at k
    rw [if_neg (fun e => h2 (h1.symm.trans e))]
    split at k
    ·rw [if_pos (by omega)]; omega
    ·omega
  ·rw [if_neg h1] at h
   split at h
   ·by_cases h2 : y = z
    ·rw [if_neg (by omega), if_pos (by omega)]; omega
    ·rw [if_neg h2] at k
     split at k
     ·rw [if_neg (by omega), if_pos (by omega)]; omega
     ·omega
   ·omega
theorem cmpL_not {a b : List Int} : ¬ cmpL a b < 0 ↔ cmpL b a < 0 ∨ a = b := by
 constructor
 ·intro h
  by_cases h2 : cmpL a b = 0
  ·exact .inr (cmpL_eq h2)
  ·exact .inl (by rw [cmpL_swap]; omega)
 ·rintro (h | rfl)
  ·rw [cmpL_swap] at h; omega
  ·rw [cmpL_self]; omega
theorem cmpL_ntrans {a b c : List Int} (h : ¬ cmpL a b < 0) (k : ¬ cmpL b c < 0) : ¬ cmpL a c < 0 := by
 rw [cmpL_not] at h k ⊢
 rcases h with h | rfl
 ·rcases k with k | rfl
  ·exact .inl (cmpL_trans k h)
  ·exact .inl h
 ·exact k
end Go.Proofs.YtjebfdfkjlkifaaGreat
