/- Lemmas. -/
import Derived.Test.YtjebfdfkjlkifaaGreatN17
set_option linter.all false
set_option maxRecDepth 1000000
set_option maxHeartbeats 32000000
namespace Go.Proofs.YtjebfdfkjlkifaaGreat
open Go.RowKit
theorem iQ : ∀ a : List Int, bC a a = 0
 | [] => rfl
 | x :: a => by unfold bC; rw [if_pos rfl]; exact iQ a
theorem gr : ∀ a b : List Int, bC b a = - bC a b
 | [], [] => rfl
 | [], _ :: _ => rfl
 | _ :: _, [] => rfl
 | x :: a, y :: b => by
  unfold bC
  by_cases h : x = y
  ·subst h
   rw [if_pos rfl, if_pos rfl]
   exact gr a b
  rw [if_neg h, if_neg (fun e => h e.symm)]
  by_cases h2 : x < y
  ·rw [if_pos h2, if_neg (by omega)]; rfl
  rw [if_neg h2, if_pos (by omega)]
theorem pm : ∀ {a b : List Int}, bC a b = 0 -> a = b
 | [], [], _ => rfl
 | [], _ :: _, h => by cases h
 | _ :: _, [], h => by cases h
 | x :: a, y :: b, h => by
  unfold bC at h
  by_cases e : x = y
  ·rw [if_pos e] at h
   rw [e, pm h]
  rw [if_neg e] at h
  split at h <;> cases h
theorem gT : ∀ {a b c : List Int}, bC a b < 0 -> bC b c < 0 -> bC a c < 0
 | [], [], _, h, _ => by unfold bC at h; omega
 | [], _ :: _, [], _, h => by unfold bC at h; omega
 | [], _ :: _, _ :: _, _, _ => by unfold bC; omega
 | _ :: _, [], _, h, _ => by unfold bC at h; omega
 | _ :: _, _ :: _, [], _, h => by unfold bC at h; omega
 | x :: a, y :: b, z :: c, h, k => by
  unfold bC at h k ⊢
  by_cases h1 : x = y
  ·rw [if_pos h1] at h
   by_cases h2 : y = z
   ·rw [if_pos h2] at k
    rw [if_pos (h1.trans h2)]
    exact gT h k
   rw [if_neg h2] at k
   rw [if_neg (fun e => h2 (h1.symm.trans e))]
   split at k
   ·rw [if_pos (by omega)]; omega
   omega
  rw [if_neg h1] at h
  split at h
  ·by_cases h2 : y = z
   ·rw [if_neg (by omega), if_pos (by omega)]; omega
   rw [if_neg h2] at k
   split at k
   ·rw [if_neg (by omega), if_pos (by omega)]; omega
   omega
  omega
theorem tQ {a b : List Int} : ¬ bC a b < 0 ↔ bC b a < 0 ∨ a = b := by
 constructor
 ·intro h
  by_cases h2 : bC a b = 0
  ·exact .inr (pm h2)
  exact .inl (by rw [gr]; omega)
 rintro (h | rfl)
 ·rw [gr] at h; omega
 rw [iQ]; omega
theorem nE {a b c : List Int} (h : ¬ bC a b < 0) (k : ¬ bC b c < 0) : ¬ bC a c < 0 := by
 rw [tQ] at h k ⊢
 rcases h with h | rfl
 ·rcases k with k | rfl
  ·exact .inl (gT k h)
  exact .inl h
 exact k
end Go.Proofs.YtjebfdfkjlkifaaGreat
