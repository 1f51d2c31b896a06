/- Lemmas. -/
import Derived.Test.YtjebfdfkjlkifaaGreatN36
set_option linter.all false
set_option maxRecDepth 1000000
set_option maxHeartbeats 32000000
namespace Go.Proofs.YtjebfdfkjlkifaaGreat
open Go.RowKit
theorem IntsAt.cut {w : World} {A : Option Addr} {n c k m : Nat} {l : List Int} (h : IntsAt w (.slice A n c) l) (hl : l.length = n) (hk : k <= n) (hm : m = n - k) : IntsAt w (.slice (A.map fun x => x.add k) m (c - k)) (l.drop k) := by
 subst hm
 obtain ⟨A', c', e, hc, hcm, hat⟩ := h.open_
 have hA : A = A' /\ n = l.length /\ c = c' := by cases e; exact ⟨rfl, rfl, rfl⟩
 obtain ⟨rfl, _, rfl⟩ := hA
 clear e
 rcases zP n with h0 | h0
 ·have hd : l.drop k = [] := List.eq_nil_of_length_eq_zero (by rw [List.length_drop]; omega)
  unfold IntsAt
  rw [hd]
  exact Sl.none' _ _ _ _ _ _ (by omega) rfl (by unfold maxLen; omega)
 obtain ⟨y, hy⟩ : ∃ y, l[0]? = some y := ⟨_, eG (by omega)⟩
 obtain ⟨b, o, rfl, _, _⟩ := hat 0 y hy
 unfold IntsAt at h ⊢
 rw [hl] at h
 have := Sl.tail (k := k) h hk
 rw [List.length_drop, hl, List.map_drop]
 have e : (⟨b, o, none⟩ : Addr).add k = ⟨b, o + k, none⟩ := by unfold Addr.add; split <;> simp_all
 rw [Option.map_some, e]
 simpa using this
theorem IntsAt.none_ {w : World} {A : Option Addr} {c : Nat} (hc : c <= 9223372036854775807) : IntsAt w (.slice A 0 c) [] := by
 unfold IntsAt
 exact Sl.none' _ _ _ _ _ _ rfl rfl (by unfold maxLen; omega)
end Go.Proofs.YtjebfdfkjlkifaaGreat
