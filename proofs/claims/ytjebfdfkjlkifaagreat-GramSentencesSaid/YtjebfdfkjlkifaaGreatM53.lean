/- GramSentences: for all language models and sentences the law returns true, and its arguments read as before. No condition. -/
import Derived.Test.YtjebfdfkjlkifaaGreatRows
import Derived.Test.YtjebfdfkjlkifaaGreatM52
import Derived.ProofKit
import Derived.OpenShut
import Derived.ChangeOld
import Derived.Test.YtjebfdfkjlkifaaGreatM41
set_option linter.all false
set_option maxRecDepth 1000000
set_option maxHeartbeats 32000000
namespace Go.Proofs.YtjebfdfkjlkifaaGreat
open Go.RowKit
section
open Go.ChangeShapes Go.WideShapes Go.ChangeAt
theorem laidGS : laidOutB Tryz.prog = true := by kernel_rfl
theorem lift9 (os : Os) (started : os.Started) (H : Type) (enc : TypeId × Value -> H) :
  ReturnsInHanded {} Tryz.checked os 10 .any (Rows.gramSentencesSpec.pre6 enc Tryz.prog Tryz.f10 Rows.gramSentencesRow.domain false) (Rows.gramSentencesSpec.post enc Tryz.prog Tryz.f10 false true false false) := by
 refine returnsInHanded_of_change (C := Tryz.checked) (by kernel_rfl) started (by kernel_rfl) Tryz.func10
  (ChangeSpec.witness6 (enc := enc) (C := Tryz.checked) false ⟨#[], #[.agg #[.int .i64 0, .int .i64 0, .slice none 0 0, .int .i64 0, .bool false, .slice none 0 0, .slice none 0 0, .slice none 0 0], .slice none 0 0, .slice none 0 0], []⟩ 8 (by kernel_rfl) (by kernel_rfl) (by kernel_rfl) (by kernel_rfl)) ?_
 intro W base args ds gs before hval0 hW _ _
 have hval : ∀ (j : Nat) t v, Tryz.f10.params[j]? = some t -> args[j]? = some v -> Value.okWide Tryz.prog W .any base t v := hval0
 have hW' := hW
 obtain ⟨p, q, hA0, hV, rfl, hfz, hnd⟩ := hW
 have hA : DataW.TrodAll enc Tryz.prog W 0 (fun _ => true) true Tryz.f10.params.toList args.toList ds p := hA0
 rw [Tryz.params10] at hA hval
 obtain ⟨v0, vs0, d0, ds0, p0, q0, hargs, rfl, rfl, h0, r0⟩ := trodAll_cons hA
 obtain ⟨v1, vs1, d1, ds1, p1, q1, rfl, rfl, rfl, h1, r1⟩ := trodAll_cons r0
 obtain ⟨v2, vs2, d2, ds2, p2, q2, rfl, rfl, rfl, h2, r2⟩ := trodAll_cons r1
 obtain ⟨rfl, rfl, rfl⟩ := trodAll_nil r2
 obtain rfl : args = #[v0, v1, v2] := by cases args; simp_all
 obtain ⟨rfl, rfl⟩ := trodVars_none hV
 obtain ⟨_, _, _, _, _, _, _, _, _, _, _, _, _, _, _, _, _, rfl, _, hg, ha, hm, hO⟩ := qe (hval 0 43 v0 rfl rfl) h0
 obtain ⟨_, _, _, rfl⟩ := okWide_slice Tryz.underlying44 (hval 1 44 v1 rfl rfl)
 obtain ⟨_, _, _, rfl⟩ := okWide_slice Tryz.underlying44 (hval 2 44 v2 rfl rfl)
 obtain ⟨x, hx⟩ := h1.elim fun m hm => kR (by simpa [Value.cells] using hm)
 obtain ⟨y, hy⟩ := h2.elim fun m hm => kR (by simpa [Value.cells] using hm)
 clear hA0 hval0
 refine (xM wy W _ _ _ _ _ _ _ _ _ _ _ _ _ _ _ _ _ _ x _ y hg ha hm hx hy hO).mono fun e W' ⟨he, bel⟩ => ?_
 subst he
 exact ⟨_, rfl, _, _, _, [], _, [], hW', trodAll_mk1 (shut_bool Tryz.underlying4 _), (trodAll_cons_mk (Below.trod laidGS (by kernel_rfl) (of_decide_eq_true (by kernel_rfl)) h0 bel (h0.elim fun m hm => DataW.trod_lt m _ _ _ hm)) (trodAll_cons_mk (Below.trod laidGS (by kernel_rfl) (of_decide_eq_true (by kernel_rfl)) h1 bel (h1.elim fun m hm => DataW.trod_lt m _ _ _ hm)) (trodAll_cons_mk (Below.trod laidGS (by kernel_rfl) (of_decide_eq_true (by kernel_rfl)) h2 bel (h2.elim fun m hm => DataW.trod_lt m _ _ _ hm)) trodAll_mk0))), rfl, bel.frame _, fun h => by cases h⟩
theorem gramSentences_holds : Rows.GramSentencesSaid :=
 OpenClaim.holds_of_wide 10 Tryz.f10 rfl rfl rfl rfl rfl rfl rfl ⟨rfl, rfl, rfl, rfl, rfl⟩ rfl rfl rfl rfl rfl (by kernel_rfl) Tryz.func10 (by kernel_rfl)
  (of_decide_eq_true (by kernel_rfl)) (by unfold Func.isWrapper; first | (rw [if_pos (by decide +kernel)]; kernel_rfl) | (rw [if_neg (by decide +kernel)]; exact ⟨rfl, rfl⟩))
  (fun os started H enc _ => lift9 os started H enc)
end
end Go.Proofs.YtjebfdfkjlkifaaGreat
