/- DecodeNil: a call with a list that nobody reads. -/
import Derived.Test.YtlhankdkhiilkaaGreatI44
set_option linter.unusedSimpArgs false
set_option linter.unusedVariables false
set_option linter.unusedSectionVars false
set_option linter.unnecessarySimpa false
namespace Go.Proofs.YtlhankdkhiilkaaGreat
open Go.RowKit
def saysT : Option (AV × St) → Bool
 | some (.b true, _) => true
 | _ => false
theorem laidD : laidOutB Tryz.prog = true := by kernel_rfl
theorem mixedD : Tryz.prog.follows .mixedOrders = true := by kernel_rfl
theorem evalNil : saysT ((Ev.at_ Tryz.prog envD 100000).call 3 [.nat 0] ⟨.nil, 1⟩) = true := by decide +kernel
theorem decodeNilG (w : World) (A : Option Addr) (m c : Nat) : Calls Tryz.prog 3 #[.slice A m c] w fun e w' => e = .returned (.bool true) ∧ Below w.heap.size w w' := by
 have h := evalNil
 generalize hx : (Ev.at_ Tryz.prog envD 100000).call 3 [.nat 0] ⟨.nil, 1⟩ = x at h
 match x, h with
 | some (.b true, s'), _ =>
  have h1 := ((at_ok laidD mixedD methD_ok orcD_env 100000).call hx).2 (μ := fun o => if o = 0 then some (.val A m c) else none) (w := w) (vs := [.slice A m c]) 10
   ⟨fun o x e => (by cases e), fun o o' x x' p p' e => (by cases e), fun o n A m c o' x' p' e => (by cases e), fun o _ => rfl⟩
   (VRs.cons (by simp only [VR]; exact ⟨A, m, c, rfl, rfl⟩) VRs.nil_) (fun o ho _ => if_neg (by have : 1 ≤ o := ho; omega))
  refine (callsIn_wide.1 h1).mono ?_
  rintro e w' ⟨v', μ', rfl, r, t, hv⟩
  simp only [VR] at hv
  subst hv
  exact ⟨rfl, t.os, t.tape, t.output, t.size, fun g hg => t.blk g hg fun o x p e => (by cases e)⟩
end Go.Proofs.YtlhankdkhiilkaaGreat
