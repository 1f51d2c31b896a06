/- Lemmas on the way: Shl, Eo5. -/
import Derived.Test.YtlhankdkhiilkaaGreatI43
set_option linter.unusedSimpArgs false
set_option linter.unusedVariables false
set_option linter.unusedSectionVars false
set_option linter.unnecessarySimpa false
namespace Go.Proofs
open Go.Shelf
def Tryz.lays125_ren : Go.Shelf.Ren := ⟨fun | 125 => 86 | 128 => 118 | 129 => 119 | n => n, fun | 51 => 154 | 53 => 148 | 3 => 3 | 4 => 4 | 46 => 168 | 5 => 5 | 9 => 9 | n => n, fun | n => n⟩
theorem Tryz.lays125 : Go.Proofs.Lays.n125 Tryz.prog Tryz.lays125_ren := {
 mixed := by kernel_rfl
 f125 := Tryz.func86.trans (congrArg some (by kernel_rfl))
 f128 := Tryz.func118.trans (congrArg some (by kernel_rfl))
 f129 := Tryz.func119.trans (congrArg some (by kernel_rfl))
 t3 := Tryz.underlying3
 a3 := Tryz.isAgg3
 z3 := Tryz.sizeOf3
 v3 := Tryz.zeroValue3
 t4 := Tryz.underlying4
 a4 := Tryz.isAgg4
 z4 := Tryz.sizeOf4
 v4 := Tryz.zeroValue4
 t5 := Tryz.underlying5
 a5 := Tryz.isAgg5
 z5 := Tryz.sizeOf5
 v5 := Tryz.zeroValue5
 t9 := Tryz.underlying9
 a9 := Tryz.isAgg9
 z9 := Tryz.sizeOf9
 v9 := Tryz.zeroValue9
 t46 := Tryz.underlying168
 a46 := Tryz.isAgg168
 z46 := Tryz.sizeOf168
 v46 := Tryz.zeroValue168
 t51 := Tryz.underlying154
 a51 := Tryz.isAgg154
 z51 := Tryz.sizeOf154
 v51 := Tryz.zeroValue154
 t53 := Tryz.underlying148
 a53 := Tryz.isAgg148
 z53 := Tryz.sizeOf148
 v53 := Tryz.zeroValue148 }
theorem Tryz.bits_Len (x : Int) (w : World) (h0 : 0 ≤ x) (h1 : x ≤ 18446744073709551615) :
  Calls Tryz.prog 86 #[.int .u64 x] w fun e w' => e = .returned (.int .i64 (Lib.bitLen x.toNat)) ∧ w' = w := Any.bits_Len Tryz.lays125 x w h0 h1
end Go.Proofs
namespace Go.Proofs.YtlhankdkhiilkaaGreat
open Go.RowKit
def orcD : List (FuncId × (List AV → St → Option (AV × St))) :=
 [(56, bin2A (· + ·)), (14, bin2A (· * ·)), (83, ofA), (11, canonA), (13, signA), (16, cmpA), (34, prodA), (129, distrA),
  (29, makeA), (53, ofA), (23, sameA), (127, gcheckA), (69, growAdd), (86, bitsA)]
theorem orcD_ok : ∀ p ∈ orcD, Answers Tryz.prog p.1 p.2 := by
 unfold orcD
 simp only [List.forall_mem_cons]
 refine ⟨?_, ?_, ?_, ?_, ?_, ?_, ?_, ?_, ?_, ?_, ?_, ?_, ?_, ?_, ?_⟩
 ·exact bin2_ok (by kernel_rfl) _ fun w v v' q r h h' => addF w v v' q r 512 h h' kbits (by omega)
 ·exact bin2_ok (by kernel_rfl) _ fun w v v' q r h h' => mulF w v v' q r 512 h h' kbits (by omega)
 ·exact of_ok (by kernel_rfl) ofN
 ·exact canon_ok (by kernel_rfl) fun w v q h => canon w v q 512 h kbits (by omega)
 ·exact sign_ok (by kernel_rfl) fun w v q h => signF w v q 512 h kbits (by omega)
 ·exact cmp_ok (by kernel_rfl) fun w v v' q r h h' => cmpF w v v' q r 512 h h' kbits (by omega)
 ·exact prod_ok (by kernel_rfl) fun w v qs h hl => prodF w 512 v qs h kbits (by omega)
 ·exact distr_ok (by kernel_rfl) fun w v qs h hl => distributionF w 512 v qs h kbits (by omega)
 ·exact make_ok (by kernel_rfl) makeR
 ·exact of_ok (by kernel_rfl) ofR
 ·exact same_ok (by kernel_rfl) sameR
 ·exact gcheck_ok (by kernel_rfl) checkLG
 ·exact growAdd_ok (by kernel_rfl) rowAdded
 ·exact bits_ok (by kernel_rfl) Tryz.bits_Len
 ·intro p h; cases h
def envD : Env := ⟨fun f => pick f orcD, fun _ _ => none⟩
theorem orcD_env : OrcOk Tryz.prog envD := fun {f g} h => pick_ok orcD_ok h
theorem methD_ok : MethOk Tryz.prog envD := by
 intro t m f via h
 cases h
end Go.Proofs.YtlhankdkhiilkaaGreat
