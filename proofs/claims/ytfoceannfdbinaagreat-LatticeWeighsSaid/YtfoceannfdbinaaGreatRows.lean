/-
  No cell of these rows narrows 'for every input' (looked for: loops, veiled, ifaces, maps, wideKeys, modest, calm, conditions, laid).
  DERIVED. THE GIVEN ROWS OF THIS SEAT. 12 by the template 'for every input the law returns true; each argument reads behind the call as it read before'; 0 by the template 'total and deterministic' (their statements: YtfoceannfdbinaaGreatTotals.lean).
  GIVEN WITH THE SEED: the statements are not yours to turn. If you find one false, say at which input.
  Laid BY PROGRAM, IN A SANDBOX (cutbox-rows.mjs): the forced cells as the released guide's own fill.sh prints them over the translation 4b419fa7417320fb… (all of the seat's roots in one cut). By AI agents, Wed Nov 11 2026. No macro, syntax, notation, axiom, sorry.
-/
import Derived.Test.YtfoceannfdbinaaGreatChecked
import GoSem.Claim
import GoSem.ClaimJoined
import GoSem.ClaimMapViews
import Derived.JoinedTies
import Derived.KernelRfl
namespace Go.Proofs.YtfoceannfdbinaaGreat
/- THE CELL 'sum', in the pinned program and in every row, IS THE sha256 OF THE DUMP (.gsa) THAT YtfoceannfdbinaaGreatProg.lean LOADS. Nothing in Lean hashes anything: it is a label: what it is worth is what the hold of that sum in a sandbox is worth. -/
noncomputable def Tryz.pinned : Pinned := { name := "ytfoceannfdbinaagreat", sum := "4b419fa7417320fbda1c28dad49e3ee0d5f1c52f2c08b79a1a862ff4f155776e", checked := Tryz.checked }
namespace Rows
def none {H : Type} : Left H := { results := [], args := [] }

/-- 'earshotlaw08.LatticeParts': WHATEVER THE INPUT: true; the input reads as it did. -/
def latticePartsSpec : ChangeSpec := { name := "latticeParts", fn := fun _ => fun
  | [d1, d2] => { results := [.lit (.bool true)], args := [d1, d2] }
  | _ => none }
def latticePartsRow : OpenClaim := { program := "ytfoceannfdbinaagreat", sum := "4b419fa7417320fbda1c28dad49e3ee0d5f1c52f2c08b79a1a862ff4f155776e", func := "earshot/earshotlaw08.LatticeParts", spec := "latticeParts", unfollowed := true, recurses := true, plainKeys := false, apart := false }
def LatticePartsSaid : Prop := latticePartsRow.holds Tryz.pinned (OpenSpec.ofChange latticePartsSpec)

/-- ITS FALSE NEIGHBOUR: 'it returns false'. Refute it at one input. -/
def latticePartsWrong : ChangeSpec := { name := "latticeParts", fn := fun _ => fun
  | [d1, d2] => { results := [.lit (.bool false)], args := [d1, d2] }
  | _ => none }
def LatticePartsWrongFalsely : Prop := latticePartsRow.holds Tryz.pinned (OpenSpec.ofChange latticePartsWrong)

/-- 'earshotlaw08.LatticeScales': WHATEVER THE INPUT: true; the input reads as it did. -/
def latticeScalesSpec : ChangeSpec := { name := "latticeScales", fn := fun _ => fun
  | [d1, d2, d3, d4] => { results := [.lit (.bool true)], args := [d1, d2, d3, d4] }
  | _ => none }
def latticeScalesRow : OpenClaim := { program := "ytfoceannfdbinaagreat", sum := "4b419fa7417320fbda1c28dad49e3ee0d5f1c52f2c08b79a1a862ff4f155776e", func := "earshot/earshotlaw08.LatticeScales", spec := "latticeScales", unfollowed := true, recurses := true, plainKeys := false, apart := false }
def LatticeScalesSaid : Prop := latticeScalesRow.holds Tryz.pinned (OpenSpec.ofChange latticeScalesSpec)

/-- ITS FALSE NEIGHBOUR: 'it returns false'. Refute it at one input. -/
def latticeScalesWrong : ChangeSpec := { name := "latticeScales", fn := fun _ => fun
  | [d1, d2, d3, d4] => { results := [.lit (.bool false)], args := [d1, d2, d3, d4] }
  | _ => none }
def LatticeScalesWrongFalsely : Prop := latticeScalesRow.holds Tryz.pinned (OpenSpec.ofChange latticeScalesWrong)

/-- 'earshotlaw08.LatticeRoutes': WHATEVER THE INPUT: true; the input reads as it did. -/
def latticeRoutesSpec : ChangeSpec := { name := "latticeRoutes", fn := fun _ => fun
  | [d1, d2, d3] => { results := [.lit (.bool true)], args := [d1, d2, d3] }
  | _ => none }
def latticeRoutesRow : OpenClaim := { program := "ytfoceannfdbinaagreat", sum := "4b419fa7417320fbda1c28dad49e3ee0d5f1c52f2c08b79a1a862ff4f155776e", func := "earshot/earshotlaw08.LatticeRoutes", spec := "latticeRoutes", unfollowed := true, recurses := true, plainKeys := false, apart := false }
def LatticeRoutesSaid : Prop := latticeRoutesRow.holds Tryz.pinned (OpenSpec.ofChange latticeRoutesSpec)

/-- ITS FALSE NEIGHBOUR: 'it returns false'. Refute it at one input. -/
def latticeRoutesWrong : ChangeSpec := { name := "latticeRoutes", fn := fun _ => fun
  | [d1, d2, d3] => { results := [.lit (.bool false)], args := [d1, d2, d3] }
  | _ => none }
def LatticeRoutesWrongFalsely : Prop := latticeRoutesRow.holds Tryz.pinned (OpenSpec.ofChange latticeRoutesWrong)

/-- 'earshotlaw08.LatticeBeams': WHATEVER THE INPUT: true; the input reads as it did. -/
def latticeBeamsSpec : ChangeSpec := { name := "latticeBeams", fn := fun _ => fun
  | [d1, d2, d3] => { results := [.lit (.bool true)], args := [d1, d2, d3] }
  | _ => none }
def latticeBeamsRow : OpenClaim := { program := "ytfoceannfdbinaagreat", sum := "4b419fa7417320fbda1c28dad49e3ee0d5f1c52f2c08b79a1a862ff4f155776e", func := "earshot/earshotlaw08.LatticeBeams", spec := "latticeBeams", unfollowed := true, recurses := true, plainKeys := false, apart := false }
def LatticeBeamsSaid : Prop := latticeBeamsRow.holds Tryz.pinned (OpenSpec.ofChange latticeBeamsSpec)

/-- ITS FALSE NEIGHBOUR: 'it returns false'. Refute it at one input. -/
def latticeBeamsWrong : ChangeSpec := { name := "latticeBeams", fn := fun _ => fun
  | [d1, d2, d3] => { results := [.lit (.bool false)], args := [d1, d2, d3] }
  | _ => none }
def LatticeBeamsWrongFalsely : Prop := latticeBeamsRow.holds Tryz.pinned (OpenSpec.ofChange latticeBeamsWrong)

/-- 'earshotlaw08.LatticeKeeps': WHATEVER THE INPUT: true; the input reads as it did. -/
def latticeKeepsSpec : ChangeSpec := { name := "latticeKeeps", fn := fun _ => fun
  | [d1, d2, d3] => { results := [.lit (.bool true)], args := [d1, d2, d3] }
  | _ => none }
def latticeKeepsRow : OpenClaim := { program := "ytfoceannfdbinaagreat", sum := "4b419fa7417320fbda1c28dad49e3ee0d5f1c52f2c08b79a1a862ff4f155776e", func := "earshot/earshotlaw08.LatticeKeeps", spec := "latticeKeeps", unfollowed := true, recurses := true, plainKeys := false, apart := false }
def LatticeKeepsSaid : Prop := latticeKeepsRow.holds Tryz.pinned (OpenSpec.ofChange latticeKeepsSpec)

/-- ITS FALSE NEIGHBOUR: 'it returns false'. Refute it at one input. -/
def latticeKeepsWrong : ChangeSpec := { name := "latticeKeeps", fn := fun _ => fun
  | [d1, d2, d3] => { results := [.lit (.bool false)], args := [d1, d2, d3] }
  | _ => none }
def LatticeKeepsWrongFalsely : Prop := latticeKeepsRow.holds Tryz.pinned (OpenSpec.ofChange latticeKeepsWrong)

/-- 'earshotlaw08.LatticeWeighs': WHATEVER THE INPUT: true; the input reads as it did. -/
def latticeWeighsSpec : ChangeSpec := { name := "latticeWeighs", fn := fun _ => fun
  | [d1, d2, d3] => { results := [.lit (.bool true)], args := [d1, d2, d3] }
  | _ => none }
def latticeWeighsRow : OpenClaim := { program := "ytfoceannfdbinaagreat", sum := "4b419fa7417320fbda1c28dad49e3ee0d5f1c52f2c08b79a1a862ff4f155776e", func := "earshot/earshotlaw08.LatticeWeighs", spec := "latticeWeighs", unfollowed := true, recurses := true, plainKeys := false, apart := false }
def LatticeWeighsSaid : Prop := latticeWeighsRow.holds Tryz.pinned (OpenSpec.ofChange latticeWeighsSpec)

/-- ITS FALSE NEIGHBOUR: 'it returns false'. Refute it at one input. -/
def latticeWeighsWrong : ChangeSpec := { name := "latticeWeighs", fn := fun _ => fun
  | [d1, d2, d3] => { results := [.lit (.bool false)], args := [d1, d2, d3] }
  | _ => none }
def LatticeWeighsWrongFalsely : Prop := latticeWeighsRow.holds Tryz.pinned (OpenSpec.ofChange latticeWeighsWrong)

/-- 'earshotlaw08.LatticeWrong': WHATEVER THE INPUT: true; the input reads as it did. -/
def latticeWrongSpec : ChangeSpec := { name := "latticeWrong", fn := fun _ => fun
  | [d1, d2, d3] => { results := [.lit (.bool true)], args := [d1, d2, d3] }
  | _ => none }
def latticeWrongRow : OpenClaim := { program := "ytfoceannfdbinaagreat", sum := "4b419fa7417320fbda1c28dad49e3ee0d5f1c52f2c08b79a1a862ff4f155776e", func := "earshot/earshotlaw08.LatticeWrong", spec := "latticeWrong", unfollowed := true, recurses := true, plainKeys := false, apart := false }
def LatticeWrongSaid : Prop := latticeWrongRow.holds Tryz.pinned (OpenSpec.ofChange latticeWrongSpec)

/-- ITS FALSE NEIGHBOUR: 'it returns false'. Refute it at one input. -/
def latticeWrongWrong : ChangeSpec := { name := "latticeWrong", fn := fun _ => fun
  | [d1, d2, d3] => { results := [.lit (.bool false)], args := [d1, d2, d3] }
  | _ => none }
def LatticeWrongWrongFalsely : Prop := latticeWrongRow.holds Tryz.pinned (OpenSpec.ofChange latticeWrongWrong)

/-- 'earshotlaw08.LatticeFinds': WHATEVER THE INPUT: true; the input reads as it did. -/
def latticeFindsSpec : ChangeSpec := { name := "latticeFinds", fn := fun _ => fun
  | [d1, d2, d3] => { results := [.lit (.bool true)], args := [d1, d2, d3] }
  | _ => none }
def latticeFindsRow : OpenClaim := { program := "ytfoceannfdbinaagreat", sum := "4b419fa7417320fbda1c28dad49e3ee0d5f1c52f2c08b79a1a862ff4f155776e", func := "earshot/earshotlaw08.LatticeFinds", spec := "latticeFinds", unfollowed := true, recurses := true, plainKeys := false, apart := false }
def LatticeFindsSaid : Prop := latticeFindsRow.holds Tryz.pinned (OpenSpec.ofChange latticeFindsSpec)

/-- ITS FALSE NEIGHBOUR: 'it returns false'. Refute it at one input. -/
def latticeFindsWrong : ChangeSpec := { name := "latticeFinds", fn := fun _ => fun
  | [d1, d2, d3] => { results := [.lit (.bool false)], args := [d1, d2, d3] }
  | _ => none }
def LatticeFindsWrongFalsely : Prop := latticeFindsRow.holds Tryz.pinned (OpenSpec.ofChange latticeFindsWrong)

/-- 'earshotlaw08.LatticeFrames': WHATEVER THE INPUT: true; the input reads as it did. -/
def latticeFramesSpec : ChangeSpec := { name := "latticeFrames", fn := fun _ => fun
  | [d1, d2] => { results := [.lit (.bool true)], args := [d1, d2] }
  | _ => none }
def latticeFramesRow : OpenClaim := { program := "ytfoceannfdbinaagreat", sum := "4b419fa7417320fbda1c28dad49e3ee0d5f1c52f2c08b79a1a862ff4f155776e", func := "earshot/earshotlaw08.LatticeFrames", spec := "latticeFrames", unfollowed := true, recurses := true, plainKeys := false, apart := false }
def LatticeFramesSaid : Prop := latticeFramesRow.holds Tryz.pinned (OpenSpec.ofChange latticeFramesSpec)

/-- ITS FALSE NEIGHBOUR: 'it returns false'. Refute it at one input. -/
def latticeFramesWrong : ChangeSpec := { name := "latticeFrames", fn := fun _ => fun
  | [d1, d2] => { results := [.lit (.bool false)], args := [d1, d2] }
  | _ => none }
def LatticeFramesWrongFalsely : Prop := latticeFramesRow.holds Tryz.pinned (OpenSpec.ofChange latticeFramesWrong)

/-- 'earshotlaw08.LatticeSums': WHATEVER THE INPUT: true; the input reads as it did. -/
def latticeSumsSpec : ChangeSpec := { name := "latticeSums", fn := fun _ => fun
  | [d1, d2] => { results := [.lit (.bool true)], args := [d1, d2] }
  | _ => none }
def latticeSumsRow : OpenClaim := { program := "ytfoceannfdbinaagreat", sum := "4b419fa7417320fbda1c28dad49e3ee0d5f1c52f2c08b79a1a862ff4f155776e", func := "earshot/earshotlaw08.LatticeSums", spec := "latticeSums", unfollowed := true, recurses := true, plainKeys := false, apart := false }
def LatticeSumsSaid : Prop := latticeSumsRow.holds Tryz.pinned (OpenSpec.ofChange latticeSumsSpec)

/-- ITS FALSE NEIGHBOUR: 'it returns false'. Refute it at one input. -/
def latticeSumsWrong : ChangeSpec := { name := "latticeSums", fn := fun _ => fun
  | [d1, d2] => { results := [.lit (.bool false)], args := [d1, d2] }
  | _ => none }
def LatticeSumsWrongFalsely : Prop := latticeSumsRow.holds Tryz.pinned (OpenSpec.ofChange latticeSumsWrong)

/-- 'earshotlaw08.LatticeSafest': WHATEVER THE INPUT: true; the input reads as it did. -/
def latticeSafestSpec : ChangeSpec := { name := "latticeSafest", fn := fun _ => fun
  | [d1, d2] => { results := [.lit (.bool true)], args := [d1, d2] }
  | _ => none }
def latticeSafestRow : OpenClaim := { program := "ytfoceannfdbinaagreat", sum := "4b419fa7417320fbda1c28dad49e3ee0d5f1c52f2c08b79a1a862ff4f155776e", func := "earshot/earshotlaw08.LatticeSafest", spec := "latticeSafest", unfollowed := true, recurses := true, plainKeys := false, apart := false }
def LatticeSafestSaid : Prop := latticeSafestRow.holds Tryz.pinned (OpenSpec.ofChange latticeSafestSpec)

/-- ITS FALSE NEIGHBOUR: 'it returns false'. Refute it at one input. -/
def latticeSafestWrong : ChangeSpec := { name := "latticeSafest", fn := fun _ => fun
  | [d1, d2] => { results := [.lit (.bool false)], args := [d1, d2] }
  | _ => none }
def LatticeSafestWrongFalsely : Prop := latticeSafestRow.holds Tryz.pinned (OpenSpec.ofChange latticeSafestWrong)

/-- 'earshotlaw08.LatticeErrors': WHATEVER THE INPUT: true; the input reads as it did. -/
def latticeErrorsSpec : ChangeSpec := { name := "latticeErrors", fn := fun _ => fun
  | [d1, d2, d3] => { results := [.lit (.bool true)], args := [d1, d2, d3] }
  | _ => none }
def latticeErrorsRow : OpenClaim := { program := "ytfoceannfdbinaagreat", sum := "4b419fa7417320fbda1c28dad49e3ee0d5f1c52f2c08b79a1a862ff4f155776e", func := "earshot/earshotlaw08.LatticeErrors", spec := "latticeErrors", unfollowed := true, recurses := true, plainKeys := false, apart := false }
def LatticeErrorsSaid : Prop := latticeErrorsRow.holds Tryz.pinned (OpenSpec.ofChange latticeErrorsSpec)

/-- ITS FALSE NEIGHBOUR: 'it returns false'. Refute it at one input. -/
def latticeErrorsWrong : ChangeSpec := { name := "latticeErrors", fn := fun _ => fun
  | [d1, d2, d3] => { results := [.lit (.bool false)], args := [d1, d2, d3] }
  | _ => none }
def LatticeErrorsWrongFalsely : Prop := latticeErrorsRow.holds Tryz.pinned (OpenSpec.ofChange latticeErrorsWrong)

/- THE SECOND FORM. 'bulk': how many values and letters a reading holds, each counted each time it is reached (what is shared counts as often as it is met; a slice's spare places count too). A statement '..UptoSaid' is the law's where the arguments, and the package variables that the reading takes, are together of bulk at most 1048576: NARROWER than '..Said'. Prove '..Said' where nothing that the law and all that it calls make is longer than what came in: it says more and counts as full. Else prove '..UptoSaid'. A law counts once. -/
mutual
def uptoBulk {H : Type} : DataW H → Nat
  | .lit (.string bytes) => bytes.length + 1
  | .lit _ => 1
  | .nil => 1
  | .ptr d => uptoBulk d + 1
  | .slice elems spare => uptoBulkAll elems + uptoBulkAll spare + 1
  | .agg parts => uptoBulkAll parts + 1
  | .iface _ d => uptoBulk d + 1
  | .map entries => uptoBulkEntries entries + 1
  | .held _ => 1
def uptoBulkAll {H : Type} : List (DataW H) → Nat
  | [] => 0
  | d :: r => uptoBulk d + uptoBulkAll r
def uptoBulkEntries {H : Type} : List (Lit × DataW H) → Nat
  | [] => 0
  | x :: r => uptoBulkEntry x + uptoBulkEntries r
def uptoBulkEntry {H : Type} : Lit × DataW H → Nat
  | (.string bytes, d) => bytes.length + uptoBulk d + 1
  | (_, d) => uptoBulk d + 1
 end
def uptoSmall : (H : Type) → List (DataW H) → Bool := fun _ ds => decide (uptoBulkAll ds ≤ 1048576)
def OpenSpec.upto (s : _root_.Go.ChangeSpec) : _root_.Go.OpenSpec := { _root_.Go.OpenSpec.ofChange s with cond := some uptoSmall }

/-- 'earshotlaw08.LatticeParts', WHERE WHAT IT READS IS OF BULK AT MOST 1048576: true; the input reads as it did. -/
def latticePartsUptoRow : OpenClaim := { program := "ytfoceannfdbinaagreat", sum := "4b419fa7417320fbda1c28dad49e3ee0d5f1c52f2c08b79a1a862ff4f155776e", func := "earshot/earshotlaw08.LatticeParts", spec := "latticeParts", unfollowed := true, recurses := true, plainKeys := false, apart := false, narrowed := true }
def LatticePartsUptoSaid : Prop := latticePartsUptoRow.holds Tryz.pinned (OpenSpec.upto latticePartsSpec)

/-- 'earshotlaw08.LatticeScales', WHERE WHAT IT READS IS OF BULK AT MOST 1048576: true; the input reads as it did. -/
def latticeScalesUptoRow : OpenClaim := { program := "ytfoceannfdbinaagreat", sum := "4b419fa7417320fbda1c28dad49e3ee0d5f1c52f2c08b79a1a862ff4f155776e", func := "earshot/earshotlaw08.LatticeScales", spec := "latticeScales", unfollowed := true, recurses := true, plainKeys := false, apart := false, narrowed := true }
def LatticeScalesUptoSaid : Prop := latticeScalesUptoRow.holds Tryz.pinned (OpenSpec.upto latticeScalesSpec)

/-- 'earshotlaw08.LatticeRoutes', WHERE WHAT IT READS IS OF BULK AT MOST 1048576: true; the input reads as it did. -/
def latticeRoutesUptoRow : OpenClaim := { program := "ytfoceannfdbinaagreat", sum := "4b419fa7417320fbda1c28dad49e3ee0d5f1c52f2c08b79a1a862ff4f155776e", func := "earshot/earshotlaw08.LatticeRoutes", spec := "latticeRoutes", unfollowed := true, recurses := true, plainKeys := false, apart := false, narrowed := true }
def LatticeRoutesUptoSaid : Prop := latticeRoutesUptoRow.holds Tryz.pinned (OpenSpec.upto latticeRoutesSpec)

/-- 'earshotlaw08.LatticeBeams', WHERE WHAT IT READS IS OF BULK AT MOST 1048576: true; the input reads as it did. -/
def latticeBeamsUptoRow : OpenClaim := { program := "ytfoceannfdbinaagreat", sum := "4b419fa7417320fbda1c28dad49e3ee0d5f1c52f2c08b79a1a862ff4f155776e", func := "earshot/earshotlaw08.LatticeBeams", spec := "latticeBeams", unfollowed := true, recurses := true, plainKeys := false, apart := false, narrowed := true }
def LatticeBeamsUptoSaid : Prop := latticeBeamsUptoRow.holds Tryz.pinned (OpenSpec.upto latticeBeamsSpec)

/-- 'earshotlaw08.LatticeKeeps', WHERE WHAT IT READS IS OF BULK AT MOST 1048576: true; the input reads as it did. -/
def latticeKeepsUptoRow : OpenClaim := { program := "ytfoceannfdbinaagreat", sum := "4b419fa7417320fbda1c28dad49e3ee0d5f1c52f2c08b79a1a862ff4f155776e", func := "earshot/earshotlaw08.LatticeKeeps", spec := "latticeKeeps", unfollowed := true, recurses := true, plainKeys := false, apart := false, narrowed := true }
def LatticeKeepsUptoSaid : Prop := latticeKeepsUptoRow.holds Tryz.pinned (OpenSpec.upto latticeKeepsSpec)

/-- 'earshotlaw08.LatticeWeighs', WHERE WHAT IT READS IS OF BULK AT MOST 1048576: true; the input reads as it did. -/
def latticeWeighsUptoRow : OpenClaim := { program := "ytfoceannfdbinaagreat", sum := "4b419fa7417320fbda1c28dad49e3ee0d5f1c52f2c08b79a1a862ff4f155776e", func := "earshot/earshotlaw08.LatticeWeighs", spec := "latticeWeighs", unfollowed := true, recurses := true, plainKeys := false, apart := false, narrowed := true }
def LatticeWeighsUptoSaid : Prop := latticeWeighsUptoRow.holds Tryz.pinned (OpenSpec.upto latticeWeighsSpec)

/-- 'earshotlaw08.LatticeWrong', WHERE WHAT IT READS IS OF BULK AT MOST 1048576: true; the input reads as it did. -/
def latticeWrongUptoRow : OpenClaim := { program := "ytfoceannfdbinaagreat", sum := "4b419fa7417320fbda1c28dad49e3ee0d5f1c52f2c08b79a1a862ff4f155776e", func := "earshot/earshotlaw08.LatticeWrong", spec := "latticeWrong", unfollowed := true, recurses := true, plainKeys := false, apart := false, narrowed := true }
def LatticeWrongUptoSaid : Prop := latticeWrongUptoRow.holds Tryz.pinned (OpenSpec.upto latticeWrongSpec)

/-- 'earshotlaw08.LatticeFinds', WHERE WHAT IT READS IS OF BULK AT MOST 1048576: true; the input reads as it did. -/
def latticeFindsUptoRow : OpenClaim := { program := "ytfoceannfdbinaagreat", sum := "4b419fa7417320fbda1c28dad49e3ee0d5f1c52f2c08b79a1a862ff4f155776e", func := "earshot/earshotlaw08.LatticeFinds", spec := "latticeFinds", unfollowed := true, recurses := true, plainKeys := false, apart := false, narrowed := true }
def LatticeFindsUptoSaid : Prop := latticeFindsUptoRow.holds Tryz.pinned (OpenSpec.upto latticeFindsSpec)

/-- 'earshotlaw08.LatticeFrames', WHERE WHAT IT READS IS OF BULK AT MOST 1048576: true; the input reads as it did. -/
def latticeFramesUptoRow : OpenClaim := { program := "ytfoceannfdbinaagreat", sum := "4b419fa7417320fbda1c28dad49e3ee0d5f1c52f2c08b79a1a862ff4f155776e", func := "earshot/earshotlaw08.LatticeFrames", spec := "latticeFrames", unfollowed := true, recurses := true, plainKeys := false, apart := false, narrowed := true }
def LatticeFramesUptoSaid : Prop := latticeFramesUptoRow.holds Tryz.pinned (OpenSpec.upto latticeFramesSpec)

/-- 'earshotlaw08.LatticeSums', WHERE WHAT IT READS IS OF BULK AT MOST 1048576: true; the input reads as it did. -/
def latticeSumsUptoRow : OpenClaim := { program := "ytfoceannfdbinaagreat", sum := "4b419fa7417320fbda1c28dad49e3ee0d5f1c52f2c08b79a1a862ff4f155776e", func := "earshot/earshotlaw08.LatticeSums", spec := "latticeSums", unfollowed := true, recurses := true, plainKeys := false, apart := false, narrowed := true }
def LatticeSumsUptoSaid : Prop := latticeSumsUptoRow.holds Tryz.pinned (OpenSpec.upto latticeSumsSpec)

/-- 'earshotlaw08.LatticeSafest', WHERE WHAT IT READS IS OF BULK AT MOST 1048576: true; the input reads as it did. -/
def latticeSafestUptoRow : OpenClaim := { program := "ytfoceannfdbinaagreat", sum := "4b419fa7417320fbda1c28dad49e3ee0d5f1c52f2c08b79a1a862ff4f155776e", func := "earshot/earshotlaw08.LatticeSafest", spec := "latticeSafest", unfollowed := true, recurses := true, plainKeys := false, apart := false, narrowed := true }
def LatticeSafestUptoSaid : Prop := latticeSafestUptoRow.holds Tryz.pinned (OpenSpec.upto latticeSafestSpec)

/-- 'earshotlaw08.LatticeErrors', WHERE WHAT IT READS IS OF BULK AT MOST 1048576: true; the input reads as it did. -/
def latticeErrorsUptoRow : OpenClaim := { program := "ytfoceannfdbinaagreat", sum := "4b419fa7417320fbda1c28dad49e3ee0d5f1c52f2c08b79a1a862ff4f155776e", func := "earshot/earshotlaw08.LatticeErrors", spec := "latticeErrors", unfollowed := true, recurses := true, plainKeys := false, apart := false, narrowed := true }
def LatticeErrorsUptoSaid : Prop := latticeErrorsUptoRow.holds Tryz.pinned (OpenSpec.upto latticeErrorsSpec)

end Rows
end Go.Proofs.YtfoceannfdbinaaGreat
