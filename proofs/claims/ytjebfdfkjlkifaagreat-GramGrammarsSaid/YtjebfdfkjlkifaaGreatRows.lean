/-
  No cell of these rows narrows 'for every input' (looked for: loops, veiled, ifaces, maps, wideKeys, modest, calm, conditions, laid).
  DERIVED. THE GIVEN ROWS OF THIS SEAT. 14 by the template 'for every input the law returns true; each argument reads behind the call as it read before'; 0 by the template 'total and deterministic' (their statements: YtjebfdfkjlkifaaGreatTotals.lean).
  GIVEN WITH THE SEED: the statements are not yours to turn. If you find one false, say at which input.
  Laid BY PROGRAM, IN A SANDBOX (cutbox-rows.mjs): the forced cells as the released guide's own fill.sh prints them over the translation 4632bca82a2c1f0f… (all of the seat's roots in one cut). By AI agents, Wed Nov 11 2026. No macro, syntax, notation, axiom, sorry.
-/
import Derived.Test.YtjebfdfkjlkifaaGreatChecked
import GoSem.Claim
import GoSem.ClaimJoined
import GoSem.ClaimMapViews
import Derived.JoinedTies
import Derived.KernelRfl
namespace Go.Proofs.YtjebfdfkjlkifaaGreat
/- THE CELL 'sum', in the pinned program and in every row, IS THE sha256 OF THE DUMP (.gsa) THAT YtjebfdfkjlkifaaGreatProg.lean LOADS. Nothing in Lean hashes anything: it is a label: what it is worth is what the hold of that sum in a sandbox is worth. -/
noncomputable def Tryz.pinned : Pinned := { name := "ytjebfdfkjlkifaagreat", sum := "4632bca82a2c1f0fbc32c1fd872372cc8e7eb67c4b88f36e502de496cf4e2a82", checked := Tryz.checked }
namespace Rows
def none {H : Type} : Left H := { results := [], args := [] }

/-- 'earshotlaw06.GramCounts': WHATEVER THE INPUT: true; the input reads as it did. -/
def gramCountsSpec : ChangeSpec := { name := "gramCounts", fn := fun _ => fun
  | [d1, d2, d3] => { results := [.lit (.bool true)], args := [d1, d2, d3] }
  | _ => none }
def gramCountsRow : OpenClaim := { program := "ytjebfdfkjlkifaagreat", sum := "4632bca82a2c1f0fbc32c1fd872372cc8e7eb67c4b88f36e502de496cf4e2a82", func := "earshot/earshotlaw06.GramCounts", spec := "gramCounts", unfollowed := true, recurses := true, plainKeys := false, apart := false }
def GramCountsSaid : Prop := gramCountsRow.holds Tryz.pinned (OpenSpec.ofChange gramCountsSpec)

/-- ITS FALSE NEIGHBOUR: 'it returns false'. Refute it at one input. -/
def gramCountsWrong : ChangeSpec := { name := "gramCounts", fn := fun _ => fun
  | [d1, d2, d3] => { results := [.lit (.bool false)], args := [d1, d2, d3] }
  | _ => none }
def GramCountsWrongFalsely : Prop := gramCountsRow.holds Tryz.pinned (OpenSpec.ofChange gramCountsWrong)

/-- 'earshotlaw06.GramSeen': WHATEVER THE INPUT: true; the input reads as it did. -/
def gramSeenSpec : ChangeSpec := { name := "gramSeen", fn := fun _ => fun
  | [d1, d2, d3, d4] => { results := [.lit (.bool true)], args := [d1, d2, d3, d4] }
  | _ => none }
def gramSeenRow : OpenClaim := { program := "ytjebfdfkjlkifaagreat", sum := "4632bca82a2c1f0fbc32c1fd872372cc8e7eb67c4b88f36e502de496cf4e2a82", func := "earshot/earshotlaw06.GramSeen", spec := "gramSeen", unfollowed := true, recurses := true, plainKeys := false, apart := false }
def GramSeenSaid : Prop := gramSeenRow.holds Tryz.pinned (OpenSpec.ofChange gramSeenSpec)

/-- ITS FALSE NEIGHBOUR: 'it returns false'. Refute it at one input. -/
def gramSeenWrong : ChangeSpec := { name := "gramSeen", fn := fun _ => fun
  | [d1, d2, d3, d4] => { results := [.lit (.bool false)], args := [d1, d2, d3, d4] }
  | _ => none }
def GramSeenWrongFalsely : Prop := gramSeenRow.holds Tryz.pinned (OpenSpec.ofChange gramSeenWrong)

/-- 'earshotlaw06.GramTotals': WHATEVER THE INPUT: true; the input reads as it did. -/
def gramTotalsSpec : ChangeSpec := { name := "gramTotals", fn := fun _ => fun
  | [d1, d2] => { results := [.lit (.bool true)], args := [d1, d2] }
  | _ => none }
def gramTotalsRow : OpenClaim := { program := "ytjebfdfkjlkifaagreat", sum := "4632bca82a2c1f0fbc32c1fd872372cc8e7eb67c4b88f36e502de496cf4e2a82", func := "earshot/earshotlaw06.GramTotals", spec := "gramTotals", unfollowed := true, recurses := true, plainKeys := false, apart := false }
def GramTotalsSaid : Prop := gramTotalsRow.holds Tryz.pinned (OpenSpec.ofChange gramTotalsSpec)

/-- ITS FALSE NEIGHBOUR: 'it returns false'. Refute it at one input. -/
def gramTotalsWrong : ChangeSpec := { name := "gramTotals", fn := fun _ => fun
  | [d1, d2] => { results := [.lit (.bool false)], args := [d1, d2] }
  | _ => none }
def GramTotalsWrongFalsely : Prop := gramTotalsRow.holds Tryz.pinned (OpenSpec.ofChange gramTotalsWrong)

/-- 'earshotlaw06.GramSums': WHATEVER THE INPUT: true; the input reads as it did. -/
def gramSumsSpec : ChangeSpec := { name := "gramSums", fn := fun _ => fun
  | [d1, d2] => { results := [.lit (.bool true)], args := [d1, d2] }
  | _ => none }
def gramSumsRow : OpenClaim := { program := "ytjebfdfkjlkifaagreat", sum := "4632bca82a2c1f0fbc32c1fd872372cc8e7eb67c4b88f36e502de496cf4e2a82", func := "earshot/earshotlaw06.GramSums", spec := "gramSums", unfollowed := true, recurses := true, plainKeys := false, apart := false }
def GramSumsSaid : Prop := gramSumsRow.holds Tryz.pinned (OpenSpec.ofChange gramSumsSpec)

/-- ITS FALSE NEIGHBOUR: 'it returns false'. Refute it at one input. -/
def gramSumsWrong : ChangeSpec := { name := "gramSums", fn := fun _ => fun
  | [d1, d2] => { results := [.lit (.bool false)], args := [d1, d2] }
  | _ => none }
def GramSumsWrongFalsely : Prop := gramSumsRow.holds Tryz.pinned (OpenSpec.ofChange gramSumsWrong)

/-- 'earshotlaw06.GramRows': WHATEVER THE INPUT: true; the input reads as it did. -/
def gramRowsSpec : ChangeSpec := { name := "gramRows", fn := fun _ => fun
  | [d1, d2, d3] => { results := [.lit (.bool true)], args := [d1, d2, d3] }
  | _ => none }
def gramRowsRow : OpenClaim := { program := "ytjebfdfkjlkifaagreat", sum := "4632bca82a2c1f0fbc32c1fd872372cc8e7eb67c4b88f36e502de496cf4e2a82", func := "earshot/earshotlaw06.GramRows", spec := "gramRows", unfollowed := true, recurses := true, plainKeys := false, apart := false }
def GramRowsSaid : Prop := gramRowsRow.holds Tryz.pinned (OpenSpec.ofChange gramRowsSpec)

/-- ITS FALSE NEIGHBOUR: 'it returns false'. Refute it at one input. -/
def gramRowsWrong : ChangeSpec := { name := "gramRows", fn := fun _ => fun
  | [d1, d2, d3] => { results := [.lit (.bool false)], args := [d1, d2, d3] }
  | _ => none }
def GramRowsWrongFalsely : Prop := gramRowsRow.holds Tryz.pinned (OpenSpec.ofChange gramRowsWrong)

/-- 'earshotlaw06.GramAll': WHATEVER THE INPUT: true; the input reads as it did. -/
def gramAllSpec : ChangeSpec := { name := "gramAll", fn := fun _ => fun
  | [d1, d2] => { results := [.lit (.bool true)], args := [d1, d2] }
  | _ => none }
def gramAllRow : OpenClaim := { program := "ytjebfdfkjlkifaagreat", sum := "4632bca82a2c1f0fbc32c1fd872372cc8e7eb67c4b88f36e502de496cf4e2a82", func := "earshot/earshotlaw06.GramAll", spec := "gramAll", unfollowed := true, recurses := true, plainKeys := false, apart := false }
def GramAllSaid : Prop := gramAllRow.holds Tryz.pinned (OpenSpec.ofChange gramAllSpec)

/-- ITS FALSE NEIGHBOUR: 'it returns false'. Refute it at one input. -/
def gramAllWrong : ChangeSpec := { name := "gramAll", fn := fun _ => fun
  | [d1, d2] => { results := [.lit (.bool false)], args := [d1, d2] }
  | _ => none }
def GramAllWrongFalsely : Prop := gramAllRow.holds Tryz.pinned (OpenSpec.ofChange gramAllWrong)

/-- 'earshotlaw06.GramGrammars': WHATEVER THE INPUT: true; the input reads as it did. -/
def gramGrammarsSpec : ChangeSpec := { name := "gramGrammars", fn := fun _ => fun
  | [d1, d2] => { results := [.lit (.bool true)], args := [d1, d2] }
  | _ => none }
def gramGrammarsRow : OpenClaim := { program := "ytjebfdfkjlkifaagreat", sum := "4632bca82a2c1f0fbc32c1fd872372cc8e7eb67c4b88f36e502de496cf4e2a82", func := "earshot/earshotlaw06.GramGrammars", spec := "gramGrammars", unfollowed := true, recurses := true, plainKeys := false, apart := false }
def GramGrammarsSaid : Prop := gramGrammarsRow.holds Tryz.pinned (OpenSpec.ofChange gramGrammarsSpec)

/-- ITS FALSE NEIGHBOUR: 'it returns false'. Refute it at one input. -/
def gramGrammarsWrong : ChangeSpec := { name := "gramGrammars", fn := fun _ => fun
  | [d1, d2] => { results := [.lit (.bool false)], args := [d1, d2] }
  | _ => none }
def GramGrammarsWrongFalsely : Prop := gramGrammarsRow.holds Tryz.pinned (OpenSpec.ofChange gramGrammarsWrong)

/-- 'earshotlaw06.GramSentences': WHATEVER THE INPUT: true; the input reads as it did. -/
def gramSentencesSpec : ChangeSpec := { name := "gramSentences", fn := fun _ => fun
  | [d1, d2, d3] => { results := [.lit (.bool true)], args := [d1, d2, d3] }
  | _ => none }
def gramSentencesRow : OpenClaim := { program := "ytjebfdfkjlkifaagreat", sum := "4632bca82a2c1f0fbc32c1fd872372cc8e7eb67c4b88f36e502de496cf4e2a82", func := "earshot/earshotlaw06.GramSentences", spec := "gramSentences", unfollowed := true, recurses := true, plainKeys := false, apart := false }
def GramSentencesSaid : Prop := gramSentencesRow.holds Tryz.pinned (OpenSpec.ofChange gramSentencesSpec)

/-- ITS FALSE NEIGHBOUR: 'it returns false'. Refute it at one input. -/
def gramSentencesWrong : ChangeSpec := { name := "gramSentences", fn := fun _ => fun
  | [d1, d2, d3] => { results := [.lit (.bool false)], args := [d1, d2, d3] }
  | _ => none }
def GramSentencesWrongFalsely : Prop := gramSentencesRow.holds Tryz.pinned (OpenSpec.ofChange gramSentencesWrong)

/-- 'earshotlaw06.GramOrder': WHATEVER THE INPUT: true; the input reads as it did. -/
def gramOrderSpec : ChangeSpec := { name := "gramOrder", fn := fun _ => fun
  | [d1, d2, d3, d4] => { results := [.lit (.bool true)], args := [d1, d2, d3, d4] }
  | _ => none }
def gramOrderRow : OpenClaim := { program := "ytjebfdfkjlkifaagreat", sum := "4632bca82a2c1f0fbc32c1fd872372cc8e7eb67c4b88f36e502de496cf4e2a82", func := "earshot/earshotlaw06.GramOrder", spec := "gramOrder", unfollowed := true, recurses := true, plainKeys := false, apart := false }
def GramOrderSaid : Prop := gramOrderRow.holds Tryz.pinned (OpenSpec.ofChange gramOrderSpec)

/-- ITS FALSE NEIGHBOUR: 'it returns false'. Refute it at one input. -/
def gramOrderWrong : ChangeSpec := { name := "gramOrder", fn := fun _ => fun
  | [d1, d2, d3, d4] => { results := [.lit (.bool false)], args := [d1, d2, d3, d4] }
  | _ => none }
def GramOrderWrongFalsely : Prop := gramOrderRow.holds Tryz.pinned (OpenSpec.ofChange gramOrderWrong)

/-- 'earshotlaw06.GramLowers': WHATEVER THE INPUT: true; the input reads as it did. -/
def gramLowersSpec : ChangeSpec := { name := "gramLowers", fn := fun _ => fun
  | [d1, d2, d3, d4] => { results := [.lit (.bool true)], args := [d1, d2, d3, d4] }
  | _ => none }
def gramLowersRow : OpenClaim := { program := "ytjebfdfkjlkifaagreat", sum := "4632bca82a2c1f0fbc32c1fd872372cc8e7eb67c4b88f36e502de496cf4e2a82", func := "earshot/earshotlaw06.GramLowers", spec := "gramLowers", unfollowed := true, recurses := true, plainKeys := false, apart := false }
def GramLowersSaid : Prop := gramLowersRow.holds Tryz.pinned (OpenSpec.ofChange gramLowersSpec)

/-- ITS FALSE NEIGHBOUR: 'it returns false'. Refute it at one input. -/
def gramLowersWrong : ChangeSpec := { name := "gramLowers", fn := fun _ => fun
  | [d1, d2, d3, d4] => { results := [.lit (.bool false)], args := [d1, d2, d3, d4] }
  | _ => none }
def GramLowersWrongFalsely : Prop := gramLowersRow.holds Tryz.pinned (OpenSpec.ofChange gramLowersWrong)

/-- 'earshotlaw06.GramClasses': WHATEVER THE INPUT: true; the input reads as it did. -/
def gramClassesSpec : ChangeSpec := { name := "gramClasses", fn := fun _ => fun
  | [d1, d2, d3, d4] => { results := [.lit (.bool true)], args := [d1, d2, d3, d4] }
  | _ => none }
def gramClassesRow : OpenClaim := { program := "ytjebfdfkjlkifaagreat", sum := "4632bca82a2c1f0fbc32c1fd872372cc8e7eb67c4b88f36e502de496cf4e2a82", func := "earshot/earshotlaw06.GramClasses", spec := "gramClasses", unfollowed := true, recurses := true, plainKeys := false, apart := false }
def GramClassesSaid : Prop := gramClassesRow.holds Tryz.pinned (OpenSpec.ofChange gramClassesSpec)

/-- ITS FALSE NEIGHBOUR: 'it returns false'. Refute it at one input. -/
def gramClassesWrong : ChangeSpec := { name := "gramClasses", fn := fun _ => fun
  | [d1, d2, d3, d4] => { results := [.lit (.bool false)], args := [d1, d2, d3, d4] }
  | _ => none }
def GramClassesWrongFalsely : Prop := gramClassesRow.holds Tryz.pinned (OpenSpec.ofChange gramClassesWrong)

/-- 'earshotlaw06.GramClassed': WHATEVER THE INPUT: true; the input reads as it did. -/
def gramClassedSpec : ChangeSpec := { name := "gramClassed", fn := fun _ => fun
  | [d1, d2, d3] => { results := [.lit (.bool true)], args := [d1, d2, d3] }
  | _ => none }
def gramClassedRow : OpenClaim := { program := "ytjebfdfkjlkifaagreat", sum := "4632bca82a2c1f0fbc32c1fd872372cc8e7eb67c4b88f36e502de496cf4e2a82", func := "earshot/earshotlaw06.GramClassed", spec := "gramClassed", unfollowed := true, recurses := true, plainKeys := false, apart := false }
def GramClassedSaid : Prop := gramClassedRow.holds Tryz.pinned (OpenSpec.ofChange gramClassedSpec)

/-- ITS FALSE NEIGHBOUR: 'it returns false'. Refute it at one input. -/
def gramClassedWrong : ChangeSpec := { name := "gramClassed", fn := fun _ => fun
  | [d1, d2, d3] => { results := [.lit (.bool false)], args := [d1, d2, d3] }
  | _ => none }
def GramClassedWrongFalsely : Prop := gramClassedRow.holds Tryz.pinned (OpenSpec.ofChange gramClassedWrong)

/-- 'earshotlaw06.GramDerives': WHATEVER THE INPUT: true; the input reads as it did. -/
def gramDerivesSpec : ChangeSpec := { name := "gramDerives", fn := fun _ => fun
  | [d1, d2] => { results := [.lit (.bool true)], args := [d1, d2] }
  | _ => none }
def gramDerivesRow : OpenClaim := { program := "ytjebfdfkjlkifaagreat", sum := "4632bca82a2c1f0fbc32c1fd872372cc8e7eb67c4b88f36e502de496cf4e2a82", func := "earshot/earshotlaw06.GramDerives", spec := "gramDerives", unfollowed := true, recurses := true, plainKeys := false, apart := false }
def GramDerivesSaid : Prop := gramDerivesRow.holds Tryz.pinned (OpenSpec.ofChange gramDerivesSpec)

/-- ITS FALSE NEIGHBOUR: 'it returns false'. Refute it at one input. -/
def gramDerivesWrong : ChangeSpec := { name := "gramDerives", fn := fun _ => fun
  | [d1, d2] => { results := [.lit (.bool false)], args := [d1, d2] }
  | _ => none }
def GramDerivesWrongFalsely : Prop := gramDerivesRow.holds Tryz.pinned (OpenSpec.ofChange gramDerivesWrong)

/-- 'earshotlaw06.GramTables': WHATEVER THE INPUT: true; the input reads as it did. -/
def gramTablesSpec : ChangeSpec := { name := "gramTables", fn := fun _ => fun
  | [d1, d2, d3] => { results := [.lit (.bool true)], args := [d1, d2, d3] }
  | _ => none }
def gramTablesRow : OpenClaim := { program := "ytjebfdfkjlkifaagreat", sum := "4632bca82a2c1f0fbc32c1fd872372cc8e7eb67c4b88f36e502de496cf4e2a82", func := "earshot/earshotlaw06.GramTables", spec := "gramTables", unfollowed := true, recurses := true, plainKeys := false, apart := false }
def GramTablesSaid : Prop := gramTablesRow.holds Tryz.pinned (OpenSpec.ofChange gramTablesSpec)

/-- ITS FALSE NEIGHBOUR: 'it returns false'. Refute it at one input. -/
def gramTablesWrong : ChangeSpec := { name := "gramTables", fn := fun _ => fun
  | [d1, d2, d3] => { results := [.lit (.bool false)], args := [d1, d2, d3] }
  | _ => none }
def GramTablesWrongFalsely : Prop := gramTablesRow.holds Tryz.pinned (OpenSpec.ofChange gramTablesWrong)

/- THE SECOND FORM. 'bulk': how many values and letters a reading holds, each counted each time it is reached (what is shared counts as often as it is met; a slice's spare places count too). A statement '..UptoSaid' is the law's where the arguments, and the package variables that the reading takes, are together of bulk at most 1048576: NARROWER than '..Said'. Prove '..Said' where nothing that the law and all that it calls make is longer than what came in: it says more and counts as full. Else prove '..UptoSaid'. A law counts once. -/
mutual
def uptoBulk {H : Type} : DataW H → Nat
  | .lit (.string bytes) => bytes.length + 1
  | .lit _ => 1
  | .nil => 1
  | .ptr d => uptoBulk d + 1
  | .slice elems spare => uptoBulkAll elems + uptoBulkAll spare + 1
  | .agg parts => uptoBulkAll parts + 1
  | .iface _ d => uptoBulk d + 1
  | .map entries => uptoBulkEntries entries + 1
  | .held _ => 1
def uptoBulkAll {H : Type} : List (DataW H) → Nat
  | [] => 0
  | d :: r => uptoBulk d + uptoBulkAll r
def uptoBulkEntries {H : Type} : List (Lit × DataW H) → Nat
  | [] => 0
  | x :: r => uptoBulkEntry x + uptoBulkEntries r
def uptoBulkEntry {H : Type} : Lit × DataW H → Nat
  | (.string bytes, d) => bytes.length + uptoBulk d + 1
  | (_, d) => uptoBulk d + 1
 end
def uptoSmall : (H : Type) → List (DataW H) → Bool := fun _ ds => decide (uptoBulkAll ds ≤ 1048576)
def OpenSpec.upto (s : _root_.Go.ChangeSpec) : _root_.Go.OpenSpec := { _root_.Go.OpenSpec.ofChange s with cond := some uptoSmall }

/-- 'earshotlaw06.GramCounts', WHERE WHAT IT READS IS OF BULK AT MOST 1048576: true; the input reads as it did. -/
def gramCountsUptoRow : OpenClaim := { program := "ytjebfdfkjlkifaagreat", sum := "4632bca82a2c1f0fbc32c1fd872372cc8e7eb67c4b88f36e502de496cf4e2a82", func := "earshot/earshotlaw06.GramCounts", spec := "gramCounts", unfollowed := true, recurses := true, plainKeys := false, apart := false, narrowed := true }
def GramCountsUptoSaid : Prop := gramCountsUptoRow.holds Tryz.pinned (OpenSpec.upto gramCountsSpec)

/-- 'earshotlaw06.GramSeen', WHERE WHAT IT READS IS OF BULK AT MOST 1048576: true; the input reads as it did. -/
def gramSeenUptoRow : OpenClaim := { program := "ytjebfdfkjlkifaagreat", sum := "4632bca82a2c1f0fbc32c1fd872372cc8e7eb67c4b88f36e502de496cf4e2a82", func := "earshot/earshotlaw06.GramSeen", spec := "gramSeen", unfollowed := true, recurses := true, plainKeys := false, apart := false, narrowed := true }
def GramSeenUptoSaid : Prop := gramSeenUptoRow.holds Tryz.pinned (OpenSpec.upto gramSeenSpec)

/-- 'earshotlaw06.GramTotals', WHERE WHAT IT READS IS OF BULK AT MOST 1048576: true; the input reads as it did. -/
def gramTotalsUptoRow : OpenClaim := { program := "ytjebfdfkjlkifaagreat", sum := "4632bca82a2c1f0fbc32c1fd872372cc8e7eb67c4b88f36e502de496cf4e2a82", func := "earshot/earshotlaw06.GramTotals", spec := "gramTotals", unfollowed := true, recurses := true, plainKeys := false, apart := false, narrowed := true }
def GramTotalsUptoSaid : Prop := gramTotalsUptoRow.holds Tryz.pinned (OpenSpec.upto gramTotalsSpec)

/-- 'earshotlaw06.GramSums', WHERE WHAT IT READS IS OF BULK AT MOST 1048576: true; the input reads as it did. -/
def gramSumsUptoRow : OpenClaim := { program := "ytjebfdfkjlkifaagreat", sum := "4632bca82a2c1f0fbc32c1fd872372cc8e7eb67c4b88f36e502de496cf4e2a82", func := "earshot/earshotlaw06.GramSums", spec := "gramSums", unfollowed := true, recurses := true, plainKeys := false, apart := false, narrowed := true }
def GramSumsUptoSaid : Prop := gramSumsUptoRow.holds Tryz.pinned (OpenSpec.upto gramSumsSpec)

/-- 'earshotlaw06.GramRows', WHERE WHAT IT READS IS OF BULK AT MOST 1048576: true; the input reads as it did. -/
def gramRowsUptoRow : OpenClaim := { program := "ytjebfdfkjlkifaagreat", sum := "4632bca82a2c1f0fbc32c1fd872372cc8e7eb67c4b88f36e502de496cf4e2a82", func := "earshot/earshotlaw06.GramRows", spec := "gramRows", unfollowed := true, recurses := true, plainKeys := false, apart := false, narrowed := true }
def GramRowsUptoSaid : Prop := gramRowsUptoRow.holds Tryz.pinned (OpenSpec.upto gramRowsSpec)

/-- 'earshotlaw06.GramAll', WHERE WHAT IT READS IS OF BULK AT MOST 1048576: true; the input reads as it did. -/
def gramAllUptoRow : OpenClaim := { program := "ytjebfdfkjlkifaagreat", sum := "4632bca82a2c1f0fbc32c1fd872372cc8e7eb67c4b88f36e502de496cf4e2a82", func := "earshot/earshotlaw06.GramAll", spec := "gramAll", unfollowed := true, recurses := true, plainKeys := false, apart := false, narrowed := true }
def GramAllUptoSaid : Prop := gramAllUptoRow.holds Tryz.pinned (OpenSpec.upto gramAllSpec)

/-- 'earshotlaw06.GramGrammars', WHERE WHAT IT READS IS OF BULK AT MOST 1048576: true; the input reads as it did. -/
def gramGrammarsUptoRow : OpenClaim := { program := "ytjebfdfkjlkifaagreat", sum := "4632bca82a2c1f0fbc32c1fd872372cc8e7eb67c4b88f36e502de496cf4e2a82", func := "earshot/earshotlaw06.GramGrammars", spec := "gramGrammars", unfollowed := true, recurses := true, plainKeys := false, apart := false, narrowed := true }
def GramGrammarsUptoSaid : Prop := gramGrammarsUptoRow.holds Tryz.pinned (OpenSpec.upto gramGrammarsSpec)

/-- 'earshotlaw06.GramSentences', WHERE WHAT IT READS IS OF BULK AT MOST 1048576: true; the input reads as it did. -/
def gramSentencesUptoRow : OpenClaim := { program := "ytjebfdfkjlkifaagreat", sum := "4632bca82a2c1f0fbc32c1fd872372cc8e7eb67c4b88f36e502de496cf4e2a82", func := "earshot/earshotlaw06.GramSentences", spec := "gramSentences", unfollowed := true, recurses := true, plainKeys := false, apart := false, narrowed := true }
def GramSentencesUptoSaid : Prop := gramSentencesUptoRow.holds Tryz.pinned (OpenSpec.upto gramSentencesSpec)

/-- 'earshotlaw06.GramOrder', WHERE WHAT IT READS IS OF BULK AT MOST 1048576: true; the input reads as it did. -/
def gramOrderUptoRow : OpenClaim := { program := "ytjebfdfkjlkifaagreat", sum := "4632bca82a2c1f0fbc32c1fd872372cc8e7eb67c4b88f36e502de496cf4e2a82", func := "earshot/earshotlaw06.GramOrder", spec := "gramOrder", unfollowed := true, recurses := true, plainKeys := false, apart := false, narrowed := true }
def GramOrderUptoSaid : Prop := gramOrderUptoRow.holds Tryz.pinned (OpenSpec.upto gramOrderSpec)

/-- 'earshotlaw06.GramLowers', WHERE WHAT IT READS IS OF BULK AT MOST 1048576: true; the input reads as it did. -/
def gramLowersUptoRow : OpenClaim := { program := "ytjebfdfkjlkifaagreat", sum := "4632bca82a2c1f0fbc32c1fd872372cc8e7eb67c4b88f36e502de496cf4e2a82", func := "earshot/earshotlaw06.GramLowers", spec := "gramLowers", unfollowed := true, recurses := true, plainKeys := false, apart := false, narrowed := true }
def GramLowersUptoSaid : Prop := gramLowersUptoRow.holds Tryz.pinned (OpenSpec.upto gramLowersSpec)

/-- 'earshotlaw06.GramClasses', WHERE WHAT IT READS IS OF BULK AT MOST 1048576: true; the input reads as it did. -/
def gramClassesUptoRow : OpenClaim := { program := "ytjebfdfkjlkifaagreat", sum := "4632bca82a2c1f0fbc32c1fd872372cc8e7eb67c4b88f36e502de496cf4e2a82", func := "earshot/earshotlaw06.GramClasses", spec := "gramClasses", unfollowed := true, recurses := true, plainKeys := false, apart := false, narrowed := true }
def GramClassesUptoSaid : Prop := gramClassesUptoRow.holds Tryz.pinned (OpenSpec.upto gramClassesSpec)

/-- 'earshotlaw06.GramClassed', WHERE WHAT IT READS IS OF BULK AT MOST 1048576: true; the input reads as it did. -/
def gramClassedUptoRow : OpenClaim := { program := "ytjebfdfkjlkifaagreat", sum := "4632bca82a2c1f0fbc32c1fd872372cc8e7eb67c4b88f36e502de496cf4e2a82", func := "earshot/earshotlaw06.GramClassed", spec := "gramClassed", unfollowed := true, recurses := true, plainKeys := false, apart := false, narrowed := true }
def GramClassedUptoSaid : Prop := gramClassedUptoRow.holds Tryz.pinned (OpenSpec.upto gramClassedSpec)

/-- 'earshotlaw06.GramDerives', WHERE WHAT IT READS IS OF BULK AT MOST 1048576: true; the input reads as it did. -/
def gramDerivesUptoRow : OpenClaim := { program := "ytjebfdfkjlkifaagreat", sum := "4632bca82a2c1f0fbc32c1fd872372cc8e7eb67c4b88f36e502de496cf4e2a82", func := "earshot/earshotlaw06.GramDerives", spec := "gramDerives", unfollowed := true, recurses := true, plainKeys := false, apart := false, narrowed := true }
def GramDerivesUptoSaid : Prop := gramDerivesUptoRow.holds Tryz.pinned (OpenSpec.upto gramDerivesSpec)

/-- 'earshotlaw06.GramTables', WHERE WHAT IT READS IS OF BULK AT MOST 1048576: true; the input reads as it did. -/
def gramTablesUptoRow : OpenClaim := { program := "ytjebfdfkjlkifaagreat", sum := "4632bca82a2c1f0fbc32c1fd872372cc8e7eb67c4b88f36e502de496cf4e2a82", func := "earshot/earshotlaw06.GramTables", spec := "gramTables", unfollowed := true, recurses := true, plainKeys := false, apart := false, narrowed := true }
def GramTablesUptoSaid : Prop := gramTablesUptoRow.holds Tryz.pinned (OpenSpec.upto gramTablesSpec)

end Rows
end Go.Proofs.YtjebfdfkjlkifaaGreat
