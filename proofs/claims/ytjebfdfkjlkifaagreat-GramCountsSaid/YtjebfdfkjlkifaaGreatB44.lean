/- GramCounts: for every order, number of words and list of sentences the law returns true, and its arguments read as before. No condition. -/
import Derived.Test.YtjebfdfkjlkifaaGreatB43
import Derived.Test.YtjebfdfkjlkifaaGreatB40
set_option linter.unusedSimpArgs false
set_option linter.unusedVariables false
set_option linter.unusedSectionVars false
set_option linter.unnecessarySimpa false
namespace Go.Proofs.YtjebfdfkjlkifaaGreat
open Go.RowKit
theorem gramCounts_holds : Rows.GramCountsSaid := gramCounts.over sortG
end Go.Proofs.YtjebfdfkjlkifaaGreat
