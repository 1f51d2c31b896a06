/- GramTotals: for every language model and every number the law returns true, and its arguments read as before. No condition. -/
import Derived.Test.YtjebfdfkjlkifaaGreatG49
import Derived.Test.YtjebfdfkjlkifaaGreatC40
set_option linter.unusedSimpArgs false
set_option linter.unusedVariables false
set_option linter.unusedSectionVars false
set_option linter.unnecessarySimpa false
namespace Go.Proofs.YtjebfdfkjlkifaaGreat
open Go.RowKit
theorem gramTotals_holds : Rows.GramTotalsSaid := gramTotals.over sortG
end Go.Proofs.YtjebfdfkjlkifaaGreat
