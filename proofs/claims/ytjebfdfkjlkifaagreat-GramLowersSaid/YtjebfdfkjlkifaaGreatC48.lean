/- GramLowers: for every order, number of words, list of sentences and cut the law returns true, and its arguments read as before. No condition. -/
import Derived.Test.YtjebfdfkjlkifaaGreatC47
import Derived.Test.YtjebfdfkjlkifaaGreatC40
set_option linter.unusedSimpArgs false
set_option linter.unusedVariables false
set_option linter.unusedSectionVars false
set_option linter.unnecessarySimpa false
namespace Go.Proofs.YtjebfdfkjlkifaaGreat
open Go.RowKit
theorem gramLowers_holds : Rows.GramLowersSaid := gramLowers.over sortG
end Go.Proofs.YtjebfdfkjlkifaaGreat
