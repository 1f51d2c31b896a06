/- GramTables: for every two tables and every cut the law returns true, and its arguments read as before. No condition. -/
import Derived.Test.YtjebfdfkjlkifaaGreatD51
import Derived.Test.YtjebfdfkjlkifaaGreatC40
set_option linter.unusedSimpArgs false
set_option linter.unusedVariables false
set_option linter.unusedSectionVars false
set_option linter.unnecessarySimpa false
namespace Go.Proofs.YtjebfdfkjlkifaaGreat
open Go.RowKit
theorem gramTables_holds : Rows.GramTablesSaid := gramTables.over sortG
end Go.Proofs.YtjebfdfkjlkifaaGreat
