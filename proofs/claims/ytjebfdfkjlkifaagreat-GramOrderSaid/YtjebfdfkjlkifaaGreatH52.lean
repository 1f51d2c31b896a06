/- GramOrder: for every language model and every three sentences the law returns true, and its arguments read as before. No condition. -/
import Derived.Test.YtjebfdfkjlkifaaGreatH51
import Derived.Test.YtjebfdfkjlkifaaGreatC40
set_option linter.unusedSimpArgs false
set_option linter.unusedVariables false
set_option linter.unusedSectionVars false
set_option linter.unnecessarySimpa false
namespace Go.Proofs.YtjebfdfkjlkifaaGreat
open Go.RowKit
theorem gramOrder_holds : Rows.GramOrderSaid := gramOrder.over sortG
end Go.Proofs.YtjebfdfkjlkifaaGreat
