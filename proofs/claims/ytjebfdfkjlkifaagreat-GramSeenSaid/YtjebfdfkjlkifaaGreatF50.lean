/- GramSeen: for every language model, every history and every two numbers the law returns true, and its arguments read as before. No condition. -/
import Derived.Test.YtjebfdfkjlkifaaGreatF49
import Derived.Test.YtjebfdfkjlkifaaGreatC40
set_option linter.unusedSimpArgs false
set_option linter.unusedVariables false
set_option linter.unusedSectionVars false
set_option linter.unnecessarySimpa false
namespace Go.Proofs.YtjebfdfkjlkifaaGreat
open Go.RowKit
theorem gramSeen_holds : Rows.GramSeenSaid := gramSeen.over sortG
end Go.Proofs.YtjebfdfkjlkifaaGreat
