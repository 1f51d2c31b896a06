/- Lemmas on the way: Di1. -/
import Derived.Test.YtlhankdkhiilkaaGreatI29
set_option linter.unusedSimpArgs false
set_option linter.unusedVariables false
set_option linter.unusedSectionVars false
set_option linter.unnecessarySimpa false
namespace Go.Proofs.YtlhankdkhiilkaaGreat
open Go.RowKit
section
open Go.RowKit
end
end Go.Proofs.YtlhankdkhiilkaaGreat
