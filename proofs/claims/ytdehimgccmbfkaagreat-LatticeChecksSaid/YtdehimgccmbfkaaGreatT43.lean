/- Lemmas on the way: Di1. -/
import Derived.Test.YtdehimgccmbfkaaGreatT42
set_option linter.all false
set_option maxRecDepth 1000000
set_option maxHeartbeats 32000000
namespace Go.Proofs.YtdehimgccmbfkaaGreat
open Go.RowKit
section
open Go.RowKit
end
end Go.Proofs.YtdehimgccmbfkaaGreat
