/- Lemmas. -/
import Derived.Test.YtjebfdfkjlkifaaGreatN36
set_option linter.all false
set_option maxRecDepth 1000000
set_option maxHeartbeats 32000000
namespace Go.Proofs.YtjebfdfkjlkifaaGreat
open Go.RowKit
section
open Go.RowKit
end
section
open Go.RowKit
end
end Go.Proofs.YtjebfdfkjlkifaaGreat
