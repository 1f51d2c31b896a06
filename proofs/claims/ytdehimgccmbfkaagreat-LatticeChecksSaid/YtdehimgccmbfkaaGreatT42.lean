/- Lemmas on the way: Ty1. -/
import Derived.Test.YtdehimgccmbfkaaGreatT41
set_option linter.all false
set_option maxRecDepth 1000000
set_option maxHeartbeats 32000000
namespace Go.Proofs.YtdehimgccmbfkaaGreat
open Go.RowKit
def totN (O:Nat) (gs:List Gr) (n:Nat)(h:List Int) (x:Int):Int:=tot (O - n) gs (h ++ [x])
def SmallT (gs:List Gr) (v:Nat):Prop:=(∀ g ∈ gs,0 < g.2/\g.2 <= 1073741824)/\gs.length <= 20000/\(∀ g ∈ gs,∀ x ∈ g.1,x <= (v:Int))/\v <= 8
theorem SmallT.keys {gs:List Gr} {v:Nat} (h:SmallT gs v) {O n:Nat} {hs:List Int} {L:List (Int × Int)} (hC:CntI L (totN O gs n hs)):∀ e ∈ L,e.1 <= (v:Int):=key_le (fun g hh=>(h.1 g hh).1) h.2.2.1 hC
end Go.Proofs.YtdehimgccmbfkaaGreat
