/- Lemmas on the way: Jk3. -/
import Derived.Test.YtdehimgccmbfkaaGreatT45
set_option linter.all false
set_option maxRecDepth 1000000
set_option maxHeartbeats 32000000
namespace Go.Proofs.YtdehimgccmbfkaaGreat
open Go.RowKit
def saysT:Option (AV × St)->Bool
 | some (.b true,_)=>true
 | _=>false
theorem evalL:saysT ((Ev.at_ Tryz.prog envK 100000).call 17 [] ⟨.nil,0⟩) = true:=by decide +kernel
theorem knownL (w:World):Calls Tryz.prog 17 #[] w fun e w'=>e = .returned (.bool true)/\Below w.heap.size w w':=by
 have h:=evalL
 generalize hx:(Ev.at_ Tryz.prog envK 100000).call 17 [] ⟨.nil,0⟩ = x at h
 match x,h with
 | some (.b true,s'),_ =>
  refine (closed_call laidL mixedL methK_ok orcK_env hx w).mono ?_
  rintro e w' ⟨v',μ',rfl,hv,hb⟩
  simp only [VR] at hv
  subst hv
  exact ⟨rfl,hb⟩
end Go.Proofs.YtdehimgccmbfkaaGreat
