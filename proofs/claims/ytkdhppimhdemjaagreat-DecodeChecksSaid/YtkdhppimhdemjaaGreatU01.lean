/- Lemmas on the way: Tk. -/
import Derived.Test.YtkdhppimhdemjaaGreatProg
import Derived.WalkKit
import Derived.Lib.Hide
import Derived.OrdersHeld
import Derived.Deep.RegionHeld3
import Derived.Maps.RangeWalk
set_option linter.all false
set_option maxRecDepth 1000000
set_option maxHeartbeats 32000000
namespace Go.Proofs.YtkdhppimhdemjaaGreat
open Go.RowKit
theorem tk {P:Program} {md:Region.Mode} {ops:Array Oper} {Q:Exit->Act->World->Prop} {S:World->Prop} (i:Nat) {oi:Oper} (v:Value) {fuel:Nat} {listed:Array Bool} {a:Act} {w:World} (hi:ops[i]? = some oi)
  (hb:(Region.noSelect ops && Region.free md ops listed i && (Region.ready md ops listed).contains i) = true)(hw:Region.wanted oi (yielded ops a.tmps) = true)(hS:S w)
  (hy:∀ w',S w'->(execOp a.eval oi).run P w' = .ok (.value v) w')(hQ:∀ c a w,Q (.panic c) (a.put oi.dst v) w->Q (.panic c) a w)
  (h:wpAnyH P md ops Q S fuel (listed.setIfInBounds i true) (a.put oi.dst v) w):wpAnyH P md ops Q S (fuel + 1) listed a w:=by
 simp only [Bool.and_eq_true] at hb
 exact wpAnyH_take hi hb.1.1 hb.1.2 hb.2 hQ (Or.inl ⟨hw,hy⟩) hS h
theorem sk {P:Program} {md:Region.Mode} {ops:Array Oper} {Q:Exit->Act->World->Prop} {S:World->Prop} (i:Nat) {oi:Oper} {fuel:Nat} {listed:Array Bool} {a:Act} {w:World} (hi:ops[i]? = some oi)
  (hb:(Region.noSelect ops && Region.free md ops listed i && (Region.ready md ops listed).contains i) = true)(hw:Region.wanted oi (yielded ops a.tmps) = false)(hS:S w)
  (hQ:∀ c a w,Q (.panic c) (a.put oi.dst undef) w->Q (.panic c) a w)
  (h:wpAnyH P md ops Q S fuel (listed.setIfInBounds i true) (a.put oi.dst undef) w):wpAnyH P md ops Q S (fuel + 1) listed a w:=by
 simp only [Bool.and_eq_true] at hb
 exact wpAnyH_take hi hb.1.1 hb.1.2 hb.2 hQ (Or.inr ⟨hw,rfl⟩) hS h
abbrev eG:=@List.getElem?_eq_getElem
abbrev gD:=@List.getD_eq_getElem?_getD
abbrev nR:=@Nat.le_refl
abbrev dT:=@decide_eq_true
abbrev dF:=@decide_eq_false
abbrev zP:=@Nat.eq_zero_or_pos
abbrev sN:=@List.getElem?_set_ne
abbrev mG:=@List.mem_of_getElem?
abbrev sI:=@List.getElem?_eq_some_iff
abbrev aI:=@And.intro
abbrev lL:=@Nat.lt_of_le_of_lt
abbrev nI:=@List.getElem?_eq_none_iff
abbrev tL:=@List.take_of_length_le
abbrev dN:=@List.drop_eq_nil_of_le
abbrev iI:=@IntWalk.i64_in
def Hd (p:Prop):Prop:=p
theorem Hd.o {p:Prop} (h:Hd p):p:=h
theorem aH {p:Prop} (h:p):Hd p:=h
end Go.Proofs.YtkdhppimhdemjaaGreat
