/- Lemmas. -/
import Derived.Test.YtjebfdfkjlkifaaGreatN42
import Derived.Test.YtjebfdfkjlkifaaGreatN38
set_option linter.all false
set_option maxRecDepth 1000000
set_option maxHeartbeats 32000000
namespace Go.Proofs.YtjebfdfkjlkifaaGreat
open Go.RowKit
def aQ (f : Nat -> Rat) : Nat -> Rat
 | 0 => 0
 | n + 1 => aQ f n + f n
theorem qI (l : List Rat) (a : Rat) : l.foldl (· + ·) a = a + bX l := by
 induction l generalizing a with
 | nil => simp only [bX, List.foldl_nil]; rw [Rat.add_zero]
 | cons x l ih =>
  unfold bX at ih ⊢
  rw [List.foldl_cons, List.foldl_cons, ih, ih (0 + x)]
  rw [Rat.zero_add, Rat.add_assoc]
theorem mC (l r : List Rat) : bX (l ++ r) = bX l + bX r := by
 unfold bX
 rw [List.foldl_append, qI r]
 rfl
theorem mB {f g : Nat -> Rat} {n : Nat} (h : ∀ x < n, f x = g x) : aQ f n = aQ g n := by
 induction n with
 | zero => rfl
 | succ n ih =>
  show aQ f n + f n = aQ g n + g n
  rw [ih (fun x hx => h x (by omega)), h n (by omega)]
theorem f8 (f g : Nat -> Rat) (n : Nat) : aQ (fun x => f x + g x) n = aQ f n + aQ g n := by
 induction n with
 | zero => show (0 : Rat) = 0 + 0; rw [Rat.add_zero]
 | succ n ih =>
  show aQ (fun x => f x + g x) n + (f n + g n) = (aQ f n + f n) + (aQ g n + g n)
  rw [ih]
  grind
theorem fL (c : Rat) (n : Nat) : aQ (fun _ => c) n = c * (n : Rat) := by
 induction n with
 | zero => show (0 : Rat) = c * ((0 : Nat) : Rat); rw [show ((0 : Nat) : Rat) = 0 from rfl, Rat.mul_zero]
 | succ n ih =>
  show aQ (fun _ => c) n + c = c * ((n + 1 : Nat) : Rat)
  rw [ih, show ((n + 1 : Nat) : Rat) = (n : Rat) + 1 from by push_cast; rfl, Rat.mul_add, Rat.mul_one]
theorem rI {q : Rat} (h : aU q = 0) : q = 0 := by
 unfold aU at h
 split at h
 ·assumption
 split at h <;> omega
structure xi (w : World) (O v : Nat) (gs : List Gr) (k : Int) (s : Bool) (A A' : Option Addr) (m c m' c' : Nat) (mv : Value) (rw_ : List Int -> List Rat) (T : TypeId) (rv : Nat -> Value) (F : FuncId) : Prop where
 way : ∀ b, fs k b O v s A A' m c m' c' mv = .iface T (rv b)
 meth : ∀ b w, (method 358 T (rv b) "earshot/gram.row").run Tryz.prog w = .ok (F, rv b) w
 nil : ∀ b w, (nilAhead 358 T (rv b) "earshot/gram.row").run Tryz.prog w = .ok (some false) w
 cf : ∀ args w, (callFunc F args).run Tryz.prog w = .ok (.enter F args) w
 row : ∀ b W hv h, LvsAt W b O 0 gs -> Below w.heap.size w W -> IntsAt W hv h -> h.length = O - 1 -> NiceK h -> Calls Tryz.prog F #[rv b, .int .i64 O, hv] W (dj W v (rw_ h))
 qb : ∀ h, ∀ q ∈ rw_ h, QB 5000000 q
 len : ∀ h, (rw_ h).length = v + 1
section
open Go.RowKit
end
section
open Go.RowKit
end
end Go.Proofs.YtjebfdfkjlkifaaGreat
