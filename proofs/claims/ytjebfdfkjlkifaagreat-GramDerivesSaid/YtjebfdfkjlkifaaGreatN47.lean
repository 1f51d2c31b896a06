/- Lemmas. -/
import Derived.Test.YtjebfdfkjlkifaaGreatN43
import Derived.Test.YtjebfdfkjlkifaaGreatN44
import Derived.Test.YtjebfdfkjlkifaaGreatN45
set_option linter.all false
set_option maxRecDepth 1000000
set_option maxHeartbeats 32000000
namespace Go.Proofs.YtjebfdfkjlkifaaGreat
open Go.RowKit
theorem iZ {V : Int} {gs : List Gr} {a : Raw} {rs : List Raw} (h : da V gs a rs = true) : df V gs = true /\ rs.length <= 8 /\ a.thin = true /\ rs.all Raw.thin = true := by
 unfold da at h
 simp only [Bool.and_eq_true, decide_eq_true_eq] at h
 exact ⟨h.1, h.2.1, h.2.2.1, h.2.2.2⟩
theorem LangAt.of {w : World} {lv : Value} {V : Int} {gs : List Gr} {s : Bool} {A A' : Option Addr} {m c m' c' : Nat} {mv : Value} {am : Raw} {rs : List Raw} (hg : GramsAt w lv gs) (ha : RawAt w (.agg #[.bool s, .slice A m c, .slice A' m' c']) am) (hm : RawsAt w mv rs) (h : da V gs am rs = true) : LangAt w lv gs s A A' m c m' c' am.q mv (rs.map Raw.q) :=
 ⟨hg, ha.frac (iZ h).2.2.1, hm.fracs (iZ h).2.2.2, by rw [List.length_map]; have := (iZ h).2.1; omega⟩

theorem map_set {f f' : Nat -> Value} {n y : Nat} (h : ∀ x, x < n -> x ≠ y -> f' x = f x) {u : Value} (hu : f' y = u) : ((List.range n).map f).set y u = (List.range n).map f' := by
 apply List.ext_getElem?
 intro i
 by_cases hi : i < n
 ·by_cases hy : y = i
  ·subst hy
   rw [List.getElem?_set_self (by simpa using hi), List.getElem?_map, List.getElem?_range hi, <- hu]
   rfl
  rw [sN hy, List.getElem?_map, List.getElem?_map, List.getElem?_range hi]
  show some (f i) = some (f' i)
  rw [h i hi (fun e => hy e.symm)]
 rw [nI.2 (by simp; omega), nI.2 (by simp; omega)]
def CntAt (w : World) (b v : Nat) (C : Int -> Int) : Prop := Blk w b 3 ((List.range (v + 1)).map fun (x : Nat) => .int .i64 (C (x : Int)))
theorem CntAt.cell {w : World} {b v : Nat} {C : Int -> Int} (h : CntAt w b v C) {x : Nat} (hx : x < v + 1) : w.cell? ⟨b, x, none⟩ = some (.int .i64 (C (x : Int))) := by
 have := Blk.cell h x
 rwa [List.getElem?_map, List.getElem?_range hx] at this
theorem ko (w : World) (z : Int) (h0 : 0 <= z) (h1 : z < 9223372036854775808) :
  Calls Tryz.prog 33 #[.int .i64 z] w fun e w' => ∃ u, e = .returned u /\ CanNew w.heap.size w' u (z : Rat) /\ Below w.heap.size w w' := by
 obtain ⟨n, rfl⟩ := Int.eq_ofNat_of_zero_le h0
 have := ofR w n (by omega)
 rwa [show ((n : Int) : Rat) = (n : Rat) from Rat.intCast_natCast n]
theorem QB.sub {j k : Nat} {a b : Rat} (ha : QB j a) (hb : QB k b) : QB (j + k + 1) (a - b) := by
 rw [Rat.sub_eq_add_neg]
 exact ha.add hb.neg
end Go.Proofs.YtjebfdfkjlkifaaGreat
