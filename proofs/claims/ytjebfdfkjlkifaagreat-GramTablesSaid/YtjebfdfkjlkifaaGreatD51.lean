/- Lemmas on the way: Tg1, Dat2, Fr3. -/
import Derived.Test.YtjebfdfkjlkifaaGreatD50
import Derived.Deep.SlicePairs
import Derived.Lib.SmallJoins
import Derived.Test.YtjebfdfkjlkifaaGreatRows
import Derived.ProofKit
import Derived.OpenShut
import Derived.ChangeOld
import Derived.Below
set_option linter.unusedSimpArgs false
set_option linter.unusedVariables false
set_option linter.unusedSectionVars false
set_option linter.unnecessarySimpa false
namespace Go.Proofs.YtjebfdfkjlkifaaGreat
open Go.RowKit
theorem gramTablesG (hsort : SortOk) (w : World) (o V p U least : Int) (A B : Option Addr) (c d L M : Nat) (gs hs : List Gr) (ht : GramsAt w (.slice A L c) gs) (hu : GramsAt w (.slice B M d) hs) (hL : gs.length = L) (hM : hs.length = M) :
  Calls Tryz.prog 16 #[.agg #[.int .i64 o, .int .i64 V, .slice A L c], .agg #[.int .i64 p, .int .i64 U, .slice B M d], .int .i64 least] w fun e w' => e = .returned (.bool true) ∧ Below w.heap.size w w' := by
 cases hB : smallB V gs && smallB U hs with
 | false => exact gramTablesOut hsort w o V p U least A B c d L M gs hs ht hu hL hM hB
 | true => exact gramTablesIn hsort w o V p U least A B c d L M gs hs ht hu hL hM hB
section
open Go.RowKit Go.ChangeShapes Go.WideShapes Go.Deep Go.Joins

theorem ints_trod {H : Type} {enc : TypeId × Value → H} {W : World} {held : Bool} {fuel : Nat} {v : Value} {x : DataW H × List MemPlace}
  (h : DataW.trod enc Tryz.prog W 0 (fun _ => true) held fuel 44 [v] = some x) : ∃ l : List Int, IntsAt W v l := by
 rcases open_ints Tryz.underlying44 Tryz.underlying3 (by kernel_rfl) h with ⟨hc, _⟩ | ⟨a', len, cap, zs, hc, _, h1, h2, h3, _, h4, _⟩
 ·simp at hc
  subst hc
  exact ⟨[], IntsAt.nil_ _⟩
 ·simp at hc
  subst hc
  simp only [if_true] at h3
  exact ⟨zs.take len, ints_row h1 h2 h3 (fun h => by cases h) (fun a ha c hc => by cases ha; exact h4 c (by omega))⟩

theorem grams_trod {H : Type} {enc : TypeId × Value → H} {W : World} {held : Bool} {fuel : Nat} {v : Value} {x : DataW H × List MemPlace}
  (h : DataW.trod enc Tryz.prog W 0 (fun _ => true) held fuel 25 [v] = some x) : ∃ (A : Option Addr) (n c : Nat) (gs : List Gr), v = .slice A n c ∧ gs.length = n ∧ GramsAt W v gs := by
 rcases open_slice_pairs Tryz.underlying25 Tryz.underlying51 (by kernel_rfl) rfl rfl (by kernel_rfl) (by kernel_rfl) h with ⟨hc, _⟩ | ⟨a, len, cap, m, k, V0, V1, D0, D1, P0, P1, hc, _, hl, hm, hmm, _, hall⟩
 ·simp at hc
  subst hc
  exact ⟨none, 0, 0, [], rfl, rfl, grams_nil _⟩
 ·simp at hc
  subst hc
  simp only [if_true] at hmm
  have key : ∀ i, ∃ g : Gr, i < m → V1 i = .int .i64 g.2 ∧ IntsAt W (V0 i) g.1 := by
   intro i
   by_cases hi : i < m
   ·obtain ⟨_, _, t0, t1⟩ := hall i hi
    obtain ⟨l, hl⟩ := ints_trod t0
    obtain ⟨z, hz, _⟩ := DataW.trod_int Tryz.underlying3 t1
    refine ⟨(l, z), fun _ => ⟨?_, hl⟩⟩
    simpa using hz
   ·exact ⟨([], 0), fun h => absurd h hi⟩
  obtain ⟨G, hG⟩ := Classical.axiomOfChoice key
  have hlen : (List.range len).length = len := List.length_range
  refine ⟨some a, len, cap, (List.range len).map G, rfl, by simp, ?_⟩
  obtain ⟨b, off, s⟩ := a
  refine ⟨(List.range (len * 2)).map fun j => if j % 2 = 0 then V0 (j / 2) else V1 (j / 2), ⟨by simp, some ⟨b, off, s⟩, cap, by simp, by simpa using hl, hm, fun hn => ?_⟩, fun i g hg => ?_⟩
  ·have hn' : 0 < len := by simpa using hn
   have h0 := (hall 0 (by omega)).1
   have hs : s = none := by simpa [Addr.add] using World.cell?_spot h0
   subst hs
   rw [add_plain] at h0
   refine ⟨b, off, rfl, block_lt_of_cell h0, fun j u hu => ?_⟩
   rw [List.getElem?_map] at hu
   by_cases hj : j < len * 2
   ·rw [List.getElem?_range hj] at hu
    obtain rfl := Option.some.inj hu
    have hx := hall (j / 2) (by omega)
    show _ = some (if j % 2 = 0 then V0 (j / 2) else V1 (j / 2))
    split
    ·have := hx.1
     rw [add_plain, show j / 2 * 2 = j by omega] at this
     exact this
    ·have := hx.2.1
     rw [add_plain, show j / 2 * 2 + 1 = j by omega] at this
     exact this
   ·rw [List.getElem?_eq_none_iff.2 (by simpa using hj)] at hu
    cases hu
  ·rw [List.getElem?_map] at hg
   by_cases hi : i < len
   ·rw [List.getElem?_range hi] at hg
    obtain rfl := Option.some.inj hg
    obtain ⟨g1, g2⟩ := hG i (by omega)
    refine ⟨V0 i, ?_, ?_, g2⟩
    ·rw [List.getElem?_map, List.getElem?_range (by omega), Option.map_some, if_pos (by omega), show i * 2 / 2 = i by omega]
    ·rw [List.getElem?_map, List.getElem?_range (by omega), Option.map_some, if_neg (by omega), show (i * 2 + 1) / 2 = i by omega, g1]
   ·rw [List.getElem?_eq_none_iff.2 (by simpa using hi)] at hg
    cases hg

set_option maxRecDepth 100000 in
theorem open_table {H : Type} {enc : TypeId × Value → H} {W : World} {held : Bool} {v : Value} {d : DataW H} {ps : List MemPlace} {r : Reach} {b0 : Nat}
  (hv : Value.okWide Tryz.prog W r b0 27 v) (h : DataW.Trod enc Tryz.prog W 0 (fun _ => true) held 27 v d ps) :
  ∃ (o V : Int) (A : Option Addr) (n c : Nat) (gs : List Gr), v = .agg #[.int .i64 o, .int .i64 V, .slice A n c] ∧ gs.length = n ∧ GramsAt W (.slice A n c) gs := by
 obtain ⟨c0, c1, c2, y0, y1, y2, m, rfl, _, _, h0, h1, h2⟩ := open_agg3 Tryz.underlying27 (by kernel_rfl) (by kernel_rfl) hv h
 obtain ⟨o, ho, _⟩ := DataW.trod_int Tryz.underlying3 h0
 obtain ⟨V, hV, _⟩ := DataW.trod_int Tryz.underlying3 h1
 obtain ⟨A, n, c, gs, rfl, hn, hg⟩ := grams_trod h2
 simp at ho hV
 subst ho
 subst hV
 exact ⟨o, V, A, n, c, gs, rfl, hn, hg⟩
end
end Go.Proofs.YtjebfdfkjlkifaaGreat
namespace Go.Proofs.YtjebfdfkjlkifaaGreat.gramTables
open Go.ChangeShapes Go.WideShapes Go.ChangeAt Go.RowKit
open Go.Proofs.YtjebfdfkjlkifaaGreat

theorem own : ownKnob Tryz.prog.godebug = none := by kernel_rfl
theorem laidOut : laidOutB Tryz.prog = true := by kernel_rfl

set_option maxRecDepth 100000 in
theorem lifted (hsort : SortOk) (os : Os) (started : os.Started) (H : Type) (enc : TypeId × Value → H) :
  ReturnsInHanded {} Tryz.checked os 16 .any (Rows.gramTablesSpec.pre6 enc Tryz.prog Tryz.f16 Rows.gramTablesRow.domain false) (Rows.gramTablesSpec.post enc Tryz.prog Tryz.f16 false true false false) := by
 refine returnsInHanded_of_change (C := Tryz.checked) own started (by kernel_rfl) Tryz.func16
  (ChangeSpec.witness6 (enc := enc) (C := Tryz.checked) false ⟨#[], #[.agg #[.int .i64 0, .int .i64 0, .slice none 0 0], .agg #[.int .i64 0, .int .i64 0, .slice none 0 0], .int .i64 0], []⟩ 8 (by kernel_rfl) (by kernel_rfl) (by kernel_rfl) (by kernel_rfl)) ?_
 intro W base args ds gs before hval0 hW _ _
 have hval : ∀ (j : Nat) t v, Tryz.f16.params[j]? = some t → args[j]? = some v → Value.okWide Tryz.prog W .any base t v := hval0
 have hW' := hW
 obtain ⟨p, q, hA0, hV, rfl, hfz, hnd⟩ := hW
 have hA : DataW.TrodAll enc Tryz.prog W 0 (fun _ => true) true Tryz.f16.params.toList args.toList ds p := hA0
 rw [Tryz.params16] at hA hval
 obtain ⟨v0, vs0, d0, ds0, p0, q0, hargs, rfl, rfl, h0, r0⟩ := trodAll_cons hA
 obtain ⟨v1, vs1, d1, ds1, p1, q1, rfl, rfl, rfl, h1, r1⟩ := trodAll_cons r0
 obtain ⟨v2, vs2, d2, ds2, p2, q2, rfl, rfl, rfl, h2, r2⟩ := trodAll_cons r1
 obtain ⟨rfl, rfl, rfl⟩ := trodAll_nil r2
 obtain rfl : args = #[v0, v1, v2] := by cases args; simp_all
 obtain ⟨rfl, rfl⟩ := trodVars_none hV
 obtain ⟨a2, rfl, rfl, rfl, w2⟩ := open_int Tryz.underlying3 (hval 2 3 v2 rfl rfl) h2
 have k0 := h0
 have lt0 : ∀ x ∈ p0, x.block < W.heap.size := by obtain ⟨m, hm⟩ := k0; exact DataW.trod_lt m _ _ _ hm
 have k1 := h1
 have lt1 : ∀ x ∈ p1, x.block < W.heap.size := by obtain ⟨m, hm⟩ := k1; exact DataW.trod_lt m _ _ _ hm
 obtain ⟨o, V, A, L, c, gs, rfl, hL, ht⟩ := open_table (hval 0 27 v0 rfl rfl) h0
 obtain ⟨p', U, B, M, d', hs, rfl, hM, hu⟩ := open_table (hval 1 27 v1 rfl rfl) h1
 clear hA0 hval0
 refine (gramTablesG hsort W o V p' U a2 A B c d' L M gs hs ht hu hL hM).mono fun e W' ⟨he, bel⟩ => ?_
 subst he
 exact ⟨_, rfl, _, _, _, [], _, [], hW', trodAll_mk1 (shut_bool Tryz.underlying4 _), (trodAll_cons_mk (Below.trod laidOut (by kernel_rfl) (of_decide_eq_true (by kernel_rfl)) k0 bel lt0) (trodAll_cons_mk (Below.trod laidOut (by kernel_rfl) (of_decide_eq_true (by kernel_rfl)) k1 bel lt1) (trodAll_cons_mk (shut_int Tryz.underlying3 w2) trodAll_mk0))), rfl, bel.frame _, fun h => by cases h⟩

theorem over (hsort : SortOk) : Rows.GramTablesSaid :=
 OpenClaim.holds_of_wide 16 Tryz.f16 rfl rfl rfl rfl rfl rfl rfl ⟨rfl, rfl, rfl, rfl, rfl⟩ rfl rfl rfl rfl rfl (by kernel_rfl) Tryz.func16 (by kernel_rfl)
  (of_decide_eq_true (by kernel_rfl)) (by unfold Func.isWrapper; first | (rw [if_pos (by decide +kernel)]; kernel_rfl) | (rw [if_neg (by decide +kernel)]; exact ⟨rfl, rfl⟩))
  (fun os started H enc _ => lifted hsort os started H enc)
end Go.Proofs.YtjebfdfkjlkifaaGreat.gramTables
