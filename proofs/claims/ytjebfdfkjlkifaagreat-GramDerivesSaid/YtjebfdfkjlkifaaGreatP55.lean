/- GramDerives: for every grammar and every list of rules the law returns true, and its arguments read as before. No condition. -/
import Derived.Test.YtjebfdfkjlkifaaGreatN46
import Derived.Test.YtjebfdfkjlkifaaGreatRows
import Derived.Test.YtjebfdfkjlkifaaGreatP54
import Derived.ProofKit
import Derived.OpenShut
import Derived.ChangeOld
import Derived.Below
import Derived.Test.YtjebfdfkjlkifaaGreatN41
set_option linter.all false
set_option maxRecDepth 1000000
set_option maxHeartbeats 32000000
namespace Go.Proofs.YtjebfdfkjlkifaaGreat
open Go.RowKit
section
open Go.RowKit Go.ChangeShapes Go.WideShapes Go.Deep Go.Joins

theorem list6 {α : Type} {l : List α} (h : l.length = 6) : ∃ c0 c1 c2 c3 c4 c5, l = [c0, c1, c2, c3, c4, c5] := by
 match l, h with
 | [c0, c1, c2, c3, c4, c5], _ => exact ⟨c0, c1, c2, c3, c4, c5, rfl⟩
theorem array3 {α : Type} {cs : Array α} (h : cs.size = 3) : ∃ c0 c1 c2, cs = #[c0, c1, c2] := by
 obtain ⟨l⟩ := cs
 match l, h with
 | [c0, c1, c2], _ => exact ⟨c0, c1, c2, rfl⟩
theorem rule_trod {H : Type} {enc : TypeId × Value -> H} {W : World} {held : Bool} {fuel : Nat} {cs : List Value} {x : DataW H × List MemPlace}
  (h : DataW.trod enc Tryz.prog W 0 (fun _ => true) held fuel 111 cs = some x) : ∃ (r : RRule) (vn vd : Value), cs = [.int .i64 r.f, .int .i64 r.w, .int .i64 r.t, .bool r.r.neg, vn, vd] /\ DigAt W vn r.r.n /\ DigAt W vd r.r.d := by
 obtain ⟨y0, y1, y2, y3, n, _, hl, h0, h1, h2, h3⟩ := trod_struct4 Tryz.underlying111 h
 have ci : Tryz.prog.cellsOf 3 = 1 := by kernel_rfl
 have cf : Tryz.prog.cellsOf 40 = 3 := by kernel_rfl
 have cp : Tryz.prog.cellsOf 111 = 6 := by kernel_rfl
 rw [cp] at hl
 obtain ⟨c0, c1, c2, c3, c4, c5, rfl⟩ := list6 hl
 simp [ci, cf] at h0 h1 h2 h3
 obtain ⟨f, hf, _⟩ := DataW.trod_int Tryz.underlying3 h0
 obtain ⟨wd, hw, _⟩ := DataW.trod_int Tryz.underlying3 h1
 obtain ⟨t, ht, _⟩ := DataW.trod_int Tryz.underlying3 h2
 obtain ⟨r, vn, vd, hc, hn, hd⟩ := kV h3
 simp at hf hw ht hc
 subst hf
 subst hw
 subst ht
 obtain ⟨rfl, rfl, rfl⟩ := hc
 exact ⟨⟨f, wd, t, r⟩, _, _, rfl, hn, hd⟩
theorem rrules_trod {H : Type} {enc : TypeId × Value -> H} {W : World} {held : Bool} {fuel : Nat} {v : Value} {x : DataW H × List MemPlace}
  (h : DataW.trod enc Tryz.prog W 0 (fun _ => true) held fuel 71 [v] = some x) : ∃ A n c rs, v = .slice A n c /\ rs.length = n /\ RRulesAt W (.slice A n c) rs := by
 have cf : Tryz.prog.cellsOf 111 = 6 := by kernel_rfl
 rcases open_slice Tryz.underlying71 h with ⟨hc, _⟩ | ⟨a, len, cap, m, n, D, Pl, hc, _, hl, hm, hmm, _, hall⟩
 ·simp at hc
  subst hc
  exact ⟨none, 0, 0, [], rfl, rfl, [], Sl.nil_ _ _, fun i r hr => by simp at hr⟩
 simp at hc
 subst hc
 simp only [if_true] at hmm
 have key : ∀ i, ∃ q : RRule × Value × Value, i < m -> W.cell? (a.add (i * 6)) = some (.int .i64 q.1.f) /\ W.cell? (a.add (i * 6 + 1)) = some (.int .i64 q.1.w) /\ W.cell? (a.add (i * 6 + 2)) = some (.int .i64 q.1.t) /\ W.cell? (a.add (i * 6 + 3)) = some (.bool q.1.r.neg) /\ W.cell? (a.add (i * 6 + 4)) = some q.2.1 /\ W.cell? (a.add (i * 6 + 5)) = some q.2.2 /\ DigAt W q.2.1 q.1.r.n /\ DigAt W q.2.2 q.1.r.d := by
  intro i
  by_cases hi : i < m
  ·obtain ⟨cs', h1, h2⟩ := hall i hi
   rw [cf] at h1
   obtain ⟨_, hlen, hcell⟩ := World.cells?_some h1
   obtain ⟨r, vn, vd, rfl, hn, hd⟩ := rule_trod h2
   have e0 := hcell 0 (by omega)
   have e1 := hcell 1 (by omega)
   have e2 := hcell 2 (by omega)
   have e3 := hcell 3 (by omega)
   have e4 := hcell 4 (by omega)
   have e5 := hcell 5 (by omega)
   rw [add_add] at e0 e1 e2 e3 e4 e5
   exact ⟨(r, vn, vd), fun _ => ⟨by simpa using e0, by simpa using e1, by simpa using e2, by simpa using e3, by simpa using e4, by simpa using e5, hn, hd⟩⟩
  exact ⟨(⟨0, 0, 0, ⟨false, [], []⟩⟩, .bool false, .bool false), fun h => absurd h hi⟩
 obtain ⟨G, hG⟩ := Classical.axiomOfChoice key
 obtain ⟨b, off, s⟩ := a
 refine ⟨some ⟨b, off, s⟩, len, cap, (List.range len).map fun i => (G i).1, rfl, by simp, (List.range (len * 6)).map fun j => if j % 6 = 0 then .int .i64 (G (j / 6)).1.f else if j % 6 = 1 then .int .i64 (G (j / 6)).1.w else if j % 6 = 2 then .int .i64 (G (j / 6)).1.t else if j % 6 = 3 then .bool (G (j / 6)).1.r.neg else if j % 6 = 4 then (G (j / 6)).2.1 else (G (j / 6)).2.2, ⟨by simp, some ⟨b, off, s⟩, cap, by simp, by simpa using hl, hm, fun hn => ?_⟩, fun i r hr => ?_⟩
 ·have hn' : 0 < len := by simpa using hn
  have h0 := (hG 0 (by omega)).1
  have hs : s = none := by simpa [Addr.add] using World.cell?_spot h0
  subst hs
  rw [add_plain] at h0
  refine ⟨b, off, rfl, block_lt_of_cell h0, fun j u hu => ?_⟩
  rw [List.getElem?_map] at hu
  by_cases hj : j < len * 6
  ·rw [List.getElem?_range hj] at hu
   obtain rfl := Option.some.inj hu
   obtain ⟨x0, x1, x2, x3, x4, x5, _⟩ := hG (j / 6) (by omega)
   rw [add_plain] at x0 x1 x2 x3 x4 x5
   show _ = some (if j % 6 = 0 then .int .i64 (G (j / 6)).1.f else if j % 6 = 1 then .int .i64 (G (j / 6)).1.w else if j % 6 = 2 then .int .i64 (G (j / 6)).1.t else if j % 6 = 3 then .bool (G (j / 6)).1.r.neg else if j % 6 = 4 then (G (j / 6)).2.1 else (G (j / 6)).2.2)
   split
   ·rw [show j / 6 * 6 = j by omega] at x0; exact x0
   split
   ·rw [show j / 6 * 6 + 1 = j by omega] at x1; exact x1
   split
   ·rw [show j / 6 * 6 + 2 = j by omega] at x2; exact x2
   split
   ·rw [show j / 6 * 6 + 3 = j by omega] at x3; exact x3
   split
   ·rw [show j / 6 * 6 + 4 = j by omega] at x4; exact x4
   rw [show j / 6 * 6 + 5 = j by omega] at x5; exact x5
  rw [nI.2 (by simpa using hj)] at hu
  cases hu
 rw [List.getElem?_map] at hr
 by_cases hi : i < len
 ·rw [List.getElem?_range hi] at hr
  obtain rfl := Option.some.inj hr
  obtain ⟨_, _, _, _, _, _, g3, g4⟩ := hG i (by omega)
  have at_ : ∀ k, k < 6 -> ((List.range (len * 6)).map fun j => if j % 6 = 0 then Value.int .i64 (G (j / 6)).1.f else if j % 6 = 1 then .int .i64 (G (j / 6)).1.w else if j % 6 = 2 then .int .i64 (G (j / 6)).1.t else if j % 6 = 3 then .bool (G (j / 6)).1.r.neg else if j % 6 = 4 then (G (j / 6)).2.1 else (G (j / 6)).2.2)[i * 6 + k]? = some (if k = 0 then .int .i64 (G i).1.f else if k = 1 then .int .i64 (G i).1.w else if k = 2 then .int .i64 (G i).1.t else if k = 3 then .bool (G i).1.r.neg else if k = 4 then (G i).2.1 else (G i).2.2) := fun k hk => by
   rw [List.getElem?_map, List.getElem?_range (by omega), Option.map_some, show (i * 6 + k) % 6 = k by omega, show (i * 6 + k) / 6 = i by omega]
  exact ⟨(G i).2.1, (G i).2.2, at_ 0 (by omega), at_ 1 (by omega), at_ 2 (by omega), at_ 3 (by omega), at_ 4 (by omega), at_ 5 (by omega), g3, g4⟩
 rw [nI.2 (by simpa using hi)] at hr
 cases hr

theorem open_grammar {H : Type} {enc : TypeId × Value -> H} {W : World} {held : Bool} {v : Value} {d : DataW H} {ps : List MemPlace} {r : Reach} {b0 : Nat}
  (hv : Value.okWide Tryz.prog W r b0 73 v) (h : DataW.Trod enc Tryz.prog W 0 (fun _ => true) held 73 v d ps) :
  ∃ (L V : Int) (A : Option Addr) (n c : Nat) (rs : List RRule), v = .agg #[.int .i64 L, .int .i64 V, .slice A n c] /\ rs.length = n /\ RRulesAt W (.slice A n c) rs := by
 have ci : Tryz.prog.cellsOf 3 = 1 := by kernel_rfl
 have cg : Tryz.prog.cellsOf 71 = 1 := by kernel_rfl
 have cl : Tryz.prog.cellsOf 73 = 3 := by kernel_rfl
 obtain ⟨cs, rfl, hsz⟩ := okWide_struct Tryz.underlying73 hv
 obtain ⟨c0, c1, c2, rfl⟩ := array3 (hsz.trans cl)
 obtain ⟨fuel, hf⟩ := h
 obtain ⟨y0, y1, y2, n, _, _, h0, h1, h2⟩ := trod_struct3 Tryz.underlying73 hf
 simp [Value.cells, ci, cg] at h0 h1 h2
 obtain ⟨L, hL, _⟩ := DataW.trod_int Tryz.underlying3 h0
 obtain ⟨V, hV, _⟩ := DataW.trod_int Tryz.underlying3 h1
 obtain ⟨A, n', c, rs, rfl, hn, hr⟩ := rrules_trod h2
 simp at hL hV
 subst hL
 subst hV
 exact ⟨L, V, A, n', c, rs, rfl, hn, hr⟩
end
end Go.Proofs.YtjebfdfkjlkifaaGreat
namespace Go.Proofs.YtjebfdfkjlkifaaGreat.gramDerives
open Go.ChangeShapes Go.WideShapes Go.ChangeAt Go.RowKit
open Go.Proofs.YtjebfdfkjlkifaaGreat

theorem own : ownKnob Tryz.prog.godebug = none := by kernel_rfl
theorem laidOut : laidOutB Tryz.prog = true := by kernel_rfl

theorem lifted (hsort : ma) (os : Os) (started : os.Started) (H : Type) (enc : TypeId × Value -> H) :
  ReturnsInHanded {} Tryz.checked os 15 .any (Rows.gramDerivesSpec.pre6 enc Tryz.prog Tryz.f15 Rows.gramDerivesRow.domain false) (Rows.gramDerivesSpec.post enc Tryz.prog Tryz.f15 false true false false) := by
 refine returnsInHanded_of_change (C := Tryz.checked) own started (by kernel_rfl) Tryz.func15
  (ChangeSpec.witness6 (enc := enc) (C := Tryz.checked) false ⟨#[], #[.agg #[.int .i64 0, .int .i64 0, .slice none 0 0], .slice none 0 0], []⟩ 8 (by kernel_rfl) (by kernel_rfl) (by kernel_rfl) (by kernel_rfl)) ?_
 intro W base args ds gs before hval0 hW _ _
 have hval : ∀ (j : Nat) t v, Tryz.f15.params[j]? = some t -> args[j]? = some v -> Value.okWide Tryz.prog W .any base t v := hval0
 have hW' := hW
 obtain ⟨p, q, hA0, hV, rfl, hfz, hnd⟩ := hW
 have hA : DataW.TrodAll enc Tryz.prog W 0 (fun _ => true) true Tryz.f15.params.toList args.toList ds p := hA0
 rw [Tryz.params15] at hA hval
 obtain ⟨v0, vs0, d0, ds0, p0, q0, hargs, rfl, rfl, h0, r0⟩ := trodAll_cons hA
 obtain ⟨v1, vs1, d1, ds1, p1, q1, rfl, rfl, rfl, h1, r1⟩ := trodAll_cons r0
 obtain ⟨rfl, rfl, rfl⟩ := trodAll_nil r1
 obtain rfl : args = #[v0, v1] := by cases args; simp_all
 obtain ⟨rfl, rfl⟩ := trodVars_none hV
 have k0 := h0
 have lt0 : ∀ x ∈ p0, x.block < W.heap.size := by obtain ⟨m, hm⟩ := k0; exact DataW.trod_lt m _ _ _ hm
 obtain ⟨L0, V0, A0, n0, c0, rr0, rfl, hn0, hr0⟩ := open_grammar (hval 0 73 v0 rfl rfl) h0
 obtain ⟨a1, len1, cap1, rfl⟩ := okWide_slice Tryz.underlying44 (hval 1 44 v1 rfl rfl)
 have k1 := h1
 have lt1 : ∀ x ∈ p1, x.block < W.heap.size := by obtain ⟨m, hm⟩ := k1; exact DataW.trod_lt m _ _ _ hm
 obtain ⟨hl1, hh1⟩ : ∃ l : List Int, IntsAt W (.slice a1 len1 cap1) l := by
  obtain ⟨m, hm⟩ := h1
  exact kR (by simpa [Value.cells] using hm)
 clear hA0 hval0
 refine (gramDerivesG hsort W L0 V0 A0 n0 c0 rr0 _ hl1 hr0 hn0 hh1).mono fun e W' ⟨he, bel⟩ => ?_
 subst he
 exact ⟨_, rfl, _, _, _, [], _, [], hW', trodAll_mk1 (shut_bool Tryz.underlying4 _), (trodAll_cons_mk (Below.trod laidOut (by kernel_rfl) (of_decide_eq_true (by kernel_rfl)) k0 bel lt0) (trodAll_cons_mk (Below.trod laidOut (by kernel_rfl) (of_decide_eq_true (by kernel_rfl)) k1 bel lt1) trodAll_mk0)), rfl, bel.frame _, fun h => by cases h⟩

theorem over (hsort : ma) : Rows.GramDerivesSaid :=
 OpenClaim.holds_of_wide 15 Tryz.f15 rfl rfl rfl rfl rfl rfl rfl ⟨rfl, rfl, rfl, rfl, rfl⟩ rfl rfl rfl rfl rfl (by kernel_rfl) Tryz.func15 (by kernel_rfl)
  (of_decide_eq_true (by kernel_rfl)) (by unfold Func.isWrapper; first | (rw [if_pos (by decide +kernel)]; kernel_rfl) | (rw [if_neg (by decide +kernel)]; exact ⟨rfl, rfl⟩))
  (fun os started H enc _ => lifted hsort os started H enc)
end Go.Proofs.YtjebfdfkjlkifaaGreat.gramDerives
namespace Go.Proofs.YtjebfdfkjlkifaaGreat
open Go.RowKit
theorem gramDerives_holds : Rows.GramDerivesSaid := gramDerives.over wy
end Go.Proofs.YtjebfdfkjlkifaaGreat
