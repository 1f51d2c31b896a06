/- GramClassed: for every language model, all classes and every history the law returns true, and its arguments read as before. No condition. -/
import Derived.Test.YtjebfdfkjlkifaaGreatRows
import Derived.Test.YtjebfdfkjlkifaaGreatO53
import Derived.ProofKit
import Derived.OpenShut
import Derived.ChangeOld
import Derived.Below
import Derived.Test.YtjebfdfkjlkifaaGreatN41
set_option linter.all false
set_option maxRecDepth 1000000
set_option maxHeartbeats 32000000
namespace Go.Proofs.YtjebfdfkjlkifaaGreat
open Go.RowKit
structure RRule where
 f : Int
 w : Int
 t : Int
 r : Raw
def RRule.rule (x : RRule) : bP := ⟨x.f, x.w, x.t, x.r.q⟩
def RRule.thin (x : RRule) : Bool := x.r.thin
def RRulesAt (w : World) (v : Value) (rs : List RRule) : Prop := ∃ cells, Sl w 6 v rs.length cells /\ ∀ (i : Nat) (r : RRule), rs[i]? = some r -> ∃ vn vd, cells[i * 6]? = some (.int .i64 r.f) /\ cells[i * 6 + 1]? = some (.int .i64 r.w) /\ cells[i * 6 + 2]? = some (.int .i64 r.t) /\
 cells[i * 6 + 3]? = some (.bool r.r.neg) /\ cells[i * 6 + 4]? = some vn /\ cells[i * 6 + 5]? = some vd /\ DigAt w vn r.r.n /\ DigAt w vd r.r.d
theorem RRulesAt.below {w w' : World} {v : Value} {rs : List RRule} (h : RRulesAt w v rs) (hb : Below w.heap.size w w') : RRulesAt w' v rs := by
 obtain ⟨cells, h1, h2⟩ := h
 refine ⟨cells, h1.below hb, fun i r hr => ?_⟩
 obtain ⟨vn, vd, e0, e1, e2, e3, e4, e5, hn, hd⟩ := h2 i r hr
 exact ⟨vn, vd, e0, e1, e2, e3, e4, e5, hn.below hb, hd.below hb⟩
theorem RRulesAt.rules {w : World} {v : Value} {rs : List RRule} (h : RRulesAt w v rs) (ht : rs.all RRule.thin = true) : RulesAt 64 w v (rs.map RRule.rule) := by
 obtain ⟨cells, h1, h2⟩ := h
 refine ⟨cells, by rw [List.length_map]; exact h1, fun i q hq => ?_⟩
 rw [List.getElem?_map] at hq
 cases hr : rs[i]? with
 | none => rw [hr] at hq; cases hq
 | some r =>
  rw [hr] at hq
  cases hq
  obtain ⟨vn, vd, e0, e1, e2, e3, e4, e5, hn, hd⟩ := h2 i r hr
  exact ⟨_, _, _, e0, e1, e2, e3, e4, e5, RawAt.frac ⟨vn, vd, rfl, hn, hd⟩ (List.all_eq_true.1 ht r (mG hr))⟩
theorem RRulesAt.open_ {w : World} {v : Value} {rs : List RRule} (h : RRulesAt w v rs) : ∃ A c, v = .slice A rs.length c /\ rs.length <= c /\ c <= 9223372036854775807 /\
  ∀ (j : Nat) (r : RRule), rs[j]? = some r -> ∃ b off An nc Ad dc, A = some ⟨b, off, none⟩ /\ b < w.heap.size /\ w.cell? ⟨b, off + j * 6, none⟩ = some (.int .i64 r.f) /\ w.cell? ⟨b, off + j * 6 + 1, none⟩ = some (.int .i64 r.w) /\ w.cell? ⟨b, off + j * 6 + 2, none⟩ = some (.int .i64 r.t) /\
   w.cell? ⟨b, off + j * 6 + 3, none⟩ = some (.bool r.r.neg) /\ w.cell? ⟨b, off + j * 6 + 4, none⟩ = some (.slice An r.r.n.length nc) /\ w.cell? ⟨b, off + j * 6 + 5, none⟩ = some (.slice Ad r.r.d.length dc) := by
 obtain ⟨cells, h1, h2⟩ := h
 obtain ⟨h0, A, c, rfl, hc, hm, h5⟩ := h1
 refine ⟨A, c, rfl, hc, by unfold maxLen at hm; omega, fun j x hx => ?_⟩
 have hj := (sI.1 hx).1
 obtain ⟨b, off, e, hlt, hcell⟩ := h5 (by omega)
 obtain ⟨vn, vd, e0, e1, e2, e3, e4, e5, hn, hd⟩ := h2 j x hx
 obtain ⟨_, An, nc, rfl, _⟩ := hn.open_
 obtain ⟨_, Ad, dc, rfl, _⟩ := hd.open_
 exact ⟨b, off, An, nc, Ad, dc, e, hlt, hcell _ _ e0, by rw [Nat.add_assoc]; exact hcell _ _ e1, by rw [Nat.add_assoc]; exact hcell _ _ e2, by rw [Nat.add_assoc]; exact hcell _ _ e3, by rw [Nat.add_assoc]; exact hcell _ _ e4, by rw [Nat.add_assoc]; exact hcell _ _ e5⟩
section
open Go.RowKit Go.ChangeShapes Go.WideShapes Go.Deep Go.Joins

theorem array2 {α : Type} {cs : Array α} (h : cs.size = 2) : ∃ c0 c1, cs = #[c0, c1] := by
 obtain ⟨l⟩ := cs
 match l, h with
 | [c0, c1], _ => exact ⟨c0, c1, rfl⟩
theorem open_classes {H : Type} {enc : TypeId × Value -> H} {W : World} {held : Bool} {v : Value} {d : DataW H} {ps : List MemPlace} {r : Reach} {b0 : Nat}
  (hv : Value.okWide Tryz.prog W r b0 94 v) (h : DataW.Trod enc Tryz.prog W 0 (fun _ => true) held 94 v d ps) :
  ∃ (ov iv : Value) (cs : List Int) (rs : List Raw), v = .agg #[ov, iv] /\ IntsAt W ov cs /\ RawsAt W iv rs := by
 have ci : Tryz.prog.cellsOf 44 = 1 := by kernel_rfl
 have cf : Tryz.prog.cellsOf 41 = 1 := by kernel_rfl
 have cl : Tryz.prog.cellsOf 94 = 2 := by kernel_rfl
 obtain ⟨cs, rfl, hsz⟩ := okWide_struct Tryz.underlying94 hv
 obtain ⟨c0, c1, rfl⟩ := array2 (hsz.trans cl)
 obtain ⟨fuel, hf⟩ := h
 obtain ⟨y0, y1, n, _, _, h0, h1⟩ := trod_struct2 Tryz.underlying94 hf
 simp [Value.cells, ci, cf] at h0 h1
 have e0 : ∃ A m c, c0 = .slice A m c := by
  rcases open_ints Tryz.underlying44 Tryz.underlying3 (by kernel_rfl) h0 with ⟨hc, _⟩ | ⟨a', len, cap, zs, hc, _⟩
  ·simp at hc
   exact ⟨_, _, _, hc⟩
  simp at hc
  exact ⟨_, _, _, hc⟩
 obtain ⟨A, m, c, rfl⟩ := e0
 obtain ⟨l, hl⟩ := kR h0
 obtain ⟨rs, hrs⟩ := pW h1
 exact ⟨_, _, l, rs, rfl, hl, hrs⟩
end
end Go.Proofs.YtjebfdfkjlkifaaGreat
namespace Go.Proofs.YtjebfdfkjlkifaaGreat.gramClassed
open Go.ChangeShapes Go.WideShapes Go.ChangeAt Go.RowKit
open Go.Proofs.YtjebfdfkjlkifaaGreat

theorem own : ownKnob Tryz.prog.godebug = none := by kernel_rfl
theorem laidOut : laidOutB Tryz.prog = true := by kernel_rfl

theorem lifted (hsort : ma) (os : Os) (started : os.Started) (H : Type) (enc : TypeId × Value -> H) :
  ReturnsInHanded {} Tryz.checked os 14 .any (Rows.gramClassedSpec.pre6 enc Tryz.prog Tryz.f14 Rows.gramClassedRow.domain false) (Rows.gramClassedSpec.post enc Tryz.prog Tryz.f14 false true false false) := by
 refine returnsInHanded_of_change (C := Tryz.checked) own started (by kernel_rfl) Tryz.func14
  (ChangeSpec.witness6 (enc := enc) (C := Tryz.checked) false ⟨#[], #[.agg #[.int .i64 0, .int .i64 0, .slice none 0 0, .int .i64 0, .bool false, .slice none 0 0, .slice none 0 0, .slice none 0 0], .agg #[.slice none 0 0, .slice none 0 0], .slice none 0 0], []⟩ 8 (by kernel_rfl) (by kernel_rfl) (by kernel_rfl) (by kernel_rfl)) ?_
 intro W base args ds gs before hval0 hW _ _
 have hval : ∀ (j : Nat) t v, Tryz.f14.params[j]? = some t -> args[j]? = some v -> Value.okWide Tryz.prog W .any base t v := hval0
 have hW' := hW
 obtain ⟨p, q, hA0, hV, rfl, hfz, hnd⟩ := hW
 have hA : DataW.TrodAll enc Tryz.prog W 0 (fun _ => true) true Tryz.f14.params.toList args.toList ds p := hA0
 rw [Tryz.params14] at hA hval
 obtain ⟨v0, vs0, d0, ds0, p0, q0, hargs, rfl, rfl, h0, r0⟩ := trodAll_cons hA
 obtain ⟨v1, vs1, d1, ds1, p1, q1, rfl, rfl, rfl, h1, r1⟩ := trodAll_cons r0
 obtain ⟨v2, vs2, d2, ds2, p2, q2, rfl, rfl, rfl, h2, r2⟩ := trodAll_cons r1
 obtain ⟨rfl, rfl, rfl⟩ := trodAll_nil r2
 obtain rfl : args = #[v0, v1, v2] := by cases args; simp_all
 obtain ⟨rfl, rfl⟩ := trodVars_none hV
 have k0 := h0
 have lt0 : ∀ x ∈ p0, x.block < W.heap.size := by obtain ⟨m, hm⟩ := k0; exact DataW.trod_lt m _ _ _ hm
 obtain ⟨O0, V0, Al0, n0, cl0, gs0, k_0, s0, A0, A0', m0, c0, m0', c0', mv0, am0, rs0, rfl, hn0, hg0, ha0, hm0, hO0, hO0'⟩ := qe (hval 0 43 v0 rfl rfl) h0
 have k1 := h1
 have lt1 : ∀ x ∈ p1, x.block < W.heap.size := by obtain ⟨m, hm⟩ := k1; exact DataW.trod_lt m _ _ _ hm
 obtain ⟨ov1, iv1, cs1, rc1, rfl, ho1, hi1⟩ := open_classes (hval 1 94 v1 rfl rfl) h1
 obtain ⟨a2, len2, cap2, rfl⟩ := okWide_slice Tryz.underlying44 (hval 2 44 v2 rfl rfl)
 have k2 := h2
 have lt2 : ∀ x ∈ p2, x.block < W.heap.size := by obtain ⟨m, hm⟩ := k2; exact DataW.trod_lt m _ _ _ hm
 obtain ⟨hl2, hh2⟩ : ∃ l : List Int, IntsAt W (.slice a2 len2 cap2) l := by
  obtain ⟨m, hm⟩ := h2
  exact kR (by simpa [Value.cells] using hm)
 clear hA0 hval0
 refine (gramClassedG hsort W O0 V0 Al0 n0 cl0 gs0 k_0 s0 A0 A0' m0 c0 m0' c0' mv0 am0 rs0 ov1 iv1 cs1 rc1 _ hl2 hg0 ha0 hm0 ho1 hi1 hh2 ⟨hO0, hO0'⟩).mono fun e W' ⟨he, bel⟩ => ?_
 subst he
 exact ⟨_, rfl, _, _, _, [], _, [], hW', trodAll_mk1 (shut_bool Tryz.underlying4 _), (trodAll_cons_mk (Below.trod laidOut (by kernel_rfl) (of_decide_eq_true (by kernel_rfl)) k0 bel lt0) (trodAll_cons_mk (Below.trod laidOut (by kernel_rfl) (of_decide_eq_true (by kernel_rfl)) k1 bel lt1) (trodAll_cons_mk (Below.trod laidOut (by kernel_rfl) (of_decide_eq_true (by kernel_rfl)) k2 bel lt2) trodAll_mk0))), rfl, bel.frame _, fun h => by cases h⟩

theorem over (hsort : ma) : Rows.GramClassedSaid :=
 OpenClaim.holds_of_wide 14 Tryz.f14 rfl rfl rfl rfl rfl rfl rfl ⟨rfl, rfl, rfl, rfl, rfl⟩ rfl rfl rfl rfl rfl (by kernel_rfl) Tryz.func14 (by kernel_rfl)
  (of_decide_eq_true (by kernel_rfl)) (by unfold Func.isWrapper; first | (rw [if_pos (by decide +kernel)]; kernel_rfl) | (rw [if_neg (by decide +kernel)]; exact ⟨rfl, rfl⟩))
  (fun os started H enc _ => lifted hsort os started H enc)
end Go.Proofs.YtjebfdfkjlkifaaGreat.gramClassed
namespace Go.Proofs.YtjebfdfkjlkifaaGreat
open Go.RowKit
theorem gramClassed_holds : Rows.GramClassedSaid := gramClassed.over wy
end Go.Proofs.YtjebfdfkjlkifaaGreat
