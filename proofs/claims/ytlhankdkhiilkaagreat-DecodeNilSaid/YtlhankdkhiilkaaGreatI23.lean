/- Lemmas on the way: FArr, Gg1, FArk, Gg3, Sn0. -/
import Derived.Test.YtlhankdkhiilkaaGreatI22
set_option linter.unusedSimpArgs false
set_option linter.unusedVariables false
set_option linter.unusedSectionVars false
set_option linter.unnecessarySimpa false
namespace Go.Proofs.YtlhankdkhiilkaaGreat
open Go.RowKit
section
theorem infoFrac : (Tryz.prog.info? 27).map (fun i => (i.zero, i.size, i.bytes)) = some (some (.agg #[.bool false, .slice none 0 0, .slice none 0 0]), 3, 56) := by kernel_rfl

def FArr (base : Nat) (w : World) (b : Nat) (qs : List Rat) : Prop := b < base ∧ ∃ xs, Blk w b 27 xs ∧ xs.length = qs.length * 3 ∧
 ∀ (i : Nat) (q : Rat), qs[i]? = some q → ∃ A m c A' m' c', xs[i * 3]? = some (.bool (isNeg q)) ∧ xs[i * 3 + 1]? = some (.slice A m c) ∧ xs[i * 3 + 2]? = some (.slice A' m' c') ∧ CanNew base w (.agg #[.bool (isNeg q), .slice A m c, .slice A' m' c']) q
section
variable {base : Nat} {w w' : World} {b : Nat} {qs : List Rat}
theorem FArr.lt (h : FArr base w b qs) : b < w.heap.size := by
 obtain ⟨_, xs, hb, _⟩ := h
 exact hb.lt
theorem FArr.below (h : FArr base w b qs) (hb : Below w.heap.size w w') : FArr base w' b qs := by
 obtain ⟨h0, xs, h1, h2, h3⟩ := h
 refine ⟨h0, xs, h1.below' hb, h2, fun i q hq => ?_⟩
 obtain ⟨A, m, c, A', m', c', e0, e1, e2, e3⟩ := h3 i q hq
 exact ⟨A, m, c, A', m', c', e0, e1, e2, e3.below hb⟩
theorem FArr.drew (h : FArr base w b qs) : FArr base w.drew b qs := h
theorem FArr.get (h : FArr base w b qs) {i : Nat} {q : Rat} (hq : qs[i]? = some q) : ∃ A m c A' m' c', w.cell? ⟨b, i * 3, none⟩ = some (.bool (isNeg q)) ∧ w.cell? ⟨b, i * 3 + 1, none⟩ = some (.slice A m c) ∧ w.cell? ⟨b, i * 3 + 2, none⟩ = some (.slice A' m' c') ∧
  w.frozen? ⟨b, i * 3, none⟩ = false ∧ w.frozen? ⟨b, i * 3 + 1, none⟩ = false ∧ w.frozen? ⟨b, i * 3 + 2, none⟩ = false ∧ CanNew base w (.agg #[.bool (isNeg q), .slice A m c, .slice A' m' c']) q := by
 obtain ⟨_, xs, h1, _, h3⟩ := h
 obtain ⟨A, m, c, A', m', c', e0, e1, e2, e3⟩ := h3 i q hq
 exact ⟨A, m, c, A', m', c', (h1.cell _).trans e0, (h1.cell _).trans e1, (h1.cell _).trans e2, h1.frozen _, h1.frozen _, h1.frozen _, e3⟩
theorem CanNew.far {B : Nat} {v : Value} {q : Rat} (h : CanNew B w v q) {p : Addr} (hp : p.block < B) (u : Value) : CanNew B (w.setCell p u) v q := by
 obtain ⟨vn, vd, e, h1, h2, h3, h4⟩ := h
 exact ⟨vn, vd, e, h1.setFar h3 hp u, h2.setFar h4 hp u, h3, h4⟩
theorem FArr.far (h : FArr base w b qs) {p : Addr} (hp : p.block < base) (hb : b ≠ p.block) (u : Value) : FArr base (w.setCell p u) b qs := by
 obtain ⟨h0, xs, h1, h2, h3⟩ := h
 refine ⟨h0, xs, h1.far hb u, h2, fun i q hq => ?_⟩
 obtain ⟨A, m, c, A', m', c', e0, e1, e2, e3⟩ := h3 i q hq
 exact ⟨A, m, c, A', m', c', e0, e1, e2, e3.far hp u⟩
theorem FArr.put (h : FArr base w b qs) {i : Nat} (hi : i < qs.length) {q : Rat} {s : Bool} {A A' : Option Addr} {m c m' c' : Nat} (hs : s = isNeg q) (hq : CanNew base w (.agg #[.bool s, .slice A m c, .slice A' m' c']) q) :
  FArr base (((w.setCell ⟨b, i * 3, none⟩ (.bool s)).setCell ⟨b, i * 3 + 1, none⟩ (.slice A m c)).setCell ⟨b, i * 3 + 2, none⟩ (.slice A' m' c')) b (qs.set i q) := by
 subst hs
 obtain ⟨h0, xs, h1, h2, h3⟩ := h
 have hset := ((h1.set_ (i * 3) (.bool (isNeg q))).set_ (i * 3 + 1) (.slice A m c)).set_ (i * 3 + 2) (.slice A' m' c')
 refine ⟨h0, _, hset, by simpa using h2, fun j r hr => ?_⟩
 have far : ∀ {v r}, CanNew base w v r → CanNew base (((w.setCell ⟨b, i * 3, none⟩ (.bool (isNeg q))).setCell ⟨b, i * 3 + 1, none⟩ (.slice A m c)).setCell ⟨b, i * 3 + 2, none⟩ (.slice A' m' c')) v r :=
  fun h => ((h.far (p := ⟨b, i * 3, none⟩) h0 _).far (p := ⟨b, i * 3 + 1, none⟩) h0 _).far (p := ⟨b, i * 3 + 2, none⟩) h0 _
 by_cases hj : i = j
 ·subst hj
  rw [List.getElem?_set_self hi] at hr
  cases hr
  refine ⟨A, m, c, A', m', c', ?_, ?_, ?_, far hq⟩
  ·rw [List.getElem?_set_ne (by omega), List.getElem?_set_ne (by omega), List.getElem?_set_self (by omega)]
  ·rw [List.getElem?_set_ne (by omega), List.getElem?_set_self (by simp; omega)]
  ·rw [List.getElem?_set_self (by simp; omega)]
 ·rw [List.getElem?_set_ne hj] at hr
  obtain ⟨A1, m1, c1, A1', m1', c1', e0, e1, e2, e3⟩ := h3 j r hr
  refine ⟨A1, m1, c1, A1', m1', c1', ?_, ?_, ?_, far e3⟩
  ·rw [List.getElem?_set_ne (by omega), List.getElem?_set_ne (by omega), List.getElem?_set_ne (by omega)]; exact e0
  ·rw [List.getElem?_set_ne (by omega), List.getElem?_set_ne (by omega), List.getElem?_set_ne (by omega)]; exact e1
  ·rw [List.getElem?_set_ne (by omega), List.getElem?_set_ne (by omega), List.getElem?_set_ne (by omega)]; exact e2
theorem made3 (x y z : Value) (n i : Nat) (h : i < n) : (madeCells #[x, y, z] (n * 3)).toList[i * 3]? = some x ∧ (madeCells #[x, y, z] (n * 3)).toList[i * 3 + 1]? = some y ∧ (madeCells #[x, y, z] (n * 3)).toList[i * 3 + 2]? = some z := by
 have key : ∀ j, j < n * 3 → (madeCells #[x, y, z] (n * 3)).toList[j]? = some (#[x, y, z][j % 3]!) := by
  intro j hj
  simp [madeCells, hj]
 refine ⟨?_, ?_, ?_⟩
 ·rw [key _ (by omega), show i * 3 % 3 = 0 by omega]; rfl
 ·rw [key _ (by omega), show (i * 3 + 1) % 3 = 1 by omega]; rfl
 ·rw [key _ (by omega), show (i * 3 + 2) % 3 = 2 by omega]; rfl
theorem wpList_make_fracs {ops : Array Oper} {rest : List Oper} {o : Oper} {a : Act} {Q : Exit → Act → World → Prop} (hg : o.guard = none) (l c : Operand) (hop : o.op = Op.makeSlice 67 l c)
  (L : Int) (n : Nat) (hl : a.eval l = .int .i64 L) (hc : a.eval c = .int .i64 L) (hL : L = (n : Int)) (hn : n ≤ 1000000)
  (hK : ∀ w', FArr (w.heap.size + 1) w' w.heap.size (List.replicate n (0 : Rat)) → Below w.heap.size w w' → wpList Tryz.prog ops Q rest (a.put o.dst (.slice (some ⟨w.heap.size, 0, none⟩) n n)) w') :
  wpList Tryz.prog ops Q (o :: rest) a w := by
 obtain ⟨i0, h2, h3, h4, h5⟩ := info_parts infoFrac
 refine wpList_make_full w hg l c 67 hop w.heap.size 27 i0 _ 3 Tryz.underlying67 h2 h3 h4 .i64 .i64 L L n hl hc hL hL (by rw [h5]; omega) (by unfold maxLen; omega) (Nat.le_refl _) fun w' hown hgr => ?_
 refine hK w' ?_ ((Below.refl _ w).grown hgr (Nat.le_refl _) (by simp))
 obtain ⟨hl0, h | ⟨g, cap, cur, hv, _, hh, hn', _, hsz, ht⟩⟩ := hown
 ·cases h.1
 ·injection hv with hv1 hv2 hv3
  injection hv1 with hv1
  injection hv1 with hv1
  subst hv1
  subst hv3
  refine ⟨by omega, cur.toList, hh, ?_, ?_⟩
  ·rw [List.length_replicate]
   simpa using hsz
  ·intro i q hq
   have hi : i < n := by have := (List.getElem?_eq_some_iff.1 hq).1; simpa using this
   have hq0 : q = 0 := by rw [List.getElem?_replicate_of_lt hi] at hq; exact (Option.some.inj hq).symm
   subst hq0
   have hm := made3 (.bool false) (.slice none 0 0) (.slice none 0 0) n i hi
   have hcl : (Value.agg #[.bool false, .slice none 0 0, .slice none 0 0]).cells = #[.bool false, .slice none 0 0, .slice none 0 0] := rfl
   rw [hcl] at ht
   rw [List.take_of_length_le (by simp at hsz ⊢; omega)] at ht
   rw [ht]
   exact ⟨none, 0, 0, none, 0, 0, by rw [hm.1]; rfl, hm.2.1, hm.2.2, CanNew.zero_ _ _⟩
end
end
structure Rule where
 f : Int
 w : Int
 t : Int
 q : Rat
def RulesAt (k : Nat) (w : World) (v : Value) (rs : List Rule) : Prop := ∃ cells, Sl w 6 v rs.length cells ∧ ∀ (i : Nat) (r : Rule), rs[i]? = some r → ∃ a b c, cells[i * 6]? = some (.int .i64 r.f) ∧ cells[i * 6 + 1]? = some (.int .i64 r.w) ∧ cells[i * 6 + 2]? = some (.int .i64 r.t) ∧
 cells[i * 6 + 3]? = some a ∧ cells[i * 6 + 4]? = some b ∧ cells[i * 6 + 5]? = some c ∧ FracAt k w (.agg #[a, b, c]) r.q
theorem RulesAt.below {k : Nat} {w w' : World} {v : Value} {rs : List Rule} (h : RulesAt k w v rs) (hb : Below w.heap.size w w') : RulesAt k w' v rs := by
 obtain ⟨cells, h1, h2⟩ := h
 refine ⟨cells, h1.below hb, fun i r hr => ?_⟩
 obtain ⟨a, b, c, e0, e1, e2, e3, e4, e5, hf⟩ := h2 i r hr
 exact ⟨a, b, c, e0, e1, e2, e3, e4, e5, hf.below hb⟩
theorem FracAt.cells3 {k : Nat} {w : World} {a b c : Value} {q : Rat} (h : FracAt k w (.agg #[a, b, c]) q) : ∃ s A n cn A' n' cn', a = .bool s ∧ b = .slice A n cn ∧ c = .slice A' n' cn' := by
 obtain ⟨neg, vn, vd, ln, ld, e, hn, hd, _⟩ := h
 obtain ⟨_, An, cn, rfl, _⟩ := hn.open_
 obtain ⟨_, Ad, cd, rfl, _⟩ := hd.open_
 injection e with e
 have e' : [a, b, c] = [.bool neg, .slice An ln.length cn, .slice Ad ld.length cd] := congrArg Array.toList e
 simp only [List.cons.injEq, and_true] at e'
 obtain ⟨rfl, rfl, rfl⟩ := e'
 exact ⟨_, _, _, _, _, _, _, rfl, rfl, rfl⟩
theorem RulesAt.open_ {k : Nat} {w : World} {v : Value} {rs : List Rule} (h : RulesAt k w v rs) : ∃ A c, v = .slice A rs.length c ∧ rs.length ≤ c ∧ c ≤ 9223372036854775807 ∧
  ∀ (j : Nat) (r : Rule), rs[j]? = some r → ∃ b off s An nn cn Ad nd cd, A = some ⟨b, off, none⟩ ∧ b < w.heap.size ∧ w.cell? ⟨b, off + j * 6, none⟩ = some (.int .i64 r.f) ∧ w.cell? ⟨b, off + j * 6 + 1, none⟩ = some (.int .i64 r.w) ∧ w.cell? ⟨b, off + j * 6 + 2, none⟩ = some (.int .i64 r.t) ∧
   w.cell? ⟨b, off + j * 6 + 3, none⟩ = some (.bool s) ∧ w.cell? ⟨b, off + j * 6 + 4, none⟩ = some (.slice An nn cn) ∧ w.cell? ⟨b, off + j * 6 + 5, none⟩ = some (.slice Ad nd cd) ∧ FracAt k w (.agg #[.bool s, .slice An nn cn, .slice Ad nd cd]) r.q := by
 obtain ⟨cells, h1, h2⟩ := h
 obtain ⟨h0, A, c, rfl, hc, hm, h5⟩ := h1
 refine ⟨A, c, rfl, hc, by unfold maxLen at hm; omega, fun j r hr => ?_⟩
 have hj := (List.getElem?_eq_some_iff.1 hr).1
 obtain ⟨b, off, e, hlt, hcell⟩ := h5 (by omega)
 obtain ⟨x, y, z, e0, e1, e2, e3, e4, e5, hf⟩ := h2 j r hr
 obtain ⟨s, An, nn, cn, Ad, nd, cd, rfl, rfl, rfl⟩ := hf.cells3
 exact ⟨b, off, s, An, nn, cn, Ad, nd, cd, e, hlt, hcell _ _ e0, by rw [Nat.add_assoc]; exact hcell _ _ e1, by rw [Nat.add_assoc]; exact hcell _ _ e2, by rw [Nat.add_assoc]; exact hcell _ _ e3, by rw [Nat.add_assoc]; exact hcell _ _ e4, by rw [Nat.add_assoc]; exact hcell _ _ e5, hf⟩
section
def NoDig : Value → Prop
 | .bool _ => True
 | .slice _ _ _ => True
 | _ => False
theorem DigAt.offBlk {w : World} {v : Value} {l : List Nat} {b : Nat} {e : TypeId} {xs : List Value} (h : DigAt w v l) (hb : Blk w b e xs) (hx : ∀ x ∈ xs, NoDig x) : Off v b := by
 obtain ⟨⟨h0, A, c, rfl, _, _, h5⟩, _⟩ := h
 intro ad n' c' e' hn
 cases e'
 obtain ⟨b', off, e', _, hc⟩ := h5 hn
 cases e'
 simp only
 intro hbb
 subst hbb
 cases l with
 | nil => simp at hn
 | cons d l =>
  have h1 := hc 0 (dg d) rfl
  rw [hb.cell] at h1
  exact hx _ (List.mem_of_getElem? h1)
theorem FracAt.setOff {k : Nat} {w : World} {a b c : Value} {q : Rat} (h : FracAt k w (.agg #[a, b, c]) q) {p : Addr} (h1 : Off b p.block) (h2 : Off c p.block) (u : Value) : FracAt k (w.setCell p u) (.agg #[a, b, c]) q := by
 obtain ⟨s, vn, vd, ln, ld, e, hn, hd, hr⟩ := h
 injection e with e
 have e' : [a, b, c] = [.bool s, vn, vd] := congrArg Array.toList e
 simp only [List.cons.injEq, and_true] at e'
 obtain ⟨rfl, rfl, rfl⟩ := e'
 exact ⟨s, _, _, ln, ld, rfl, ⟨hn.1.setOff h1 u, hn.2⟩, ⟨hd.1.setOff h2 u, hd.2⟩, hr⟩
theorem FracAt.digs {k : Nat} {w : World} {a b c : Value} {q : Rat} (h : FracAt k w (.agg #[a, b, c]) q) : ∃ ln ld, DigAt w b ln ∧ DigAt w c ld := by
 obtain ⟨s, vn, vd, ln, ld, e, hn, hd, hr⟩ := h
 injection e with e
 have e' : [a, b, c] = [.bool s, vn, vd] := congrArg Array.toList e
 simp only [List.cons.injEq, and_true] at e'
 obtain ⟨rfl, rfl, rfl⟩ := e'
 exact ⟨ln, ld, hn, hd⟩

def FArk (k : Nat) (w : World) (b : Nat) (qs : List Rat) : Prop := ∃ xs, Blk w b 27 xs ∧ xs.length = qs.length * 3 ∧ (∀ x ∈ xs, NoDig x) ∧
 ∀ (i : Nat) (q : Rat), qs[i]? = some q → ∃ s A m c A' m' c', xs[i * 3]? = some (.bool s) ∧ xs[i * 3 + 1]? = some (.slice A m c) ∧ xs[i * 3 + 2]? = some (.slice A' m' c') ∧ FracAt k w (.agg #[.bool s, .slice A m c, .slice A' m' c']) q
section
variable {k : Nat} {w w' : World} {b : Nat} {qs : List Rat}
theorem FArk.lt (h : FArk k w b qs) : b < w.heap.size := by
 obtain ⟨xs, hb, _⟩ := h
 exact hb.lt
theorem FArk.below (h : FArk k w b qs) (hb : Below w.heap.size w w') : FArk k w' b qs := by
 obtain ⟨xs, h1, h2, hx, h3⟩ := h
 refine ⟨xs, h1.below' hb, h2, hx, fun i q hq => ?_⟩
 obtain ⟨s, A, m, c, A', m', c', e0, e1, e2, e3⟩ := h3 i q hq
 exact ⟨s, A, m, c, A', m', c', e0, e1, e2, e3.below hb⟩
theorem FArk.drew (h : FArk k w b qs) : FArk k w.drew b qs := h
theorem FArk.get (h : FArk k w b qs) {i : Nat} {q : Rat} (hq : qs[i]? = some q) : ∃ s A m c A' m' c', w.cell? ⟨b, i * 3, none⟩ = some (.bool s) ∧ w.cell? ⟨b, i * 3 + 1, none⟩ = some (.slice A m c) ∧ w.cell? ⟨b, i * 3 + 2, none⟩ = some (.slice A' m' c') ∧
  w.frozen? ⟨b, i * 3, none⟩ = false ∧ w.frozen? ⟨b, i * 3 + 1, none⟩ = false ∧ w.frozen? ⟨b, i * 3 + 2, none⟩ = false ∧ FracAt k w (.agg #[.bool s, .slice A m c, .slice A' m' c']) q := by
 obtain ⟨xs, h1, _, _, h3⟩ := h
 obtain ⟨s, A, m, c, A', m', c', e0, e1, e2, e3⟩ := h3 i q hq
 exact ⟨s, A, m, c, A', m', c', (h1.cell _).trans e0, (h1.cell _).trans e1, (h1.cell _).trans e2, h1.frozen _, h1.frozen _, h1.frozen _, e3⟩
theorem FracAt.setBlk {e : TypeId} {xs : List Value} {x y z : Value} {q : Rat} (h : FracAt k w (.agg #[x, y, z]) q) (hb : Blk w b e xs) (hx : ∀ x ∈ xs, NoDig x) (o : Nat) (u : Value) : FracAt k (w.setCell ⟨b, o, none⟩ u) (.agg #[x, y, z]) q := by
 obtain ⟨ln, ld, h1, h2⟩ := h.digs
 exact h.setOff (p := ⟨b, o, none⟩) (h1.offBlk hb hx) (h2.offBlk hb hx) u
theorem noDig_set {xs : List Value} (hx : ∀ x ∈ xs, NoDig x) (i : Nat) {u : Value} (hu : NoDig u) : ∀ x ∈ xs.set i u, NoDig x := by
 intro x h
 rcases List.mem_or_eq_of_mem_set h with h | rfl
 ·exact hx x h
 ·exact hu
theorem FracAt.put3 {e : TypeId} {xs : List Value} {x y z : Value} {q : Rat} (h : FracAt k w (.agg #[x, y, z]) q) (hb : Blk w b e xs) (hx : ∀ x ∈ xs, NoDig x) (i : Nat) (s : Bool) (A A' : Option Addr) (m c m' c' : Nat) :
  FracAt k (((w.setCell ⟨b, i * 3, none⟩ (.bool s)).setCell ⟨b, i * 3 + 1, none⟩ (.slice A m c)).setCell ⟨b, i * 3 + 2, none⟩ (.slice A' m' c')) (.agg #[x, y, z]) q :=
 ((h.setBlk hb hx (i * 3) _).setBlk (hb.set_ _ _) (noDig_set hx _ (show NoDig (.bool s) from trivial)) (i * 3 + 1) _).setBlk ((hb.set_ _ _).set_ _ _) (noDig_set (noDig_set hx _ (show NoDig (.bool s) from trivial)) _ (show NoDig (.slice A m c) from trivial)) (i * 3 + 2) _
theorem FArk.put (h : FArk k w b qs) {i : Nat} (hi : i < qs.length) {q : Rat} {s : Bool} {A A' : Option Addr} {m c m' c' : Nat} (hq : FracAt k w (.agg #[.bool s, .slice A m c, .slice A' m' c']) q) :
  FArk k (((w.setCell ⟨b, i * 3, none⟩ (.bool s)).setCell ⟨b, i * 3 + 1, none⟩ (.slice A m c)).setCell ⟨b, i * 3 + 2, none⟩ (.slice A' m' c')) b (qs.set i q) := by
 obtain ⟨xs, h1, h2, hx, h3⟩ := h
 have hset := ((h1.set_ (i * 3) (.bool s)).set_ (i * 3 + 1) (.slice A m c)).set_ (i * 3 + 2) (.slice A' m' c')
 refine ⟨_, hset, by simpa using h2, noDig_set (noDig_set (noDig_set hx _ (show NoDig (.bool s) from trivial)) _ (show NoDig (.slice A m c) from trivial)) _ (show NoDig (.slice A' m' c') from trivial), fun j r hr => ?_⟩
 by_cases hj : i = j
 ·subst hj
  rw [List.getElem?_set_self hi] at hr
  cases hr
  refine ⟨s, A, m, c, A', m', c', ?_, ?_, ?_, hq.put3 h1 hx _ _ _ _ _ _ _ _⟩
  ·rw [List.getElem?_set_ne (by omega), List.getElem?_set_ne (by omega), List.getElem?_set_self (by omega)]
  ·rw [List.getElem?_set_ne (by omega), List.getElem?_set_self (by simp; omega)]
  ·rw [List.getElem?_set_self (by simp; omega)]
 ·rw [List.getElem?_set_ne hj] at hr
  obtain ⟨s1, A1, m1, c1, A1', m1', c1', e0, e1, e2, e3⟩ := h3 j r hr
  refine ⟨s1, A1, m1, c1, A1', m1', c1', ?_, ?_, ?_, e3.put3 h1 hx _ _ _ _ _ _ _ _⟩
  ·rw [List.getElem?_set_ne (by omega), List.getElem?_set_ne (by omega), List.getElem?_set_ne (by omega)]; exact e0
  ·rw [List.getElem?_set_ne (by omega), List.getElem?_set_ne (by omega), List.getElem?_set_ne (by omega)]; exact e1
  ·rw [List.getElem?_set_ne (by omega), List.getElem?_set_ne (by omega), List.getElem?_set_ne (by omega)]; exact e2
theorem FArk.put_other {b' : Nat} {qs' : List Rat} (h' : FArk k w b' qs') (h : FArk k w b qs) (hb : b' ≠ b) (i : Nat) (s : Bool) (A A' : Option Addr) (m c m' c' : Nat) :
  FArk k (((w.setCell ⟨b, i * 3, none⟩ (.bool s)).setCell ⟨b, i * 3 + 1, none⟩ (.slice A m c)).setCell ⟨b, i * 3 + 2, none⟩ (.slice A' m' c')) b' qs' := by
 obtain ⟨xs, h1, h2, hx, h3⟩ := h
 obtain ⟨ys, g1, g2, gx, g3⟩ := h'
 refine ⟨ys, ((g1.far (p := ⟨b, i * 3, none⟩) hb _).far (p := ⟨b, i * 3 + 1, none⟩) hb _).far (p := ⟨b, i * 3 + 2, none⟩) hb _, g2, gx, fun j r hr => ?_⟩
 obtain ⟨s1, A1, m1, c1, A1', m1', c1', e0, e1, e2, e3⟩ := g3 j r hr
 exact ⟨s1, A1, m1, c1, A1', m1', c1', e0, e1, e2, e3.put3 h1 hx _ _ _ _ _ _ _ _⟩
theorem FArk.mono {k' : Nat} (h : FArk k w b qs) (hk : k ≤ k') : FArk k' w b qs := by
 obtain ⟨xs, h1, h2, hx, h3⟩ := h
 refine ⟨xs, h1, h2, hx, fun i q hq => ?_⟩
 obtain ⟨s, A, m, c, A', m', c', e0, e1, e2, e3⟩ := h3 i q hq
 exact ⟨s, A, m, c, A', m', c', e0, e1, e2, e3.mono hk⟩
theorem FArr.zeros {base n : Nat} (h : FArr base w b (List.replicate n 0)) (hk : 0 < k) (hk' : k ≤ 17592186044416) : FArk k w b (List.replicate n 0) := by
 obtain ⟨_, xs, h1, h2, h3⟩ := h
 refine ⟨xs, h1, h2, fun x hx => ?_, fun i q hq => ?_⟩
 ·obtain ⟨j, hj, rfl⟩ := List.getElem_of_mem hx
  rw [List.length_replicate] at h2
  obtain ⟨A, m, c, A', m', c', e0, e1, e2, _⟩ := h3 (j / 3) 0 (by rw [List.getElem?_replicate_of_lt (by omega)])
  rcases (show j = j / 3 * 3 ∨ j = j / 3 * 3 + 1 ∨ j = j / 3 * 3 + 2 by omega) with h | h | h
  ·rw [← h, List.getElem?_eq_getElem hj] at e0; injection e0 with e0; rw [e0]; trivial
  ·rw [← h, List.getElem?_eq_getElem hj] at e1; injection e1 with e1; rw [e1]; trivial
  ·rw [← h, List.getElem?_eq_getElem hj] at e2; injection e2 with e2; rw [e2]; trivial
 ·obtain ⟨A, m, c, A', m', c', e0, e1, e2, e3⟩ := h3 i q hq
  have hq0 : q = 0 := List.eq_of_mem_replicate (List.mem_of_getElem? hq)
  exact ⟨_, A, m, c, A', m', c', e0, e1, e2, e3.at_.frac (by rw [hq0]; exact qb_nat (n := 0) (Nat.pow_pos (by omega)) hk) hk'⟩
end
end
section
open Go.RowKit
end
section
open Go.MapKept

theorem run_range_nil {P : Program} (w : World) (t k e : TypeId) (ht : P.underlying t = some (.map k e)) : (Instr.range t (.map none)).run P w = .ok (.pointer (some ⟨w.heap.size, 0, none⟩)) (w.alloc (.mapIter none 0 #[] 0)) := by
 simp only [Instr.range, run_underlying ht, Sem.run_bind, Result.andThen_ok]
 rfl
theorem run_next_nil {P : Program} {w : World} {r : Nat} (ty : TypeId) (hr : w.heap[r]? = some (.mapIter none 0 #[] 0)) : (Instr.next (.pointer (some ⟨r, 0, none⟩)) false ty).run P w = .ok (.tuple #[.bool false]) w := by
 simp [Instr.next, getObj, Sem.run_bind, Sem.run, hr, Result.andThen]
end
end Go.Proofs.YtlhankdkhiilkaaGreat
