/- Lemmas. -/
import Derived.Test.YtjebfdfkjlkifaaGreatN39
set_option linter.all false
set_option maxRecDepth 1000000
set_option maxHeartbeats 32000000
namespace Go.Proofs.YtjebfdfkjlkifaaGreat
open Go.RowKit
structure Tb where
 o : Int
 V : Int
 A : Option Addr
 c : Nat
 gs : List Gr
abbrev Tb.lv (t : Tb) : Value := .slice t.A t.gs.length t.c
def TabsAt (w : World) (v : Value) (ts : List Tb) : Prop := ∃ cells, Sl w 3 v ts.length cells /\ ∀ (i : Nat) t, ts[i]? = some t -> cells[i * 3]? = some (.int .i64 t.o) /\ cells[i * 3 + 1]? = some (.int .i64 t.V) /\ cells[i * 3 + 2]? = some t.lv /\ GramsAt w t.lv t.gs
theorem TabsAt.below {w w' : World} {v : Value} {ts : List Tb} (h : TabsAt w v ts) (hb : Below w.heap.size w w') : TabsAt w' v ts := by
 obtain ⟨cells, h1, h2⟩ := h
 refine ⟨cells, h1.below hb, fun i t ht => ?_⟩
 obtain ⟨e0, e1, e2, e3⟩ := h2 i t ht
 exact ⟨e0, e1, e2, e3.below hb⟩
theorem TabsAt.open_ {w : World} {v : Value} {ts : List Tb} (h : TabsAt w v ts) : ∃ A c, v = .slice A ts.length c /\ ts.length <= c /\ c <= 9223372036854775807 /\
  ∀ (j : Nat) t, ts[j]? = some t -> ∃ b off, A = some ⟨b, off, none⟩ /\ b < w.heap.size /\ w.cell? ⟨b, off + j * 3, none⟩ = some (.int .i64 t.o) /\ w.cell? ⟨b, off + j * 3 + 1, none⟩ = some (.int .i64 t.V) /\ w.cell? ⟨b, off + j * 3 + 2, none⟩ = some t.lv /\ GramsAt w t.lv t.gs := by
 obtain ⟨cells, h1, h2⟩ := h
 obtain ⟨h0, A, c, rfl, hc, hm, h5⟩ := h1
 refine ⟨A, c, rfl, hc, by unfold maxLen at hm; omega, fun j x hx => ?_⟩
 have hj := (sI.1 hx).1
 obtain ⟨b, off, e, hlt, hcell⟩ := h5 (by omega)
 obtain ⟨e0, e1, e2, hf⟩ := h2 j x hx
 exact ⟨b, off, e, hlt, hcell _ _ e0, by have := hcell _ _ e1; rwa [<- Nat.add_assoc] at this, by have := hcell _ _ e2; rwa [<- Nat.add_assoc] at this, hf⟩
section
open Go.RowKit
end
def ma : Prop := ∀ W B A n c gs, GOwn B W (.slice A n c) gs -> gs.length = n -> n <= 20000 -> B <= W.heap.size -> Calls Tryz.prog 136 #[.slice A n c, .func (.func 137) #[] #[]] W fun e w' => e = .returned (.tuple #[]) /\ ∃ gs' : List Gr, gs'.Perm gs /\ dQ gs' /\ GOwn B w' (.slice A n c) gs' /\ Below B W w'
theorem vQ (h : ma) (w : World) : Calls Tryz.prog 18 #[] w fun e w' => e = .returned (.bool true) /\ Below w.heap.size w w' := vR w h
def NiceG (g : Gr) : Prop := g.1.length <= 4 /\ (∀ x ∈ g.1, 0 <= x /\ x <= 2000) /\ 1 <= g.2 /\ g.2 <= 1073741824
theorem NiceG.key {g : Gr} (h : NiceG g) : NiceK g.1 := ⟨h.1, fun x hx => by have := h.2.1 x hx; omega⟩
section
open Go.RowKit
end
def GoodP (n K : Nat) (gs : List Gr) : Prop := gs.length <= K /\ ∀ g ∈ gs, g.1.length = n /\ 0 <= g.2 /\ g.2 <= (K : Int) * 1073741824
theorem GoodP.nil_ (n : Nat) : GoodP n 0 [] := ⟨by simp, by simp⟩
theorem GoodP.put {n K : Nat} {gs : List Gr} {ws : List Int} {x : Int} (h : GoodP n K gs) (hw : ws.length = n) (hx : 0 <= x /\ x <= 1073741824) : GoodP n (K + 1) (putL gs ws x) := by
 refine ⟨by have := eZ gs ws x; have := h.1; omega, fun g hg => ?_⟩
 rcases eQ hg with h' | rfl | ⟨y, hy, rfl⟩
 ·have := h.2 g h'; exact ⟨this.1, this.2.1, by omega⟩
 ·exact ⟨hw, hx.1, by show x <= _; omega⟩
 have := h.2 y hy; exact ⟨this.1, by show 0 <= y.2 + x; omega, by show y.2 + x <= _; omega⟩
theorem GoodP.mono {n K K' : Nat} {gs : List Gr} (h : GoodP n K gs) (hk : K <= K') : GoodP n K' gs := ⟨Nat.le_trans h.1 hk, fun g hg => by have := h.2 g hg; exact ⟨this.1, this.2.1, by omega⟩⟩
theorem nH {α : Type} {p : α -> Bool} {l : List α} {j : Nat} {x : α} (hx : l[j]? = some x) : (l.drop j).all p = (p x && (l.drop (j + 1)).all p) := by
 have hj := (sI.1 hx).1
 have : l[j] = x := by rw [eG hj] at hx; injection hx
 rw [List.drop_eq_getElem_cons hj, this]
 rfl
def df (V : Int) (gs : List Gr) : Bool := decide (gs.length <= 60) && decide (V <= 8) && gs.all fun g => decide (g.1.length <= 10)
structure Raw where
 neg : Bool
 n : List Nat
 d : List Nat
def Raw.q (r : Raw) : Rat := dM r.neg (val r.n) (val r.d)
def Raw.thin (r : Raw) : Bool := decide (r.n.length <= 1) && decide (r.d.length <= 1)
def RawAt (w : World) (v : Value) (r : Raw) : Prop := ∃ vn vd, v = .agg #[.bool r.neg, vn, vd] /\ DigAt w vn r.n /\ DigAt w vd r.d
def RawsAt (w : World) (v : Value) (rs : List Raw) : Prop := ∃ cells, Sl w 3 v rs.length cells /\
 ∀ i r, rs[i]? = some r -> ∃ vn vd, cells[i * 3]? = some (.bool r.neg) /\ cells[i * 3 + 1]? = some vn /\ cells[i * 3 + 2]? = some vd /\ DigAt w vn r.n /\ DigAt w vd r.d
theorem RawAt.below {w w' : World} {v : Value} {r : Raw} (h : RawAt w v r) (hb : Below w.heap.size w w') : RawAt w' v r := by
 obtain ⟨vn, vd, e, h1, h2⟩ := h
 exact ⟨vn, vd, e, h1.below hb, h2.below hb⟩
theorem RawsAt.below {w w' : World} {v : Value} {rs : List Raw} (h : RawsAt w v rs) (hb : Below w.heap.size w w') : RawsAt w' v rs := by
 obtain ⟨cs, h1, h2⟩ := h
 refine ⟨cs, h1.below hb, fun i r hr => ?_⟩
 obtain ⟨vn, vd, e0, e1, e2, h3, h4⟩ := h2 i r hr
 exact ⟨vn, vd, e0, e1, e2, h3.below hb, h4.below hb⟩
theorem mj {l : List Nat} (h : l.length <= 1) (ho : Ok l) : val l < 2 ^ 64 := by
 have h1 := de l ho
 have h2 : 4294967296 ^ l.length <= 4294967296 ^ 1 := Nat.pow_le_pow_right (by omega) h
 omega
theorem RawAt.frac {w : World} {v : Value} {r : Raw} (h : RawAt w v r) (ht : r.thin = true) : FracAt 64 w v r.q := by
 obtain ⟨vn, vd, e, h1, h2⟩ := h
 unfold Raw.thin at ht
 simp only [Bool.and_eq_true, decide_eq_true_eq] at ht
 exact ⟨r.neg, vn, vd, r.n, r.d, e, h1, h2, rfl, mj ht.1 h1.2, mj ht.2 h2.2, by omega, by omega⟩
theorem RawsAt.fracs {w : World} {v : Value} {rs : List Raw} (h : RawsAt w v rs) (ht : rs.all Raw.thin = true) : FracsAt 64 w v (rs.map Raw.q) := by
 obtain ⟨cs, h1, h2⟩ := h
 refine ⟨cs, by rw [List.length_map]; exact h1, fun i q hq => ?_⟩
 rw [List.getElem?_map] at hq
 cases hr : rs[i]? with
 | none => rw [hr] at hq; cases hq
 | some r =>
  rw [hr] at hq
  cases hq
  obtain ⟨vn, vd, e0, e1, e2, h3, h4⟩ := h2 i r hr
  exact ⟨_, _, _, e0, e1, e2, RawAt.frac ⟨vn, vd, rfl, h3, h4⟩ (List.all_eq_true.1 ht r (mG hr))⟩
theorem RawsAt.open_ {w : World} {v : Value} {rs : List Raw} (h : RawsAt w v rs) : ∃ A c, v = .slice A rs.length c /\ rs.length <= c /\ c <= 9223372036854775807 /\
  ∀ j r, rs[j]? = some r -> ∃ b off An nc Ad dc, A = some ⟨b, off, none⟩ /\ b < w.heap.size /\ w.cell? ⟨b, off + j * 3, none⟩ = some (.bool r.neg) /\ w.cell? ⟨b, off + j * 3 + 1, none⟩ = some (.slice An r.n.length nc) /\ w.cell? ⟨b, off + j * 3 + 2, none⟩ = some (.slice Ad r.d.length dc) := by
 obtain ⟨cells, h1, h2⟩ := h
 obtain ⟨h0, A, c, rfl, hc, hm, h5⟩ := h1
 refine ⟨A, c, rfl, hc, by unfold maxLen at hm; omega, fun j x hx => ?_⟩
 have hj := (sI.1 hx).1
 obtain ⟨b, off, e, hlt, hcell⟩ := h5 (by omega)
 obtain ⟨vn, vd, e0, e1, e2, h3, h4⟩ := h2 j x hx
 obtain ⟨_, An, nc, rfl, _⟩ := h3.open_
 obtain ⟨_, Ad, dc, rfl, _⟩ := h4.open_
 exact ⟨b, off, An, nc, Ad, dc, e, hlt, hcell _ _ e0, by have := hcell _ _ e1; rwa [<- Nat.add_assoc] at this, by have := hcell _ _ e2; rwa [<- Nat.add_assoc] at this⟩

def da (V : Int) (gs : List Gr) (a : Raw) (rs : List Raw) : Bool := df V gs && (decide (rs.length <= 8) && (a.thin && rs.all Raw.thin))
end Go.Proofs.YtjebfdfkjlkifaaGreat
