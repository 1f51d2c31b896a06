/- Lemmas on the way: Nat1, Nat2, Nat7, Nat9. -/
import Derived.Test.YtlhankdkhiilkaaGreatI02
import Derived.Deep.QuietTactic
import Derived.BigQuiet
set_option linter.unusedSimpArgs false
set_option linter.unusedVariables false
set_option linter.unusedSectionVars false
set_option linter.unnecessarySimpa false
namespace Go.Proofs.YtlhankdkhiilkaaGreat
open Go.RowKit
section
def dg (d : Nat) : Value := .int .u32 (d : Int)

theorem dg_one (l : List Nat) : ∀ u ∈ l.map dg, u.oneCell' = true := by
 intro u hu
 obtain ⟨_, _, rfl⟩ := List.mem_map.1 hu
 rfl

def DigAt (w : World) (v : Value) (l : List Nat) : Prop := Sl w 1 v l.length (l.map dg) ∧ Ok l
def NatAt (w : World) (v : Value) (n : Nat) : Prop := ∃ l, DigAt w v l ∧ Trim l ∧ val l = n

section
variable {w w' : World} {v : Value} {l : List Nat} {n : Nat}
theorem DigAt.below (h : DigAt w v l) (hb : Below w.heap.size w w') : DigAt w' v l := ⟨h.1.below hb, h.2⟩
theorem NatAt.below (h : NatAt w v n) (hb : Below w.heap.size w w') : NatAt w' v n := by
 obtain ⟨l, h1, h2⟩ := h
 exact ⟨l, h1.below hb, h2⟩
theorem DigAt.alloc (h : DigAt w v l) (o : Obj) : DigAt (w.alloc o) v l := ⟨h.1.alloc o, h.2⟩
theorem NatAt.alloc (h : NatAt w v n) (o : Obj) : NatAt (w.alloc o) v n := by
 obtain ⟨l, h1, h2⟩ := h
 exact ⟨l, h1.alloc o, h2⟩
theorem NatAt.drewN (h : NatAt w v n) (k : Nat) : NatAt (w.drewN k) v n := h
theorem NatAt.drew (h : NatAt w v n) : NatAt w.drew v n := h
theorem DigAt.drew (h : DigAt w v l) : DigAt w.drew v l := h
theorem DigAt.drewN (h : DigAt w v l) (k : Nat) : DigAt (w.drewN k) v l := h
theorem DigAt.nil_ (w : World) : DigAt w (.slice none 0 0) [] := ⟨Sl.nil_ _ _, Ok.nil⟩
theorem NatAt.nil_ (w : World) : NatAt w (.slice none 0 0) 0 := ⟨[], DigAt.nil_ w, Trim.nil, rfl⟩
theorem DigAt.open_ (h : DigAt w v l) : Ok l ∧ ∃ A c, v = .slice A l.length c ∧ l.length ≤ c ∧ c ≤ 9223372036854775807 ∧
  (l = [] ∨ ∃ b off, A = some ⟨b, off, none⟩ ∧ b < w.heap.size ∧ ∀ (j d : Nat), l[j]? = some d → w.cell? ⟨b, off + j, none⟩ = some (.int .u32 (d : Int))) := by
 obtain ⟨h1, h2⟩ := h
 obtain ⟨_, A, c, rfl, hc, hm, h3⟩ := h1.open_
 refine ⟨h2, A, c, rfl, hc, hm, ?_⟩
 rcases h3 with ⟨_, h⟩ | ⟨b, off, rfl, hb, h⟩
 ·exact .inl (by simpa using h)
 ·exact .inr ⟨b, off, rfl, hb, fun j d hd => h j _ (by rw [List.getElem?_map, hd]; rfl)⟩
theorem Sl.cutHead {A : Option Addr} {c n k : Nat} {xs : List Value} (h : Sl w 1 (.slice A n c) n xs) (hk : k ≤ n) : Sl w 1 (.slice A k c) k (xs.take k) := by
 obtain ⟨h0, A', c', h1, h2, h3, h4⟩ := h
 cases h1
 refine ⟨by simp; omega, A, c, rfl, by omega, h3, fun hk0 => ?_⟩
 obtain ⟨b, off, rfl, hb, hc⟩ := h4 (by omega)
 exact ⟨b, off, rfl, hb, fun j u hu => hc j u (by rw [List.getElem?_take] at hu; split at hu <;> simp_all)⟩
end

theorem dig_cell {w wr : World} {A : Option Addr} {l : List Nat} {n : Nat} (HA : l = [] ∨ ∃ b off, A = some ⟨b, off, none⟩ ∧ b < w.heap.size ∧ ∀ (j d : Nat), l[j]? = some d → w.cell? ⟨b, off + j, none⟩ = some (.int .u32 (d : Int)))
  (hn : l.length = n) (hb : Below w.heap.size w wr) (k x : Nat) (hx : l.getD k 0 = x) :
  (k < n ∧ ∃ b off, A = some ⟨b, off, none⟩ ∧ b < w.heap.size ∧ wr.cell? ⟨b, off + k, none⟩ = some (.int .u32 (x : Int))) ∨ (n ≤ k ∧ x = 0) := by
 subst hx
 rcases Nat.lt_or_ge k n with h | h
 ·left
  rcases HA with h' | ⟨b, off, h', hlt, hc⟩
  ·subst h'; simp at hn; omega
  ·refine ⟨h, b, off, h', hlt, (hb.cell (p := ⟨b, off + k, none⟩) hlt).trans (hc k _ ?_)⟩
   rw [List.getD_eq_getElem?_getD, List.getElem?_eq_getElem (by omega)]; rfl
 ·right
  refine ⟨h, ?_⟩
  rw [List.getD_eq_getElem?_getD, List.getElem?_eq_none_iff.2 (by omega)]; rfl
theorem Blk.setDig {w : World} {g k r : Nat} {e : TypeId} {o : List Nat} {E : Int} (h : Blk w g e (o.map dg)) (hE : E = (r : Int)) : Blk (w.setCell ⟨g, k, none⟩ (.int .u32 E)) g e ((o.set k r).map dg) := by
 rw [hE, List.map_set]
 exact h.set_ k _
theorem Blk.cellDig {w : World} {g k : Nat} {e : TypeId} {o : List Nat} (h : Blk w g e (o.map dg)) (hk : k < o.length) : w.cell? ⟨g, k, none⟩ = some (.int .u32 ((o.getD k 0 : Nat) : Int)) := by
 rw [h.cell, List.getElem?_map, List.getD_eq_getElem?_getD, List.getElem?_eq_getElem hk]; rfl
theorem Blk.digAt {w : World} {g : Nat} {e : TypeId} {o : List Nat} (h : Blk w g e (o.map dg)) (ho : Ok o) {n c : Nat} (hn : o.length = n) (hc : n ≤ c) (hm : c ≤ 9223372036854775807) : DigAt w (.slice (some ⟨g, 0, none⟩) n c) o := by
 refine ⟨?_, ho⟩
 have := h.sl (sz := 1) (n := n) (c := c) (by simp; omega) hc (by unfold maxLen; omega)
 rw [List.take_of_length_le (by simp; omega)] at this
 rw [hn]
 exact this
def DB (w : World) (g : Nat) (o : List Nat) : Prop := ∃ e tail, Blk w g e (o.map dg ++ tail)
section
variable {w w' : World} {g : Nat} {o : List Nat}
theorem DB.of_blk {e : TypeId} (h : Blk w g e (o.map dg)) : DB w g o := ⟨e, [], by simpa using h⟩
theorem DB.lt (h : DB w g o) : g < w.heap.size := by
 obtain ⟨_, _, h⟩ := h
 exact h.lt
theorem DB.below (h : DB w g o) (hb : Below w.heap.size w w') : DB w' g o := by
 obtain ⟨e, t, h⟩ := h
 exact ⟨e, t, h.below' hb⟩
theorem DB.drewN (h : DB w g o) (n : Nat) : DB (w.drewN n) g o := h
theorem DB.alloc (h : DB w g o) (x : Obj) : DB (w.alloc x) g o := by
 obtain ⟨e, t, h⟩ := h
 exact ⟨e, t, h.alloc x⟩
theorem DB.set (h : DB w g o) {k r : Nat} {E : Int} (hk : k < o.length) (hE : E = (r : Int)) : DB (w.setCell ⟨g, k, none⟩ (.int .u32 E)) g (o.set k r) := by
 obtain ⟨e, t, h⟩ := h
 refine ⟨e, t, ?_⟩
 have := h.set_ k (.int .u32 E)
 rw [List.set_append_left _ _ (by simpa using hk)] at this
 rw [List.map_set, dg, ← hE]
 exact this
theorem DB.far (h : DB w g o) {p : Addr} (hp : g ≠ p.block) (u : Value) : DB (w.setCell p u) g o := by
 obtain ⟨e, t, h⟩ := h
 exact ⟨e, t, h.far hp u⟩
theorem DB.cell (h : DB w g o) {k : Nat} (hk : k < o.length) : w.cell? ⟨g, k, none⟩ = some (.int .u32 ((o.getD k 0 : Nat) : Int)) := by
 obtain ⟨e, t, h⟩ := h
 rw [h.cell, List.getElem?_append_left (by simpa using hk), List.getElem?_map, List.getD_eq_getElem?_getD, List.getElem?_eq_getElem hk]; rfl
theorem DB.frozen (h : DB w g o) (k : Nat) : w.frozen? ⟨g, k, none⟩ = false := by
 obtain ⟨e, t, h⟩ := h
 exact h.frozen k
theorem DB.digAt (h : DB w g o) (ho : Ok o) {n c : Nat} (hn : o.length = n) (hc : n ≤ c) (hm : c ≤ 9223372036854775807) : DigAt w (.slice (some ⟨g, 0, none⟩) n c) o := by
 obtain ⟨e, t, h⟩ := h
 refine ⟨?_, ho⟩
 have := h.sl (sz := 1) (n := n) (c := c) (by simp; omega) hc (by unfold maxLen; omega)
 rw [List.take_append_of_le_length (by simp; omega), List.take_of_length_le (by simp; omega)] at this
 rw [hn]
 exact this
def OD (w : World) (base : Nat) (A : Option Addr) (o : List Nat) : Prop := o = [] ∨ ∃ g, A = some ⟨g, 0, none⟩ ∧ base ≤ g ∧ DB w g o
theorem OD.of_own {base : Nat} {e : TypeId} {v : Value} {n : Nat} (h : w.ownsRow base e 1 v n (o.map dg)) : ∃ A c, v = .slice A n c ∧ n ≤ c ∧ c ≤ 9223372036854775807 ∧ o.length = n ∧ OD w base A o := by
 obtain ⟨h0, ⟨rfl, rfl⟩ | ⟨g, cap, cur, rfl, hb, hh, hn, hc, _, ht⟩⟩ := h
 ·exact ⟨none, 0, rfl, Nat.le_refl _, by omega, by simpa using h0, .inl (by simpa using h0)⟩
 ·refine ⟨_, cap, rfl, hn, by unfold maxLen at hc; omega, by simpa using h0, .inr ⟨g, rfl, hb, e, cur.toList.drop (n * 1), ?_⟩⟩
  rw [← ht, List.take_append_drop]
  exact hh
theorem OD.at_ {base : Nat} {A : Option Addr} (h : OD w base A o) {k : Nat} (hk : k < o.length) : ∃ g, A = some ⟨g, 0, none⟩ ∧ base ≤ g ∧ DB w g o := by
 rcases h with rfl | h
 ·simp at hk
 ·exact h
theorem OD.digAt {base : Nat} {A : Option Addr} (h : OD w base A o) (ho : Ok o) {n c : Nat} (hn : o.length = n) (hc : n ≤ c) (hm : c ≤ 9223372036854775807) : DigAt w (.slice A n c) o := by
 rcases h with rfl | ⟨g, rfl, _, h⟩
 ·simp at hn
  subst hn
  exact ⟨⟨by simp, A, c, rfl, hc, by unfold maxLen; omega, fun h => absurd h (by simp)⟩, ho⟩
 ·exact h.digAt ho hn hc hm
theorem OD.below {base : Nat} {A : Option Addr} (h : OD w base A o) (hb : Below w.heap.size w w') : OD w' base A o := by
 rcases h with h | ⟨g, h1, h2, h3⟩
 ·exact .inl h
 ·exact .inr ⟨g, h1, h2, h3.below hb⟩
end
theorem int_eq {k : IntKind} {a b : Int} (h : a = b) : Value.int k a = Value.int k b := by rw [h]

def From (v : Value) (B : Nat) : Prop := ∀ ad n c, v = .slice (some ad) n c → B ≤ ad.block
theorem From.mono {v : Value} {B B' : Nat} (h : From v B) (hb : B' ≤ B) : From v B' := fun ad n c e => Nat.le_trans hb (h ad n c e)
theorem From.nil_ (B : Nat) : From (.slice none 0 0) B := fun _ _ _ e => by cases e
theorem From.of_own {w : World} {base : Nat} {e : TypeId} {sz : Nat} {v : Value} {n : Nat} {xs : List Value} (h : w.ownsRow base e sz v n xs) : From v base := by
 obtain ⟨_, ⟨rfl, _⟩ | ⟨g, cap, cur, rfl, hb, _⟩⟩ := h
 ·intro ad n c e; cases e
 ·intro ad n c e; cases e; exact hb
theorem Sl.setFar {w : World} {sz : Nat} {v : Value} {n B : Nat} {xs : List Value} (h : Sl w sz v n xs) (hf : From v B) {p : Addr} (hp : p.block < B) (u : Value) : Sl (w.setCell p u) sz v n xs := by
 obtain ⟨h0, A, c, h1, h2, h3, h5⟩ := h
 refine ⟨h0, A, c, h1, h2, h3, fun hn => ?_⟩
 obtain ⟨b, off, e, hlt, hc⟩ := h5 hn
 subst e
 have hb := hf _ _ _ h1
 refine ⟨b, off, rfl, by simpa [World.setCell] using hlt, fun j x hx => ?_⟩
 rw [World.cell?_setCell_other w p _ u (fun e => by
  have := congrArg Addr.block e
  simp only at this hb
  omega)]
 exact hc j x hx
theorem NatAt.setFar {w : World} {v : Value} {n B : Nat} (h : NatAt w v n) (hf : From v B) {p : Addr} (hp : p.block < B) (u : Value) : NatAt (w.setCell p u) v n := by
 obtain ⟨l, ⟨h1, h2⟩, h3⟩ := h
 exact ⟨l, ⟨h1.setFar hf hp u, h2⟩, h3⟩

set_option maxRecDepth 1000000 in
set_option maxHeartbeats 400000 in
theorem trimmedF (w : World) (v : Value) (l : List Nat) (hd : DigAt w v l) (hl : l.length ≤ 17592186044416) :
  Calls Tryz.prog 64 #[v] w fun e w' => ∃ v', e = .returned v' ∧ NatAt w' v' (val l) ∧ Below w.heap.size w w' ∧ From v' w.heap.size := by
 obtain ⟨hok, A, c, rfl, hlc, hcm, hA⟩ := id hd.open_
 have HD := Lib.hid hd.1
 have HA := Lib.hid hA
 clear hA hd
 have HO := Lib.hid hok
 clear hok
 obtain ⟨n, hn⟩ : ∃ n, l.length = n := ⟨_, rfl⟩
 have HN := Lib.hid hn
 rw [hn] at hl hlc ⊢
 clear hn
 go_enter Tryz.func64, Tryz.ntmps64
 go_wp2
 go_loop [3] (fun i => ∃ k : Nat, i = .int .i64 k ∧ TrimTo l k ∧ k ≤ n) (fun i => (intOf i).toNat)
 case atStart => exact ⟨n, rfl, HN.out ▸ TrimTo.start l, Nat.le_refl _⟩
 case round =>
  obtain ⟨k, rfl, ht, hk⟩ := hrel
  have HT := Lib.hid ht
  clear ht
  have clone : ∀ W, W = w → Calls Tryz.prog 104 #[.slice A k c] W fun e w' => ∃ v', e = .returned v' ∧ Sl w' 1 v' k ((l.take k).map dg) ∧ Below W.heap.size W w' ∧ ∃ base, W.heap.size ≤ base ∧ w'.ownsRow base 154 1 v' k ((l.take k).map dg) := by
   intro W hW
   rw [hW, List.map_take]
   exact clone_digits w _ _ _ ((HN.out ▸ HD.out : Sl w 1 (.slice A n c) n (l.map dg)).cutHead hk) (fun u hu => dg_one l u (List.mem_of_mem_take hu)) (by omega)
  have fin : ∀ w' v', Sl w' 1 v' k ((l.take k).map dg) → Trim (l.take k) → NatAt w' v' (val l) := by
   intro w' v' hv ht'
   have hlen : (l.take k).length = k := by rw [List.length_take, HN.out]; omega
   exact ⟨l.take k, ⟨by rw [hlen]; exact hv, HO.out.take k⟩, ht', HT.out.2⟩
  have FIN := Lib.hid fin
  clear fin
  have CL := Lib.hid clone
  clear clone
  rcases Nat.eq_zero_or_pos k with h0 | h0
  ·subst h0
   go_wp2_with (go_at_call 104; refine (CL.out _ rfl).mono ?_; rintro e w' ⟨v', rfl, hv, hb, base, hbase, hown⟩)
   go_ret
   exact ⟨v', rfl, FIN.out _ _ hv (by simp [Trim]), hb, (From.of_own hown).mono hbase⟩
  ·obtain ⟨m, rfl⟩ : ∃ m, k = m + 1 := ⟨k - 1, by omega⟩
   have hm : m < l.length := by rw [HN.out]; omega
   obtain ⟨d, hd⟩ : ∃ d, l[m]? = some d := ⟨_, List.getElem?_eq_getElem hm⟩
   have HDD := Lib.hid hd
   obtain ⟨b, off, rfl, hc⟩ : ∃ b off, A = some ⟨b, off, none⟩ ∧ w.cell? ⟨b, off + m, none⟩ = some (.int .u32 (d : Int)) := by
    rcases HA.out with h | ⟨b, off, h, _, hc⟩
    ·subst h; simp at hm
    ·exact ⟨b, off, h, hc m d hd⟩
   clear hd hm
   by_cases hz : d = 0
   ·subst hz
    go_wp2_with fail
    exact ⟨⟨m, rfl, HT.out.step HDD.out, by omega⟩, by simp [intOf]⟩
   ·have hz' : ((d : Int) == 0) = false := by simpa using hz
    go_wp2_with (go_at_call 104; refine (CL.out _ rfl).mono ?_; rintro e w' ⟨v', rfl, hv, hb, base, hbase, hown⟩)
    go_ret
    exact ⟨v', rfl, FIN.out _ _ hv (TrimTo.trim HDD.out hz), hb, (From.of_own hown).mono hbase⟩
theorem trimmed (w : World) (v : Value) (l : List Nat) (hd : DigAt w v l) (hl : l.length ≤ 17592186044416) :
  Calls Tryz.prog 64 #[v] w fun e w' => ∃ v', e = .returned v' ∧ NatAt w' v' (val l) ∧ Below w.heap.size w w' :=
 (trimmedF w v l hd hl).mono fun _ _ ⟨v', h1, h2, h3, _⟩ => ⟨v', h1, h2, h3⟩
end
set_option maxRecDepth 1000000 in
set_option maxHeartbeats 400000 in
theorem smallF (w : World) (n : Nat) (hn : n < 18446744073709551616) :
  Calls Tryz.prog 65 #[.int .u64 (n : Int)] w fun e w' => ∃ v', e = .returned v' ∧ NatAt w' v' n ∧ Below w.heap.size w w' ∧ From v' w.heap.size := by
 go_enter Tryz.func65, Tryz.ntmps65
 go_wp2_with fail
 have hb := (Blk.new w 154 [Value.int .u32 ((n : Int) % 4294967296), Value.int .u32 ((n : Int) / 4294967296)]).sl (sz := 1) (n := 2) (c := 2) (by simp) (by omega) (by unfold maxLen; omega)
 have hv : val [n % 4294967296, n / 4294967296] = n := by simp only [val]; omega
 have ho : Ok [n % 4294967296, n / 4294967296] := by
  rw [Ok.cons, Ok.cons]
  exact ⟨by omega, by omega, Ok.nil⟩
 refine (trimmedF _ _ [n % 4294967296, n / 4294967296] ⟨?_, ho⟩ (by simp)).mono ?_
 ·simpa [dg] using hb
 rintro e w1 ⟨v', rfl, h1, h2, hf⟩
 rw [hv] at h1
 clear hb hv ho
 go_wp2
 go_ret
 exact ⟨v', rfl, h1, ((Below.refl _ w).alloc (Nat.le_refl _) _).trans (h2.mono (by simp)), hf.mono (by simp)⟩

theorem small (w : World) (n : Nat) (hn : n < 18446744073709551616) :
  Calls Tryz.prog 65 #[.int .u64 (n : Int)] w fun e w' => ∃ v', e = .returned v' ∧ NatAt w' v' n ∧ Below w.heap.size w w' :=
 (smallF w n hn).mono fun _ _ ⟨v', h1, h2, h3, _⟩ => ⟨v', h1, h2, h3⟩

def cmpN (a b : Nat) : Int := if a < b then -1 else if a = b then 0 else 1

theorem cmpN_lt {a b : Nat} (h : a < b) : cmpN a b = -1 := by simp [cmpN, h]
theorem cmpN_eq (a : Nat) : cmpN a a = 0 := by simp [cmpN]
theorem cmpN_gt {a b : Nat} (h : b < a) : cmpN a b = 1 := by unfold cmpN; rw [if_neg (by omega), if_neg (by omega)]

theorem val_lt_at {l m : List Nat} {k x y : Nat} (hl : Ok l) (h : l.drop (k + 1) = m.drop (k + 1)) (hx : l[k]? = some x) (hy : m[k]? = some y) (hxy : x < y) : val l < val m := by
 have kl := (List.getElem?_eq_some_iff.1 hx).1
 have km := (List.getElem?_eq_some_iff.1 hy).1
 rw [val_take_drop l (k + 1) (by omega), val_take_drop m (k + 1) (by omega), h, take_succ_get l hx, take_succ_get m hy, val_snoc, val_snoc]
 have h1 := val_lt _ (hl.take k)
 have e1 : (l.take k).length = k := by rw [List.length_take]; omega
 have e2 : (m.take k).length = k := by rw [List.length_take]; omega
 rw [e1] at h1
 rw [e1, e2]
 have h2 : 4294967296 ^ k * (x + 1) ≤ 4294967296 ^ k * y := Nat.mul_le_mul_left _ hxy
 rw [Nat.mul_succ] at h2
 omega

theorem drop_step {l m : List Nat} {k x : Nat} (hx : l[k]? = some x) (hy : m[k]? = some x) (h : l.drop (k + 1) = m.drop (k + 1)) : l.drop k = m.drop k := by
 obtain ⟨kl, hx⟩ := List.getElem?_eq_some_iff.1 hx
 obtain ⟨km, hy⟩ := List.getElem?_eq_some_iff.1 hy
 rw [List.drop_eq_getElem_cons kl, List.drop_eq_getElem_cons km, h, hx, hy]

theorem ret_i64 {a b : Int} (h : a = b) : Ending.returned (.int .i64 a) = .returned (.int .i64 b) := by rw [h]

set_option maxRecDepth 1000000 in
set_option maxHeartbeats 1000000 in
theorem compare (w : World) (va vb : Value) (a b : Nat) (ha : NatAt w va a) (hb : NatAt w vb b) :
  Calls Tryz.prog 68 #[va, vb] w fun e w' => e = .returned (.int .i64 (cmpN a b)) ∧ ∃ k, w' = w.drewN k := by
 obtain ⟨l, dl, tl, rfl⟩ := ha
 obtain ⟨m, dm, tm, rfl⟩ := hb
 obtain ⟨okl, A, ca, rfl, hlc, hcm, hA⟩ := dl.open_
 obtain ⟨okm, B, cb, rfl, hmc, hcm', hB⟩ := dm.open_
 clear dl dm
 have HA := Lib.hid hA
 have HB := Lib.hid hB
 clear hA hB
 have HO := Lib.hid okl
 have HP := Lib.hid okm
 clear okl okm
 have HT := Lib.hid tl
 have HU := Lib.hid tm
 clear tl tm
 obtain ⟨n, hn⟩ : ∃ n, l.length = n := ⟨_, rfl⟩
 obtain ⟨p, hp⟩ : ∃ p, m.length = p := ⟨_, rfl⟩
 rw [hn] at hlc ⊢
 rw [hp] at hmc ⊢
 have HN := Lib.hid hn
 have HQ := Lib.hid hp
 clear hn hp
 by_cases hlt : n < p
 ·have hne : ((n : Int) != (p : Int)) = true := by simp; omega
  have hr := cmpN_lt (val_lt_of_length HO.out HU.out (by rw [HN.out, HQ.out]; exact hlt))
  have HR := Lib.hid hr
  clear hr
  go_enter Tryz.func68, Tryz.ntmps68
  go_wp2_with fail
  go_ret
  exact ⟨ret_i64 HR.out.symm, 0, rfl⟩
 by_cases hgt : p < n
 ·have hne : ((n : Int) != (p : Int)) = true := by simp; omega
  have hr := cmpN_gt (val_lt_of_length HP.out HT.out (by rw [HN.out, HQ.out]; exact hgt))
  have HR := Lib.hid hr
  clear hr
  go_enter Tryz.func68, Tryz.ntmps68
  go_wp2_with fail
  go_ret
  exact ⟨ret_i64 HR.out.symm, 0, rfl⟩
 obtain rfl : n = p := by omega
 clear hlt hgt
 go_enter Tryz.func68, Tryz.ntmps68
 go_wp2_with fail
 go_loopw [5] (fun i wr => ∃ q : Int, (∃ d, wr = w.drewN d) ∧ i = .int .i64 q ∧ -1 ≤ q ∧ q < n ∧ l.drop (q + 1).toNat = m.drop (q + 1).toNat) (fun i _ => (intOf i + 1).toNat)
 case atStart =>
  refine ⟨_, ⟨0, rfl⟩, rfl, by omega, by omega, ?_⟩
  rw [List.drop_eq_nil_of_le (by rw [HN.out]; omega), List.drop_eq_nil_of_le (by rw [HQ.out]; omega)]
 case round =>
  obtain ⟨q, ⟨nd, rfl⟩, rfl, hq, hqn, hd⟩ := hrel
  have HD := Lib.hid hd
  clear hd
  by_cases h0 : q = -1
  ·subst h0
   go_wp2_with fail
   go_ret
   have he : l = m := by simpa using HD.out
   exact ⟨ret_i64 (by rw [he, cmpN_eq]), nd, rfl⟩
  ·obtain ⟨k, rfl⟩ : ∃ k : Nat, q = k := ⟨q.toNat, by omega⟩
   clear h0 hq
   have hkl : k < l.length := by rw [HN.out]; omega
   have hkm : k < m.length := by rw [HQ.out]; omega
   obtain ⟨x, hx⟩ : ∃ x, l[k]? = some x := ⟨_, List.getElem?_eq_getElem hkl⟩
   obtain ⟨y, hy⟩ : ∃ y, m[k]? = some y := ⟨_, List.getElem?_eq_getElem hkm⟩
   obtain ⟨b, off, rfl, hc⟩ : ∃ b off, A = some ⟨b, off, none⟩ ∧ w.cell? ⟨b, off + k, none⟩ = some (.int .u32 (x : Int)) := by
    rcases HA.out with h | ⟨b, off, h, _, hc⟩
    ·subst h; simp at hkl
    ·exact ⟨b, off, h, hc k x hx⟩
   obtain ⟨b', off', rfl, hc'⟩ : ∃ b off, B = some ⟨b, off, none⟩ ∧ w.cell? ⟨b, off + k, none⟩ = some (.int .u32 (y : Int)) := by
    rcases HB.out with h | ⟨b, off, h, _, hc⟩
    ·subst h; simp at hkm
    ·exact ⟨b, off, h, hc k y hy⟩
   have HX := Lib.hid hx
   have HY := Lib.hid hy
   clear hx hy hkl hkm
   have hd1 : l.drop (k + 1) = m.drop (k + 1) := by
    have := HD.out
    rwa [show ((k : Int) + 1).toNat = k + 1 by omega] at this
   have HE := Lib.hid hd1
   clear hd1
   rcases Nat.lt_trichotomy x y with h | h | h
   ·have hne : ((x : Int) != (y : Int)) = true := by simp; omega
    have hr := cmpN_lt (val_lt_at HO.out HE.out HX.out HY.out h)
    have HR := Lib.hid hr
    clear hr
    go_wp2_with fail
    go_quiet (fail)
    go_wp2_with fail
    go_quiet (fail)
    go_wp2_with fail
    go_ret
    exact ⟨ret_i64 HR.out.symm, _, by simp only [World.drewN_drewN]; rfl⟩
   ·subst h
    have hne : ((x : Int) != (x : Int)) = false := by simp
    go_wp2_with fail
    go_quiet (fail)
    go_wp2_with fail
    refine ⟨⟨(k : Int) - 1, ⟨_, rfl⟩, rfl, by omega, by omega, ?_⟩, by simp [intOf]⟩
    rw [show ((k : Int) - 1 + 1).toNat = k by omega]
    exact drop_step HX.out HY.out HE.out
   ·have hne : ((x : Int) != (y : Int)) = true := by simp; omega
    have hr := cmpN_gt (val_lt_at HP.out HE.out.symm HY.out HX.out h)
    have HR := Lib.hid hr
    clear hr
    go_wp2_with fail
    go_quiet (fail)
    go_wp2_with fail
    go_quiet (fail)
    go_wp2_with fail
    go_ret
    exact ⟨ret_i64 HR.out.symm, _, by simp only [World.drewN_drewN]; rfl⟩
theorem drop_get {l : List Nat} {k x : Nat} (h : l[k]? = some x) : l.drop k = x :: l.drop (k + 1) := by
 obtain ⟨hk, rfl⟩ := List.getElem?_eq_some_iff.1 h
 exact List.drop_eq_getElem_cons hk

theorem or64 (r x : Nat) (hr : r < 4294967296) (hx : x < 4294967296) : bits .or .u64 ((r : Int) * 4294967296) (x : Int) = ((r * 4294967296 + x : Nat) : Int) := by
 rw [show (r : Int) * 4294967296 = ((r * 4294967296 : Nat) : Int) by omega, u64_or_nat _ _ (by omega) (by omega)]
 congr 1
 rw [Nat.or_comm, Nat.mul_comm]
 exact (or_add (s := 32) (by omega)).trans (Nat.add_comm _ _)

theorem cast_omod (r x d : Nat) : ((r : Int) * 4294967296 + (x : Int)) % (d : Int) = (((r * 4294967296 + x) % d : Nat) : Int) := by
 rw [Int.natCast_emod, Int.natCast_add, Int.natCast_mul]; rfl
theorem cast_odiv (r x d : Nat) (h : (r * 4294967296 + x) / d < 4294967296) : ((r : Int) * 4294967296 + (x : Int)) / (d : Int) % 4294967296 = (((r * 4294967296 + x) / d : Nat) : Int) := by
 have e : ((r : Int) * 4294967296 + (x : Int)) / (d : Int) = (((r * 4294967296 + x) / d : Nat) : Int) := by
  rw [Int.natCast_ediv, Int.natCast_add, Int.natCast_mul]; rfl
 rw [e]
 generalize (r * 4294967296 + x) / d = q at *
 omega

def OverTo (l o : List Nat) (d k r : Nat) : Prop := Ok o ∧ o.length = l.length ∧ r < d ∧ val (l.drop k) = d * val (o.drop k) + r
theorem OverTo.start (l : List Nat) {d : Nat} (hd : 0 < d) : OverTo l (List.replicate l.length 0) d l.length 0 :=
 ⟨Ok.replicate _, by simp, hd, by rw [List.drop_eq_nil_of_le (Nat.le_refl _), List.drop_eq_nil_of_le (by simp)]; simp [val]⟩
theorem OverTo.step {l o : List Nat} {d k r x : Nat} (h : OverTo l o d (k + 1) r) (hd : d < 4294967296) (hx : l[k]? = some x) (hx' : x < 4294967296) :
  OverTo l (o.set k ((r * 4294967296 + x) / d)) d k ((r * 4294967296 + x) % d) ∧ (r * 4294967296 + x) / d < 4294967296 := by
 obtain ⟨h1, h2, h3, h4⟩ := h
 have hk := (List.getElem?_eq_some_iff.1 hx).1
 have hq : (r * 4294967296 + x) / d < 4294967296 := by
  rw [Nat.div_lt_iff_lt_mul (by omega)]
  have : (r + 1) * 4294967296 ≤ d * 4294967296 := Nat.mul_le_mul_right _ h3
  omega
 refine ⟨⟨h1.set _ _ hq, by simpa using h2, Nat.mod_lt _ (by omega), ?_⟩, hq⟩
 have e0 := drop_get (l := o.set k ((r * 4294967296 + x) / d)) (k := k) (x := (r * 4294967296 + x) / d) (by rw [List.getElem?_set_self (by omega)])
 rw [drop_get hx, e0, List.drop_set_of_lt (by omega)]
 simp only [val]
 have e := Nat.div_add_mod (r * 4294967296 + x) d
 rw [h4]
 generalize (r * 4294967296 + x) / d = q at *
 generalize (r * 4294967296 + x) % d = t at *
 grind
theorem OverTo.done {l o : List Nat} {d r : Nat} (h : OverTo l o d 0 r) : val o = val l / d ∧ r = val l % d := by
 obtain ⟨_, _, h3, h4⟩ := h
 simp only [List.drop_zero] at h4
 rw [h4]
 constructor
 ·rw [Nat.mul_add_div (by omega), Nat.div_eq_of_lt h3, Nat.add_zero]
 ·rw [Nat.mul_add_mod, Nat.mod_eq_of_lt h3]

set_option maxRecDepth 1000000 in
set_option maxHeartbeats 1000000 in
theorem over (w : World) (va : Value) (a d k : Nat) (ha : NatAt w va a) (la : a < 2 ^ k) (hk : k ≤ 70368744177664) (hd : 0 < d) (hd' : d < 4294967296) :
  Calls Tryz.prog 141 #[va, .int .u32 (d : Int)] w fun e w' => ∃ v', e = .returned (.tuple #[v', .int .u32 ((a % d : Nat) : Int)]) ∧ NatAt w' v' (a / d) ∧ Below w.heap.size w w' ∧ From v' w.heap.size := by
 obtain ⟨l, dl, tl, rfl⟩ := ha
 have ll := tl.length_le la
 clear la tl
 obtain ⟨okl, A, ca, rfl, hlc, hcm, hA⟩ := dl.open_
 clear dl
 have HA := Lib.hid hA
 clear hA
 have HO := Lib.hid okl
 clear okl
 obtain ⟨n, hn⟩ : ∃ n, l.length = n := ⟨_, rfl⟩
 rw [hn] at hlc ll ⊢
 have HN := Lib.hid hn
 clear hn
 obtain ⟨i0, hi, hz0, hz1, hz2⟩ := info_parts infoU32
 go_enter Tryz.func141, Tryz.ntmps141
 go_wp2_with (at_make; refine wpList_make_blk rfl _ _ 25 rfl 154 i0 (.int .u32 0) 4 Tryz.underlying25 hi hz0 hz1 hz2 rfl .i64 .i64 _ _ n rfl rfl (by omega) (by omega) (by omega) (by unfold maxLen; omega) ?_)
 intro w1 hblk hbel
 go_wp2_with fail
 go_loopw [7, 8] (fun r i wr => ∃ (q : Int) (k rr : Nat) (o : List Nat), i = .int .i64 q ∧ r = .int .u64 rr ∧ q + 1 = k ∧ k ≤ n ∧ OverTo l o d k rr ∧ DB wr w.heap.size o ∧ Below w.heap.size w wr)
   (fun _ i _ => (intOf i + 1).toNat)
 case atStart => exact ⟨_, n, 0, List.replicate l.length 0, rfl, rfl, by omega, by omega, HN.out ▸ OverTo.start l hd, DB.of_blk (e := 154) (by rw [HN.out]; simpa [dg] using hblk), hbel⟩
 case round =>
  obtain ⟨q, k', rr, o, rfl, rfl, hq, hk', hs, hdb, hbel⟩ := hrel
  have ho := hs.2.1
  rw [HN.out] at ho
  have HL := Lib.hid ho
  have HS := Lib.hid hs
  have HDB := Lib.hid hdb
  have hrr := hs.2.2.1
  clear ho hblk hs
  rcases Nat.eq_zero_or_pos k' with h0 | h0
  ·subst h0
   obtain rfl : q = -1 := by omega
   clear hq
   have dn := HS.out.done
   have hdd := HDB.out.digAt HS.out.1 (n := n) (c := n) (by rw [HL.out]) (Nat.le_refl _) (by omega)
   have HD := Lib.hid hdd
   have HB2 := Lib.hid hbel
   have DN := Lib.hid dn
   clear dn hdd hbel hdb
   go_wp2_with (go_at_call 64; refine (trimmedF _ _ o HD.out (by rw [HL.out]; omega)).mono ?_; rintro e w' ⟨v', rfl, hv, hb, hf⟩)
   go_ret2
   rw [DN.out.1] at hv
   refine ⟨v', ?_, hv, HB2.out.trans (hb.mono HB2.out.size), hf.mono HB2.out.size⟩
   rw [← DN.out.2]
   rfl
  ·obtain ⟨k, rfl⟩ : ∃ k, k' = k + 1 := ⟨k' - 1, by omega⟩
   obtain rfl : q = k := by omega
   clear hq h0
   have hkl : k < l.length := by rw [HN.out]; omega
   obtain ⟨x, hx⟩ : ∃ x, l[k]? = some x := ⟨_, List.getElem?_eq_getElem hkl⟩
   have hx0 := HO.out.get hx
   have hxd : l.getD k 0 = x := by rw [List.getD_eq_getElem?_getD, hx]; rfl
   have hk0 : k < o.length := by rw [HL.out]; omega
   have hz := hdb.cell hk0
   have hfz := hdb.frozen k
   have hcx := dig_cell HA.out HN.out hbel k x hxd
   have step := HS.out.step hd' hx hx0
   have STEP := Lib.hid step
   have HB2 := Lib.hid hbel
   have HK0 := Lib.hid hk0
   clear hx hxd step hbel hdb hk0 hkl
   rcases hcx with ⟨h1, b, off, rfl, hb, hc1⟩ | ⟨h1, hx⟩
   ·have hor := or64 rr x (by omega) hx0
    go_wp2_with fail
    exact ⟨⟨_, k, _, _, rfl, int_eq (cast_omod _ _ _), by omega, by omega, STEP.out.1, HDB.out.set HK0.out (cast_odiv _ _ _ STEP.out.2), HB2.out.setCell (p := ⟨w.heap.size, k, none⟩) (Nat.le_refl _) _⟩, by simp [intOf]⟩
   ·omega
set_option maxRecDepth 1000000 in
set_option maxHeartbeats 1000000 in
theorem div_lt (w : World) (va vb : Value) (a b k : Nat) (ha : NatAt w va a) (hb : NatAt w vb b) (la : a < 2 ^ k) (hk : k ≤ 70368744177664) (h : a < b) :
  Calls Tryz.prog 106 #[va, vb] w fun e w' => ∃ q r, e = .returned (.tuple #[q, r]) ∧ NatAt w' q (a / b) ∧ NatAt w' r (a % b) ∧ Below w.heap.size w w' ∧ From q w.heap.size := by
 have c := compare w va vb a b ha hb
 rw [cmpN_lt h] at c
 obtain ⟨l, dl, tl, rfl⟩ := ha
 have ll := tl.length_le la
 have cl : ∀ nd, Calls Tryz.prog 67 #[va] (w.drewN nd) fun e w' => ∃ v', e = .returned v' ∧ Sl w' 1 v' l.length (l.map dg) ∧ Below (w.drewN nd).heap.size (w.drewN nd) w' ∧ ∃ base, (w.drewN nd).heap.size ≤ base ∧ w'.ownsRow base 154 1 v' l.length (l.map dg) :=
  fun nd => clone_natural (w.drewN nd) va l.length (l.map dg) (dl.1.drewN nd) (dg_one l) (by omega)
 have C := Lib.hid c
 have CL := Lib.hid cl
 clear c cl hb la
 have h1 : val l / b = 0 := Nat.div_eq_of_lt h
 have h2 : val l % b = val l := Nat.mod_eq_of_lt h
 rw [h1, h2]
 clear h1 h2 h
 have HO := Lib.hid dl.2
 have HT := Lib.hid tl
 clear dl tl
 go_enter Tryz.func106, Tryz.ntmps106
 go_wp2_with fail
 go_step3
 go_wp2_with (go_at_call 68; refine C.out.mono ?_; rintro e w' ⟨rfl, nd, rfl⟩)
 go_wp2_with (go_at_call 67; refine (CL.out nd).mono ?_; rintro e w1 ⟨v1, rfl, hv1, hb1, _⟩)
 rw [Exit.noGoto_ret]
 go_ret2
 exact ⟨_, _, rfl, NatAt.nil_ _, ⟨l, ⟨hv1, HO.out⟩, HT.out, rfl⟩, below_of_drewN hb1, From.nil_ _⟩

theorem cmpN_ge {a b : Nat} (h : b ≤ a) : 0 ≤ cmpN a b := by
 unfold cmpN
 rw [if_neg (by omega)]
 split <;> omega

set_option maxRecDepth 1000000 in
set_option maxHeartbeats 1000000 in
theorem div_one (w : World) (va : Value) (a d k : Nat) (B : Option Addr) (cb : Nat) (ha : NatAt w va a) (hb : DigAt w (.slice B 1 cb) [d]) (la : a < 2 ^ k) (hk : k ≤ 70368744177664) (hd : 0 < d) (h : d ≤ a) :
  Calls Tryz.prog 106 #[va, .slice B 1 cb] w fun e w' => ∃ q r, e = .returned (.tuple #[q, r]) ∧ NatAt w' q (a / d) ∧ NatAt w' r (a % d) ∧ Below w.heap.size w w' ∧ From q w.heap.size := by
 have hd' : d < 4294967296 := hb.2 d (by simp)
 have c := compare w va _ a d ha ⟨[d], hb, by simp [Trim]; omega, by simp [val]⟩
 have hc := cmpN_ge h
 generalize cmpN a d = cc at *
 have C := Lib.hid c
 clear c
 obtain ⟨_, A, ca, hA, hlc, hcm, hB⟩ := hb.open_
 cases hA
 rcases hB with hB | ⟨b, off, rfl, hblt, hcell⟩
 ·cases hB
 have hc0 := hcell 0 d rfl
 rw [Nat.add_zero] at hc0
 have ov : ∀ nd, Calls Tryz.prog 141 #[va, .int .u32 (d : Int)] (w.drewN nd) fun e w' => ∃ v', e = .returned (.tuple #[v', .int .u32 ((a % d : Nat) : Int)]) ∧ NatAt w' v' (a / d) ∧ Below (w.drewN nd).heap.size (w.drewN nd) w' ∧ From v' w.heap.size :=
  fun nd => over (w.drewN nd) va a d k ha la hk hd hd'
 have OV := Lib.hid ov
 have hm : a % d < 4294967296 := by have := Nat.mod_lt a hd; omega
 generalize a % d = m at *
 generalize a / d = q at *
 clear ov hcell hb ha la h
 go_enter Tryz.func106, Tryz.ntmps106
 go_wp2_with fail
 go_step3
 go_wp2_with (go_at_call 68; refine C.out.mono ?_; rintro e w' ⟨rfl, nd, rfl⟩)
 go_wp2_with (go_at_call 141; refine (OV.out _).mono ?_; rintro e w1 ⟨v1, rfl, hv1, hb1, hf1⟩)
 have HF := Lib.hid hf1
 clear hf1
 have HV := Lib.hid hv1
 have HB := Lib.hid (below_of_drewN hb1)
 clear hv1 hb1
 go_wp2_with (go_at_call 65; refine (small _ m (by omega)).mono ?_; rintro e w2 ⟨v2, rfl, hv2, hb2⟩)
 rw [Exit.noGoto_ret]
 go_ret2
 exact ⟨_, _, rfl, HV.out.below hb2, hv2, HB.out.trans (hb2.mono HB.out.size), HF.out⟩
end Go.Proofs.YtlhankdkhiilkaaGreat
