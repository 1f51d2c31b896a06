/- Lemmas on the way: Gm4, Gm5, Gm6. -/
import Derived.Test.YtjebfdfkjlkifaaGreatC17
set_option linter.unusedSimpArgs false
set_option linter.unusedVariables false
set_option linter.unusedSectionVars false
set_option linter.unnecessarySimpa false
namespace Go.Proofs.YtjebfdfkjlkifaaGreat
open Go.RowKit
def ListsAt (w : World) (v : Value) (ls : List (List Int)) : Prop := ∃ cells, Sl w 1 v ls.length cells ∧ ∀ (i : Nat) (l : List Int), ls[i]? = some l → ∃ c0, cells[i]? = some c0 ∧ IntsAt w c0 l
theorem ListsAt.below {w w' : World} {v : Value} {ls : List (List Int)} (h : ListsAt w v ls) (hb : Below w.heap.size w w') : ListsAt w' v ls := by
 obtain ⟨cells, h1, h2⟩ := h
 refine ⟨cells, h1.below hb, fun i l hl => ?_⟩
 obtain ⟨c0, e0, e1⟩ := h2 i l hl
 exact ⟨c0, e0, e1.below hb⟩
theorem ListsAt.open_ {w : World} {v : Value} {ls : List (List Int)} (h : ListsAt w v ls) : ∃ A c, v = .slice A ls.length c ∧ ls.length ≤ c ∧ c ≤ 9223372036854775807 ∧
  ∀ j l, ls[j]? = some l → ∃ b off c0, A = some ⟨b, off, none⟩ ∧ b < w.heap.size ∧ w.cell? ⟨b, off + j, none⟩ = some c0 ∧ IntsAt w c0 l := by
 obtain ⟨cells, h1, h2⟩ := h
 obtain ⟨h0, A, c, rfl, hc, hm, h5⟩ := h1
 refine ⟨A, c, rfl, hc, by unfold maxLen at hm; omega, fun j x hx => ?_⟩
 have hj := (List.getElem?_eq_some_iff.1 hx).1
 obtain ⟨b, off, e, hlt, hcell⟩ := h5 (by omega)
 obtain ⟨c0, e0, hf⟩ := h2 j x hx
 exact ⟨b, off, c0, e, hlt, hcell _ _ e0, hf⟩

def ListsNew (F : Nat) (w : World) (v : Value) (ls : List (List Int)) : Prop := ∃ cells, Sl w 1 v ls.length cells ∧ From v F ∧ ∀ (i : Nat) (l : List Int), ls[i]? = some l → ∃ c0, cells[i]? = some c0 ∧ IntsAt w c0 l ∧ From c0 F
theorem ListsNew.at_ {F : Nat} {w : World} {v : Value} {ls : List (List Int)} (h : ListsNew F w v ls) : ListsAt w v ls := by
 obtain ⟨cells, h1, _, h2⟩ := h
 exact ⟨cells, h1, fun i l hl => by
  obtain ⟨c0, e0, e1, _⟩ := h2 i l hl
  exact ⟨c0, e0, e1⟩⟩
def Same (F : Nat) (w w' : World) : Prop := w.heap.size ≤ w'.heap.size ∧ ∀ b, F ≤ b → b < w.heap.size → w'.heap[b]? = w.heap[b]?
theorem cell_of_heap {w w' : World} {b : Nat} (h : w'.heap[b]? = w.heap[b]?) (o : Nat) : w'.cell? ⟨b, o, none⟩ = w.cell? ⟨b, o, none⟩ := by
 simp only [World.cell?, h]
theorem Sl.same {F : Nat} {w w' : World} {sz : Nat} {v : Value} {n : Nat} {xs : List Value} (h : Sl w sz v n xs) (hf : From v F) (hs : Same F w w') : Sl w' sz v n xs := by
 obtain ⟨h0, A, c, rfl, h2, h3, h5⟩ := h
 refine ⟨h0, A, c, rfl, h2, h3, fun hn => ?_⟩
 obtain ⟨b, off, e, hlt, hc⟩ := h5 hn
 subst e
 exact ⟨b, off, rfl, Nat.lt_of_lt_of_le hlt hs.1, fun j u hu => (cell_of_heap (hs.2 b (hf _ _ _ rfl) hlt) _).trans (hc j u hu)⟩
theorem ListsNew.same {F : Nat} {w w' : World} {v : Value} {ls : List (List Int)} (h : ListsNew F w v ls) (hs : Same F w w') : ListsNew F w' v ls := by
 obtain ⟨cells, h1, hf, h2⟩ := h
 refine ⟨cells, h1.same hf hs, hf, fun i l hl => ?_⟩
 obtain ⟨c0, e0, e1, e2⟩ := h2 i l hl
 exact ⟨c0, e0, Sl.same e1 e2 hs, e2⟩

def fullL (m : Nat) (s : List Int) : List Int := List.replicate m 0 ++ s ++ [0]
def gramsL (m : Nat) (s : List Int) : List (List Int) := (List.range (s.length + 1)).map fun i => ((fullL m s).drop i).take (m + 1)
theorem fullL_length (m : Nat) (s : List Int) : (fullL m s).length = m + s.length + 1 := by simp [fullL]; omega
def winV (g n cap j : Nat) : List Value := (List.range j).map fun i => .slice (some ⟨g, i, none⟩) n (cap - i)
theorem winV_succ (g n cap j : Nat) : winV g n cap (j + 1) = winV g n cap j ++ [.slice (some ⟨g, j, none⟩) n (cap - j)] := by simp [winV, List.range_succ]
theorem infoInts : (Tryz.prog.info? 44).map (fun i => (i.zero, i.size, i.bytes)) = some (some (.slice none 0 0), 1, 24) := by kernel_rfl

theorem win_at {w : World} {g cap L j n : Nat} {l : List Int} (h : Sl w 1 (.slice (some ⟨g, 0, none⟩) L cap) L (l.map (Value.int .i64))) (hj : j + n ≤ L) (hl : l.length = L) : IntsAt w (.slice (some ⟨g, j, none⟩) n (cap - j)) ((l.drop j).take n) := by
 have e : ((l.drop j).take n).length = n := by rw [List.length_take, List.length_drop]; omega
 have h1 := (h.tail (k := j) (by omega)).head (k := n) (by omega)
 unfold IntsAt
 rw [e]
 simpa using h1

set_option maxRecDepth 1000000 in
set_option maxHeartbeats 4000000 in
theorem gramsG (w : World) (N : Int) (m : Nat) (v : Value) (s : List Int) (hN : N = m + 1) (hm : m ≤ 1000) (hs : s.length ≤ 1000000) (h : IntsAt w v s) :
  Calls Tryz.prog 84 #[.int .i64 N, v] w fun e w' => ∃ v', e = .returned v' ∧ ListsNew w.heap.size w' v' (gramsL m s) ∧ Below w.heap.size w w' := by
 have HS := Lib.hid h
 obtain ⟨A, c, rfl⟩ := h.len
 have HN := Lib.hid hN
 have hN1 : 1 ≤ N := by omega
 have hN2 : N ≤ 1001 := by omega
 clear h hN
 obtain ⟨i0, gi, gz0, gz1, gz2⟩ := info_parts infoInt
 obtain ⟨i1, ki, kz0, kz1, kz2⟩ := info_parts infoInts
 go_enter Tryz.func84, Tryz.ntmps84
 go_wp2_with (at_make; refine wpList_make_blk rfl _ _ 44 rfl 3 i0 (.int .i64 0) 8 Tryz.underlying44 gi gz0 gz1 gz2 rfl .i64 .i64 _ _ m rfl rfl (by have := HN.out; omega) (by have := HN.out; omega) (by omega) (by unfold maxLen; omega) ?_)
 intro w1 hblk hbel
 have HO1 := Lib.hid (hblk.own (base := w.heap.size) (sz := 1) (n := m) (Nat.le_refl _) (by simp) (by unfold maxLen; omega))
 have B1 := Lib.hid hbel
 have hs1 : w.heap.size ≤ w1.heap.size := hbel.size
 clear hblk hbel
 go_wp2_with (at_builtin; refine wpList_append_sl rfl (.tmp 11) (.tmp 12) 44 rfl w.heap.size 3 i0 (.int .i64 0) 1 8 Tryz.underlying44 gi gz0 gz1 gz2 rfl (by decide) _ _ _ rfl HO1.out _ s.length (s.map (Value.int .i64)) rfl (HS.out.below B1.out) (ints_one s) (by unfold maxLen; omega) (by omega) hs1 ?_)
 intro v2 w2 t1 t2 _
 have HO2 := Lib.hid t1
 have B2 : Hid (Below w.heap.size w w2) := Lib.hid (B1.out.grown t2 hs1 (own_block_le (From.of_own HO1.out)))
 have hs2 : w.heap.size ≤ w2.heap.size := B2.out.size
 clear t1 t2
 go_wp2_with (at_builtin; refine wpList_append_sl rfl (.tmp 13) (.tmp 14) 44 rfl w.heap.size 3 i0 (.int .i64 0) 1 8 Tryz.underlying44 gi gz0 gz1 gz2 rfl (by decide) _ _ _ rfl (own_below HO2.out (Below.alloc (Below.refl _ _) (Nat.le_refl _) _)) _ 1 [.int .i64 0] rfl (Sl.one _ _ _) (by simp [Value.oneCell']) (by unfold maxLen; omega) (by omega) (by simp; omega) ?_)
 intro v3 w3 t1 t2 _
 have HO3 : Hid (w3.ownsRow w.heap.size 3 1 v3 (m + s.length + 1) ((fullL m s).map (Value.int .i64))) := Lib.hid (by
  have := t1
  simpa [fullL, List.map_append, List.map_replicate, Nat.add_assoc] using this)
 have B3 : Hid (Below w.heap.size w w3) := Lib.hid ((B2.out.alloc hs2 _).grown t2 (by simp; omega) (own_block_le (From.of_own HO2.out)))
 have hs3 : w.heap.size ≤ w3.heap.size := B3.out.size
 clear t1 t2
 obtain ⟨g, cap, rfl, hcap, hcm⟩ : ∃ g cap, v3 = .slice (some ⟨g, 0, none⟩) (m + s.length + 1) cap ∧ m + s.length + 1 ≤ cap ∧ cap ≤ 9223372036854775807 := by
  obtain ⟨h0, ⟨_, h1⟩ | ⟨g, cap, cur, hv, hb, hh, hn, hc, _⟩⟩ := HO3.out
  ·simp at h1
  ·exact ⟨g, cap, hv, hn, by unfold maxLen at hc; omega⟩
 obtain ⟨L, hL⟩ : ∃ L, m + s.length + 1 = L := ⟨_, rfl⟩
 rw [hL] at hcap HO3 ⊢
 have HL := Lib.hid hL
 have hLb : L ≤ 1002000 := by omega
 clear hL
 go_wp2_with fail
 go_loopg [6, 7] (s.length + 1) (fun gh vo i wr => ∃ (j : Nat) (q : Int), i = .int .i64 q ∧ Hid (q = m + j) ∧ j + gh = s.length + 1 ∧ Hid (wr.ownsRow w3.heap.size 44 1 vo j (winV g (m + 1) cap j)) ∧ Hid (Below w3.heap.size w3 wr))
 case atStart => exact ⟨0, N - 1, rfl, Lib.hid (by have := HN.out; omega), by omega, Lib.hid (World.ownsRow_nil ..), Lib.hid (Below.refl _ _)⟩
 case round =>
  obtain ⟨j, q, rfl, HQ, hj, HOW, BEL⟩ := hrel
  have hq1 : 0 ≤ q := by have := HQ.out; omega
  have hq2 : q ≤ 1002000 := by have := HQ.out; omega
  have hwz : w3.heap.size ≤ wr.heap.size := BEL.out.size
  rcases Nat.eq_zero_or_pos gk with h | h
  ·have hd : decide (q < (L : Int)) = false := decide_eq_false (by have := HQ.out; have := HL.out; omega)
   go_wp2_with fail
   go_ret
   refine ⟨_, rfl, ⟨winV g (m + 1) cap j, ?_, (From.of_own HOW.out).mono hs3, ?_⟩, B3.out.trans (BEL.out.mono hs3)⟩
   ·have := Sl.of_own HOW.out
    rw [show (gramsL m s).length = j by simp [gramsL]; omega]
    exact this
   ·intro i l hl
    have hi := (List.getElem?_eq_some_iff.1 hl).1
    simp [gramsL] at hi
    refine ⟨.slice (some ⟨g, i, none⟩) (m + 1) (cap - i), ?_, ?_, fun ad n' c' e => by cases e; exact own_ge HO3.out⟩
    ·simp [winV, List.getElem?_range (show i < j by omega)]
    ·have e : l = ((fullL m s).drop i).take (m + 1) := by
      simp [gramsL, List.getElem?_range hi] at hl
      exact hl.symm
     rw [e]
     exact win_at ((Sl.of_own HO3.out).below BEL.out) (by have := HL.out; omega) (by rw [fullL_length]; exact HL.out)
  ·obtain ⟨gh, rfl⟩ : ∃ g, gk = g + 1 := ⟨gk - 1, by omega⟩
   have hd : decide (q < (L : Int)) = true := decide_eq_true (by have := HQ.out; have := HL.out; omega)
   have e1 : (q - N + 1).toNat = j := by have := HQ.out; have := HN.out; omega
   have e2 : (q + 1).toNat = j + (m + 1) := by have := HQ.out; omega
   have e3 : 0 ≤ q - N + 1 := by have := HQ.out; have := HN.out; omega
   have e4 : q - N + 1 ≤ q + 1 := by omega
   have e5 : q + 1 ≤ (cap : Int) := by have := HQ.out; have := HL.out; omega
   have e6 : ¬ cap = j := by have := HL.out; omega
   have e7 : j + (m + 1) - j = m + 1 := by omega
   go_wp2_with (at_builtin; refine wpList_append_sl rfl (.tmp 24) (.tmp 33) 22 rfl w3.heap.size 44 i1 (.slice none 0 0) 1 24 Tryz.underlying22 ki kz0 kz1 kz2 rfl (by decide) _ _ _ rfl (own_below HOW.out (Below.alloc (Below.refl _ _) (Nat.le_refl _) _)) _ 1 [.slice (some ⟨g, j, none⟩) (m + 1) (cap - j)] rfl (Sl.one _ _ _) (by simp [Value.oneCell']) (by unfold maxLen; omega) (by omega) (by simp; omega) ?_)
   intro v4 w4 t1 t2 _
   have HO4 : Hid (w4.ownsRow w3.heap.size 44 1 v4 (j + 1) (winV g (m + 1) cap (j + 1))) := Lib.hid (by rw [winV_succ]; exact t1)
   have B4 : Hid (Below w3.heap.size w3 w4) := Lib.hid ((BEL.out.alloc hwz _).grown t2 (by simp; omega) (own_block_le (From.of_own HOW.out)))
   clear t1 t2
   go_wp2_with fail
   go_roundg gh
   case measure => omega
   case rel => exact ⟨j + 1, q + 1, rfl, Lib.hid (by have := HQ.out; omega), by omega, HO4, B4⟩
def GoodL (m : Nat) (K : Nat) (gs : List Gr) : Prop := gs.length ≤ K ∧ ∀ g ∈ gs, g.1.length = m + 1 ∧ 0 ≤ g.2 ∧ g.2 ≤ K
theorem GoodL.nil_ (m : Nat) : GoodL m 0 [] := ⟨by simp, by simp⟩
theorem putL_mem {gs : List Gr} {ws : List Int} {n : Int} {g : Gr} (h : g ∈ putL gs ws n) : g ∈ gs ∨ g = (ws, n) ∨ ∃ x ∈ gs, g = (x.1, x.2 + n) := by
 induction gs with
 | nil => simp [putL] at h; exact .inr (.inl h)
 | cons x gs ih =>
  unfold putL at h
  split at h
  ·rcases List.mem_cons.1 h with rfl | h
   ·exact .inl (by simp)
   ·rcases ih h with h | h | ⟨y, hy, e⟩
    ·exact .inl (by simp [h])
    ·exact .inr (.inl h)
    ·exact .inr (.inr ⟨y, by simp [hy], e⟩)
  ·split at h
   ·rcases List.mem_cons.1 h with rfl | h
    ·exact .inr (.inr ⟨x, by simp, rfl⟩)
    ·exact .inl (by simp [h])
   ·rcases List.mem_cons.1 h with rfl | h
    ·exact .inr (.inl rfl)
    ·exact .inl h
theorem putL_length (gs : List Gr) (ws : List Int) (n : Int) : (putL gs ws n).length ≤ gs.length + 1 := by
 induction gs with
 | nil => simp [putL]
 | cons x gs ih =>
  unfold putL
  split
  ·simp; omega
  ·split <;> simp
theorem GoodL.put {m K : Nat} {gs : List Gr} {ws : List Int} {n : Nat} (h : GoodL m K gs) (hw : ws.length = m + 1) (hn : 1 ≤ n) : GoodL m (K + n) (putL gs ws n) := by
 refine ⟨by have := putL_length gs ws n; have := h.1; omega, fun g hg => ?_⟩
 rcases putL_mem hg with h' | rfl | ⟨x, hx, rfl⟩
 ·have := h.2 g h'; omega
 ·simp only; omega
 ·have := h.2 x hx; simp only; omega
theorem GoodL.mono {m K K' : Nat} {gs : List Gr} (h : GoodL m K gs) (hk : K ≤ K') : GoodL m K' gs := ⟨Nat.le_trans h.1 hk, fun g hg => by have := h.2 g hg; omega⟩

def putAll (t : List Gr) (l : List (List Int)) : List Gr := l.foldl (fun t g => putL t g 1) t
def countL (m : Nat) (ls : List (List Int)) : List Gr := putAll [] (ls.flatMap (gramsL m))
theorem putAll_snoc (t : List Gr) (l : List (List Int)) (g : List Int) : putAll t (l ++ [g]) = putL (putAll t l) g 1 := by simp [putAll]
theorem countL_take {m : Nat} {ls : List (List Int)} {i : Nat} {s : List Int} (h : ls[i]? = some s) : countL m (ls.take (i + 1)) = putAll (countL m (ls.take i)) (gramsL m s) := by
 unfold countL
 rw [take_succ_get _ h, List.flatMap_append]
 simp [putAll]
theorem gramsL_mem {m : Nat} {s g : List Int} (h : g ∈ gramsL m s) : g.length = m + 1 := by
 simp only [gramsL, List.mem_map, List.mem_range] at h
 obtain ⟨i, hi, rfl⟩ := h
 rw [List.length_take, List.length_drop, fullL_length]
 omega
theorem gramsL_length (m : Nat) (s : List Int) : (gramsL m s).length = s.length + 1 := by simp [gramsL]

theorem own_setFar {w : World} {base : Nat} {e : TypeId} {sz : Nat} {v : Value} {n : Nat} {xs : List Value} (h : w.ownsRow base e sz v n xs) {p : Addr} (hp : p.block < base) (u : Value) : (w.setCell p u).ownsRow base e sz v n xs := by
 obtain ⟨h0, h1 | ⟨g, cap, cur, hv, hg, hh, hr⟩⟩ := h
 ·exact ⟨h0, .inl h1⟩
 ·exact ⟨h0, .inr ⟨g, cap, cur, hv, hg, (Below.heap_setCell w p u g (by omega)).trans hh, hr⟩⟩
theorem GOwn.setFar {base : Nat} {w : World} {v : Value} {gs : List Gr} (h : GOwn base w v gs) {p : Addr} (hp : p.block < base) (u : Value) : GOwn base (w.setCell p u) v gs := by
 obtain ⟨cells, h1, h2⟩ := h
 refine ⟨cells, own_setFar h1 hp u, fun i g hg => ?_⟩
 obtain ⟨c0, e0, e1, e2, e3, e4⟩ := h2 i g hg
 exact ⟨c0, e0, e1, Sl.setFar e2 e3 hp u, e3, e4⟩
theorem GOwn.mono {base base' : Nat} {w : World} {v : Value} {gs : List Gr} (h : GOwn base w v gs) (hb : base' ≤ base) : GOwn base' w v gs := by
 obtain ⟨cells, h1, h2⟩ := h
 refine ⟨cells, own_mono h1 hb, fun i g hg => ?_⟩
 obtain ⟨c0, e0, e1, e2, e3, e4⟩ := h2 i g hg
 exact ⟨c0, e0, e1, e2, e3.mono hb, e4⟩
theorem GOwn.len {base : Nat} {w : World} {v : Value} {gs : List Gr} (h : GOwn base w v gs) : ∃ A c, v = .slice A gs.length c := by
 obtain ⟨A, c, e, _⟩ := h.at_.open_
 exact ⟨A, c, e⟩

theorem below_of_drew' {B : Nat} {w w' : World} (h : Below B w.drew w') : Below B w w' := ⟨h.os, h.tape, h.output, h.size, h.block⟩

theorem own_block_lt {base : Nat} {w : World} {v : Value} {gs : List Gr} (h : GOwn base w v gs) {b : Nat} (e : v.ownBlock = some b) : b < w.heap.size := by
 obtain ⟨cells, ⟨h0, ⟨rfl, _⟩ | ⟨g, cap, cur, rfl, hg, hh, _⟩⟩, _⟩ := h
 ·cases e
 ·cases e
  exact (Array.getElem?_eq_some_iff.1 hh).1
theorem GOwn.from_ {base : Nat} {w : World} {v : Value} {gs : List Gr} (h : GOwn base w v gs) : From v base := by
 obtain ⟨cells, h1, _⟩ := h
 exact From.of_own h1
theorem same_step {F : Nat} {wo wr w5 : World} {v v5 : Value} {p : Addr} {u : Value} (h : Same F wo wr ∧ ∀ b, v.ownBlock = some b → b < F ∨ wo.heap.size ≤ b) (hg : wr.drew.grownBy w5 v.ownBlock) (hx : v5.ownBlock = v.ownBlock ∨ ∀ b, v5.ownBlock = some b → wr.heap.size ≤ b) (hp : p.block < F) :
  Same F wo (w5.setCell p u) ∧ ∀ b, v5.ownBlock = some b → b < F ∨ wo.heap.size ≤ b := by
 obtain ⟨⟨h1, h2⟩, h3⟩ := h
 have hs : wr.heap.size ≤ w5.heap.size := hg.size
 refine ⟨⟨by simp only [World.setCell]; simp; omega, fun b hb hlt => ?_⟩, fun b e => ?_⟩
 ·rw [Below.heap_setCell w5 p u b (by omega)]
  refine Eq.trans (hg.block b (Nat.lt_of_lt_of_le hlt h1) (fun e => ?_)) (h2 b hb hlt)
  have := h3 b e.symm
  omega
 ·rcases hx with hx | hx
  ·exact h3 b (hx ▸ e)
  ·have := hx b e
   omega

set_option maxRecDepth 1000000 in
set_option maxHeartbeats 8000000 in
theorem countG (w : World) (N V : Int) (m : Nat) (v : Value) (ls : List (List Int)) (hN : N = m + 1) (hm : m ≤ 1000) (hs : ∀ s ∈ ls, s.length ≤ 1000000) (ht : (ls.flatMap (gramsL m)).length ≤ 900000) (h : ListsAt w v ls) :
  Calls Tryz.prog 23 #[.int .i64 N, .int .i64 V, v] w fun e w' => ∃ lv, e = .returned (.agg #[.int .i64 N, .int .i64 V, lv]) ∧ GOwn w.heap.size w' lv (countL m ls) ∧ GoodL m 900000 (countL m ls) ∧ Below w.heap.size w w' := by
 obtain ⟨A, c, rfl, hlc, hcm, hat⟩ := h.open_
 have HAT := Lib.hid hat
 have HS := Lib.hid hs
 have HT := Lib.hid ht
 have HN := Lib.hid hN
 clear h hat hs ht hN
 obtain ⟨n, hn⟩ : ∃ n, ls.length = n := ⟨_, rfl⟩
 rw [hn] at hlc ⊢
 have HLN := Lib.hid hn
 clear hn
 go_enter Tryz.func23, Tryz.ntmps23
 go_wp2_with fail
 obtain ⟨W, hW, P0, P1, PB, Phs⟩ := box2 w 27 [.int .i64 0, .int .i64 0, .slice none 0 0] 27 [.int .i64 N, .int .i64 V, .slice none 0 0]
 rw [← hW]
 clear hW
 go_loopg [8] n (fun gh i wr => ∃ (j : Nat) (lv : Value) (K : Nat), i = .int .i64 j ∧ j + gh = n ∧ Hid (K = ((ls.take j).flatMap (gramsL m)).length) ∧ Hid (GoodL m K (countL m (ls.take j))) ∧ Hid (GOwn (w.heap.size + 2) wr lv (countL m (ls.take j))) ∧ Hid (Blk wr (w.heap.size + 1) 27 [.int .i64 N, .int .i64 V, lv]) ∧
   Hid (Blk wr w.heap.size 27 [.int .i64 0, .int .i64 0, .slice none 0 0]) ∧ Hid (Below w.heap.size w wr))
 case atStart => exact ⟨0, .slice none 0 0, 0, rfl, by omega, Lib.hid (by simp), Lib.hid (GoodL.nil_ m), Lib.hid (GOwn.nil_ _ _), P1, P0, PB⟩
 case round =>
  obtain ⟨j, lv, K, rfl, hj, HK, HG, HO, HB1, HB0, BEL⟩ := hrel
  have hwz : w.heap.size + 2 ≤ wr.heap.size := HB1.out.lt
  rcases Nat.eq_zero_or_pos gk with h | h
  ·obtain rfl : j = n := by omega
   have HE : Hid (ls.take j = ls) := Lib.hid (List.take_of_length_le (by rw [HLN.out]; exact Nat.le_refl _))
   obtain ⟨A', c', rfl⟩ := HO.out.len
   obtain ⟨r0, r1, r2, z0, z1, z2⟩ := HB0.out.three
   obtain ⟨o0, o1, o2, _, _, _⟩ := HB1.out.three
   generalize (countL m (ls.take j)).length = len at *
   go_wp2_with fail
   refine bodyPost_ret (v := .agg #[.int .i64 N, .int .i64 V, .slice A' len c']) (by simp [results, Tryz.results23, go_sem, r0, r1, r2]) rfl ⟨_, rfl, ?_, ?_, below_box3 BEL.out (Nat.le_refl _) _ _ _⟩
   ·have := (((HO.out.setFar (p := ⟨w.heap.size, 0, none⟩) (by show w.heap.size < w.heap.size + 2; omega) (.int .i64 N)).setFar (p := ⟨w.heap.size, 1, none⟩) (by show w.heap.size < w.heap.size + 2; omega) (.int .i64 V)).setFar (p := ⟨w.heap.size, 2, none⟩) (by show w.heap.size < w.heap.size + 2; omega) (.slice A' len c')).mono (show w.heap.size ≤ w.heap.size + 2 by omega)
    rwa [HE.out] at this
   ·have := HG.out
    rw [HE.out] at this
    exact this.mono (by have := HK.out; rw [HE.out] at this; have := HT.out; omega)
  ·obtain ⟨gh, rfl⟩ : ∃ g, gk = g + 1 := ⟨gk - 1, by omega⟩
   obtain ⟨s, hsj⟩ : ∃ s, ls[j]? = some s := ⟨_, List.getElem?_eq_getElem (by rw [HLN.out]; omega)⟩
   obtain ⟨ba, oa, c0, rfl, hba, e0, hi⟩ := HAT.out j s hsj
   have d0 := (BEL.out.cell (p := ⟨ba, oa + j, none⟩) hba).trans e0
   have HSJ := Lib.hid hsj
   have HC := Lib.hid (countL_take (m := m) hsj)
   have HI := Lib.hid (hi.below BEL.out)
   have hsl := HS.out s (List.mem_of_getElem? hsj)
   clear hsj e0 hi
   go_wp2_with fail
   refine (gramsG wr N m c0 s HN.out hm hsl HI.out).mono ?_
   rintro e w1 ⟨gv, rfl, t1, hb1⟩
   have GN := Lib.hid t1
   have GL := Lib.hid t1.at_
   have hb1' := Lib.hid hb1
   have B1 := Lib.hid (BEL.out.trans (hb1.mono (by omega)))
   have HO1 := Lib.hid (HO.out.below hb1)
   have H11 := Lib.hid (HB1.out.below' hb1)
   have H10 := Lib.hid (HB0.out.below' hb1)
   have hw1 : w.heap.size + 2 ≤ w1.heap.size := Nat.le_trans hwz hb1.size
   clear t1 hb1 d0
   obtain ⟨G, cg, rfl, hgc, hgm, hgt⟩ := GL.out.open_
   have HGT := Lib.hid hgt
   clear hgt
   obtain ⟨p, hp⟩ : ∃ p, (gramsL m s).length = p := ⟨_, rfl⟩
   rw [hp] at hgc ⊢
   have HP := Lib.hid hp
   have hKp : Hid (K + p = ((ls.take (j + 1)).flatMap (gramsL m)).length) := Lib.hid (by
    rw [take_succ_get _ HSJ.out, List.flatMap_append, List.length_append, ← HK.out]
    simp [hp])
   have hKT : K + p ≤ 900000 := by
    rw [hKp.out]
    refine Nat.le_trans ?_ HT.out
    have : ls = ls.take (j + 1) ++ ls.drop (j + 1) := (List.take_append_drop _ _).symm
    conv => rhs; rw [this, List.flatMap_append, List.length_append]
    omega
   clear hp
   go_wp2_with fail
   obtain ⟨wo, hwo⟩ : ∃ wo, wo = w1 := ⟨_, rfl⟩
   rw [← hwo] at GL GN hb1' B1 HO1 H11 H10 hw1 HGT ⊢
   clear hwo
   obtain ⟨Fz, hFz⟩ : ∃ F, F = wr.heap.size := ⟨_, rfl⟩
   have HOB : Hid (∀ b, lv.ownBlock = some b → b < Fz) := Lib.hid (fun b e => by rw [hFz]; exact own_block_lt HO.out e)
   have GN' : Hid (ListsNew Fz wo (.slice G p cg) (gramsL m s)) := Lib.hid (by rw [hFz]; have := GN.out; rwa [HP.out] at this)
   have hFw : Fz ≤ wo.heap.size := by rw [hFz]; exact hb1'.out.size
   have hFb : w.heap.size + 1 < Fz := by rw [hFz]; omega
   clear hFz GN
   go_loopg [10] p (fun g2 i2 wr => ∃ (k : Nat) (lv : Value), i2 = .int .i64 k ∧ k + g2 = p ∧ Hid (GoodL m (K + k) (putAll (countL m (ls.take j)) ((gramsL m s).take k))) ∧ Hid (GOwn (w.heap.size + 2) wr lv (putAll (countL m (ls.take j)) ((gramsL m s).take k))) ∧ Hid (Blk wr (w.heap.size + 1) 27 [.int .i64 N, .int .i64 V, lv]) ∧
     Hid (Blk wr w.heap.size 27 [.int .i64 0, .int .i64 0, .slice none 0 0]) ∧ Hid (Below w.heap.size w wr) ∧ Hid (Same Fz wo wr ∧ ∀ b, lv.ownBlock = some b → b < Fz ∨ wo.heap.size ≤ b))
   case atStart => exact ⟨0, lv, rfl, by omega, Lib.hid (by simpa [putAll] using HG.out), Lib.hid (by simpa [putAll] using HO1.out), H11, H10, B1, Lib.hid ⟨⟨Nat.le_refl _, fun _ _ _ => rfl⟩, fun b e => .inl (HOB.out b e)⟩⟩
   case round =>
    clear HO HB1 HB0 BEL HO1 H11 H10 B1 GL HGT HOB
    obtain ⟨k, lv, rfl, hk, HGk, HOk, H1, H0, BEL, HSM⟩ := hrel
    have GLn := Lib.hid (GN'.out.same HSM.out.1)
    have GL := Lib.hid GLn.out.at_
    have hwz : w.heap.size + 2 ≤ wr.heap.size := H1.out.lt
    rcases Nat.eq_zero_or_pos gk with h | h
    ·obtain rfl : k = p := by omega
     have HE : Hid ((gramsL m s).take k = gramsL m s) := Lib.hid (List.take_of_length_le (by rw [HP.out]; exact Nat.le_refl _))
     go_wp2_with fail
     go_roundg gh
     case measure => omega
     case rel => exact ⟨j + 1, lv, K + k, rfl, by omega, hKp, Lib.hid (by rw [HC.out]; have := HGk.out; rwa [HE.out] at this), Lib.hid (by rw [HC.out]; have := HOk.out; rwa [HE.out] at this), H1, H0, BEL⟩
    ·obtain ⟨g2, rfl⟩ : ∃ g, gk = g + 1 := ⟨gk - 1, by omega⟩
     obtain ⟨t, ht⟩ : ∃ t, (gramsL m s)[k]? = some t := ⟨_, List.getElem?_eq_getElem (by rw [HP.out]; omega)⟩
     obtain ⟨A2, c2, e2, _, _, hat2⟩ := GL.out.open_
     cases e2
     obtain ⟨bb, ob, ce, rfl, hbb, e0, hi⟩ := hat2 k t ht
     obtain ⟨p0, p1, p2, _, _, _⟩ := H1.out.three
     have HI := Lib.hid hi
     have HTL := Lib.hid (gramsL_mem (List.mem_of_getElem? ht))
     have HX := Lib.hid ht
     clear ht hi hat2
     go_wp2_with fail
     go_region_with (first
      | (go_at_call 85; refine (putG (w.heap.size + 2) _ lv ce _ t 1 (HOk.out.below (below_drew_self _)) (HI.out.below (below_drew_self _)) (fun g hg => by rw [(HGk.out.2 g hg).1, HTL.out]) (by omega) (fun g hg => by have := HGk.out.2 g hg; omega) (by have := HGk.out.1; omega) (by rw [HTL.out]; omega) (by show w.heap.size + 2 ≤ wr.heap.size; exact hwz)).mono ?_; rintro e w5 ⟨lv5, rfl, t5, hg5, hx5⟩; obtain ⟨A5, c5, rfl⟩ := t5.len; have O5 := Lib.hid t5; have G5 := Lib.hid hg5; have X5 := Lib.hid hx5; have B5 := Lib.hid (below_of_drew' ((Below.refl (w.heap.size + 2) wr.drew).grown hg5 (by show w.heap.size + 2 ≤ wr.heap.size; exact hwz) (own_block_le HOk.out.from_))); have H5 := Lib.hid (H1.out.below B5.out (by omega)); obtain ⟨r0, r1, r2, z0, z1, z2⟩ := H5.out.three; clear t5 hg5 hx5))
     all_goals
      go_wp2_with fail
      go_roundg g2
      case measure => omega
      case rel => exact ⟨k + 1, _, rfl, by omega, Lib.hid (by rw [take_succ_get _ HX.out, putAll_snoc, ← Nat.add_assoc]; exact HGk.out.put HTL.out (Nat.le_refl 1)), Lib.hid (by rw [take_succ_get _ HX.out, putAll_snoc]; exact O5.out.setFar (p := ⟨w.heap.size + 1, 2, none⟩) (by show w.heap.size + 1 < w.heap.size + 2; omega) _), Lib.hid (H5.out.set_ 2 _),
       Lib.hid ((H0.out.below B5.out (by omega)).far (p := ⟨w.heap.size + 1, 2, none⟩) (by show w.heap.size ≠ w.heap.size + 1; omega) _), Lib.hid ((BEL.out.trans (B5.out.mono (by omega))).setCell (p := ⟨w.heap.size + 1, 2, none⟩) (by show w.heap.size ≤ w.heap.size + 1; omega) _), Lib.hid (same_step HSM.out G5.out X5.out (by show w.heap.size + 1 < Fz; exact hFb))⟩
set_option maxRecDepth 1000000 in
set_option maxHeartbeats 8000000 in
theorem sameTableG (w : World) (o V o' V' : Int) (lv lv' : Value) (gs gs' : List Gr) (h : GramsAt w lv gs) (h' : GramsAt w lv' gs') :
  Calls Tryz.prog 22 #[.agg #[.int .i64 o, .int .i64 V, lv], .agg #[.int .i64 o', .int .i64 V', lv']] w fun e w' => e = .returned (.bool (decide (o = o' ∧ V = V' ∧ gs = gs'))) ∧ Below w.heap.size w w' := by
 obtain ⟨A, c, rfl, hlc, hcm, hat⟩ := h.open_
 obtain ⟨A', c', rfl, hlc', hcm', hat'⟩ := h'.open_
 have HAT := Lib.hid hat
 have HAT' := Lib.hid hat'
 clear h h' hat hat'
 obtain ⟨n, hn⟩ : ∃ n, gs.length = n := ⟨_, rfl⟩
 obtain ⟨p, hp⟩ : ∃ p, gs'.length = p := ⟨_, rfl⟩
 rw [hn] at hlc ⊢
 rw [hp] at hlc' ⊢
 have HN := Lib.hid hn
 have HP := Lib.hid hp
 clear hn hp
 by_cases h1 : o = o'
 ·by_cases h2 : V = V'
  ·by_cases h3 : n = p
   ·subst h1
    subst h2
    subst h3
    have e1 : (o != o) = false := by simp
    have e2 : (V != V) = false := by simp
    have e3 : ((n : Int) != (n : Int)) = false := by simp
    go_enter Tryz.func22, Tryz.ntmps22
    go_wp2_with fail
    obtain ⟨W, hW, P0, P1, PB, Phs⟩ := box2 w 27 [.int .i64 o, .int .i64 V, .slice A n c] 27 [.int .i64 o, .int .i64 V, .slice A' n c']
    rw [← hW]
    clear hW
    obtain ⟨p0, p1, p2, _, _, _⟩ := P0.out.three
    obtain ⟨q0, q1, q2, _, _, _⟩ := P1.out.three
    go_wp2_with fail
    go_loopg [5] n (fun gh i wr => ∃ (j : Nat), i = .int .i64 j ∧ j + gh = n ∧ Hid (gs.take j = gs'.take j) ∧ Hid (Below W.heap.size W wr))
    case atStart => exact ⟨0, rfl, by omega, Lib.hid rfl, Lib.hid (Below.refl _ _)⟩
    case round =>
     clear p0 p1 p2 q0 q1 q2
     obtain ⟨j, rfl, hj, HQ, BEL⟩ := hrel
     have PP0 := Lib.hid (P0.out.below' BEL.out)
     have PP1 := Lib.hid (P1.out.below' BEL.out)
     have BW := Lib.hid (PB.out.trans (BEL.out.mono (by omega)))
     obtain ⟨p0, p1, p2, _, _, _⟩ := PP0.out.three
     obtain ⟨q0, q1, q2, _, _, _⟩ := PP1.out.three
     rcases Nat.eq_zero_or_pos gk with h | h
     ·obtain rfl : j = n := by omega
      have HT : Hid (decide (o = o ∧ V = V ∧ gs = gs') = true) := Lib.hid (decide_eq_true ⟨rfl, rfl, by
       have := HQ.out
       rwa [List.take_of_length_le (by rw [HN.out]; exact Nat.le_refl _), List.take_of_length_le (by rw [HP.out]; exact Nat.le_refl _)] at this⟩)
      go_wp2_with fail
      go_ret
      exact ⟨ret_bool (by have := HT.out; simpa using this.symm), BW.out⟩
     ·obtain ⟨gh, rfl⟩ : ∃ g, gk = g + 1 := ⟨gk - 1, by omega⟩
      obtain ⟨x, hx⟩ : ∃ x, gs[j]? = some x := ⟨_, List.getElem?_eq_getElem (by rw [HN.out]; omega)⟩
      obtain ⟨y, hy⟩ : ∃ y, gs'[j]? = some y := ⟨_, List.getElem?_eq_getElem (by rw [HP.out]; omega)⟩
      obtain ⟨ba, oa, a0, rfl, hba, ea0, ea1, fa⟩ := HAT.out j x hx
      obtain ⟨bb, ob, b0, rfl, hbb, eb0, eb1, fb⟩ := HAT'.out j y hy
      have d0 := (BW.out.cell (p := ⟨ba, oa + j * 2, none⟩) hba).trans ea0
      have d1 := (BW.out.cell (p := ⟨ba, oa + j * 2 + 1, none⟩) hba).trans ea1
      have f0 := (BW.out.cell (p := ⟨bb, ob + j * 2, none⟩) hbb).trans eb0
      have f1 := (BW.out.cell (p := ⟨bb, ob + j * 2 + 1, none⟩) hbb).trans eb1
      have FA := Lib.hid (fa.below BW.out)
      have FB := Lib.hid (fb.below BW.out)
      have HX := Lib.hid hx
      have HY := Lib.hid hy
      clear hx hy ea0 ea1 eb0 eb1
      obtain ⟨A1, k1, hA1⟩ := fa.len
      obtain ⟨A2, k2, hA2⟩ := fb.len
      subst hA1
      subst hA2
      clear fa fb
      have hz1 : w.heap.size < wr.heap.size := PP0.out.lt
      have hz2 : w.heap.size + 1 < wr.heap.size := PP1.out.lt
      have hz3 : ba < wr.heap.size := by omega
      have hz4 : bb < wr.heap.size := by omega
      have BX : Hid (∀ a b, Below wr.heap.size wr ((wr.alloc a).alloc b).drew) := Lib.hid (fun a b => (((Below.refl _ wr).alloc (Nat.le_refl _) a).alloc (by simp) b).drew)
      have hle : W.heap.size ≤ wr.heap.size := BEL.out.size
      have HXY : Hid (x ≠ y → decide (gs = gs') = false) := Lib.hid (fun hne => decide_eq_false (fun e => hne (by
       have h1 := HX.out
       rw [e, HY.out] at h1
       injection h1 with h1
       exact h1.symm)))
      by_cases hN : x.2 = y.2
      ·have hNb : (x.2 != y.2) = false := by simpa using hN
       by_cases hL : x.1.length = y.1.length
       ·have hLb : ((x.1.length : Int) != (y.1.length : Int)) = false := by rw [hL]; simp
        have OC := Lib.hid (fun W h => ordG W (.slice A1 x.1.length k1) (.slice A2 y.1.length k2) _ _ (FA.out.below (w' := W) h) (FB.out.below (w' := W) h) (by omega))
        by_cases hO : ordL x.1 y.1 = 0
        ·have hOb : (ordL x.1 y.1 != 0) = false := by simpa using hO
         have HEQ : Hid (x = y) := Lib.hid (Prod.ext ((ordL_eq hL).1 hO) hN)
         generalize ordL x.1 y.1 = z at *
         generalize x.1.length = la at *
         generalize y.1.length = lb at *
         generalize x.2 = nx at *
         generalize y.2 = ny at *
         clear hN hL hO
         go_wp2_with fail
         go_region
         all_goals
          go_wp2_with fail
          refine (OC.out _ (BX.out _ _)).mono ?_
          rintro e w5 ⟨rfl, hb5⟩
          have B5 := Lib.hid ((BX.out _ _).trans (hb5.mono (by simp; omega)))
          clear hb5
          go_wp2_with fail
          go_roundg gh
          case measure => omega
          case rel => exact ⟨j + 1, rfl, by omega, Lib.hid (by rw [take_succ_get _ HX.out, take_succ_get _ HY.out, HQ.out, HEQ.out]), Lib.hid (BEL.out.trans (B5.out.mono hle))⟩
        ·have hOb : (ordL x.1 y.1 != 0) = true := by simpa using hO
         have HF : Hid (decide (gs = gs') = false) := Lib.hid (HXY.out (fun e => hO ((ordL_eq hL).2 (congrArg Prod.fst e))))
         generalize ordL x.1 y.1 = z at *
         generalize x.1.length = la at *
         generalize y.1.length = lb at *
         generalize x.2 = nx at *
         generalize y.2 = ny at *
         clear hN hL hO
         go_wp2_with fail
         go_region
         all_goals
          go_wp2_with fail
          refine (OC.out _ (BX.out _ _)).mono ?_
          rintro e w5 ⟨rfl, hb5⟩
          have B5 := Lib.hid ((BX.out _ _).trans (hb5.mono (by simp; omega)))
          clear hb5
          go_wp2_with fail
          go_ret
          exact ⟨ret_bool (by have := HF.out; simpa using this), BW.out.trans (B5.out.mono (by omega))⟩
       ·have hLb : ((x.1.length : Int) != (y.1.length : Int)) = true := by simp; omega
        have HF : Hid (decide (gs = gs') = false) := Lib.hid (HXY.out (fun e => hL (by rw [e])))
        generalize x.1.length = la at *
        generalize y.1.length = lb at *
        generalize x.2 = nx at *
        generalize y.2 = ny at *
        clear hN hL
        go_wp2_with fail
        go_region
        all_goals
         go_wp2_with fail
         go_ret
         exact ⟨ret_bool (by have := HF.out; simpa using this), BW.out.trans ((BX.out _ _).mono (by omega))⟩
      ·have hNb : (x.2 != y.2) = true := by simpa using hN
       have HF : Hid (decide (gs = gs') = false) := Lib.hid (HXY.out (fun e => hN (by rw [e])))
       generalize x.1.length = la at *
       generalize y.1.length = lb at *
       generalize x.2 = nx at *
       generalize y.2 = ny at *
       clear hN
       go_wp2_with fail
       go_region
       all_goals
        go_wp2_with fail
        go_ret
        exact ⟨ret_bool (by have := HF.out; simpa using this), BW.out.trans ((BX.out _ _).mono (by omega))⟩
   ·have e1 : (o != o') = false := by simpa using h1
    have e2 : (V != V') = false := by simpa using h2
    have e3 : ((n : Int) != (p : Int)) = true := by simp; omega
    have HF : Hid (decide (o = o' ∧ V = V' ∧ gs = gs') = false) := Lib.hid (decide_eq_false (fun e => h3 (by rw [← HN.out, ← HP.out, e.2.2])))
    clear h1 h2 h3
    go_enter Tryz.func22, Tryz.ntmps22
    go_wp2_with fail
    obtain ⟨W, hW, P0, P1, PB, Phs⟩ := box2 w 27 [.int .i64 o, .int .i64 V, .slice A n c] 27 [.int .i64 o', .int .i64 V', .slice A' p c']
    rw [← hW]
    clear hW
    obtain ⟨p0, p1, p2, _, _, _⟩ := P0.out.three
    obtain ⟨q0, q1, q2, _, _, _⟩ := P1.out.three
    go_wp2_with fail
    go_ret
    exact ⟨ret_bool (by have := HF.out; simpa using this), PB.out⟩
  ·have e1 : (o != o') = false := by simpa using h1
   have e2 : (V != V') = true := by simpa using h2
   have HF : Hid (decide (o = o' ∧ V = V' ∧ gs = gs') = false) := Lib.hid (decide_eq_false (fun e => h2 e.2.1))
   clear h1 h2
   go_enter Tryz.func22, Tryz.ntmps22
   go_wp2_with fail
   obtain ⟨W, hW, P0, P1, PB, Phs⟩ := box2 w 27 [.int .i64 o, .int .i64 V, .slice A n c] 27 [.int .i64 o', .int .i64 V', .slice A' p c']
   rw [← hW]
   clear hW
   obtain ⟨p0, p1, p2, _, _, _⟩ := P0.out.three
   obtain ⟨q0, q1, q2, _, _, _⟩ := P1.out.three
   go_wp2_with fail
   go_ret
   exact ⟨ret_bool (by have := HF.out; simpa using this), PB.out⟩
 ·have e1 : (o != o') = true := by simpa using h1
  have HF : Hid (decide (o = o' ∧ V = V' ∧ gs = gs') = false) := Lib.hid (decide_eq_false (fun e => h1 e.1))
  clear h1
  go_enter Tryz.func22, Tryz.ntmps22
  go_wp2_with fail
  obtain ⟨W, hW, P0, P1, PB, Phs⟩ := box2 w 27 [.int .i64 o, .int .i64 V, .slice A n c] 27 [.int .i64 o', .int .i64 V', .slice A' p c']
  rw [← hW]
  clear hW
  obtain ⟨p0, p1, p2, _, _, _⟩ := P0.out.three
  obtain ⟨q0, q1, q2, _, _, _⟩ := P1.out.three
  go_wp2_with fail
  go_ret
  exact ⟨ret_bool (by have := HF.out; simpa using this), PB.out⟩
end Go.Proofs.YtjebfdfkjlkifaaGreat
