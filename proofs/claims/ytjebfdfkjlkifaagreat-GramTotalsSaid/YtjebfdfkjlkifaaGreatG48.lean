/- Lemmas on the way: Gs1, SeQ, GtQ, Gt0. -/
import Derived.Test.YtjebfdfkjlkifaaGreatE43
import Derived.Test.YtjebfdfkjlkifaaGreatE44
import Derived.Test.YtjebfdfkjlkifaaGreatE45
set_option linter.unusedSimpArgs false
set_option linter.unusedVariables false
set_option linter.unusedSectionVars false
set_option linter.unnecessarySimpa false
namespace Go.Proofs.YtjebfdfkjlkifaaGreat
open Go.RowKit
theorem sgnI_gt {q : Rat} (h : 0 < q) : 0 < sgnI q := by
 unfold sgnI
 split
 ·next e => exact absurd e (ne_pos h)
 ·split
  ·next h1 => exact absurd h (Rat.not_lt.2 (Rat.le_of_lt h1))
  ·omega
theorem thin_ok {V : Int} {gs : List Gr} {a : Raw} {rs : List Raw} (h : thinB V gs a rs = true) : smallB V gs = true ∧ rs.length ≤ 8 ∧ a.thin = true ∧ rs.all Raw.thin = true := by
 unfold thinB at h
 simp only [Bool.and_eq_true, decide_eq_true_eq] at h
 exact ⟨h.1, h.2.1, h.2.2.1, h.2.2.2⟩
theorem small_ok {V : Int} {gs : List Gr} (h : smallB V gs = true) : gs.length ≤ 60 ∧ V ≤ 8 := by
 unfold smallB at h
 simp only [Bool.and_eq_true, decide_eq_true_eq] at h
 exact h.1
theorem LangAt.of {w : World} {lv : Value} {V : Int} {gs : List Gr} {s : Bool} {A A' : Option Addr} {m c m' c' : Nat} {mv : Value} {am : Raw} {rs : List Raw} (hg : GramsAt w lv gs) (ha : RawAt w (.agg #[.bool s, .slice A m c, .slice A' m' c']) am) (hm : RawsAt w mv rs) (h : thinB V gs am rs = true) : LangAt w lv gs s A A' m c m' c' am.q mv (rs.map Raw.q) :=
 ⟨hg, ha.frac (thin_ok h).2.2.1, hm.fracs (thin_ok h).2.2.2, by rw [List.length_map]; have := (thin_ok h).2.1; omega⟩

section
def endH (m : Nat) (s : List Int) : List Int := (List.replicate m 0 ++ s).drop s.length
def innG (m : Nat) (s : List Int) : List (List Int) := (List.range s.length).map fun i => ((List.replicate m 0 ++ s).drop i).take (m + 1)
theorem endH_length (m : Nat) (s : List Int) : (endH m s).length = m := by simp [endH]
theorem grams_end (m : Nat) (s : List Int) : gramsL m s = innG m s ++ [endH m s ++ [0]] := by
 unfold gramsL innG fullL endH
 rw [List.range_succ, List.map_append]
 congr 1
 ·refine List.map_congr_left (fun i hi => ?_)
  have := List.mem_range.1 hi
  rw [List.drop_append_of_le_length (by simp; omega), List.take_append_of_le_length (by simp; omega)]
 ·show [((List.replicate m 0 ++ s ++ [0]).drop s.length).take (m + 1)] = [(List.replicate m 0 ++ s).drop s.length ++ [0]]
  rw [List.drop_append_of_le_length (l₁ := List.replicate m 0 ++ s) (by simp), List.take_of_length_le (by simp)]
theorem inn_snoc (m : Nat) (s : List Int) (x : Int) : innG m (s ++ [x]) = innG m s ++ [endH m s ++ [x]] := by
 unfold innG endH
 rw [List.length_append, List.length_singleton, List.range_succ, List.map_append, ← List.append_assoc]
 congr 1
 ·refine List.map_congr_left (fun i hi => ?_)
  have := List.mem_range.1 hi
  rw [List.drop_append_of_le_length (by simp; omega), List.take_append_of_le_length (by simp; omega)]
 ·show [((List.replicate m 0 ++ s ++ [x]).drop s.length).take (m + 1)] = [(List.replicate m 0 ++ s).drop s.length ++ [x]]
  rw [List.drop_append_of_le_length (l₁ := List.replicate m 0 ++ s) (by simp), List.take_of_length_le (by simp)]
def begQ (row : List Int → List Rat) (m : Nat) (s : List Int) : Rat := sayL row m (innG m s)
theorem last_step (row : List Int → List Rat) (m : Nat) (s : List Int) (x : Nat) (g : List (List Int)) : sayL row m (g ++ [endH m s ++ [(x : Int)]]) = sayL row m g * (row (endH m s)).getD x 0 := by
 have hl := endH_length m s
 have h1 : (endH m s ++ [(x : Int)]).take m = endH m s := by rw [List.take_append_of_le_length (by omega), List.take_of_length_le (by omega)]
 have h2 : ((endH m s ++ [(x : Int)]).getD m 0).toNat = x := by
  rw [List.getD_eq_getElem?_getD, List.getElem?_append_right (by omega), hl, Nat.sub_self]
  exact Int.toNat_natCast x
 rw [sayL_snoc, h1, h2]
theorem say_beg (row : List Int → List Rat) (m : Nat) (s : List Int) : sayQ row m s = begQ row m s * (row (endH m s)).getD 0 0 := by
 unfold sayQ begQ
 rw [grams_end]
 exact last_step row m s 0 _
theorem beg_snoc (row : List Int → List Rat) (m : Nat) (s : List Int) (x : Nat) : begQ row m (s ++ [(x : Int)]) = begQ row m s * (row (endH m s)).getD x 0 := by
 unfold begQ
 rw [inn_snoc]
 exact last_step row m s x _
theorem beg_nil (row : List Int → List Rat) (m : Nat) : begQ row m [] = 1 := rfl

def nextL (V : Nat) (s : List Int) : List (List Int) := (List.range V).map fun w => s ++ [((w + 1 : Nat) : Int)]
def levL (V : Nat) : Nat → List (List Int)
 | 0 => [[]]
 | n + 1 => (levL V n).flatMap (nextL V)
def begS (row : List Int → List Rat) (m : Nat) (l : List (List Int)) : Rat := sumQ (l.map (begQ row m))
def sayS (row : List Int → List Rat) (m : Nat) (l : List (List Int)) : Rat := sumQ (l.map (sayQ row m))
theorem sumQ_one (q : Rat) : sumQ [q] = q := by simp only [sumQ, List.foldl_cons, List.foldl_nil]; rw [Rat.zero_add]
theorem sumTo_shift (f : Nat → Rat) (n : Nat) : sumTo f (n + 1) = f 0 + sumTo (fun x => f (x + 1)) n := by
 induction n with
 | zero => show (0 : Rat) + f 0 = f 0 + 0; rw [Rat.zero_add, Rat.add_zero]
 | succ n ih =>
  show sumTo f (n + 1) + f (n + 1) = f 0 + (sumTo (fun x => f (x + 1)) n + f (n + 1))
  rw [ih, Rat.add_assoc]
variable {row : List Int → List Rat} {V : Nat}
theorem next_sum (hl : ∀ h, (row h).length = V + 1) (h1 : ∀ h, sumQ (row h) = 1) (m : Nat) (s : List Int) : sayQ row m s + begS row m (nextL V s) = begQ row m s := by
 unfold begS nextL
 rw [List.map_map, sumQ_map, say_beg]
 rw [sumTo_congr (f := begQ row m ∘ fun w => s ++ [((w + 1 : Nat) : Int)]) (g := fun x => begQ row m s * (row (endH m s)).getD (x + 1) 0) (fun x _ => beg_snoc row m s (x + 1)), sumTo_mul]
 have := sumTo_getD' (row (endH m s)) (hl _)
 rw [sumTo_shift, h1] at this
 rw [← Rat.mul_add, this, Rat.mul_one]
theorem begS_append (m : Nat) (a b : List (List Int)) : begS row m (a ++ b) = begS row m a + begS row m b := by
 unfold begS
 rw [List.map_append, sumQ_append]
theorem sayS_snoc (m : Nat) (a : List (List Int)) (s : List Int) : sayS row m (a ++ [s]) = sayS row m a + sayQ row m s := by
 unfold sayS
 rw [List.map_append, sumQ_append]
 show _ + sumQ [sayQ row m s] = _
 rw [sumQ_one]
theorem lev_sum (hl : ∀ h, (row h).length = V + 1) (h1 : ∀ h, sumQ (row h) = 1) (m : Nat) (l : List (List Int)) : sayS row m l + begS row m (l.flatMap (nextL V)) = begS row m l := by
 induction l with
 | nil => show (0 : Rat) + 0 = 0; rw [Rat.add_zero]
 | cons s l ih =>
  have e1 : sayS row m (s :: l) = sayQ row m s + sayS row m l := by
   unfold sayS
   rw [show (s :: l) = [s] ++ l from rfl, List.map_append, sumQ_append]
   show sumQ [sayQ row m s] + _ = _
   rw [sumQ_one]
  have e2 : begS row m (s :: l) = begQ row m s + begS row m l := by
   rw [show (s :: l) = [s] ++ l from rfl, begS_append]
   show sumQ [begQ row m s] + _ = _
   rw [sumQ_one]
  rw [List.flatMap_cons, begS_append, e1, e2]
  have h2 := next_sum hl h1 m s
  grind
def allS (row : List Int → List Rat) (m V : Nat) : Nat → Rat
 | 0 => 0
 | n + 1 => allS row m V n + sayS row m (levL V n)
theorem all_sum (hl : ∀ h, (row h).length = V + 1) (h1 : ∀ h, sumQ (row h) = 1) (m n : Nat) : allS row m V n + begS row m (levL V n) = 1 := by
 induction n with
 | zero =>
  show (0 : Rat) + sumQ [begQ row m []] = 1
  rw [sumQ_one, beg_nil, Rat.zero_add]
 | succ n ih =>
  show allS row m V n + sayS row m (levL V n) + begS row m ((levL V n).flatMap (nextL V)) = 1
  have h2 := lev_sum hl h1 m (levL V n)
  grind
theorem sayL_pos (hp : ∀ h, ∀ q ∈ row h, 0 < q) (hl : ∀ h, (row h).length = V + 1) {m : Nat} (g : List (List Int)) (hg : ∀ x ∈ g, (x.getD m 0).toNat ≤ V) : 0 < sayL row m g := by
 unfold sayL
 have key : ∀ (g : List (List Int)) (p : Rat), 0 < p → (∀ x ∈ g, (x.getD m 0).toNat ≤ V) → 0 < g.foldl (fun p g => p * (row (g.take m)).getD (g.getD m 0).toNat 0) p := by
  intro g
  induction g with
  | nil => intro p hp _; exact hp
  | cons x g ih =>
   intro p h0 hg
   refine ih _ (Rat.mul_pos h0 ?_) (fun y hy => hg y (by simp [hy]))
   have := hg x (by simp)
   rw [List.getD_eq_getElem?_getD, List.getElem?_eq_getElem (by rw [hl]; omega)]
   exact hp _ _ (List.getElem_mem _)
 exact key g 1 (by decide) hg
def Wordy (V : Nat) (s : List Int) : Prop := ∀ x ∈ s, 1 ≤ x ∧ x ≤ (V : Int)
theorem lev_wordy (n : Nat) : ∀ s ∈ levL V n, s.length = n ∧ Wordy V s := by
 induction n with
 | zero =>
  intro s hs
  rw [List.mem_singleton.1 hs]
  exact ⟨rfl, fun x hx => by cases hx⟩
 | succ n ih =>
  intro s hs
  obtain ⟨t, ht, hs⟩ := List.mem_flatMap.1 hs
  obtain ⟨w, hw, rfl⟩ := List.mem_map.1 hs
  have := List.mem_range.1 hw
  obtain ⟨h1, h2⟩ := ih t ht
  refine ⟨by simp [h1], fun x hx => ?_⟩
  rcases List.mem_append.1 hx with h | h
  ·exact h2 x h
  ·rw [List.mem_singleton.1 h]
   omega
theorem inn_le {m : Nat} {s : List Int} (h : Wordy V s) : ∀ g ∈ innG m s, (g.getD m 0).toNat ≤ V := by
 intro g hg
 obtain ⟨i, hi, rfl⟩ := List.mem_map.1 hg
 have := List.mem_range.1 hi
 have e : (((List.replicate m 0 ++ s).drop i).take (m + 1)).getD m 0 = s.getD i 0 := by
  rw [List.getD_eq_getElem?_getD, List.getElem?_take_of_lt (by omega), List.getElem?_drop, List.getElem?_append_right (by simp), List.length_replicate, List.getD_eq_getElem?_getD]
  congr 2
  omega
 rw [e, List.getD_eq_getElem?_getD, List.getElem?_eq_getElem this]
 have := h _ (List.getElem_mem this)
 show (s[i]).toNat ≤ V
 omega
theorem beg_pos (hp : ∀ h, ∀ q ∈ row h, 0 < q) (hl : ∀ h, (row h).length = V + 1) {m : Nat} {s : List Int} (h : Wordy V s) : 0 < begQ row m s := sayL_pos hp hl _ (inn_le h)
theorem say_pos (hp : ∀ h, ∀ q ∈ row h, 0 < q) (hl : ∀ h, (row h).length = V + 1) {m : Nat} {s : List Int} (h : Wordy V s) : 0 < sayQ row m s := by
 rw [say_beg]
 refine Rat.mul_pos (beg_pos hp hl h) ?_
 rw [List.getD_eq_getElem?_getD, List.getElem?_eq_getElem (by rw [hl]; omega)]
 exact hp _ _ (List.getElem_mem _)
theorem all_le (hp : ∀ h, ∀ q ∈ row h, 0 < q) (hl : ∀ h, (row h).length = V + 1) (h1 : ∀ h, sumQ (row h) = 1) (m n : Nat) : allS row m V n ≤ 1 := by
 have h2 := all_sum hl h1 m n
 have key : ∀ l : List (List Int), (∀ s ∈ l, Wordy V s) → 0 ≤ begS row m l := by
  intro l
  induction l with
  | nil => intro _; exact Rat.le_refl
  | cons s l ih =>
   intro h
   rw [show (s :: l) = [s] ++ l from rfl, begS_append]
   have h3 := ih (fun x hx => h x (by simp [hx]))
   have h4 : begS row m [s] = begQ row m s := sumQ_one _
   have h5 := beg_pos (row := row) hp hl (m := m) (h s (by simp))
   rw [h4]
   grind
 have h3 := key (levL V n) (fun s hs => (lev_wordy n s hs).2)
 grind
end
def LLOwn (B : Nat) (w : World) (v : Value) (ls : List (List Int)) : Prop := ∃ cells, w.ownsRow B 44 1 v ls.length cells ∧
 ∀ (i : Nat) (l : List Int), ls[i]? = some l → ∃ c0, cells[i]? = some c0 ∧ IntsAt w c0 l ∧ From c0 B ∧ ∀ b, v.ownBlock = some b → Off c0 b
theorem Same.refl (F : Nat) (w : World) : Same F w w := ⟨Nat.le_refl _, fun _ _ _ => rfl⟩
theorem Same.trans {F : Nat} {w w1 w2 : World} (h : Same F w w1) (h' : Same F w1 w2) : Same F w w2 :=
 ⟨Nat.le_trans h.1 h'.1, fun b hb hl => (h'.2 b hb (Nat.lt_of_lt_of_le hl h.1)).trans (h.2 b hb hl)⟩
theorem Same.of_below {F : Nat} {w w' : World} (h : Below w.heap.size w w') : Same F w w' := ⟨h.size, fun b _ hl => h.block b hl⟩
theorem Same.set3 {F b : Nat} (w : World) (hb : b < F) (i j k : Nat) (u0 u1 u2 : Value) : Same F w (((w.setCell ⟨b, i, none⟩ u0).setCell ⟨b, j, none⟩ u1).setCell ⟨b, k, none⟩ u2) := by
 have e : ∀ (w : World) (i : Nat) (u : Value), Same F w (w.setCell ⟨b, i, none⟩ u) := fun w i u =>
  ⟨by simp, fun c hc _ => Below.heap_setCell w ⟨b, i, none⟩ u c (by show c ≠ b; omega)⟩
 exact ((e w i u0).trans (e _ j u1)).trans (e _ k u2)
theorem LLOwn.nil_ (B : Nat) (w : World) : LLOwn B w (.slice none 0 0) [] := ⟨[], World.ownsRow_nil .., fun i l hl => by simp at hl⟩
theorem LLOwn.same {B : Nat} {w w' : World} {v : Value} {ls : List (List Int)} (h : LLOwn B w v ls) (hs : Same B w w') : LLOwn B w' v ls := by
 obtain ⟨cells, h1, h2⟩ := h
 refine ⟨cells, ?_, fun i l hl => ?_⟩
 ·obtain ⟨h0, h3 | ⟨g, cap, cur, hv, hg, hh, hr⟩⟩ := h1
  ·exact ⟨h0, .inl h3⟩
  ·exact ⟨h0, .inr ⟨g, cap, cur, hv, hg, (hs.2 g hg (Array.getElem?_eq_some_iff.1 hh).1).trans hh, hr⟩⟩
 ·obtain ⟨c0, e0, e1, e2, e3⟩ := h2 i l hl
  exact ⟨c0, e0, Sl.same e1 e2 hs, e2, e3⟩
theorem LLOwn.below {B : Nat} {w w' : World} {v : Value} {ls : List (List Int)} (h : LLOwn B w v ls) (hb : Below w.heap.size w w') : LLOwn B w' v ls := h.same (Same.of_below hb)
theorem LLOwn.new {B F : Nat} {w : World} {v : Value} {ls : List (List Int)} (h : LLOwn B w v ls) (hF : F ≤ B) : ListsNew F w v ls := by
 obtain ⟨cells, h1, h2⟩ := h
 refine ⟨cells, Sl.of_own h1, (From.of_own h1).mono hF, fun i l hl => ?_⟩
 obtain ⟨c0, e0, e1, e2, _⟩ := h2 i l hl
 exact ⟨c0, e0, e1, e2.mono hF⟩
theorem LLOwn.push {B : Nat} {w w1 w' : World} {v v' c : Value} {ls : List (List Int)} {l : List Int} {cells : List Value} (h2 : ∀ (i : Nat) (l : List Int), ls[i]? = some l → ∃ c0, cells[i]? = some c0 ∧ IntsAt w c0 l ∧ From c0 B ∧ ∀ b, v.ownBlock = some b → Off c0 b) (hlen : cells.length = ls.length)
  (hw : Same B w w1) (hc : IntsAt w1 c l) (hcf : From c B) (hco : ∀ b, v.ownBlock = some b → Off c b) (hown : w'.ownsRow B 44 1 v' (ls.length + 1) (cells ++ [c])) (hg : w1.grownBy w' v.ownBlock) (hb : v'.ownBlock = v.ownBlock ∨ v'.ownBlock = some w1.heap.size) : LLOwn B w' v' (ls ++ [l]) := by
 refine ⟨cells ++ [c], by rw [List.length_append]; exact hown, fun i m hm => ?_⟩
 have key : ∀ (c0 : Value) (m : List Int), IntsAt w1 c0 m → (∀ b, v.ownBlock = some b → Off c0 b) → IntsAt w' c0 m ∧ ∀ b, v'.ownBlock = some b → Off c0 b := fun c0 m h1 h3 =>
  ⟨Sl.keptOff h1 hg h3, fun b hb' => by
   rcases hb with e | e
   ·exact h3 b (e ▸ hb')
   ·rw [e] at hb'
    cases hb'
    exact IntsAt.off h1 (Nat.le_refl _)⟩
 by_cases hi : i < ls.length
 ·rw [List.getElem?_append_left hi] at hm
  obtain ⟨c0, e0, e1, e2, e3⟩ := h2 i m hm
  obtain ⟨k1, k2⟩ := key c0 m (Sl.same e1 e2 hw) e3
  exact ⟨c0, by rw [List.getElem?_append_left (by omega)]; exact e0, k1, e2, k2⟩
 ·rw [List.getElem?_append_right (by omega)] at hm
  have hi2 : i = ls.length := by
   have := (List.getElem?_eq_some_iff.1 hm).1
   simp at this
   omega
  subst hi2
  rw [Nat.sub_self] at hm
  cases hm
  obtain ⟨k1, k2⟩ := key c l hc hco
  exact ⟨c, by rw [List.getElem?_append_right (by omega), hlen, Nat.sub_self]; rfl, k1, hcf, k2⟩

def BoxA (w : World) (b : Nat) (q : Rat) (v : Value) : Prop := ∃ A m c A' m' c', Blk w b 40 [.bool (isNeg q), .slice A m c, .slice A' m' c'] ∧ CanAt w (.agg #[.bool (isNeg q), .slice A m c, .slice A' m' c']) q ∧ ∀ r, v.ownBlock = some r → Off (.slice A m c) r ∧ Off (.slice A' m' c') r ∧ b ≠ r
theorem BoxA.box {w : World} {b : Nat} {q : Rat} {v : Value} (h : BoxA w b q v) : BoxC w b q := by
 obtain ⟨A, m, c, A', m', c', h1, h2, _⟩ := h
 exact BoxC.of h1 h2
theorem BoxA.below {w w' : World} {b : Nat} {q : Rat} {v : Value} (h : BoxA w b q v) (hb : Below w.heap.size w w') : BoxA w' b q v := by
 obtain ⟨A, m, c, A', m', c', h1, h2, h3⟩ := h
 exact ⟨A, m, c, A', m', c', h1.below' hb, h2.below hb, h3⟩
theorem NatAt.keptOff {w w' : World} {v : Value} {n : Nat} {row : Option Nat} (h : NatAt w v n) (hg : w.grownBy w' row) (ho : ∀ b, row = some b → Off v b) : NatAt w' v n := by
 obtain ⟨l, ⟨h1, h2⟩, h3⟩ := h
 exact ⟨l, ⟨Sl.keptOff h1 hg ho, h2⟩, h3⟩
theorem NatAt.offNew {w : World} {v : Value} {n F : Nat} (h : NatAt w v n) (hf : w.heap.size ≤ F) : Off v F := by
 obtain ⟨l, ⟨h1, _⟩, _⟩ := h
 exact Sl.off h1 hf
theorem BoxA.push {w w' : World} {b : Nat} {q : Rat} {v v' : Value} (h : BoxA w b q v) (hg : w.grownBy w' v.ownBlock) (hb : v'.ownBlock = v.ownBlock ∨ v'.ownBlock = some w.heap.size) : BoxA w' b q v' := by
 obtain ⟨A, m, c, A', m', c', h1, ⟨vn, vd, e, n1, n2⟩, h3⟩ := h
 have e' : [Value.bool (isNeg q), .slice A m c, .slice A' m' c'] = [.bool (isNeg q), vn, vd] := by
  injection e with e
  exact congrArg Array.toList e
 simp only [List.cons.injEq, and_true, true_and] at e'
 obtain ⟨rfl, rfl⟩ := e'
 refine ⟨A, m, c, A', m', c', h1.grown hg (fun e => (h3 b e.symm).2.2 rfl), ⟨_, _, rfl, n1.keptOff hg (fun r hr => (h3 r hr).1), n2.keptOff hg (fun r hr => (h3 r hr).2.1)⟩, fun r hr => ?_⟩
 rcases hb with e | e
 ·exact h3 r (e ▸ hr)
 ·rw [e] at hr
  cases hr
  exact ⟨n1.offNew (Nat.le_refl _), n2.offNew (Nat.le_refl _), by have := h1.lt; omega⟩
theorem BoxA.put {w : World} {b B : Nat} {q r : Rat} {v : Value} {A A' : Option Addr} {m c m' c' : Nat} (h : BoxC w b r) (hq : CanNew B w (.agg #[.bool (isNeg q), .slice A m c, .slice A' m' c']) q) (hv : ∀ x, v.ownBlock = some x → x < B ∧ b ≠ x) :
  BoxA (((w.setCell ⟨b, 0, none⟩ (.bool (isNeg q))).setCell ⟨b, 1, none⟩ (.slice A m c)).setCell ⟨b, 2, none⟩ (.slice A' m' c')) b q v := by
 have hk := FArc.keeps h hq.at_ 0 1 2 (isNeg q) A A' m c m' c'
 obtain ⟨vn, vd, e, _, _, f1, f2⟩ := hq
 have e' : [Value.bool (isNeg q), .slice A m c, .slice A' m' c'] = [.bool (isNeg q), vn, vd] := by
  injection e with e
  exact congrArg Array.toList e
 simp only [List.cons.injEq, and_true, true_and] at e'
 obtain ⟨rfl, rfl⟩ := e'
 obtain ⟨xs, h1, h2, _, _⟩ := h
 refine ⟨A, m, c, A', m', c', ?_, hk, fun x hx => ⟨f1.off (hv x hx).1, f2.off (hv x hx).1, (hv x hx).2⟩⟩
 have h3 := ((h1.set_ 0 (.bool (isNeg q))).set_ 1 (.slice A m c)).set_ 2 (.slice A' m' c')
 have e2 : ((xs.set 0 (.bool (isNeg q))).set 1 (.slice A m c)).set 2 (.slice A' m' c') = [.bool (isNeg q), .slice A m c, .slice A' m' c'] := by
  have h4 : xs.length = 3 := by simpa using h2
  match xs, h4 with
  | [_, _, _], _ => rfl
 rwa [e2] at h3

theorem sent_one {O V : Int} {gs : List Gr} {k : Int} {a : Rat} {mix : List Rat} {v : Nat} {s : List Int} (hV : V = v) (h : checkE O V gs k a mix = 0) (hs : Wordy v s) (hl : s.length ≤ 500) : sentE O V gs k a mix [s] = 0 := by
 subst hV
 have h1 := (table_all (check_ok h).1).1
 have h2 : inR 1 (v : Int) s = true := List.all_eq_true.2 (fun x hx => by
  have := hs x hx
  simp [this])
 unfold sentE
 rw [if_neg (by
  rintro (h3 | h3)
  ·omega
  ·unfold anyLong at h3
   simp at h3
   omega), if_neg (by rw [h]; decide), if_neg (by
  unfold anyOut
  rw [List.any_cons, h2]
  simp)]
theorem sentAny (w : World) (O v : Nat) (lv : Value) (gs : List Gr) (k : Int) (s : Bool) (A A' : Option Addr) (m c m' c' : Nat) (mv : Value) (a : Rat) (mix : List Rat) (sv : Value) (sl : List Int) (h : LangAt w lv gs s A A' m c m' c' a mv mix) (hs : IntsAt w sv sl) (hE : sentE O v gs k a mix [sl] = 0) (hv8 : v ≤ 8) :
  Calls Tryz.prog 36 #[langV O v lv k s A A' m c m' c' mv, sv] w fun e w' => ∃ u, e = .returned (.tuple #[u, .int .i64 0]) ∧ CanAt w' u (sayQ (rowQ k O gs v a mix) (O - 1) sl) ∧ Below w.heap.size w w' := by
 obtain ⟨T, rv, F, hw⟩ := way_ok w O v lv gs k s A A' m c m' c' mv a mix h (sent_ok hE).1 hv8
 exact sentenceG w O v lv gs k s A A' m c m' c' mv a mix sv sl h hs hE hv8 T rv F (rowQ k O gs v a mix) (fun b Am nm cm _ => hw.way b) hw.meth hw.nil hw.cf
  (fun b w0 wl hb0 hlv hbl W hv hl hbW hi hll hk => hw.row b W hv hl (hlv.below hbW) (hb0.trans ((hbl.trans (hbW.mono hbl.size)).mono hb0.size)) hi hll hk) hw.qb hw.len

theorem say_qb {row : List Int → List Rat} (hq : ∀ h, ∀ q ∈ row h, QB 5000000 q) (m : Nat) {s : List Int} (hl : s.length ≤ 3) : QB 20000001 (sayQ row m s) := by
 have := sayL_qb hq m (gramsL m s)
 rw [gramsL_length] at this
 exact this.mono (by omega)
theorem says_qb {row : List Int → List Rat} (hq : ∀ h, ∀ q ∈ row h, QB 5000000 q) (m : Nat) (l : List (List Int)) (hl : ∀ s ∈ l, s.length ≤ 3) : QB (1 + l.length * 20000002) (sayS row m l) := by
 have key : ∀ (l : List (List Int)) (n : Nat) (p : Rat), QB n p → (∀ s ∈ l, s.length ≤ 3) → QB (n + l.length * 20000002) ((l.map (sayQ row m)).foldl (· + ·) p) := by
  intro l
  induction l with
  | nil => intro n p hp _; simpa using hp
  | cons s l ih =>
   intro n p hp hl
   have := ih (n + 20000001 + 1) (p + sayQ row m s) (hp.add (say_qb hq m (hl s (by simp)))) (fun x hx => hl x (by simp [hx]))
   rw [List.map_cons, List.foldl_cons, List.length_cons]
   exact this.mono (by omega)
 exact key l 1 0 (qb_zero 1 (by omega)) hl
theorem lev_len {V : Nat} (hV : V ≤ 2) (n : Nat) (hn : n ≤ 3) : (levL V n).length ≤ 8 := by
 have h : ∀ n, (levL V n).length = V ^ n := by
  intro n
  induction n with
  | zero => rfl
  | succ n ih =>
   show ((levL V n).flatMap (nextL V)).length = _
   rw [List.length_flatMap]
   have e : (levL V n).map (fun s => (nextL V s).length) = List.replicate (levL V n).length V := by
    apply List.ext_getElem?
    intro i
    by_cases hi : i < (levL V n).length
    ·rw [List.getElem?_map, List.getElem?_replicate_of_lt hi, List.getElem?_eq_getElem hi]
     simp [nextL]
    ·rw [List.getElem?_eq_none_iff.2 (by simpa using hi), List.getElem?_eq_none_iff.2 (by simpa using hi)]
   rw [e, List.sum_replicate_nat, ih, Nat.pow_succ]
 rw [h]
 have h1 : V ^ n ≤ 2 ^ n := Nat.pow_le_pow_left hV n
 have h2 : 2 ^ n ≤ 2 ^ 3 := Nat.pow_le_pow_right (by omega) hn
 omega
theorem alls_qb {row : List Int → List Rat} (hq : ∀ h, ∀ q ∈ row h, QB 5000000 q) (m : Nat) {V : Nat} (hV : V ≤ 2) (n : Nat) (hn : n ≤ 4) : QB (1 + n * 160000100) (allS row m V n) := by
 induction n with
 | zero => exact qb_zero 1 (by omega)
 | succ n ih =>
  show QB _ (allS row m V n + sayS row m (levL V n))
  have h1 := says_qb hq m (levL V n) (fun s hs => by have := (lev_wordy n s hs).1; omega)
  have h2 := lev_len hV n (by omega)
  exact ((ih (by omega)).add h1).mono (by omega)
theorem sgn_le {q r : Rat} (h : q ≤ r) : sgnI (q - r) ≤ 0 := by
 unfold sgnI
 split
 ·omega
 ·split
  ·omega
  ·next h1 h2 => exact absurd h (fun h => by grind)
theorem next_take {V : Nat} {l : List (List Int)} {i : Nat} {s : List Int} (h : l[i]? = some s) : (l.take (i + 1)).flatMap (nextL V) = (l.take i).flatMap (nextL V) ++ nextL V s := by
 have e : l.take (i + 1) = l.take i ++ [s] := by
  rw [List.take_add_one, h]
  rfl
 rw [e, List.flatMap_append]
 simp
theorem next_step (V : Nat) (s : List Int) {q : Nat} (hq : q < V) : (nextL V s).take (q + 1) = (nextL V s).take q ++ [s ++ [((q + 1 : Nat) : Int)]] := by
 have h : (nextL V s)[q]? = some (s ++ [((q + 1 : Nat) : Int)]) := by
  unfold nextL
  rw [List.getElem?_map, List.getElem?_range hq]
  rfl
 rw [List.take_add_one, h]
 rfl
end Go.Proofs.YtjebfdfkjlkifaaGreat
