/- Lemmas on the way: Gs1, SeQ, GtQ, Gt0, Pw1, Pw2, Us1, OrQ. -/
import Derived.Test.YtjebfdfkjlkifaaGreatE43
import Derived.Test.YtjebfdfkjlkifaaGreatE44
import Derived.Test.YtjebfdfkjlkifaaGreatH46
set_option linter.unusedSimpArgs false
set_option linter.unusedVariables false
set_option linter.unusedSectionVars false
set_option linter.unnecessarySimpa false
namespace Go.Proofs.YtjebfdfkjlkifaaGreat
open Go.RowKit
theorem thin_ok {V : Int} {gs : List Gr} {a : Raw} {rs : List Raw} (h : thinB V gs a rs = true) : smallB V gs = true ∧ rs.length ≤ 8 ∧ a.thin = true ∧ rs.all Raw.thin = true := by
 unfold thinB at h
 simp only [Bool.and_eq_true, decide_eq_true_eq] at h
 exact ⟨h.1, h.2.1, h.2.2.1, h.2.2.2⟩
theorem small_ok {V : Int} {gs : List Gr} (h : smallB V gs = true) : gs.length ≤ 60 ∧ V ≤ 8 := by
 unfold smallB at h
 simp only [Bool.and_eq_true, decide_eq_true_eq] at h
 exact h.1
theorem LangAt.of {w : World} {lv : Value} {V : Int} {gs : List Gr} {s : Bool} {A A' : Option Addr} {m c m' c' : Nat} {mv : Value} {am : Raw} {rs : List Raw} (hg : GramsAt w lv gs) (ha : RawAt w (.agg #[.bool s, .slice A m c, .slice A' m' c']) am) (hm : RawsAt w mv rs) (h : thinB V gs am rs = true) : LangAt w lv gs s A A' m c m' c' am.q mv (rs.map Raw.q) :=
 ⟨hg, ha.frac (thin_ok h).2.2.1, hm.fracs (thin_ok h).2.2.2, by rw [List.length_map]; have := (thin_ok h).2.1; omega⟩

section
def endH (m : Nat) (s : List Int) : List Int := (List.replicate m 0 ++ s).drop s.length
def innG (m : Nat) (s : List Int) : List (List Int) := (List.range s.length).map fun i => ((List.replicate m 0 ++ s).drop i).take (m + 1)
theorem endH_length (m : Nat) (s : List Int) : (endH m s).length = m := by simp [endH]
theorem grams_end (m : Nat) (s : List Int) : gramsL m s = innG m s ++ [endH m s ++ [0]] := by
 unfold gramsL innG fullL endH
 rw [List.range_succ, List.map_append]
 congr 1
 ·refine List.map_congr_left (fun i hi => ?_)
  have := List.mem_range.1 hi
  rw [List.drop_append_of_le_length (by simp; omega), List.take_append_of_le_length (by simp; omega)]
 ·show [((List.replicate m 0 ++ s ++ [0]).drop s.length).take (m + 1)] = [(List.replicate m 0 ++ s).drop s.length ++ [0]]
  rw [List.drop_append_of_le_length (l₁ := List.replicate m 0 ++ s) (by simp), List.take_of_length_le (by simp)]
def begQ (row : List Int → List Rat) (m : Nat) (s : List Int) : Rat := sayL row m (innG m s)
theorem last_step (row : List Int → List Rat) (m : Nat) (s : List Int) (x : Nat) (g : List (List Int)) : sayL row m (g ++ [endH m s ++ [(x : Int)]]) = sayL row m g * (row (endH m s)).getD x 0 := by
 have hl := endH_length m s
 have h1 : (endH m s ++ [(x : Int)]).take m = endH m s := by rw [List.take_append_of_le_length (by omega), List.take_of_length_le (by omega)]
 have h2 : ((endH m s ++ [(x : Int)]).getD m 0).toNat = x := by
  rw [List.getD_eq_getElem?_getD, List.getElem?_append_right (by omega), hl, Nat.sub_self]
  exact Int.toNat_natCast x
 rw [sayL_snoc, h1, h2]
theorem say_beg (row : List Int → List Rat) (m : Nat) (s : List Int) : sayQ row m s = begQ row m s * (row (endH m s)).getD 0 0 := by
 unfold sayQ begQ
 rw [grams_end]
 exact last_step row m s 0 _
variable {row : List Int → List Rat} {V : Nat}
theorem sayL_pos (hp : ∀ h, ∀ q ∈ row h, 0 < q) (hl : ∀ h, (row h).length = V + 1) {m : Nat} (g : List (List Int)) (hg : ∀ x ∈ g, (x.getD m 0).toNat ≤ V) : 0 < sayL row m g := by
 unfold sayL
 have key : ∀ (g : List (List Int)) (p : Rat), 0 < p → (∀ x ∈ g, (x.getD m 0).toNat ≤ V) → 0 < g.foldl (fun p g => p * (row (g.take m)).getD (g.getD m 0).toNat 0) p := by
  intro g
  induction g with
  | nil => intro p hp _; exact hp
  | cons x g ih =>
   intro p h0 hg
   refine ih _ (Rat.mul_pos h0 ?_) (fun y hy => hg y (by simp [hy]))
   have := hg x (by simp)
   rw [List.getD_eq_getElem?_getD, List.getElem?_eq_getElem (by rw [hl]; omega)]
   exact hp _ _ (List.getElem_mem _)
 exact key g 1 (by decide) hg
def Wordy (V : Nat) (s : List Int) : Prop := ∀ x ∈ s, 1 ≤ x ∧ x ≤ (V : Int)
theorem inn_le {m : Nat} {s : List Int} (h : Wordy V s) : ∀ g ∈ innG m s, (g.getD m 0).toNat ≤ V := by
 intro g hg
 obtain ⟨i, hi, rfl⟩ := List.mem_map.1 hg
 have := List.mem_range.1 hi
 have e : (((List.replicate m 0 ++ s).drop i).take (m + 1)).getD m 0 = s.getD i 0 := by
  rw [List.getD_eq_getElem?_getD, List.getElem?_take_of_lt (by omega), List.getElem?_drop, List.getElem?_append_right (by simp), List.length_replicate, List.getD_eq_getElem?_getD]
  congr 2
  omega
 rw [e, List.getD_eq_getElem?_getD, List.getElem?_eq_getElem this]
 have := h _ (List.getElem_mem this)
 show (s[i]).toNat ≤ V
 omega
theorem beg_pos (hp : ∀ h, ∀ q ∈ row h, 0 < q) (hl : ∀ h, (row h).length = V + 1) {m : Nat} {s : List Int} (h : Wordy V s) : 0 < begQ row m s := sayL_pos hp hl _ (inn_le h)
theorem say_pos (hp : ∀ h, ∀ q ∈ row h, 0 < q) (hl : ∀ h, (row h).length = V + 1) {m : Nat} {s : List Int} (h : Wordy V s) : 0 < sayQ row m s := by
 rw [say_beg]
 refine Rat.mul_pos (beg_pos hp hl h) ?_
 rw [List.getD_eq_getElem?_getD, List.getElem?_eq_getElem (by rw [hl]; omega)]
 exact hp _ _ (List.getElem_mem _)
end
def LLOwn (B : Nat) (w : World) (v : Value) (ls : List (List Int)) : Prop := ∃ cells, w.ownsRow B 44 1 v ls.length cells ∧
 ∀ (i : Nat) (l : List Int), ls[i]? = some l → ∃ c0, cells[i]? = some c0 ∧ IntsAt w c0 l ∧ From c0 B ∧ ∀ b, v.ownBlock = some b → Off c0 b
theorem Same.refl (F : Nat) (w : World) : Same F w w := ⟨Nat.le_refl _, fun _ _ _ => rfl⟩
theorem Same.trans {F : Nat} {w w1 w2 : World} (h : Same F w w1) (h' : Same F w1 w2) : Same F w w2 :=
 ⟨Nat.le_trans h.1 h'.1, fun b hb hl => (h'.2 b hb (Nat.lt_of_lt_of_le hl h.1)).trans (h.2 b hb hl)⟩
theorem Same.of_below {F : Nat} {w w' : World} (h : Below w.heap.size w w') : Same F w w' := ⟨h.size, fun b _ hl => h.block b hl⟩
theorem LLOwn.nil_ (B : Nat) (w : World) : LLOwn B w (.slice none 0 0) [] := ⟨[], World.ownsRow_nil .., fun i l hl => by simp at hl⟩
theorem LLOwn.same {B : Nat} {w w' : World} {v : Value} {ls : List (List Int)} (h : LLOwn B w v ls) (hs : Same B w w') : LLOwn B w' v ls := by
 obtain ⟨cells, h1, h2⟩ := h
 refine ⟨cells, ?_, fun i l hl => ?_⟩
 ·obtain ⟨h0, h3 | ⟨g, cap, cur, hv, hg, hh, hr⟩⟩ := h1
  ·exact ⟨h0, .inl h3⟩
  ·exact ⟨h0, .inr ⟨g, cap, cur, hv, hg, (hs.2 g hg (Array.getElem?_eq_some_iff.1 hh).1).trans hh, hr⟩⟩
 ·obtain ⟨c0, e0, e1, e2, e3⟩ := h2 i l hl
  exact ⟨c0, e0, Sl.same e1 e2 hs, e2, e3⟩
theorem LLOwn.below {B : Nat} {w w' : World} {v : Value} {ls : List (List Int)} (h : LLOwn B w v ls) (hb : Below w.heap.size w w') : LLOwn B w' v ls := h.same (Same.of_below hb)
theorem LLOwn.new {B F : Nat} {w : World} {v : Value} {ls : List (List Int)} (h : LLOwn B w v ls) (hF : F ≤ B) : ListsNew F w v ls := by
 obtain ⟨cells, h1, h2⟩ := h
 refine ⟨cells, Sl.of_own h1, (From.of_own h1).mono hF, fun i l hl => ?_⟩
 obtain ⟨c0, e0, e1, e2, _⟩ := h2 i l hl
 exact ⟨c0, e0, e1, e2.mono hF⟩
theorem LLOwn.push {B : Nat} {w w1 w' : World} {v v' c : Value} {ls : List (List Int)} {l : List Int} {cells : List Value} (h2 : ∀ (i : Nat) (l : List Int), ls[i]? = some l → ∃ c0, cells[i]? = some c0 ∧ IntsAt w c0 l ∧ From c0 B ∧ ∀ b, v.ownBlock = some b → Off c0 b) (hlen : cells.length = ls.length)
  (hw : Same B w w1) (hc : IntsAt w1 c l) (hcf : From c B) (hco : ∀ b, v.ownBlock = some b → Off c b) (hown : w'.ownsRow B 44 1 v' (ls.length + 1) (cells ++ [c])) (hg : w1.grownBy w' v.ownBlock) (hb : v'.ownBlock = v.ownBlock ∨ v'.ownBlock = some w1.heap.size) : LLOwn B w' v' (ls ++ [l]) := by
 refine ⟨cells ++ [c], by rw [List.length_append]; exact hown, fun i m hm => ?_⟩
 have key : ∀ (c0 : Value) (m : List Int), IntsAt w1 c0 m → (∀ b, v.ownBlock = some b → Off c0 b) → IntsAt w' c0 m ∧ ∀ b, v'.ownBlock = some b → Off c0 b := fun c0 m h1 h3 =>
  ⟨Sl.keptOff h1 hg h3, fun b hb' => by
   rcases hb with e | e
   ·exact h3 b (e ▸ hb')
   ·rw [e] at hb'
    cases hb'
    exact IntsAt.off h1 (Nat.le_refl _)⟩
 by_cases hi : i < ls.length
 ·rw [List.getElem?_append_left hi] at hm
  obtain ⟨c0, e0, e1, e2, e3⟩ := h2 i m hm
  obtain ⟨k1, k2⟩ := key c0 m (Sl.same e1 e2 hw) e3
  exact ⟨c0, by rw [List.getElem?_append_left (by omega)]; exact e0, k1, e2, k2⟩
 ·rw [List.getElem?_append_right (by omega)] at hm
  have hi2 : i = ls.length := by
   have := (List.getElem?_eq_some_iff.1 hm).1
   simp at this
   omega
  subst hi2
  rw [Nat.sub_self] at hm
  cases hm
  obtain ⟨k1, k2⟩ := key c l hc hco
  exact ⟨c, by rw [List.getElem?_append_right (by omega), hlen, Nat.sub_self]; rfl, k1, hcf, k2⟩

def BoxA (w : World) (b : Nat) (q : Rat) (v : Value) : Prop := ∃ A m c A' m' c', Blk w b 40 [.bool (isNeg q), .slice A m c, .slice A' m' c'] ∧ CanAt w (.agg #[.bool (isNeg q), .slice A m c, .slice A' m' c']) q ∧ ∀ r, v.ownBlock = some r → Off (.slice A m c) r ∧ Off (.slice A' m' c') r ∧ b ≠ r
theorem BoxA.box {w : World} {b : Nat} {q : Rat} {v : Value} (h : BoxA w b q v) : BoxC w b q := by
 obtain ⟨A, m, c, A', m', c', h1, h2, _⟩ := h
 exact BoxC.of h1 h2
theorem BoxA.below {w w' : World} {b : Nat} {q : Rat} {v : Value} (h : BoxA w b q v) (hb : Below w.heap.size w w') : BoxA w' b q v := by
 obtain ⟨A, m, c, A', m', c', h1, h2, h3⟩ := h
 exact ⟨A, m, c, A', m', c', h1.below' hb, h2.below hb, h3⟩
theorem NatAt.keptOff {w w' : World} {v : Value} {n : Nat} {row : Option Nat} (h : NatAt w v n) (hg : w.grownBy w' row) (ho : ∀ b, row = some b → Off v b) : NatAt w' v n := by
 obtain ⟨l, ⟨h1, h2⟩, h3⟩ := h
 exact ⟨l, ⟨Sl.keptOff h1 hg ho, h2⟩, h3⟩
theorem NatAt.offNew {w : World} {v : Value} {n F : Nat} (h : NatAt w v n) (hf : w.heap.size ≤ F) : Off v F := by
 obtain ⟨l, ⟨h1, _⟩, _⟩ := h
 exact Sl.off h1 hf
theorem BoxA.push {w w' : World} {b : Nat} {q : Rat} {v v' : Value} (h : BoxA w b q v) (hg : w.grownBy w' v.ownBlock) (hb : v'.ownBlock = v.ownBlock ∨ v'.ownBlock = some w.heap.size) : BoxA w' b q v' := by
 obtain ⟨A, m, c, A', m', c', h1, ⟨vn, vd, e, n1, n2⟩, h3⟩ := h
 have e' : [Value.bool (isNeg q), .slice A m c, .slice A' m' c'] = [.bool (isNeg q), vn, vd] := by
  injection e with e
  exact congrArg Array.toList e
 simp only [List.cons.injEq, and_true, true_and] at e'
 obtain ⟨rfl, rfl⟩ := e'
 refine ⟨A, m, c, A', m', c', h1.grown hg (fun e => (h3 b e.symm).2.2 rfl), ⟨_, _, rfl, n1.keptOff hg (fun r hr => (h3 r hr).1), n2.keptOff hg (fun r hr => (h3 r hr).2.1)⟩, fun r hr => ?_⟩
 rcases hb with e | e
 ·exact h3 r (e ▸ hr)
 ·rw [e] at hr
  cases hr
  exact ⟨n1.offNew (Nat.le_refl _), n2.offNew (Nat.le_refl _), by have := h1.lt; omega⟩
theorem BoxA.put {w : World} {b B : Nat} {q r : Rat} {v : Value} {A A' : Option Addr} {m c m' c' : Nat} (h : BoxC w b r) (hq : CanNew B w (.agg #[.bool (isNeg q), .slice A m c, .slice A' m' c']) q) (hv : ∀ x, v.ownBlock = some x → x < B ∧ b ≠ x) :
  BoxA (((w.setCell ⟨b, 0, none⟩ (.bool (isNeg q))).setCell ⟨b, 1, none⟩ (.slice A m c)).setCell ⟨b, 2, none⟩ (.slice A' m' c')) b q v := by
 have hk := FArc.keeps h hq.at_ 0 1 2 (isNeg q) A A' m c m' c'
 obtain ⟨vn, vd, e, _, _, f1, f2⟩ := hq
 have e' : [Value.bool (isNeg q), .slice A m c, .slice A' m' c'] = [.bool (isNeg q), vn, vd] := by
  injection e with e
  exact congrArg Array.toList e
 simp only [List.cons.injEq, and_true, true_and] at e'
 obtain ⟨rfl, rfl⟩ := e'
 obtain ⟨xs, h1, h2, _, _⟩ := h
 refine ⟨A, m, c, A', m', c', ?_, hk, fun x hx => ⟨f1.off (hv x hx).1, f2.off (hv x hx).1, (hv x hx).2⟩⟩
 have h3 := ((h1.set_ 0 (.bool (isNeg q))).set_ 1 (.slice A m c)).set_ 2 (.slice A' m' c')
 have e2 : ((xs.set 0 (.bool (isNeg q))).set 1 (.slice A m c)).set 2 (.slice A' m' c') = [.bool (isNeg q), .slice A m c, .slice A' m' c'] := by
  have h4 : xs.length = 3 := by simpa using h2
  match xs, h4 with
  | [_, _, _], _ => rfl
 rwa [e2] at h3
theorem pow_lt2 {a k : Nat} (h : a < 2 ^ k) (p : Nat) : a ^ p < 2 ^ (k * p + 1) := by
 have h1 : a ^ p ≤ (2 ^ k) ^ p := Nat.pow_le_pow_left (Nat.le_of_lt h) p
 rw [← Nat.pow_mul] at h1
 have h2 : 2 ^ (k * p) < 2 ^ (k * p + 1) := Nat.pow_lt_pow_right (by omega) (by omega)
 omega

theorem half_step {c q b : Nat} (h : q % 2 = b) : c * q = 2 * c * (q / 2) + c * b := by
 have e : q = 2 * (q / 2) + b := by omega
 have e2 : c * q = c * (2 * (q / 2) + b) := by rw [← e]
 rw [e2, Nat.mul_add, ← Nat.mul_assoc, Nat.mul_comm c 2]
theorem odd_and {x : Nat} (hx : x < 4294967296) : bits .and .i64 (x : Int) 1 = ((x % 2 : Nat) : Int) := by
 have h1 : (BitVec.ofInt 64 (x : Int)).toNat = x := by simp [BitVec.toNat_ofInt]; omega
 show IntKind.i64.wrap ((BitVec.ofInt 64 (x : Int) &&& BitVec.ofInt 64 1).toNat : Int) = _
 rw [BitVec.toNat_and, h1, show (BitVec.ofInt 64 1).toNat = 1 from by decide, Nat.and_one_is_mod]
 exact IntWalk.i64_in _ (by omega)

set_option maxRecDepth 1000000 in
set_option maxHeartbeats 1000000 in
theorem power (w : World) (va : Value) (a k n : Nat) (ha : NatAt w va a) (la : a < 2 ^ k) (hn : n ≤ 4096) (hk : k ≤ 1000000000) :
  Calls Tryz.prog 157 #[va, .int .i64 (n : Int)] w fun e w' => ∃ v', e = .returned v' ∧ NatAt w' v' (a ^ n) ∧ Below w.heap.size w w' := by
 have HA := Lib.hid ha
 have LA := Lib.hid la
 clear ha la
 go_enter Tryz.func157, Tryz.ntmps157
 go_wp2_with fail
 refine (small w 1 (by omega)).mono ?_
 rintro e w1 ⟨v1, rfl, h1, hb1⟩
 have H1 := Lib.hid h1
 have HB1 := Lib.hid hb1
 clear h1 hb1
 go_wp2_with fail
 go_loopg [0, 1, 5] (n + 1) (fun gh x m y wz => ∃ (c q p : Nat), m = .int .i64 (q : Int) ∧ q < gh ∧ gh ≤ n + 1 ∧ Hid (p + c * q = n) ∧ Hid (c ≤ 2 * n + 1) ∧ Hid (NatAt wz x (a ^ c)) ∧ Hid (NatAt wz y (a ^ p)) ∧ Hid (Below w.heap.size w wz))
 case atStart => exact ⟨1, n, 0, rfl, by omega, Nat.le_refl _, Lib.hid (by omega), Lib.hid (by omega), Lib.hid (by rw [Nat.pow_one]; exact HA.out.below HB1.out), H1, HB1⟩
 case round =>
  clear H1 HB1
  obtain ⟨c, q, p, rfl, hq, hgk, HQ, HC, HX, HY, BW⟩ := hrel
  rcases Nat.eq_zero_or_pos q with h0 | h0
  ·subst h0
   have HP : Hid (p = n) := Lib.hid (by have := HQ.out; simpa using this)
   go_wp2_with fail
   go_ret
   exact ⟨_, rfl, by rw [← HP.out]; exact HY.out, BW.out⟩
  ·obtain ⟨gh, rfl⟩ : ∃ g, gk = g + 1 := ⟨gk - 1, by omega⟩
   have d1 : decide ((0 : Int) < (q : Int)) = true := decide_eq_true (by omega)
   have d2 : decide (0 < q) = true := decide_eq_true h0
   obtain ⟨b, hb⟩ : ∃ b, q % 2 = b := ⟨_, rfl⟩
   have hand : bits .and .i64 (q : Int) 1 = (b : Int) := by rw [odd_and (by have := HQ.out; omega), hb]
   have HB := Lib.hid hb
   have hb2 : b < 2 := by omega
   have hcq : Hid (c ≤ n) := Lib.hid (by
    have h1 : c * 1 ≤ c * q := Nat.mul_le_mul_left c h0
    have := HQ.out
    omega)
   have LX : Hid (a ^ c < 2 ^ (k * c + 1)) := Lib.hid (pow_lt2 LA.out c)
   have LY : Hid (a ^ p < 2 ^ (k * p + 1)) := Lib.hid (pow_lt2 LA.out p)
   have K1 : k * c + 1 ≤ 70368744177664 := by
    have : k * c ≤ 1000000000 * 4096 := Nat.mul_le_mul hk (by have := hcq.out; omega)
    omega
   have K2 : k * p + 1 ≤ 70368744177664 := by
    have : k * p ≤ 1000000000 * 4096 := Nat.mul_le_mul hk (by have := HQ.out; omega)
    omega
   clear hb
   rcases (show b = 0 ∨ b = 1 by omega) with rfl | rfl
   ·have e1 : (bits .and .i64 (q : Int) 1 == 1) = false := by rw [hand]; rfl
    clear hand
    go_wp2_with fail
    refine (mul wr _ _ (a ^ c) (a ^ c) (k * c + 1) (k * c + 1) HX.out HX.out LX.out LX.out K1 K1).mono ?_
    rintro e w4 ⟨x2, rfl, hx2, hb4⟩
    have HX4 : Hid (NatAt w4 x2 (a ^ (2 * c))) := Lib.hid (by
     rw [show 2 * c = c + c by omega, Nat.pow_add]
     exact hx2)
    have HY4 := Lib.hid (HY.out.below hb4)
    have B4 := Lib.hid (BW.out.trans (hb4.mono BW.out.size))
    clear hx2 hb4
    go_wp2_with fail
    go_roundg gh
    case measure => omega
    case rel => exact ⟨2 * c, q / 2, p, by rw [show ((q / 2 : Nat) : Int) = (q : Int) / 2 by omega], by omega, by omega, Lib.hid (by have h1 := half_step (c := c) HB.out; have := HQ.out; omega), Lib.hid (by have := hcq.out; omega), HX4, HY4, B4⟩
   ·have e1 : (bits .and .i64 (q : Int) 1 == 1) = true := by rw [hand]; rfl
    clear hand
    go_wp2_with fail
    refine (mul wr _ _ (a ^ p) (a ^ c) (k * p + 1) (k * c + 1) HY.out HX.out LY.out LX.out K2 K1).mono ?_
    rintro e w4 ⟨y2, rfl, hy2, hb4⟩
    have HY4 : Hid (NatAt w4 y2 (a ^ (p + c))) := Lib.hid (by
     rw [Nat.pow_add]
     exact hy2)
    have HX4 := Lib.hid (HX.out.below hb4)
    have B4 := Lib.hid (BW.out.trans (hb4.mono BW.out.size))
    clear hy2 hb4
    go_wp2_with fail
    refine (mul w4 _ _ (a ^ c) (a ^ c) (k * c + 1) (k * c + 1) HX4.out HX4.out LX.out LX.out K1 K1).mono ?_
    rintro e w5 ⟨x2, rfl, hx2, hb5⟩
    have HX5 : Hid (NatAt w5 x2 (a ^ (2 * c))) := Lib.hid (by
     rw [show 2 * c = c + c by omega, Nat.pow_add]
     exact hx2)
    have HY5 := Lib.hid (HY4.out.below hb5)
    have B5 := Lib.hid (B4.out.trans (hb5.mono B4.out.size))
    clear hx2 hb5
    go_wp2_with fail
    go_roundg gh
    case measure => omega
    case rel => exact ⟨2 * c, q / 2, p + c, by rw [show ((q / 2 : Nat) : Int) = (q : Int) / 2 by omega], by omega, by omega, Lib.hid (by have h1 := half_step (c := c) HB.out; have := HQ.out; omega), Lib.hid (by have := hcq.out; omega), HX5, HY5, B5⟩
theorem isNeg_of_pos {q : Rat} (h : 0 < q) : isNeg q = false := by
 unfold isNeg
 refine decide_eq_false (fun h1 => ?_)
 have h2 := (Rat.num_nonneg (q := q)).2 (Rat.le_of_lt h)
 omega
set_option maxRecDepth 1000000 in
set_option maxHeartbeats 8000000 in
theorem powF (w : World) (v : Value) (q : Rat) (k n : Nat) (h : FracAt k w v q) (h0 : 0 < k) (hk : k ≤ 1000000000) (hq : 0 < q) (hn : 1 ≤ n ∧ n ≤ 4096) :
  Calls Tryz.prog 126 #[v, .int .i64 (n : Int)] w fun e w' => ∃ u, e = .returned (.tuple #[u, .int .i64 0]) ∧ CanAt w' u (q ^ n) ∧ Below w.heap.size w w' := by
 obtain ⟨s, vn, vd, rfl⟩ := h.shape
 have H1 := Lib.hid h
 have hqb := h.qb h0
 have HNEG : Hid (isNeg q = false) := Lib.hid (isNeg_of_pos hq)
 have LN : Hid (q.num.natAbs < 2 ^ k) := Lib.hid hqb.1
 have LD : Hid (q.den < 2 ^ k) := Lib.hid hqb.2
 have QP : Hid (QB (k * n + 1) (q ^ n)) := Lib.hid ⟨by rw [Rat.num_pow, Int.natAbs_pow]; exact pow_lt2 hqb.1 n, by rw [Rat.den_pow]; exact pow_lt2 hqb.2 n⟩
 have NUM : Hid (∀ (w' : World) (va vb : Value), NatAt w' va (q.num.natAbs ^ n) → NatAt w' vb (q.den ^ n) → NumAt w' (.agg #[.bool false, va, vb]) (q ^ n)) := Lib.hid (fun w' va vb ha hb => ⟨va, vb, by rw [isNeg_of_pos (Rat.pow_pos hq)], by rw [Rat.num_pow, Int.natAbs_pow]; exact ha, by rw [Rat.den_pow]; exact hb⟩)
 have KB : k * n + 1 ≤ 17592186044416 := by
  have : k * n ≤ 1000000000 * 4096 := Nat.mul_le_mul hk hn.2
  omega
 have d1 : decide ((4096 : Int) < (n : Int)) = false := decide_eq_false (by omega)
 have d2 : decide ((n : Int) < -4096) = false := decide_eq_false (by omega)
 have d3 : decide ((n : Int) < 0) = false := decide_eq_false (by omega)
 clear h hqb hq
 go_enter Tryz.func126, Tryz.ntmps126
 go_wp2_with fail
 obtain ⟨W, hW, P0, P1, PB, Phs⟩ := box2 w 40 [.bool s, vn, vd] 40 [.bool false, .slice none 0 0, .slice none 0 0]
 rw [← hW]
 clear hW
 obtain ⟨p0, p1, p2, _, _, _⟩ := P0.out.three
 go_wp2_with fail
 refine (take W _ q k (H1.out.below PB.out) h0 (by omega)).mono ?_
 rintro e w1 ⟨v1, rfl, t1, hb1⟩
 obtain ⟨A, m, c, A', m', c', rfl, ta, tb, _, _⟩ := t1.open_
 rw [HNEG.out]
 have TA := Lib.hid ta
 have TB := Lib.hid tb
 have R1 := Lib.hid (P1.out.below' hb1)
 have B1 := Lib.hid (PB.out.trans (hb1.mono (by omega)))
 have s1 : w.heap.size + 2 ≤ w1.heap.size := Nat.le_trans Phs hb1.size
 clear p0 p1 p2 t1 hb1 ta tb P0 P1 PB
 go_upto_region 8 with fail
 obtain ⟨W2, hW2, G0, GB, Ghs⟩ := box1 w1 190 [.bool false, .slice A m c, .slice A' m' c']
 rw [← hW2]
 clear hW2
 obtain ⟨g0, g1, g2, _, _, _⟩ := G0.out.three
 have TA2 := Lib.hid (TA.out.below GB.out)
 have TB2 := Lib.hid (TB.out.below GB.out)
 have R2 := Lib.hid (R1.out.below' GB.out)
 have B2 := Lib.hid (B1.out.trans (GB.out.mono (by omega)))
 have sG : w1.heap.size < W2.heap.size := G0.out.lt
 clear TA TB R1 B1
 have HSET : Hid (∀ w', Below W2.heap.size W2 w' → (fun w' => w'.cell? ⟨w1.heap.size, 0, none⟩ = some (.bool false) ∧ w'.cell? ⟨w1.heap.size, 1, none⟩ = some (.slice A m c) ∧ w'.cell? ⟨w1.heap.size, 2, none⟩ = some (.slice A' m' c')) w') := Lib.hid (fun w' hb => ⟨(hb.cell (p := ⟨w1.heap.size, 0, none⟩) sG).trans g0, (hb.cell (p := ⟨w1.heap.size, 1, none⟩) sG).trans g1, (hb.cell (p := ⟨w1.heap.size, 2, none⟩) sG).trans g2⟩)
 clear g0 g1 g2
 refine wp_region_held_drew (S := fun w' => w'.cell? ⟨w1.heap.size, 0, none⟩ = some (.bool false) ∧ w'.cell? ⟨w1.heap.size, 1, none⟩ = some (.slice A m c) ∧ w'.cell? ⟨w1.heap.size, 2, none⟩ = some (.slice A' m' c')) (by kernel_rfl) (HSET.out _ (below_drew_self W2)) (fun hHeld => ?_)
 refine wpAnyH_take (i := 0) (v := ?_) rfl (by kernel_rfl) (by kernel_rfl) (by kernel_rfl) (fun _ _ _ h => h) (Or.inl ⟨by rfl, ?_⟩) (by assumption) ?_
 rotate_left
 ·(intro w' hSw; (try dsimp only at hSw); go_simp <;> with_reducible rfl)
 simp only [List.getElem_toArray, List.getElem_cons_succ, List.getElem_cons_zero, Act.put, List.setIfInBounds_toArray, List.set_cons_zero, List.set_cons_succ]
 refine wpAnyH_take (i := 1) (v := ?_) rfl (by kernel_rfl) (by kernel_rfl) (by kernel_rfl) (fun _ _ _ h => h) (Or.inl ⟨by rfl, ?_⟩) (by assumption) ?_
 rotate_left
 ·(intro w' hSw; (try dsimp only at hSw); go_simp <;> with_reducible rfl)
 simp only [List.getElem_toArray, List.getElem_cons_succ, List.getElem_cons_zero, Act.put, List.setIfInBounds_toArray, List.set_cons_zero, List.set_cons_succ]
 refine wpAnyH_take (i := 2) (v := ?_) rfl (by kernel_rfl) (by kernel_rfl) (by kernel_rfl) (fun _ _ _ h => h) (Or.inl ⟨by rfl, ?_⟩) (by assumption) ?_
 rotate_left
 ·(intro w' hSw; (try dsimp only at hSw); go_simp <;> with_reducible rfl)
 simp only [List.getElem_toArray, List.getElem_cons_succ, List.getElem_cons_zero, Act.put, List.setIfInBounds_toArray, List.set_cons_zero, List.set_cons_succ]
 refine wpAnyH_take (i := 3) (v := undef) rfl (by kernel_rfl) (by kernel_rfl) (by kernel_rfl) (fun _ _ _ h => h) (Or.inr ⟨by rfl, rfl⟩) (by assumption) ?_
 simp only [List.getElem_toArray, List.getElem_cons_succ, List.getElem_cons_zero, Act.put, List.setIfInBounds_toArray, List.set_cons_zero, List.set_cons_succ]
 refine wpAnyH_take (i := 4) (v := undef) rfl (by kernel_rfl) (by kernel_rfl) (by kernel_rfl) (fun _ _ _ h => h) (Or.inr ⟨by rfl, rfl⟩) (by assumption) ?_
 simp only [List.getElem_toArray, List.getElem_cons_succ, List.getElem_cons_zero, Act.put, List.setIfInBounds_toArray, List.set_cons_zero, List.set_cons_succ]
 refine wpAnyH_take (i := 5) (v := undef) rfl (by kernel_rfl) (by kernel_rfl) (by kernel_rfl) (fun _ _ _ h => h) (Or.inr ⟨by rfl, rfl⟩) (by assumption) ?_
 simp only [List.getElem_toArray, List.getElem_cons_succ, List.getElem_cons_zero, Act.put, List.setIfInBounds_toArray, List.set_cons_zero, List.set_cons_succ]
 refine wpAnyH_take (i := 6) (v := ?_) rfl (by kernel_rfl) (by kernel_rfl) (by kernel_rfl) (fun _ _ _ h => h) (Or.inl ⟨by rfl, ?_⟩) (by assumption) ?_
 rotate_left
 ·(intro w' hSw; (try dsimp only at hSw); go_simp <;> with_reducible rfl)
 simp only [List.getElem_toArray, List.getElem_cons_succ, List.getElem_cons_zero, Act.put, List.setIfInBounds_toArray, List.set_cons_zero, List.set_cons_succ]
 refine wpAnyH_take (i := 7) (v := ?_) rfl (by kernel_rfl) (by kernel_rfl) (by kernel_rfl) (fun _ _ _ h => h) (Or.inl ⟨by rfl, ?_⟩) (by assumption) ?_
 rotate_left
 ·(intro w' hSw; (try dsimp only at hSw); go_simp <;> with_reducible rfl)
 simp only [List.getElem_toArray, List.getElem_cons_succ, List.getElem_cons_zero, Act.put, List.setIfInBounds_toArray, List.set_cons_zero, List.set_cons_succ]
 refine wpAnyH_take (i := 8) (v := ?_) rfl (by kernel_rfl) (by kernel_rfl) (by kernel_rfl) (fun _ _ _ h => h) (Or.inl ⟨by rfl, ?_⟩) (by assumption) ?_
 rotate_left
 ·(intro w' hSw; (try dsimp only at hSw); go_simp <;> with_reducible rfl)
 simp only [List.getElem_toArray, List.getElem_cons_succ, List.getElem_cons_zero, Act.put, List.setIfInBounds_toArray, List.set_cons_zero, List.set_cons_succ]
 refine wpAnyH_take (i := 9) (v := ?_) rfl (by kernel_rfl) (by kernel_rfl) (by kernel_rfl) (fun _ _ _ h => h) (Or.inl ⟨by rfl, ?_⟩) (by assumption) ?_
 rotate_left
 ·(intro w' hSw; (try dsimp only at hSw); go_simp <;> with_reducible rfl)
 simp only [List.getElem_toArray, List.getElem_cons_succ, List.getElem_cons_zero, Act.put, List.setIfInBounds_toArray, List.set_cons_zero, List.set_cons_succ]
 refine wpAnyH_take (i := 11) (v := ?_) rfl (by kernel_rfl) (by kernel_rfl) (by kernel_rfl) (fun _ _ _ h => h) (Or.inl ⟨by rfl, ?_⟩) (by assumption) ?_
 rotate_left
 ·(intro w' hSw; (try dsimp only at hSw); go_simp <;> with_reducible rfl)
 simp only [List.getElem_toArray, List.getElem_cons_succ, List.getElem_cons_zero, Act.put, List.setIfInBounds_toArray, List.set_cons_zero, List.set_cons_succ]
 refine wpAnyH_take (i := 12) (v := ?_) rfl (by kernel_rfl) (by kernel_rfl) (by kernel_rfl) (fun _ _ _ h => h) (Or.inl ⟨by rfl, ?_⟩) (by assumption) ?_
 rotate_left
 ·(intro w' hSw; (try dsimp only at hSw); go_simp <;> with_reducible rfl)
 simp only [List.getElem_toArray, List.getElem_cons_succ, List.getElem_cons_zero, Act.put, List.setIfInBounds_toArray, List.set_cons_zero, List.set_cons_succ]
 refine wpAnyH_take (i := 13) (v := ?_) rfl (by kernel_rfl) (by kernel_rfl) (by kernel_rfl) (fun _ _ _ h => h) (Or.inl ⟨by rfl, ?_⟩) (by assumption) ?_
 rotate_left
 ·(intro w' hSw; (try dsimp only at hSw); go_simp <;> with_reducible rfl)
 simp only [List.getElem_toArray, List.getElem_cons_succ, List.getElem_cons_zero, Act.put, List.setIfInBounds_toArray, List.set_cons_zero, List.set_cons_succ]
 refine wpAnyH_ready (rs := [10]) (by kernel_rfl) (by simp) ?_
 refine AllReadyH.cons rfl (fun K hK => ?_) AllReadyH.nil
 go_simp
 clear hHeld
 refine (power _ _ q.num.natAbs k n (TA2.out.below (below_drew_self W2)) LN.out hn.2 (by omega)).mono ?_
 rintro e w3 ⟨va, rfl, ha, hb'⟩
 obtain ⟨A1, m1, c1, rfl, _, _⟩ := ha.len
 have hb := below_of_drew hb'
 have VA := Lib.hid ha
 have B3 := Lib.hid hb
 clear ha hb'
 have hS := HSET.out w3 hb
 try go_simp
 refine hK.out _ _ hS (fun hHeld => ?_)
 clear hK K hS
 try simp only [List.getElem_toArray, List.getElem_cons_succ, List.getElem_cons_zero, Act.put, List.setIfInBounds_toArray, List.set_cons_zero, List.set_cons_succ]
 clear hb
 refine wpAnyH_ready (rs := [14]) (by kernel_rfl) (by simp) ?_
 refine AllReadyH.cons rfl (fun K hK => ?_) AllReadyH.nil
 go_simp
 clear hHeld
 refine (power _ _ q.den k n (TB2.out.below B3.out) LD.out hn.2 (by omega)).mono ?_
 rintro e w4 ⟨vb, rfl, hv4, hb⟩
 obtain ⟨A2, m2, c2, rfl, _, _⟩ := hv4.len
 have VA4 := Lib.hid (VA.out.below hb)
 have VB4 := Lib.hid hv4
 have B4 := Lib.hid (B3.out.trans (hb.mono B3.out.size))
 clear hv4 hb
 have hS := HSET.out w4 B4.out
 try go_simp
 refine hK.out _ _ hS (fun hHeld => ?_)
 clear hK K hS
 try simp only [List.getElem_toArray, List.getElem_cons_succ, List.getElem_cons_zero, Act.put, List.setIfInBounds_toArray, List.set_cons_zero, List.set_cons_succ]
 refine wpAnyH_take (i := 15) (v := ?_) rfl (by kernel_rfl) (by kernel_rfl) (by kernel_rfl) (fun _ _ _ h => h) (Or.inl ⟨by rfl, ?_⟩) (by assumption) ?_
 rotate_left
 ·(intro w' hSw; (try dsimp only at hSw); go_simp <;> with_reducible rfl)
 simp only [List.getElem_toArray, List.getElem_cons_succ, List.getElem_cons_zero, Act.put, List.setIfInBounds_toArray, List.set_cons_zero, List.set_cons_succ]
 refine wpAnyH_ready (rs := [16]) (by kernel_rfl) (by simp) ?_
 refine AllReadyH.cons rfl (fun K hK => ?_) AllReadyH.nil
 go_simp
 clear hHeld
 refine (give w4 _ (q ^ n) (k * n + 1) (NUM.out w4 _ _ VA4.out VB4.out) QP.out KB).mono ?_
 rintro e w5 ⟨u, rfl, t5, hb⟩
 obtain ⟨Ax, mx, cx, Ax', mx', cx', rfl⟩ := t5.at_.open_
 have T5 := Lib.hid t5.at_
 have B5 := Lib.hid (B4.out.trans (hb.mono B4.out.size))
 clear t5 hb
 have hS := HSET.out w5 B5.out
 try go_simp
 refine hK.out _ _ hS (fun hHeld => ?_)
 clear hK K hS
 try simp only [List.getElem_toArray, List.getElem_cons_succ, List.getElem_cons_zero, Act.put, List.setIfInBounds_toArray, List.set_cons_zero, List.set_cons_succ]
 have RB : Hid (BoxC w5 (w.heap.size + 1) 0) := Lib.hid (BoxC.of (q := 0) (R2.out.below' B5.out) ((CanNew.zero_ 0 w5).at_))
 obtain ⟨_, _, _, _, _, _, r0, r1, r2, y0, y1, y2, _⟩ := RB.out.get
 refine wpAnyH_ready (rs := [17]) (by kernel_rfl) (by simp) ?_
 refine AllReadyH.cons rfl (fun K hK => ?_) AllReadyH.nil
 go_simp
 refine hK.out _ _ ⟨cell3 hHeld.1 (by omega) _ _ _ _ _ _, cell3 hHeld.2.1 (by omega) _ _ _ _ _ _, cell3 hHeld.2.2 (by omega) _ _ _ _ _ _⟩ (fun _ => ?_)
 clear hK K hHeld
 try simp only [List.getElem_toArray, List.getElem_cons_succ, List.getElem_cons_zero, Act.put, List.setIfInBounds_toArray, List.set_cons_zero, List.set_cons_succ]
 refine wpAnyH_take (i := 18) (v := ?_) rfl (by kernel_rfl) (by kernel_rfl) (by kernel_rfl) (fun _ _ _ h => h) (Or.inl ⟨by rfl, ?_⟩) (by assumption) ?_
 rotate_left
 ·(intro w' hSw; (try dsimp only at hSw); go_simp <;> with_reducible rfl)
 simp only [List.getElem_toArray, List.getElem_cons_succ, List.getElem_cons_zero, Act.put, List.setIfInBounds_toArray, List.set_cons_zero, List.set_cons_succ]
 refine wpAnyH_done (by kernel_rfl) ?_ _
 go_wp2_with fail
 have R4 := RB.out.put rfl T5.out
 obtain ⟨Az, mz, cz, Az', mz', cz', g0, g1, g2, _, _, _, tz⟩ := R4.get
 refine bodyPost_ret (v := .tuple #[.agg #[.bool (isNeg (q ^ n)), .slice Az mz cz, .slice Az' mz' cz'], .int .i64 0]) (by simp [results, Tryz.results126, go_sem, g0, g1, g2, List.mapM_cons]) rfl ⟨_, rfl, tz, below3 (B2.out.trans (B5.out.mono B2.out.size)) (by omega) _ _ _ _ _ _⟩
theorem weighAny (w : World) (O v : Nat) (lv : Value) (gs : List Gr) (k : Int) (s : Bool) (A A' : Option Addr) (m c m' c' : Nat) (mv : Value) (a : Rat) (mix : List Rat) (sv : Value) (sl : List Int) (h : LangAt w lv gs s A A' m c m' c' a mv mix) (hs : IntsAt w sv sl) (hE : checkE O v gs k a mix = 0) (hin : inR 1 v sl = true) (hl : sl.length ≤ 500) (hv8 : v ≤ 8) :
  Calls Tryz.prog 104 #[langV O v lv k s A A' m c m' c' mv, sv] w fun e w' => ∃ u, e = .returned u ∧ CanAt w' u (sayQ (rowQ k O gs v a mix) (O - 1) sl) ∧ Below w.heap.size w w' := by
 obtain ⟨T, rv, F, hw⟩ := way_ok w O v lv gs k s A A' m c m' c' mv a mix h hE hv8
 exact weighG w O v lv gs k s A A' m c m' c' mv a mix sv sl h hs (check_ok hE).1 hv8 hin hl T rv F (rowQ k O gs v a mix) (fun b Am nm cm _ => hw.way b) hw.meth hw.nil hw.cf
  (fun b wl hlv hbl W hv hl hbW hi hll hk => hw.row b W hv hl (hlv.below hbW) (hbl.trans (hbW.mono hbl.size)) hi hll hk) hw.qb hw.len
theorem lists_2 {w : World} {g : Nat} {x y : Value} {l m : List Int} (h : Blk w g 44 [x, y]) (hx : IntsAt w x l) (hy : IntsAt w y m) : ListsAt w (.slice (some ⟨g, 0, none⟩) 2 2) [l, m] := by
 have h1 := h.sl (sz := 1) (n := 2) (c := 2) (by simp) (Nat.le_refl _) (by unfold maxLen; omega)
 refine ⟨_, h1, fun i z hz => ?_⟩
 match i, hz with
 | 0, hz => cases hz; exact ⟨_, rfl, hx⟩
 | 1, hz => cases hz; exact ⟨_, rfl, hy⟩
def usualI (row : List Int → List Rat) (m : Nat) (a b : List Int) : Int := sgnI (sayQ row m a ^ (b.length + 1) - sayQ row m b ^ (a.length + 1))
theorem say_qb2 {row : List Int → List Rat} (hq : ∀ h, ∀ q ∈ row h, QB 5000000 q) (m : Nat) {s : List Int} (hl : s.length ≤ 12) : QB 65000001 (sayQ row m s) := by
 have := sayL_qb hq m (gramsL m s)
 rw [gramsL_length] at this
 exact this.mono (by omega)
theorem pow_qb {k : Nat} {q : Rat} (h : QB k q) (n : Nat) : QB (k * n + 1) (q ^ n) :=
 ⟨by rw [Rat.num_pow, Int.natAbs_pow]; exact pow_lt2 h.1 n, by rw [Rat.den_pow]; exact pow_lt2 h.2 n⟩

set_option maxRecDepth 1000000 in
set_option maxHeartbeats 16000000 in
theorem usualG (w : World) (O v : Nat) (lv : Value) (gs : List Gr) (k : Int) (s : Bool) (A A' : Option Addr) (m c m' c' : Nat) (mv : Value) (a : Rat) (mix : List Rat) (xv yv : Value) (xl yl : List Int) (h : LangAt w lv gs s A A' m c m' c' a mv mix) (hx : IntsAt w xv xl) (hy : IntsAt w yv yl) (hE : sentE O v gs k a mix [xl, yl] = 0) (hv8 : v ≤ 8) (hxl : xl.length ≤ 12) (hyl : yl.length ≤ 12) :
  Calls Tryz.prog 55 #[langV O v lv k s A A' m c m' c' mv, xv, yv] w fun e w' => e = .returned (.tuple #[.int .i64 (usualI (rowQ k O gs v a mix) (O - 1) xl yl), .int .i64 0]) ∧ Below w.heap.size w w' := by
 obtain ⟨Al, cl, rfl, _, _, _⟩ := h.grams.open_
 obtain ⟨Am, cm, rfl, _, _, _⟩ := h.mixes.open_
 obtain ⟨Ax, cx, rfl, hxc, hxm, _⟩ := hx.open_
 obtain ⟨Ay, cy, rfl, hyc, hym, _⟩ := hy.open_
 have HL := Lib.hid h
 have HX := Lib.hid hx
 have HY := Lib.hid hy
 have HE := Lib.hid hE
 have HOK := Lib.hid (sent_ok hE)
 have HT := Lib.hid (table_small (check_ok (sent_ok hE).1).1 hv8)
 have HVB := Lib.hid (check_ok (sent_ok hE).1).2
 have RQ : Hid (∀ h, ∀ q ∈ rowQ k O gs v a mix h, QB 5000000 q) := Lib.hid (by
  obtain ⟨T, rv, F, hw⟩ := way_ok w O v _ gs k s A A' m c m' c' _ a mix h (sent_ok hE).1 hv8
  exact hw.qb)
 have RP : Hid (∀ l, inR 1 (v : Int) l = true → 0 < sayQ (rowQ k O gs v a mix) (O - 1) l) := Lib.hid (fun l hl => say_pos (V := v) (fun h => (row_all HT.out HVB.out h).2.2) (fun h => (row_all HT.out HVB.out h).1) (fun x hx => inR_all hl x hx))
 obtain ⟨row, hrow⟩ : ∃ f, rowQ k O gs v a mix = f := ⟨_, rfl⟩
 rw [hrow] at RQ RP ⊢
 have HRW := Lib.hid hrow
 obtain ⟨n1, hn1⟩ : ∃ n, xl.length = n := ⟨_, rfl⟩
 obtain ⟨n2, hn2⟩ : ∃ n, yl.length = n := ⟨_, rfl⟩
 obtain ⟨qx, hqx⟩ : ∃ q, sayQ row (O - 1) xl = q := ⟨_, rfl⟩
 obtain ⟨qy, hqy⟩ : ∃ q, sayQ row (O - 1) yl = q := ⟨_, rfl⟩
 have HU : Hid (usualI row (O - 1) xl yl = sgnI (qx ^ (n2 + 1) - qy ^ (n1 + 1))) := Lib.hid (by unfold usualI; rw [hn1, hn2, hqx, hqy])
 have PX : Hid (0 < qx) := Lib.hid (by rw [← hqx]; exact RP.out xl (HOK.out.2 xl (by simp)).2)
 have PY : Hid (0 < qy) := Lib.hid (by rw [← hqy]; exact RP.out yl (HOK.out.2 yl (by simp)).2)
 have QX : Hid (QB 65000001 qx) := Lib.hid (by rw [← hqx]; exact say_qb2 RQ.out _ hxl)
 have QY : Hid (QB 65000001 qy) := Lib.hid (by rw [← hqy]; exact say_qb2 RQ.out _ hyl)
 have HQX := Lib.hid hqx
 have HQY := Lib.hid hqy
 rw [hn1] at hxc hxl ⊢
 rw [hn2] at hyc hyl ⊢
 have HX2 : Hid (∀ w', Below w.heap.size w w' → IntsAt w' (.slice Ax n1 cx) xl) := Lib.hid (fun w' hb => by rw [← hn1]; exact HX.out.below hb)
 have HY2 : Hid (∀ w', Below w.heap.size w w' → IntsAt w' (.slice Ay n2 cy) yl) := Lib.hid (fun w' hb => by rw [← hn2]; exact HY.out.below hb)
 have HN1 := Lib.hid hn1
 have HN2 := Lib.hid hn2
 have i1 : IntKind.i64.wrap ((n1 : Int) + 1) = (n1 : Int) + 1 := IntWalk.i64_in _ (by omega)
 have i2 : IntKind.i64.wrap ((n2 : Int) + 1) = (n2 : Int) + 1 := IntWalk.i64_in _ (by omega)
 clear h hx hy hE hrow hn1 hn2 hqx hqy HX HY
 unfold langV
 go_enter Tryz.func55, Tryz.ntmps55
 go_wp2_with fail
 obtain ⟨W, hW, P0, P1, PB, Phs⟩ := box2 w 43 [.int .i64 O, .int .i64 v, .slice Al gs.length cl, .int .i64 k, .bool s, .slice A m c, .slice A' m' c', .slice Am mix.length cm] 44 [.slice Ax n1 cx, .slice Ay n2 cy]
 rw [← hW]
 clear hW
 have LS : Hid (ListsAt W (.slice (some ⟨w.heap.size + 1, 0, none⟩) 2 2) [xl, yl]) := Lib.hid (lists_2 P1.out (HX2.out W PB.out) (HY2.out W PB.out))
 refine (checkSentG W O v (.slice Al gs.length cl) gs k s A A' m c m' c' (.slice Am mix.length cm) a mix (.slice (some ⟨w.heap.size + 1, 0, none⟩) 2 2) [xl, yl] (HL.out.below PB.out) LS.out).mono ?_
 rintro e w1 ⟨rfl, hb1⟩
 rw [HE.out]
 have X1 := Lib.hid (P0.out.below' hb1)
 have B1 := Lib.hid (PB.out.trans (hb1.mono PB.out.size))
 clear hb1 P0 P1 PB LS
 obtain ⟨p0, p1, p2, p3, p4, p5, p6, p7⟩ := eight X1.out
 go_wp2_with fail
 refine (weighAny w1 O v (.slice Al gs.length cl) gs k s A A' m c m' c' (.slice Am mix.length cm) a mix (.slice Ax n1 cx) xl (HL.out.below B1.out) (HX2.out w1 B1.out) HOK.out.1 (HOK.out.2 xl (by simp)).2 (HOK.out.2 xl (by simp)).1 hv8).mono ?_
 rintro e w2 ⟨u2, rfl, t2, hb2⟩
 rw [HRW.out, HQX.out] at t2
 have X2 := Lib.hid (X1.out.below' hb2)
 have B2 := Lib.hid (B1.out.trans (hb2.mono B1.out.size))
 have T2 := Lib.hid (t2.frac (k := 65000001) QX.out (by omega))
 clear p0 p1 p2 p3 p4 p5 p6 p7 hb2 t2 X1 B1
 go_wp2_with fail
 refine (powF w2 _ qx 65000001 (n2 + 1) T2.out (by omega) (by omega) PX.out (by omega)).mono ?_
 rintro e w3 ⟨u3, rfl, t3, hb3⟩
 have X3 := Lib.hid (X2.out.below' hb3)
 have B3 := Lib.hid (B2.out.trans (hb3.mono B2.out.size))
 obtain ⟨A3, m3, c3, A3', m3', c3', rfl⟩ := t3.open_
 have T3 := Lib.hid t3
 clear hb3 t3 X2 B2 T2
 go_upto_region 5 with fail
 obtain ⟨W4, hW4, G0, GB, Ghs⟩ := box1 w3 40 [.bool (isNeg (qx ^ (n2 + 1))), .slice A3 m3 c3, .slice A3' m3' c3']
 rw [← hW4]
 clear hW4
 have X4 := Lib.hid (X3.out.below' GB.out)
 have B4 := Lib.hid (B3.out.trans (GB.out.mono B3.out.size))
 have T4 := Lib.hid (T3.out.below GB.out)
 obtain ⟨p0, p1, p2, p3, p4, p5, p6, p7⟩ := eight X4.out
 clear X3 B3 T3
 go_wp2_with fail
 refine (weighAny W4 O v (.slice Al gs.length cl) gs k s A A' m c m' c' (.slice Am mix.length cm) a mix (.slice Ay n2 cy) yl (HL.out.below B4.out) (HY2.out W4 B4.out) HOK.out.1 (HOK.out.2 yl (by simp)).2 (HOK.out.2 yl (by simp)).1 hv8).mono ?_
 rintro e w5 ⟨u5, rfl, t5, hb5⟩
 rw [HRW.out, HQY.out] at t5
 have B5 := Lib.hid (B4.out.trans (hb5.mono B4.out.size))
 have G5 := Lib.hid (G0.out.below' hb5)
 have T5 := Lib.hid (T4.out.below hb5)
 have U5 := Lib.hid (t5.frac (k := 65000001) QY.out (by omega))
 clear p0 p1 p2 p3 p4 p5 p6 p7 hb5 t5 X4 B4 T4 G0 GB Ghs
 go_wp2_with fail
 refine (powF w5 _ qy 65000001 (n1 + 1) U5.out (by omega) (by omega) PY.out (by omega)).mono ?_
 rintro e w6 ⟨u6, rfl, t6, hb6⟩
 have B6 := Lib.hid (B5.out.trans (hb6.mono B5.out.size))
 have G6 := Lib.hid (G5.out.below' hb6)
 have T6 := Lib.hid (T5.out.below hb6)
 obtain ⟨A6, m6, c6, A6', m6', c6', rfl⟩ := t6.open_
 have U6 := Lib.hid t6
 clear hb6 t6 B5 G5 T5 U5
 go_upto_region 6 with fail
 obtain ⟨W7, hW7, R0, RB, Rhs⟩ := box1 w6 40 [.bool (isNeg (qy ^ (n1 + 1))), .slice A6 m6 c6, .slice A6' m6' c6']
 rw [← hW7]
 clear hW7
 have B7 := Lib.hid (B6.out.trans (RB.out.mono B6.out.size))
 obtain ⟨g0, g1, g2, _, _, _⟩ := (G6.out.below' RB.out).three
 obtain ⟨r0, r1, r2, _, _, _⟩ := R0.out.three
 have T7 := Lib.hid ((T6.out.below RB.out).frac (k := 1000000000) ((pow_qb QX.out (n2 + 1)).mono (by omega)) (by omega))
 have U7 := Lib.hid ((U6.out.below RB.out).frac (k := 1000000000) ((pow_qb QY.out (n1 + 1)).mono (by omega)) (by omega))
 go_wp2_with fail
 refine (cmpF W7 _ _ (qx ^ (n2 + 1)) (qy ^ (n1 + 1)) 1000000000 T7.out U7.out (by omega) (by omega)).mono ?_
 rintro e w8 ⟨rfl, hb8⟩
 rw [← HU.out]
 have B8 := Lib.hid (B7.out.trans (hb8.mono B7.out.size))
 clear hb8
 go_wp2_with fail
 first
  | (go_ret; exact ⟨rfl, B8.out⟩)
  | (go_ret2; exact ⟨rfl, B8.out⟩)
theorem rpow_add (a : Rat) (m n : Nat) : a ^ (m + n) = a ^ m * a ^ n := by
 induction n with
 | zero => rw [Nat.add_zero, Rat.pow_zero, Rat.mul_one]
 | succ n ih => rw [← Nat.add_assoc, Rat.pow_succ, ih, Rat.pow_succ, Rat.mul_assoc]
theorem rpow_mul (a : Rat) (m n : Nat) : a ^ (m * n) = (a ^ m) ^ n := by
 induction n with
 | zero => rw [Nat.mul_zero, Rat.pow_zero, Rat.pow_zero]
 | succ n ih => rw [Nat.mul_succ, rpow_add, ih, Rat.pow_succ]
theorem rpow_swap (a : Rat) (m n : Nat) : (a ^ m) ^ n = (a ^ n) ^ m := by rw [← rpow_mul, ← rpow_mul, Nat.mul_comm]
theorem rpow_lt {a b : Rat} (h0 : 0 < a) (h : a < b) (n : Nat) : a ^ (n + 1) < b ^ (n + 1) := by
 have hb : 0 < b := by grind
 induction n with
 | zero => rw [Rat.pow_one, Rat.pow_one]; exact h
 | succ n ih =>
  rw [Rat.pow_succ a, Rat.pow_succ b]
  have h1 : a ^ (n + 1) * a < a ^ (n + 1) * b := Rat.mul_lt_mul_of_pos_left h (Rat.pow_pos h0)
  have h2 : b * a ^ (n + 1) < b * b ^ (n + 1) := Rat.mul_lt_mul_of_pos_left ih hb
  rw [Rat.mul_comm b, Rat.mul_comm b] at h2
  grind
theorem rpow_le {a b : Rat} (h0 : 0 < a) (h : a ≤ b) (n : Nat) : a ^ n ≤ b ^ n := by
 cases n with
 | zero => rw [Rat.pow_zero, Rat.pow_zero]; exact Rat.le_refl
 | succ n =>
  rcases Rat.le_iff_lt_or_eq.1 h with h1 | h1
  ·exact Rat.le_of_lt (rpow_lt h0 h1 n)
  ·rw [h1]; exact Rat.le_refl
theorem rpow_le_of {a b : Rat} (hb : 0 < b) (n : Nat) (h : a ^ (n + 1) ≤ b ^ (n + 1)) : a ≤ b := by
 refine Rat.not_lt.1 (fun h1 => ?_)
 exact absurd (rpow_lt hb h1 n) (Rat.not_lt.2 h)
theorem rpow_lt_of {a b : Rat} (ha : 0 < b) (n : Nat) (h : a ^ (n + 1) < b ^ (n + 1)) (ha2 : 0 < a) : a < b := by
 refine Rat.not_le.1 (fun h1 => ?_)
 exact absurd (rpow_le ha h1 (n + 1)) (Rat.not_le.2 h)
theorem sgnI_neg_sub (q r : Rat) : sgnI (q - r) = - sgnI (r - q) := by
 unfold sgnI
 by_cases h : q - r = 0
 ·have h' : r - q = 0 := by grind
  rw [if_pos h, if_pos h']
  rfl
 ·have h' : ¬ r - q = 0 := by grind
  rw [if_neg h, if_neg h']
  by_cases h2 : q - r < 0
  ·have h3 : ¬ r - q < 0 := by grind
   rw [if_pos h2, if_neg h3]
  ·have h3 : r - q < 0 := by grind
   rw [if_neg h2, if_pos h3]
   rfl
theorem sgn_ge_iff {q r : Rat} : 0 ≤ sgnI (q - r) ↔ r ≤ q := by
 unfold sgnI
 split
 ·next h => exact ⟨fun _ => by grind, fun _ => by omega⟩
 ·split
  ·next h => exact ⟨fun h1 => by omega, fun h1 => by grind⟩
  ·next h => exact ⟨fun _ => by grind, fun _ => by omega⟩
theorem sgn_gt_iff {q r : Rat} : 0 < sgnI (q - r) ↔ r < q := by
 unfold sgnI
 split
 ·next h => exact ⟨fun h1 => by omega, fun h1 => by grind⟩
 ·split
  ·next h => exact ⟨fun h1 => by omega, fun h1 => by grind⟩
  ·next h h2 => exact ⟨fun _ => by grind, fun _ => by omega⟩
theorem usual_neg (row : List Int → List Rat) (m : Nat) (a b : List Int) : usualI row m a b = - usualI row m b a := sgnI_neg_sub _ _
theorem ord_le {x y z : Rat} (hx : 0 < x) (hy : 0 < y) (hz : 0 < z) {p q r : Nat} (h1 : y ^ (p + 1) ≤ x ^ (q + 1)) (h2 : z ^ (q + 1) ≤ y ^ (r + 1)) : z ^ (p + 1) ≤ x ^ (r + 1) := by
 refine rpow_le_of (Rat.pow_pos hx) q ?_
 rw [rpow_swap z, rpow_swap x]
 have h3 := rpow_le (Rat.pow_pos hy) h1 (r + 1)
 have h4 := rpow_le (Rat.pow_pos hz) h2 (p + 1)
 rw [rpow_swap y (r + 1)] at h4
 exact Rat.le_trans h4 h3
theorem ord_lt {x y z : Rat} (hx : 0 < x) (hy : 0 < y) (hz : 0 < z) {p q r : Nat} (h1 : y ^ (p + 1) < x ^ (q + 1)) (h2 : z ^ (q + 1) < y ^ (r + 1)) : z ^ (p + 1) < x ^ (r + 1) := by
 refine rpow_lt_of (Rat.pow_pos hx) q ?_ (Rat.pow_pos hz)
 rw [rpow_swap z, rpow_swap x]
 have h3 := rpow_lt (Rat.pow_pos hy) h1 r
 have h4 := rpow_lt (Rat.pow_pos hz) h2 p
 rw [rpow_swap y (r + 1)] at h4
 grind
theorem usual_le {row : List Int → List Rat} {m : Nat} {a b c : List Int} (ha : 0 < sayQ row m a) (hb : 0 < sayQ row m b) (hc : 0 < sayQ row m c) (h1 : 0 ≤ usualI row m a b) (h2 : 0 ≤ usualI row m b c) : 0 ≤ usualI row m a c :=
 sgn_ge_iff.2 (ord_le ha hb hc (sgn_ge_iff.1 h1) (sgn_ge_iff.1 h2))
theorem usual_lt {row : List Int → List Rat} {m : Nat} {a b c : List Int} (ha : 0 < sayQ row m a) (hb : 0 < sayQ row m b) (hc : 0 < sayQ row m c) (h1 : 0 < usualI row m a b) (h2 : 0 < usualI row m b c) : 0 < usualI row m a c :=
 sgn_gt_iff.2 (ord_lt ha hb hc (sgn_gt_iff.1 h1) (sgn_gt_iff.1 h2))
end Go.Proofs.YtjebfdfkjlkifaaGreat
