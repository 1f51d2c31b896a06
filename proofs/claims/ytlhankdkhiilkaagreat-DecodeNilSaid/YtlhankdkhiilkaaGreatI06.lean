/- Lemmas on the way: Ref4, Ref5, Ref6, Ref7. -/
import Derived.Test.YtlhankdkhiilkaaGreatI05
import Derived.Test.YtlhankdkhiilkaaGreatI04
set_option linter.unusedSimpArgs false
set_option linter.unusedVariables false
set_option linter.unusedSectionVars false
set_option linter.unnecessarySimpa false
namespace Go.Proofs.YtlhankdkhiilkaaGreat
open Go.RowKit
def MinusTo (l m o : List Nat) (c : Nat) : Prop := Ok o ∧ c ≤ 1 ∧ val o + val (m.take o.length) = val (l.take o.length) + 4294967296 ^ o.length * c
theorem MinusTo.step {l m o : List Nat} {k c x y : Nat} (h : MinusTo l m o c) (ho : o.length = k) (hx : l.getD k 0 = x) (hy : m.getD k 0 = y) (xl : x < 4294967296) (yl : y < 4294967296) :
  (x < c + y → MinusTo l m (o ++ [x + 4294967296 - (c + y)]) 1) ∧ (c + y ≤ x → MinusTo l m (o ++ [x - (c + y)]) 0) := by
 obtain ⟨h1, h2, h3⟩ := h
 subst ho
 refine ⟨fun hlt => ⟨Ok.append.2 ⟨h1, Ok.cons.2 ⟨by omega, Ok.nil⟩⟩, by omega, ?_⟩, fun hle => ⟨Ok.append.2 ⟨h1, Ok.cons.2 ⟨by omega, Ok.nil⟩⟩, by omega, ?_⟩⟩
 ·rw [List.length_append, List.length_singleton, val_snoc, val_take_succ, val_take_succ, hx, hy, Nat.pow_succ]
  obtain ⟨r, hr⟩ : ∃ r, x + 4294967296 = c + y + r := ⟨x + 4294967296 - (c + y), by omega⟩
  rw [hr, Nat.add_sub_cancel_left]
  have e2 : 4294967296 ^ o.length * (x + 4294967296) = 4294967296 ^ o.length * (c + y + r) := by rw [hr]
  grind
 ·rw [List.length_append, List.length_singleton, val_snoc, val_take_succ, val_take_succ, hx, hy, Nat.pow_succ]
  obtain ⟨r, hr⟩ : ∃ r, x = c + y + r := ⟨x - (c + y), by omega⟩
  rw [hr, Nat.add_sub_cancel_left]
  grind
theorem MinusTo.done {l m o : List Nat} {c : Nat} (h : MinusTo l m o c) (h1 : l.length = o.length) (h2 : m.length ≤ o.length) (hle : val m ≤ val l) : val o = val l - val m := by
 obtain ⟨h0, _, h3⟩ := h
 rw [val_take_all (by omega), val_take_all (by omega)] at h3
 have a1 := val_lt o h0
 rcases Nat.eq_zero_or_pos c with h | h
 ·subst h; omega
 ·have : 4294967296 ^ o.length * 1 ≤ 4294967296 ^ o.length * c := Nat.mul_le_mul_left _ h
  omega

theorem row_eq {w : World} {base : Nat} {e : TypeId} {v : Value} {k d : Nat} {xs : List Value} {E : Int} (h : w.ownsRow base e 1 v (k + 1) (xs ++ [Value.int .u32 E])) (hE : E = (d : Int)) : w.ownsRow base e 1 v (k + 1) (xs ++ [d].map dg) := by
 rw [hE] at h
 exact h

set_option maxRecDepth 1000000 in
set_option maxHeartbeats 1000000 in
theorem minusR (w : World) (va vb : Value) (a b k : Nat) (ha : NatAt w va a) (hb : NatAt w vb b) (la : a < 2 ^ k) (hle : b ≤ a) (hk : k ≤ 70368744177664) :
  Calls Tryz.prog 138 #[va, vb] w fun e w' => ∃ v', e = .returned v' ∧ NatAt w' v' (a - b) ∧ Below w.heap.size w w' ∧ From v' w.heap.size := by
 obtain ⟨l, dl, tl, rfl⟩ := ha
 obtain ⟨m, dm, tm, rfl⟩ := hb
 have ll := tl.length_le la
 have hlen := length_le_of_val dl.2 tm hle
 have HLE := Lib.hid hle
 clear la tl tm hle
 obtain ⟨okl, A, ca, rfl, hlc, hcm, hA⟩ := dl.open_
 obtain ⟨okm, B, cb, rfl, hmc, hcm', hB⟩ := dm.open_
 clear dl dm
 have HA := Lib.hid hA
 have HB := Lib.hid hB
 clear hA hB
 have HO := Lib.hid okl
 have HP := Lib.hid okm
 clear okl okm
 obtain ⟨n, hn⟩ : ∃ n, l.length = n := ⟨_, rfl⟩
 obtain ⟨p, hp⟩ : ∃ p, m.length = p := ⟨_, rfl⟩
 rw [hn] at hlc ll hlen ⊢
 rw [hp] at hmc hlen ⊢
 have HN := Lib.hid hn
 have HQ := Lib.hid hp
 clear hn hp
 obtain ⟨i0, hi, hz0, hz1, hz2⟩ := info_parts infoU32
 go_enter Tryz.func138, Tryz.ntmps138
 go_wp2_with fail
 go_outline
 go_loopg [5, 6, 7] n (fun g vo c i wr => ∃ (k cc : Nat) (o : List Nat), i = .int .i64 k ∧ c = .int .u64 cc ∧ k + g = n ∧ o.length = k ∧ Hid (MinusTo l m o cc) ∧ Hid (wr.ownsRow w.heap.size 154 1 vo k (o.map dg)) ∧ Hid (Below w.heap.size w wr))
 case atStart => exact ⟨0, 0, [], rfl, rfl, by omega, rfl, Lib.hid ⟨Ok.nil, by omega, by simp [val]⟩, Lib.hid (World.ownsRow_nil ..), Lib.hid (Below.refl _ _)⟩
 case round =>
  obtain ⟨k, cc, o, rfl, rfl, hg, ho, HPT, HOW, HBE⟩ := hrel
  have HL := Lib.hid ho
  clear ho
  have hcc := HPT.out.2.1
  obtain ⟨x, hx⟩ : ∃ x, l.getD k 0 = x := ⟨_, rfl⟩
  obtain ⟨y, hy⟩ : ∃ y, m.getD k 0 = y := ⟨_, rfl⟩
  have hx0 : x < 4294967296 := by rw [← hx]; exact HO.out.getD k
  have hy0 : y < 4294967296 := by rw [← hy]; exact HP.out.getD k
  have STEP := Lib.hid (HPT.out.step HL.out hx hy hx0 hy0)
  have hcx := dig_cell HA.out HN.out HBE.out k x hx
  have hcy := dig_cell HB.out HQ.out HBE.out k y hy
  clear hx hy
  rcases hcx with ⟨h1, b, off, rfl, hb, hc1⟩ | ⟨h1, hx⟩
  ·obtain ⟨g, rfl⟩ : ∃ g, gk = g + 1 := ⟨gk - 1, by omega⟩
   rcases hcy with ⟨h2, b', off', rfl, hb', hc2⟩ | ⟨h2, hy⟩
   ·rcases Nat.lt_or_ge x (cc + y) with hlt | hge
    ·have ST := Lib.hid (STEP.out.1 hlt)
     have hd1 : decide ((x : Int) < (cc : Int) + (y : Int)) = true := decide_eq_true (by omega)
     go_wp2_with (at_builtin; refine wpList_append_sl rfl _ _ 25 rfl w.heap.size 154 i0 (.int .u32 0) 1 4 Tryz.underlying25 hi hz0 hz1 hz2 rfl (by decide) _ _ _ rfl (HOW.out.alloc _) _ 1 [_] rfl (Sl.one _ _ _) ?c0 ?c1 ?c2 ?c3 ?_)
     case c0 => simp [Value.oneCell']
     case c1 => unfold maxLen; omega
     case c2 => omega
     case c3 => have := HBE.out.size; simp; omega
     intro v2 w2 hown2 hgrow hnb
     have HW2 := Lib.hid hown2
     have HB3 := Lib.hid (PlusTo.grow HBE.out HOW.out hgrow HBE.out.size)
     clear hown2 hgrow hnb
     go_wp2_with fail
     go_roundg g
     case measure => omega
     case rel => exact ⟨k + 1, 1, o ++ [x + 4294967296 - (cc + y)], rfl, rfl, by omega, by simp [HL.out], ST, Lib.hid (by rw [List.map_append]; refine row_eq HW2.out ?_; omega), HB3⟩
    ·have ST := Lib.hid (STEP.out.2 hge)
     have hd1 : decide ((x : Int) < (cc : Int) + (y : Int)) = false := decide_eq_false (by omega)
     go_wp2_with (at_builtin; refine wpList_append_sl rfl _ _ 25 rfl w.heap.size 154 i0 (.int .u32 0) 1 4 Tryz.underlying25 hi hz0 hz1 hz2 rfl (by decide) _ _ _ rfl (HOW.out.alloc _) _ 1 [_] rfl (Sl.one _ _ _) ?c0 ?c1 ?c2 ?c3 ?_)
     case c0 => simp [Value.oneCell']
     case c1 => unfold maxLen; omega
     case c2 => omega
     case c3 => have := HBE.out.size; simp; omega
     intro v2 w2 hown2 hgrow hnb
     have HW2 := Lib.hid hown2
     have HB3 := Lib.hid (PlusTo.grow HBE.out HOW.out hgrow HBE.out.size)
     clear hown2 hgrow hnb
     go_wp2_with fail
     go_roundg g
     case measure => omega
     case rel => exact ⟨k + 1, 0, o ++ [x - (cc + y)], rfl, rfl, by omega, by simp [HL.out], ST, Lib.hid (by rw [List.map_append]; refine row_eq HW2.out ?_; omega), HB3⟩
   ·subst hy
    rcases Nat.lt_or_ge x (cc + 0) with hlt | hge
    ·have ST := Lib.hid (STEP.out.1 hlt)
     have hd1 : decide ((x : Int) < (cc : Int)) = true := decide_eq_true (by omega)
     go_wp2_with (at_builtin; refine wpList_append_sl rfl _ _ 25 rfl w.heap.size 154 i0 (.int .u32 0) 1 4 Tryz.underlying25 hi hz0 hz1 hz2 rfl (by decide) _ _ _ rfl (HOW.out.alloc _) _ 1 [_] rfl (Sl.one _ _ _) ?c0 ?c1 ?c2 ?c3 ?_)
     case c0 => simp [Value.oneCell']
     case c1 => unfold maxLen; omega
     case c2 => omega
     case c3 => have := HBE.out.size; simp; omega
     intro v2 w2 hown2 hgrow hnb
     have HW2 := Lib.hid hown2
     have HB3 := Lib.hid (PlusTo.grow HBE.out HOW.out hgrow HBE.out.size)
     clear hown2 hgrow hnb
     go_wp2_with fail
     go_roundg g
     case measure => omega
     case rel => exact ⟨k + 1, 1, o ++ [x + 4294967296 - (cc + 0)], rfl, rfl, by omega, by simp [HL.out], ST, Lib.hid (by rw [List.map_append]; refine row_eq HW2.out ?_; omega), HB3⟩
    ·have ST := Lib.hid (STEP.out.2 hge)
     have hd1 : decide ((x : Int) < (cc : Int)) = false := decide_eq_false (by omega)
     go_wp2_with (at_builtin; refine wpList_append_sl rfl _ _ 25 rfl w.heap.size 154 i0 (.int .u32 0) 1 4 Tryz.underlying25 hi hz0 hz1 hz2 rfl (by decide) _ _ _ rfl (HOW.out.alloc _) _ 1 [_] rfl (Sl.one _ _ _) ?c0 ?c1 ?c2 ?c3 ?_)
     case c0 => simp [Value.oneCell']
     case c1 => unfold maxLen; omega
     case c2 => omega
     case c3 => have := HBE.out.size; simp; omega
     intro v2 w2 hown2 hgrow hnb
     have HW2 := Lib.hid hown2
     have HB3 := Lib.hid (PlusTo.grow HBE.out HOW.out hgrow HBE.out.size)
     clear hown2 hgrow hnb
     go_wp2_with fail
     go_roundg g
     case measure => omega
     case rel => exact ⟨k + 1, 0, o ++ [x - (cc + 0)], rfl, rfl, by omega, by simp [HL.out], ST, Lib.hid (by rw [List.map_append]; refine row_eq HW2.out ?_; omega), HB3⟩
  ·obtain rfl : k = n := by omega
   have TR := Lib.hid (trimOwn HOW.out HPT.out.1 HL.out)
   have HV := Lib.hid (HPT.out.done (by rw [HN.out, HL.out]) (by rw [HQ.out, HL.out]; exact hlen) HLE.out)
   go_wp2_with fail
   refine (TR.out _ rfl).mono ?_
   rintro e w2 ⟨hw2, v', rfl, hv, hf⟩
   cases hw2
   have T2 := Lib.hid hv
   have T3 := Lib.hid hf
   clear hv hf
   go_wp2_with fail
   go_ret
   exact ⟨v', rfl, HV.out ▸ T2.out, HBE.out, T3.out⟩
section
open Go.RowKit
end
theorem val_mod2 {l : List Nat} : val l % 2 = l.getD 0 0 % 2 := by
 cases l with
 | nil => rfl
 | cons d l => simp only [val, List.getD_cons_zero]; omega

theorem ret_bool {a b : Bool} (h : a = b) : Ending.returned (.bool a) = .returned (.bool b) := by rw [h]

set_option maxRecDepth 1000000 in
set_option maxHeartbeats 400000 in
theorem evenR (w : World) (va : Value) (a : Nat) (ha : NatAt w va a) :
  Calls Tryz.prog 135 #[va] w fun e w' => w' = w ∧ e = .returned (.bool (decide (a % 2 = 0))) := by
 obtain ⟨l, dl, tl, rfl⟩ := ha
 obtain ⟨okl, A, ca, rfl, hlc, hcm, hA⟩ := dl.open_
 obtain ⟨n, hn⟩ : ∃ n, l.length = n := ⟨_, rfl⟩
 have hcx := dig_cell hA hn (Below.refl _ w) 0 _ rfl
 have hm := val_mod2 (l := l)
 generalize l.getD 0 0 = x at *
 rw [hn] at hlc ⊢
 generalize val l = a at *
 rw [hm]
 clear dl tl okl hA hn hm
 rcases hcx with ⟨h1, b, off, rfl, hb, hc⟩ | ⟨h1, rfl⟩
 ·have hd : ((n : Int) == 0) = false := by simp; omega
  have hc : w.cell? ⟨b, off, none⟩ = some (.int .u32 (x : Int)) := hc
  go_enter Tryz.func135, Tryz.ntmps135
  go_wp2_with fail
  go_ret
  exact ⟨rfl, ret_bool (by rw [Bool.eq_iff_iff]; simp; omega)⟩
 ·obtain rfl : n = 0 := by omega
  go_enter Tryz.func135, Tryz.ntmps135
  go_wp2_with fail
  go_ret
  exact ⟨rfl, rfl⟩

theorem val_one {l : List Nat} (t : Trim l) (ok : Ok l) : val l = 1 ↔ l.length = 1 ∧ l.getD 0 0 = 1 := by
 constructor
 ·intro h
  have := Trim.eq_of_val ok (Ok.cons.2 ⟨(by omega : 1 < 4294967296), Ok.nil⟩) t (by simp [Trim]) (show val l = val [1] by rw [h]; rfl)
  subst this
  exact ⟨rfl, rfl⟩
 ·rintro ⟨h1, h2⟩
  match l, h1 with
  | [d], _ => simp only [List.getD_cons_zero] at h2; subst h2; rfl

set_option maxRecDepth 1000000 in
set_option maxHeartbeats 400000 in
theorem oneR (w : World) (va : Value) (a : Nat) (ha : NatAt w va a) :
  Calls Tryz.prog 101 #[va] w fun e w' => w' = w ∧ e = .returned (.bool (decide (a = 1))) := by
 obtain ⟨l, dl, tl, rfl⟩ := ha
 obtain ⟨okl, A, ca, rfl, hlc, hcm, hA⟩ := dl.open_
 have hv := val_one tl okl
 obtain ⟨n, hn⟩ : ∃ n, l.length = n := ⟨_, rfl⟩
 have hcx := dig_cell hA hn (Below.refl _ w) 0 _ rfl
 generalize l.getD 0 0 = x at *
 rw [hn] at hlc hv ⊢
 generalize val l = a at *
 clear dl tl okl hA hn
 by_cases h1 : n = 1
 ·subst h1
  rcases hcx with ⟨h1, b, off, rfl, hb, hc⟩ | ⟨h1, _⟩
  ·have HV := Lib.hid hv
   have hc : w.cell? ⟨b, off, none⟩ = some (.int .u32 (x : Int)) := hc
   clear hv
   go_enter Tryz.func101, Tryz.ntmps101
   go_wp2_with fail
   go_ret
   exact ⟨rfl, ret_bool (by rw [Bool.eq_iff_iff]; simp [HV.out]; omega)⟩
  ·omega
 ·have hd : ((n : Int) == 1) = false := by simp; omega
  have HV := Lib.hid hv
  clear hv hcx
  go_enter Tryz.func101, Tryz.ntmps101
  go_wp2_with fail
  go_ret
  exact ⟨rfl, ret_bool (by rw [Bool.eq_iff_iff]; simp [HV.out, h1])⟩
def HalfTo (l o : List Nat) (k cc : Nat) : Prop := Ok o ∧ o.length = l.length ∧ o.drop k = (downs 1 l).drop k ∧ cc = l.getD k 0 % 2
theorem HalfTo.start (l : List Nat) : HalfTo l (List.replicate l.length 0) l.length 0 :=
 ⟨Ok.replicate _, by simp, by rw [List.drop_eq_nil_of_le (by simp), List.drop_eq_nil_of_le (by rw [downs_length]; exact Nat.le_refl _)], by rw [List.getD_eq_getElem?_getD, List.getElem?_eq_none_iff.2 (Nat.le_refl _)]; rfl⟩
theorem HalfTo.step {l o : List Nat} {j cc x : Nat} (h : HalfTo l o (j + 1) cc) (hx : l.getD j 0 = x) (xl : x < 4294967296) (hj : j < l.length) :
  HalfTo l (o.set j (x / 2 + 2147483648 * cc)) j (x % 2) := by
 obtain ⟨h1, h2, h3, h4⟩ := h
 have hcc : cc ≤ 1 := by omega
 have hd := downs_get 1 l j hj
 rw [hx] at hd
 refine ⟨h1.set _ _ (by omega), by simpa using h2, ?_, by rw [hx]⟩
 obtain ⟨hj', hd⟩ := List.getElem?_eq_some_iff.1 hd
 rw [List.drop_eq_getElem_cons (by simp; omega), List.drop_eq_getElem_cons hj', hd, List.getElem_set_self, List.drop_set_of_lt (by omega), h3]
 congr 1
 omega
theorem HalfTo.done {l o : List Nat} {cc : Nat} (h : HalfTo l o 0 cc) (hl : Ok l) : val o = val l / 2 := by
 obtain ⟨_, _, h3, _⟩ := h
 simp only [List.drop_zero] at h3
 rw [h3, downs_val 1 (by omega) l hl]

theorem half_or {x cc : Nat} (hx : x < 4294967296) (hc : cc ≤ 1) : bits .or .u32 ((x : Int) / 2) ((cc : Int) * 2147483648) = ((x / 2 + 2147483648 * cc : Nat) : Int) := by
 rw [show (x : Int) / 2 = ((x / 2 : Nat) : Int) by omega, show (cc : Int) * 2147483648 = ((2147483648 * cc : Nat) : Int) by omega, u32_or_nat _ _ (by omega) (by omega)]
 congr 1
 exact or_add (s := 31) (by omega)
theorem half_and {x : Nat} (hx : x < 4294967296) : bits .and .u32 (x : Int) 1 = ((x % 2 : Nat) : Int) := by
 rw [show (1 : Int) = ((1 : Nat) : Int) by rfl, u32_and_nat _ _ (by omega) (by omega), Nat.and_one_is_mod]

set_option maxRecDepth 1000000 in
set_option maxHeartbeats 1000000 in
theorem halfR (w : World) (va : Value) (a k : Nat) (ha : NatAt w va a) (la : a < 2 ^ k) (hk : k ≤ 70368744177664) :
  Calls Tryz.prog 136 #[va] w fun e w' => ∃ v', e = .returned v' ∧ NatAt w' v' (a / 2) ∧ Below w.heap.size w w' ∧ From v' w.heap.size := by
 obtain ⟨l, dl, tl, rfl⟩ := ha
 have ll := tl.length_le la
 clear la tl
 obtain ⟨okl, A, ca, rfl, hlc, hcm, hA⟩ := dl.open_
 clear dl
 have HA := Lib.hid hA
 have HO := Lib.hid okl
 clear hA okl
 have ST := Lib.hid (HalfTo.start l)
 obtain ⟨n, hn⟩ : ∃ n, l.length = n := ⟨_, rfl⟩
 rw [hn] at hlc ll ST ⊢
 have HN := Lib.hid hn
 clear hn
 obtain ⟨i0, hi, hz0, hz1, hz2⟩ := info_parts infoU32
 go_enter Tryz.func136, Tryz.ntmps136
 go_wp2_with (at_make; refine wpList_make_blk rfl _ _ 25 rfl 154 i0 (.int .u32 0) 4 Tryz.underlying25 hi hz0 hz1 hz2 rfl .i64 .i64 _ _ n rfl rfl (by omega) (by omega) (by omega) (by unfold maxLen; omega) ?_)
 intro w1 hblk hbel
 go_wp2_with fail
 go_loopw [4, 5] (fun c i wr => ∃ (q : Int) (cc : Nat) (o : List Nat), i = .int .i64 q ∧ c = .int .u32 cc ∧ -1 ≤ q ∧ q < n ∧ HalfTo l o (q + 1).toNat cc ∧ DB wr w.heap.size o ∧ Below w.heap.size w wr) (fun _ i _ => (intOf i + 1).toNat)
 case atStart => exact ⟨_, 0, List.replicate n 0, rfl, rfl, by omega, by omega, by rw [show ((n : Int) - 1 + 1).toNat = n by omega]; exact ST.out, DB.of_blk (e := 154) (by simpa [dg] using hblk), hbel⟩
 case round =>
  clear hblk hbel
  obtain ⟨q, cc, o, rfl, rfl, hq, hqn, hr, hdb, hbel⟩ := hrel
  have HR := Lib.hid hr
  have HDB := Lib.hid hdb
  have hlen := hr.2.1
  rw [HN.out] at hlen
  have HLEN := Lib.hid hlen
  have hc1 : cc ≤ 1 := by have := hr.2.2.2; omega
  clear hr hlen
  by_cases h0 : q = -1
  ·subst h0
   have HD := Lib.hid (HDB.out.digAt HR.out.1 (n := n) (c := n) HLEN.out (Nat.le_refl _) (by omega))
   have HV := Lib.hid (HR.out.done HO.out)
   have HB2 := Lib.hid hbel
   clear hbel hdb
   have TR : Hid (∀ W, W = wr → Calls Tryz.prog 100 #[.slice (some ⟨w.heap.size, 0, none⟩) n n] W fun e w' => w' = W ∧ ∃ v', e = .returned v' ∧ NatAt W v' (val o) ∧ From v' w.heap.size) := Lib.hid (fun W e => by
    rw [e]
    have hd := HD.out
    refine (trimR wr _ o hd).mono ?_
    rintro e w' ⟨h1, v', h2, h3, h4, _⟩
    subst h1
    exact ⟨rfl, v', h2, h3, h4.from (fun ad n' c' e => by cases e; exact Nat.le_refl _)⟩)
   go_wp2_with fail
   refine (TR.out _ rfl).mono ?_
   rintro e w2 ⟨hw2, v', rfl, hv, hf⟩
   cases hw2
   have T2 := Lib.hid hv
   have T3 := Lib.hid hf
   clear hv hf
   go_wp2_with fail
   go_ret
   exact ⟨v', rfl, HV.out ▸ T2.out, HB2.out, T3.out⟩
  ·obtain ⟨j, rfl⟩ : ∃ j : Nat, q = j := ⟨q.toNat, by omega⟩
   have HR2 := HR.out
   rw [show ((j : Int) + 1).toNat = j + 1 by omega] at HR2
   obtain ⟨x, hx⟩ : ∃ x, l.getD j 0 = x := ⟨_, rfl⟩
   have hx0 : x < 4294967296 := by rw [← hx]; exact HO.out.getD j
   have STEP := Lib.hid (HR2.step hx hx0 (by rw [HN.out]; omega))
   have hcx := dig_cell HA.out HN.out hbel j x hx
   have hz := hdb.cell (k := j) (by rw [HLEN.out]; omega)
   have hfz := hdb.frozen j
   have HB2 := Lib.hid hbel
   clear HR2 hx hbel hdb h0 hq
   rcases hcx with ⟨h1, b, off, rfl, hb, hc⟩ | ⟨h1, _⟩
   ·go_wp2_with fail
    refine ⟨⟨(j : Int) - 1, x % 2, o.set j (x / 2 + 2147483648 * cc), rfl, int_eq (half_and hx0), by omega, by omega, ?_, HDB.out.set (by rw [HLEN.out]; omega) (half_or hx0 hc1), HB2.out.setCell (p := ⟨w.heap.size, _, none⟩) (Nat.le_refl _) _⟩, by simp [intOf]⟩
    rw [show ((j : Int) - 1 + 1).toNat = j by omega]
    exact STEP.out
   ·omega
end Go.Proofs.YtlhankdkhiilkaaGreat
