/- Lemmas on the way: Nat6, Nat8, Nat3, Nat5, DivB, Quo. -/
import Derived.Test.YtlhankdkhiilkaaGreatI03
import Derived.Deep.RegionWith
set_option linter.unusedSimpArgs false
set_option linter.unusedVariables false
set_option linter.unusedSectionVars false
set_option linter.unnecessarySimpa false
namespace Go.Proofs.YtlhankdkhiilkaaGreat
open Go.RowKit
set_option maxRecDepth 1000000 in
set_option maxHeartbeats 1000000 in
theorem digit (w : World) (v : Value) (l : List Nat) (i : Int) (hd : DigAt w v l) (hi : i < 9223372036854775807) (hi' : -9223372036854775807 < i) :
  Calls Tryz.prog 144 #[v, .int .i64 i] w fun e w' => e = .returned (.int .u64 ((if i < 0 then 0 else l.getD i.toNat 0 : Nat) : Int)) ∧ w' = w := by
 obtain ⟨okl, A, ca, rfl, hlc, hcm, hA⟩ := hd.open_
 have HA := Lib.hid hA
 clear hA hd
 obtain ⟨n, hn⟩ : ∃ n, l.length = n := ⟨_, rfl⟩
 rw [hn] at hlc ⊢
 have HN := Lib.hid hn
 clear hn
 by_cases h0 : i < 0
 ·go_enter Tryz.func144, Tryz.ntmps144
  go_wp2_with fail
  go_ret
  exact ⟨by simp, rfl⟩
 obtain ⟨k, rfl⟩ : ∃ k : Nat, i = k := ⟨i.toNat, by omega⟩
 have hx := dig_cell HA.out HN.out (Below.refl _ _) k _ rfl
 rw [show (if (k : Int) < 0 then 0 else l.getD (k : Int).toNat 0 : Nat) = l.getD k 0 by rw [if_neg (by omega)]; rfl]
 have hok := okl.getD k
 clear okl h0
 generalize l.getD k 0 = x at *
 rcases hx with ⟨h1, b, off, rfl, hb, hc⟩ | ⟨h1, hx⟩
 ·clear hi hi'
  go_enter Tryz.func144, Tryz.ntmps144
  go_wp2_with fail
  go_ret
  exact ⟨rfl, rfl⟩
 ·subst hx
  clear hok
  go_enter Tryz.func144, Tryz.ntmps144
  go_wp2_with fail
  go_ret
  exact ⟨rfl, rfl⟩

set_option maxRecDepth 1000000 in
set_option maxHeartbeats 1000000 in
theorem shift (w : World) (va : Value) (a k s : Nat) (ha : NatAt w va a) (la : a < 2 ^ k) (hk : k ≤ 70368744177664) (hs : s ≤ 31) :
  Calls Tryz.prog 143 #[va, .int .i64 (s : Int)] w fun e w' => ∃ v', e = .returned v' ∧ NatAt w' v' (a * 2 ^ s) ∧ Below w.heap.size w w' := by
 obtain ⟨l, dl, tl, rfl⟩ := ha
 have ll := tl.length_le la
 clear la tl
 obtain ⟨okl, A, ca, rfl, hlc, hcm, hA⟩ := dl.open_
 clear dl
 have HA := Lib.hid hA
 clear hA
 have HO := Lib.hid okl
 clear okl
 obtain ⟨n, hn⟩ : ∃ n, l.length = n := ⟨_, rfl⟩
 rw [hn] at hlc ll ⊢
 have HN := Lib.hid hn
 clear hn
 obtain ⟨i0, hi, hz0, hz1, hz2⟩ := info_parts infoU32
 obtain ⟨N, hN1, hN2⟩ : ∃ N : Nat, n + 1 ≤ N ∧ N ≤ n + 1 := ⟨n + 1, Nat.le_refl _, Nat.le_refl _⟩
 go_enter Tryz.func143, Tryz.ntmps143
 go_wp2_with (at_make; refine wpList_make_blk rfl _ _ 25 rfl 154 i0 (.int .u32 0) 4 Tryz.underlying25 hi hz0 hz1 hz2 rfl .i64 .i64 _ _ N rfl rfl (by omega) (by omega) (by omega) (by unfold maxLen; omega) ?_)
 intro w1 hblk hbel
 go_wp2_with fail
 go_loopw [14] (fun i wr => ∃ (k : Nat) (o : List Nat), i = .int .i64 k ∧ k ≤ n ∧ ShiftTo l o s k ∧ DB wr w.heap.size o ∧ Below w.heap.size w wr)
   (fun i _ => n - (intOf i).toNat)
 case atStart => exact ⟨0, List.replicate (l.length + 1) 0, rfl, by omega, ShiftTo.start l s, DB.of_blk (e := 154) (by rw [HN.out, show n + 1 = N by omega]; simpa [dg] using hblk), hbel⟩
 case round =>
  obtain ⟨k, o, rfl, hk, hs', hdb, hbel⟩ := hrel
  have ho := hs'.2.1
  rw [HN.out] at ho
  have HL := Lib.hid ho
  have HS := Lib.hid hs'
  have HDB := Lib.hid hdb
  clear ho hblk hs'
  by_cases hlt : k < n
  ·obtain ⟨x, hx⟩ : ∃ x, l.getD k 0 = x := ⟨_, rfl⟩
   obtain ⟨y, hy⟩ : ∃ y, o.getD k 0 = y := ⟨_, rfl⟩
   have hx0 : x < 4294967296 := by rw [← hx]; exact HO.out.getD k
   have hy0 : y < 4294967296 := by rw [← hy]; exact HS.out.1.getD k
   have hy1 : y < 2 ^ s := by rw [← hy]; exact HS.out.2.2.1
   have HY1 := Lib.hid hy1
   have hk0 : k < o.length := by rw [HL.out]; omega
   have hk1 : k + 1 < o.length := by rw [HL.out]; omega
   have hz := hdb.cell hk0
   rw [hy] at hz
   have hfz := hdb.frozen k
   have hz1 := hdb.cell hk1
   have hfz1 := hdb.frozen (k + 1)
   have hcx := dig_cell HA.out HN.out hbel k x hx
   have step := HS.out.step hs hx hx0 hy (by rw [HN.out]; exact hlt)
   have STEP := Lib.hid step
   have HB2 := Lib.hid hbel
   have HK0 := Lib.hid hk0
   have HK1 := Lib.hid hk1
   clear hx hy hy1 step hbel hdb hk0 hk1
   rcases hcx with ⟨h1, b, off, rfl, hb, hc1⟩ | ⟨h1, hx⟩
   ·go_wp2_with fail
    go_region
    go_wp2_with fail
    have d1 := HDB.out.set HK0.out (shl_or (x := x) hs HY1.out)
    have d2 := (d1.set (k := k + 1) (by simpa using HK1.out) (shr_cast s x hx0)).drewN 1
    exact ⟨⟨k + 1, _, rfl, by omega, STEP.out, d2, ((HB2.out.setCell (p := ⟨w.heap.size, k, none⟩) (Nat.le_refl _) _).setCell (p := ⟨w.heap.size, k + 1, none⟩) (Nat.le_refl _) _).drew⟩, by simp [intOf]; omega⟩
   ·omega
  ·obtain rfl : k = n := by omega
   have hs2 := HS.out
   rw [← HN.out] at hs2
   have hv := hs2.done
   have hd := HDB.out.digAt hs2.1 (n := N) (c := N) (by rw [HL.out]; omega) (Nat.le_refl _) (by omega)
   have HD := Lib.hid hd
   have HV := Lib.hid hv
   have HB2 := Lib.hid hbel
   clear hd hv hbel hdb hs2
   go_wp2_with (go_at_call 64; refine (trimmed _ _ o HD.out (by rw [HL.out]; omega)).mono ?_; rintro e w' ⟨v', rfl, hv, hb⟩)
   go_ret
   rw [HV.out] at hv
   exact ⟨v', rfl, hv, HB2.out.trans (hb.mono HB2.out.size)⟩
theorem wrap_shr (s x y : Nat) (hx : x < 4294967296) (hy : y < 4294967296) : bits .or .u64 (x : Int) ((y : Int) * 4294967296) / 2 ^ s % 4294967296 = (((x + 4294967296 * y) / 2 ^ s % 4294967296 : Nat) : Int) := by
 have e1 : (y : Int) * 4294967296 = ((y * 4294967296 : Nat) : Int) := by omega
 have e2 : bits .or .u64 (x : Int) ((y : Int) * 4294967296) = ((x + 4294967296 * y : Nat) : Int) := by
  rw [e1, u64_or_nat _ _ (by omega) (by omega)]
  congr 1
  rw [Nat.mul_comm]
  exact or_add (s := 32) (by omega)
 rw [e2, Int.natCast_emod, Int.natCast_ediv, Int.natCast_pow]
 rfl

def DownTo (l o : List Nat) (s k : Nat) : Prop := Ok o ∧ o.length = l.length ∧ o.take k = (downs s l).take k
theorem DownTo.start (l : List Nat) (s : Nat) : DownTo l (List.replicate l.length 0) s 0 := ⟨Ok.replicate _, by simp, by simp⟩
theorem DownTo.step {l o : List Nat} {s k x y : Nat} (h : DownTo l o s k) (hx : l.getD k 0 = x) (hy : l.getD (k + 1) 0 = y) (hk : k < l.length) : DownTo l (o.set k ((x + 4294967296 * y) / 2 ^ s % 4294967296)) s (k + 1) := by
 obtain ⟨h1, h2, h3⟩ := h
 refine ⟨h1.set _ _ (Nat.mod_lt _ (by omega)), by simpa using h2, ?_⟩
 rw [take_set_succ _ (by omega), h3, take_succ_get _ (downs_get s l k hk), hx, hy]
theorem DownTo.done {l o : List Nat} {s : Nat} (h : DownTo l o s l.length) (hs : s ≤ 31) (hl : Ok l) : val o = val l / 2 ^ s := by
 obtain ⟨h1, h2, h3⟩ := h
 rw [List.take_of_length_le (by omega), List.take_of_length_le (by rw [downs_length]; exact Nat.le_refl _)] at h3
 rw [h3, downs_val s hs l hl]

set_option maxRecDepth 1000000 in
set_option maxHeartbeats 2000000 in
theorem down (w : World) (va : Value) (a k s : Nat) (ha : NatAt w va a) (la : a < 2 ^ k) (hk : k ≤ 70368744177664) (hs : s ≤ 31) :
  Calls Tryz.prog 146 #[va, .int .i64 (s : Int)] w fun e w' => ∃ v', e = .returned v' ∧ NatAt w' v' (a / 2 ^ s) ∧ Below w.heap.size w w' := by
 obtain ⟨l, dl, tl, rfl⟩ := ha
 have ll := tl.length_le la
 clear la tl
 have DL := Lib.hid dl
 obtain ⟨okl, A, ca, rfl, hlc, hcm, hA⟩ := dl.open_
 clear dl hA
 have HO := Lib.hid okl
 clear okl
 obtain ⟨n, hn⟩ : ∃ n, l.length = n := ⟨_, rfl⟩
 have dig : ∀ (wr : World), Below w.heap.size w wr → ∀ i : Nat, i ≤ n → Calls Tryz.prog 144 #[.slice A n ca, .int .i64 (i : Int)] wr fun e w' => e = .returned (.int .u64 ((l.getD i 0 : Nat) : Int)) ∧ w' = wr := by
  intro wr hb i hi
  have := digit wr _ l (i : Int) (DL.out.below hb) (by omega) (by omega)
  rw [if_neg (by omega), hn] at this
  exact this
 have DIG := Lib.hid dig
 clear dig DL
 rw [hn] at hlc ll ⊢
 have HN := Lib.hid hn
 clear hn
 obtain ⟨i0, hi, hz0, hz1, hz2⟩ := info_parts infoU32
 go_enter Tryz.func146, Tryz.ntmps146
 go_wp2_with (at_make; refine wpList_make_blk rfl _ _ 25 rfl 154 i0 (.int .u32 0) 4 Tryz.underlying25 hi hz0 hz1 hz2 rfl .i64 .i64 _ _ n rfl rfl (by omega) (by omega) (by omega) (by unfold maxLen; omega) ?_)
 intro w1 hblk hbel
 go_wp2_with fail
 go_loopw [12] (fun i wr => ∃ (k : Nat) (o : List Nat), i = .int .i64 k ∧ k ≤ n ∧ DownTo l o s k ∧ DB wr w.heap.size o ∧ Below w.heap.size w wr)
   (fun i _ => n - (intOf i).toNat)
 case atStart => exact ⟨0, List.replicate l.length 0, rfl, by omega, DownTo.start l s, DB.of_blk (e := 154) (by rw [HN.out]; simpa [dg] using hblk), hbel⟩
 case round =>
  obtain ⟨k, o, rfl, hk, hs', hdb, hbel⟩ := hrel
  have ho := hs'.2.1
  rw [HN.out] at ho
  have HL := Lib.hid ho
  have HS := Lib.hid hs'
  have HDB := Lib.hid hdb
  clear ho hblk hs'
  by_cases hlt : k < n
  ·have c0 := DIG.out wr hbel k (by omega)
   have c1 := DIG.out wr hbel (k + 1) (by omega)
   obtain ⟨x, hx⟩ : ∃ x, l.getD k 0 = x := ⟨_, rfl⟩
   obtain ⟨y, hy⟩ : ∃ y, l.getD (k + 1) 0 = y := ⟨_, rfl⟩
   have hx0 : x < 4294967296 := by rw [← hx]; exact HO.out.getD k
   have hy0 : y < 4294967296 := by rw [← hy]; exact HO.out.getD (k + 1)
   rw [hx] at c0
   rw [hy, show ((k + 1 : Nat) : Int) = (k : Int) + 1 by omega] at c1
   have C0 := Lib.hid c0
   have C1 := Lib.hid c1
   clear c0 c1
   have hk0 : k < o.length := by rw [HL.out]; omega
   have hz := hdb.cell hk0
   have hfz := hdb.frozen k
   have step := HS.out.step (k := k) hx hy (by rw [HN.out]; exact hlt)
   have STEP := Lib.hid step
   have HB2 := Lib.hid hbel
   have HK0 := Lib.hid hk0
   clear hx hy step hbel hdb hk0
   go_wp2_with fail
   refine C0.out.mono ?_
   rintro e w' ⟨rfl, rfl⟩
   go_wp2_with fail
   refine C1.out.mono ?_
   rintro e w' ⟨rfl, rfl⟩
   go_wp2_with fail
   exact ⟨⟨k + 1, _, rfl, by omega, STEP.out, HDB.out.set HK0.out (wrap_shr s x y hx0 hy0), HB2.out.setCell (p := ⟨w.heap.size, k, none⟩) (Nat.le_refl _) _⟩, by simp [intOf]; omega⟩
  ·obtain rfl : k = n := by omega
   have hs2 := HS.out
   rw [← HN.out] at hs2
   have hv := hs2.done hs HO.out
   have hd := HDB.out.digAt hs2.1 (n := k) (c := k) (by rw [HL.out]) (Nat.le_refl _) (by omega)
   have HD := Lib.hid hd
   have HV := Lib.hid hv
   have HB2 := Lib.hid hbel
   clear hd hv hbel hdb hs2
   go_wp2_with (go_at_call 64; refine (trimmed _ _ o HD.out (by rw [HL.out]; omega)).mono ?_; rintro e w' ⟨v', rfl, hv, hb⟩)
   go_ret
   rw [HV.out] at hv
   exact ⟨v', rfl, hv, HB2.out.trans (hb.mono HB2.out.size)⟩

set_option maxRecDepth 1000000 in
set_option maxHeartbeats 1000000 in
theorem shifted (w : World) (va : Value) (a k d : Nat) (ha : NatAt w va a) (la : a < 2 ^ k) (hk : k ≤ 70368744177664) (hd : d ≤ 4398046511104) :
  Calls Tryz.prog 145 #[va, .int .i64 (d : Int)] w fun e w' => ∃ v', e = .returned v' ∧ NatAt w' v' (a * 4294967296 ^ d) ∧ Below w.heap.size w w' := by
 obtain ⟨l, dl, tl, rfl⟩ := ha
 have ll := tl.length_le la
 clear la
 have DL := Lib.hid dl
 obtain ⟨okl, A, ca, rfl, hlc, hcm, hA⟩ := dl.open_
 clear dl hA
 have HO := Lib.hid okl
 have HT := Lib.hid tl
 clear okl tl
 obtain ⟨n, hn⟩ : ∃ n, l.length = n := ⟨_, rfl⟩
 rw [hn] at hlc ll ⊢
 have HN := Lib.hid hn
 clear hn
 obtain ⟨i0, hi, hz0, hz1, hz2⟩ := info_parts infoU32
 rcases Nat.eq_zero_or_pos n with h0 | h0
 ·subst h0
  go_enter Tryz.func145, Tryz.ntmps145
  go_wp2_with fail
  go_ret
  have hl : l = [] := by simpa using HN.out
  subst hl
  exact ⟨_, rfl, by simpa [val] using NatAt.nil_ w, Below.refl _ _⟩
 ·have h0' : ((n : Int) == 0) = false := by simp; omega
  have DLN := DL.out.1
  rw [HN.out] at DLN
  have DN := Lib.hid DLN
  clear DLN
  go_enter Tryz.func145, Tryz.ntmps145
  go_wp2_with (at_make; refine wpList_make_blk rfl _ _ 95 rfl 154 i0 (.int .u32 0) 4 Tryz.underlying95 hi hz0 hz1 hz2 rfl .i64 .i64 _ _ d rfl rfl (by omega) (by omega) (by omega) (by unfold maxLen; omega) ?_)
  intro w1 hblk hbel
  have hown := hblk.own (base := w.heap.size) (sz := 1) (n := d) (Nat.le_refl _) (by simp) (by unfold maxLen; omega)
  have hsl := DN.out.below hbel
  have HW := Lib.hid hown
  have HSL := Lib.hid hsl
  have HB2 := Lib.hid hbel
  clear hblk hown hsl hbel
  go_wp2_with (at_builtin; refine wpList_append_sl rfl _ _ 95 rfl w.heap.size 154 i0 (.int .u32 0) 1 4 Tryz.underlying95 hi hz0 hz1 hz2 rfl (by decide) _ _ _ rfl HW.out _ n (l.map dg) rfl HSL.out (dg_one l) ?c1 ?c2 ?c3 ?_)
  case c1 => unfold maxLen; omega
  case c2 => omega
  case c3 => exact HB2.out.size
  intro v' w2 hown2 hgrow _
  have hb2 := HB2.out.grown hgrow HB2.out.size (by intro k hk; simp [Value.ownBlock] at hk; omega)
  have HW2 := Lib.hid (Sl.of_own hown2)
  have HB3 := Lib.hid hb2
  clear hown2 hgrow hb2
  go_wp2_with fail
  go_ret
  refine ⟨v', rfl, ⟨List.replicate d 0 ++ l, ⟨?_, Ok.append.2 ⟨Ok.replicate _, HO.out⟩⟩, ?_, ?_⟩, HB3.out⟩
  ·have := HW2.out
   simpa [dg, HN.out] using this
  ·have hl : l ≠ [] := fun e => by have := HN.out; rw [e] at this; simp at this; omega
   have := HT.out
   unfold Trim at this ⊢
   rw [List.getLast?_append]
   cases h : l.getLast? with
   | none => exact absurd (List.getLast?_eq_none_iff.1 h) hl
   | some x => rw [h] at this; simpa using this
  ·rw [val_append, val_replicate, List.length_replicate, Nat.zero_add, Nat.mul_comm]
def AddTo (l m o : List Nat) (k c : Nat) : Prop := Ok o ∧ c ≤ 1 ∧ val (o.take k) + 4294967296 ^ k * c = val (l.take k) + val (m.take k)

theorem AddTo.step {l m o : List Nat} {k c x y : Nat} (h : AddTo l m o k c) (hx : l.getD k 0 = x) (hy : m.getD k 0 = y) (xl : x < 4294967296) (yl : y < 4294967296) (hk : k < o.length) :
  AddTo l m (o.set k ((c + x + y) % 4294967296)) (k + 1) ((c + x + y) / 4294967296) := by
 obtain ⟨h1, h2, h3⟩ := h
 refine ⟨h1.set _ _ (Nat.mod_lt _ (by omega)), by omega, ?_⟩
 rw [take_set_succ o hk, val_snoc, val_take_succ, val_take_succ, hx, hy, List.length_take, Nat.min_eq_left (by omega)]
 have e := Nat.div_add_mod (c + x + y) 4294967296
 generalize (c + x + y) / 4294967296 = q at *
 generalize (c + x + y) % 4294967296 = r at *
 have e2 : 4294967296 ^ k * (c + x + y) = 4294967296 ^ k * (4294967296 * q + r) := by rw [e]
 rw [Nat.pow_succ]
 grind

theorem AddTo.done {l m o : List Nat} {k c : Nat} (h : AddTo l m o k c) (hl : Ok l) (hm : Ok m) (ho : o.length = k) (h1 : l.length + 1 ≤ k) (h2 : m.length + 1 ≤ k) : val o = val l + val m := by
 obtain ⟨_, _, h3⟩ := h
 rw [val_take_all (by omega), val_take_all (by omega), val_take_all (by omega)] at h3
 have a1 := val_lt l hl
 have a2 := val_lt m hm
 have a3 : 4294967296 ^ l.length ≤ 4294967296 ^ (k - 1) := Nat.pow_le_pow_right (by omega) (by omega)
 have a4 : 4294967296 ^ m.length ≤ 4294967296 ^ (k - 1) := Nat.pow_le_pow_right (by omega) (by omega)
 have a5 : 4294967296 ^ k = 4294967296 ^ (k - 1) * 4294967296 := by rw [← Nat.pow_succ]; congr 1; omega
 have a6 : c = 0 := by
  rcases Nat.eq_zero_or_pos c with h | h
  ·exact h
  ·have : 4294967296 ^ k * 1 ≤ 4294967296 ^ k * c := Nat.mul_le_mul_left _ h
   omega
 subst a6
 omega

set_option maxRecDepth 1000000 in
set_option maxHeartbeats 1000000 in
theorem add (w : World) (va vb : Value) (a b k : Nat) (ha : NatAt w va a) (hb : NatAt w vb b) (la : a < 2 ^ k) (lb : b < 2 ^ k) (hk : k ≤ 70368744177664) :
  Calls Tryz.prog 76 #[va, vb] w fun e w' => ∃ v', e = .returned v' ∧ NatAt w' v' (a + b) ∧ Below w.heap.size w w' := by
 obtain ⟨l, dl, tl, rfl⟩ := ha
 obtain ⟨m, dm, tm, rfl⟩ := hb
 have ll := tl.length_le la
 have lm := tm.length_le lb
 clear la lb tl tm
 obtain ⟨okl, A, ca, rfl, hlc, hcm, hA⟩ := dl.open_
 obtain ⟨okm, B, cb, rfl, hmc, hcm', hB⟩ := dm.open_
 clear dl dm
 have HA := Lib.hid hA
 have HB := Lib.hid hB
 clear hA hB
 have HO := Lib.hid okl
 have HP := Lib.hid okm
 clear okl okm
 obtain ⟨n, hn⟩ : ∃ n, l.length = n := ⟨_, rfl⟩
 obtain ⟨p, hp⟩ : ∃ p, m.length = p := ⟨_, rfl⟩
 rw [hn] at hlc ll ⊢
 rw [hp] at hmc lm ⊢
 have HN := Lib.hid hn
 have HQ := Lib.hid hp
 clear hn hp
 obtain ⟨i0, hi, hz0, hz1, hz2⟩ := info_parts infoU32
 obtain ⟨N, hN1, hN2, hN3⟩ : ∃ N : Nat, n + 1 ≤ N ∧ p + 1 ≤ N ∧ (N ≤ n + 1 ∨ N ≤ p + 1) := ⟨max n p + 1, by omega, by omega, by omega⟩
 go_enter Tryz.func76, Tryz.ntmps76
 go_wp2_with (at_make; refine wpList_make_blk rfl _ _ 25 rfl 154 i0 (.int .u32 0) 4 Tryz.underlying25 hi hz0 hz1 hz2 rfl .i64 .i64 _ _ N rfl rfl (by omega) (by omega) (by omega) (by unfold maxLen; omega) ?_)
 all_goals
  intro w1 hblk hbel
  go_wp2_with fail
  go_loopw [6, 17] (fun c i wr => ∃ (k cc : Nat) (o : List Nat), i = .int .i64 k ∧ c = .int .u64 cc ∧ k ≤ N ∧ o.length = N ∧ AddTo l m o k cc ∧ Blk wr w.heap.size 154 (o.map dg) ∧ Below w.heap.size w wr)
   (fun _ i _ => N - (intOf i).toNat)
  case atStart => exact ⟨0, 0, List.replicate N 0, rfl, rfl, by omega, by simp, ⟨Ok.replicate _, by omega, by simp [val]⟩, by simpa [dg] using hblk, hbel⟩
  case round =>
   clear hblk hbel
   obtain ⟨k, cc, o, rfl, rfl, hk, ho, ha, hblk, hbel⟩ := hrel
   have HL := Lib.hid ho
   clear ho
   have hcc := ha.2.1
   have HK := Lib.hid ha
   have HG := Lib.hid hblk
   clear ha
   by_cases hlt : k < N
   ·obtain ⟨x, hx⟩ : ∃ x, l.getD k 0 = x := ⟨_, rfl⟩
    obtain ⟨y, hy⟩ : ∃ y, m.getD k 0 = y := ⟨_, rfl⟩
    have hx0 : x < 4294967296 := by rw [← hx]; exact HO.out.getD k
    have hy0 : y < 4294967296 := by rw [← hy]; exact HP.out.getD k
    have hz := HG.out.cellDig (k := k) (by rw [HL.out]; exact hlt)
    have hfz := HG.out.frozen k
    have step := HK.out.step hx hy hx0 hy0 (by rw [HL.out]; exact hlt)
    have STEP := Lib.hid step
    have hcx := dig_cell HA.out HN.out hbel k x hx
    have hcy := dig_cell HB.out HQ.out hbel k y hy
    have HB2 := Lib.hid hbel
    clear hx hy step hblk hbel
    rcases hcx with ⟨h1, b, off, rfl, hb, hc1⟩ | ⟨h1, hx⟩ <;> rcases hcy with ⟨h2, b', off', rfl, hb', hc2⟩ | ⟨h2, hy⟩
    all_goals
     (go_wp2_with fail) <;> exact ⟨⟨k + 1, (cc + x + y) / 4294967296, o.set k ((cc + x + y) % 4294967296), int_eq (by omega), int_eq (by omega), by omega, by rw [List.length_set]; exact HL.out, STEP.out, HG.out.setDig (by omega), HB2.out.setCell (p := ⟨w.heap.size, k, none⟩) (Nat.le_refl _) _⟩, by simp [intOf]; omega⟩
   ·obtain rfl : k = N := by omega
    have hd := HG.out.digAt HK.out.1 HL.out (Nat.le_refl _) (by omega)
    have hv := HK.out.done HO.out HP.out HL.out (by rw [HN.out]; omega) (by rw [HQ.out]; omega)
    have HD := Lib.hid hd
    have HV := Lib.hid hv
    have HB2 := Lib.hid hbel
    clear hd hv hbel hblk
    go_wp2_with (go_at_call 64; refine (trimmed _ _ o HD.out (by rw [HL.out]; omega)).mono ?_; rintro e w' ⟨v', rfl, hv, hb⟩)
    go_ret
    rw [HV.out] at hv
    exact ⟨v', rfl, hv, HB2.out.trans (hb.mono HB2.out.size)⟩
theorem val_set {o : List Nat} {k d : Nat} (r : Nat) (h : o[k]? = some d) : val (o.set k r) + 4294967296 ^ k * d = val o + 4294967296 ^ k * r := by
 induction o generalizing k with
 | nil => simp at h
 | cons x o ih =>
  cases k with
  | zero => simp at h; subst h; simp [val]; omega
  | succ k =>
   simp at h
   have := ih h
   simp only [List.set_cons_succ, val, Nat.pow_succ]
   generalize 4294967296 ^ k = z at *
   grind

def RowsTo (l m o : List Nat) (i : Nat) : Prop := Ok o ∧ o.length = l.length + m.length ∧ val (o.take (i + m.length)) = val (l.take i) * val m
def RowTo (l m o : List Nat) (i x j c : Nat) : Prop := Ok o ∧ o.length = l.length + m.length ∧ c < 4294967296 ∧
 val (o.take (i + m.length)) + 4294967296 ^ (i + j) * c = val (l.take i) * val m + 4294967296 ^ i * x * val (m.take j)

theorem RowsTo.start (l m : List Nat) : RowsTo l m (List.replicate (l.length + m.length) 0) 0 :=
 ⟨Ok.replicate _, by simp, by rw [List.take_replicate, val_replicate]; simp [val]⟩
theorem RowsTo.row {l m o : List Nat} {i : Nat} (h : RowsTo l m o i) (x : Nat) : RowTo l m o i x 0 0 :=
 ⟨h.1, h.2.1, by omega, by rw [h.2.2]; simp [val]⟩
theorem mul_bound {x y : Nat} (hx : x < 4294967296) (hy : y < 4294967296) : x * y ≤ 18446744065119617025 := by
 have : x * y ≤ 4294967295 * 4294967295 := Nat.mul_le_mul (by omega) (by omega)
 omega
theorem RowTo.step {l m o : List Nat} {i x j c y d : Nat} (h : RowTo l m o i x j c) (hx : x < 4294967296) (hd : o.getD (i + j) 0 = d) (hy : m.getD j 0 = y) (hy' : y < 4294967296) (hi : i < l.length) (hj : j < m.length) :
  RowTo l m (o.set (i + j) ((c + (x * y + d)) % 4294967296)) i x (j + 1) ((c + (x * y + d)) / 4294967296) := by
 obtain ⟨h1, h2, h3, h4⟩ := h
 have hk : i + j < o.length := by omega
 have hd' : o[i + j]? = some d := by
  rw [← hd, List.getD_eq_getElem?_getD, List.getElem?_eq_getElem hk]; rfl
 have hdl := h1.get hd'
 have hxy := mul_bound hx hy'
 refine ⟨h1.set _ _ (Nat.mod_lt _ (by omega)), by simpa using h2, by omega, ?_⟩
 rw [List.take_set]
 have e1 := val_set ((c + (x * y + d)) % 4294967296) (o := o.take (i + m.length)) (k := i + j) (d := d) (by rw [List.getElem?_take_of_lt (by omega)]; exact hd')
 have e2 := Nat.div_add_mod (c + (x * y + d)) 4294967296
 rw [val_take_succ, hy]
 have e3 : 4294967296 ^ (i + (j + 1)) = 4294967296 ^ (i + j) * 4294967296 := by rw [← Nat.add_assoc, Nat.pow_succ]
 have e4 : 4294967296 ^ (i + j) = 4294967296 ^ i * 4294967296 ^ j := Nat.pow_add _ _ _
 have e5 : 4294967296 ^ (i + j) * (c + (x * y + d)) = 4294967296 ^ (i + j) * (4294967296 * ((c + (x * y + d)) / 4294967296) + (c + (x * y + d)) % 4294967296) := by rw [e2]
 rw [e3]
 generalize (c + (x * y + d)) / 4294967296 = q at *
 generalize (c + (x * y + d)) % 4294967296 = r at *
 generalize val ((List.take (i + m.length) o).set (i + j) r) = V at *
 generalize val (List.take (i + m.length) o) = W at *
 generalize val (List.take i l) * val m = U at *
 generalize val (List.take j m) = M at *
 rw [e4] at *
 generalize 4294967296 ^ i = z at *
 generalize 4294967296 ^ j = t at *
 clear h1 h2 h3 hk hd hd' hdl hxy hy hy' hi hj e3 e4 e2
 grind
theorem RowTo.done {l m o : List Nat} {i x c : Nat} (h : RowTo l m o i x m.length c) (hx : l.getD i 0 = x) (hi : i < l.length) : RowsTo l m (o.set (i + m.length) c) (i + 1) := by
 obtain ⟨h1, h2, h3, h4⟩ := h
 refine ⟨h1.set _ _ h3, by simpa using h2, ?_⟩
 rw [show i + 1 + m.length = i + m.length + 1 by omega, take_set_succ o (by omega), val_snoc, List.length_take, Nat.min_eq_left (by omega), h4, val_take_all (Nat.le_refl _), val_take_succ, hx, Nat.add_mul]
theorem RowsTo.done {l m o : List Nat} (h : RowsTo l m o l.length) : val o = val l * val m := by
 obtain ⟨h1, h2, h3⟩ := h
 rw [val_take_all (by omega), val_take_all (Nat.le_refl _)] at h3
 exact h3

theorem cast_mac (c x y d : Nat) : (c : Int) + ((x : Int) * (y : Int) + (d : Int)) = ((c + (x * y + d) : Nat) : Int) := by simp only [Int.natCast_add, Int.natCast_mul]
theorem cast_div (c x y d : Nat) : ((c : Int) + ((x : Int) * (y : Int) + (d : Int))) / 4294967296 = (((c + (x * y + d)) / 4294967296 : Nat) : Int) := by
 rw [cast_mac]
 omega
theorem cast_mod (c x y d : Nat) : ((c : Int) + ((x : Int) * (y : Int) + (d : Int))) % 4294967296 = (((c + (x * y + d)) % 4294967296 : Nat) : Int) := by
 rw [cast_mac]
 omega

set_option maxRecDepth 1000000 in
set_option maxHeartbeats 2000000 in
theorem mul (w : World) (va vb : Value) (a b ka kb : Nat) (ha : NatAt w va a) (hb : NatAt w vb b) (la : a < 2 ^ ka) (lb : b < 2 ^ kb) (hka : ka ≤ 70368744177664) (hkb : kb ≤ 70368744177664) :
  Calls Tryz.prog 75 #[va, vb] w fun e w' => ∃ v', e = .returned v' ∧ NatAt w' v' (a * b) ∧ Below w.heap.size w w' := by
 obtain ⟨l, dl, tl, rfl⟩ := ha
 obtain ⟨m, dm, tm, rfl⟩ := hb
 have ll := tl.length_le la
 have lm := tm.length_le lb
 clear la lb tl tm
 obtain ⟨okl, A, ca, rfl, hlc, hcm, hA⟩ := dl.open_
 obtain ⟨okm, B, cb, rfl, hmc, hcm', hB⟩ := dm.open_
 clear dl dm
 have HA := Lib.hid hA
 have HB := Lib.hid hB
 clear hA hB
 have HO := Lib.hid okl
 have HP := Lib.hid okm
 clear okl okm
 obtain ⟨n, hn⟩ : ∃ n, l.length = n := ⟨_, rfl⟩
 obtain ⟨p, hp⟩ : ∃ p, m.length = p := ⟨_, rfl⟩
 rw [hn] at hlc ll ⊢
 rw [hp] at hmc lm ⊢
 have start := RowsTo.start l m
 rw [hn, hp] at start
 have HN := Lib.hid hn
 have HQ := Lib.hid hp
 have HST := Lib.hid start
 clear hn hp start
 obtain ⟨i0, hi, hz0, hz1, hz2⟩ := info_parts infoU32
 obtain ⟨N, hN1, hN2⟩ : ∃ N : Nat, n + p ≤ N ∧ N ≤ n + p := ⟨n + p, Nat.le_refl _, Nat.le_refl _⟩
 go_enter Tryz.func75, Tryz.ntmps75
 go_wp2_with (at_make; refine wpList_make_blk rfl _ _ 25 rfl 154 i0 (.int .u32 0) 4 Tryz.underlying25 hi hz0 hz1 hz2 rfl .i64 .i64 _ _ N rfl rfl (by omega) (by omega) (by omega) (by unfold maxLen; omega) ?_)
 intro w1 hblk hbel
 go_wp2_with fail
 go_loopw [19] (fun i wr => ∃ (k : Nat) (o : List Nat), i = .int .i64 k ∧ k ≤ n ∧ RowsTo l m o k ∧ DB wr w.heap.size o ∧ Below w.heap.size w wr)
   (fun i _ => n - (intOf i).toNat)
 case atStart => exact ⟨0, List.replicate (n + p) 0, rfl, by omega, HST.out, DB.of_blk (e := 154) (by rw [show n + p = N by omega]; simpa [dg] using hblk), hbel⟩
 case round =>
  clear hblk hbel
  obtain ⟨k, o, rfl, hk, hr, hdb, hbel⟩ := hrel
  have HR := Lib.hid hr
  have HDB := Lib.hid hdb
  by_cases hlt : k < n
  ·obtain ⟨x, hx⟩ : ∃ x, l.getD k 0 = x := ⟨_, rfl⟩
   have hx0 : x < 4294967296 := by rw [← hx]; exact HO.out.getD k
   have hcx := dig_cell HA.out HN.out hbel k x hx
   have row := HR.out.row x
   have ROW := Lib.hid row
   have HX := Lib.hid hx
   have HB1 := Lib.hid hbel
   clear hx row hbel hdb hr
   rcases hcx with ⟨h1, b, off, rfl, hb, hc1⟩ | ⟨h1, hx⟩
   ·obtain ⟨wo, rfl⟩ : ∃ wo : World, wo = wr := ⟨_, rfl⟩
    go_wp2_with fail
    go_loopw [8, 26] (fun c j wr => ∃ (q cc : Nat) (o' : List Nat), j = .int .i64 q ∧ c = .int .u64 cc ∧ q ≤ p ∧ RowTo l m o' k x q cc ∧ DB wr w.heap.size o' ∧ Below w.heap.size w wr)
     (fun _ j _ => p - (intOf j).toNat)
    case atStart => exact ⟨0, 0, o, rfl, rfl, by omega, ROW.out, HDB.out, HB1.out⟩
    case round =>
     obtain ⟨q, cc, o', rfl, rfl, hq, hr, hdb, hbel⟩ := hrel
     have hcc := hr.2.2.1
     have hlen := hr.2.1
     rw [HN.out, HQ.out] at hlen
     have HLEN := Lib.hid hlen
     have HR' := Lib.hid hr
     have HDB' := Lib.hid hdb
     clear hr hlen hdb
     by_cases hlt' : q < p
     ·obtain ⟨y, hy⟩ : ∃ y, m.getD q 0 = y := ⟨_, rfl⟩
      have hy0 : y < 4294967296 := by rw [← hy]; exact HP.out.getD q
      obtain ⟨d, hd⟩ : ∃ d, o'.getD (k + q) 0 = d := ⟨_, rfl⟩
      have hd0 : d < 4294967296 := by rw [← hd]; exact HR'.out.1.getD _
      have hkq : k + q < o'.length := by rw [HLEN.out]; omega
      have hz := HDB'.out.cell hkq
      rw [hd] at hz
      have hfz := HDB'.out.frozen (k + q)
      have step := HR'.out.step hx0 hd hy hy0 (by rw [HN.out]; omega) (by rw [HQ.out]; omega)
      have STEP := Lib.hid step
      have hcy := dig_cell HB.out HQ.out hbel q y hy
      have HB2 := Lib.hid hbel
      have HKQ := Lib.hid hkq
      have hxy := mul_bound hx0 hy0
      have hxy1 : (x : Int) * (y : Int) ≤ 18446744065119617025 := by
       rw [← Int.natCast_mul]; omega
      have hxy2 : 0 ≤ (x : Int) * (y : Int) := by
       rw [← Int.natCast_mul]; omega
      clear hd hy step hbel hkq hxy
      rcases hcy with ⟨h2, b', off', rfl, hb', hc2⟩ | ⟨h2, hy⟩
      ·go_wp2_with fail
       exact ⟨⟨q + 1, _, _, rfl, int_eq (cast_div _ _ _ _), by omega, STEP.out, HDB'.out.set HKQ.out (cast_mod _ _ _ _), HB2.out.setCell (p := ⟨w.heap.size, _, none⟩) (Nat.le_refl _) _⟩, by simp [intOf]; omega⟩
      ·omega
     ·obtain rfl : q = p := by omega
      have hr2 := HR'.out
      have hx := HX.out
      rw [← HQ.out] at hr2
      have dn := hr2.done hx (by rw [HN.out]; omega)
      rw [HQ.out] at dn
      have hkq : k + q < o'.length := by rw [HLEN.out]; omega
      have hz := HDB'.out.cell hkq
      have hfz := HDB'.out.frozen (k + q)
      have DN := Lib.hid dn
      have HKQ := Lib.hid hkq
      have HB2 := Lib.hid hbel
      clear hr2 hx dn hkq hbel
      go_wp2_with fail
      exact ⟨⟨k + 1, _, rfl, by omega, DN.out, HDB'.out.set HKQ.out (by omega), HB2.out.setCell (p := ⟨w.heap.size, _, none⟩) (Nat.le_refl _) _⟩, by simp [intOf]; omega⟩
   ·omega
  ·obtain rfl : k = n := by omega
   have hr2 := HR.out
   rw [← HN.out] at hr2
   have hv := hr2.done
   have hlen := hr2.2.1
   rw [HN.out, HQ.out] at hlen
   have hd := HDB.out.digAt hr.1 (n := N) (c := N) (by omega) (Nat.le_refl _) (by omega)
   have HD := Lib.hid hd
   have HV := Lib.hid hv
   have HB2 := Lib.hid hbel
   have HLEN := Lib.hid hlen
   clear hd hv hbel hdb hr hr2 hlen
   go_wp2_with (go_at_call 64; refine (trimmed _ _ o HD.out (by rw [HLEN.out]; omega)).mono ?_; rintro e w' ⟨v', rfl, hv, hb⟩)
   go_ret
   rw [HV.out] at hv
   exact ⟨v', rfl, hv, HB2.out.trans (hb.mono HB2.out.size)⟩
theorem drop_div (l : List Nat) (h : Ok l) (k : Nat) : val l / 4294967296 ^ k = val (l.drop k) := by
 rcases Nat.lt_or_ge l.length k with hk | hk
 ·have h1 := val_lt l h
  have h2 : 4294967296 ^ l.length ≤ 4294967296 ^ k := Nat.pow_le_pow_right (by omega) (by omega)
  rw [List.drop_eq_nil_of_le (by omega), Nat.div_eq_of_lt (by omega)]
  rfl
 ·have e := val_take_drop l k hk
  have h1 := val_lt _ (h.take k)
  rw [List.length_take, Nat.min_eq_left hk] at h1
  rw [e, Nat.add_mul_div_left _ _ (Nat.pow_pos (by omega)), Nat.div_eq_of_lt h1]
  omega
theorem drop_split (l : List Nat) (k : Nat) : ∃ t, val (l.drop k) = l.getD k 0 + 4294967296 * t := by
 rcases Nat.lt_or_ge k l.length with hk | hk
 ·refine ⟨val (l.drop (k + 1)), ?_⟩
  rw [List.drop_eq_getElem_cons hk, List.getD_eq_getElem?_getD, List.getElem?_eq_getElem hk]
  rfl
 ·refine ⟨0, ?_⟩
  rw [List.drop_eq_nil_of_le hk, List.getD_eq_getElem?_getD, List.getElem?_eq_none_iff.2 hk]
  rfl
theorem pow_i (k r : Nat) : 2 ^ (32 * k + r) = 4294967296 ^ k * 2 ^ r := by rw [Nat.pow_add, Nat.pow_mul]
theorem two_split {r : Nat} (hr : r < 32) : (4294967296 : Nat) = 2 ^ (r + 1) * 2 ^ (31 - r) := by
 rw [← Nat.pow_add, show r + 1 + (31 - r) = 32 by omega]

theorem bit_val {l : List Nat} (h : Ok l) {k r x : Nat} (hx : l.getD k 0 = x) (hr : r < 32) : val l / 2 ^ (32 * k + r) % 2 = x / 2 ^ r % 2 := by
 obtain ⟨t, ht⟩ := drop_split l k
 rw [pow_i, ← Nat.div_div_eq_div_mul, drop_div l h, ht, hx]
 have e : 4294967296 * t = 2 ^ r * (2 * (2 ^ (31 - r) * t)) := by
  conv => lhs; rw [two_split hr, Nat.pow_succ]
  grind
 rw [e, Nat.add_mul_div_left _ _ (Nat.two_pow_pos r)]
 omega

theorem set_bit {o : List Nat} (h : Ok o) {k r q d : Nat} (hr : r < 32) (hk : k < o.length) (hv : val o = q * 2 ^ (32 * k + r + 1)) (hd : o.getD k 0 = d) :
  d ||| 2 ^ r = d + 2 ^ r ∧ d + 2 ^ r < 4294967296 ∧ val (o.set k (d + 2 ^ r)) = val o + 2 ^ (32 * k + r) := by
 have hdl : d < 4294967296 := by rw [← hd]; exact h.getD k
 obtain ⟨t, ht⟩ := drop_split o k
 have e0 := drop_div o h k
 rw [hd] at ht
 rw [hv, ht, show 32 * k + r + 1 = 32 * k + (r + 1) by omega, pow_i, show q * (4294967296 ^ k * 2 ^ (r + 1)) = 4294967296 ^ k * (q * 2 ^ (r + 1)) by grind, Nat.mul_div_cancel_left _ (Nat.pow_pos (by omega))] at e0
 have hs := two_split hr
 obtain ⟨c, hc⟩ : 2 ^ (r + 1) ∣ d := by
  have h1 : 2 ^ (r + 1) ∣ d + 4294967296 * t := ⟨q, by rw [← e0]; grind⟩
  have h2 : 2 ^ (r + 1) ∣ 4294967296 * t := ⟨2 ^ (31 - r) * t, by
   conv => lhs; rw [hs]
   rw [Nat.mul_assoc]⟩
  exact (Nat.dvd_add_iff_left h2).2 h1
 have hp : 2 ^ r < 2 ^ (r + 1) := Nat.pow_lt_pow_right (by omega) (by omega)
 have hc2 : c < 2 ^ (31 - r) := by
  rcases Nat.lt_or_ge c (2 ^ (31 - r)) with h | h
  ·exact h
  ·have := Nat.mul_le_mul_left (2 ^ (r + 1)) h
   omega
 refine ⟨?_, ?_, ?_⟩
 ·rw [hc, Nat.or_comm, or_add hp, Nat.add_comm]
 ·have := Nat.mul_le_mul_left (2 ^ (r + 1)) (show c + 1 ≤ 2 ^ (31 - r) from hc2)
  rw [Nat.mul_add, Nat.mul_one, ← hs] at this
  omega
 ·have hdk : o[k]? = some d := by rw [← hd, List.getD_eq_getElem?_getD, List.getElem?_eq_getElem hk]; rfl
  have e := val_set (d + 2 ^ r) hdk
  rw [pow_i]
  grind

def BitTo (A b R : Nat) (o : List Nat) (n j : Nat) : Prop := Ok o ∧ o.length = n ∧ val o = A / 2 ^ j / b * 2 ^ j ∧ R = A / 2 ^ j % b
theorem BitTo.start {A b n j : Nat} (hA : A < 2 ^ j) : BitTo A b 0 (List.replicate n 0) n j :=
 ⟨Ok.replicate _, by simp, by rw [val_replicate, Nat.div_eq_of_lt hA]; simp, by rw [Nat.div_eq_of_lt hA]; simp⟩
theorem BitTo.done {A b R n : Nat} {o : List Nat} (h : BitTo A b R o n 0) : val o = A / b ∧ R = A % b := by
 obtain ⟨_, _, h3, h4⟩ := h
 simpa using And.intro h3 h4
theorem half_up (A i : Nat) : A / 2 ^ i = 2 * (A / 2 ^ (i + 1)) + A / 2 ^ i % 2 := by
 have : A / 2 ^ (i + 1) = A / 2 ^ i / 2 := by rw [Nat.pow_succ, Nat.div_div_eq_div_mul]
 omega
theorem BitTo.skip {A b R n i c : Nat} {o : List Nat} (h : BitTo A b R o n (i + 1)) (hc : A / 2 ^ i % 2 = c) (hlt : R + R + c < b) : BitTo A b (R + R + c) o n i := by
 obtain ⟨h1, h2, h3, h4⟩ := h
 have e := half_up A i
 rw [hc] at e
 have e2 := Nat.div_add_mod (A / 2 ^ (i + 1)) b
 generalize A / 2 ^ (i + 1) = X at *
 have e3 : A / 2 ^ i = b * (2 * (X / b)) + (R + R + c) := by rw [e, h4]; grind
 refine ⟨h1, h2, ?_, ?_⟩
 ·rw [e3, Nat.mul_add_div (by omega), Nat.div_eq_of_lt hlt, h3, Nat.pow_succ]
  grind
 ·rw [e3, Nat.mul_add_mod, Nat.mod_eq_of_lt hlt]
theorem BitTo.step {A b R n k r c d : Nat} {o : List Nat} (h : BitTo A b R o n (32 * k + r + 1)) (hr : r < 32) (hk : k < n) (hb : 0 < b) (hc : A / 2 ^ (32 * k + r) % 2 = c) (hge : b ≤ R + R + c) (hd : o.getD k 0 = d) :
  d ||| 2 ^ r = d + 2 ^ r ∧ BitTo A b (R + R + c - b) (o.set k (d + 2 ^ r)) n (32 * k + r) := by
 obtain ⟨h1, h2, h3, h4⟩ := h
 obtain ⟨s1, s2, s3⟩ := set_bit h1 hr (by omega) h3 hd
 refine ⟨s1, h1.set _ _ s2, by simpa using h2, ?_, ?_⟩
 all_goals
  have e := half_up A (32 * k + r)
  rw [hc] at e
  have e2 := Nat.div_add_mod (A / 2 ^ (32 * k + r + 1)) b
  have hR : R < b := by rw [h4]; exact Nat.mod_lt _ hb
  have hlt : R + R + c - b < b := by omega
  generalize A / 2 ^ (32 * k + r + 1) = X at *
  have e3 : A / 2 ^ (32 * k + r) = b * (2 * (X / b) + 1) + (R + R + c - b) := by
   rw [e]
   obtain ⟨T, hT⟩ : ∃ T, R + R + c = b + T := ⟨R + R + c - b, by omega⟩
   rw [hT, Nat.add_sub_cancel_left]
   grind
 ·rw [s3, h3, e3, Nat.mul_add_div (by omega), Nat.div_eq_of_lt hlt, Nat.pow_succ]
  grind
 ·rw [e3, Nat.mul_add_mod, Nat.mod_eq_of_lt hlt]
theorem drop_val {l : List Nat} {k x : Nat} (h : l[k]? = some x) : val (l.drop k) = x + 4294967296 * val (l.drop (k + 1)) := by
 obtain ⟨hk, rfl⟩ := List.getElem?_eq_some_iff.1 h
 rw [List.drop_eq_getElem_cons hk]
 rfl

theorem top_two {l : List Nat} {i : Nat} (hl : Ok l) (h : val l < 4294967296 ^ (i + 2)) : l.getD (i + 1) 0 * 4294967296 + l.getD i 0 = val l / 4294967296 ^ i := by
 have e : val l = val (l.take i) + 4294967296 ^ i * (l.getD i 0 + 4294967296 * l.getD (i + 1) 0 + 4294967296 * 4294967296 * val (l.drop (i + 2))) := by
  rcases Nat.lt_or_ge l.length (i + 2) with hlt | hge
  ·have h1 := val_take_succ l i
   have h2 := val_take_succ l (i + 1)
   rw [val_take_all (k := i + 1 + 1) (by omega)] at h2
   rw [List.drop_eq_nil_of_le (by omega), h2, h1, Nat.pow_succ]
   simp only [val]
   grind
  ·have h0 := val_take_drop l i (by omega)
   have e1 : l[i]? = some (l.getD i 0) := by rw [List.getD_eq_getElem?_getD, List.getElem?_eq_getElem (by omega)]; rfl
   have e2 : l[i + 1]? = some (l.getD (i + 1) 0) := by rw [List.getD_eq_getElem?_getD, List.getElem?_eq_getElem (by omega)]; rfl
   rw [drop_val e1, drop_val e2] at h0
   rw [h0]
   grind
 have hz : val (l.drop (i + 2)) = 0 := by
  rcases Nat.eq_zero_or_pos (val (l.drop (i + 2))) with h0 | h0
  ·exact h0
  ·exfalso
   rw [show i + 2 = i + 1 + 1 by omega, Nat.pow_succ, Nat.pow_succ] at h
   have h3 : 4294967296 ^ i * (4294967296 * 4294967296 * 1) ≤ 4294967296 ^ i * (l.getD i 0 + 4294967296 * l.getD (i + 1) 0 + 4294967296 * 4294967296 * val (l.drop (i + 2))) := Nat.mul_le_mul_left _ (by omega)
   rw [show 4294967296 ^ i * (4294967296 * 4294967296 * 1) = 4294967296 ^ i * 4294967296 * 4294967296 by grind] at h3
   omega
 rw [hz] at e
 have ht := val_lt _ (hl.take i)
 have hp : 4294967296 ^ (l.take i).length ≤ 4294967296 ^ i := Nat.pow_le_pow_right (by omega) (by rw [List.length_take]; omega)
 rw [e, Nat.add_mul_div_left _ _ (Nat.pow_pos (by omega)), Nat.div_eq_of_lt (by omega)]
 omega

def DivTo (V U R : Nat) (o : List Nat) (k : Nat) : Prop := Ok o ∧ k ≤ o.length ∧ val (o.take k) = 0 ∧ V * (4294967296 ^ k * val (o.drop k)) + R = U ∧ R < V * 4294967296 ^ k

theorem DivTo.start {V U m : Nat} (h : U < V * 4294967296 ^ m) : DivTo V U U (List.replicate m 0) m :=
 ⟨Ok.replicate _, by simp, by rw [List.take_replicate, val_replicate], by rw [List.drop_eq_nil_of_le (by simp)]; simp [val], h⟩

theorem DivTo.zero {V U R k : Nat} {o : List Nat} (h : DivTo V U R o (k + 1)) : o[k]? = some 0 ∧ val (o.take k) = 0 := by
 obtain ⟨h1, h2, h3, h4, h5⟩ := h
 rw [val_take_succ] at h3
 have hp : 0 < 4294967296 ^ k := Nat.pow_pos (by omega)
 have h6 : 4294967296 ^ k * o.getD k 0 = 0 := by omega
 have h7 : o.getD k 0 = 0 := by
  rcases Nat.mul_eq_zero.1 h6 with h | h
  ·omega
  ·exact h
 refine ⟨?_, by omega⟩
 rw [← h7, List.getD_eq_getElem?_getD, List.getElem?_eq_getElem (by omega)]; rfl

theorem DivTo.skip {V U R k : Nat} {o : List Nat} (h : DivTo V U R o (k + 1)) (hR : R < V * 4294967296 ^ k) : DivTo V U R o k := by
 obtain ⟨z1, z2⟩ := h.zero
 obtain ⟨h1, h2, h3, h4, h5⟩ := h
 refine ⟨h1, by omega, z2, ?_, hR⟩
 rw [drop_val z1, ← h4, Nat.pow_succ]
 grind

theorem DivTo.step {V U R k q : Nat} {o : List Nat} (h : DivTo V U R o (k + 1)) (hq : q < 4294967296) (h1 : V * q * 4294967296 ^ k ≤ R) (h2 : R < (q + 1) * (V * 4294967296 ^ k)) : DivTo V U (R - V * q * 4294967296 ^ k) (o.set k q) k := by
 obtain ⟨z1, z2⟩ := h.zero
 obtain ⟨h3, h4, h5, h6, h7⟩ := h
 refine ⟨h3.set _ _ hq, by simp; omega, ?_, ?_, ?_⟩
 ·rw [List.take_set_of_le (Nat.le_refl _)]; exact z2
 ·rw [drop_val (x := q) (by rw [List.getElem?_set_self (by omega)]), List.drop_set_of_lt (by omega)]
  obtain ⟨T, hT⟩ : ∃ T, R = V * q * 4294967296 ^ k + T := ⟨R - V * q * 4294967296 ^ k, by omega⟩
  rw [hT, Nat.add_sub_cancel_left, ← h6, hT, Nat.pow_succ]
  grind
 ·have : (q + 1) * (V * 4294967296 ^ k) = V * q * 4294967296 ^ k + V * 4294967296 ^ k := by grind
  omega

theorem DivTo.done {V U R : Nat} {o : List Nat} (h : DivTo V U R o 0) : val o = U / V ∧ R = U % V := by
 obtain ⟨_, _, _, h4, h5⟩ := h
 simp only [Nat.pow_zero, Nat.one_mul, Nat.mul_one, List.drop_zero] at h4 h5
 rw [← h4]
 constructor
 ·rw [Nat.mul_add_div (by omega), Nat.div_eq_of_lt h5, Nat.add_zero]
 ·rw [Nat.mul_add_mod, Nat.mod_eq_of_lt h5]

theorem guess_ok {V R j n vt top : Nat} (hV : vt * 4294967296 ^ n ≤ V) (hvt : 0 < vt) (hR : R < V * 4294967296 ^ (j + 1)) (ht : top = R / 4294967296 ^ (j + n)) :
  R < (min (top / vt) 4294967295 + 1) * (V * 4294967296 ^ j) := by
 have hVp : 0 < V := by
  have : 0 < vt * 4294967296 ^ n := Nat.mul_pos hvt (Nat.pow_pos (by omega))
  omega
 have hp : 0 < V * 4294967296 ^ j := Nat.mul_pos hVp (Nat.pow_pos (by omega))
 have e1 := Nat.lt_div_mul_add (a := R) hp
 have e2 := Nat.div_mul_le_self R (V * 4294967296 ^ j)
 have e3 : R / (V * 4294967296 ^ j) < 4294967296 := by
  rw [Nat.div_lt_iff_lt_mul hp]
  rw [Nat.pow_succ] at hR
  have : 4294967296 * (V * 4294967296 ^ j) = V * (4294967296 ^ j * 4294967296) := by grind
  omega
 generalize R / (V * 4294967296 ^ j) = q at *
 have e4 : q ≤ top / vt := by
  rw [Nat.le_div_iff_mul_le hvt, ht, Nat.le_div_iff_mul_le (Nat.pow_pos (by omega))]
  have h5 : q * (vt * 4294967296 ^ n) * 4294967296 ^ j ≤ q * V * 4294967296 ^ j := Nat.mul_le_mul_right _ (Nat.mul_le_mul_left _ hV)
  rw [Nat.pow_add]
  have h6 : q * vt * (4294967296 ^ j * 4294967296 ^ n) = q * (vt * 4294967296 ^ n) * 4294967296 ^ j := by grind
  have h7 : q * V * 4294967296 ^ j = q * (V * 4294967296 ^ j) := by grind
  omega
 have e5 : q + 1 ≤ min (top / vt) 4294967295 + 1 := by omega
 have e6 : (q + 1) * (V * 4294967296 ^ j) ≤ (min (top / vt) 4294967295 + 1) * (V * 4294967296 ^ j) := Nat.mul_le_mul_right _ e5
 rw [Nat.add_mul, Nat.one_mul] at e6
 omega

theorem div_shift (a b s : Nat) : a * 2 ^ s / (b * 2 ^ s) = a / b ∧ a * 2 ^ s % (b * 2 ^ s) = a % b * 2 ^ s :=
 ⟨Nat.mul_div_mul_right _ _ (Nat.pow_pos (by omega)), Nat.mul_mod_mul_right _ _ _⟩
end Go.Proofs.YtlhankdkhiilkaaGreat
