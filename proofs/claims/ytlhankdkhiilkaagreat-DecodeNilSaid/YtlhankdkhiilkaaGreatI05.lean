/- Lemmas on the way: Shelf, Ref1, Ref2, Ref3, Num, Db, Nat4. -/
import Derived.Shelf.Small.Bits
import Derived.Shelf.Small.Wraps
import Derived.Test.YtlhankdkhiilkaaGreatI03
import Derived.Deep.LoopGhost
set_option linter.unusedSimpArgs false
set_option linter.unusedVariables false
set_option linter.unusedSectionVars false
set_option linter.unnecessarySimpa false
namespace Go.Proofs
open Go.Shelf
def Tryz.lays133_ren : Go.Shelf.Ren := ⟨fun | 133 => 142 | 128 => 118 | n => n, fun | 51 => 154 | 3 => 3 | 4 => 4 | 46 => 168 | 5 => 5 | 9 => 9 | n => n, fun | n => n⟩
theorem Tryz.lays133 : Go.Proofs.Lays.n133 Tryz.prog Tryz.lays133_ren := {
 mixed := by kernel_rfl
 f128 := Tryz.func118.trans (congrArg some (by kernel_rfl))
 f133 := Tryz.func142.trans (congrArg some (by kernel_rfl))
 t3 := Tryz.underlying3
 a3 := Tryz.isAgg3
 z3 := Tryz.sizeOf3
 v3 := Tryz.zeroValue3
 t4 := Tryz.underlying4
 a4 := Tryz.isAgg4
 z4 := Tryz.sizeOf4
 v4 := Tryz.zeroValue4
 t5 := Tryz.underlying5
 a5 := Tryz.isAgg5
 z5 := Tryz.sizeOf5
 v5 := Tryz.zeroValue5
 t9 := Tryz.underlying9
 a9 := Tryz.isAgg9
 z9 := Tryz.sizeOf9
 v9 := Tryz.zeroValue9
 t46 := Tryz.underlying168
 a46 := Tryz.isAgg168
 z46 := Tryz.sizeOf168
 v46 := Tryz.zeroValue168
 t51 := Tryz.underlying154
 a51 := Tryz.isAgg154
 z51 := Tryz.sizeOf154
 v51 := Tryz.zeroValue154 }
theorem Tryz.bits_LeadingZeros32 (x : Int) (w : World) (h0 : 0 ≤ x) (h1 : x ≤ 4294967295) :
  Calls Tryz.prog 142 #[.int .u32 x] w fun e w' => e = .returned (.int .i64 (32 - (Lib.bitLen x.toNat : Int))) ∧ w' = w := Any.bits_LeadingZeros32 Tryz.lays133 x w h0 h1
open Go.RowKit in
def Tryz.lays122_ren : Go.Shelf.Ren := ⟨fun | 122 => 99 | 215 => 134 | n => n, fun | 3 => 3 | 4 => 4 | n => n, fun | n => n⟩
theorem Tryz.lays122 : Go.Proofs.Lays.n122 Tryz.prog Tryz.lays122_ren := {
 mixed := by kernel_rfl
 f122 := Tryz.func99.trans (congrArg some (by kernel_rfl))
 f215 := Tryz.func134.trans (congrArg some (by kernel_rfl))
 t3 := Tryz.underlying3
 a3 := Tryz.isAgg3
 z3 := Tryz.sizeOf3
 v3 := Tryz.zeroValue3
 t4 := Tryz.underlying4
 a4 := Tryz.isAgg4
 z4 := Tryz.sizeOf4
 v4 := Tryz.zeroValue4 }
open Go.RowKit in
theorem Tryz.cmp_Compare_int (x y : Int) (w : World) :
  Calls Tryz.prog 99 #[.int .i64 x, .int .i64 y] w fun e w' => e = .returned (.int .i64 (Lib.compareInt x y)) ∧ w' = w := Any.cmp_Compare_int Tryz.lays122 x y w
end Go.Proofs
namespace Go.Proofs.YtlhankdkhiilkaaGreat
open Go.RowKit
def Head (v v' : Value) : Prop := ∃ A n m c, v = .slice A n c ∧ v' = .slice A m c ∧ m ≤ n
theorem Head.from {v v' : Value} (h : Head v v') {B : Nat} (hf : From v B) : From v' B := by
 obtain ⟨A, n, m, c, rfl, rfl, _⟩ := h
 intro ad n' c' e
 cases e
 exact hf _ _ _ rfl

theorem Trim.of_take {l : List Nat} {k : Nat} (hl : Trim l) (h : TrimTo l k) (hok : Ok l) (ht : Trim (l.take k)) : k = l.length := by
 have := Trim.eq_of_val (hok.take k) hok ht hl h.2
 have h2 := congrArg List.length this
 rw [List.length_take] at h2
 have := h.1
 omega

set_option maxRecDepth 1000000 in
set_option maxHeartbeats 400000 in
theorem trimR (w : World) (v : Value) (l : List Nat) (hd : DigAt w v l) :
  Calls Tryz.prog 100 #[v] w fun e w' => w' = w ∧ ∃ v', e = .returned v' ∧ NatAt w v' (val l) ∧ Head v v' ∧ (Trim l → v' = v) := by
 obtain ⟨hok, A, c, rfl, hlc, hcm, hA⟩ := id hd.open_
 have HD := Lib.hid hd.1
 have HA := Lib.hid hA
 clear hA hd
 have HO := Lib.hid hok
 clear hok
 obtain ⟨n, hn⟩ : ∃ n, l.length = n := ⟨_, rfl⟩
 have HN := Lib.hid hn
 rw [hn] at hlc ⊢
 clear hn
 have HTL : Hid (∀ k, k = l.length → Value.slice A k c = .slice A n c) := Lib.hid (fun k e => by rw [e, HN.out])
 go_enter Tryz.func100, Tryz.ntmps100
 go_wp2_with fail
 go_loop [3] (fun i => ∃ k : Nat, i = .int .i64 k ∧ TrimTo l k ∧ k ≤ n) (fun i => (intOf i).toNat)
 case atStart => exact ⟨n, rfl, HN.out ▸ TrimTo.start l, Nat.le_refl _⟩
 case round =>
  obtain ⟨k, rfl, ht, hk⟩ := hrel
  have HT := Lib.hid ht
  clear ht
  have fin : Trim (l.take k) → NatAt w (.slice A k c) (val l) := by
   intro ht'
   have hlen : (l.take k).length = k := by rw [List.length_take, HN.out]; omega
   refine ⟨l.take k, ⟨?_, HO.out.take k⟩, ht', HT.out.2⟩
   rw [hlen, List.map_take]
   exact (HN.out ▸ HD.out : Sl w 1 (.slice A n c) n (l.map dg)).cutHead hk
  have FIN := Lib.hid fin
  clear fin
  rcases Nat.eq_zero_or_pos k with h0 | h0
  ·subst h0
   go_wp2_with fail
   go_ret
   exact ⟨rfl, _, rfl, FIN.out (by simp [Trim]), ⟨A, n, 0, c, rfl, rfl, by omega⟩, fun h => HTL.out _ (Trim.of_take h HT.out HO.out (by simp [Trim]))⟩
  ·obtain ⟨m, rfl⟩ : ∃ m, k = m + 1 := ⟨k - 1, by omega⟩
   have hm : m < l.length := by rw [HN.out]; omega
   obtain ⟨d, hd⟩ : ∃ d, l[m]? = some d := ⟨_, List.getElem?_eq_getElem hm⟩
   have HDD := Lib.hid hd
   obtain ⟨b, off, rfl, hc⟩ : ∃ b off, A = some ⟨b, off, none⟩ ∧ w.cell? ⟨b, off + m, none⟩ = some (.int .u32 (d : Int)) := by
    rcases HA.out with h | ⟨b, off, h, _, hc⟩
    ·subst h; simp at hm
    ·exact ⟨b, off, h, hc m d hd⟩
   clear hd hm
   by_cases hz : d = 0
   ·subst hz
    go_wp2_with fail
    exact ⟨⟨m, rfl, HT.out.step HDD.out, by omega⟩, by simp [intOf]⟩
   ·have hz' : ((d : Int) == 0) = false := by simpa using hz
    go_wp2_with fail
    go_ret
    exact ⟨rfl, _, rfl, FIN.out (TrimTo.trim HDD.out hz), ⟨_, n, m + 1, c, rfl, rfl, hk⟩, fun h => HTL.out _ (Trim.of_take h HT.out HO.out (TrimTo.trim HDD.out hz))⟩

theorem trimN (w : World) (v : Value) (n : Nat) (h : NatAt w v n) :
  Calls Tryz.prog 100 #[v] w fun e w' => w' = w ∧ e = .returned v := by
 obtain ⟨l, d, t, rfl⟩ := h
 refine (trimR w v l d).mono ?_
 rintro e w' ⟨rfl, v', rfl, _, _, h⟩
 exact ⟨rfl, by rw [h t]⟩
set_option maxRecDepth 1000000 in
set_option maxHeartbeats 1000000 in
theorem orderR (w : World) (va vb : Value) (a b : Nat) (ha : NatAt w va a) (hb : NatAt w vb b) :
  Calls Tryz.prog 137 #[va, vb] w fun e w' => e = .returned (.int .i64 (cmpN a b)) ∧ ∃ k, w' = w.drewN k := by
 have TA : Hid (∀ W, W = w → Calls Tryz.prog 100 #[va] W fun e w' => w' = W ∧ e = .returned va) := Lib.hid (fun W e => by rw [e]; exact trimN w va a ha)
 have TB : Hid (∀ W, W = w → Calls Tryz.prog 100 #[vb] W fun e w' => w' = W ∧ e = .returned vb) := Lib.hid (fun W e => by rw [e]; exact trimN w vb b hb)
 obtain ⟨l, dl, tl, rfl⟩ := ha
 obtain ⟨m, dm, tm, rfl⟩ := hb
 obtain ⟨okl, A, ca, rfl, hlc, hcm, hA⟩ := dl.open_
 obtain ⟨okm, B, cb, rfl, hmc, hcm', hB⟩ := dm.open_
 clear dl dm
 have HA := Lib.hid hA
 have HB := Lib.hid hB
 clear hA hB
 have HO := Lib.hid okl
 have HP := Lib.hid okm
 clear okl okm
 have HT := Lib.hid tl
 have HU := Lib.hid tm
 clear tl tm
 obtain ⟨n, hn⟩ : ∃ n, l.length = n := ⟨_, rfl⟩
 obtain ⟨p, hp⟩ : ∃ p, m.length = p := ⟨_, rfl⟩
 rw [hn] at hlc TA ⊢
 rw [hp] at hmc TB ⊢
 have HN := Lib.hid hn
 have HQ := Lib.hid hp
 clear hn hp
 by_cases hlt : n < p
 ·have hne : ((n : Int) != (p : Int)) = true := by simp; omega
  have hr := cmpN_lt (val_lt_of_length HO.out HU.out (by rw [HN.out, HQ.out]; exact hlt))
  have HR := Lib.hid hr
  clear hr
  go_enter Tryz.func137, Tryz.ntmps137
  go_wp2_with fail
  refine (TA.out _ rfl).mono ?_
  rintro e w1 ⟨hw1, rfl⟩
  cases hw1
  go_wp2_with fail
  refine (TB.out _ rfl).mono ?_
  rintro e w1 ⟨hw1, rfl⟩
  cases hw1
  go_wp2_with fail
  go_ret
  exact ⟨ret_i64 HR.out.symm, 0, rfl⟩
 by_cases hgt : p < n
 ·have hne : ((n : Int) != (p : Int)) = true := by simp; omega
  have hr := cmpN_gt (val_lt_of_length HP.out HT.out (by rw [HN.out, HQ.out]; exact hgt))
  have HR := Lib.hid hr
  clear hr
  go_enter Tryz.func137, Tryz.ntmps137
  go_wp2_with fail
  refine (TA.out _ rfl).mono ?_
  rintro e w1 ⟨hw1, rfl⟩
  cases hw1
  go_wp2_with fail
  refine (TB.out _ rfl).mono ?_
  rintro e w1 ⟨hw1, rfl⟩
  cases hw1
  go_wp2_with fail
  go_ret
  exact ⟨ret_i64 HR.out.symm, 0, rfl⟩
 obtain rfl : n = p := by omega
 clear hlt hgt
 go_enter Tryz.func137, Tryz.ntmps137
 go_wp2_with fail
 refine (TA.out _ rfl).mono ?_
 rintro e w1 ⟨hw1, rfl⟩
 cases hw1
 go_wp2_with fail
 refine (TB.out _ rfl).mono ?_
 rintro e w1 ⟨hw1, rfl⟩
 cases hw1
 go_wp2_with fail
 go_loopw [5] (fun i wr => ∃ q : Int, (∃ d, wr = w.drewN d) ∧ i = .int .i64 q ∧ -1 ≤ q ∧ q < n ∧ l.drop (q + 1).toNat = m.drop (q + 1).toNat) (fun i _ => (intOf i + 1).toNat)
 case atStart =>
  refine ⟨_, ⟨0, rfl⟩, rfl, by omega, by omega, ?_⟩
  rw [List.drop_eq_nil_of_le (by rw [HN.out]; omega), List.drop_eq_nil_of_le (by rw [HQ.out]; omega)]
 case round =>
  obtain ⟨q, ⟨nd, rfl⟩, rfl, hq, hqn, hd⟩ := hrel
  have HD := Lib.hid hd
  clear hd
  by_cases h0 : q = -1
  ·subst h0
   go_wp2_with fail
   go_ret
   have he : l = m := by simpa using HD.out
   exact ⟨ret_i64 (by rw [he, cmpN_eq]), nd, rfl⟩
  ·obtain ⟨k, rfl⟩ : ∃ k : Nat, q = k := ⟨q.toNat, by omega⟩
   clear h0 hq
   have hkl : k < l.length := by rw [HN.out]; omega
   have hkm : k < m.length := by rw [HQ.out]; omega
   obtain ⟨x, hx⟩ : ∃ x, l[k]? = some x := ⟨_, List.getElem?_eq_getElem hkl⟩
   obtain ⟨y, hy⟩ : ∃ y, m[k]? = some y := ⟨_, List.getElem?_eq_getElem hkm⟩
   obtain ⟨b, off, rfl, hc⟩ : ∃ b off, A = some ⟨b, off, none⟩ ∧ w.cell? ⟨b, off + k, none⟩ = some (.int .u32 (x : Int)) := by
    rcases HA.out with h | ⟨b, off, h, _, hc⟩
    ·subst h; simp at hkl
    ·exact ⟨b, off, h, hc k x hx⟩
   obtain ⟨b', off', rfl, hc'⟩ : ∃ b off, B = some ⟨b, off, none⟩ ∧ w.cell? ⟨b, off + k, none⟩ = some (.int .u32 (y : Int)) := by
    rcases HB.out with h | ⟨b, off, h, _, hc⟩
    ·subst h; simp at hkm
    ·exact ⟨b, off, h, hc k y hy⟩
   have HX := Lib.hid hx
   have HY := Lib.hid hy
   clear hx hy hkl hkm
   have hd1 : l.drop (k + 1) = m.drop (k + 1) := by
    have := HD.out
    rwa [show ((k : Int) + 1).toNat = k + 1 by omega] at this
   have HE := Lib.hid hd1
   clear hd1
   rcases Nat.lt_trichotomy x y with h | h | h
   ·have hne : ((x : Int) != (y : Int)) = true := by simp; omega
    have hr := cmpN_lt (val_lt_at HO.out HE.out HX.out HY.out h)
    have HR := Lib.hid hr
    clear hr
    go_wp2_with fail
    go_quiet (fail)
    go_wp2_with fail
    go_quiet (fail)
    go_wp2_with fail
    go_ret
    exact ⟨ret_i64 HR.out.symm, _, by simp only [World.drewN_drewN]; rfl⟩
   ·subst h
    have hne : ((x : Int) != (x : Int)) = false := by simp
    go_wp2_with fail
    go_quiet (fail)
    go_wp2_with fail
    refine ⟨⟨(k : Int) - 1, ⟨_, rfl⟩, rfl, by omega, by omega, ?_⟩, by simp [intOf]⟩
    rw [show ((k : Int) - 1 + 1).toNat = k by omega]
    exact drop_step HX.out HY.out HE.out
   ·have hne : ((x : Int) != (y : Int)) = true := by simp; omega
    have hr := cmpN_gt (val_lt_at HP.out HE.out.symm HY.out HX.out h)
    have HR := Lib.hid hr
    clear hr
    go_wp2_with fail
    go_quiet (fail)
    go_wp2_with fail
    go_quiet (fail)
    go_wp2_with fail
    go_ret
    exact ⟨ret_i64 HR.out.symm, _, by simp only [World.drewN_drewN]; rfl⟩
def PlusTo (l m o : List Nat) (c : Nat) : Prop := Ok o ∧ c ≤ 1 ∧ val o + 4294967296 ^ o.length * c = val (l.take o.length) + val (m.take o.length)
theorem PlusTo.step {l m o : List Nat} {k c x y : Nat} (h : PlusTo l m o c) (ho : o.length = k) (hx : l.getD k 0 = x) (hy : m.getD k 0 = y) (xl : x < 4294967296) (yl : y < 4294967296) :
  PlusTo l m (o ++ [(c + x + y) % 4294967296]) ((c + x + y) / 4294967296) := by
 obtain ⟨h1, h2, h3⟩ := h
 subst ho
 refine ⟨Ok.append.2 ⟨h1, Ok.cons.2 ⟨Nat.mod_lt _ (by omega), Ok.nil⟩⟩, by omega, ?_⟩
 rw [List.length_append, List.length_singleton, val_snoc, val_take_succ, val_take_succ, hx, hy]
 have e := Nat.div_add_mod (c + x + y) 4294967296
 generalize (c + x + y) / 4294967296 = q at *
 generalize (c + x + y) % 4294967296 = r at *
 have e2 : 4294967296 ^ o.length * (c + x + y) = 4294967296 ^ o.length * (4294967296 * q + r) := by rw [e]
 rw [Nat.pow_succ]
 grind
theorem PlusTo.done {l m o : List Nat} (h : PlusTo l m o 0) (h1 : l.length ≤ o.length) (h2 : m.length ≤ o.length) : val o = val l + val m := by
 obtain ⟨_, _, h3⟩ := h
 rw [val_take_all h1, val_take_all h2] at h3
 omega
theorem PlusTo.last {l m o : List Nat} {c N : Nat} (h : PlusTo l m o c) (hl : Ok l) (hm : Ok m) (h1 : l.length ≤ N) (h2 : m.length ≤ N) (ho : o.length = N + 1) : c = 0 := by
 obtain ⟨_, _, h3⟩ := h
 rw [val_take_all (by omega), val_take_all (by omega), ho] at h3
 have a1 := val_lt l hl
 have a2 := val_lt m hm
 have a3 : 4294967296 ^ l.length ≤ 4294967296 ^ N := Nat.pow_le_pow_right (by omega) h1
 have a4 : 4294967296 ^ m.length ≤ 4294967296 ^ N := Nat.pow_le_pow_right (by omega) h2
 have a5 : 4294967296 ^ (N + 1) = 4294967296 ^ N * 4294967296 := Nat.pow_succ ..
 rcases Nat.eq_zero_or_pos c with h | h
 ·exact h
 ·have : 4294967296 ^ (N + 1) * 1 ≤ 4294967296 ^ (N + 1) * c := Nat.mul_le_mul_left _ h
  omega

theorem Sl.one (w : World) (x : Value) (e : TypeId) : Sl (w.alloc (.cells #[x] e)) 1 (.slice (some ⟨w.heap.size, 0, none⟩) 1 1) 1 [x] := by
 have := (Blk.new w e [x]).sl (sz := 1) (n := 1) (c := 1) (by simp) (by omega) (by unfold maxLen; omega)
 simpa using this

theorem PlusTo.grow {w wr w2 : World} {base : Nat} {e : TypeId} {vo : Value} {n : Nat} {xs : List Value} {ob : Obj} (hb : Below base w wr) (ho : wr.ownsRow base e 1 vo n xs) (hg : (wr.alloc ob).grownBy w2 vo.ownBlock) (hw : base ≤ wr.heap.size) : Below base w w2 := by
 refine (hb.alloc hw _).grown hg (by simp; omega) ?_
 intro k hk
 have hf := From.of_own ho
 unfold Value.ownBlock at hk
 split at hk
 ·cases hk; exact hf _ _ _ rfl
 ·cases hk

theorem trimOwn {wr : World} {base : Nat} {e : TypeId} {vo : Value} {k : Nat} {o : List Nat} (h : wr.ownsRow base e 1 vo k (o.map dg)) (hok : Ok o) (hl : o.length = k) :
  ∀ W, W = wr → Calls Tryz.prog 100 #[vo] W fun e w' => w' = W ∧ ∃ v', e = .returned v' ∧ NatAt W v' (val o) ∧ From v' base := fun W e => by
 rw [e]
 refine (trimR wr vo o ⟨by rw [hl]; exact Sl.of_own h, hok⟩).mono ?_
 rintro e w' ⟨h1, v', h2, h3, h4, _⟩
 subst h1
 exact ⟨rfl, v', h2, h3, h4.from (From.of_own h)⟩

set_option maxRecDepth 1000000 in
set_option maxHeartbeats 1000000 in
theorem plusR (w : World) (va vb : Value) (a b k : Nat) (ha : NatAt w va a) (hb : NatAt w vb b) (la : a < 2 ^ k) (lb : b < 2 ^ k) (hk : k ≤ 70368744177664) :
  Calls Tryz.prog 139 #[va, vb] w fun e w' => ∃ v', e = .returned v' ∧ NatAt w' v' (a + b) ∧ Below w.heap.size w w' ∧ From v' w.heap.size := by
 obtain ⟨l, dl, tl, rfl⟩ := ha
 obtain ⟨m, dm, tm, rfl⟩ := hb
 have ll := tl.length_le la
 have lm := tm.length_le lb
 clear la lb tl tm
 obtain ⟨okl, A, ca, rfl, hlc, hcm, hA⟩ := dl.open_
 obtain ⟨okm, B, cb, rfl, hmc, hcm', hB⟩ := dm.open_
 clear dl dm
 have HA := Lib.hid hA
 have HB := Lib.hid hB
 clear hA hB
 have HO := Lib.hid okl
 have HP := Lib.hid okm
 clear okl okm
 obtain ⟨n, hn⟩ : ∃ n, l.length = n := ⟨_, rfl⟩
 obtain ⟨p, hp⟩ : ∃ p, m.length = p := ⟨_, rfl⟩
 rw [hn] at hlc ll ⊢
 rw [hp] at hmc lm ⊢
 have HN := Lib.hid hn
 have HQ := Lib.hid hp
 clear hn hp
 obtain ⟨i0, hi, hz0, hz1, hz2⟩ := info_parts infoU32
 go_enter Tryz.func139, Tryz.ntmps139
 go_wp2_with fail
 obtain ⟨N, hN1, hN2, hN3⟩ : ∃ N : Nat, n ≤ N ∧ p ≤ N ∧ (N ≤ n ∨ N ≤ p) := ⟨max n p, by omega, by omega, by omega⟩
 go_loopg [5, 6, 7] (N + 1) (fun g vo c i wr => ∃ (k cc : Nat) (o : List Nat), i = .int .i64 k ∧ c = .int .u64 cc ∧ k + g = N + 1 ∧ o.length = k ∧ Hid (PlusTo l m o cc) ∧ Hid (wr.ownsRow w.heap.size 154 1 vo k (o.map dg)) ∧ Hid (Below w.heap.size w wr))
 case atStart => exact ⟨0, 0, [], rfl, rfl, by omega, rfl, Lib.hid ⟨Ok.nil, by omega, by simp [val]⟩, Lib.hid (World.ownsRow_nil ..), Lib.hid (Below.refl _ _)⟩
 case round =>
  obtain ⟨k, cc, o, rfl, rfl, hg, ho, HPT, HOW, HBE⟩ := hrel
  have HL := Lib.hid ho
  clear ho
  have hcc := HPT.out.2.1
  obtain ⟨x, hx⟩ : ∃ x, l.getD k 0 = x := ⟨_, rfl⟩
  obtain ⟨y, hy⟩ : ∃ y, m.getD k 0 = y := ⟨_, rfl⟩
  have hx0 : x < 4294967296 := by rw [← hx]; exact HO.out.getD k
  have hy0 : y < 4294967296 := by rw [← hy]; exact HP.out.getD k
  have STEP := Lib.hid (HPT.out.step HL.out hx hy hx0 hy0)
  have hcx := dig_cell HA.out HN.out HBE.out k x hx
  have hcy := dig_cell HB.out HQ.out HBE.out k y hy
  clear hx hy
  rcases hcx with ⟨h1, b, off, rfl, hb, hc1⟩ | ⟨h1, hx⟩
  ·rcases hcy with ⟨h2, b', off', rfl, hb', hc2⟩ | ⟨h2, hy⟩
   ·skip
    go_wp2_with (at_builtin; refine wpList_append_sl rfl _ _ 25 rfl w.heap.size 154 i0 (.int .u32 0) 1 4 Tryz.underlying25 hi hz0 hz1 hz2 rfl (by decide) _ _ _ rfl (HOW.out.alloc _) _ 1 [_] rfl (Sl.one _ _ _) ?c0 ?c1 ?c2 ?c3 ?_)
    case c0 => simp [Value.oneCell']
    case c1 => unfold maxLen; omega
    case c2 => omega
    case c3 => have := HBE.out.size; simp; omega
    intro v2 w2 hown2 hgrow hnb
    have HW2 := Lib.hid hown2
    have HB3 := Lib.hid (PlusTo.grow HBE.out HOW.out hgrow HBE.out.size)
    clear hown2 hgrow hnb
    obtain ⟨g, rfl⟩ : ∃ g, gk = g + 1 := ⟨gk - 1, by omega⟩
    go_wp2_with fail
    go_roundg g
    case measure => omega
    case rel => exact ⟨k + 1, (cc + x + y) / 4294967296, o ++ [(cc + x + y) % 4294967296], rfl, int_eq (by omega), by omega, by simp [HL.out], STEP, Lib.hid (by simpa [dg] using HW2.out), HB3⟩
   ·have HST := STEP
    subst hy
    go_wp2_with (at_builtin; refine wpList_append_sl rfl _ _ 25 rfl w.heap.size 154 i0 (.int .u32 0) 1 4 Tryz.underlying25 hi hz0 hz1 hz2 rfl (by decide) _ _ _ rfl (HOW.out.alloc _) _ 1 [_] rfl (Sl.one _ _ _) ?c0 ?c1 ?c2 ?c3 ?_)
    case c0 => simp [Value.oneCell']
    case c1 => unfold maxLen; omega
    case c2 => omega
    case c3 => have := HBE.out.size; simp; omega
    intro v2 w2 hown2 hgrow hnb
    have HW2 := Lib.hid hown2
    have HB3 := Lib.hid (PlusTo.grow HBE.out HOW.out hgrow HBE.out.size)
    clear hown2 hgrow hnb
    obtain ⟨g, rfl⟩ : ∃ g, gk = g + 1 := ⟨gk - 1, by omega⟩
    go_wp2_with fail
    go_roundg g
    case measure => omega
    case rel => exact ⟨k + 1, (cc + x + 0) / 4294967296, o ++ [(cc + x + 0) % 4294967296], rfl, int_eq (by omega), by omega, by simp [HL.out], HST, Lib.hid (by simpa [dg] using HW2.out), HB3⟩
  ·rcases hcy with ⟨h2, b', off', rfl, hb', hc2⟩ | ⟨h2, hy⟩
   ·have HST := STEP
    subst hx
    go_wp2_with (at_builtin; refine wpList_append_sl rfl _ _ 25 rfl w.heap.size 154 i0 (.int .u32 0) 1 4 Tryz.underlying25 hi hz0 hz1 hz2 rfl (by decide) _ _ _ rfl (HOW.out.alloc _) _ 1 [_] rfl (Sl.one _ _ _) ?c0 ?c1 ?c2 ?c3 ?_)
    case c0 => simp [Value.oneCell']
    case c1 => unfold maxLen; omega
    case c2 => omega
    case c3 => have := HBE.out.size; simp; omega
    intro v2 w2 hown2 hgrow hnb
    have HW2 := Lib.hid hown2
    have HB3 := Lib.hid (PlusTo.grow HBE.out HOW.out hgrow HBE.out.size)
    clear hown2 hgrow hnb
    obtain ⟨g, rfl⟩ : ∃ g, gk = g + 1 := ⟨gk - 1, by omega⟩
    go_wp2_with fail
    go_roundg g
    case measure => omega
    case rel => exact ⟨k + 1, (cc + 0 + y) / 4294967296, o ++ [(cc + 0 + y) % 4294967296], rfl, int_eq (by omega), by omega, by simp [HL.out], HST, Lib.hid (by simpa [dg] using HW2.out), HB3⟩
   ·subst hx
    subst hy
    rcases Nat.eq_zero_or_pos cc with hz | hz
    ·subst hz
     have TR := Lib.hid (trimOwn HOW.out HPT.out.1 HL.out)
     have HV := Lib.hid (HPT.out.done (by rw [HN.out, HL.out]; exact h1) (by rw [HQ.out, HL.out]; exact h2))
     go_wp2_with fail
     refine (TR.out _ rfl).mono ?_
     rintro e w2 ⟨hw2, v', rfl, hv, hf⟩
     cases hw2
     have T2 := Lib.hid hv
     have T3 := Lib.hid hf
     clear hv hf
     go_wp2_with fail
     go_ret
     exact ⟨v', rfl, HV.out ▸ T2.out, HBE.out, T3.out⟩
    ·obtain rfl : cc = 1 := by omega
     have hkN : k ≠ N + 1 := fun e => by
      have := HPT.out.last (N := N) HO.out HP.out (by rw [HN.out]; omega) (by rw [HQ.out]; omega) (by rw [HL.out, e])
      omega
     have HST := STEP
     go_wp2_with (at_builtin; refine wpList_append_sl rfl _ _ 25 rfl w.heap.size 154 i0 (.int .u32 0) 1 4 Tryz.underlying25 hi hz0 hz1 hz2 rfl (by decide) _ _ _ rfl (HOW.out.alloc _) _ 1 [_] rfl (Sl.one _ _ _) ?c0 ?c1 ?c2 ?c3 ?_)
     case c0 => simp [Value.oneCell']
     case c1 => unfold maxLen; omega
     case c2 => omega
     case c3 => have := HBE.out.size; simp; omega
     intro v2 w2 hown2 hgrow hnb
     have HW2 := Lib.hid hown2
     have HB3 := Lib.hid (PlusTo.grow HBE.out HOW.out hgrow HBE.out.size)
     clear hown2 hgrow hnb
     obtain ⟨g, rfl⟩ : ∃ g, gk = g + 1 := ⟨gk - 1, by omega⟩
     go_wp2_with fail
     go_roundg g
     case measure => omega
     case rel => exact ⟨k + 1, (1 + 0 + 0) / 4294967296, o ++ [(1 + 0 + 0) % 4294967296], rfl, int_eq (by omega), by omega, by simp [HL.out], HST, Lib.hid (by simpa [dg] using HW2.out), HB3⟩
def sgn (neg : Bool) (n : Nat) : Int := if neg then -(n : Int) else (n : Int)

theorem sgn_natAbs (neg : Bool) (n : Nat) : (sgn neg n).natAbs = n := by unfold sgn; split <;> simp

theorem sgn_div (neg : Bool) (n g : Nat) (h : g ∣ n) : sgn neg n / (g : Int) = sgn neg (n / g) := by
 unfold sgn
 split
 ·rw [Int.neg_ediv_of_dvd (Int.natCast_dvd_natCast.2 h), Int.natCast_ediv]
 ·rw [Int.natCast_ediv]

theorem red (neg : Bool) (n d : Nat) (hd : 0 < d) : (mkRat (sgn neg n) d).num = sgn neg (n / Nat.gcd n d) ∧ (mkRat (sgn neg n) d).den = d / Nat.gcd n d := by
 rw [Rat.num_mkRat, Rat.den_mkRat, if_neg (by omega), if_neg (by omega), sgn_natAbs, Nat.gcd_comm d n]
 exact ⟨sgn_div _ _ _ (Nat.gcd_dvd_left n d), rfl⟩

def isNeg (q : Rat) : Bool := decide (q.num < 0)

theorem isNeg_sgn {q : Rat} {neg : Bool} {m : Nat} (h : q.num = sgn neg m) : isNeg q = (neg && decide (0 < m)) := by
 unfold isNeg
 rw [h]
 unfold sgn
 cases neg <;> simp <;> omega

theorem num_eq (q : Rat) : q.num = sgn (isNeg q) q.num.natAbs := by
 unfold sgn isNeg
 by_cases h : q.num < 0
 ·simp [h]; omega
 ·simp [h]; omega

theorem isNeg_iff (q : Rat) : isNeg q = true ↔ q < 0 := by
 unfold isNeg
 rw [decide_eq_true_iff, Rat.lt_iff]
 simp

def QB (k : Nat) (q : Rat) : Prop := q.num.natAbs < 2 ^ k ∧ q.den < 2 ^ k

theorem QB.mono {k k' : Nat} {q : Rat} (h : QB k q) (hk : k ≤ k') : QB k' q :=
 ⟨Nat.lt_of_lt_of_le h.1 (Nat.pow_le_pow_right (by omega) hk), Nat.lt_of_lt_of_le h.2 (Nat.pow_le_pow_right (by omega) hk)⟩
theorem QB.neg {k : Nat} {q : Rat} (h : QB k q) : QB k (-q) := by
 refine ⟨?_, h.2⟩
 rw [Rat.neg_num, Int.natAbs_neg]
 exact h.1
theorem QB.red {k n d : Nat} {neg : Bool} (hn : n < 2 ^ k) (hd : d < 2 ^ k) (h0 : 0 < d) : QB k (mkRat (sgn neg n) d) := by
 obtain ⟨h1, h2⟩ := Go.Proofs.YtlhankdkhiilkaaGreat.red neg n d h0
 refine ⟨?_, ?_⟩
 ·rw [h1, sgn_natAbs]; exact Nat.lt_of_le_of_lt (Nat.div_le_self _ _) hn
 ·rw [h2]; exact Nat.lt_of_le_of_lt (Nat.div_le_self _ _) hd
theorem pow_mul_lt {a b j k : Nat} (ha : a < 2 ^ j) (hb : b < 2 ^ k) : a * b < 2 ^ (j + k) := by
 rw [Nat.pow_add]
 exact Nat.mul_lt_mul'' ha hb

theorem add_sgn (a b : Rat) : a + b = mkRat (a.num * b.den + b.num * a.den) (a.den * b.den) := Rat.add_def' a b
theorem mul_sgn (a b : Rat) : a * b = mkRat (sgn (isNeg a != isNeg b) (a.num.natAbs * b.num.natAbs)) (a.den * b.den) := by
 rw [Rat.mul_def']
 congr 1
 conv => lhs; rw [num_eq a, num_eq b]
 unfold sgn
 cases isNeg a <;> cases isNeg b <;> simp [Int.natCast_mul, Int.neg_mul, Int.mul_neg]
theorem add_same (a b : Rat) (h : isNeg a = isNeg b) : a + b = mkRat (sgn (isNeg a) (a.num.natAbs * b.den + b.num.natAbs * a.den)) (a.den * b.den) := by
 rw [add_sgn]
 congr 1
 conv => lhs; rw [num_eq a, num_eq b, ← h]
 unfold sgn
 cases isNeg a <;> simp [Int.natCast_mul, Int.natCast_add, Int.neg_mul] <;> omega
theorem add_less (a b : Rat) (h : isNeg a ≠ isNeg b) (hlt : a.num.natAbs * b.den < b.num.natAbs * a.den) : a + b = mkRat (sgn (isNeg b) (b.num.natAbs * a.den - a.num.natAbs * b.den)) (a.den * b.den) := by
 rw [add_sgn]
 congr 1
 conv => lhs; rw [num_eq a, num_eq b]
 unfold sgn
 cases ha : isNeg a <;> cases hb : isNeg b <;> simp_all [Int.neg_mul] <;> rw [Int.natCast_sub (by omega)] <;> simp [Int.natCast_mul] <;> omega
theorem add_more (a b : Rat) (h : isNeg a ≠ isNeg b) (hlt : b.num.natAbs * a.den ≤ a.num.natAbs * b.den) : a + b = mkRat (sgn (isNeg a) (a.num.natAbs * b.den - b.num.natAbs * a.den)) (a.den * b.den) := by
 rw [add_sgn]
 congr 1
 conv => lhs; rw [num_eq a, num_eq b]
 unfold sgn
 cases ha : isNeg a <;> cases hb : isNeg b <;> simp_all [Int.neg_mul] <;> rw [Int.natCast_sub (by omega)] <;> simp [Int.natCast_mul] <;> omega

theorem QB.mul {j k : Nat} {a b : Rat} (ha : QB j a) (hb : QB k b) : QB (j + k) (a * b) := by
 rw [mul_sgn]
 exact QB.red (pow_mul_lt ha.1 hb.1) (pow_mul_lt ha.2 hb.2) (Nat.mul_pos a.den_pos b.den_pos)
theorem QB.add {j k : Nat} {a b : Rat} (ha : QB j a) (hb : QB k b) : QB (j + k + 1) (a + b) := by
 have h1 := pow_mul_lt ha.1 hb.2
 have h2 := pow_mul_lt hb.1 ha.2
 rw [Nat.add_comm k j] at h2
 have h3 := pow_mul_lt ha.2 hb.2
 have h4 : 2 ^ (j + k + 1) = 2 ^ (j + k) + 2 ^ (j + k) := by rw [Nat.pow_succ]; omega
 have h0 := Nat.mul_pos a.den_pos b.den_pos
 by_cases h : isNeg a = isNeg b
 ·rw [add_same a b h]
  exact QB.red (by omega) (by omega) h0
 ·rcases Nat.lt_or_ge (a.num.natAbs * b.den) (b.num.natAbs * a.den) with h' | h'
  ·rw [add_less a b h h']
   exact QB.red (by omega) (by omega) h0
  ·rw [add_more a b h h']
   exact QB.red (by omega) (by omega) h0
theorem QB.inv {k : Nat} {a : Rat} (ha : QB k a) (hk : 0 < k) : QB k a⁻¹ := by
 refine ⟨?_, ?_⟩
 ·rw [Rat.num_inv, Int.natAbs_mul, Int.natAbs_natCast]
  by_cases h : a.num = 0
  ·rw [h]; simpa using Nat.pow_pos (by omega)
  ·rw [Int.natAbs_sign_of_ne_zero h, Nat.one_mul]; exact ha.2
 ·rw [Rat.den_inv]
  split
  ·exact Nat.one_lt_two_pow (by omega)
  ·exact ha.1
def Dn (E M : Nat) (q : Rat) : Prop := ∃ z : Int, z.natAbs ≤ M ∧ q = mkRat z E
theorem Dn.mono {E M M' : Nat} {q : Rat} (h : Dn E M q) (hm : M ≤ M') : Dn E M' q := by
 obtain ⟨z, h1, h2⟩ := h
 exact ⟨z, by omega, h2⟩
theorem Dn.zero (E M : Nat) : Dn E M 0 := ⟨0, by simp, by simp⟩
theorem Dn.mul {E F M N : Nat} {q r : Rat} (h : Dn E M q) (h' : Dn F N r) : Dn (E * F) (M * N) (q * r) := by
 obtain ⟨z, h1, rfl⟩ := h
 obtain ⟨y, h3, rfl⟩ := h'
 refine ⟨z * y, ?_, Rat.mkRat_mul_mkRat _ _ _ _⟩
 rw [Int.natAbs_mul]
 exact Nat.mul_le_mul h1 h3
theorem Dn.add {E M N : Nat} {q r : Rat} (h : Dn E M q) (h' : Dn E N r) (hE : 0 < E) : Dn E (M + N) (q + r) := by
 obtain ⟨z, h1, rfl⟩ := h
 obtain ⟨y, h3, rfl⟩ := h'
 refine ⟨z + y, by omega, ?_⟩
 rw [Rat.mkRat_add_mkRat _ _ (by omega) (by omega), ← Int.add_mul, Rat.mkRat_mul_right (by omega)]
theorem Dn.qb {E M k : Nat} {q : Rat} (h : Dn E M q) (hE : 0 < E) (h1 : E < 2 ^ k) (h2 : M < 2 ^ k) : QB k q := by
 obtain ⟨z, h3, rfl⟩ := h
 have e : z = sgn (decide (z < 0)) z.natAbs := by
  unfold sgn
  by_cases hz : z < 0
  ·rw [if_pos (by simpa using hz)]
   omega
  ·rw [if_neg (by simpa using hz)]
   omega
 rw [e]
 exact QB.red (by omega) h1 hE
def denP (qs : List Rat) : Nat := qs.foldr (fun q d => q.den * d) 1
theorem denP_pos (qs : List Rat) : 0 < denP qs := by
 induction qs with
 | nil => simp [denP]
 | cons q qs ih => exact Nat.mul_pos q.den_pos ih
theorem den_dvd {qs : List Rat} {q : Rat} (h : q ∈ qs) : q.den ∣ denP qs := by
 induction qs with
 | nil => simp at h
 | cons x qs ih =>
  rcases List.mem_cons.1 h with rfl | h
  ·exact Nat.dvd_mul_right _ _
  ·exact Nat.dvd_trans (ih h) (Nat.dvd_mul_left _ _)
theorem Dn.of_mem {k : Nat} {qs : List Rat} {q : Rat} (h : q ∈ qs) (hq : QB k q) : Dn (denP qs) (denP qs * 2 ^ k) q := by
 obtain ⟨c, hc⟩ := den_dvd h
 have hp := denP_pos qs
 have hc0 : c ≠ 0 := by
  intro e
  rw [e, Nat.mul_zero] at hc
  omega
 refine ⟨c * q.num, ?_, ?_⟩
 ·rw [Int.natAbs_mul, Int.natAbs_natCast]
  exact Nat.mul_le_mul (by rw [hc]; exact Nat.le_mul_of_pos_left _ q.den_pos) (Nat.le_of_lt hq.1)
 ·rw [hc, Nat.mul_comm q.den c, Rat.mkRat_mul_left hc0]
  exact (Rat.mkRat_self q).symm
def SubTo (l m o : List Nat) (k c : Nat) : Prop := Ok o ∧ o.length = l.length ∧ c ≤ 1 ∧ o.drop k = l.drop k ∧ val (o.take k) + val (m.take k) = val (l.take k) + 4294967296 ^ k * c

theorem SubTo.start (l m : List Nat) (h : Ok l) : SubTo l m l 0 0 := ⟨h, rfl, by omega, rfl, by simp [val]⟩

theorem SubTo.at_ {l m o : List Nat} {k c : Nat} (h : SubTo l m o k c) : o.getD k 0 = l.getD k 0 := by
 have := congrArg (fun x => x.getD 0 0) h.2.2.2.1
 simpa [List.getD_eq_getElem?_getD] using this

theorem SubTo.step {l m o : List Nat} {k c x y : Nat} (h : SubTo l m o k c) (hx : o.getD k 0 = x) (hy : m.getD k 0 = y) (xl : x < 4294967296) (yl : y < 4294967296) (hk : k < l.length) :
  SubTo l m (o.set k ((x + 4294967296 - (c + y)) % 4294967296)) (k + 1) (if x < c + y then 1 else 0) := by
 have hx' : l.getD k 0 = x := by rw [← h.at_]; exact hx
 obtain ⟨h1, h2, h3, h4, h5⟩ := h
 refine ⟨h1.set _ _ (Nat.mod_lt _ (by omega)), by simpa using h2, by split <;> omega, ?_, ?_⟩
 ·rw [List.drop_set_of_lt (by omega), ← List.drop_drop, ← List.drop_drop, h4]
 rw [take_set_succ o (by omega), val_snoc, val_take_succ, val_take_succ, hx', hy, List.length_take, Nat.min_eq_left (by omega), Nat.pow_succ]
 split
 ·next hlt =>
  rw [Nat.mod_eq_of_lt (by omega)]
  obtain ⟨r, hr⟩ : ∃ r, x + 4294967296 = c + y + r := ⟨x + 4294967296 - (c + y), by omega⟩
  rw [hr, Nat.add_sub_cancel_left]
  have e2 : 4294967296 ^ k * (x + 4294967296) = 4294967296 ^ k * (c + y + r) := by rw [hr]
  grind
 ·next hlt =>
  obtain ⟨r, hr⟩ : ∃ r, x = c + y + r := ⟨x - (c + y), by omega⟩
  have : (x + 4294967296 - (c + y)) % 4294967296 = r := by omega
  rw [this]
  have e2 : 4294967296 ^ k * x = 4294967296 ^ k * (c + y + r) := by rw [hr]
  grind

theorem SubTo.done {l m o : List Nat} {k c : Nat} (h : SubTo l m o k c) (ho : l.length = k) (hm : m.length ≤ k) (hle : val m ≤ val l) : val o = val l - val m := by
 obtain ⟨h1, h2, _, _, h3⟩ := h
 rw [val_take_all (by omega), val_take_all (by omega), val_take_all (by omega)] at h3
 have a1 := val_lt o h1
 rw [h2, ho] at a1
 rcases Nat.eq_zero_or_pos c with h | h
 ·subst h; omega
 ·have : 4294967296 ^ k * 1 ≤ 4294967296 ^ k * c := Nat.mul_le_mul_left _ h
  omega

theorem length_le_of_val {l m : List Nat} (hl : Ok l) (tm : Trim m) (h : val m ≤ val l) : m.length ≤ l.length := by
 rcases Nat.lt_or_ge l.length m.length with h' | h'
 ·have := val_lt_of_length hl tm h'; omega
 ·exact h'

set_option maxRecDepth 1000000 in
set_option maxHeartbeats 1000000 in
theorem subF (w : World) (va vb : Value) (a b k : Nat) (ha : NatAt w va a) (hb : NatAt w vb b) (la : a < 2 ^ k) (hle : b ≤ a) (hk : k ≤ 70368744177664) :
  Calls Tryz.prog 77 #[va, vb] w fun e w' => ∃ v', e = .returned v' ∧ NatAt w' v' (a - b) ∧ Below w.heap.size w w' ∧ From v' w.heap.size := by
 obtain ⟨l, dl, tl, rfl⟩ := ha
 obtain ⟨m, dm, tm, rfl⟩ := hb
 have ll := tl.length_le la
 have hlen := length_le_of_val dl.2 tm hle
 have HLE := Lib.hid hle
 have DL := Lib.hid dl
 clear la tl hle
 have HO := Lib.hid dl.2
 clear dl
 obtain ⟨okm, B, cb, rfl, hmc, hcm', hB⟩ := dm.open_
 clear dm
 have HB := Lib.hid hB
 clear hB
 have HP := Lib.hid okm
 clear okm
 obtain ⟨n, hn⟩ : ∃ n, l.length = n := ⟨_, rfl⟩
 obtain ⟨p, hp⟩ : ∃ p, m.length = p := ⟨_, rfl⟩
 rw [hn] at ll hlen
 rw [hp] at hmc hlen ⊢
 have HN := Lib.hid hn
 have HQ := Lib.hid hp
 clear hn hp
 have cl : ∀ W, W = w → Calls Tryz.prog 67 #[va] W fun e w' => ∃ v', e = .returned v' ∧ Sl w' 1 v' n (l.map dg) ∧ Below W.heap.size W w' ∧ ∃ base, W.heap.size ≤ base ∧ w'.ownsRow base 154 1 v' n (l.map dg) := by
  intro W hW
  rw [hW]
  have := clone_natural w va l.length (l.map dg) DL.out.1 (dg_one l) (by rw [HN.out]; omega)
  rwa [HN.out] at this
 have CL := Lib.hid cl
 clear cl
 go_enter Tryz.func77, Tryz.ntmps77
 go_wp2_with (go_at_call 67; refine (CL.out _ rfl).mono ?_; rintro e w1 ⟨v1, rfl, hv1, hb1, base, hbase, hown⟩)
 obtain ⟨A, c, rfl, hnc, hcm, hln, hod⟩ := OD.of_own hown
 have HOD := Lib.hid hod
 have HB1 := Lib.hid hb1
 clear hown hv1 hod hb1 hln
 go_wp2_with fail
 go_simp
 go_wp2_with fail
 go_loopw [6, 14] (fun bo i wr => ∃ (k cc : Nat) (o : List Nat), i = .int .i64 k ∧ bo = .int .u64 cc ∧ k ≤ n ∧ SubTo l m o k cc ∧ OD wr base A o ∧ Below w.heap.size w wr)
   (fun _ i _ => n - (intOf i).toNat)
 case atStart => exact ⟨0, 0, l, rfl, rfl, by omega, SubTo.start l m HO.out, HOD.out, HB1.out⟩
 case round =>
  obtain ⟨k, cc, o, rfl, rfl, hk, hs, hod, hbel⟩ := hrel
  have hcc := hs.2.2.1
  have HS := Lib.hid hs
  have HOD := Lib.hid hod
  have ho := hs.2.1
  rw [HN.out] at ho
  have HL := Lib.hid ho
  clear hs hod ho
  by_cases hlt : k < n
  ·obtain ⟨x, hx⟩ : ∃ x, o.getD k 0 = x := ⟨_, rfl⟩
   obtain ⟨y, hy⟩ : ∃ y, m.getD k 0 = y := ⟨_, rfl⟩
   have hx0 : x < 4294967296 := by rw [← hx]; exact HS.out.1.getD k
   have hy0 : y < 4294967296 := by rw [← hy]; exact HP.out.getD k
   obtain ⟨g, rfl, hg, hdb⟩ := HOD.out.at_ (k := k) (by rw [HL.out]; exact hlt)
   have hz := hdb.cell (k := k) (by rw [HL.out]; exact hlt)
   rw [hx] at hz
   have hfz := hdb.frozen k
   have step := HS.out.step hx hy hx0 hy0 (by rw [HN.out]; exact hlt)
   have STEP := Lib.hid step
   have HDB := Lib.hid hdb
   have hcy := dig_cell HB.out HQ.out hbel k y hy
   have HB2 := Lib.hid hbel
   clear hx hy step hdb hbel
   have close : ∀ E F : Int, E = ((x + 4294967296 - (cc + y)) % 4294967296 : Nat) → F = ((if x < cc + y then 1 else 0 : Nat) : Int) → (∃ (k' cc' : Nat) (o' : List Nat), Value.int .i64 ((k : Int) + 1) = .int .i64 k' ∧ Value.int .u64 F = .int .u64 cc' ∧ k' ≤ n ∧ SubTo l m o' k' cc' ∧ OD (wr.setCell ⟨g, k, none⟩ (.int .u32 E)) base (some ⟨g, 0, none⟩) o' ∧ Below w.heap.size w (wr.setCell ⟨g, k, none⟩ (.int .u32 E))) ∧ n - (intOf (Value.int .i64 ((k : Int) + 1))).toNat < n - (intOf (Value.int .i64 (k : Int))).toNat := by
    intro E F hE hF
    exact ⟨⟨k + 1, _, _, rfl, int_eq hF, by omega, STEP.out, .inr ⟨g, rfl, hg, HDB.out.set (by rw [HL.out]; exact hlt) hE⟩, HB2.out.setCell (p := ⟨g, k, none⟩) (Nat.le_trans hbase hg) _⟩, by simp [intOf]; omega⟩
   have CLOSE := Lib.hid close
   clear close
   rcases hcy with ⟨h2, b', off', rfl, hb', hc2⟩ | ⟨h2, hy⟩
   ·by_cases hxy : x < cc + y
    ·go_wp2_with fail
     exact CLOSE.out _ _ (by omega) (by rw [if_pos hxy]; rfl)
    ·go_wp2_with fail
     exact CLOSE.out _ _ (by omega) (by rw [if_neg hxy]; rfl)
   ·by_cases hxy : x < cc
    ·go_wp2_with fail
     exact CLOSE.out _ _ (by omega) (by rw [if_pos (by omega)]; rfl)
    ·go_wp2_with fail
     exact CLOSE.out _ _ (by omega) (by rw [if_neg (by omega)]; rfl)
  ·obtain rfl : k = n := by omega
   have hd := HOD.out.digAt HS.out.1 HL.out hnc hcm
   have hv := HS.out.done HN.out (by rw [HQ.out]; omega) HLE.out
   have HD := Lib.hid hd
   have HV := Lib.hid hv
   have HB2 := Lib.hid hbel
   clear hd hv hbel
   go_wp2_with (go_at_call 64; refine (trimmedF _ _ o HD.out (by rw [HL.out]; omega)).mono ?_; rintro e w' ⟨v', rfl, hv, hb, hf⟩)
   go_ret
   rw [HV.out] at hv
   exact ⟨v', rfl, hv, HB2.out.trans (hb.mono HB2.out.size), hf.mono HB2.out.size⟩
theorem sub (w : World) (va vb : Value) (a b k : Nat) (ha : NatAt w va a) (hb : NatAt w vb b) (la : a < 2 ^ k) (hle : b ≤ a) (hk : k ≤ 70368744177664) :
  Calls Tryz.prog 77 #[va, vb] w fun e w' => ∃ v', e = .returned v' ∧ NatAt w' v' (a - b) ∧ Below w.heap.size w w' :=
 (subF w va vb a b k ha hb la hle hk).mono fun _ _ ⟨v', h1, h2, h3, _⟩ => ⟨v', h1, h2, h3⟩
end Go.Proofs.YtlhankdkhiilkaaGreat
