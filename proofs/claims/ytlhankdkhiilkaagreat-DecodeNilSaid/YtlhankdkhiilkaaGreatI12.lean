/- Lemmas on the way: Ref12. -/
import Derived.Test.YtlhankdkhiilkaaGreatI11
set_option linter.unusedSimpArgs false
set_option linter.unusedVariables false
set_option linter.unusedSectionVars false
set_option linter.unnecessarySimpa false
namespace Go.Proofs.YtlhankdkhiilkaaGreat
open Go.RowKit
theorem NatAt.digit1 (w : World) (e : TypeId) (d : Nat) (h0 : d ≠ 0) (hd : d < 4294967296) : NatAt (w.alloc (.cells #[.int .u32 (d : Int)] e)) (.slice (some ⟨w.heap.size, 0, none⟩) 1 1) d :=
 ⟨[d], ⟨Sl.one _ _ _, Ok.cons.2 ⟨hd, Ok.nil⟩⟩, by simpa [Trim] using h0, by simp [val]⟩

theorem bit_and (r : Nat) {x : Nat} (hx : x < 4294967296) : bits .and .u32 ((x : Int) / 2 ^ r) 1 = ((x / 2 ^ r % 2 : Nat) : Int) := by
 have h1 : (x : Int) / 2 ^ r = ((x / 2 ^ r : Nat) : Int) := by rw [Int.natCast_ediv, Int.natCast_pow]; rfl
 rw [h1]
 exact half_and (Nat.lt_of_le_of_lt (Nat.div_le_self _ _) hx)
theorem or_bit {r y : Nat} (hr : r < 32) (h : y ||| 2 ^ r = y + 2 ^ r) (hy : y < 4294967296) : bits .or .u32 (y : Int) (2 ^ r % 4294967296) = ((y + 2 ^ r : Nat) : Int) := by
 have h2 : 2 ^ r < 4294967296 := Nat.lt_of_lt_of_le (Nat.pow_lt_pow_right (by omega) hr) (by decide)
 have h1 : (2 : Int) ^ r % 4294967296 = ((2 ^ r : Nat) : Int) := by
  rw [show (2 : Int) ^ r = ((2 ^ r : Nat) : Int) by rw [Int.natCast_pow]; rfl]
  generalize 2 ^ r = z at *
  omega
 rw [h1, u32_or_nat y _ hy h2, h]
theorem bitsN_lt_len {l : List Nat} (h : Ok l) {bl : Nat} (hb : bitsN (val l) = bl) : bl ≤ 32 * l.length := by
 rw [← hb]
 exact bitsN_le (by rw [Nat.pow_mul]; exact val_lt l h)

set_option maxRecDepth 1000000 in
set_option maxHeartbeats 1000000 in
theorem divideR (w : World) (va vb : Value) (a b k : Nat) (ha : NatAt w va a) (hb : NatAt w vb b) (la : a < 2 ^ k) (lb : b < 2 ^ k) (hk : k ≤ 17592186044416) (hb0 : 0 < b) :
  Calls Tryz.prog 103 #[va, vb] w fun e w' => ∃ vq vr, e = .returned (.tuple #[vq, vr]) ∧ NatAt w' vq (a / b) ∧ NatAt w' vr (a % b) ∧ Below w.heap.size w w' ∧ From vq w.heap.size ∧ From vr w.heap.size := by
 have TA : Hid (∀ W, W = w → Calls Tryz.prog 100 #[va] W fun e w' => w' = W ∧ e = .returned va) := Lib.hid (fun W e => by rw [e]; exact trimN w va a ha)
 have TB : Hid (∀ W, W = w → Calls Tryz.prog 100 #[vb] W fun e w' => w' = W ∧ e = .returned vb) := Lib.hid (fun W e => by rw [e]; exact trimN w vb b hb)
 have NA := Lib.hid ha
 have NB := Lib.hid hb
 have LA := Lib.hid la
 have LB := Lib.hid lb
 obtain ⟨l, dl, tl, rfl⟩ := ha
 obtain ⟨m, dm, tm, rfl⟩ := hb
 have ll := tl.length_le la
 clear la lb
 obtain ⟨okl, A, ca, rfl, hlc, hcm, hA⟩ := dl.open_
 obtain ⟨okm, B, cb, rfl, hmc, hcm', hB⟩ := dm.open_
 clear dl dm
 have HA := Lib.hid hA
 have HB := Lib.hid hB
 have HO := Lib.hid okl
 have HP := Lib.hid okm
 have HT := Lib.hid tl
 have HU := Lib.hid tm
 clear hA hB okl okm tl tm
 obtain ⟨n, hn⟩ : ∃ n, l.length = n := ⟨_, rfl⟩
 obtain ⟨p, hp⟩ : ∃ p, m.length = p := ⟨_, rfl⟩
 rw [hn] at hlc ll TA NA ⊢
 rw [hp] at hmc TB NB ⊢
 have HN := Lib.hid hn
 have HQ := Lib.hid hp
 clear hn hp
 have HB0 := Lib.hid hb0
 clear hb0
 obtain ⟨i0, hi, hz0, hz1, hz2⟩ := info_parts infoU32
 by_cases hp1 : p = 1
 ·subst hp1
  obtain ⟨d, rfl⟩ : ∃ d, m = [d] := List.length_eq_one_iff.1 HQ.out
  have hd1 : d < 4294967296 := HP.out.get (k := 0) rfl
  have hd0 : 0 < d := by have := HB0.out; simpa [val] using this
  have HM : Hid (val [d] = d) := Lib.hid (by simp [val])
  obtain ⟨bB, offB, rfl, hbB, hcB0⟩ : ∃ b off, B = some ⟨b, off, none⟩ ∧ b < w.heap.size ∧ w.cell? ⟨b, off, none⟩ = some (.int .u32 (d : Int)) := by
   rcases HB.out with h | ⟨b, off, h, h1, h2⟩
   ·cases h
   ·exact ⟨b, off, h, h1, h2 0 d rfl⟩
  go_enter Tryz.func103, Tryz.ntmps103
  go_wp2_with fail
  refine (TA.out _ rfl).mono ?_
  rintro e w1 ⟨hw1, rfl⟩
  cases hw1
  go_wp2_with fail
  refine (TB.out _ rfl).mono ?_
  rintro e w1 ⟨hw1, rfl⟩
  cases hw1
  go_wp2_with (at_make; refine wpList_make_blk rfl _ _ 25 rfl 154 i0 (.int .u32 0) 4 Tryz.underlying25 hi hz0 hz1 hz2 rfl .i64 .i64 _ _ n rfl rfl (by omega) (by omega) (by omega) (by unfold maxLen; omega) ?_)
  intro w1 hblk hbel
  go_wp2_with fail
  go_loopw [7, 8] (fun r i wr => ∃ (q : Int) (k rr : Nat) (o : List Nat), i = .int .i64 q ∧ r = .int .u64 rr ∧ q + 1 = k ∧ k ≤ n ∧ OverTo l o d k rr ∧ DB wr w.heap.size o ∧ Below w.heap.size w wr)
   (fun _ i _ => (intOf i + 1).toNat)
  case atStart => exact ⟨_, n, 0, List.replicate l.length 0, rfl, rfl, by omega, by omega, HN.out ▸ OverTo.start l hd0, DB.of_blk (e := 154) (by rw [HN.out]; simpa [dg] using hblk), hbel⟩
  case round =>
   obtain ⟨q, k', rr, o, rfl, rfl, hq, hk', hs, hdb, hbel⟩ := hrel
   have ho := hs.2.1
   rw [HN.out] at ho
   have HL := Lib.hid ho
   have HS := Lib.hid hs
   have HDB := Lib.hid hdb
   have hrr := hs.2.2.1
   clear ho hblk hs
   rcases Nat.eq_zero_or_pos k' with h0 | h0
   ·subst h0
    obtain rfl : q = -1 := by omega
    clear hq
    have DN := Lib.hid HS.out.done
    have HD := Lib.hid (HDB.out.digAt HS.out.1 (n := n) (c := n) (by rw [HL.out]) (Nat.le_refl _) (by omega))
    have HB2 := Lib.hid hbel
    clear hbel hdb
    have hrr' : (rr : Int) % 4294967296 = rr := by omega
    go_wp2_with fail
    refine (trimR wr _ o HD.out).mono ?_
    rintro e w2 ⟨hw2, vq, rfl, t1, t2, _⟩
    cases hw2
    have T1 := Lib.hid t1
    have F1 := Lib.hid (t2.from (B := w.heap.size) (fun ad n' c' e => by cases e; exact Nat.le_refl _))
    clear t1 t2
    go_wp2_with fail
    refine (trimR _ _ [rr] ⟨Sl.one _ _ _, Ok.cons.2 ⟨by omega, Ok.nil⟩⟩).mono ?_
    rintro e w2 ⟨hw2, vr, rfl, t1, t2, _⟩
    cases hw2
    have T2 := Lib.hid t1
    have F2 := Lib.hid (t2.from (B := wr.heap.size) (fun ad n' c' e => by cases e; exact Nat.le_refl _))
    clear t1 t2
    go_wp2_with fail
    go_ret2
    have hz := HB2.out.size
    exact ⟨vq, vr, rfl, by rw [HM.out, ← DN.out.1]; exact T1.out.alloc _, by rw [HM.out, ← DN.out.2]; have := T2.out; simpa [val] using this, HB2.out.alloc hz _, F1.out, F2.out.mono hz⟩
   ·obtain ⟨k, rfl⟩ : ∃ k, k' = k + 1 := ⟨k' - 1, by omega⟩
    obtain rfl : q = k := by omega
    clear hq h0
    have hkl : k < l.length := by rw [HN.out]; omega
    obtain ⟨x, hx⟩ : ∃ x, l[k]? = some x := ⟨_, List.getElem?_eq_getElem hkl⟩
    have hx0 := HO.out.get hx
    have hxd : l.getD k 0 = x := by rw [List.getD_eq_getElem?_getD, hx]; rfl
    have hk0 : k < o.length := by rw [HL.out]; omega
    have hz := hdb.cell hk0
    have hfz := hdb.frozen k
    have hcx := dig_cell HA.out HN.out hbel k x hxd
    have STEP := Lib.hid (HS.out.step hd1 hx hx0)
    have HB2 := Lib.hid hbel
    have HK0 := Lib.hid hk0
    have hcB := (hbel.cell (p := ⟨bB, offB, none⟩) hbB).trans hcB0
    have hcB' := (HB2.out.setCell (p := ⟨w.heap.size, k, none⟩) (Nat.le_refl _) (.int .u32 (((rr : Int) * 4294967296 + (x : Int)) / (d : Int) % 4294967296))).cell (p := ⟨bB, offB, none⟩) hbB
    rw [hcB0] at hcB'
    clear hx hxd hbel hdb hk0 hkl
    rcases hcx with ⟨h1, b, off, rfl, hb, hc1⟩ | ⟨h1, hx⟩
    ·have hor := or64 rr x (by omega) hx0
     go_wp2_with fail
     exact ⟨⟨_, k, _, _, rfl, int_eq (cast_omod _ _ _), by omega, by omega, STEP.out.1, HDB.out.set HK0.out (cast_odiv _ _ _ STEP.out.2), HB2.out.setCell (p := ⟨w.heap.size, k, none⟩) (Nat.le_refl _) _⟩, by simp [intOf]⟩
    ·omega
 ·have hp1' : ((p : Int) == 1) = false := by simp; omega
  go_enter Tryz.func103, Tryz.ntmps103
  go_wp2_with fail
  refine (TA.out _ rfl).mono ?_
  rintro e w1 ⟨hw1, rfl⟩
  cases hw1
  go_wp2_with fail
  refine (TB.out _ rfl).mono ?_
  rintro e w1 ⟨hw1, rfl⟩
  cases hw1
  go_wp2_with (at_make; refine wpList_make_blk rfl _ _ 25 rfl 154 i0 (.int .u32 0) 4 Tryz.underlying25 hi hz0 hz1 hz2 rfl .i64 .i64 _ _ n rfl rfl (by omega) (by omega) (by omega) (by unfold maxLen; omega) ?_)
  intro w1 hblk hbel
  go_wp2_with fail
  refine (bitsR w1 _ _ k (NA.out.below hbel) LA.out (by omega)).mono ?_
  rintro e w2 ⟨hw2, rfl⟩
  cases hw2
  have hbl := bitsN_le LA.out
  have BL := Lib.hid (lt_bitsN (val l))
  have HBL0 : Hid (bitsN (val l) = bitsN (val l)) := Lib.hid rfl
  generalize hbl0 : bitsN (val l) = bl at *
  have HBL := Lib.hid hbl0
  clear hbl0 HBL0
  go_wp2_with fail
  go_loopg [9, 10] bl (fun g rv i wr => ∃ (q : Int) (R : Nat) (o : List Nat), i = .int .i64 q ∧ q + 1 = g ∧ g ≤ bl ∧ Hid (NatAt wr rv R ∧ From rv (w.heap.size + 1)) ∧ Hid (BitTo (val l) (val m) R o n g) ∧ Hid (DB wr w.heap.size o) ∧ Hid (Below w.heap.size w wr))
  case atStart => exact ⟨_, 0, List.replicate n 0, rfl, by omega, Nat.le_refl _, Lib.hid ⟨NatAt.nil_ _, From.nil_ _⟩, Lib.hid (BitTo.start BL.out), Lib.hid (DB.of_blk (e := 154) (by simpa [dg] using hblk)), Lib.hid hbel⟩
  case round =>
   clear hblk hbel
   obtain ⟨q, R, o, rfl, hq, hg, HR, HBT, HDB, HBE⟩ := hrel
   rcases Nat.eq_zero_or_pos gk with h | h
   ·subst h
    obtain rfl : q = -1 := by omega
    have DN := Lib.hid HBT.out.done
    have HD := Lib.hid (HDB.out.digAt HBT.out.1 (n := n) (c := n) HBT.out.2.1 (Nat.le_refl _) (by omega))
    go_wp2_with fail
    refine (trimR wr _ o HD.out).mono ?_
    rintro e w2 ⟨hw2, vq, rfl, t1, t2, _⟩
    cases hw2
    have T1 := Lib.hid t1
    have F1 := Lib.hid (t2.from (B := w.heap.size) (fun ad n' c' e => by cases e; exact Nat.le_refl _))
    clear t1 t2
    go_wp2_with fail
    go_ret2
    exact ⟨vq, _, rfl, by rw [← DN.out.1]; exact T1.out, by rw [← DN.out.2]; exact HR.out.1, HBE.out, F1.out, HR.out.2.mono (by omega)⟩
   ·obtain ⟨j, rfl⟩ : ∃ j, gk = j + 1 := ⟨gk - 1, by omega⟩
    obtain rfl : q = j := by omega
    clear hq h
    obtain ⟨kk, r, hj, hr⟩ : ∃ kk r, j = 32 * kk + r ∧ r < 32 := ⟨j / 32, j % 32, by omega, by omega⟩
    have hdv : (j : Int) / 32 = (kk : Int) := by omega
    have hmd : (j : Int) % 32 = (r : Int) := by omega
    have HJ := Lib.hid hj
    clear hj
    have hs1 := HBE.out.size
    have hs0 : w.heap.size < wr.heap.size := HDB.out.lt
    have hRb : R < val m := by rw [HBT.out.2.2.2]; exact Nat.mod_lt _ HB0.out
    have HRB := Lib.hid hRb
    have HRL : Hid (R < 2 ^ k) := Lib.hid (Nat.lt_trans hRb LB.out)
    clear hRb
    obtain ⟨c, hc⟩ : ∃ c, val l / 2 ^ (32 * kk + r) % 2 = c := ⟨_, rfl⟩
    have hc2 : c < 2 := by omega
    obtain ⟨x, hx⟩ : ∃ x, l.getD kk 0 = x := ⟨_, rfl⟩
    have hx0 : x < 4294967296 := by rw [← hx]; exact HO.out.getD kk
    have HBV : Hid (x / 2 ^ r % 2 = c) := Lib.hid (by rw [← bit_val HO.out hx hr, hc])
    have hkn : kk < n := by
     have h1 := bitsN_lt_len (l := l) HO.out (bl := bl) HBL.out
     rw [HN.out] at h1
     have := HJ.out
     omega
    have HC := Lib.hid hc
    clear hc
    go_wp2_with fail
    refine (plusR wr _ _ R R k HR.out.1 HR.out.1 HRL.out HRL.out (by omega)).mono ?_
    rintro e w2 ⟨v2, rfl, t1, t2, t3⟩
    have T2 := Lib.hid t1
    have B2 := Lib.hid (HBE.out.trans (t2.mono hs1))
    have F2 := Lib.hid (t3.mono (show w.heap.size + 1 ≤ wr.heap.size from hs0))
    have D2 := Lib.hid (HDB.out.below t2)
    have hs2 : w.heap.size + 1 ≤ w2.heap.size := Nat.le_trans (show w.heap.size + 1 ≤ wr.heap.size from hs0) t2.size
    clear t1 t2 t3
    have hcx := dig_cell HA.out HN.out B2.out kk x hx
    clear hx
    rcases hcx with ⟨_, ba, offa, rfl, hba, hca⟩ | ⟨h1, _⟩
    case inr => omega
    have hbit : bits .and .u32 ((x : Int) / 2 ^ r) 1 = (c : Int) := by rw [bit_and r hx0, HBV.out]
    rcases (show c = 0 ∨ c = 1 by omega) with hc0 | hc0
    all_goals
     have HC0 := Lib.hid hc0
     clear hc0
    case' inr =>
     have hb1 : (bits .and .u32 ((x : Int) / 2 ^ r) 1 == 1) = true := by rw [hbit, HC0.out]; rfl
     clear hbit
     go_wp2_with fail
     refine (plusR _ _ _ (R + R) 1 (k + 1) (T2.out.alloc _) (NatAt.digit1 _ _ 1 (by omega) (by omega)) (by have := HRL.out; rw [Nat.pow_succ]; omega) (Nat.one_lt_two_pow (by omega)) (by omega)).mono ?_
     rintro e w3 ⟨v3, rfl, t1, t2, t3⟩
     rw [World.size_alloc] at t2 t3
     have T3 : Hid (NatAt w3 v3 (R + R + c)) := Lib.hid (by rw [HC0.out]; exact t1)
     have B3 := Lib.hid ((B2.out.alloc (by omega) _).trans (t2.mono (by omega)))
     have F3 := Lib.hid (t3.mono (show w.heap.size + 1 ≤ w2.heap.size + 1 by omega))
     have D3 := Lib.hid ((D2.out.alloc _).below (by rw [World.size_alloc]; exact t2))
     have hs3 : w.heap.size + 1 ≤ w3.heap.size := by have := t2.size; rw [World.size_alloc] at this; omega
     clear t1 t2 t3 T2 B2 F2 D2 hs2
    case' inl =>
     have hb1 : (bits .and .u32 ((x : Int) / 2 ^ r) 1 == 1) = false := by rw [hbit, HC0.out]; rfl
     clear hbit
     have T3 : Hid (NatAt w2 v2 (R + R + c)) := Lib.hid (by rw [HC0.out]; exact T2.out)
     have B3 := B2
     have F3 := F2
     have D3 := D2
     have hs3 := hs2
     clear T2 B2 F2 D2 hs2
     obtain ⟨w3, rfl⟩ : ∃ w3, w3 = w2 := ⟨_, rfl⟩
     obtain ⟨v3, rfl⟩ : ∃ v3, v3 = v2 := ⟨_, rfl⟩
    all_goals
     have OC := orderR w3 v3 _ _ _ T3.out (NB.out.below B3.out)
     rcases Nat.lt_or_ge (R + R + c) (val m) with hlt | hge
     ·rw [cmpN_lt hlt] at OC
      have HLT := Lib.hid hlt
      clear hlt
      go_wp2_with fail
      refine OC.mono ?_
      rintro e w4 ⟨rfl, nd, rfl⟩
      go_wp2_with fail
      go_roundg j
      case measure => omega
      case rel => exact ⟨(j : Int) - 1, _, o, rfl, by omega, by omega, Lib.hid ⟨T3.out.drewN nd, F3.out⟩, Lib.hid (HBT.out.skip (by rw [HJ.out]; exact HC.out) HLT.out), Lib.hid (D3.out.drewN nd), Lib.hid (below_drewN B3.out nd)⟩
     ·obtain ⟨z, hz, hz0⟩ : ∃ z, cmpN (R + R + c) (val m) = z ∧ decide (0 ≤ z) = true := ⟨_, rfl, decide_eq_true (by unfold cmpN; rw [if_neg (by omega)]; split <;> omega)⟩
      rw [hz] at OC
      have HGE := Lib.hid hge
      clear hge hz
      go_wp2_with fail
      refine OC.mono ?_
      rintro e w4 ⟨rfl, nd, rfl⟩
      go_wp2_with fail
      refine (minusR _ _ _ _ _ (k + 1) (T3.out.drewN nd) ((NB.out.below B3.out).drewN nd) (by have := HRL.out; rw [Nat.pow_succ]; omega) HGE.out (by omega)).mono ?_
      rintro e w4 ⟨v4, rfl, t1, t2', t3⟩
      have t2 := below_of_drewN t2'
      have T4 := Lib.hid t1
      have B4 := Lib.hid (B3.out.trans (t2.mono (by omega)))
      have F4 := Lib.hid (t3.mono (show w.heap.size + 1 ≤ w3.heap.size from hs3))
      have D4 := Lib.hid (D3.out.below t2)
      clear t1 t2 t2' t3 T3 B3 F3 D3 hs3
      have HBT' : Hid (BitTo (val l) (val m) R o n (32 * kk + r + 1)) := Lib.hid (by rw [← HJ.out]; exact HBT.out)
      obtain ⟨y, hy⟩ : ∃ y, o.getD kk 0 = y := ⟨_, rfl⟩
      have HY0 : Hid (y < 4294967296) := Lib.hid (by rw [← hy]; exact HBT.out.1.getD kk)
      have STEP := Lib.hid (HBT'.out.step hr hkn HB0.out HC.out HGE.out hy)
      have hol : kk < o.length := by rw [HBT.out.2.1]; exact hkn
      have hoc := D4.out.cell hol
      have hof := D4.out.frozen kk
      rw [hy] at hoc
      have HOL := Lib.hid hol
      clear hy hol
      go_wp2_with fail
      go_region
      go_wp2_with fail
      go_roundg j
      case measure => omega
      case rel => exact ⟨(j : Int) - 1, _, o.set kk (y + 2 ^ r), rfl, by omega, by omega, Lib.hid ⟨(T4.out.setFar F4.out (show w.heap.size < w.heap.size + 1 by omega) _).drew, F4.out⟩, Lib.hid (by rw [HJ.out]; exact STEP.out.2), Lib.hid ((D4.out.set HOL.out (or_bit hr STEP.out.1 HY0.out)).drewN 1), Lib.hid ((B4.out.setCell (p := ⟨w.heap.size, kk, none⟩) (Nat.le_refl _) _).drew)⟩
end Go.Proofs.YtlhankdkhiilkaaGreat
