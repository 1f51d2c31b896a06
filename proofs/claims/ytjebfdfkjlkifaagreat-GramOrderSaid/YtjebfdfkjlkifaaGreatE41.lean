/- Lemmas on the way: @1. -/
import Derived.Test.YtjebfdfkjlkifaaGreatC21
set_option linter.unusedSimpArgs false
set_option linter.unusedVariables false
set_option linter.unusedSectionVars false
set_option linter.unnecessarySimpa false
namespace Go.Proofs.YtjebfdfkjlkifaaGreat
open Go.RowKit
theorem cast_mac2 (c x y d : Nat) : (c : Int) + (d : Int) + (x : Int) * (y : Int) = ((c + (x * y + d) : Nat) : Int) := by
 rw [← cast_mac]; omega
theorem cast_div2 (c x y d : Nat) : ((c : Int) + (d : Int) + (x : Int) * (y : Int)) / 4294967296 = (((c + (x * y + d)) / 4294967296 : Nat) : Int) := by
 rw [cast_mac2]; omega
theorem cast_mod2 (c x y d : Nat) : ((c : Int) + (d : Int) + (x : Int) * (y : Int)) % 4294967296 = (((c + (x * y + d)) % 4294967296 : Nat) : Int) := by
 rw [cast_mac2]; omega
set_option maxRecDepth 1000000 in
set_option maxHeartbeats 1000000 in
theorem timesR (w : World) (va vb : Value) (a b ka kb : Nat) (ha : NatAt w va a) (hb : NatAt w vb b) (la : a < 2 ^ ka) (lb : b < 2 ^ kb) (hka : ka ≤ 70368744177664) (hkb : kb ≤ 70368744177664) :
  Calls Tryz.prog 97 #[va, vb] w fun e w' => ∃ v', e = .returned v' ∧ NatAt w' v' (a * b) ∧ Below w.heap.size w w' ∧ From v' w.heap.size := by
 obtain ⟨l, dl, tl, rfl⟩ := ha
 obtain ⟨m, dm, tm, rfl⟩ := hb
 have ll := tl.length_le la
 have lm := tm.length_le lb
 clear la lb tl tm
 obtain ⟨okl, A, ca, rfl, hlc, hcm, hA⟩ := dl.open_
 obtain ⟨okm, B, cb, rfl, hmc, hcm', hB⟩ := dm.open_
 clear dl dm
 have HA := Lib.hid hA
 have HB := Lib.hid hB
 clear hA hB
 have HO := Lib.hid okl
 have HP := Lib.hid okm
 clear okl okm
 obtain ⟨n, hn⟩ : ∃ n, l.length = n := ⟨_, rfl⟩
 obtain ⟨p, hp⟩ : ∃ p, m.length = p := ⟨_, rfl⟩
 rw [hn] at hlc ll ⊢
 rw [hp] at hmc lm ⊢
 have start := RowsTo.start l m
 rw [hn, hp] at start
 have HN := Lib.hid hn
 have HQ := Lib.hid hp
 have HST := Lib.hid start
 clear hn hp start
 obtain ⟨i0, hi, hz0, hz1, hz2⟩ := info_parts infoU32
 obtain ⟨N, hN1, hN2⟩ : ∃ N : Nat, n + p ≤ N ∧ N ≤ n + p := ⟨n + p, Nat.le_refl _, Nat.le_refl _⟩
 go_enter Tryz.func97, Tryz.ntmps97
 go_wp2_with (at_make; refine wpList_make_blk rfl _ _ 38 rfl 181 i0 (.int .u32 0) 4 Tryz.underlying38 hi hz0 hz1 hz2 rfl .i64 .i64 _ _ N rfl rfl (by omega) (by omega) (by omega) (by unfold maxLen; omega) ?_)
 intro w1 hblk hbel
 go_wp2_with fail
 go_loopw [6] (fun i wr => ∃ (k : Nat) (o : List Nat), i = .int .i64 k ∧ k ≤ n ∧ RowsTo l m o k ∧ DB wr w.heap.size o ∧ Below w.heap.size w wr)
   (fun i _ => n - (intOf i).toNat)
 case atStart => exact ⟨0, List.replicate (n + p) 0, rfl, by omega, HST.out, DB.of_blk (e := 181) (by rw [show n + p = N by omega]; simpa [dg] using hblk), hbel⟩
 case round =>
  clear hblk hbel
  obtain ⟨k, o, rfl, hk, hr, hdb, hbel⟩ := hrel
  have HR := Lib.hid hr
  have HDB := Lib.hid hdb
  by_cases hlt : k < n
  ·obtain ⟨x, hx⟩ : ∃ x, l.getD k 0 = x := ⟨_, rfl⟩
   have hx0 : x < 4294967296 := by rw [← hx]; exact HO.out.getD k
   have hcx := dig_cell HA.out HN.out hbel k x hx
   have row := HR.out.row x
   have ROW := Lib.hid row
   have HX := Lib.hid hx
   have HB1 := Lib.hid hbel
   clear hx row hbel hdb hr
   rcases hcx with ⟨h1, b, off, rfl, hb, hc1⟩ | ⟨h1, hx⟩
   ·obtain ⟨wo, rfl⟩ : ∃ wo : World, wo = wr := ⟨_, rfl⟩
    go_wp2_with fail
    go_loopw [7, 8] (fun c j wr => ∃ (q cc : Nat) (o' : List Nat), j = .int .i64 q ∧ c = .int .u64 cc ∧ q ≤ p ∧ RowTo l m o' k x q cc ∧ DB wr w.heap.size o' ∧ Below w.heap.size w wr)
     (fun _ j _ => p - (intOf j).toNat)
    case atStart => exact ⟨0, 0, o, rfl, rfl, by omega, ROW.out, HDB.out, HB1.out⟩
    case round =>
     obtain ⟨q, cc, o', rfl, rfl, hq, hr, hdb, hbel⟩ := hrel
     have hcc := hr.2.2.1
     have hlen := hr.2.1
     rw [HN.out, HQ.out] at hlen
     have HLEN := Lib.hid hlen
     have HR' := Lib.hid hr
     have HDB' := Lib.hid hdb
     clear hr hlen hdb
     by_cases hlt' : q < p
     ·obtain ⟨y, hy⟩ : ∃ y, m.getD q 0 = y := ⟨_, rfl⟩
      have hy0 : y < 4294967296 := by rw [← hy]; exact HP.out.getD q
      obtain ⟨d, hd⟩ : ∃ d, o'.getD (k + q) 0 = d := ⟨_, rfl⟩
      have hd0 : d < 4294967296 := by rw [← hd]; exact HR'.out.1.getD _
      have hkq : k + q < o'.length := by rw [HLEN.out]; omega
      have hz := HDB'.out.cell hkq
      rw [hd] at hz
      have hfz := HDB'.out.frozen (k + q)
      have step := HR'.out.step hx0 hd hy hy0 (by rw [HN.out]; omega) (by rw [HQ.out]; omega)
      have STEP := Lib.hid step
      have hcy := dig_cell HB.out HQ.out hbel q y hy
      have HB2 := Lib.hid hbel
      have HKQ := Lib.hid hkq
      have hcx' := dig_cell HA.out HN.out hbel k x HX.out
      have hxy := mul_bound hx0 hy0
      have hxy1 : (x : Int) * (y : Int) ≤ 18446744065119617025 := by
       rw [← Int.natCast_mul]; omega
      have hxy2 : 0 ≤ (x : Int) * (y : Int) := by
       rw [← Int.natCast_mul]; omega
      clear hd hy step hbel hkq hxy
      rcases hcy with ⟨h2, b', off', rfl, hb', hc2⟩ | ⟨h2, hy⟩
      ·rcases hcx' with ⟨_, b2, off2, heq, _, hc1'⟩ | ⟨h9, _⟩
       ·cases heq
        go_wp2_with fail
        go_quiet (fail)
        go_wp2_with fail
        exact ⟨⟨q + 1, _, _, rfl, int_eq (cast_div2 _ _ _ _), by omega, STEP.out, (HDB'.out.drewN _).set HKQ.out (cast_mod2 _ _ _ _), (below_drewN HB2.out _).setCell (p := ⟨w.heap.size, _, none⟩) (Nat.le_refl _) _⟩, by simp [intOf]; omega⟩
       ·omega
      ·omega
     ·obtain rfl : q = p := by omega
      have hr2 := HR'.out
      have hx := HX.out
      rw [← HQ.out] at hr2
      have dn := hr2.done hx (by rw [HN.out]; omega)
      rw [HQ.out] at dn
      have hkq : k + q < o'.length := by rw [HLEN.out]; omega
      have hz := HDB'.out.cell hkq
      have hfz := HDB'.out.frozen (k + q)
      have DN := Lib.hid dn
      have HKQ := Lib.hid hkq
      have HB2 := Lib.hid hbel
      clear hr2 hx dn hkq hbel
      go_wp2_with fail
      exact ⟨⟨k + 1, _, rfl, by omega, DN.out, HDB'.out.set HKQ.out (by omega), HB2.out.setCell (p := ⟨w.heap.size, _, none⟩) (Nat.le_refl _) _⟩, by simp [intOf]; omega⟩
   ·omega
  ·obtain rfl : k = n := by omega
   have hr2 := HR.out
   rw [← HN.out] at hr2
   have hv := hr2.done
   have hlen := hr2.2.1
   rw [HN.out, HQ.out] at hlen
   have hd := HDB.out.digAt hr.1 (n := N) (c := N) (by omega) (Nat.le_refl _) (by omega)
   have HD := Lib.hid hd
   have HV := Lib.hid hv
   have HB2 := Lib.hid hbel
   have HLEN := Lib.hid hlen
   clear hd hv hbel hdb hr hr2 hlen
   have TR : Hid (∀ W, W = wr → Calls Tryz.prog 98 #[.slice (some ⟨w.heap.size, 0, none⟩) N N] W fun e w' => w' = W ∧ ∃ v', e = .returned v' ∧ NatAt W v' (val o) ∧ From v' w.heap.size) := Lib.hid (fun W e => by
    rw [e]
    have hd := HD.out
    refine (trimR wr _ o hd).mono ?_
    rintro e w' ⟨h1, v', h2, h3, h4, _⟩
    subst h1
    exact ⟨rfl, v', h2, h3, h4.from (fun ad n' c' e => by cases e; exact Nat.le_refl _)⟩)
   go_wp2_with fail
   refine (TR.out _ rfl).mono ?_
   rintro e w2 ⟨hw2, v', rfl, hv, hf⟩
   cases hw2
   have T2 := Lib.hid hv
   have T3 := Lib.hid hf
   clear hv hf
   go_wp2_with fail
   go_ret
   exact ⟨v', rfl, HV.out ▸ T2.out, HB2.out, T3.out⟩
theorem firstNeg_miss (qs : List Rat) (j : Nat) : 0 ≤ firstNeg qs j ↔ ∃ q ∈ qs, sgnI q < 0 := by
 induction qs generalizing j with
 | nil => simp [firstNeg]
 | cons q l ih =>
  unfold firstNeg
  by_cases h : sgnI q < 0
  ·simp only [h, if_true]; exact ⟨fun _ => ⟨q, by simp, h⟩, fun _ => by omega⟩
  ·simp only [h, if_false, ih (j + 1)]
   constructor
   ·rintro ⟨x, hx, e⟩; exact ⟨x, by simp [hx], e⟩
   ·rintro ⟨x, hx, e⟩
    rcases List.mem_cons.1 hx with rfl | hx
    ·exact absurd e h
    ·exact ⟨x, hx, e⟩
theorem trimB (w : World) (v : Value) (l : List Nat) (hd : DigAt w v l) :
  Calls Tryz.prog 98 #[v] w fun e w' => ∃ v', e = .returned v' ∧ NatAt w' v' (val l) ∧ Below w.heap.size w w' := by
 refine (trimR w v l hd).mono ?_
 rintro e w1 ⟨hw, v', rfl, h1, _⟩
 cases hw
 exact ⟨v', rfl, h1, Below.refl _ _⟩
theorem sgn_not (s : Bool) (n : Nat) : sgn (!s) n = - sgn s n := by cases s <;> simp [sgn]
theorem neg_parts (s : Bool) (n d : Nat) : -(mkRat (sgn s n) d) = mkRat (sgn (!s) n) d := by rw [sgn_not, Rat.neg_mkRat]
theorem num_zero_parts (s : Bool) {a b : Nat} (hb : b ≠ 0) : mkRat (sgn s a) b = 0 ↔ a = 0 := by
 rw [Rat.mkRat_eq_zero hb]
 cases s <;> simp [sgn]
set_option maxRecDepth 1000000 in
set_option maxHeartbeats 1000000 in
theorem lowD (w : World) (s vn vd : Value) (ld : List Nat) (d : Nat) (hd : DigAt w vd ld) (e0 : (if val ld = 0 then 1 else val ld) = d) :
  Calls Tryz.prog 99 #[.agg #[s, vn, vd]] w fun e w' => ∃ v', e = .returned v' ∧ NatAt w' v' d ∧ Below w.heap.size w w' := by
 have HD := Lib.hid hd
 have HE := Lib.hid e0
 clear hd e0
 go_enter Tryz.func99, Tryz.ntmps99
 go_wp2_with fail
 obtain ⟨W, hW, P0, PB, Phs⟩ := box1 w 40 [s, vn, vd]
 rw [← hW]
 clear hW
 obtain ⟨p0, p1, p2, _, _, _⟩ := P0.out.three
 go_wp2_with fail
 refine (trimR W vd ld (HD.out.below PB.out)).mono ?_
 rintro e w1 ⟨hw1, v1, rfl, t1, _, _⟩
 cases hw1
 have T1 := Lib.hid t1
 obtain ⟨A, m, c, rfl, hm, hm0⟩ := t1.len
 clear t1
 by_cases h0 : m = 0
 ·have hd0 : val ld = 0 := by omega
  subst h0
  have HX : Hid (d = 1) := Lib.hid (by rw [← HE.out, if_pos hd0])
  clear hm0 hd0
  go_wp2_with fail
  go_ret
  refine ⟨_, rfl, ⟨[1], ⟨?_, Ok.cons.2 ⟨by omega, Ok.nil⟩⟩, by simp [Trim], by rw [HX.out]; rfl⟩, PB.out.alloc (by omega) _⟩
  exact Sl.one _ _ _
 ·have hz : ((m : Int) == 0) = false := by simp; omega
  have HX : Hid (val ld = d) := Lib.hid (by rw [← HE.out, if_neg (by omega)])
  clear hm0
  go_wp2_with fail
  go_ret
  exact ⟨_, rfl, by rw [← HX.out]; exact T1.out, PB.out⟩
set_option maxRecDepth 1000000 in
set_option maxHeartbeats 1000000 in
theorem negR (w : World) (v : Value) (q : Rat) (k : Nat) (h : FracAt k w v q) (h0 : 0 < k) (hk : k ≤ 17592186044416) :
  Calls Tryz.prog 93 #[v] w fun e w' => ∃ v', e = .returned v' ∧ CanNew w.heap.size w' v' (-q) ∧ Below w.heap.size w w' := by
 obtain ⟨s, vn, vd, ln, ld, n, d, rfl, h1, h2, h3, h4, h5, h6, h7, h8, h9⟩ := h.parts h0
 have H1 := Lib.hid h1
 have H2 := Lib.hid h2
 have H3 := Lib.hid h3
 have H4 := Lib.hid h4
 have H5 := Lib.hid h5
 have H6 := Lib.hid h6
 have H7 := Lib.hid h7
 have H8 := Lib.hid h8
 have H9 := Lib.hid h9
 clear h h1 h2 h3 h4 h5 h6 h7 h8 h9
 have HQ : Hid (-q = fracVal (!s) (val ln) (val ld)) := Lib.hid (by rw [H5.out, neg_parts, ← H4.out, ← H3.out]; rfl)
 rw [HQ.out]
 go_enter Tryz.func93, Tryz.ntmps93
 go_wp2_with fail
 obtain ⟨W, hW, P0, P1, PB, Phs⟩ := box2 w 40 [.bool s, vn, vd] 40 [.bool false, .slice none 0 0, .slice none 0 0]
 rw [← hW]
 clear hW
 obtain ⟨p0, p1, p2, _, _, _⟩ := P0.out.three
 go_wp2_with fail
 refine (make1R W (!s) _ _ ln ld k (H1.out.below PB.out) (H2.out.below PB.out) (by rw [H3.out]; exact H6.out) H9.out h0 hk).mono ?_
 rintro e w1 ⟨v1, rfl, t1, hb1⟩
 have T1 := Lib.hid t1
 have S1 : Hid (Below W.heap.size W w1) := Lib.hid hb1
 have hs1 : W.heap.size ≤ w1.heap.size := hb1.size
 obtain ⟨A, m, c, A', m', c', rfl, ta, tb, tc, td⟩ := t1.open_
 obtain ⟨r0, r1, r2, z0, z1, z2⟩ := (P1.out.below' S1.out).three
 have TA := Lib.hid ta
 have TB := Lib.hid tb
 have TC := Lib.hid tc
 have TD := Lib.hid td
 clear ta tb tc td
 clear t1 hb1
 go_wp2_with fail
 refine bodyPost_ret (v := .agg #[.bool (isNeg (fracVal (!s) (val ln) (val ld))), .slice A m c, .slice A' m' c']) (by simp [results, Tryz.results93, go_sem, r0, r1, r2]) rfl ⟨_, rfl, ?_, below_box3 (PB.out.trans ((S1.out).mono (by omega))) (by omega) _ _ _⟩
 exact (CanNew.box3 TA.out TB.out TC.out TD.out (by omega) _ _ _).mono (by omega)
theorem add_parts_same (s : Bool) {a b c d : Nat} (hb : b ≠ 0) (hd : d ≠ 0) : mkRat (sgn s a) b + mkRat (sgn s c) d = mkRat (sgn s (a * d + c * b)) (b * d) := by
 rw [Rat.mkRat_add_mkRat _ _ hb hd]
 congr 1
 unfold sgn
 cases s <;> simp [Int.natCast_mul, Int.natCast_add, Int.neg_mul] <;> omega
theorem add_parts_more {s t : Bool} {a b c d : Nat} (hst : s ≠ t) (hb : b ≠ 0) (hd : d ≠ 0) (h : c * b ≤ a * d) : mkRat (sgn s a) b + mkRat (sgn t c) d = mkRat (sgn s (a * d - c * b)) (b * d) := by
 rw [Rat.mkRat_add_mkRat _ _ hb hd]
 congr 1
 unfold sgn
 cases s <;> cases t <;> simp_all [Int.neg_mul] <;> rw [Int.natCast_sub (by omega)] <;> simp [Int.natCast_mul] <;> omega
theorem add_parts_less {s t : Bool} {a b c d : Nat} (hst : s ≠ t) (hb : b ≠ 0) (hd : d ≠ 0) (h : a * d < c * b) : mkRat (sgn s a) b + mkRat (sgn t c) d = mkRat (sgn t (c * b - a * d)) (b * d) := by
 rw [Rat.mkRat_add_mkRat _ _ hb hd]
 congr 1
 unfold sgn
 cases s <;> cases t <;> simp_all [Int.neg_mul] <;> rw [Int.natCast_sub (by omega)] <;> simp [Int.natCast_mul] <;> omega
theorem sgnI_parts (s : Bool) {n d : Nat} (hd : d ≠ 0) : sgnI (mkRat (sgn s n) d) = if n = 0 then 0 else if s then -1 else 1 := by
 unfold sgnI
 by_cases hn : n = 0
 ·rw [if_pos hn, if_pos ((num_zero_parts s hd).2 hn)]
 ·rw [if_neg hn, if_neg (fun e => hn ((num_zero_parts s hd).1 e))]
  have : mkRat (sgn s n) d < 0 ↔ s = true := by
   rw [← isNeg_iff]
   obtain ⟨r1, _⟩ := red s n d (Nat.pos_of_ne_zero hd)
   have hg : 0 < n / Nat.gcd n d := Nat.div_pos (Nat.gcd_le_left _ (Nat.pos_of_ne_zero hn)) (Nat.gcd_pos_of_pos_left _ (Nat.pos_of_ne_zero hn))
   rw [isNeg_sgn r1, decide_eq_true hg, Bool.and_true]
  simp only [this]
set_option maxRecDepth 1000000 in
set_option maxHeartbeats 1000000 in
theorem signR (w : World) (v : Value) (q : Rat) (k : Nat) (h : FracAt k w v q) (h0 : 0 < k) :
  Calls Tryz.prog 37 #[v] w fun e w' => e = .returned (.int .i64 (sgnI q)) ∧ Below w.heap.size w w' := by
 obtain ⟨s, vn, vd, ln, ld, n, d, rfl, h1, h2, h3, h4, h5, h6, h7, h8, h9⟩ := h.parts h0
 have H1 := Lib.hid h1
 have H2 := Lib.hid h2
 have H3 := Lib.hid h3
 have H4 := Lib.hid h4
 have H5 := Lib.hid h5
 have H6 := Lib.hid h6
 have H7 := Lib.hid h7
 have H8 := Lib.hid h8
 have H9 := Lib.hid h9
 clear h h1 h2 h3 h4 h5 h6 h7 h8 h9
 have HS : Hid (sgnI q = if n = 0 then 0 else if s then -1 else 1) := Lib.hid (by rw [H5.out]; exact sgnI_parts s (by have := H8.out; omega))
 go_enter Tryz.func37, Tryz.ntmps37
 go_wp2_with fail
 obtain ⟨W, hW, P0, PB, Phs⟩ := box1 w 40 [.bool s, vn, vd]
 rw [← hW]
 clear hW
 obtain ⟨p0, p1, p2, _, _, _⟩ := P0.out.three
 go_wp2_with fail
 refine (trimR W vn ln (H1.out.below PB.out)).mono ?_
 rintro e w1 ⟨hw1, v1, rfl, t1, _, _⟩
 cases hw1
 rw [H3.out] at t1
 obtain ⟨A, m, c, rfl, hm, hm0⟩ := t1.len
 clear t1
 by_cases hz : m = 0
 ·obtain rfl : n = 0 := by omega
  subst hz
  go_wp2_with fail
  go_ret
  exact ⟨ret_i64 (by have := HS.out; simpa using this.symm), PB.out⟩
 ·have hmz : ((m : Int) == 0) = false := by simp; omega
  have HN : Hid (n ≠ 0) := Lib.hid (by omega)
  cases s
  ·go_wp2_with fail
   go_ret
   exact ⟨ret_i64 (by rw [HS.out, if_neg HN.out]; rfl), PB.out⟩
  ·go_wp2_with fail
   go_ret
   exact ⟨ret_i64 (by rw [HS.out, if_neg HN.out]; rfl), PB.out⟩
set_option maxRecDepth 1000000 in
set_option maxHeartbeats 4000000 in
theorem addR (w : World) (v v' : Value) (q r : Rat) (k : Nat) (h : FracAt k w v q) (h' : FracAt k w v' r) (h0 : 0 < k) (hk : k ≤ 549755813888) :
  Calls Tryz.prog 34 #[v, v'] w fun e w' => ∃ u, e = .returned u ∧ CanNew w.heap.size w' u (q + r) ∧ Below w.heap.size w w' := by
 obtain ⟨s, vn, vd, ln, ld, n, d, rfl, h1, h2, h3, h4, h5, h6, h7, h8, h9⟩ := h.parts h0
 have H1 := Lib.hid h1
 have H2 := Lib.hid h2
 have H3 := Lib.hid h3
 have H4 := Lib.hid h4
 have H5 := Lib.hid h5
 have H6 := Lib.hid h6
 have H7 := Lib.hid h7
 have H8 := Lib.hid h8
 have H9 := Lib.hid h9
 clear h h1 h2 h3 h4 h5 h6 h7 h8 h9
 obtain ⟨t, vn', vd', ln', ld', n', d', rfl, h1, h2, h3, h4, h5, h6, h7, h8, h9⟩ := h'.parts h0
 have G1 := Lib.hid h1
 have G2 := Lib.hid h2
 have G3 := Lib.hid h3
 have G4 := Lib.hid h4
 have G5 := Lib.hid h5
 have G6 := Lib.hid h6
 have G7 := Lib.hid h7
 have G8 := Lib.hid h8
 have G9 := Lib.hid h9
 clear h' h1 h2 h3 h4 h5 h6 h7 h8 h9
 go_enter Tryz.func34, Tryz.ntmps34
 go_wp2_with fail
 obtain ⟨W, hW, P0, P1, P2, PB, Phs⟩ := box3 w 40 [.bool s, vn, vd] 40 [.bool t, vn', vd'] 40 [.bool false, .slice none 0 0, .slice none 0 0]
 rw [← hW]
 clear hW
 obtain ⟨p0, p1, p2, _, _, _⟩ := P0.out.three
 obtain ⟨q0, q1, q2, _, _, _⟩ := P1.out.three
 have tok1 : True := trivial
 have tok2 : True := trivial
 have tok3 : True := trivial
 have tok4 : True := trivial
 have tok5 : True := trivial
 have tok6 : True := trivial
 have tok7 : True := trivial
 have tok8 : True := trivial
 have tok9 : True := trivial
 go_region_held3 (fun w' => w'.cell? ⟨w.heap.size, 0, none⟩ = some (.bool s) ∧ w'.cell? ⟨w.heap.size, 1, none⟩ = some (vn) ∧ w'.cell? ⟨w.heap.size, 2, none⟩ = some (vd) ∧ w'.cell? ⟨w.heap.size + 1, 0, none⟩ = some (.bool t) ∧ w'.cell? ⟨w.heap.size + 1, 1, none⟩ = some (vn') ∧ w'.cell? ⟨w.heap.size + 1, 2, none⟩ = some (vd')) (first | assumption | (refine six_box3 hS ?_ ?_ _ _ _ <;> omega) | go_keep)
  (first
   | (go_at_call_of 98 (vn); have _t := tok1; refine (trimB _ _ ln (H1.out.below (PB.out.trans (below_drew_self _)))).mono ?_; rintro e w1 ⟨v1, rfl, t1, hb1⟩; have S1 : Hid (Below W.heap.size W w1) := Lib.hid (by first | exact hb1 | exact below_of_drew hb1); have hs1 : W.heap.size ≤ w1.heap.size := S1.out.size; have T1 := Lib.hid t1; have hS := six (P0.out.below' S1.out) (P1.out.below' S1.out); rw [H3.out] at t1; have T1 := Lib.hid t1; clear t1 hb1 tok1 _t)
   | (go_at_call_of 99 (Value.agg #[.bool t, vn', vd']); have _t := tok2; refine (lowD w1 _ _ _ ld' d' ((G2.out.below PB.out).below S1.out) G4.out).mono ?_; rintro e w2 ⟨v2, rfl, t2, hb2⟩; have S2 : Hid (Below w1.heap.size w1 w2) := Lib.hid hb2; have hs2 : w1.heap.size ≤ w2.heap.size := S2.out.size; have T2 := Lib.hid t2; have hS := six (P0.out.below' (bcomp S1.out S2.out)) (P1.out.below' (bcomp S1.out S2.out)); clear t2 hb2 tok2 _t)
   | (go_at_call_of 97 (v1); have _t := tok3; refine (timesR w2 _ _ n d' k k (T1.out.below S2.out) T2.out H6.out G7.out (by omega) (by omega)).mono ?_; rintro e w3 ⟨v3, rfl, t3, hb3, _⟩; have S3 : Hid (Below w2.heap.size w2 w3) := Lib.hid hb3; have hs3 : w2.heap.size ≤ w3.heap.size := S3.out.size; have T3 := Lib.hid t3; have hS := six (P0.out.below' (bcomp (bcomp S1.out S2.out) S3.out)) (P1.out.below' (bcomp (bcomp S1.out S2.out) S3.out)); clear t3 hb3 tok3 _t)
   | (go_at_call_of 98 (vn'); have _t := tok4; refine (trimB w3 _ ln' ((G1.out.below PB.out).below (bcomp (bcomp S1.out S2.out) S3.out))).mono ?_; rintro e w4 ⟨v4, rfl, t4, hb4⟩; have S4 : Hid (Below w3.heap.size w3 w4) := Lib.hid hb4; have hs4 : w3.heap.size ≤ w4.heap.size := S4.out.size; have T4 := Lib.hid t4; have hS := six (P0.out.below' (bcomp (bcomp (bcomp S1.out S2.out) S3.out) S4.out)) (P1.out.below' (bcomp (bcomp (bcomp S1.out S2.out) S3.out) S4.out)); rw [G3.out] at t4; have T4 := Lib.hid t4; clear t4 hb4 tok4 _t)
   | (go_at_call_of 99 (Value.agg #[.bool s, vn, vd]); have _t := tok5; refine (lowD w4 _ _ _ ld d ((H2.out.below PB.out).below (bcomp (bcomp (bcomp S1.out S2.out) S3.out) S4.out)) H4.out).mono ?_; rintro e w5 ⟨v5, rfl, t5, hb5⟩; have S5 : Hid (Below w4.heap.size w4 w5) := Lib.hid hb5; have hs5 : w4.heap.size ≤ w5.heap.size := S5.out.size; have T5 := Lib.hid t5; have hS := six (P0.out.below' (bcomp (bcomp (bcomp (bcomp S1.out S2.out) S3.out) S4.out) S5.out)) (P1.out.below' (bcomp (bcomp (bcomp (bcomp S1.out S2.out) S3.out) S4.out) S5.out)); clear t5 hb5 tok5 _t)
   | (go_at_call_of 97 (v4); have _t := tok6; refine (timesR w5 _ _ n' d k k (T4.out.below S5.out) T5.out G6.out H7.out (by omega) (by omega)).mono ?_; rintro e w6 ⟨v6, rfl, t6, hb6, _⟩; have S6 : Hid (Below w5.heap.size w5 w6) := Lib.hid hb6; have hs6 : w5.heap.size ≤ w6.heap.size := S6.out.size; have T6 := Lib.hid t6; have hS := six (P0.out.below' (bcomp (bcomp (bcomp (bcomp (bcomp S1.out S2.out) S3.out) S4.out) S5.out) S6.out)) (P1.out.below' (bcomp (bcomp (bcomp (bcomp (bcomp S1.out S2.out) S3.out) S4.out) S5.out) S6.out)); clear t6 hb6 tok6 _t)
   | (go_at_call_of 99 (Value.agg #[.bool s, vn, vd]); have _t := tok7; refine (lowD w6 _ _ _ ld d ((H2.out.below PB.out).below (bcomp (bcomp (bcomp (bcomp (bcomp S1.out S2.out) S3.out) S4.out) S5.out) S6.out)) H4.out).mono ?_; rintro e w7 ⟨v7, rfl, t7, hb7⟩; have S7 : Hid (Below w6.heap.size w6 w7) := Lib.hid hb7; have hs7 : w6.heap.size ≤ w7.heap.size := S7.out.size; have T7 := Lib.hid t7; have hS := six (P0.out.below' (bcomp (bcomp (bcomp (bcomp (bcomp (bcomp S1.out S2.out) S3.out) S4.out) S5.out) S6.out) S7.out)) (P1.out.below' (bcomp (bcomp (bcomp (bcomp (bcomp (bcomp S1.out S2.out) S3.out) S4.out) S5.out) S6.out) S7.out)); clear t7 hb7 tok7 _t)
   | (go_at_call_of 99 (Value.agg #[.bool t, vn', vd']); have _t := tok8; refine (lowD w7 _ _ _ ld' d' ((G2.out.below PB.out).below (bcomp (bcomp (bcomp (bcomp (bcomp (bcomp S1.out S2.out) S3.out) S4.out) S5.out) S6.out) S7.out)) G4.out).mono ?_; rintro e w8 ⟨v8, rfl, t8, hb8⟩; have S8 : Hid (Below w7.heap.size w7 w8) := Lib.hid hb8; have hs8 : w7.heap.size ≤ w8.heap.size := S8.out.size; have T8 := Lib.hid t8; have hS := six (P0.out.below' (bcomp (bcomp (bcomp (bcomp (bcomp (bcomp (bcomp S1.out S2.out) S3.out) S4.out) S5.out) S6.out) S7.out) S8.out)) (P1.out.below' (bcomp (bcomp (bcomp (bcomp (bcomp (bcomp (bcomp S1.out S2.out) S3.out) S4.out) S5.out) S6.out) S7.out) S8.out)); clear t8 hb8 tok8 _t)
   | (go_at_call_of 97 (v7); have _t := tok9; refine (timesR w8 _ _ d d' k k (T7.out.below S8.out) T8.out H7.out G7.out (by omega) (by omega)).mono ?_; rintro e w9 ⟨v9, rfl, t9, hb9, _⟩; have S9 : Hid (Below w8.heap.size w8 w9) := Lib.hid hb9; have hs9 : w8.heap.size ≤ w9.heap.size := S9.out.size; have T9 := Lib.hid t9; have hS := six (P0.out.below' (bcomp (bcomp (bcomp (bcomp (bcomp (bcomp (bcomp (bcomp S1.out S2.out) S3.out) S4.out) S5.out) S6.out) S7.out) S8.out) S9.out)) (P1.out.below' (bcomp (bcomp (bcomp (bcomp (bcomp (bcomp (bcomp (bcomp S1.out S2.out) S3.out) S4.out) S5.out) S6.out) S7.out) S8.out) S9.out)); clear t9 hb9 tok9 _t))
 have PP0 := Lib.hid (P0.out.below' (bcomp (bcomp (bcomp (bcomp (bcomp (bcomp (bcomp (bcomp S1.out S2.out) S3.out) S4.out) S5.out) S6.out) S7.out) S8.out) S9.out))
 have PP1 := Lib.hid (P1.out.below' (bcomp (bcomp (bcomp (bcomp (bcomp (bcomp (bcomp (bcomp S1.out S2.out) S3.out) S4.out) S5.out) S6.out) S7.out) S8.out) S9.out))
 clear p0 p1 p2 q0 q1 q2
 obtain ⟨p0, p1, p2, _, _, _⟩ := PP0.out.three
 obtain ⟨q0, q1, q2, _, _, _⟩ := PP1.out.three
 by_cases hst : s = t
 ·subst hst
  have HQ : Hid (q + r = mkRat (sgn s (n * d' + n' * d)) (d * d')) := Lib.hid (by rw [H5.out, G5.out, add_parts_same s (by have := H8.out; omega) (by have := G8.out; omega)])
  go_wp2_with fail
  go_region_held3 (fun w' => w'.cell? ⟨w.heap.size, 0, none⟩ = some (.bool s) ∧ w'.cell? ⟨w.heap.size, 1, none⟩ = some (vn) ∧ w'.cell? ⟨w.heap.size, 2, none⟩ = some (vd) ∧ w'.cell? ⟨w.heap.size + 1, 0, none⟩ = some (.bool s) ∧ w'.cell? ⟨w.heap.size + 1, 1, none⟩ = some (vn') ∧ w'.cell? ⟨w.heap.size + 1, 2, none⟩ = some (vd')) (first | assumption | (refine six_box3 hS ?_ ?_ _ _ _ <;> omega) | go_keep)
   (first
    | (go_at_call 100; refine (plusR _ _ _ (n * d') (n' * d) (k + k) ((((((((T3.out.below S4.out).below S5.out).below S6.out).below S7.out).below S8.out).below S9.out)).drew) (((((T6.out.below S7.out).below S8.out).below S9.out)).drew) (pow_mul_lt H6.out G7.out) (pow_mul_lt G6.out H7.out) (by omega)).mono ?_; rintro e w10 ⟨v10, rfl, t10, hb10, _⟩; have S10 : Hid (Below w9.heap.size w9 w10) := Lib.hid (by first | exact hb10 | exact below_of_drew hb10); have hs10 : w9.heap.size ≤ w10.heap.size := S10.out.size; have T10 := Lib.hid t10; have hS := six (P0.out.below' (bcomp (bcomp (bcomp (bcomp (bcomp (bcomp (bcomp (bcomp (bcomp S1.out S2.out) S3.out) S4.out) S5.out) S6.out) S7.out) S8.out) S9.out) S10.out)) (P1.out.below' (bcomp (bcomp (bcomp (bcomp (bcomp (bcomp (bcomp (bcomp (bcomp S1.out S2.out) S3.out) S4.out) S5.out) S6.out) S7.out) S8.out) S9.out) S10.out)); clear t10 hb10)
    | (go_at_call 94; refine (make1N w10 s _ _ (n * d' + n' * d) (d * d') (k + k + 1) T10.out (T9.out.below S10.out) (by have h1 := pow_mul_lt H6.out G7.out; have h2 := pow_mul_lt G6.out H7.out; rw [Nat.pow_succ]; omega) (by have := pow_mul_lt H7.out G7.out; rw [Nat.pow_succ]; omega) (Nat.mul_pos H8.out G8.out) (by omega) (by omega)).mono ?_; rintro e w11 ⟨v11, rfl, t11, hb11⟩; have S11 : Hid (Below w10.heap.size w10 w11) := Lib.hid hb11; have hs11 : w10.heap.size ≤ w11.heap.size := S11.out.size; have T11 := Lib.hid t11; have hS := six (P0.out.below' (bcomp (bcomp (bcomp (bcomp (bcomp (bcomp (bcomp (bcomp (bcomp (bcomp S1.out S2.out) S3.out) S4.out) S5.out) S6.out) S7.out) S8.out) S9.out) S10.out) S11.out)) (P1.out.below' (bcomp (bcomp (bcomp (bcomp (bcomp (bcomp (bcomp (bcomp (bcomp (bcomp S1.out S2.out) S3.out) S4.out) S5.out) S6.out) S7.out) S8.out) S9.out) S10.out) S11.out)); obtain ⟨A, m, c, A', m', c', rfl, ta, tb, tc, td⟩ := t11.open_; obtain ⟨r0, r1, r2, z0, z1, z2⟩ := (P2.out.below' (bcomp (bcomp (bcomp (bcomp (bcomp (bcomp (bcomp (bcomp (bcomp (bcomp S1.out S2.out) S3.out) S4.out) S5.out) S6.out) S7.out) S8.out) S9.out) S10.out) S11.out)).three; have TA := Lib.hid ta; have TB := Lib.hid tb; have TC := Lib.hid tc; have TD := Lib.hid td; clear ta tb tc td; clear t11 hb11))
  go_wp2_with fail
  refine bodyPost_ret (v := .agg #[.bool (isNeg (mkRat (sgn s (n * d' + n' * d)) (d * d'))), .slice A m c, .slice A' m' c']) (by simp [results, Tryz.results34, go_sem, r0, r1, r2]) rfl ⟨_, rfl, ?_, below_box3 (PB.out.trans (((bcomp (bcomp (bcomp (bcomp (bcomp (bcomp (bcomp (bcomp (bcomp (bcomp S1.out S2.out) S3.out) S4.out) S5.out) S6.out) S7.out) S8.out) S9.out) S10.out) S11.out)).mono (by omega))) (by omega) _ _ _⟩
  rw [HQ.out]
  exact (CanNew.box3 TA.out TB.out TC.out TD.out (by omega) _ _ _).mono (by omega)
 ·have hst' : (s == t) = false := by cases s <;> cases t <;> simp_all
  have HST := Lib.hid hst
  clear hst
  rcases Nat.lt_or_ge (n * d') (n' * d) with hlt | hge
  ·have HQ : Hid (q + r = mkRat (sgn t (n' * d - n * d')) (d * d')) := Lib.hid (by rw [H5.out, G5.out, add_parts_less HST.out (by have := H8.out; omega) (by have := G8.out; omega) hlt])
   have OC := orderR w9 _ _ _ _ ((((((T3.out.below S4.out).below S5.out).below S6.out).below S7.out).below S8.out).below S9.out) (((T6.out.below S7.out).below S8.out).below S9.out)
   rw [cmpN_lt hlt] at OC
   have HLT := Lib.hid hlt
   clear hlt
   go_wp2_with fail
   refine OC.mono ?_
   rintro e wo ⟨rfl, nd, rfl⟩
   obtain ⟨V9, hV9⟩ : ∃ V, V = w9.drewN nd := ⟨_, rfl⟩
   have S10' : Hid (Below w9.heap.size w9 V9) := Lib.hid (by rw [hV9]; exact below_drewN (Below.refl _ _) nd)
   have U3 := Lib.hid ((((((((T3.out.below S4.out).below S5.out).below S6.out).below S7.out).below S8.out).below S9.out)).below S10'.out)
   have U6 := Lib.hid (((((T6.out.below S7.out).below S8.out).below S9.out)).below S10'.out)
   have T9' := Lib.hid (T9.out.below S10'.out)
   have S9' := Lib.hid (bcomp S9.out S10'.out)
   have PP0' := Lib.hid (PP0.out.below' S10'.out)
   have PP1' := Lib.hid (PP1.out.below' S10'.out)
   have hs9' : w8.heap.size ≤ V9.heap.size := S9'.out.size
   rw [← hV9]
   clear hV9 S10' T9 S9 PP0 PP1 p0 p1 p2 q0 q1 q2 hs9 T3 T6
   have T9 := T9'
   have S9 := S9'
   have hs9 := hs9'
   have PP0 := PP0'
   have PP1 := PP1'
   obtain ⟨w9, rfl⟩ : ∃ w9, w9 = V9 := ⟨_, rfl⟩
   clear T9' S9' PP0' PP1' hs9'
   obtain ⟨p0, p1, p2, _, _, _⟩ := PP0.out.three
   obtain ⟨q0, q1, q2, _, _, _⟩ := PP1.out.three
   go_wp2_with fail
   go_region_held3 (fun w' => w'.cell? ⟨w.heap.size, 0, none⟩ = some (.bool s) ∧ w'.cell? ⟨w.heap.size, 1, none⟩ = some (vn) ∧ w'.cell? ⟨w.heap.size, 2, none⟩ = some (vd) ∧ w'.cell? ⟨w.heap.size + 1, 0, none⟩ = some (.bool t) ∧ w'.cell? ⟨w.heap.size + 1, 1, none⟩ = some (vn') ∧ w'.cell? ⟨w.heap.size + 1, 2, none⟩ = some (vd')) (first | assumption | (refine six_box3 hS ?_ ?_ _ _ _ <;> omega) | go_keep)
    (first
     | (go_at_call 102; refine (minusR _ _ _ (n' * d) (n * d') (k + k) (U6.out.drew) (U3.out.drew) (pow_mul_lt G6.out H7.out) (Nat.le_of_lt HLT.out) (by omega)).mono ?_; rintro e w10 ⟨v10, rfl, t10, hb10, _⟩; have S10 : Hid (Below w9.heap.size w9 w10) := Lib.hid (by first | exact hb10 | exact below_of_drew hb10); have hs10 : w9.heap.size ≤ w10.heap.size := S10.out.size; have T10 := Lib.hid t10; have hS := six (P0.out.below' (bcomp (bcomp (bcomp (bcomp (bcomp (bcomp (bcomp (bcomp (bcomp S1.out S2.out) S3.out) S4.out) S5.out) S6.out) S7.out) S8.out) S9.out) S10.out)) (P1.out.below' (bcomp (bcomp (bcomp (bcomp (bcomp (bcomp (bcomp (bcomp (bcomp S1.out S2.out) S3.out) S4.out) S5.out) S6.out) S7.out) S8.out) S9.out) S10.out)); clear t10 hb10)
     | (go_at_call 94; refine (make1N w10 t _ _ (n' * d - n * d') (d * d') (k + k + 1) T10.out (T9.out.below S10.out) (by have h2 := pow_mul_lt G6.out H7.out; rw [Nat.pow_succ]; omega) (by have := pow_mul_lt H7.out G7.out; rw [Nat.pow_succ]; omega) (Nat.mul_pos H8.out G8.out) (by omega) (by omega)).mono ?_; rintro e w11 ⟨v11, rfl, t11, hb11⟩; have S11 : Hid (Below w10.heap.size w10 w11) := Lib.hid hb11; have hs11 : w10.heap.size ≤ w11.heap.size := S11.out.size; have T11 := Lib.hid t11; have hS := six (P0.out.below' (bcomp (bcomp (bcomp (bcomp (bcomp (bcomp (bcomp (bcomp (bcomp (bcomp S1.out S2.out) S3.out) S4.out) S5.out) S6.out) S7.out) S8.out) S9.out) S10.out) S11.out)) (P1.out.below' (bcomp (bcomp (bcomp (bcomp (bcomp (bcomp (bcomp (bcomp (bcomp (bcomp S1.out S2.out) S3.out) S4.out) S5.out) S6.out) S7.out) S8.out) S9.out) S10.out) S11.out)); obtain ⟨A, m, c, A', m', c', rfl, ta, tb, tc, td⟩ := t11.open_; obtain ⟨r0, r1, r2, z0, z1, z2⟩ := (P2.out.below' (bcomp (bcomp (bcomp (bcomp (bcomp (bcomp (bcomp (bcomp (bcomp (bcomp S1.out S2.out) S3.out) S4.out) S5.out) S6.out) S7.out) S8.out) S9.out) S10.out) S11.out)).three; have TA := Lib.hid ta; have TB := Lib.hid tb; have TC := Lib.hid tc; have TD := Lib.hid td; clear ta tb tc td; clear t11 hb11))
   go_wp2_with fail
   refine bodyPost_ret (v := .agg #[.bool (isNeg (mkRat (sgn t (n' * d - n * d')) (d * d'))), .slice A m c, .slice A' m' c']) (by simp [results, Tryz.results34, go_sem, r0, r1, r2]) rfl ⟨_, rfl, ?_, below_box3 (PB.out.trans (((bcomp (bcomp (bcomp (bcomp (bcomp (bcomp (bcomp (bcomp (bcomp (bcomp S1.out S2.out) S3.out) S4.out) S5.out) S6.out) S7.out) S8.out) S9.out) S10.out) S11.out)).mono (by omega))) (by omega) _ _ _⟩
   rw [HQ.out]
   exact (CanNew.box3 TA.out TB.out TC.out TD.out (by omega) _ _ _).mono (by omega)
  ·have HQ : Hid (q + r = mkRat (sgn s (n * d' - n' * d)) (d * d')) := Lib.hid (by rw [H5.out, G5.out, add_parts_more HST.out (by have := H8.out; omega) (by have := G8.out; omega) hge])
   obtain ⟨z, hz, hz0⟩ : ∃ z, cmpN (n * d') (n' * d) = z ∧ decide (0 ≤ z) = true := ⟨_, rfl, decide_eq_true (by unfold cmpN; rw [if_neg (by omega)]; split <;> omega)⟩
   have OC := orderR w9 _ _ _ _ ((((((T3.out.below S4.out).below S5.out).below S6.out).below S7.out).below S8.out).below S9.out) (((T6.out.below S7.out).below S8.out).below S9.out)
   rw [hz] at OC
   have HGE := Lib.hid hge
   clear hge hz
   go_wp2_with fail
   refine OC.mono ?_
   rintro e wo ⟨rfl, nd, rfl⟩
   obtain ⟨V9, hV9⟩ : ∃ V, V = w9.drewN nd := ⟨_, rfl⟩
   have S10' : Hid (Below w9.heap.size w9 V9) := Lib.hid (by rw [hV9]; exact below_drewN (Below.refl _ _) nd)
   have U3 := Lib.hid ((((((((T3.out.below S4.out).below S5.out).below S6.out).below S7.out).below S8.out).below S9.out)).below S10'.out)
   have U6 := Lib.hid (((((T6.out.below S7.out).below S8.out).below S9.out)).below S10'.out)
   have T9' := Lib.hid (T9.out.below S10'.out)
   have S9' := Lib.hid (bcomp S9.out S10'.out)
   have PP0' := Lib.hid (PP0.out.below' S10'.out)
   have PP1' := Lib.hid (PP1.out.below' S10'.out)
   have hs9' : w8.heap.size ≤ V9.heap.size := S9'.out.size
   rw [← hV9]
   clear hV9 S10' T9 S9 PP0 PP1 p0 p1 p2 q0 q1 q2 hs9 T3 T6
   have T9 := T9'
   have S9 := S9'
   have hs9 := hs9'
   have PP0 := PP0'
   have PP1 := PP1'
   obtain ⟨w9, rfl⟩ : ∃ w9, w9 = V9 := ⟨_, rfl⟩
   clear T9' S9' PP0' PP1' hs9'
   obtain ⟨p0, p1, p2, _, _, _⟩ := PP0.out.three
   obtain ⟨q0, q1, q2, _, _, _⟩ := PP1.out.three
   go_wp2_with fail
   go_region_held3 (fun w' => w'.cell? ⟨w.heap.size, 0, none⟩ = some (.bool s) ∧ w'.cell? ⟨w.heap.size, 1, none⟩ = some (vn) ∧ w'.cell? ⟨w.heap.size, 2, none⟩ = some (vd) ∧ w'.cell? ⟨w.heap.size + 1, 0, none⟩ = some (.bool t) ∧ w'.cell? ⟨w.heap.size + 1, 1, none⟩ = some (vn') ∧ w'.cell? ⟨w.heap.size + 1, 2, none⟩ = some (vd')) (first | assumption | (refine six_box3 hS ?_ ?_ _ _ _ <;> omega) | go_keep)
    (first
     | (go_at_call 102; refine (minusR _ _ _ (n * d') (n' * d) (k + k) (U3.out.drew) (U6.out.drew) (pow_mul_lt H6.out G7.out) HGE.out (by omega)).mono ?_; rintro e w10 ⟨v10, rfl, t10, hb10, _⟩; have S10 : Hid (Below w9.heap.size w9 w10) := Lib.hid (by first | exact hb10 | exact below_of_drew hb10); have hs10 : w9.heap.size ≤ w10.heap.size := S10.out.size; have T10 := Lib.hid t10; have hS := six (P0.out.below' (bcomp (bcomp (bcomp (bcomp (bcomp (bcomp (bcomp (bcomp (bcomp S1.out S2.out) S3.out) S4.out) S5.out) S6.out) S7.out) S8.out) S9.out) S10.out)) (P1.out.below' (bcomp (bcomp (bcomp (bcomp (bcomp (bcomp (bcomp (bcomp (bcomp S1.out S2.out) S3.out) S4.out) S5.out) S6.out) S7.out) S8.out) S9.out) S10.out)); clear t10 hb10)
     | (go_at_call 94; refine (make1N w10 s _ _ (n * d' - n' * d) (d * d') (k + k + 1) T10.out (T9.out.below S10.out) (by have h2 := pow_mul_lt H6.out G7.out; rw [Nat.pow_succ]; omega) (by have := pow_mul_lt H7.out G7.out; rw [Nat.pow_succ]; omega) (Nat.mul_pos H8.out G8.out) (by omega) (by omega)).mono ?_; rintro e w11 ⟨v11, rfl, t11, hb11⟩; have S11 : Hid (Below w10.heap.size w10 w11) := Lib.hid hb11; have hs11 : w10.heap.size ≤ w11.heap.size := S11.out.size; have T11 := Lib.hid t11; have hS := six (P0.out.below' (bcomp (bcomp (bcomp (bcomp (bcomp (bcomp (bcomp (bcomp (bcomp (bcomp S1.out S2.out) S3.out) S4.out) S5.out) S6.out) S7.out) S8.out) S9.out) S10.out) S11.out)) (P1.out.below' (bcomp (bcomp (bcomp (bcomp (bcomp (bcomp (bcomp (bcomp (bcomp (bcomp S1.out S2.out) S3.out) S4.out) S5.out) S6.out) S7.out) S8.out) S9.out) S10.out) S11.out)); obtain ⟨A, m, c, A', m', c', rfl, ta, tb, tc, td⟩ := t11.open_; obtain ⟨r0, r1, r2, z0, z1, z2⟩ := (P2.out.below' (bcomp (bcomp (bcomp (bcomp (bcomp (bcomp (bcomp (bcomp (bcomp (bcomp S1.out S2.out) S3.out) S4.out) S5.out) S6.out) S7.out) S8.out) S9.out) S10.out) S11.out)).three; have TA := Lib.hid ta; have TB := Lib.hid tb; have TC := Lib.hid tc; have TD := Lib.hid td; clear ta tb tc td; clear t11 hb11))
   go_wp2_with fail
   refine bodyPost_ret (v := .agg #[.bool (isNeg (mkRat (sgn s (n * d' - n' * d)) (d * d'))), .slice A m c, .slice A' m' c']) (by simp [results, Tryz.results34, go_sem, r0, r1, r2]) rfl ⟨_, rfl, ?_, below_box3 (PB.out.trans (((bcomp (bcomp (bcomp (bcomp (bcomp (bcomp (bcomp (bcomp (bcomp (bcomp S1.out S2.out) S3.out) S4.out) S5.out) S6.out) S7.out) S8.out) S9.out) S10.out) S11.out)).mono (by omega))) (by omega) _ _ _⟩
   rw [HQ.out]
   exact (CanNew.box3 TA.out TB.out TC.out TD.out (by omega) _ _ _).mono (by omega)
set_option maxRecDepth 1000000 in
set_option maxHeartbeats 1000000 in
theorem subR (w : World) (v v' : Value) (q r : Rat) (k : Nat) (h : FracAt k w v q) (h' : FracAt k w v' r) (h0 : 0 < k) (hk : k ≤ 549755813888) :
  Calls Tryz.prog 32 #[v, v'] w fun e w' => ∃ u, e = .returned u ∧ CanNew w.heap.size w' u (q - r) ∧ Below w.heap.size w w' := by
 have H1 := Lib.hid h
 have H2 := Lib.hid h'
 have Q1 := Lib.hid (h.qb h0)
 have Q2 := Lib.hid (h'.qb h0)
 obtain ⟨s, vn, vd, rfl⟩ := h.shape
 obtain ⟨t, vn', vd', rfl⟩ := h'.shape
 clear h h'
 rw [Rat.sub_eq_add_neg]
 go_enter Tryz.func32, Tryz.ntmps32
 go_wp2_with fail
 obtain ⟨W, hW, P0, P1, P2, PB, Phs⟩ := box3 w 40 [.bool s, vn, vd] 40 [.bool t, vn', vd'] 40 [.bool false, .slice none 0 0, .slice none 0 0]
 rw [← hW]
 clear hW
 obtain ⟨p0, p1, p2, _, _, _⟩ := P0.out.three
 obtain ⟨q0, q1, q2, _, _, _⟩ := P1.out.three
 go_region_held3 (fun w' => w'.cell? ⟨w.heap.size, 0, none⟩ = some (.bool s) ∧ w'.cell? ⟨w.heap.size, 1, none⟩ = some (vn) ∧ w'.cell? ⟨w.heap.size, 2, none⟩ = some (vd) ∧ w'.cell? ⟨w.heap.size + 1, 0, none⟩ = some (.bool t) ∧ w'.cell? ⟨w.heap.size + 1, 1, none⟩ = some (vn') ∧ w'.cell? ⟨w.heap.size + 1, 2, none⟩ = some (vd')) (first | assumption | (refine six_box3 hS ?_ ?_ _ _ _ <;> omega) | go_keep)
  (first
   | (go_at_call 93; refine (negR _ _ r k (H2.out.below (PB.out.trans (below_drew_self _))) h0 (by omega)).mono ?_; rintro e w1 ⟨v1, rfl, t1, hb1⟩; have S1 : Hid (Below W.heap.size W w1) := Lib.hid (by first | exact hb1 | exact below_of_drew hb1); have hs1 : W.heap.size ≤ w1.heap.size := S1.out.size; have T1 := Lib.hid t1; have hS := six (P0.out.below' S1.out) (P1.out.below' S1.out); clear t1 hb1)
   | (go_at_call 34; refine (addR w1 _ _ q (-r) k ((H1.out.below PB.out).below S1.out) (T1.out.at_.frac Q2.out.neg (by omega)) h0 hk).mono ?_; rintro e w2 ⟨v2, rfl, t2, hb2⟩; have S2 : Hid (Below w1.heap.size w1 w2) := Lib.hid hb2; have hs2 : w1.heap.size ≤ w2.heap.size := S2.out.size; have T2 := Lib.hid t2; have hS := six (P0.out.below' (bcomp S1.out S2.out)) (P1.out.below' (bcomp S1.out S2.out)); obtain ⟨A, m, c, A', m', c', rfl, ta, tb, tc, td⟩ := t2.open_; obtain ⟨r0, r1, r2, z0, z1, z2⟩ := (P2.out.below' (bcomp S1.out S2.out)).three; have TA := Lib.hid ta; have TB := Lib.hid tb; have TC := Lib.hid tc; have TD := Lib.hid td; clear ta tb tc td; clear t2 hb2))
 go_wp2_with fail
 refine bodyPost_ret (v := .agg #[.bool (isNeg (q + -r)), .slice A m c, .slice A' m' c']) (by simp [results, Tryz.results32, go_sem, r0, r1, r2]) rfl ⟨_, rfl, ?_, below_box3 (PB.out.trans (((bcomp S1.out S2.out)).mono (by omega))) (by omega) _ _ _⟩
 exact (CanNew.box3 TA.out TB.out TC.out TD.out (by omega) _ _ _).mono (by omega)
set_option maxRecDepth 1000000 in
set_option maxHeartbeats 1000000 in
theorem cmpR (w : World) (v v' : Value) (q r : Rat) (k : Nat) (h : FracAt k w v q) (h' : FracAt k w v' r) (h0 : 0 < k) (hk : k ≤ 549755813888) :
  Calls Tryz.prog 30 #[v, v'] w fun e w' => e = .returned (.int .i64 (sgnI (q - r))) ∧ Below w.heap.size w w' := by
 have H1 := Lib.hid h
 have H2 := Lib.hid h'
 have Q1 := Lib.hid (h.qb h0)
 have Q2 := Lib.hid (h'.qb h0)
 obtain ⟨s, vn, vd, rfl⟩ := h.shape
 obtain ⟨t, vn', vd', rfl⟩ := h'.shape
 clear h h'
 have QS : Hid (QB (k + k + 1) (q - r)) := Lib.hid (by rw [Rat.sub_eq_add_neg]; exact Q1.out.add Q2.out.neg)
 go_enter Tryz.func30, Tryz.ntmps30
 go_wp2_with fail
 obtain ⟨W, hW, P0, P1, PB, Phs⟩ := box2 w 40 [.bool s, vn, vd] 40 [.bool t, vn', vd']
 rw [← hW]
 clear hW
 obtain ⟨p0, p1, p2, _, _, _⟩ := P0.out.three
 obtain ⟨q0, q1, q2, _, _, _⟩ := P1.out.three
 go_wp2_with fail
 refine (subR W _ _ q r k (H1.out.below PB.out) (H2.out.below PB.out) h0 hk).mono ?_
 rintro e w1 ⟨v1, rfl, t1, hb1⟩
 have T1 := Lib.hid t1
 have S1 : Hid (Below W.heap.size W w1) := Lib.hid hb1
 have hs1 : W.heap.size ≤ w1.heap.size := hb1.size
 clear t1 hb1
 go_wp2_with fail
 refine (signR w1 v1 (q - r) (k + k + 1) (T1.out.at_.frac QS.out (by omega)) (by omega)).mono ?_
 rintro e w2 ⟨rfl, hb2⟩
 have S2 : Hid (Below w1.heap.size w1 w2) := Lib.hid hb2
 have hs2 : w1.heap.size ≤ w2.heap.size := hb2.size
 clear hb2
 go_wp2_with fail
 go_ret
 exact ⟨rfl, PB.out.trans (((bcomp S1.out S2.out)).mono (by omega))⟩
set_option maxRecDepth 1000000 in
set_option maxHeartbeats 1000000 in
theorem sumR (w : World) (k : Nat) (lv : Value) (qs : List Rat) (hl : FracsAt k w lv qs) (h0 : 0 < k) (hk : (qs.length + 1) * (2 * k) ≤ 549755813888) :
  Calls Tryz.prog 139 #[lv] w fun e w' => ∃ v', e = .returned v' ∧ CanNew w.heap.size w' v' (sumQ qs) ∧ Below w.heap.size w w' := by
 obtain ⟨A, c, rfl, hlc, hcm, hat⟩ := hl.at_
 have HAT := Lib.hid hat
 clear hl hat
 obtain ⟨n, hn⟩ : ∃ n, qs.length = n := ⟨_, rfl⟩
 have HLN := Lib.hid hn
 rw [hn] at hlc hk ⊢
 clear hn
 have HZ : Hid (QB ((0 + 1) * (2 * k)) (0 : Rat)) := Lib.hid (qb_nat (n := 0) (Nat.pow_pos (by omega)) (by omega))
 go_enter Tryz.func139, Tryz.ntmps139
 go_wp2_with fail
 obtain ⟨W, hW, P0, P1, PB, Phs⟩ := box2 w 40 [.bool false, .slice none 0 0, .slice none 0 0] 40 [.bool false, .slice none 0 0, .slice none 0 0]
 rw [← hW]
 clear hW
 go_loopg [4] n (fun g i wr => ∃ (j : Nat) (q : Rat) (b : Bool) (A1 A1' : Option Addr) (m1 c1 m1' c1' : Nat), i = .int .i64 j ∧ j + g = n ∧ Hid (q = sumQ (qs.take j)) ∧ Hid (QB ((j + 1) * (2 * k)) q) ∧
  Hid (Blk wr w.heap.size 40 [.bool false, .slice none 0 0, .slice none 0 0]) ∧ Hid (Blk wr (w.heap.size + 1) 40 [.bool b, .slice A1 m1 c1, .slice A1' m1' c1']) ∧ Hid (CanNew (w.heap.size + 2) wr (.agg #[.bool b, .slice A1 m1 c1, .slice A1' m1' c1']) q) ∧ Hid (Below w.heap.size w wr))
 case atStart => exact ⟨0, 0, false, none, none, 0, 0, 0, 0, rfl, by omega, Lib.hid rfl, HZ, P0, P1, Lib.hid (CanNew.zero_ _ _), PB⟩
 case round =>
  obtain ⟨j, q, b, A1, A1', m1, c1, m1', c1', rfl, hj, HQ, HQB, RB, BK, NA, BEL⟩ := hrel
  have hsz : w.heap.size + 2 ≤ wr.heap.size := BK.out.lt
  obtain ⟨p0, p1, p2, _, _, _⟩ := BK.out.three
  rcases Nat.eq_zero_or_pos gk with h | h
  ·obtain rfl : j = n := by omega
   obtain ⟨r0, r1, r2, z0, z1, z2⟩ := RB.out.three
   go_wp2_with fail
   refine bodyPost_ret (v := .agg #[.bool b, .slice A1 m1 c1, .slice A1' m1' c1']) (by simp [results, Tryz.results139, go_sem, r0, r1, r2]) rfl ⟨_, rfl, ?_, below_box3 BEL.out (Nat.le_refl _) _ _ _⟩
   obtain ⟨e0, t1, t2, t3, t4⟩ := NA.out.parts
   rw [e0]
   rw [HQ.out, List.take_of_length_le (by rw [HLN.out]; exact Nat.le_refl _)] at t1 t2 ⊢
   exact (CanNew.box3 t1 t2 t3 t4 (by omega) _ _ _).mono (by omega)
  ·obtain ⟨g, rfl⟩ : ∃ g, gk = g + 1 := ⟨gk - 1, by omega⟩
   obtain ⟨x, hx⟩ : ∃ x, qs[j]? = some x := ⟨_, List.getElem?_eq_getElem (by rw [HLN.out]; omega)⟩
   obtain ⟨bb, off, neg, An, nn, cn, Ad, nd, cd, rfl, hbb, e0, e1, e2, hfr⟩ := HAT.out j x hx
   have d0 := (BEL.out.cell (p := ⟨bb, off + j * 3, none⟩) hbb).trans e0
   have d1 := (BEL.out.cell (p := ⟨bb, off + j * 3 + 1, none⟩) hbb).trans e1
   have d2 := (BEL.out.cell (p := ⟨bb, off + j * 3 + 2, none⟩) hbb).trans e2
   have FR := Lib.hid (hfr.below BEL.out)
   have QX := Lib.hid (hfr.qb h0)
   have HX := Lib.hid hx
   have hjk : (j + 1) * (2 * k) ≤ (n + 1) * (2 * k) := Nat.mul_le_mul_right _ (by omega)
   have hjk2 : (j + 1 + 1) * (2 * k) = (j + 1) * (2 * k) + 2 * k := by rw [Nat.add_mul (j + 1) 1, Nat.one_mul]
   have HJ : Hid (k ≤ (j + 1) * (2 * k) ∧ (j + 1) * (2 * k) ≤ 549755813888 ∧ 0 < (j + 1) * (2 * k)) := Lib.hid (by have : 1 * (2 * k) ≤ (j + 1) * (2 * k) := Nat.mul_le_mul_right _ (by omega); omega)
   have HJ2 := Lib.hid hjk2
   have FK : Hid (FracAt ((j + 1) * (2 * k)) wr (.agg #[.bool neg, .slice An nn cn, .slice Ad nd cd]) x) := Lib.hid (FR.out.mono HJ.out.1)
   clear hx e0 e1 e2 hfr hjk hjk2
   go_wp2_with fail
   go_region_with (first
     | (go_at_call 34; refine (addR _ _ _ q x ((j + 1) * (2 * k)) ?_ ?_ HJ.out.2.2 HJ.out.2.1).mono ?_; (exact (NA.out.at_.frac HQB.out (by have := HJ.out; omega)).below (below_drew_self _)); (exact FK.out.below (below_drew_self _)); rintro e w3 ⟨v3, rfl, t3, hb3'⟩; have hb3 := below_of_drew hb3'; have B3 := Lib.hid hb3; have K3 := Lib.hid (BK.out.below' hb3); have hs3 := hb3.size; obtain ⟨A3, m3, c3, A3', m3', c3', rfl, t3a, t3b, t3c, t3d⟩ := t3.open_; obtain ⟨r0, r1, r2, z0, z1, z2⟩ := K3.out.three; have TA := Lib.hid t3a; have TB := Lib.hid t3b; have TC := Lib.hid (t3c.mono (show w.heap.size + 2 ≤ _ from hsz)); have TD := Lib.hid (t3d.mono (show w.heap.size + 2 ≤ _ from hsz)); clear t3 t3a t3b t3c t3d hb3 hb3'))
   all_goals
    go_wp2_with fail
    go_roundg g
    case measure => omega
    case rel =>
     have hx' := HX.out
     exact ⟨j + 1, _, _, A3, A3', m3, c3, m3', c3', rfl, by omega, Lib.hid (by unfold sumQ; rw [take_succ_get _ hx', List.foldl_append, HQ.out]; rfl), Lib.hid (by rw [HJ2.out]; exact (HQB.out.add QX.out).mono (by omega)),
      Lib.hid (Blk.box3far (RB.out.below' B3.out) (by omega) _ _ _), Lib.hid (K3.out.box3 _ _ _), Lib.hid (CanNew.box3 TA.out TB.out TC.out TD.out (by omega) _ _ _), Lib.hid (below_box3 (BEL.out.trans (B3.out.mono (by omega))) (Nat.le_succ _) _ _ _)⟩
set_option maxRecDepth 1000000 in
set_option maxHeartbeats 1000000 in
theorem distributionR (w : World) (k : Nat) (lv : Value) (qs : List Rat) (hl : FracsAt k w lv qs) (h0 : 0 < k) (hk : (qs.length + 1) * (2 * k) ≤ 549755813888) :
  Calls Tryz.prog 87 #[lv] w fun e w' => e = .returned (.bool (distr qs)) ∧ Below w.heap.size w w' := by
 obtain ⟨A, c, rfl, hlc, hcm, hat⟩ := hl.at_
 have hkl : 1 * (2 * k) ≤ (qs.length + 1) * (2 * k) := Nat.mul_le_mul_right _ (by omega)
 have HL := Lib.hid hl
 have HAT := Lib.hid hat
 have SQ : Hid (QB ((qs.length + 1) * (2 * k)) (sumQ qs)) := Lib.hid ((qb_sum qs (hl.qb h0) k 0 (qb_nat (n := 0) (Nat.pow_pos (by omega)) h0)).mono (by
   have : qs.length * (k + 1) ≤ qs.length * (2 * k) := Nat.mul_le_mul_left _ (by omega)
   rw [Nat.add_mul]; omega))
 have Q1 : Hid (QB ((qs.length + 1) * (2 * k)) ((1 : Nat) : Rat)) := Lib.hid (qb_nat (Nat.one_lt_two_pow (by omega)) (by omega))
 clear hl hat
 obtain ⟨n, hn⟩ : ∃ n, qs.length = n := ⟨_, rfl⟩
 have HLN := Lib.hid hn
 rw [hn] at hlc hk hkl HL SQ Q1 ⊢
 clear hn
 have HK := Lib.hid hk
 have HKL := Lib.hid hkl
 clear hk hkl
 unfold distr
 go_enter Tryz.func87, Tryz.ntmps87
 go_wp2_with fail
 go_loopg [3] n (fun g i wr => ∃ (j : Nat), i = .int .i64 j ∧ j + g = n ∧ Hid (firstNeg qs 0 = firstNeg (qs.drop j) j) ∧ Hid (Below w.heap.size w wr))
 case atStart => exact ⟨0, rfl, by omega, Lib.hid rfl, Lib.hid (Below.refl _ _)⟩
 case round =>
  obtain ⟨j, rfl, hj, HQ, BEL⟩ := hrel
  have hsz : w.heap.size ≤ wr.heap.size := BEL.out.size
  rcases Nat.eq_zero_or_pos gk with h | h
  ·obtain rfl : j = n := by omega
   have HF : Hid (decide (0 ≤ firstNeg qs 0) = false) := Lib.hid (by
    rw [HQ.out, List.drop_eq_nil_of_le (by rw [HLN.out]; exact Nat.le_refl _)]
    rfl)
   go_wp2_with fail
   refine (sumR wr k _ qs (HL.out.below BEL.out) h0 (by rw [HLN.out]; exact HK.out)).mono ?_
   rintro e w2 ⟨v2, rfl, t2, hb2⟩
   have B2 := Lib.hid (BEL.out.trans (hb2.mono hsz))
   have T2 := Lib.hid t2
   have hs2 : wr.heap.size ≤ w2.heap.size := hb2.size
   clear t2 hb2
   go_wp2_with fail
   refine (ofR w2 1 (by omega)).mono ?_
   rintro e w3 ⟨v3, rfl, t3, hb3⟩
   have B3 := Lib.hid (B2.out.trans (hb3.mono (by omega)))
   have F2 := Lib.hid ((T2.out.below hb3).at_.frac SQ.out (by have := HK.out; omega))
   have F3 := Lib.hid (t3.at_.frac Q1.out (by have := HK.out; omega))
   have hs3 : w2.heap.size ≤ w3.heap.size := hb3.size
   clear t3 hb3
   go_wp2_with fail
   refine (cmpR w3 v2 v3 (sumQ qs) (1 : Nat) _ F2.out F3.out (by have := HKL.out; omega) HK.out).mono ?_
   rintro e w4 ⟨rfl, hb4⟩
   have B4 := Lib.hid (B3.out.trans (hb4.mono (by omega)))
   clear hb4
   go_wp2_with fail
   go_ret
   refine ⟨?_, B4.out⟩
   rw [HF.out]
   rfl
  ·obtain ⟨g, rfl⟩ : ∃ g, gk = g + 1 := ⟨gk - 1, by omega⟩
   obtain ⟨x, hx⟩ : ∃ x, qs[j]? = some x := ⟨_, List.getElem?_eq_getElem (by rw [HLN.out]; omega)⟩
   obtain ⟨bb, off, neg, An, nn, cn, Ad, nd, cd, rfl, hbb, e0, e1, e2, hfr⟩ := HAT.out j x hx
   have d0 := (BEL.out.cell (p := ⟨bb, off + j * 3, none⟩) hbb).trans e0
   have d1 := (BEL.out.cell (p := ⟨bb, off + j * 3 + 1, none⟩) hbb).trans e1
   have d2 := (BEL.out.cell (p := ⟨bb, off + j * 3 + 2, none⟩) hbb).trans e2
   have FR := Lib.hid (hfr.below BEL.out)
   have DR := Lib.hid (firstNeg_drop hx)
   clear hx e0 e1 e2 hfr
   have SC := signR wr _ x k FR.out h0
   by_cases hd : sgnI x < 0
   ·have HN : Hid (decide (0 ≤ firstNeg qs 0) = true) := Lib.hid (decide_eq_true (by rw [HQ.out, DR.out, if_pos hd]; omega))
    obtain ⟨z, hz, hz0⟩ : ∃ z, sgnI x = z ∧ decide (z < 0) = true := ⟨_, rfl, decide_eq_true hd⟩
    rw [hz] at SC
    clear hz hd
    go_wp2_with fail
    refine SC.mono ?_
    rintro e w1 ⟨rfl, hb1⟩
    have B1 := Lib.hid hb1
    clear hb1
    go_wp2_with fail
    go_ret
    refine ⟨ret_bool ?_, BEL.out.trans (B1.out.mono hsz)⟩
    rw [HN.out]
    rfl
   ·have HN : Hid (firstNeg qs 0 = firstNeg (qs.drop (j + 1)) (j + 1)) := Lib.hid (by rw [HQ.out, DR.out, if_neg hd])
    obtain ⟨z, hz, hz0⟩ : ∃ z, sgnI x = z ∧ decide (z < 0) = false := ⟨_, rfl, decide_eq_false hd⟩
    rw [hz] at SC
    clear hz hd
    go_wp2_with fail
    refine SC.mono ?_
    rintro e w1 ⟨rfl, hb1⟩
    have B1 := Lib.hid hb1
    clear hb1
    go_wp2_with fail
    go_roundg g
    case measure => omega
    case rel => exact ⟨j + 1, rfl, by omega, HN, Lib.hid (BEL.out.trans (B1.out.mono hsz))⟩
def estQ (T : Nat → List Int → Int → Int) (v : Nat) (h : List Int) : Nat → List Rat
 | 0 => flatQ v
 | j + 1 => if 0 < sumC (T (j + 1) (h.drop (h.length - j))) v then shareQ (T (j + 1) (h.drop (h.length - j))) v else estQ T v h j
def mixN (T : Nat → List Int → Int → Int) (v : Nat) (mix : List Rat) (h : List Int) (x : Nat) : Nat → Rat
 | 0 => 0
 | j + 1 => mixN T v mix h x j + mix.getD j 0 * (estQ T v h j).getD x 0
def mixedQ (T : Nat → List Int → Int → Int) (v : Nat) (mix : List Rat) (n : Nat) (h : List Int) : List Rat := (List.range (v + 1)).map fun x => mixN T v mix h x (n + 1)
theorem estQ_length (T : Nat → List Int → Int → Int) (v : Nat) (h : List Int) (j : Nat) : (estQ T v h j).length = v + 1 := by
 induction j with
 | zero => exact flatQ_length v
 | succ n ih => unfold estQ; split; exact shareQ_length _ _; exact ih
theorem mixedQ_length (T : Nat → List Int → Int → Int) (v : Nat) (mix : List Rat) (n : Nat) (h : List Int) : (mixedQ T v mix n h).length = v + 1 := by simp [mixedQ]
theorem estQ_qb {T : Nat → List Int → Int → Int} (hT : ∀ n h, Mild (T n h)) {v : Nat} (hv : v ≤ 8) (h : List Int) (j : Nat) : ∀ q ∈ estQ T v h j, QB 128 q := by
 induction j with
 | zero => exact flatQ_qb hv
 | succ n ih => unfold estQ; split; exact shareQ_qb (hT _ _) hv; exact ih
theorem mixN_qb {T : Nat → List Int → Int → Int} (hT : ∀ n h, Mild (T n h)) {v : Nat} (hv : v ≤ 8) {mix : List Rat} (hm : ∀ q ∈ mix, QB 64 q) (h : List Int) (x j : Nat) : QB (1 + j * 193) (mixN T v mix h x j) := by
 induction j with
 | zero => exact qb_zero _ (by omega)
 | succ j ih =>
  unfold mixN
  exact (ih.add ((getD_mem (i := j) (qb_zero 64 (by omega)) hm).mul (getD_mem (i := x) (qb_zero 128 (by omega)) (estQ_qb hT hv h j)))).mono (by omega)
theorem mixedQ_qb {T : Nat → List Int → Int → Int} (hT : ∀ n h, Mild (T n h)) {v : Nat} (hv : v ≤ 8) {mix : List Rat} (hm : ∀ q ∈ mix, QB 64 q) {n : Nat} (hn : n ≤ 4) (h : List Int) : ∀ q ∈ mixedQ T v mix n h, QB 966 q := by
 intro q hq
 obtain ⟨x, _, rfl⟩ := List.mem_map.1 hq
 exact (mixN_qb hT hv hm h x (n + 1)).mono (by omega)
end Go.Proofs.YtjebfdfkjlkifaaGreat
