/- Lemmas on the way: Frac2, Frac3, Frac6, Frac4. -/
import Derived.Test.YtlhankdkhiilkaaGreatI07
import Derived.Deep.DeepCutAuto
set_option linter.unusedSimpArgs false
set_option linter.unusedVariables false
set_option linter.unusedSectionVars false
set_option linter.unnecessarySimpa false
namespace Go.Proofs.YtlhankdkhiilkaaGreat
open Go.RowKit
def fracVal (neg : Bool) (n d : Nat) : Rat := mkRat (sgn neg n) (if d = 0 then 1 else d)

def FracAt (k : Nat) (w : World) (v : Value) (q : Rat) : Prop := ∃ neg vn vd ln ld, v = .agg #[.bool neg, vn, vd] ∧ DigAt w vn ln ∧ DigAt w vd ld ∧
 q = fracVal neg (val ln) (val ld) ∧ val ln < 2 ^ k ∧ val ld < 2 ^ k ∧ ln.length ≤ 17592186044416 ∧ ld.length ≤ 17592186044416
theorem FracAt.below {k : Nat} {w w' : World} {v : Value} {q : Rat} (h : FracAt k w v q) (hb : Below w.heap.size w w') : FracAt k w' v q := by
 obtain ⟨neg, vn, vd, ln, ld, e, h1, h2, h3⟩ := h
 exact ⟨neg, vn, vd, ln, ld, e, h1.below hb, h2.below hb, h3⟩
theorem FracAt.qb {k : Nat} {w : World} {v : Value} {q : Rat} (h : FracAt k w v q) (hk : 0 < k) : QB k q := by
 obtain ⟨neg, vn, vd, ln, ld, e, _, _, rfl, h1, h2, _⟩ := h
 unfold fracVal
 have := Nat.one_lt_two_pow (n := k) (by omega)
 exact QB.red h1 (by split <;> omega) (by split <;> omega)

set_option maxRecDepth 1000000 in
set_option maxHeartbeats 1000000 in
theorem take (w : World) (v : Value) (q : Rat) (k : Nat) (h : FracAt k w v q) (h0 : 0 < k) (hk : k ≤ 17592186044416) :
  Calls Tryz.prog 30 #[v] w fun e w' => ∃ v', e = .returned v' ∧ NumNew w.heap.size w' v' q ∧ Below w.heap.size w w' := by
 obtain ⟨neg, vn, vd, ln, ld, rfl, h1, h2, h3, h4, h5, h6, h7⟩ := h
 obtain ⟨_, A, c, rfl, hlc, hcm, _⟩ := h1.open_
 obtain ⟨_, A', c', rfl, hlc', hcm', _⟩ := h2.open_
 have H1 := Lib.hid h1
 have H2 := Lib.hid h2
 have H3 := Lib.hid h3
 have H4 := Lib.hid h4
 have H5 := Lib.hid h5
 clear h1 h2 h3 h4 h5
 have HW : Hid (∀ o o', Below w.heap.size w ((w.alloc o).alloc o')) := Lib.hid (fun o o' => ((Below.refl _ _).alloc (Nat.le_refl _) o).alloc (by simp) o')
 have hd0 : 0 < 2 ^ k := Nat.pow_pos (by omega)
 have h1k := Nat.one_lt_two_pow (n := k) (by omega)
 have HK1 := Lib.hid h1k
 clear hd0 h1k
 go_enter Tryz.func30, Tryz.ntmps30
 go_wp2_with fail
 refine (trimmed _ _ ld ((H2.out.alloc _).alloc _) h7).mono ?_
 rintro e w1 ⟨v1, rfl, t1, hb1⟩
 have hs1 : w.heap.size + 2 ≤ w1.heap.size := by have := hb1.size; simpa using this
 have T1 := Lib.hid t1
 have N1 := Lib.hid (((H1.out.alloc _).alloc _).below hb1)
 have B1 := Lib.hid ((HW.out _ _).trans (hb1.mono (by simp; omega)))
 have P1 := Lib.hid (((Blk.new w 27 [.bool neg, .slice A ln.length c, .slice A' ld.length c']).alloc _).below' hb1)
 have R1 : Hid (Blk w1 (w.heap.size + 1) 97 [.bool false, .slice none 0 0, .slice none 0 0]) := Lib.hid (by
  have := (Blk.new (w.alloc (.cells #[.bool neg, .slice A ln.length c, .slice A' ld.length c'] 27)) 97 [.bool false, .slice none 0 0, .slice none 0 0]).below' hb1
  rwa [World.size_alloc] at this)
 clear hb1 t1
 obtain ⟨A1, m, c1, rfl, hm, hmp⟩ := T1.out.len
 have HMP := Lib.hid hmp
 clear hmp
 obtain ⟨p0, p1, p2, _, _, _⟩ := P1.out.three
 by_cases h0' : 0 < m
 ·have hm0 : ((m : Int) == 0) = false := by simp; omega
  have hq : q = mkRat (sgn neg (val ln)) (val ld) := by
   rw [H3.out]
   unfold fracVal
   rw [if_neg (by have := HMP.out.1 h0'; omega)]
  have HQ := Lib.hid hq
  clear hq
  go_wp2_with fail
  go_region_with (first
   | (go_at_call 64; refine (trimmed _ _ ln ?_ h6).mono ?_; (exact N1.out); rintro e w2 ⟨v2, rfl, t2, hb2'⟩; have hb2 : Below w1.heap.size w1 w2 := (by first | exact hb2' | exact below_of_drew hb2'); have T2 := Lib.hid t2; have D2 := Lib.hid (T1.out.below hb2); have P2 := Lib.hid (P1.out.below' hb2); have R2 := Lib.hid (R1.out.below' hb2); have B2 := Lib.hid (B1.out.trans (hb2.mono (by omega))); clear t2 hb2 hb2'; obtain ⟨p0', p1', p2', _, _, _⟩ := P2.out.three)
   | (go_at_call 66; refine (reduced _ neg _ _ (val ln) (val ld) k T2.out D2.out H4.out H5.out hk (HMP.out.1 h0')).mono ?_; rintro e w3 ⟨v3, rfl, t3, hb3⟩; obtain ⟨A3, m3, c3, A3', m3', c3', rfl, t3a, t3b, t3c, t3d⟩ := t3.open_; obtain ⟨r0, r1, r2, z0, z1, z2⟩ := (R2.out.below' hb3).three; have TA := Lib.hid t3a; have TB := Lib.hid t3b; have TC := Lib.hid t3c; have TD := Lib.hid t3d; have B3 := Lib.hid (B2.out.trans (hb3.mono B2.out.size)); have RL := Lib.hid (R2.out.lt); clear t3 t3a t3b t3c t3d hb3))
  all_goals
   go_wp2_with fail
   refine bodyPost_ret (v := .agg #[.bool (isNeg (mkRat (sgn neg (val ln)) (val ld))), .slice A3 m3 c3, .slice A3' m3' c3']) (by simp [results, Tryz.results30, go_sem, r0, r1, r2]) rfl ⟨_, rfl, ?_, below_box3 B3.out (Nat.le_succ _) _ _ _⟩
   rw [HQ.out]
   exact (NumNew.box3 TA.out TB.out TC.out TD.out RL.out _ _ _).mono (by have := RL.out; omega)
 ·have hm0 : ((m : Int) == 0) = true := by simp; omega
  have hv0 : val ld = 0 := by have := HMP.out; omega
  have hq : q = mkRat (sgn neg (val ln)) 1 := by
   rw [H3.out]
   unfold fracVal
   rw [if_pos hv0]
  have HQ := Lib.hid hq
  clear hq hv0
  go_wp2_with fail
  refine (small w1 1 (by omega)).mono ?_
  rintro e w1b ⟨vs, rfl, ts, hbs⟩
  have T1 := Lib.hid ts
  have N1 := Lib.hid (N1.out.below hbs)
  have B1 := Lib.hid (B1.out.trans (hbs.mono (by omega)))
  have P1 := Lib.hid (P1.out.below' hbs)
  have R1 := Lib.hid (R1.out.below' hbs)
  have hs1 : w.heap.size + 2 ≤ w1b.heap.size := by have := hbs.size; omega
  obtain ⟨p0, p1, p2, _, _, _⟩ := P1.out.three
  clear ts hbs
  go_wp2_with fail
  go_region_with (first
   | (go_at_call 64; refine (trimmed _ _ ln ?_ h6).mono ?_; (exact N1.out); rintro e w2 ⟨v2, rfl, t2, hb2'⟩; have hb2 : Below w1b.heap.size w1b w2 := (by first | exact hb2' | exact below_of_drew hb2'); have T2 := Lib.hid t2; have D2 := Lib.hid (T1.out.below hb2); have P2 := Lib.hid (P1.out.below' hb2); have R2 := Lib.hid (R1.out.below' hb2); have B2 := Lib.hid (B1.out.trans (hb2.mono (by omega))); clear t2 hb2 hb2'; obtain ⟨p0', p1', p2', _, _, _⟩ := P2.out.three)
   | (go_at_call 66; refine (reduced _ neg _ _ (val ln) 1 k T2.out D2.out H4.out HK1.out hk (by omega)).mono ?_; rintro e w3 ⟨v3, rfl, t3, hb3⟩; obtain ⟨A3, m3, c3, A3', m3', c3', rfl, t3a, t3b, t3c, t3d⟩ := t3.open_; obtain ⟨r0, r1, r2, z0, z1, z2⟩ := (R2.out.below' hb3).three; have TA := Lib.hid t3a; have TB := Lib.hid t3b; have TC := Lib.hid t3c; have TD := Lib.hid t3d; have B3 := Lib.hid (B2.out.trans (hb3.mono B2.out.size)); have RL := Lib.hid (R2.out.lt); clear t3 t3a t3b t3c t3d hb3))
  all_goals
   go_wp2_with fail
   refine bodyPost_ret (v := .agg #[.bool (isNeg (mkRat (sgn neg (val ln)) (1))), .slice A3 m3 c3, .slice A3' m3' c3']) (by simp [results, Tryz.results30, go_sem, r0, r1, r2]) rfl ⟨_, rfl, ?_, below_box3 B3.out (Nat.le_succ _) _ _ _⟩
   rw [HQ.out]
   exact (NumNew.box3 TA.out TB.out TC.out TD.out RL.out _ _ _).mono (by have := RL.out; omega)
def CanAt (w : World) (v : Value) (q : Rat) : Prop := ∃ vn vd, v = .agg #[.bool (isNeg q), vn, vd] ∧ NatAt w vn q.num.natAbs ∧ NatAt w vd (if q.den = 1 then 0 else q.den)
def CanNew (B : Nat) (w : World) (v : Value) (q : Rat) : Prop := ∃ vn vd, v = .agg #[.bool (isNeg q), vn, vd] ∧ NatAt w vn q.num.natAbs ∧ NatAt w vd (if q.den = 1 then 0 else q.den) ∧ From vn B ∧ From vd B

theorem clone_nat (w : World) (v : Value) (n k : Nat) (h : NatAt w v n) (hn : n < 2 ^ k) (hk : k ≤ 70368744177664) :
  Calls Tryz.prog 67 #[v] w fun e w' => ∃ v', e = .returned v' ∧ NatAt w' v' n ∧ Below w.heap.size w w' ∧ From v' w.heap.size := by
 obtain ⟨l, d, t, rfl⟩ := h
 refine (clone_natural w v l.length (l.map dg) d.1 (dg_one l) (by have := t.length_le hn; omega)).mono ?_
 rintro e w' ⟨v', rfl, h1, h2, base, hbase, hown⟩
 exact ⟨v', rfl, ⟨l, ⟨h1, d.2⟩, t, rfl⟩, h2, (From.of_own hown).mono hbase⟩

set_option maxRecDepth 1000000 in
set_option maxHeartbeats 1000000 in
theorem give (w : World) (v : Value) (q : Rat) (k : Nat) (h : NumAt w v q) (hb : QB k q) (hk : k ≤ 17592186044416) :
  Calls Tryz.prog 31 #[v] w fun e w' => ∃ v', e = .returned v' ∧ CanNew w.heap.size w' v' q ∧ Below w.heap.size w w' := by
 obtain ⟨A, m, c, A', m', c', rfl, hm, hm', hp, h1, h2⟩ := h.open_
 have H1 := Lib.hid h1
 have H2 := Lib.hid h2
 have HQ1 := Lib.hid hb.1
 have HQ2 := Lib.hid hb.2
 have HC : Hid (cmpN q.den 1 = 0 ∧ q.den = 1 ∨ cmpN q.den 1 = 1 ∧ q.den ≠ 1) := Lib.hid (by
  have := q.den_pos
  rcases Nat.lt_or_ge 1 q.den with h | h
  ·exact .inr ⟨cmpN_gt h, by omega⟩
  ·have : q.den = 1 := by omega
   exact .inl ⟨by rw [this]; exact cmpN_eq 1, this⟩)
 clear h h1 h2 hb hp
 obtain ⟨neg, hneg⟩ : ∃ b, isNeg q = b := ⟨_, rfl⟩
 have HNEG := Lib.hid hneg
 rw [hneg]
 clear hneg
 have HW : Hid (∀ o o', Below w.heap.size w ((w.alloc o).alloc o')) := Lib.hid (fun o o' => ((Below.refl _ _).alloc (Nat.le_refl _) o).alloc (by simp) o')
 have HW1 : Hid (∀ o o', NatAt ((w.alloc o).alloc o') (.slice A m c) q.num.natAbs ∧ NatAt ((w.alloc o).alloc o') (.slice A' m' c') q.den) := Lib.hid (fun o o' => ⟨(H1.out.alloc _).alloc _, (H2.out.alloc _).alloc _⟩)
 have HW2 : Hid (∀ (a b : Array Value) s t, (((w.alloc (.cells a s)).alloc (.cells b t)).heap.size = w.heap.size + 2)) := Lib.hid (fun _ _ _ _ => by simp)
 go_enter Tryz.func31, Tryz.ntmps31
 go_upto_region 1 with fail
 obtain ⟨W, hW⟩ : ∃ W, W = (w.alloc (.cells #[.bool neg, .slice A m c, .slice A' m' c'] 97)).alloc (.cells #[.bool false, .slice none 0 0, .slice none 0 0] 27) := ⟨_, rfl⟩
 have P0 : Hid (Blk W w.heap.size 97 [.bool neg, .slice A m c, .slice A' m' c']) := Lib.hid (by rw [hW]; exact (Blk.new w _ _).alloc _)
 have R0 : Hid (Blk W (w.heap.size + 1) 27 [.bool false, .slice none 0 0, .slice none 0 0]) := Lib.hid (by
  rw [hW]
  have := Blk.new (w.alloc (.cells #[.bool neg, .slice A m c, .slice A' m' c'] 97)) 27 [.bool false, .slice none 0 0, .slice none 0 0]
  rwa [World.size_alloc] at this)
 have N0 : Hid (NatAt W (.slice A m c) q.num.natAbs ∧ NatAt W (.slice A' m' c') q.den) := Lib.hid (by rw [hW]; exact HW1.out _ _)
 have B0 : Hid (Below w.heap.size w W) := Lib.hid (by rw [hW]; exact HW.out _ _)
 have hs0 : W.heap.size = w.heap.size + 2 := by rw [hW]; exact HW2.out _ _ _ _
 rw [← hW]
 clear hW
 obtain ⟨p0, p1, p2, _, _, _⟩ := P0.out.three
 have HS0 := Lib.hid hs0
 have hs1 : w.heap.size + 2 ≤ W.heap.size := by omega
 clear hs0
 go_cut [3] (fun s3 wx => ∃ F A1 m1 c1, s3 = .pointer (some ⟨F, 0, none⟩) ∧ w.heap.size + 2 ≤ F ∧ Blk wx F 27 [.bool neg, .slice A1 m1 c1, .slice none 0 0] ∧
  NatAt wx (.slice A1 m1 c1) q.num.natAbs ∧ From (.slice A1 m1 c1) (w.heap.size + 2) ∧ Off (.slice A1 m1 c1) F ∧ Below (w.heap.size + 2) W wx)
 case first =>
  go_region_held3 (fun w' => w'.cell? ⟨w.heap.size, 0, none⟩ = some (.bool neg) ∧ w'.cell? ⟨w.heap.size, 1, none⟩ = some (.slice A m c)) (first | go_keep | assumption | exact ⟨cell_box3 hS.1 (show w.heap.size ≠ _ by (try simp); omega) _ _ _, cell_box3 hS.2 (show w.heap.size ≠ _ by (try simp); omega) _ _ _⟩)
   (first
    | (go_at_call 67; refine (clone_nat _ _ q.num.natAbs k ?_ HQ1.out (by omega)).mono ?_; (exact (N0.out.1.alloc _).drew); rintro e w1 ⟨v1, rfl, t1, hb1', f1⟩; have hb1 := below_of_drew hb1'; have PP := (P0.out.alloc (.cells #[.bool false, .slice none 0 0, .slice none 0 0] 27)).below' hb1; have hS := And.intro PP.three.1 PP.three.2.1; obtain ⟨A1, m1, c1, rfl, _⟩ := t1.len; obtain ⟨r0, r1, r2, z0, z1, z2⟩ := ((Blk.new W 27 [.bool false, .slice none 0 0, .slice none 0 0]).below' hb1).three; have BN := Lib.hid ((Blk.new W 27 [.bool false, .slice none 0 0, .slice none 0 0]).below' hb1); have hsz := hb1.size; have T1 := Lib.hid t1; have F1 := Lib.hid (show From _ (W.heap.size + 1) from by simpa using f1); have BB1 := Lib.hid (((Below.refl _ W).alloc (Nat.le_refl _) _).trans (hb1.mono (by simp))); clear t1 f1 hb1 hb1')
    | (go_at_call 67; refine (clone_nat _ _ q.num.natAbs k ?_ HQ1.out (by omega)).mono ?_; (exact N0.out.1.drew); rintro e w1 ⟨v1, rfl, t1, hb1', f1⟩; have hb1 := below_of_drew hb1'; have PP := P0.out.below' hb1; have hS := And.intro PP.three.1 PP.three.2.1; obtain ⟨A1, m1, c1, rfl, _⟩ := t1.len; have hsz := hb1.size; have T1 := Lib.hid t1; have F1 := Lib.hid (show From _ W.heap.size from f1); have BB1 := Lib.hid hb1; clear t1 f1 hb1 hb1'))
  ·go_wp2_with fail
   go_meet
   have e0 := HS0.out
   exact ⟨_, _, _, _, rfl, by omega, Blk.new w1 27 [.bool neg, .slice A1 m1 c1, .slice none 0 0], T1.out.alloc _, F1.out.mono (by omega), T1.out.off (Nat.le_refl _), (BB1.out.alloc hsz _).mono (by omega)⟩
  ·go_wp2_with fail
   go_meet
   have e0 := HS0.out
   exact ⟨_, _, _, _, rfl, by omega, BN.out.box3 _ _ _, T1.out.box3off (F1.out.off (Nat.lt_succ_self _)) _ _ _, F1.out.mono (by omega), F1.out.off (Nat.lt_succ_self _), (below_box3 BB1.out (Nat.le_refl _) _ _ _).mono (by omega)⟩
 case rest =>
  obtain ⟨F, A1, m1, c1, rfl, hF, hfb, hn1, hf1, ho1, hb1⟩ := hcut
  have FB := Lib.hid hfb
  have N1 := Lib.hid hn1
  have F1 := Lib.hid hf1
  have O1 := Lib.hid ho1
  have BB1 := Lib.hid hb1
  have PP : Hid (Blk wc w.heap.size 97 [.bool neg, .slice A m c, .slice A' m' c']) := Lib.hid (P0.out.below hb1 (by omega))
  have D1 : Hid (NatAt wc (.slice A' m' c') q.den) := Lib.hid (N0.out.2.below (hb1.mono (by have := HS0.out; omega)))
  have hs2 : W.heap.size ≤ wc.heap.size := hb1.size
  clear hfb hn1 hf1 ho1 hb1 p0 p1 p2
  obtain ⟨p0, p1, p2, _, _, _⟩ := PP.out.three
  rcases HC.out with hc | hc
  ·have CM : Hid (∀ W v2, NatAt W (.slice A' m' c') q.den → NatAt W v2 1 → Calls Tryz.prog 68 #[.slice A' m' c', v2] W fun e w' => e = .returned (.int .i64 0) ∧ ∃ k, w' = W.drewN k) := Lib.hid (fun W v2 h1 h2 => by have := compare W _ _ _ _ h1 h2; rwa [hc.1] at this)
   have HD := Lib.hid hc.2
   clear hc
   go_upto_region 2 with fail
   go_region_held3 (fun w' => w'.cell? ⟨w.heap.size, 2, none⟩ = some (.slice A' m' c')) (first | go_keep | assumption)
    (first
     | (go_at_call 65; refine (small _ 1 (by omega)).mono ?_; rintro e w2 ⟨v2, rfl, t2, hb2'⟩; have hb2 := below_of_drew hb2'; have hS := (PP.out.below' hb2).three.2.2.1; have T2 := Lib.hid t2; have BB2 := Lib.hid hb2; have PP2 := Lib.hid (PP.out.below' hb2); have D2 := Lib.hid (D1.out.below hb2); clear t2 hb2 hb2')
     | (go_at_call 68; refine (CM.out _ _ D2.out T2.out).mono ?_; rintro e w3 ⟨rfl, nd, rfl⟩; have hS := (PP2.out.drewN nd).three.2.2.1))
   obtain ⟨f0, f1, f2, _, _, _⟩ := (FB.out.below' BB2.out).three
   obtain ⟨r0, r1, r2, z0, z1, z2⟩ := ((R0.out.below BB1.out (by omega)).below' BB2.out).three
   have BA := Lib.hid (B0.out.trans ((BB1.out.mono (by omega)).trans (BB2.out.mono (by omega))))
   have NA := Lib.hid (N1.out.below BB2.out)
   go_wp2_with fail
   refine bodyPost_ret (v := .agg #[.bool neg, .slice A1 m1 c1, .slice none 0 0]) (by simp [results, Tryz.results31, go_sem, r0, r1, r2]) rfl ⟨_, rfl, ⟨_, _, by rw [HNEG.out], ?_, ?_, F1.out.mono (by omega), From.nil_ _⟩, below_box3 (below_drewN BA.out nd) (Nat.le_succ _) _ _ _⟩
   ·exact (NA.out.drewN nd).box3 (F1.out.mono (by omega)) _ _ _
   ·rw [if_pos HD.out]
    exact NatAt.nil_ _
  ·have CM : Hid (∀ W v2, NatAt W (.slice A' m' c') q.den → NatAt W v2 1 → Calls Tryz.prog 68 #[.slice A' m' c', v2] W fun e w' => e = .returned (.int .i64 1) ∧ ∃ k, w' = W.drewN k) := Lib.hid (fun W v2 h1 h2 => by have := compare W _ _ _ _ h1 h2; rwa [hc.1] at this)
   have HD := Lib.hid hc.2
   clear hc
   go_upto_region 2 with fail
   go_region_held3 (fun w' => w'.cell? ⟨w.heap.size, 2, none⟩ = some (.slice A' m' c')) (first | go_keep | assumption)
    (first
     | (go_at_call 65; refine (small _ 1 (by omega)).mono ?_; rintro e w2 ⟨v2, rfl, t2, hb2'⟩; have hb2 := below_of_drew hb2'; have hS := (PP.out.below' hb2).three.2.2.1; have T2 := Lib.hid t2; have BB2 := Lib.hid hb2; have PP2 := Lib.hid (PP.out.below' hb2); have D2 := Lib.hid (D1.out.below hb2); clear t2 hb2 hb2')
     | (go_at_call 68; refine (CM.out _ _ D2.out T2.out).mono ?_; rintro e w3 ⟨rfl, nd, rfl⟩; have hS := (PP2.out.drewN nd).three.2.2.1))
   obtain ⟨f0, f1, f2, y0, y1, y2⟩ := (FB.out.below' BB2.out).three
   have BA := Lib.hid (B0.out.trans ((BB1.out.mono (by omega)).trans (BB2.out.mono (by omega))))
   have NA := Lib.hid (N1.out.below BB2.out)
   have QA := Lib.hid (PP.out.below' BB2.out)
   obtain ⟨q0, q1, q2, _, _, _⟩ := QA.out.three
   have hs3 : wc.heap.size ≤ w2.heap.size := BB2.out.size
   have RA := Lib.hid ((R0.out.below BB1.out (by omega)).below' BB2.out)
   have FA := Lib.hid (FB.out.below' BB2.out)
   go_wp2_with fail
   refine (clone_nat _ _ q.den k (D2.out.drewN nd) HQ2.out (by omega)).mono ?_
   rintro e w4 ⟨v4, rfl, t4, hb4', f4⟩
   have hb4 := below_of_drewN hb4'
   obtain ⟨A4, m4, c4, rfl, _⟩ := t4.len
   have R4 := Lib.hid (RA.out.below' hb4)
   have FC := Lib.hid (FA.out.below' hb4)
   have N4 := Lib.hid (NA.out.below hb4)
   have BC := Lib.hid (BA.out.trans (hb4.mono (by omega)))
   have T4 := Lib.hid t4
   have F4 := Lib.hid (show From _ w2.heap.size from f4)
   have hF2 : F < w2.heap.size := FA.out.lt
   clear t4 hb4 hb4' f4 f0 f1 f2 y0 y1 y2 q0 q1 q2
   obtain ⟨f0, f1, f2, y0, y1, y2⟩ := FC.out.three
   obtain ⟨r0, r1, r2, z0, z1, z2⟩ := R4.out.three
   have hne : F ≠ w.heap.size + 1 := by omega
   go_wp2_with fail
   refine bodyPost_ret (v := .agg #[.bool neg, .slice A1 m1 c1, .slice A4 m4 c4]) (by simp [results, Tryz.results31, go_sem, r0, r1, r2]) rfl ⟨_, rfl, ⟨_, _, by rw [HNEG.out], ?_, ?_, F1.out.mono (by omega), F4.out.mono (by omega)⟩, below_box3 (BC.out.setCell (p := ⟨F, 2, none⟩) (by show w.heap.size ≤ F; omega) _) (Nat.le_succ _) _ _ _⟩
   ·exact (N4.out.setOff (p := ⟨F, 2, none⟩) O1.out _).box3 (F1.out.mono (by omega)) _ _ _
   ·rw [if_neg HD.out]
    exact (T4.out.setFar (p := ⟨F, 2, none⟩) F4.out hF2 _).box3 (F4.out.mono (by omega)) _ _ _
theorem isNeg_neg (q : Rat) : isNeg (-q) = (!isNeg q && decide (0 < q.num.natAbs)) := by
 unfold isNeg
 rw [Rat.neg_num, Bool.eq_iff_iff]
 simp only [decide_eq_true_eq, Bool.and_eq_true, Bool.not_eq_true', decide_eq_false_iff_not]
 omega

set_option maxRecDepth 1000000 in
set_option maxHeartbeats 1000000 in
theorem minusN (w : World) (v : Value) (q : Rat) (h : NumAt w v q) :
  Calls Tryz.prog 38 #[v] w fun e w' => ∃ v', e = .returned v' ∧ NumAt w' v' (-q) ∧ Below w.heap.size w w' := by
 obtain ⟨A, m, c, A', m', c', rfl, hm, hm', hp, h1, h2⟩ := h.open_
 have H1 := Lib.hid h1
 have H2 := Lib.hid h2
 have HN := Lib.hid (isNeg_neg q)
 have HP : Hid (∀ W, NatAt W (.slice A m c) q.num.natAbs → NatAt W (.slice A m c) (-q).num.natAbs) := Lib.hid (fun W h => by rwa [Rat.neg_num, Int.natAbs_neg])
 have HE : Hid (decide (0 < q.num.natAbs) = decide (0 < m)) := Lib.hid (decide_eq_decide.2 hp.symm)
 clear h h1 h2 hp
 generalize isNeg q = s at *
 go_enter Tryz.func38, Tryz.ntmps38
 go_upto_region 1 with fail
 obtain ⟨W, hW, P0, P1, PB, Phs⟩ := box2 w 97 [.bool s, .slice A m c, .slice A' m' c'] 97 [.bool false, .slice none 0 0, .slice none 0 0]
 rw [← hW]
 clear hW
 obtain ⟨p0, p1, p2, _, _, _⟩ := P0.out.three
 obtain ⟨r0, r1, r2, z0, z1, z2⟩ := P1.out.three
 cases s
 ·by_cases h : 0 < m
  ·go_wp2_with fail
   refine bodyPost_ret (v := .agg #[.bool true, .slice A m c, .slice A' m' c']) (by simp [results, Tryz.results38, go_sem, r0, r1, r2]) rfl ⟨_, rfl, ⟨.slice A m c, .slice A' m' c', by rw [HN.out, HE.out]; simp [h], ?_, ?_⟩, below_box3 PB.out (Nat.le_succ _) _ _ _⟩
   ·exact HP.out _ ((H1.out.below PB.out).box3off (H1.out.off (Nat.le_succ _)) _ _ _)
   ·exact (H2.out.below PB.out).box3off (H2.out.off (Nat.le_succ _)) _ _ _
  ·go_wp2_with fail
   refine bodyPost_ret (v := .agg #[.bool false, .slice A m c, .slice A' m' c']) (by simp [results, Tryz.results38, go_sem, r0, r1, r2]) rfl ⟨_, rfl, ⟨.slice A m c, .slice A' m' c', by rw [HN.out, HE.out]; simp [h], ?_, ?_⟩, below_box3 PB.out (Nat.le_succ _) _ _ _⟩
   ·exact HP.out _ ((H1.out.below PB.out).box3off (H1.out.off (Nat.le_succ _)) _ _ _)
   ·exact (H2.out.below PB.out).box3off (H2.out.off (Nat.le_succ _)) _ _ _
 ·go_wp2_with fail
  refine bodyPost_ret (v := .agg #[.bool false, .slice A m c, .slice A' m' c']) (by simp [results, Tryz.results38, go_sem, r0, r1, r2]) rfl ⟨_, rfl, ⟨.slice A m c, .slice A' m' c', by rw [HN.out]; simp, ?_, ?_⟩, below_box3 PB.out (Nat.le_succ _) _ _ _⟩
  ·exact HP.out _ ((H1.out.below PB.out).box3off (H1.out.off (Nat.le_succ _)) _ _ _)
  ·exact (H2.out.below PB.out).box3off (H2.out.off (Nat.le_succ _)) _ _ _

theorem inv_num (q : Rat) (h : q ≠ 0) : q⁻¹.num.natAbs = q.den ∧ q⁻¹.den = q.num.natAbs ∧ isNeg q⁻¹ = isNeg q := by
 have h0 : q.num ≠ 0 := fun e => h (Rat.num_eq_zero.1 e)
 have hd := q.den_pos
 refine ⟨?_, ?_, ?_⟩
 ·rw [Rat.num_inv, Int.natAbs_mul, Int.natAbs_natCast, Int.natAbs_sign_of_ne_zero h0, Nat.one_mul]
 ·rw [Rat.den_inv, if_neg h0]
 ·unfold isNeg
  rw [Rat.num_inv]
  rcases Int.lt_or_gt_of_ne h0 with h1 | h1
  ·rw [Int.sign_eq_neg_one_of_neg h1]; simp [h1]; omega
  ·rw [Int.sign_eq_one_of_pos h1]; simp; omega

set_option maxRecDepth 1000000 in
set_option maxHeartbeats 1000000 in
theorem inverseN (w : World) (v : Value) (q : Rat) (h : NumAt w v q) (h0 : q ≠ 0) :
  Calls Tryz.prog 208 #[v] w fun e w' => ∃ v', e = .returned v' ∧ NumAt w' v' (q⁻¹) ∧ Below w.heap.size w w' := by
 obtain ⟨A, m, c, A', m', c', rfl, hm, hm', hp, h1, h2⟩ := h.open_
 have H1 := Lib.hid h1
 have H2 := Lib.hid h2
 have HI := Lib.hid (inv_num q h0)
 clear h h1 h2 hp h0
 generalize isNeg q = s at *
 go_enter Tryz.func208, Tryz.ntmps208
 go_upto_region 1 with fail
 obtain ⟨W, hW, P0, P1, PB, Phs⟩ := box2 w 97 [.bool s, .slice A m c, .slice A' m' c'] 97 [.bool false, .slice none 0 0, .slice none 0 0]
 rw [← hW]
 clear hW
 obtain ⟨p0, p1, p2, _, _, _⟩ := P0.out.three
 obtain ⟨r0, r1, r2, z0, z1, z2⟩ := P1.out.three
 go_wp2_with fail
 refine bodyPost_ret (v := .agg #[.bool s, .slice A' m' c', .slice A m c]) (by simp [results, Tryz.results208, go_sem, r0, r1, r2]) rfl ⟨_, rfl, ⟨_, _, by rw [HI.out.2.2], ?_, ?_⟩, below_box3 PB.out (Nat.le_succ _) _ _ _⟩
 ·rw [HI.out.1]
  exact (H2.out.below PB.out).box3off (H2.out.off (Nat.le_succ _)) _ _ _
 ·rw [HI.out.2.1]
  exact (H1.out.below PB.out).box3off (H1.out.off (Nat.le_succ _)) _ _ _

set_option maxRecDepth 1000000 in
set_option maxHeartbeats 1000000 in
theorem zeroN (w : World) (v : Value) (q : Rat) (h : NumAt w v q) :
  Calls Tryz.prog 70 #[v] w fun e w' => e = .returned (.bool (decide (q = 0))) ∧ Below w.heap.size w w' := by
 obtain ⟨A, m, c, A', m', c', rfl, hm, hm', hp, h1, h2⟩ := h.open_
 have HE : Hid (decide (q = 0) = decide (m = 0)) := Lib.hid (decide_eq_decide.2 (by rw [← Rat.num_eq_zero]; omega))
 have HW : Hid (∀ o, Below w.heap.size w (w.alloc o)) := Lib.hid (fun o => (Below.refl _ _).alloc (Nat.le_refl _) o)
 clear h h1 h2 hp
 generalize isNeg q = s at *
 go_enter Tryz.func70, Tryz.ntmps70
 go_wp2_with fail
 go_ret
 rw [HE.out]
 refine ⟨?_, HW.out _⟩
 by_cases h : m = 0 <;> simp [h]

def sgnI (q : Rat) : Int := if q = 0 then 0 else if q < 0 then -1 else 1

set_option maxRecDepth 1000000 in
set_option maxHeartbeats 1000000 in
theorem signN (w : World) (v : Value) (q : Rat) (h : NumAt w v q) :
  Calls Tryz.prog 33 #[v] w fun e w' => e = .returned (.int .i64 (sgnI q)) ∧ Below w.heap.size w w' := by
 have HZ := Lib.hid h
 obtain ⟨A, m, c, A', m', c', rfl, hm, hm', hp, h1, h2⟩ := h.open_
 have HS : Hid (sgnI q = if q = 0 then 0 else if isNeg q = true then -1 else 1) := Lib.hid (by unfold sgnI; simp only [isNeg_iff])
 clear h h1 h2 hp
 obtain ⟨s, hs⟩ : ∃ b, isNeg q = b := ⟨_, rfl⟩
 have HSN := Lib.hid hs
 rw [hs]
 clear hs
 go_enter Tryz.func33, Tryz.ntmps33
 go_upto_region 1 with fail
 obtain ⟨W, hW, P0, PB, Phs⟩ := box1 w 97 [.bool s, .slice A m c, .slice A' m' c']
 rw [← hW]
 clear hW
 obtain ⟨p0, p1, p2, _, _, _⟩ := P0.out.three
 have NZ : Hid (NumAt W (.agg #[.bool s, .slice A m c, .slice A' m' c']) q) := Lib.hid (by have := HZ.out.below PB.out; rwa [HSN.out] at this)
 by_cases h0 : q = 0
 ·have hs : sgnI q = 0 := by rw [HS.out, if_pos h0]
  have ZC := zeroN W _ q NZ.out
  rw [decide_eq_true h0] at ZC
  have HZC := Lib.hid ZC
  have HSS := Lib.hid hs
  clear hs ZC h0
  go_wp2_with (go_at_call 70; refine HZC.out.mono ?_; rintro e w1 ⟨rfl, hb1⟩)
  go_ret
  exact ⟨ret_i64 HSS.out.symm, PB.out.trans (hb1.mono (by omega))⟩
 ·have hs : sgnI q = if s = true then -1 else 1 := by rw [HS.out, if_neg h0, HSN.out]
  have ZC := zeroN W _ q NZ.out
  rw [decide_eq_false h0] at ZC
  have HZC := Lib.hid ZC
  have HSS := Lib.hid hs
  clear hs ZC h0
  cases s
  ·go_wp2_with (go_at_call 70; refine HZC.out.mono ?_; rintro e w1 ⟨rfl, hb1⟩; have BB := Lib.hid hb1; obtain ⟨p0', p1', p2', _, _, _⟩ := (P0.out.below' hb1).three; clear hb1)
   go_ret
   exact ⟨ret_i64 HSS.out.symm, PB.out.trans (BB.out.mono (by omega))⟩
  ·go_wp2_with (go_at_call 70; refine HZC.out.mono ?_; rintro e w1 ⟨rfl, hb1⟩; have BB := Lib.hid hb1; obtain ⟨p0', p1', p2', _, _, _⟩ := (P0.out.below' hb1).three; clear hb1)
   go_ret
   exact ⟨ret_i64 HSS.out.symm, PB.out.trans (BB.out.mono (by omega))⟩

set_option maxRecDepth 1000000 in
set_option maxHeartbeats 1000000 in
theorem wholeN (w : World) (n : Nat) (hn : n < 9223372036854775808) :
  Calls Tryz.prog 72 #[.int .i64 (n : Int)] w fun e w' => ∃ v', e = .returned v' ∧ NumNew w.heap.size w' v' (n : Rat) ∧ Below w.heap.size w w' := by
 have HI : Hid ((n : Rat).num.natAbs = n ∧ (n : Rat).den = 1 ∧ isNeg (n : Rat) = false) := Lib.hid ⟨by simp, by simp, by unfold isNeg; exact decide_eq_false (by show ¬ ((n : Int) < 0); omega)⟩
 go_enter Tryz.func72, Tryz.ntmps72
 go_wp2_with fail
 obtain ⟨W, hW, P0, PB, Phs⟩ := box1 w 97 [.bool false, .slice none 0 0, .slice none 0 0]
 rw [← hW]
 clear hW
 refine (smallF W n (by omega)).mono ?_
 rintro e w1 ⟨v1, rfl, t1, hb1, f1⟩
 have T1 := Lib.hid t1
 have B1 := Lib.hid hb1
 have F1 := Lib.hid f1
 clear t1 hb1 f1
 go_wp2_with fail
 refine (smallF w1 1 (by omega)).mono ?_
 rintro e w2 ⟨v2, rfl, t2, hb2, f2⟩
 have B2 := Lib.hid (B1.out.trans (hb2.mono B1.out.size))
 obtain ⟨A, m, c, rfl, _⟩ := T1.out.len
 obtain ⟨A', m', c', rfl, _⟩ := t2.len
 have T1' := Lib.hid (T1.out.below hb2)
 have T2 := Lib.hid t2
 have F2 := Lib.hid (f2.mono B1.out.size)
 obtain ⟨r0, r1, r2, z0, z1, z2⟩ := (P0.out.below' B2.out).three
 clear t2 hb2 f2
 go_wp2_with fail
 refine bodyPost_ret (v := .agg #[.bool false, .slice A m c, .slice A' m' c']) (by simp [results, Tryz.results72, go_sem, r0, r1, r2]) rfl ⟨_, rfl, ⟨_, _, by rw [HI.out.2.2], ?_, ?_, F1.out.mono (by omega), F2.out.mono (by omega)⟩, below_box3 (PB.out.trans (B2.out.mono (by omega))) (Nat.le_refl _) _ _ _⟩
 ·rw [HI.out.1]
  exact T1'.out.box3 (F1.out.mono (by omega)) _ _ _
 ·rw [HI.out.2.1]
  exact T2.out.box3 (F2.out.mono (by omega)) _ _ _
theorem six {w : World} {g g' : Nat} {e e' : TypeId} {a b c a' b' c' : Value} (h : Blk w g e [a, b, c]) (h' : Blk w g' e' [a', b', c']) :
  w.cell? ⟨g, 0, none⟩ = some a ∧ w.cell? ⟨g, 1, none⟩ = some b ∧ w.cell? ⟨g, 2, none⟩ = some c ∧ w.cell? ⟨g', 0, none⟩ = some a' ∧ w.cell? ⟨g', 1, none⟩ = some b' ∧ w.cell? ⟨g', 2, none⟩ = some c' :=
 ⟨h.three.1, h.three.2.1, h.three.2.2.1, h'.three.1, h'.three.2.1, h'.three.2.2.1⟩

theorem six_box3 {w : World} {g g' B : Nat} {a b c a' b' c' : Value}
  (h : w.cell? ⟨g, 0, none⟩ = some a ∧ w.cell? ⟨g, 1, none⟩ = some b ∧ w.cell? ⟨g, 2, none⟩ = some c ∧ w.cell? ⟨g', 0, none⟩ = some a' ∧ w.cell? ⟨g', 1, none⟩ = some b' ∧ w.cell? ⟨g', 2, none⟩ = some c')
  (hg : g ≠ B) (hg' : g' ≠ B) (u0 u1 u2 : Value) :
  (((w.setCell ⟨B, 0, none⟩ u0).setCell ⟨B, 1, none⟩ u1).setCell ⟨B, 2, none⟩ u2).cell? ⟨g, 0, none⟩ = some a ∧ (((w.setCell ⟨B, 0, none⟩ u0).setCell ⟨B, 1, none⟩ u1).setCell ⟨B, 2, none⟩ u2).cell? ⟨g, 1, none⟩ = some b ∧ (((w.setCell ⟨B, 0, none⟩ u0).setCell ⟨B, 1, none⟩ u1).setCell ⟨B, 2, none⟩ u2).cell? ⟨g, 2, none⟩ = some c ∧ (((w.setCell ⟨B, 0, none⟩ u0).setCell ⟨B, 1, none⟩ u1).setCell ⟨B, 2, none⟩ u2).cell? ⟨g', 0, none⟩ = some a' ∧ (((w.setCell ⟨B, 0, none⟩ u0).setCell ⟨B, 1, none⟩ u1).setCell ⟨B, 2, none⟩ u2).cell? ⟨g', 1, none⟩ = some b' ∧ (((w.setCell ⟨B, 0, none⟩ u0).setCell ⟨B, 1, none⟩ u1).setCell ⟨B, 2, none⟩ u2).cell? ⟨g', 2, none⟩ = some c' :=
 ⟨cell_box3 h.1 hg _ _ _, cell_box3 h.2.1 hg _ _ _, cell_box3 h.2.2.1 hg _ _ _, cell_box3 h.2.2.2.1 hg' _ _ _, cell_box3 h.2.2.2.2.1 hg' _ _ _, cell_box3 h.2.2.2.2.2 hg' _ _ _⟩

set_option maxRecDepth 1000000 in
set_option maxHeartbeats 2000000 in
theorem mulN (w : World) (v v' : Value) (q r : Rat) (k : Nat) (h : NumAt w v q) (h' : NumAt w v' r) (hb : QB k q) (hb' : QB k r) (hk : k ≤ 8796093022208) :
  Calls Tryz.prog 73 #[v, v'] w fun e w' => ∃ v', e = .returned v' ∧ NumNew w.heap.size w' v' (q * r) ∧ Below w.heap.size w w' := by
 obtain ⟨A, m, c, A', m', c', rfl, hm, hm', hp, h1, h2⟩ := h.open_
 obtain ⟨C, n, d, C', n', d', rfl, hn, hn', hp', h1', h2'⟩ := h'.open_
 have H1 := Lib.hid h1
 have H2 := Lib.hid h2
 have H1' := Lib.hid h1'
 have H2' := Lib.hid h2'
 have HB := Lib.hid hb
 have HB' := Lib.hid hb'
 have MS := Lib.hid (mul_sgn q r)
 have DP : Hid (0 < q.den * r.den) := Lib.hid (Nat.mul_pos q.den_pos r.den_pos)
 clear h h' h1 h2 h1' h2' hb hb' hp hp' hn hn' hm hm'
 generalize isNeg q = s at *
 generalize isNeg r = t at *
 go_enter Tryz.func73, Tryz.ntmps73
 go_upto_region 1 with fail
 obtain ⟨W, hW, P0, P1, P2, PB, Phs⟩ := box3 w 97 [.bool s, .slice A m c, .slice A' m' c'] 97 [.bool t, .slice C n d, .slice C' n' d'] 97 [.bool false, .slice none 0 0, .slice none 0 0]
 rw [← hW]
 clear hW
 have N1 := Lib.hid (H1.out.below PB.out)
 have N2 := Lib.hid (H2.out.below PB.out)
 have N1' := Lib.hid (H1'.out.below PB.out)
 have N2' := Lib.hid (H2'.out.below PB.out)
 obtain ⟨p0, p1, p2, _, _, _⟩ := P0.out.three
 obtain ⟨q0, q1, q2, _, _, _⟩ := P1.out.three
 go_region_held3 (fun w' => w'.cell? ⟨w.heap.size, 0, none⟩ = some (.bool s) ∧ w'.cell? ⟨w.heap.size, 1, none⟩ = some (.slice A m c) ∧ w'.cell? ⟨w.heap.size, 2, none⟩ = some (.slice A' m' c') ∧ w'.cell? ⟨w.heap.size + 1, 0, none⟩ = some (.bool t) ∧ w'.cell? ⟨w.heap.size + 1, 1, none⟩ = some (.slice C n d) ∧ w'.cell? ⟨w.heap.size + 1, 2, none⟩ = some (.slice C' n' d')) (first | assumption | (refine six_box3 hS ?_ ?_ _ _ _ <;> omega) | go_keep)
  (first
   | (go_at_call_of 75 (Value.slice A m c); refine (mul _ _ _ _ _ k k ?_ ?_ HB.out.1 HB'.out.1 (by omega) (by omega)).mono ?_; (exact N1.out.drew); (exact N1'.out.drew); rintro e w1 ⟨v1, rfl, t1, hb1'⟩; have hb1 := below_of_drew hb1'; have hS := six (P0.out.below' hb1) (P1.out.below' hb1); have T1 := Lib.hid t1; have B1 := Lib.hid hb1; clear t1 hb1 hb1')
   | (go_at_call_of 75 (Value.slice A' m' c'); refine (mul w1 _ _ _ _ k k (N2.out.below B1.out) (N2'.out.below B1.out) HB.out.2 HB'.out.2 (by omega) (by omega)).mono ?_; rintro e w2 ⟨v2, rfl, t2, hb2⟩; have B2 := Lib.hid (B1.out.trans (hb2.mono B1.out.size)); have T1' := Lib.hid (T1.out.below hb2); have T2 := Lib.hid t2; have hS := six (P0.out.below' B2.out) (P1.out.below' B2.out); clear t2 hb2)
   | (go_at_call 66; refine (reduced w2 (s != t) _ _ _ _ (k + k) T1'.out T2.out (pow_mul_lt HB.out.1 HB'.out.1) (pow_mul_lt HB.out.2 HB'.out.2) (by omega) DP.out).mono ?_; rintro e w3 ⟨v3, rfl, t3, hb3⟩; have B3 := Lib.hid (B2.out.trans (hb3.mono B2.out.size)); obtain ⟨A3, m3, c3, A3', m3', c3', rfl, t3a, t3b, t3c, t3d⟩ := t3.open_; obtain ⟨r0, r1, r2, z0, z1, z2⟩ := (P2.out.below' B3.out).three; have hS := six (P0.out.below' B3.out) (P1.out.below' B3.out); have TA := Lib.hid t3a; have TB := Lib.hid t3b; have TC := Lib.hid t3c; have TD := Lib.hid t3d; clear t3 t3a t3b t3c t3d hb3))
 go_wp2_with fail
 refine bodyPost_ret (v := .agg #[.bool (isNeg (mkRat (sgn (s != t) (q.num.natAbs * r.num.natAbs)) (q.den * r.den))), .slice A3 m3 c3, .slice A3' m3' c3']) (by simp [results, Tryz.results73, go_sem, r0, r1, r2]) rfl ⟨_, rfl, ?_, below_box3 (PB.out.trans (B3.out.mono (by omega))) (by omega) _ _ _⟩
 rw [MS.out]
 have hb2 := B2.out.size
 exact (NumNew.box3 TA.out TB.out TC.out TD.out (by omega) _ _ _).mono (by omega)
end Go.Proofs.YtlhankdkhiilkaaGreat
