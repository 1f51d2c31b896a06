/- Lemmas. -/
import Derived.Test.YtjebfdfkjlkifaaGreatN48
import Derived.Test.YtjebfdfkjlkifaaGreatN46
set_option linter.all false
set_option maxRecDepth 1000000
set_option maxHeartbeats 32000000
namespace Go.Proofs.YtjebfdfkjlkifaaGreat
open Go.RowKit
section
theorem kr (qs : List Rat) (j : Nat) : 0 <= aW qs j ↔ ∃ q ∈ qs, aU q < 0 := by
 induction qs generalizing j with
 | nil => simp [aW]
 | cons q l ih =>
  unfold aW
  by_cases h : aU q < 0
  ·simp only [h, if_true]; exact ⟨fun _ => ⟨q, by simp, h⟩, fun _ => by omega⟩
  simp only [h, if_false, ih (j + 1)]
  constructor
  ·rintro ⟨x, hx, e⟩; exact ⟨x, by simp [hx], e⟩
  rintro ⟨x, hx, e⟩
  rcases List.mem_cons.1 hx with rfl | hx
  ·exact absurd e h
  exact ⟨x, hx, e⟩
theorem xo (w : World) (k : Nat) (lv : Value) (qs : List Rat) (hl : FracsAt k w lv qs) (h0 : 0 < k) (hk : (qs.length + 1) * (2 * k) <= 549755813888) :
  Calls Tryz.prog 139 #[lv] w fun e w' => ∃ v', e = .returned v' /\ CanNew w.heap.size w' v' (bX qs) /\ Below w.heap.size w w' := by
 obtain ⟨A, c, rfl, hlc, hcm, hat⟩ := hl.at_
 have HAT := aH hat
 clear hl hat
 obtain ⟨n, hn⟩ : ∃ n, qs.length = n := ⟨_, rfl⟩
 have HLN := aH hn
 rw [hn] at hlc hk ⊢
 clear hn
 have HZ : Hd (QB ((0 + 1) * (2 * k)) (0 : Rat)) := aH (bv (n := 0) (Nat.pow_pos (by omega)) (by omega))
 go_enter Tryz.func139, Tryz.ntmps139
 go_wp2_with fail
 obtain ⟨W, hW, P0, P1, PB, Phs⟩ := cP w 40 [.bool false, .slice none 0 0, .slice none 0 0] 40 [.bool false, .slice none 0 0, .slice none 0 0]
 rw [<- hW]
 clear hW
 go_loopg [4] n (fun g i wr => ∃ (j : Nat) (q : Rat) (b : Bool) (A1 A1' : Option Addr) (m1 c1 m1' c1' : Nat), i = .int .i64 j /\ j + g = n /\ Hd (q = bX (qs.take j)) /\ Hd (QB ((j + 1) * (2 * k)) q) /\
  Hd (Blk wr w.heap.size 40 [.bool false, .slice none 0 0, .slice none 0 0]) /\ Hd (Blk wr (w.heap.size + 1) 40 [.bool b, .slice A1 m1 c1, .slice A1' m1' c1']) /\ Hd (CanNew (w.heap.size + 2) wr (.agg #[.bool b, .slice A1 m1 c1, .slice A1' m1' c1']) q) /\ Hd (Below w.heap.size w wr))
 case atStart => exact ⟨0, 0, false, none, none, 0, 0, 0, 0, rfl, by omega, aH rfl, HZ, P0, P1, aH (CanNew.zero_ _ _), PB⟩
 obtain ⟨j, q, b, A1, A1', m1, c1, m1', c1', rfl, hj, HQ, HQB, RB, BK, NA, BEL⟩ := hrel
 have hsz : w.heap.size + 2 <= wr.heap.size := BK.o.lt
 obtain ⟨p0, p1, p2, _, _, _⟩ := BK.o.three
 rcases zP gk with h | h
 ·obtain rfl : j = n := by omega
  obtain ⟨r0, r1, r2, z0, z1, z2⟩ := RB.o.three
  go_wp2_with fail
  refine bodyPost_ret (v := .agg #[.bool b, .slice A1 m1 c1, .slice A1' m1' c1']) (by simp [results, Tryz.results139, go_sem, r0, r1, r2]) rfl ⟨_, rfl, ?_, af BEL.o (nR _) _ _ _⟩
  obtain ⟨e0, t1, t2, t3, t4⟩ := NA.o.parts
  rw [e0]
  rw [HQ.o, tL (by rw [HLN.o]; exact nR _)] at t1 t2 ⊢
  exact (CanNew.box3 t1 t2 t3 t4 (by omega) _ _ _).mono (by omega)
 obtain ⟨g, rfl⟩ : ∃ g, gk = g + 1 := ⟨gk - 1, by omega⟩
 obtain ⟨x, hx⟩ : ∃ x, qs[j]? = some x := ⟨_, eG (by rw [HLN.o]; omega)⟩
 obtain ⟨bb, off, neg, An, nn, cn, Ad, nd, cd, rfl, hbb, e0, e1, e2, hfr⟩ := HAT.o j x hx
 have d0 := (BEL.o.cell (p := ⟨bb, off + j * 3, none⟩) hbb).trans e0
 have d1 := (BEL.o.cell (p := ⟨bb, off + j * 3 + 1, none⟩) hbb).trans e1
 have d2 := (BEL.o.cell (p := ⟨bb, off + j * 3 + 2, none⟩) hbb).trans e2
 have FR := aH (hfr.below BEL.o)
 have QX := aH (hfr.qb h0)
 have HX := aH hx
 have hjk : (j + 1) * (2 * k) <= (n + 1) * (2 * k) := Nat.mul_le_mul_right _ (by omega)
 have hjk2 : (j + 1 + 1) * (2 * k) = (j + 1) * (2 * k) + 2 * k := by rw [Nat.add_mul (j + 1) 1, Nat.one_mul]
 have HJ : Hd (k <= (j + 1) * (2 * k) /\ (j + 1) * (2 * k) <= 549755813888 /\ 0 < (j + 1) * (2 * k)) := aH (by have : 1 * (2 * k) <= (j + 1) * (2 * k) := Nat.mul_le_mul_right _ (by omega); omega)
 have HJ2 := aH hjk2
 have FK : Hd (FracAt ((j + 1) * (2 * k)) wr (.agg #[.bool neg, .slice An nn cn, .slice Ad nd cd]) x) := aH (FR.o.mono HJ.o.1)
 clear hx e0 e1 e2 hfr hjk hjk2
 go_wp2_with fail
 go_region_with (first
   | (go_at_call 34; refine (nO _ _ _ q x ((j + 1) * (2 * k)) ?_ ?_ HJ.o.2.2 HJ.o.2.1).mono ?_; (exact (NA.o.at_.frac HQB.o (by have := HJ.o; omega)).below (bS _)); (exact FK.o.below (bS _)); rintro e w3 ⟨v3, rfl, t3, hb3'⟩; have hb3 := bO hb3'; have B3 := aH hb3; have K3 := aH (BK.o.below' hb3); have hs3 := hb3.size; obtain ⟨A3, m3, c3, A3', m3', c3', rfl, t3a, t3b, t3c, t3d⟩ := t3.open_; obtain ⟨r0, r1, r2, z0, z1, z2⟩ := K3.o.three; have TA := aH t3a; have TB := aH t3b; have TC := aH (t3c.mono (show w.heap.size + 2 <= _ from hsz)); have TD := aH (t3d.mono (show w.heap.size + 2 <= _ from hsz)); clear t3 t3a t3b t3c t3d hb3 hb3'))
 all_goals
  go_wp2_with fail
  go_roundg g
  case measure => omega
  case rel =>
   have hx' := HX.o
   exact ⟨j + 1, _, _, A3, A3', m3, c3, m3', c3', rfl, by omega, aH (by unfold bX; rw [ah _ hx', List.foldl_append, HQ.o]; rfl), aH (by rw [HJ2.o]; exact (HQB.o.add QX.o).mono (by omega)),
    aH (Blk.box3far (RB.o.below' B3.o) (by omega) _ _ _), aH (K3.o.box3 _ _ _), aH (CanNew.box3 TA.o TB.o TC.o TD.o (by omega) _ _ _), aH (af (BEL.o.trans (B3.o.mono (by omega))) (Nat.le_succ _) _ _ _)⟩
theorem ku (w : World) (k : Nat) (lv : Value) (qs : List Rat) (hl : FracsAt k w lv qs) (h0 : 0 < k) (hk : (qs.length + 1) * (2 * k) <= 549755813888) :
  Calls Tryz.prog 87 #[lv] w fun e w' => e = .returned (.bool (iq qs)) /\ Below w.heap.size w w' := by
 obtain ⟨A, c, rfl, hlc, hcm, hat⟩ := hl.at_
 have hkl : 1 * (2 * k) <= (qs.length + 1) * (2 * k) := Nat.mul_le_mul_right _ (by omega)
 have HL := aH hl
 have HAT := aH hat
 have SQ : Hd (QB ((qs.length + 1) * (2 * k)) (bX qs)) := aH ((oy qs (hl.qb h0) k 0 (bv (n := 0) (Nat.pow_pos (by omega)) h0)).mono (by
   have : qs.length * (k + 1) <= qs.length * (2 * k) := Nat.mul_le_mul_left _ (by omega)
   rw [Nat.add_mul]; omega))
 have Q1 : Hd (QB ((qs.length + 1) * (2 * k)) ((1 : Nat) : Rat)) := aH (bv (Nat.one_lt_two_pow (by omega)) (by omega))
 clear hl hat
 obtain ⟨n, hn⟩ : ∃ n, qs.length = n := ⟨_, rfl⟩
 have HLN := aH hn
 rw [hn] at hlc hk hkl HL SQ Q1 ⊢
 clear hn
 have HK := aH hk
 have HKL := aH hkl
 clear hk hkl
 unfold iq
 go_enter Tryz.func87, Tryz.ntmps87
 go_wp2_with fail
 go_loopg [3] n (fun g i wr => ∃ (j : Nat), i = .int .i64 j /\ j + g = n /\ Hd (aW qs 0 = aW (qs.drop j) j) /\ Hd (Below w.heap.size w wr))
 case atStart => exact ⟨0, rfl, by omega, aH rfl, aH (Below.refl _ _)⟩
 obtain ⟨j, rfl, hj, HQ, BEL⟩ := hrel
 have hsz : w.heap.size <= wr.heap.size := BEL.o.size
 rcases zP gk with h | h
 ·obtain rfl : j = n := by omega
  have HF : Hd (decide (0 <= aW qs 0) = false) := aH (by
   rw [HQ.o, dN (by rw [HLN.o]; exact nR _)]
   rfl)
  go_wp2_with fail
  refine (xo wr k _ qs (HL.o.below BEL.o) h0 (by rw [HLN.o]; exact HK.o)).mono ?_
  rintro e w2 ⟨v2, rfl, t2, hb2⟩
  have B2 := aH (BEL.o.trans (hb2.mono hsz))
  have T2 := aH t2
  have hs2 : wr.heap.size <= w2.heap.size := hb2.size
  clear t2 hb2
  go_wp2_with fail
  refine (ofR w2 1 (by omega)).mono ?_
  rintro e w3 ⟨v3, rfl, t3, hb3⟩
  have B3 := aH (B2.o.trans (hb3.mono (by omega)))
  have F2 := aH ((T2.o.below hb3).at_.frac SQ.o (by have := HK.o; omega))
  have F3 := aH (t3.at_.frac Q1.o (by have := HK.o; omega))
  have hs3 : w2.heap.size <= w3.heap.size := hb3.size
  clear t3 hb3
  go_wp2_with fail
  refine (vW w3 v2 v3 (bX qs) (1 : Nat) _ F2.o F3.o (by have := HKL.o; omega) HK.o).mono ?_
  rintro e w4 ⟨rfl, hb4⟩
  have B4 := aH (B3.o.trans (hb4.mono (by omega)))
  clear hb4
  go_wp2_with fail
  go_ret
  refine ⟨?_, B4.o⟩
  rw [HF.o]
  rfl
 obtain ⟨g, rfl⟩ : ∃ g, gk = g + 1 := ⟨gk - 1, by omega⟩
 obtain ⟨x, hx⟩ : ∃ x, qs[j]? = some x := ⟨_, eG (by rw [HLN.o]; omega)⟩
 obtain ⟨bb, off, neg, An, nn, cn, Ad, nd, cd, rfl, hbb, e0, e1, e2, hfr⟩ := HAT.o j x hx
 have d0 := (BEL.o.cell (p := ⟨bb, off + j * 3, none⟩) hbb).trans e0
 have d1 := (BEL.o.cell (p := ⟨bb, off + j * 3 + 1, none⟩) hbb).trans e1
 have d2 := (BEL.o.cell (p := ⟨bb, off + j * 3 + 2, none⟩) hbb).trans e2
 have FR := aH (hfr.below BEL.o)
 have DR := aH (gG hx)
 clear hx e0 e1 e2 hfr
 have SC := ez wr _ x k FR.o h0
 by_cases hd : aU x < 0
 ·have HN : Hd (decide (0 <= aW qs 0) = true) := aH (dT (by rw [HQ.o, DR.o, if_pos hd]; omega))
  obtain ⟨z, hz, hz0⟩ : ∃ z, aU x = z /\ decide (z < 0) = true := ⟨_, rfl, dT hd⟩
  rw [hz] at SC
  clear hz hd
  go_wp2_with fail
  refine SC.mono ?_
  rintro e w1 ⟨rfl, hb1⟩
  have B1 := aH hb1
  clear hb1
  go_wp2_with fail
  go_ret
  refine ⟨ai ?_, BEL.o.trans (B1.o.mono hsz)⟩
  rw [HN.o]
  rfl
 have HN : Hd (aW qs 0 = aW (qs.drop (j + 1)) (j + 1)) := aH (by rw [HQ.o, DR.o, if_neg hd])
 obtain ⟨z, hz, hz0⟩ : ∃ z, aU x = z /\ decide (z < 0) = false := ⟨_, rfl, dF hd⟩
 rw [hz] at SC
 clear hz hd
 go_wp2_with fail
 refine SC.mono ?_
 rintro e w1 ⟨rfl, hb1⟩
 have B1 := aH hb1
 clear hb1
 go_wp2_with fail
 go_roundg g
 case measure => omega
 case rel => exact ⟨j + 1, rfl, by omega, HN, aH (BEL.o.trans (B1.o.mono hsz))⟩
theorem vF (w : World) (o v : Int) :
  Calls Tryz.prog 21 #[.int .i64 o, .int .i64 v] w fun e w' => e = .returned (.bool (bu o v)) /\ Below w.heap.size w w' := by
 have HT : Hd (bu o v = (decide (1 <= o) && decide (o <= 4) && decide (1 <= v) && decide (v <= 2000))) := aH rfl
 by_cases h1 : 1 <= o
 ·have d1 := dT h1
  by_cases h2 : o <= 4
  ·have d2 := dT h2
   by_cases h3 : 1 <= v
   ·have d3 := dT h3
    by_cases h4 : v <= 2000
    ·have d4 := dT h4
     have HB : Hd (bu o v = true) := aH (by rw [HT.o, d1, d2, d3, d4]; rfl)
     clear h1 h2 h3 h4
     go_enter Tryz.func21, Tryz.ntmps21
     go_wp2_with fail
     go_ret
     exact ⟨ai HB.o.symm, Below.refl _ _⟩
    have d4 := dF h4
    have HB : Hd (bu o v = false) := aH (by rw [HT.o, d1, d2, d3, d4]; rfl)
    clear h1 h2 h3 h4
    go_enter Tryz.func21, Tryz.ntmps21
    go_wp2_with fail
    go_ret
    exact ⟨ai HB.o.symm, Below.refl _ _⟩
   have d3 := dF h3
   have HB : Hd (bu o v = false) := aH (by rw [HT.o, d1, d2, d3]; rfl)
   clear h1 h2 h3
   go_enter Tryz.func21, Tryz.ntmps21
   go_wp2_with fail
   go_ret
   exact ⟨ai HB.o.symm, Below.refl _ _⟩
  have d2 := dF h2
  have HB : Hd (bu o v = false) := aH (by rw [HT.o, d1, d2]; rfl)
  clear h1 h2
  go_enter Tryz.func21, Tryz.ntmps21
  go_wp2_with fail
  go_ret
  exact ⟨ai HB.o.symm, Below.refl _ _⟩
 have d1 := dF h1
 have HB : Hd (bu o v = false) := aH (by rw [HT.o, d1]; rfl)
 clear h1
 go_enter Tryz.func21, Tryz.ntmps21
 go_wp2_with fail
 go_ret
 exact ⟨ai HB.o.symm, Below.refl _ _⟩
def cG (T : Nat -> List Int -> Int -> Int) (v : Nat) (h : List Int) : Nat -> List Rat
 | 0 => dO v
 | j + 1 => if 0 < aM (T (j + 1) (h.drop (h.length - j))) v then bQ (T (j + 1) (h.drop (h.length - j))) v else cG T v h j
def jD (T : Nat -> List Int -> Int -> Int) (v : Nat) (mix : List Rat) (h : List Int) (x : Nat) : Nat -> Rat
 | 0 => 0
 | j + 1 => jD T v mix h x j + mix.getD j 0 * (cG T v h j).getD x 0
def dR (T : Nat -> List Int -> Int -> Int) (v : Nat) (mix : List Rat) (n : Nat) (h : List Int) : List Rat := (List.range (v + 1)).map fun x => jD T v mix h x (n + 1)
theorem dD (T : Nat -> List Int -> Int -> Int) (v : Nat) (h : List Int) (j : Nat) : (cG T v h j).length = v + 1 := by
 induction j with
 | zero => exact eE v
 | succ n ih => unfold cG; split; exact gA _ _; exact ih
theorem gF (T : Nat -> List Int -> Int -> Int) (v : Nat) (mix : List Rat) (n : Nat) (h : List Int) : (dR T v mix n h).length = v + 1 := by simp [dR]
theorem ja {T : Nat -> List Int -> Int -> Int} (hT : ∀ n h, Mild (T n h)) {v : Nat} (hv : v <= 8) (h : List Int) (j : Nat) : ∀ q ∈ cG T v h j, QB 128 q := by
 induction j with
 | zero => exact jO hv
 | succ n ih => unfold cG; split; exact kG (hT _ _) hv; exact ih
theorem lQ {T : Nat -> List Int -> Int -> Int} (hT : ∀ n h, Mild (T n h)) {v : Nat} (hv : v <= 8) {mix : List Rat} (hm : ∀ q ∈ mix, QB 64 q) (h : List Int) (x j : Nat) : QB (1 + j * 193) (jD T v mix h x j) := by
 induction j with
 | zero => exact cB _ (by omega)
 | succ j ih =>
  unfold jD
  exact (ih.add ((cF (i := j) (cB 64 (by omega)) hm).mul (cF (i := x) (cB 128 (by omega)) (ja hT hv h j)))).mono (by omega)
theorem qk {T : Nat -> List Int -> Int -> Int} (hT : ∀ n h, Mild (T n h)) {v : Nat} (hv : v <= 8) {mix : List Rat} (hm : ∀ q ∈ mix, QB 64 q) {n : Nat} (hn : n <= 4) (h : List Int) : ∀ q ∈ dR T v mix n h, QB 966 q := by
 intro q hq
 obtain ⟨x, _, rfl⟩ := List.mem_map.1 hq
 exact (lQ hT hv hm h x (n + 1)).mono (by omega)
theorem vE (w : World) (O V : Int) (A : Option Addr) (c L : Nat) (gs : List Gr) (h : GramsAt w (.slice A L c) gs) (hL : gs.length = L) :
  Calls Tryz.prog 67 #[.agg #[.int .i64 O, .int .i64 V, .slice A L c]] w fun e w' => e = .returned (.bool (df V gs)) /\ Below w.heap.size w w' := by
 obtain ⟨_, _, e, hlc, hcm, hat⟩ := h.open_
 injection e with e1 e2 e3
 subst e1
 have HAT := aH hat
 have HL := aH hL
 rw [hL] at hlc
 clear h hat hL e2 e3
 by_cases h1 : L <= 60
 ·have d1 : decide ((60 : Int) < (L : Int)) = false := dF (by omega)
  by_cases h2 : V <= 8
  ·have d2 : decide ((8 : Int) < V) = false := dF (by omega)
   have HS : Hd (df V gs = (gs.drop 0).all fun g => decide (g.1.length <= 10)) := aH (by unfold df; rw [HL.o, dT h1, dT h2]; rfl)
   go_enter Tryz.func67, Tryz.ntmps67
   go_wp2_with fail
   obtain ⟨W, hW, P0, PB, Phs⟩ := aA w 27 [.int .i64 O, .int .i64 V, .slice A L c]
   rw [<- hW]
   clear hW
   go_loopg [3] L (fun g i wr => ∃ (j : Nat), wr = W /\ i = .int .i64 j /\ j + g = L /\ Hd (df V gs = (gs.drop j).all fun g => decide (g.1.length <= 10)))
   case atStart => exact ⟨0, rfl, rfl, by omega, HS⟩
   obtain ⟨j, rfl, rfl, hj, HQ⟩ := hrel
   obtain ⟨p0, p1, p2, _, _, _⟩ := P0.o.three
   rcases zP gk with h | h
   ·obtain rfl : j = L := by omega
    have HT : Hd (df V gs = true) := aH (by rw [HQ.o, dN (by rw [HL.o]; exact nR _)]; rfl)
    go_wp2_with fail
    go_ret
    exact ⟨ai HT.o.symm, PB.o⟩
   obtain ⟨g, rfl⟩ : ∃ g, gk = g + 1 := ⟨gk - 1, by omega⟩
   obtain ⟨x, hx⟩ : ∃ x, gs[j]? = some x := ⟨_, eG (by rw [HL.o]; omega)⟩
   obtain ⟨ba, oa, c0, rfl, hba, e0, _, hi⟩ := HAT.o j x hx
   obtain ⟨Ai, ci, rfl, _, _, _⟩ := hi.open_
   have d0 := (PB.o.cell (p := ⟨ba, oa + j * 2, none⟩) hba).trans e0
   have ST := aH (HQ.o.trans (nH hx))
   obtain ⟨p, hp⟩ : ∃ p, x.1.length = p := ⟨_, rfl⟩
   rw [hp] at ST d0
   clear hx hi e0 hp
   by_cases h3 : p <= 10
   ·have d3 : decide ((10 : Int) < (p : Int)) = false := dF (by omega)
    have HT : Hd (df V gs = (gs.drop (j + 1)).all fun g => decide (g.1.length <= 10)) := aH (by rw [ST.o, dT h3]; rfl)
    clear h3
    go_wp2_with fail
    go_roundg g
    case measure => omega
    case rel => exact ⟨j + 1, rfl, rfl, by omega, HT⟩
   have d3 : decide ((10 : Int) < (p : Int)) = true := dT (by omega)
   have HT : Hd (df V gs = false) := aH (by rw [ST.o, dF h3]; rfl)
   clear h3
   go_wp2_with fail
   go_ret
   exact ⟨ai HT.o.symm, PB.o⟩
  have d2 : decide ((8 : Int) < V) = true := dT (by omega)
  have HT : Hd (df V gs = false) := aH (by unfold df; rw [dF h2, Bool.and_false]; rfl)
  clear h2
  go_enter Tryz.func67, Tryz.ntmps67
  go_wp2_with fail
  go_ret
  exact ⟨ai HT.o.symm, (Below.refl _ w).alloc (nR _) _⟩
 have d1 : decide ((60 : Int) < (L : Int)) = true := dT (by omega)
 have HT : Hd (df V gs = false) := aH (by unfold df; rw [HL.o, dF h1]; rfl)
 clear h1
 go_enter Tryz.func67, Tryz.ntmps67
 go_wp2_with fail
 go_ret
 exact ⟨ai HT.o.symm, (Below.refl _ w).alloc (nR _) _⟩
theorem wj (w : World) (O V : Int) (lv : Value) (gs : List Gr) (k : Int) (s : Bool) (A A' : Option Addr) (m c m' c' : Nat) (mv : Value) (a : Raw) (rs : List Raw) (h : GramsAt w lv gs) (ha : RawAt w (.agg #[.bool s, .slice A m c, .slice A' m' c']) a) (hm : RawsAt w mv rs) :
  Calls Tryz.prog 25 #[aG O V lv k s A A' m c m' c' mv] w fun e w' => e = .returned (.bool (da V gs a rs)) /\ Below w.heap.size w w' := by
 obtain ⟨Al, cl, rfl, _, _, _⟩ := h.open_
 obtain ⟨Am, cm, rfl, hmc, hcm, hat⟩ := hm.open_
 have hal : m = a.n.length /\ m' = a.d.length := by
  obtain ⟨vn, vd, e, h1, h2⟩ := ha
  obtain ⟨_, An, nc, rfl, _⟩ := h1.open_
  obtain ⟨_, Ad, dc, rfl, _⟩ := h2.open_
  cases e
  exact ⟨rfl, rfl⟩
 have HG := aH h
 have HAT := aH hat
 obtain ⟨ml, hml⟩ : ∃ n, rs.length = n := ⟨_, rfl⟩
 rw [hml] at hmc ⊢
 have HML := aH hml
 have HM : Hd (a.n.length = m) := aH hal.1.symm
 have HM' : Hd (a.d.length = m') := aH hal.2.symm
 obtain ⟨sb, hsb⟩ : ∃ b, df V gs = b := ⟨_, rfl⟩
 have HSB := aH hsb
 clear h ha hm hat hml hal hsb
 unfold aG
 go_enter Tryz.func25, Tryz.ntmps25
 go_wp2_with fail
 obtain ⟨W, hW, P0, PB, Phs⟩ := aA w 43 [.int .i64 O, .int .i64 V, .slice Al gs.length cl, .int .i64 k, .bool s, .slice A m c, .slice A' m' c', .slice Am ml cm]
 rw [<- hW]
 clear hW
 obtain ⟨p0, p1, p2, p3, p4, p5, p6, p7⟩ := an P0.o
 go_wp2_with fail
 refine (vE W O V Al cl gs.length gs (HG.o.below PB.o) rfl).mono ?_
 rintro e w1 ⟨rfl, hb1⟩
 have P1 := aH (P0.o.below' hb1)
 have B1 := aH (PB.o.trans (hb1.mono PB.o.size))
 rw [HSB.o]
 clear p0 p1 p2 p3 p4 p5 p6 p7 hb1 P0 PB
 obtain ⟨p0, p1, p2, p3, p4, p5, p6, p7⟩ := an P1.o
 cases sb with
 | false =>
  have HT : Hd (da V gs a rs = false) := aH (by unfold da; rw [HSB.o]; rfl)
  go_wp2_with fail
  go_ret
  exact ⟨ai HT.o.symm, B1.o⟩
 | true =>
  by_cases h1 : ml <= 8
  ·have d1 : decide ((8 : Int) < (ml : Int)) = false := dF (by omega)
   by_cases h2 : m <= 1
   ·have d2 : decide ((1 : Int) < (m : Int)) = false := dF (by omega)
    by_cases h3 : m' <= 1
    ·have d3 : decide ((1 : Int) < (m' : Int)) = false := dF (by omega)
     have HS : Hd (da V gs a rs = (rs.drop 0).all Raw.thin) := aH (by unfold da Raw.thin; rw [HSB.o, HML.o, HM.o, HM'.o, dT h1, dT h2, dT h3]; rfl)
     clear h2 h3
     go_wp2_with fail
     go_loopg [3] ml (fun g i wr => ∃ (j : Nat), wr = w1 /\ i = .int .i64 j /\ j + g = ml /\ Hd (da V gs a rs = (rs.drop j).all Raw.thin))
     case atStart => exact ⟨0, rfl, rfl, by omega, HS⟩
     obtain ⟨j, rfl, rfl, hj, HQ⟩ := hrel
     rcases zP gk with h | h
     ·obtain rfl : j = ml := by omega
      have HT : Hd (da V gs a rs = true) := aH (by rw [HQ.o, dN (by rw [HML.o]; exact nR _)]; rfl)
      go_wp2_with fail
      go_ret
      exact ⟨ai HT.o.symm, B1.o⟩
     obtain ⟨g, rfl⟩ : ∃ g, gk = g + 1 := ⟨gk - 1, by omega⟩
     obtain ⟨x, hx⟩ : ∃ x, rs[j]? = some x := ⟨_, eG (by rw [HML.o]; omega)⟩
     obtain ⟨bm, om, An, nc, Ad, dc, rfl, hbm, e0, e1, e2⟩ := HAT.o j x hx
     have c0 := (B1.o.cell (p := ⟨bm, om + j * 3, none⟩) hbm).trans e0
     have c1 := (B1.o.cell (p := ⟨bm, om + j * 3 + 1, none⟩) hbm).trans e1
     have c2 := (B1.o.cell (p := ⟨bm, om + j * 3 + 2, none⟩) hbm).trans e2
     have ST := aH (HQ.o.trans (nH hx))
     obtain ⟨p, hp⟩ : ∃ p, x.n.length = p := ⟨_, rfl⟩
     obtain ⟨q, hq⟩ : ∃ q, x.d.length = q := ⟨_, rfl⟩
     have HTH : Hd (x.thin = (decide (p <= 1) && decide (q <= 1))) := aH (by unfold Raw.thin; rw [hp, hq])
     rw [hp] at c1
     rw [hq] at c2
     clear hx e0 e1 e2 hp hq
     by_cases h3 : p <= 1
     ·have d4 : decide ((1 : Int) < (p : Int)) = false := dF (by omega)
      by_cases h4 : q <= 1
      ·have d5 : decide ((1 : Int) < (q : Int)) = false := dF (by omega)
       have HT : Hd (da V gs a rs = (rs.drop (j + 1)).all Raw.thin) := aH (by rw [ST.o, HTH.o, dT h3, dT h4]; rfl)
       clear h3 h4
       go_wp2_with fail
       go_roundg g
       case measure => omega
       case rel => exact ⟨j + 1, rfl, rfl, by omega, HT⟩
      have d5 : decide ((1 : Int) < (q : Int)) = true := dT (by omega)
      have HT : Hd (da V gs a rs = false) := aH (by rw [ST.o, HTH.o, dF h4, Bool.and_false]; rfl)
      clear h3 h4
      go_wp2_with fail
      go_ret
      exact ⟨ai HT.o.symm, B1.o⟩
     have d4 : decide ((1 : Int) < (p : Int)) = true := dT (by omega)
     have HT : Hd (da V gs a rs = false) := aH (by rw [ST.o, HTH.o, dF h3, Bool.false_and]; rfl)
     clear h3
     go_wp2_with fail
     go_ret
     exact ⟨ai HT.o.symm, B1.o⟩
    have d3 : decide ((1 : Int) < (m' : Int)) = true := dT (by omega)
    have HT : Hd (da V gs a rs = false) := aH (by unfold da Raw.thin; rw [HM'.o, dF h3]; simp)
    clear h2 h3
    go_wp2_with fail
    go_ret
    exact ⟨ai HT.o.symm, B1.o⟩
   have d2 : decide ((1 : Int) < (m : Int)) = true := dT (by omega)
   have HT : Hd (da V gs a rs = false) := aH (by unfold da Raw.thin; rw [HM.o, dF h2]; simp)
   clear h2
   go_wp2_with fail
   go_ret
   exact ⟨ai HT.o.symm, B1.o⟩
  have d1 : decide ((8 : Int) < (ml : Int)) = true := dT (by omega)
  have HT : Hd (da V gs a rs = false) := aH (by unfold da; rw [HML.o, dF h1]; simp)
  clear h1
  go_wp2_with fail
  go_ret
  exact ⟨ai HT.o.symm, B1.o⟩
theorem vP (O b v : Nat) (gs : List Gr) (hO : O <= 4) (hT : SmallT gs v) (n : Nat) (w : World) (hv : Value) (h : List Int) (mv : Value) (mix : List Rat) (hn : 1 <= n /\ n <= O) (hL : LvsAt w b O 0 gs) (hI : IntsAt w hv h) (hl : h.length = n - 1) (hk : NiceK h) (hm : FracsAt 64 w mv mix) (hml : mix.length = n + 1) :
  Calls Tryz.prog 218 #[.agg #[.slice (some ⟨b, 0, none⟩) (O + 1) (O + 1), .int .i64 ((v + 1 : Nat) : Int), mv], .int .i64 n, hv] w (dj w v (dR (ap O gs) v mix n h)) := by
 have hv8 := hT.2.2.2
 obtain ⟨Ah, ch, rfl, hlc, hcm, _⟩ := hI.open_
 obtain ⟨Am, cm, rfl, hmc, hmm, hat⟩ := hm.open_
 obtain ⟨p, hp⟩ : ∃ p, h.length = p := ⟨_, rfl⟩
 have hpn : p + 1 = n := by omega
 rw [hp] at hI hlc ⊢
 rw [hml] at hm hmc ⊢
 have HI := aH hI
 have HL := aH hL
 have HLN := aH hp
 have HM := aH hm
 have HML := aH hml
 have HAT := aH hat
 have HK := aH hk
 have HT := aH hT
 have QM : Hd (∀ q ∈ mix, QB 64 q) := aH (fun q hq => by
  obtain ⟨j, hj⟩ := List.mem_iff_getElem?.1 hq
  obtain ⟨_, _, _, _, _, _, _, _, _, _, hf⟩ := hat j q hj
  exact hf.qb (by omega))
 clear hI hL hl hm hml hat hk hT hp
 go_enter Tryz.func218, Tryz.ntmps218
 go_wp2_with (at_make; refine aD rfl _ _ rfl ((v : Int) + 1) (v + 1) rfl rfl (by omega) (by omega) ?_)
 obtain ⟨W, hW, P0, PB, Phs⟩ := aA w 175 [.slice (some ⟨b, 0, none⟩) (O + 1) (O + 1), .int .i64 ((v : Int) + 1), .slice Am (n + 1) cm]
 rw [<- hW]
 clear hW
 intro w1 hf1 hb1
 have F1 := aH hf1.arc
 have P1 := aH (P0.o.below hb1 (by omega))
 have B1 := aH (PB.o.trans (hb1.mono (by omega)))
 obtain ⟨p0, p1, p2, _, _, _⟩ := P1.o.three
 clear hf1 hb1
 go_wp2_with fail
 refine (tA w1 (.slice (some ⟨b, 0, none⟩) (O + 1) (O + 1)) (v + 1) (by omega) (by omega) rfl _ _ _ rfl).mono ?_
 rintro e w2 ⟨be, rfl, hbe, hf2, hb2⟩
 have hbo : w.heap.size + 1 < w1.heap.size := F1.o.lt
 have E2 : Hd (FArc w2 be (cG (ap O gs) v h 0)) := aH hf2.arc
 have F2 := aH (F1.o.below hb2)
 have P2 := aH (P1.o.below' hb2)
 have B2 := aH (B1.o.trans (hb2.mono B1.o.size))
 obtain ⟨ow, how⟩ : ∃ f : Nat -> Nat -> Rat, f = fun j x => jD (ap O gs) v mix h x j := ⟨_, rfl⟩
 have OW := aH how
 have F2' : Hd (FArc w2 (w.heap.size + 1) ((List.range (v + 1)).map (ow 0))) := aH (by
  have := F2.o
  rw [OW.o]
  have e : (List.range (v + 1)).map (fun x => jD (ap O gs) v mix h x 0) = List.replicate (v + 1) 0 := by
   apply List.ext_getElem?
   intro i
   by_cases hi : i < v + 1
   ·rw [List.getElem?_map, List.getElem?_range hi, List.getElem?_replicate_of_lt hi]; rfl
   rw [nI.2 (by simp; omega), nI.2 (by simp; omega)]
  rw [e]
  exact this)
 have MLD := aH (fun (a : Nat) (b : List Int) => HT.o.mild O a b)
 clear p0 p1 p2 hf2 hb2 P1 F1 F2 P0 PB B1 how
 go_wp2_with fail
 go_loopg [9, 10, 11, 12, 13] (n + 1) (fun gh i _ _ _ _ wz => ∃ (j : Nat), i = .int .i64 j /\ j + gh = n + 1 /\ Hd (FArc wz be (cG (ap O gs) v h (j - 1))) /\ Hd (FArc wz (w.heap.size + 1) ((List.range (v + 1)).map (ow j))) /\ Hd (Blk wz w.heap.size 175 [.slice (some ⟨b, 0, none⟩) (O + 1) (O + 1), .int .i64 ((v : Int) + 1), .slice Am (n + 1) cm]) /\ Hd (Below w.heap.size w wz))
 case atStart => exact ⟨0, rfl, by omega, E2, F2', P2, B2⟩
 clear E2 F2' P2 B2
 obtain ⟨j, rfl, hj, E2, F2, P2, B2⟩ := hrel
 obtain ⟨p0, p1, p2, _, _, _⟩ := P2.o.three
 have s2 : w.heap.size < wr.heap.size := P2.o.lt
 rcases zP gk with hh | hh
 ·subst hh
  obtain rfl : j = n + 1 := by omega
  have d1 : decide ((n : Int) + 1 <= (n : Int)) = false := dF (by omega)
  have d2 : decide (n + 1 <= n) = false := dF (by omega)
  go_wp2_with fail
  go_ret
  exact ⟨w.heap.size + 1, rfl, by omega, by
   have := F2.o
   rw [OW.o] at this
   exact this, B2.o⟩
 obtain ⟨gh, rfl⟩ : ∃ g, gk = g + 1 := ⟨gk - 1, by omega⟩
 have d1 : decide ((j : Int) <= (n : Int)) = true := dT (by omega)
 have d2 : decide (j <= n) = true := dT (by omega)
 go_upto_if 27 with fail
 go_cut [10, 11, 12] (fun _ _ _ wc => Hd (FArc wc be (cG (ap O gs) v h j)) /\ Hd (FArc wc (w.heap.size + 1) ((List.range (v + 1)).map (ow j))) /\ Hd (Blk wc w.heap.size 175 [.slice (some ⟨b, 0, none⟩) (O + 1) (O + 1), .int .i64 ((v : Int) + 1), .slice Am (n + 1) cm]) /\ Hd (Below w.heap.size w wc))
 case first =>
  rcases zP j with hj0 | hj0
  ·subst hj0
   go_wp2_with fail
   go_meet
   exact ⟨E2, F2, P2, B2⟩
  obtain ⟨i, rfl⟩ : ∃ i, j = i + 1 := ⟨j - 1, by omega⟩
  obtain ⟨k, rfl⟩ : ∃ k, p = k + i := ⟨p - i, by omega⟩
  have E2 : Hd (FArc wr be (cG (ap O gs) v h i)) := E2
  have j3 : decide ((0 : Int) < (i : Int) + 1) = true := dT (by omega)
  have j4 : decide (0 < i + 1) = true := dT (by omega)
  have a1 : IntKind.i64.wrap ((k : Int) + (i : Int) - ((i : Int) + 1)) = (k : Int) - 1 := by rw [show (k : Int) + (i : Int) - ((i : Int) + 1) = (k : Int) - 1 by omega]; exact iI _ (by omega)
  have a2 : IntKind.i64.wrap ((k : Int) - 1 + 1) = (k : Int) := by rw [show (k : Int) - 1 + 1 = (k : Int) by omega]; exact iI _ (by omega)
  have a3 : IntKind.i64.wrap (k : Int) = (k : Int) := iI _ (by omega)
  have a4 : (0 : Int) <= (k : Int) := by omega
  have a5 : (k : Int) <= (k : Int) + (i : Int) := by omega
  have a6 : (k : Int) <= (ch : Int) := by omega
  have LV := aH (HL.o.below B2.o)
  have IW := aH (HI.o.below B2.o)
  have HDL : Hd ((h.drop k).length = i) := aH (by rw [List.length_drop, HLN.o]; omega)
  have HDK : Hd (NiceK (h.drop k)) := aH ⟨by have := HK.o.1; rw [List.length_drop]; omega, fun x hx => HK.o.2 x (List.mem_of_mem_drop hx)⟩
  have hS := aI p0 p1
  by_cases hck : ch = k
  ·obtain rfl : ch = k := hck
   go_wp2_with fail
   go_region_held3 (fun w' => w'.cell? ⟨w.heap.size, 0, none⟩ = some (.slice (some ⟨b, 0, none⟩) (O + 1) (O + 1)) /\ w'.cell? ⟨w.heap.size, 1, none⟩ = some (.int .i64 ((v : Int) + 1)))
    (first | assumption | go_keep)
    (first
      | (go_at_call 219; refine (mI _ O (i + 1) b _ _ gs (h.drop ch) (LV.o.below (bS _)) ⟨by omega, by omega⟩ hO ?_ (by rw [HDL.o]; omega) HDK.o).mono ?_; (rw [List.eq_nil_of_length_eq_zero (HDL.o.trans (show i = 0 by omega))]; exact IntsAt.none_ (by omega)); rintro e wc ⟨mw, L, rfl, h1, h2, h3, h4'⟩; have h4 := bO h4'; have SN := aH h1; have CN : Hd (ix L (ap O gs (i + 1) (h.drop ch))) := aH h2; have BC := aH h4; have hS := aI ((BC.o.cell (p := ⟨w.heap.size, 0, none⟩) (by show w.heap.size < wr.heap.size; omega)).trans p0) ((BC.o.cell (p := ⟨w.heap.size, 1, none⟩) (by show w.heap.size < wr.heap.size; omega)).trans p1); clear h1 h2 h3 h4 h4'))
   all_goals
    clear hS
    have M := aH (MLD.o (i + 1) (h.drop ch))
    have HS0 : Hd (el L = aM (ap O gs (i + 1) (h.drop ch)) v) := aH (gV CN.o (HT.o.keys CN.o))
    have EST : Hd (cG (ap O gs) v h (i + 1) = if 0 < aM (ap O gs (i + 1) (h.drop ch)) v then bQ (ap O gs (i + 1) (h.drop ch)) v else cG (ap O gs) v h (i)) := aH (by
     have e : h.length - i = ch := by rw [HLN.o]; omega
     show (if 0 < aM (ap O gs (i + 1) (h.drop (h.length - i))) v then bQ (ap O gs (i + 1) (h.drop (h.length - i))) v else cG (ap O gs) v h (i)) = _
     rw [e])
    obtain ⟨N, hN⟩ : ∃ N : Int, el L = N := ⟨_, rfl⟩
    rw [hN]
    have HS := aH (HS0.o.symm.trans hN)
    have hbs := bH M.o v
    rw [HS.o] at hbs EST
    have hN0 : 0 <= N := hbs.1
    have hN1 : N < 900000000000000000 := by omega
    have E3 := aH (E2.o.below BC.o)
    have F3 := aH (F2.o.below BC.o)
    have P3 := aH (P2.o.below' BC.o)
    have B3 := aH (B2.o.trans (BC.o.mono B2.o.size))
    clear hN hbs p0 p1
    by_cases hz : 0 < N
    ·have z1 : decide (0 < N) = true := dT hz
     have EQ : Hd (cG (ap O gs) v h (i + 1) = bQ (ap O gs (i + 1) (h.drop ch)) v) := aH (by rw [EST.o, if_pos hz])
     obtain ⟨old, hold⟩ : ∃ l, cG (ap O gs) v h (i) = l := ⟨_, rfl⟩
     have hol : old.length = v + 1 := by rw [<- hold]; exact dD _ _ _ _
     have E4 : Hd (FArc wc be old) := aH (by rw [<- hold]; exact E3.o)
     have HOL := aH hol
     obtain ⟨fw, hfw⟩ : ∃ f : Nat -> Rat, f = fun (x : Nat) => ((ap O gs (i + 1) (h.drop ch) (x : Int) : Int) : Rat) / (N : Rat) := ⟨_, rfl⟩
     have FW := aH hfw
     clear hfw hold hol
     go_wp2_with fail
     go_loopg [12, 46] (v + 1) (fun gq _ ii wz => ∃ (q : Nat), ii = .int .i64 q /\ q + gq = v + 1 /\ Hd (FArc wz be ((List.range q).map fw ++ old.drop q)) /\ Hd (FArc wz (w.heap.size + 1) ((List.range (v + 1)).map (ow (i + 1)))) /\ Hd (SeenAt wz mw L) /\ Hd (Blk wz w.heap.size 175 [.slice (some ⟨b, 0, none⟩) (O + 1) (O + 1), .int .i64 ((v : Int) + 1), .slice Am (n + 1) cm]) /\ Hd (Below w.heap.size w wz))
     case atStart => exact ⟨0, rfl, by omega, aH (by simpa using E4.o), F3, SN, P3, B3⟩
     clear E2 F2 P2 B2 E3 F3 P3 B3 E4 SN
     obtain ⟨q, rfl, hq, E4, F4, SN4, P4, B4⟩ := hrel
     rcases zP gk with hh | hh
     ·subst hh
      obtain rfl : q = v + 1 := by omega
      go_wp2_with fail
      go_meet
      exact ⟨aH (by
       have h1 := E4.o
       rw [dN (by rw [HOL.o]; exact nR _), List.append_nil, FW.o] at h1
       rw [EQ.o]
       unfold bQ
       rw [HS.o]
       exact h1), F4, P4, B4⟩
     obtain ⟨gq, rfl⟩ : ∃ g, gk = g + 1 := ⟨gk - 1, by omega⟩
     obtain ⟨cj, hcj⟩ : ∃ c, ap O gs (i + 1) (h.drop ch) (q : Int) = c := ⟨_, rfl⟩
     have hm := M.o (q : Int)
     rw [hcj] at hm
     have hlk := SN4.o.look CN.o (x := (q : Int)) (by omega)
     rw [hcj] at hlk
     have HV : Hd ((cj : Rat) / (N : Rat) = fw q) := aH (by rw [FW.o]; simp only [hcj])
     have q1 : (0 : Int) <= (q : Int) := by omega
     have q2 : (q : Int) < (v : Int) + 1 := by omega
     have ql : q < old.length := by rw [HOL.o]; omega
     have HGT := aH (fz fw old ql)
     have QLH := aH ql
     clear hcj ql
     go_wp2_with fail
     refine (sn _ cj N hm.1 (by omega) hz (by omega)).mono ?_
     rintro e w5 ⟨u, rfl, t5, hb5⟩
     rw [HV.o] at t5
     obtain ⟨Ar, mr, cr, Ar', mr', cr', rfl⟩ := t5.at_.open_
     have T5 := aH t5.at_
     have E5 := aH (E4.o.below hb5)
     have F5 := aH (F4.o.below hb5)
     have SN5 := aH (SN4.o.below hb5)
     have P5 := aH (P4.o.below' hb5)
     have B5 := aH (B4.o.trans (hb5.mono B4.o.size))
     obtain ⟨_, _, _, _, _, _, f0, f1, f2, y0, y1, y2, _⟩ := E5.o.get HGT.o
     clear t5 hb5 hlk
     go_wp2_with fail
     go_roundg gq
     case measure => omega
     case rel => exact ⟨q + 1, rfl, by omega, aH (by
      have := E5.o.put (i := q) (by have := QLH.o; simp; omega) rfl T5.o
      rwa [cN fw old QLH.o rfl] at this), aH (F5.o.far E5.o (by omega) _ _ _ _ _ _ _ _ _ _), aH (SN5.o.far3 E5.o _ _ _ _ _ _), aH (P5.o.far3 (by omega) _ _ _ _ _ _), aH (aL B5.o (by omega) _ _ _ _ _ _)⟩
    have z1 : decide (0 < N) = false := dF hz
    have EQ : Hd (cG (ap O gs) v h (i + 1) = cG (ap O gs) v h (i)) := aH (by rw [EST.o, if_neg hz])
    go_wp2_with fail
    go_meet
    exact ⟨aH (by rw [EQ.o]; exact E3.o), F3, P3, B3⟩

  go_wp2_with fail
  go_region_held3 (fun w' => w'.cell? ⟨w.heap.size, 0, none⟩ = some (.slice (some ⟨b, 0, none⟩) (O + 1) (O + 1)) /\ w'.cell? ⟨w.heap.size, 1, none⟩ = some (.int .i64 ((v : Int) + 1)))
   (first | assumption | go_keep)
   (first
     | (go_at_call 219; refine (mI _ O (i + 1) b _ _ gs (h.drop k) (LV.o.below (bS _)) ⟨by omega, by omega⟩ hO ?_ (by rw [HDL.o]; omega) HDK.o).mono ?_; (exact IntsAt.drew (IW.o.cut HLN.o (by omega) (by omega))); rintro e wc ⟨mw, L, rfl, h1, h2, h3, h4'⟩; have h4 := bO h4'; have SN := aH h1; have CN : Hd (ix L (ap O gs (i + 1) (h.drop k))) := aH h2; have BC := aH h4; have hS := aI ((BC.o.cell (p := ⟨w.heap.size, 0, none⟩) (by show w.heap.size < wr.heap.size; omega)).trans p0) ((BC.o.cell (p := ⟨w.heap.size, 1, none⟩) (by show w.heap.size < wr.heap.size; omega)).trans p1); clear h1 h2 h3 h4 h4'))
  all_goals
   clear hS
   have M := aH (MLD.o (i + 1) (h.drop k))
   have HS0 : Hd (el L = aM (ap O gs (i + 1) (h.drop k)) v) := aH (gV CN.o (HT.o.keys CN.o))
   have EST : Hd (cG (ap O gs) v h (i + 1) = if 0 < aM (ap O gs (i + 1) (h.drop k)) v then bQ (ap O gs (i + 1) (h.drop k)) v else cG (ap O gs) v h (i)) := aH (by
    have e : h.length - i = k := by rw [HLN.o]; omega
    show (if 0 < aM (ap O gs (i + 1) (h.drop (h.length - i))) v then bQ (ap O gs (i + 1) (h.drop (h.length - i))) v else cG (ap O gs) v h (i)) = _
    rw [e])
   obtain ⟨N, hN⟩ : ∃ N : Int, el L = N := ⟨_, rfl⟩
   rw [hN]
   have HS := aH (HS0.o.symm.trans hN)
   have hbs := bH M.o v
   rw [HS.o] at hbs EST
   have hN0 : 0 <= N := hbs.1
   have hN1 : N < 900000000000000000 := by omega
   have E3 := aH (E2.o.below BC.o)
   have F3 := aH (F2.o.below BC.o)
   have P3 := aH (P2.o.below' BC.o)
   have B3 := aH (B2.o.trans (BC.o.mono B2.o.size))
   clear hN hbs p0 p1
   by_cases hz : 0 < N
   ·have z1 : decide (0 < N) = true := dT hz
    have EQ : Hd (cG (ap O gs) v h (i + 1) = bQ (ap O gs (i + 1) (h.drop k)) v) := aH (by rw [EST.o, if_pos hz])
    obtain ⟨old, hold⟩ : ∃ l, cG (ap O gs) v h (i) = l := ⟨_, rfl⟩
    have hol : old.length = v + 1 := by rw [<- hold]; exact dD _ _ _ _
    have E4 : Hd (FArc wc be old) := aH (by rw [<- hold]; exact E3.o)
    have HOL := aH hol
    obtain ⟨fw, hfw⟩ : ∃ f : Nat -> Rat, f = fun (x : Nat) => ((ap O gs (i + 1) (h.drop k) (x : Int) : Int) : Rat) / (N : Rat) := ⟨_, rfl⟩
    have FW := aH hfw
    clear hfw hold hol
    go_wp2_with fail
    go_loopg [12, 46] (v + 1) (fun gq _ ii wz => ∃ (q : Nat), ii = .int .i64 q /\ q + gq = v + 1 /\ Hd (FArc wz be ((List.range q).map fw ++ old.drop q)) /\ Hd (FArc wz (w.heap.size + 1) ((List.range (v + 1)).map (ow (i + 1)))) /\ Hd (SeenAt wz mw L) /\ Hd (Blk wz w.heap.size 175 [.slice (some ⟨b, 0, none⟩) (O + 1) (O + 1), .int .i64 ((v : Int) + 1), .slice Am (n + 1) cm]) /\ Hd (Below w.heap.size w wz))
    case atStart => exact ⟨0, rfl, by omega, aH (by simpa using E4.o), F3, SN, P3, B3⟩
    clear E2 F2 P2 B2 E3 F3 P3 B3 E4 SN
    obtain ⟨q, rfl, hq, E4, F4, SN4, P4, B4⟩ := hrel
    rcases zP gk with hh | hh
    ·subst hh
     obtain rfl : q = v + 1 := by omega
     go_wp2_with fail
     go_meet
     exact ⟨aH (by
      have h1 := E4.o
      rw [dN (by rw [HOL.o]; exact nR _), List.append_nil, FW.o] at h1
      rw [EQ.o]
      unfold bQ
      rw [HS.o]
      exact h1), F4, P4, B4⟩
    obtain ⟨gq, rfl⟩ : ∃ g, gk = g + 1 := ⟨gk - 1, by omega⟩
    obtain ⟨cj, hcj⟩ : ∃ c, ap O gs (i + 1) (h.drop k) (q : Int) = c := ⟨_, rfl⟩
    have hm := M.o (q : Int)
    rw [hcj] at hm
    have hlk := SN4.o.look CN.o (x := (q : Int)) (by omega)
    rw [hcj] at hlk
    have HV : Hd ((cj : Rat) / (N : Rat) = fw q) := aH (by rw [FW.o]; simp only [hcj])
    have q1 : (0 : Int) <= (q : Int) := by omega
    have q2 : (q : Int) < (v : Int) + 1 := by omega
    have ql : q < old.length := by rw [HOL.o]; omega
    have HGT := aH (fz fw old ql)
    have QLH := aH ql
    clear hcj ql
    go_wp2_with fail
    refine (sn _ cj N hm.1 (by omega) hz (by omega)).mono ?_
    rintro e w5 ⟨u, rfl, t5, hb5⟩
    rw [HV.o] at t5
    obtain ⟨Ar, mr, cr, Ar', mr', cr', rfl⟩ := t5.at_.open_
    have T5 := aH t5.at_
    have E5 := aH (E4.o.below hb5)
    have F5 := aH (F4.o.below hb5)
    have SN5 := aH (SN4.o.below hb5)
    have P5 := aH (P4.o.below' hb5)
    have B5 := aH (B4.o.trans (hb5.mono B4.o.size))
    obtain ⟨_, _, _, _, _, _, f0, f1, f2, y0, y1, y2, _⟩ := E5.o.get HGT.o
    clear t5 hb5 hlk
    go_wp2_with fail
    go_roundg gq
    case measure => omega
    case rel => exact ⟨q + 1, rfl, by omega, aH (by
     have := E5.o.put (i := q) (by have := QLH.o; simp; omega) rfl T5.o
     rwa [cN fw old QLH.o rfl] at this), aH (F5.o.far E5.o (by omega) _ _ _ _ _ _ _ _ _ _), aH (SN5.o.far3 E5.o _ _ _ _ _ _), aH (P5.o.far3 (by omega) _ _ _ _ _ _), aH (aL B5.o (by omega) _ _ _ _ _ _)⟩
   have z1 : decide (0 < N) = false := dF hz
   have EQ : Hd (cG (ap O gs) v h (i + 1) = cG (ap O gs) v h (i)) := aH (by rw [EST.o, if_neg hz])
   go_wp2_with fail
   go_meet
   exact ⟨aH (by rw [EQ.o]; exact E3.o), F3, P3, B3⟩

 obtain ⟨E5, F5, P5, B5⟩ := hcut
 clear E2 F2 P2 B2 p0 p1 p2
 obtain ⟨x, hx⟩ : ∃ x, mix[j]? = some x := ⟨_, eG (by rw [HML.o]; omega)⟩
 obtain ⟨A1, c1, ee, _, _, hat2⟩ := HM.o.at_
 obtain ⟨bm, om, ng, An, nn, cn, Ad, nd, cd, he, hbm, e0, e1, e2, hfx⟩ := hat2 j x hx
 have hA : Am = some ⟨bm, om, none⟩ := by injection ee with e1; rw [e1]; exact he
 subst hA
 have HGX : Hd (mix.getD j 0 = x) := aH (by rw [gD, hx]; rfl)
 have QX := aH (QM.o x (mG hx))
 have FX := aH hfx
 have HE0 := aH e0
 have HE1 := aH e1
 have HE2 := aH e2
 obtain ⟨est, hest⟩ : ∃ l, cG (ap O gs) v h j = l := ⟨_, rfl⟩
 have hel : est.length = v + 1 := by rw [<- hest]; exact dD _ _ _ _
 have QE : Hd (∀ q ∈ est, QB 128 q) := aH (by rw [<- hest]; exact ja (fun a b => HT.o.mild O a b) hv8 h j)
 have HEL := aH hel
 have HES := aH hest
 rw [hest] at E5
 have hs5 : w.heap.size + 1 < wc.heap.size := F5.o.lt
 clear hx ee hat2 he e0 e1 e2 hfx hest hel HM
 go_wp2_with fail
 go_loopg [13, 63] (v + 1) (fun gq _ ii wz => ∃ (q : Nat), ii = .int .i64 q /\ q + gq = v + 1 /\ Hd (FArc wz (w.heap.size + 1) ((List.range q).map (ow (j + 1)) ++ ((List.range (v + 1)).map (ow j)).drop q)) /\ Hd (FArc wz be est) /\ Hd (Blk wz w.heap.size 175 [.slice (some ⟨b, 0, none⟩) (O + 1) (O + 1), .int .i64 ((v : Int) + 1), .slice (some ⟨bm, om, none⟩) (n + 1) cm]) /\ Hd (Below w.heap.size w wz))
 case atStart => exact ⟨0, rfl, by omega, aH (by simpa using F5.o), E5, P5, B5⟩
 clear E5 F5 P5 B5
 obtain ⟨q, rfl, hq, F6, E6, P6, B6⟩ := hrel
 rcases zP gk with hh | hh
 ·subst hh
  obtain rfl : q = v + 1 := by omega
  have j9 : IntKind.i64.wrap ((j : Int) + 1) = (j : Int) + 1 := iI _ (by omega)
  go_wp2_with fail
  go_roundg gh
  case measure => omega
  case rel => exact ⟨j + 1, rfl, by omega, aH (by rw [Nat.add_sub_cancel, HES.o]; exact E6.o), aH (by
   have := F6.o
   rwa [dN (by simp), List.append_nil] at this), P6, B6⟩
 obtain ⟨gq, rfl⟩ : ∃ g, gk = g + 1 := ⟨gk - 1, by omega⟩
 obtain ⟨o, ho⟩ : ∃ y, ow j q = y := ⟨_, rfl⟩
 obtain ⟨pe, hpe⟩ : ∃ y, est.getD q 0 = y := ⟨_, rfl⟩
 have hlo : q < ((List.range (v + 1)).map (ow j)).length := by simp; omega
 have hgo := fz (ow (j + 1)) ((List.range (v + 1)).map (ow j)) hlo
 rw [show ((List.range (v + 1)).map (ow j)).getD q 0 = o by rw [gD, List.getElem?_map, List.getElem?_range (show q < v + 1 by omega), <- ho]; rfl] at hgo
 have hge : est[q]? = some pe := by rw [<- hpe, gD, eG (by rw [HEL.o]; omega)]; rfl
 have QP := aH (QE.o pe (mG hge))
 have QO : Hd (QB 966 o) := aH (by rw [<- ho, OW.o]; exact (lQ (fun a b => HT.o.mild O a b) hv8 QM.o h q j).mono (by omega))
 obtain ⟨X1, hX1⟩ : ∃ y : Rat, x * pe = y := ⟨_, rfl⟩
 have Q1 : Hd (QB 200 X1) := aH (by rw [<- hX1]; exact (QX.o.mul QP.o).mono (by omega))
 obtain ⟨X2, hX2⟩ : ∃ y : Rat, o + X1 = y := ⟨_, rfl⟩
 have HV : Hd (X2 = ow (j + 1) q) := aH (by
  rw [<- hX2, <- hX1, <- ho, <- hpe, OW.o, <- HGX.o, <- HES.o]
  rfl)
 have HX1 := aH hX1
 have HX2 := aH hX2
 have HGO := aH hgo
 have HGE := aH hge
 have HLO := aH hlo
 obtain ⟨Ao, mo, co, Ao', mo', co', g0, g1, g2, y0, y1, y2, tO⟩ := F6.o.get hgo
 obtain ⟨Ae, me, ce, Ae', me', ce', k0, k1, k2, _, _, _, tE⟩ := E6.o.get hge
 have TO := aH (tO.frac (k := 2000) (QO.o.mono (by omega)) (by omega))
 have TE := aH (tE.frac (k := 2000) (QP.o.mono (by omega)) (by omega))
 have TX := aH ((FX.o.below B6.o).mono (show 64 <= 2000 by omega))
 have c0 := (B6.o.cell (p := ⟨bm, om + j * 3, none⟩) hbm).trans HE0.o
 have c1 := (B6.o.cell (p := ⟨bm, om + j * 3 + 1, none⟩) hbm).trans HE1.o
 have c2 := (B6.o.cell (p := ⟨bm, om + j * 3 + 2, none⟩) hbm).trans HE2.o
 have p2 := P6.o.cell 2
 simp only [List.getElem?_cons_zero, List.getElem?_cons_succ] at p2
 clear ho hpe hlo hgo hge hX1 hX2 tO tE
 have q1 : (0 : Int) <= (q : Int) := by omega
 have q2 : (q : Int) < (v : Int) + 1 := by omega
 have q3 : (0 : Int) <= (j : Int) := by omega
 have q4 : (j : Int) < (n : Int) + 1 := by omega
 have l0 := F6.o.lt
 have l1 := E6.o.lt
 have l2 := P6.o.lt
 have l3 := B6.o.size
 have BB := aH (Below.refl wr.heap.size wr)
 have nb1 : bm ≠ w.heap.size + 1 := by omega
 have nb2 : be ≠ w.heap.size + 1 := by omega
 have nb3 : w.heap.size ≠ w.heap.size + 1 := by omega
 have HSET : Hd (∀ w', Below wr.heap.size wr w' -> (fun w' => w'.cell? ⟨w.heap.size, 2, none⟩ = some (.slice (some ⟨bm, om, none⟩) (n + 1) cm) /\ w'.cell? ⟨bm, om + j * 3, none⟩ = some (.bool ng) /\ w'.cell? ⟨bm, om + j * 3 + 1, none⟩ = some (.slice An nn cn) /\ w'.cell? ⟨bm, om + j * 3 + 2, none⟩ = some (.slice Ad nd cd) /\ w'.cell? ⟨be, q * 3, none⟩ = some (.bool (ae pe)) /\ w'.cell? ⟨be, q * 3 + 1, none⟩ = some (.slice Ae me ce) /\ w'.cell? ⟨be, q * 3 + 2, none⟩ = some (.slice Ae' me' ce')) w') := aH (fun w' hb => ⟨(hb.cell (p := ⟨w.heap.size, 2, none⟩) l2).trans p2, (hb.cell (p := ⟨bm, om + j * 3, none⟩) (by show bm < wr.heap.size; omega)).trans c0, (hb.cell (p := ⟨bm, om + j * 3 + 1, none⟩) (by show bm < wr.heap.size; omega)).trans c1, (hb.cell (p := ⟨bm, om + j * 3 + 2, none⟩) (by show bm < wr.heap.size; omega)).trans c2, (hb.cell (p := ⟨be, q * 3, none⟩) l1).trans k0, (hb.cell (p := ⟨be, q * 3 + 1, none⟩) l1).trans k1, (hb.cell (p := ⟨be, q * 3 + 2, none⟩) l1).trans k2⟩)
 clear p2 c0 c1 c2 k0 k1 k2
 go_wp2_with fail
 refine wp_region_held_drew (S := fun w' => w'.cell? ⟨w.heap.size, 2, none⟩ = some (.slice (some ⟨bm, om, none⟩) (n + 1) cm) /\ w'.cell? ⟨bm, om + j * 3, none⟩ = some (.bool ng) /\ w'.cell? ⟨bm, om + j * 3 + 1, none⟩ = some (.slice An nn cn) /\ w'.cell? ⟨bm, om + j * 3 + 2, none⟩ = some (.slice Ad nd cd) /\ w'.cell? ⟨be, q * 3, none⟩ = some (.bool (ae pe)) /\ w'.cell? ⟨be, q * 3 + 1, none⟩ = some (.slice Ae me ce) /\ w'.cell? ⟨be, q * 3 + 2, none⟩ = some (.slice Ae' me' ce')) (by kernel_rfl) (HSET.o _ (bS wr)) (fun hHeld => ?_)
 refine tjj 0 ?_ rfl (by kernel_rfl) rfl ‹_› ?_ (fun _ _ _ h => h) (tjj 1 ?_ rfl (by kernel_rfl) rfl ‹_› ?_ (fun _ _ _ h => h) (tjj 2 ?_ rfl (by kernel_rfl) rfl ‹_› ?_ (fun _ _ _ h => h) (tjj 3 ?_ rfl (by kernel_rfl) rfl ‹_› ?_ (fun _ _ _ h => h) (tjj 4 ?_ rfl (by kernel_rfl) rfl ‹_› ?_ (fun _ _ _ h => h) (tjj 6 ?_ rfl (by kernel_rfl) rfl ‹_› ?_ (fun _ _ _ h => h) (tjj 7 ?_ rfl (by kernel_rfl) rfl ‹_› ?_ (fun _ _ _ h => h) (tjj 8 ?_ rfl (by kernel_rfl) rfl ‹_› ?_ (fun _ _ _ h => h) (tjj 9 ?_ rfl (by kernel_rfl) rfl ‹_› ?_ (fun _ _ _ h => h) (tjj 10 ?_ rfl (by kernel_rfl) rfl ‹_› ?_ (fun _ _ _ h => h) (tjj 11 ?_ rfl (by kernel_rfl) rfl ‹_› ?_ (fun _ _ _ h => h) (tjj 12 ?_ rfl (by kernel_rfl) rfl ‹_› ?_ (fun _ _ _ h => h) (tjj 13 ?_ rfl (by kernel_rfl) rfl ‹_› ?_ (fun _ _ _ h => h) (tjj 14 ?_ rfl (by kernel_rfl) rfl ‹_› ?_ (fun _ _ _ h => h) ?_)))))))))))))
 iterate 14 (rotate_left; · (intro w' hSw; (try dsimp only at hSw); (try go_frame); go_simp <;> with_reducible rfl))
 go_frame
 refine wpAnyH_ready (rs := [5, 15]) (by kernel_rfl) (by simp) ?_
 refine AllReadyH.cons rfl (fun K hK => ?_) (AllReadyH.cons rfl (fun K hK => ?_) AllReadyH.nil)
 ·go_simp
  refine hK.out _ _ hHeld (fun _ => ?_)
  clear hK K
  try go_frame
  refine wpAnyH_ready (rs := [15]) (by kernel_rfl) (by simp) ?_
  refine AllReadyH.cons rfl (fun K hK => ?_) AllReadyH.nil
  go_simp
  refine (lP _ _ _ x pe 2000 (TX.o.below (bS _)) (TE.o.below (bS _)) (by omega) (by omega)).mono ?_
  rintro e wl ⟨u, rfl, t, hb'⟩
  rw [HX1.o] at t
  have hb := bO hb'
  have BB := aH hb
  have T1 := aH (t.at_.frac (k := 2000) (Q1.o.mono (by omega)) (by omega))
  obtain ⟨Az, mz, cz, Az', mz', cz', rfl⟩ := t.at_.open_
  clear hHeld t hb'
  have hS := HSET.o wl hb
  try go_simp
  refine hK.out _ _ hS (fun hHeld => ?_)
  clear hK K hS
  try go_frame
  refine wpAnyH_ready (rs := [16]) (by kernel_rfl) (by simp) ?_
  refine AllReadyH.cons rfl (fun K hK => ?_) AllReadyH.nil
  go_simp
  clear hHeld
  refine (l8 _ _ _ o X1 2000 (TO.o.below BB.o) T1.o (by omega) (by omega)).mono ?_
  rintro e wl2 ⟨u, rfl, t, hb2⟩
  rw [HX2.o, HV.o] at t
  have BB2 := aH (BB.o.trans (hb2.mono BB.o.size))
  obtain ⟨As, ms, cs, As', ms', cs', rfl⟩ := t.at_.open_
  have T2 := aH t.at_
  clear t hb2
  have hS := HSET.o wl2 BB2.o
  try go_simp
  refine hK.out _ _ hS (fun hHeld => ?_)
  clear hK K hS
  try go_frame
  refine tjj 17 ?_ rfl (by kernel_rfl) rfl ‹_› ?_ (fun _ _ _ h => h) ?_
  rotate_left
  ·(intro w' hSw; (try dsimp only at hSw); (try go_frame); go_simp <;> with_reducible rfl)
  go_frame
  obtain ⟨_, _, _, _, _, _, z0, z1, z2, x0, x1, x2, _⟩ := (F6.o.below BB2.o).get HGO.o
  refine wpAnyH_ready (rs := [18]) (by kernel_rfl) (by simp) ?_
  refine AllReadyH.cons rfl (fun K hK => ?_) AllReadyH.nil
  go_simp
  refine hK.out _ _ ⟨aj hHeld.1 nb3 _ _ _ _ _ _, aj hHeld.2.1 nb1 _ _ _ _ _ _, aj hHeld.2.2.1 nb1 _ _ _ _ _ _, aj hHeld.2.2.2.1 nb1 _ _ _ _ _ _, aj hHeld.2.2.2.2.1 nb2 _ _ _ _ _ _, aj hHeld.2.2.2.2.2.1 nb2 _ _ _ _ _ _, aj hHeld.2.2.2.2.2.2 nb2 _ _ _ _ _ _⟩ (fun _ => ?_)
  clear hK K hHeld
  try go_frame
  refine wpAnyH_done (by kernel_rfl) ?_ _
  go_wp2_with fail
  go_roundg gq
  case measure => omega
  case rel =>
   have F8 := F6.o.below BB2.o
   exact ⟨q + 1, rfl, by omega, aH (by
    have := F8.put (i := q) (by have := HLO.o; simp; omega) rfl T2.o
    rwa [cN (ow (j + 1)) _ HLO.o rfl] at this), aH ((E6.o.below BB2.o).far F8 nb2 _ _ _ _ _ _ _ _ _ _), aH ((P6.o.below' BB2.o).far3 nb3 _ _ _ _ _ _), aH (aL (B6.o.trans (BB2.o.mono B6.o.size)) (by omega) _ _ _ _ _ _)⟩
 go_simp
 refine (lP _ _ _ x pe 2000 (TX.o.below (bS _)) (TE.o.below (bS _)) (by omega) (by omega)).mono ?_
 rintro e wl ⟨u, rfl, t, hb'⟩
 rw [HX1.o] at t
 have hb := bO hb'
 have BB := aH hb
 have T1 := aH (t.at_.frac (k := 2000) (Q1.o.mono (by omega)) (by omega))
 obtain ⟨Az, mz, cz, Az', mz', cz', rfl⟩ := t.at_.open_
 clear hHeld t hb'
 have hS := HSET.o wl hb
 try go_simp
 refine hK.out _ _ hS (fun hHeld => ?_)
 clear hK K hS
 try go_frame
 have o0 := (BB.o.cell (p := ⟨w.heap.size + 1, q * 3, none⟩) l0).trans g0
 have o1 := (BB.o.cell (p := ⟨w.heap.size + 1, q * 3 + 1, none⟩) l0).trans g1
 have o2 := (BB.o.cell (p := ⟨w.heap.size + 1, q * 3 + 2, none⟩) l0).trans g2
 refine wpAnyH_ready (rs := [5]) (by kernel_rfl) (by simp) ?_
 refine AllReadyH.cons rfl (fun K hK => ?_) AllReadyH.nil
 go_simp
 refine hK.out _ _ hHeld (fun _ => ?_)
 clear hK K o0 o1 o2
 try go_frame
 refine wpAnyH_ready (rs := [16]) (by kernel_rfl) (by simp) ?_
 refine AllReadyH.cons rfl (fun K hK => ?_) AllReadyH.nil
 go_simp
 clear hHeld
 refine (l8 _ _ _ o X1 2000 (TO.o.below BB.o) T1.o (by omega) (by omega)).mono ?_
 rintro e wl2 ⟨u, rfl, t, hb2⟩
 rw [HX2.o, HV.o] at t
 have BB2 := aH (BB.o.trans (hb2.mono BB.o.size))
 obtain ⟨As, ms, cs, As', ms', cs', rfl⟩ := t.at_.open_
 have T2 := aH t.at_
 clear t hb2
 have hS := HSET.o wl2 BB2.o
 try go_simp
 refine hK.out _ _ hS (fun hHeld => ?_)
 clear hK K hS
 try go_frame
 refine tjj 17 ?_ rfl (by kernel_rfl) rfl ‹_› ?_ (fun _ _ _ h => h) ?_
 rotate_left
 ·(intro w' hSw; (try dsimp only at hSw); (try go_frame); go_simp <;> with_reducible rfl)
 go_frame
 obtain ⟨_, _, _, _, _, _, z0, z1, z2, x0, x1, x2, _⟩ := (F6.o.below BB2.o).get HGO.o
 refine wpAnyH_ready (rs := [18]) (by kernel_rfl) (by simp) ?_
 refine AllReadyH.cons rfl (fun K hK => ?_) AllReadyH.nil
 go_simp
 refine hK.out _ _ ⟨aj hHeld.1 nb3 _ _ _ _ _ _, aj hHeld.2.1 nb1 _ _ _ _ _ _, aj hHeld.2.2.1 nb1 _ _ _ _ _ _, aj hHeld.2.2.2.1 nb1 _ _ _ _ _ _, aj hHeld.2.2.2.2.1 nb2 _ _ _ _ _ _, aj hHeld.2.2.2.2.2.1 nb2 _ _ _ _ _ _, aj hHeld.2.2.2.2.2.2 nb2 _ _ _ _ _ _⟩ (fun _ => ?_)
 clear hK K hHeld
 try go_frame
 refine wpAnyH_done (by kernel_rfl) ?_ _
 go_wp2_with fail
 go_roundg gq
 case measure => omega
 case rel =>
  have F8 := F6.o.below BB2.o
  exact ⟨q + 1, rfl, by omega, aH (by
   have := F8.put (i := q) (by have := HLO.o; simp; omega) rfl T2.o
   rwa [cN (ow (j + 1)) _ HLO.o rfl] at this), aH ((E6.o.below BB2.o).far F8 nb2 _ _ _ _ _ _ _ _ _ _), aH ((P6.o.below' BB2.o).far3 nb3 _ _ _ _ _ _), aH (aL (B6.o.trans (BB2.o.mono B6.o.size)) (by omega) _ _ _ _ _ _)⟩
theorem eL (f : Nat -> Rat) (n : Nat) : bX ((List.range n).map f) = aQ f n := by
 induction n with
 | zero => rfl
 | succ n ih =>
  rw [List.range_succ, List.map_append, mC, ih]
  show _ + bX [f n] = aQ f n + f n
  rw [show bX [f n] = f n from by simp only [bX, List.foldl_cons, List.foldl_nil]; rw [Rat.zero_add]]
theorem n8 (l : List Rat) : aQ (fun j => l.getD j 0) l.length = bX l := by
 rw [<- eL]
 congr 1
 apply List.ext_getElem?
 intro i
 by_cases hi : i < l.length
 ·rw [List.getElem?_map, List.getElem?_range hi, eG hi]
  simp [gD, eG hi]
 rw [nI.2 (by simp; omega), nI.2 (by omega)]
theorem iE (f : Nat -> Rat) (c : Rat) (n : Nat) : aQ (fun x => c * f x) n = c * aQ f n := by
 induction n with
 | zero => show (0 : Rat) = c * 0; rw [Rat.mul_zero]
 | succ n ih => show aQ (fun x => c * f x) n + c * f n = c * (aQ f n + f n); rw [ih, Rat.mul_add]
theorem fZ (f : Nat -> Rat) (c : Rat) (n : Nat) : aQ (fun x => f x / c) n = aQ f n / c := by
 induction n with
 | zero => show (0 : Rat) = 0 / c; rw [Rat.div_def, Rat.zero_mul]
 | succ n ih =>
  show aQ (fun x => f x / c) n + f n / c = (aQ f n + f n) / c
  rw [ih, Rat.div_def, Rat.div_def, Rat.div_def, Rat.add_mul]
theorem gJ (C : Int -> Int) (v : Nat) : aQ (fun x => (C (x : Int) : Rat)) (v + 1) = (aM C v : Rat) := by
 induction v with
 | zero => show (0 : Rat) + (C 0 : Rat) = _; rw [Rat.zero_add, dB]
 | succ v ih =>
  show aQ (fun x => (C (x : Int) : Rat)) (v + 1) + (C ((v + 1 : Nat) : Int) : Rat) = _
  rw [ih, dC, Rat.intCast_add]
theorem iO {a : Rat} (h : a ≠ 0) : a / a = 1 := by rw [Rat.div_def, Rat.mul_inv_cancel a h]
theorem fr {z : Int} (h : 0 < z) : (0 : Rat) < (z : Rat) := by exact_mod_cast h
theorem fh {a : Rat} (h : 0 < a) : a ≠ 0 := fun e => Rat.lt_irrefl (e ▸ h)
theorem jN (v : Nat) : bX (dO v) = 1 := by
 have h : dO v = (List.range (v + 1)).map fun _ => (1 : Rat) / ((v + 1 : Nat) : Rat) := by
  apply List.ext_getElem?
  intro i
  unfold dO
  by_cases hi : i < v + 1
  ·rw [List.getElem?_map, List.getElem?_range hi, List.getElem?_replicate_of_lt hi]; rfl
  rw [nI.2 (by simp; omega), nI.2 (by simp; omega)]
 rw [h, eL, fL, Rat.div_def, Rat.one_mul, Rat.inv_mul_cancel]
 exact fh (by exact_mod_cast Nat.succ_pos v)
theorem kF {C : Int -> Int} {v : Nat} (hs : 0 < aM C v) : bX (bQ C v) = 1 := by
 unfold bQ
 rw [eL, fZ, gJ, iO (fh (fr hs))]
theorem q9 {C : Int -> Int} (h : Mild C) {v : Nat} {a : Rat} (ha : 0 < a) : bX (cQ C v a) = 1 := by
 unfold cQ
 rw [eL, fZ, f8, gJ, fL]
 refine iO (fh ?_)
 have h1 : (0 : Rat) <= (aM C v : Rat) := by exact_mod_cast (bH h v).1
 have h2 : 0 < a * ((v + 1 : Nat) : Rat) := Rat.mul_pos ha (by exact_mod_cast Nat.succ_pos v)
 grind
theorem ra {C : Int -> Int} (h : Mild C) {v : Nat} {a : Rat} (ha : 0 < a) : ∀ q ∈ cQ C v a, 0 < q := by
 intro q hq
 obtain ⟨x, hx, rfl⟩ := List.mem_map.1 hq
 have h1 : (0 : Rat) <= (aM C v : Rat) := by exact_mod_cast (bH h v).1
 have h2 : 0 < a * ((v + 1 : Nat) : Rat) := Rat.mul_pos ha (by exact_mod_cast Nat.succ_pos v)
 have h3 : (0 : Rat) <= (C x : Rat) := by exact_mod_cast (h x).1
 exact fT (by grind) (by grind)
theorem fK (l : List Rat) {n : Nat} (h : l.length = n) : aQ (fun j => l.getD j 0) n = bX l := by
 subst h; exact n8 l
theorem pA {T : Nat -> List Int -> Int -> Int} (hT : ∀ n h, Mild (T n h)) (v n : Nat) (h : List Int) : bX (bw T v n h) = 1 := by
 induction n generalizing h with
 | zero => exact jN v
 | succ n ih =>
  unfold bw
  split
  ·exact ih _
  next hs =>
  have h0 : 0 < aM (T (n + 1) h) v := by have := bH (hT (n + 1) h) v; omega
  have e : aQ (fun x => iA (T (n + 1) h) v ((bw T v n (h.drop 1)).getD x 0) x) (v + 1) = (aQ (fun x => (T (n + 1) h (x : Int) : Rat)) (v + 1) + aQ (fun x => (aF (T (n + 1) h) v : Rat) * (bw T v n (h.drop 1)).getD x 0) (v + 1)) / ((aM (T (n + 1) h) v + aF (T (n + 1) h) v : Int) : Rat) := by
   rw [<- f8, <- fZ]
   rfl
  rw [eL, e, gJ, iE, fK _ (cL T v n _), ih, Rat.mul_one, Rat.intCast_add, show (((aF (T (n + 1) h) v : Nat) : Int) : Rat) = ((aF (T (n + 1) h) v : Nat) : Rat) from Rat.intCast_natCast _]
  refine iO (fh ?_)
  have h1 := fr h0
  have h2 : (0 : Rat) <= ((aF (T (n + 1) h) v : Nat) : Rat) := by exact_mod_cast Nat.zero_le _
  grind
theorem pB {T : Nat -> List Int -> Int -> Int} (hT : ∀ n h, Mild (T n h)) (v n : Nat) (h : List Int) : ∀ q ∈ bw T v n h, 0 < q := by
 induction n generalizing h with
 | zero => exact gm v
 | succ n ih =>
  unfold bw
  split
  ·exact ih _
  next hs =>
  intro q hq
  obtain ⟨x, hx, rfl⟩ := List.mem_map.1 hq
  have hxl := List.mem_range.1 hx
  have h0 : 0 < aM (T (n + 1) h) v := by have := bH (hT (n + 1) h) v; omega
  have hk := (dU (hT (n + 1) h) v).1 h0
  have hp : 0 < (bw T v n (h.drop 1)).getD x 0 := by
   rw [gD, eG (by rw [cL]; exact hxl)]
   exact ih _ _ (List.getElem_mem _)
  have h1 : (0 : Rat) <= (T (n + 1) h x : Rat) := by exact_mod_cast (hT (n + 1) h x).1
  have h2 : (0 : Rat) < ((aF (T (n + 1) h) v : Nat) : Rat) := by exact_mod_cast hk
  have h3 := Rat.mul_pos h2 hp
  exact fT (by grind) (fr (by omega))
theorem qM {C : Int -> Int} (hC : Mild C) (a : Rat) (n : Nat) : aQ (fun x => if 0 < C (x : Int) then (C (x : Int) : Rat) - a else 0) (n + 1) = (aM C n : Rat) - a * (aF C n : Rat) := by
 induction n with
 | zero =>
  show (0 : Rat) + (if 0 < C 0 then (C 0 : Rat) - a else 0) = _
  rw [dB, ep, Rat.zero_add]
  have := hC 0
  by_cases h : C 0 = 0
  ·rw [if_pos h, if_neg (by omega), h]
   show (0 : Rat) = 0 - a * 0
   grind
  rw [if_neg h, if_pos (by omega)]
  show _ = (C 0 : Rat) - a * 1
  rw [Rat.mul_one]
 | succ n ih =>
  show aQ _ (n + 1) + (if 0 < C ((n + 1 : Nat) : Int) then (C ((n + 1 : Nat) : Int) : Rat) - a else 0) = _
  rw [ih, dC, er, Rat.intCast_add]
  have := hC ((n + 1 : Nat) : Int)
  by_cases h : C ((n + 1 : Nat) : Int) = 0
  ·rw [if_pos h, if_neg (by omega), h]
   show _ = _ + ((0 : Int) : Rat) - a * ((aF C n : Nat) : Rat)
   rw [show ((0 : Int) : Rat) = 0 from rfl]
   grind
  rw [if_neg h, if_pos (by omega), show ((aF C n + 1 : Nat) : Rat) = (aF C n : Rat) + 1 from by push_cast; rfl]
  grind
theorem rR {C : Int -> Int} (hC : Mild C) (ps : List Rat) (n : Nat) : aQ (fun x => if 0 < C (x : Int) then 0 else ps.getD x 0) n = aY C ps n := by
 induction n with
 | zero => rfl
 | succ n ih =>
  have := hC (n : Int)
  show aQ _ n + (if 0 < C (n : Int) then 0 else ps.getD n 0) = aY C ps (n + 1)
  rw [ih]
  unfold aY
  by_cases h : C (n : Int) = 0
  ·rw [if_pos h, if_neg (by omega)]
   cases n <;> rfl
  rw [if_neg h, if_pos (by omega), Rat.add_zero]
  cases n <;> rfl
theorem tG {T : Nat -> List Int -> Int -> Int} (hT : ∀ n h, Mild (T n h)) {v : Nat} {a : Rat} (ha : 0 < a) (ha1 : a < 1) (n : Nat) (h : List Int) : bX (bJ T v a n h) = 1 := by
 induction n generalizing h with
 | zero => exact jN v
 | succ n ih =>
  unfold bJ
  split
  ·next hk => exact kF ((dU (hT _ _) v).2 (by omega))
  next hk =>
  split
  ·exact ih _
  next hs =>
  have h0 : 0 < aM (T (n + 1) h) v := by have := bH (hT (n + 1) h) v; omega
  obtain ⟨y, hy, hy0⟩ := lF hk
  have hr : 0 < aY (T (n + 1) h) (bJ T v a n (h.drop 1)) (v + 1) := gc (gn hT ha ha1 n _) (x := y) (by omega) (by rw [bN]; exact nR _) hy0
  generalize hR : aY (T (n + 1) h) (bJ T v a n (h.drop 1)) (v + 1) = R at hr
  generalize hps : bJ T v a n (h.drop 1) = ps at hR
  generalize hCC : T (n + 1) h = C at *
  have hM : Mild C := by rw [<- hCC]; exact hT _ _
  have hsr := fr h0
  have e : aQ (fun x => fU C v a R (ps.getD x 0) x) (v + 1) = aQ (fun x => (if 0 < C (x : Int) then (C (x : Int) : Rat) - a else 0) / (aM C v : Rat)) (v + 1) + aQ (fun x => (a * (aF C v : Rat) / (aM C v : Rat) / R) * (if 0 < C (x : Int) then 0 else ps.getD x 0)) (v + 1) := by
   rw [<- f8]
   refine mB (fun x _ => ?_)
   unfold fU
   by_cases hx : 0 < C (x : Int)
   ·rw [if_pos hx, if_pos hx, if_pos hx, Rat.mul_zero, Rat.add_zero]
   rw [if_neg hx, if_neg hx, if_neg hx]
   simp only [Rat.div_def]
   grind
  rw [eL, e, fZ, iE, qM hM, rR hM, hR]
  simp only [Rat.div_def]
  have hRR : R⁻¹ * R = 1 := Rat.inv_mul_cancel _ (fh hr)
  have hSS : (aM C v : Rat) * (aM C v : Rat)⁻¹ = 1 := Rat.mul_inv_cancel _ (fh hsr)
  generalize (aM C v : Rat)⁻¹ = i at *
  generalize R⁻¹ = j at *
  grind
theorem uR {T : Nat -> List Int -> Int -> Int} (v : Nat) (h : List Int) (j : Nat) : bX (cG T v h j) = 1 := by
 induction j with
 | zero => exact jN v
 | succ j ih =>
  unfold cG
  split
  ·next hs => exact kF hs
  exact ih
theorem lH {C : Int -> Int} (hC : Mild C) (v : Nat) : ∀ q ∈ bQ C v, 0 <= q := by
 intro q hq
 obtain ⟨x, hx, rfl⟩ := List.mem_map.1 hq
 have h1 : (0 : Rat) <= (C (x : Int) : Rat) := by exact_mod_cast (hC x).1
 have h2 : (0 : Rat) <= (aM C v : Rat) := by exact_mod_cast (bH hC v).1
 rw [Rat.div_def]
 refine Rat.mul_nonneg h1 ?_
 by_cases h0 : (aM C v : Rat) = 0
 ·rw [h0, Rat.inv_zero]; exact Rat.le_refl
 exact Rat.le_of_lt (Rat.inv_pos.2 (Rat.lt_of_le_of_ne h2 (Ne.symm h0)))
theorem oM {T : Nat -> List Int -> Int -> Int} (hT : ∀ n h, Mild (T n h)) (v : Nat) (h : List Int) (j : Nat) : ∀ q ∈ cG T v h j, 0 <= q := by
 induction j with
 | zero => exact fun q hq => Rat.le_of_lt (gm v q hq)
 | succ j ih =>
  unfold cG
  split
  ·exact lH (hT _ _) v
  exact ih
theorem r9 {T : Nat -> List Int -> Int -> Int} (v : Nat) (mix : List Rat) (h : List Int) (j : Nat) : aQ (fun x => jD T v mix h x j) (v + 1) = aQ (fun i => mix.getD i 0) j := by
 induction j with
 | zero => show aQ (fun _ => (0 : Rat)) (v + 1) = 0; rw [fL, Rat.zero_mul]
 | succ j ih =>
  show aQ (fun x => jD T v mix h x j + mix.getD j 0 * (cG T v h j).getD x 0) (v + 1) = aQ (fun i => mix.getD i 0) j + mix.getD j 0
  rw [f8, ih, iE, fK _ (dD T v h j), uR, Rat.mul_one]
theorem qi {T : Nat -> List Int -> Int -> Int} (v : Nat) {mix : List Rat} {n : Nat} (hl : mix.length = n + 1) (hm : bX mix = 1) (h : List Int) : bX (dR T v mix n h) = 1 := by
 unfold dR
 rw [eL, r9, fK _ hl, hm]
theorem sd {T : Nat -> List Int -> Int -> Int} (hT : ∀ n h, Mild (T n h)) {v : Nat} {mix : List Rat} (hm : ∀ q ∈ mix, 0 <= q) (h0 : 0 < mix.getD 0 0) (h : List Int) {x : Nat} (hx : x < v + 1) (j : Nat) : 0 < jD T v mix h x (j + 1) := by
 induction j with
 | zero =>
  have hp : 0 < (dO v).getD x 0 := by
   rw [gD, eG (by rw [eE]; exact hx)]
   exact gm v _ (List.getElem_mem _)
  show 0 < (0 : Rat) + mix.getD 0 0 * (dO v).getD x 0
  rw [Rat.zero_add]
  exact Rat.mul_pos h0 hp
 | succ j ih =>
  show 0 < jD T v mix h x (j + 1) + mix.getD (j + 1) 0 * (cG T v h (j + 1)).getD x 0
  have h1 : 0 <= mix.getD (j + 1) 0 := cF (i := j + 1) (P := fun q => 0 <= q) Rat.le_refl hm
  have h2 : 0 <= (cG T v h (j + 1)).getD x 0 := cF (i := x) (P := fun q => 0 <= q) Rat.le_refl (oM hT v h (j + 1))
  have h3 := Rat.mul_nonneg h1 h2
  grind
theorem qj {T : Nat -> List Int -> Int -> Int} (hT : ∀ n h, Mild (T n h)) {v : Nat} {mix : List Rat} (hm : ∀ q ∈ mix, 0 <= q) (h0 : 0 < mix.getD 0 0) (n : Nat) (h : List Int) : ∀ q ∈ dR T v mix n h, 0 < q := by
 intro q hq
 obtain ⟨x, hx, rfl⟩ := List.mem_map.1 hq
 exact sd hT hm h0 h (List.mem_range.1 hx) n
def fA (k : Int) (O : Nat) (gs : List Gr) (v : Nat) (a : Rat) (mix : List Rat) (h : List Int) : List Rat :=
 if k = 1 then cQ (ap O gs O h) v a else if k = 2 then dR (ap O gs) v mix O h else if k = 3 then bJ (ap O gs) v a O h else bw (ap O gs) v O h
theorem mF {q : Rat} (h : ¬ aU q < 0) : 0 <= q := by
 unfold aU at h
 split at h
 ·next e => rw [e]; exact Rat.le_refl
 split at h
 ·omega
 next h1 => exact Rat.not_lt.1 h1
theorem qL {qs : List Rat} : iq qs = true ↔ (∀ q ∈ qs, 0 <= q) /\ bX qs = 1 := by
 unfold iq
 rw [Bool.and_eq_true, Bool.not_eq_true', decide_eq_false_iff_not, decide_eq_true_eq, kr]
 constructor
 ·rintro ⟨h1, h2⟩
  refine ⟨fun q hq => mF (fun h => h1 ⟨q, hq, h⟩), ?_⟩
  have := rI h2
  grind
 rintro ⟨h1, h2⟩
 refine ⟨?_, ?_⟩
 ·rintro ⟨q, hq, h⟩
  have h3 := h1 q hq
  unfold aU at h
  split at h
  ·omega
  split at h
  ·next h4 => exact absurd h4 (Rat.not_lt.2 h3)
  omega
 rw [h2, Rat.sub_self]
 rfl
theorem fH {a : Rat} {mix : List Rat} {O : Nat} (h : av 2 a mix O = true) : mix.length = O + 1 /\ (∀ q ∈ mix, 0 <= q) /\ bX mix = 1 /\ 0 < mix.getD 0 0 := by
 unfold av at h
 rw [if_neg (by decide), if_pos rfl] at h
 simp only [Bool.and_eq_true, decide_eq_true_eq, beq_iff_eq] at h
 obtain ⟨⟨⟨_, h1⟩, h2⟩, h3⟩ := h
 have := qL.1 h2
 exact ⟨by omega, this.1, this.2, jm h3⟩
theorem gH {k : Int} {a : Rat} {mix : List Rat} {O : Int} (h : av k a mix O = true) : k = 1 ∨ k = 2 ∨ k = 3 ∨ k = 4 := by
 unfold av at h
 by_cases h1 : k = 1
 ·exact Or.inl h1
 by_cases h2 : k = 2
 ·exact Or.inr (Or.inl h2)
 by_cases h3 : k = 3
 ·exact Or.inr (Or.inr (Or.inl h3))
 by_cases h4 : k = 4
 ·exact Or.inr (Or.inr (Or.inr h4))
 rw [if_neg h1, if_neg h2, if_neg h3, if_neg h4] at h
 cases h
theorem uw {k : Int} {O : Nat} {gs : List Gr} {v : Nat} {a : Rat} {mix : List Rat} (hT : SmallT gs v) (h : av k a mix O = true) (hl : List Int) :
  (fA k O gs v a mix hl).length = v + 1 /\ bX (fA k O gs v a mix hl) = 1 /\ ∀ q ∈ fA k O gs v a mix hl, 0 < q := by
 have hM : ∀ n h, Mild (ap O gs n h) := fun n h => hT.mild O n h
 unfold fA
 rcases gH h with rfl | rfl | rfl | rfl
 ·have := eW h
  rw [if_pos rfl]
  exact ⟨by simp [cQ], q9 (hM _ _) this.1, ra (hM _ _) this.1⟩
 ·have := fH h
  rw [if_neg (by decide), if_pos rfl]
  exact ⟨gF _ _ _ _ _, qi v this.1 this.2.2.1 hl, qj hM this.2.1 this.2.2.2 O hl⟩
 ·have := eK h
  rw [if_neg (by decide), if_neg (by decide), if_pos rfl]
  exact ⟨bN _ _ _ _ _, tG hM this.1 this.2.1 O hl, gn hM this.1 this.2.1 O hl⟩
 rw [if_neg (by decide), if_neg (by decide), if_neg (by decide)]
 exact ⟨cL _ _ _ _, pA hM v O hl, pB hM v O hl⟩
theorem wU (x : Value) (w : World) : (method 358 175 x "earshot/gram.row").run Tryz.prog w = .ok (218, x) w := by kernel_rfl
theorem xr (x : Value) (w : World) : (nilAhead 358 175 x "earshot/gram.row").run Tryz.prog w = .ok (some false) w := by kernel_rfl
theorem xt (x : Value) (w : World) : (nilAhead 358 177 x "earshot/gram.row").run Tryz.prog w = .ok (some false) w := by kernel_rfl
theorem xq (x : Value) (w : World) : (nilAhead 358 179 x "earshot/gram.row").run Tryz.prog w = .ok (some false) w := by kernel_rfl
theorem rk (w : World) (O v : Nat) (lv : Value) (gs : List Gr) (k : Int) (s : Bool) (A A' : Option Addr) (m c m' c' : Nat) (mv : Value) (a : Rat) (mix : List Rat) (h : LangAt w lv gs s A A' m c m' c' a mv mix) (hE : aJ O v gs k a mix = 0) (hv8 : v <= 8) :
  ∃ T rv F, xi w O v gs k s A A' m c m' c' mv (fA k O gs v a mix) T rv F := by
 have hG := dy (cI hE).1
 have hT := bY (cI hE).1 hv8
 have hV := (cI hE).2
 have hM : ∀ n h, Mild (ap O gs n h) := fun n h => hT.mild O n h
 have hqa : QB 64 a := h.amount.qb (by omega)
 have hbq : bq O <= 4392300 := po hG.2.1.2
 rcases gH hV with rfl | rfl | rfl | rfl
 ·have hA := eW hV
  have e : fA 1 O gs v a mix = fun h => cQ (ap O gs O h) v a := by funext h; unfold fA; rw [if_pos rfl]
  rw [e]
  refine ⟨180, fun b => .agg #[.slice (some ⟨b, 0, none⟩) (O + 1) (O + 1), .int .i64 ((v : Int) + 1), .bool s, .slice A m c, .slice A' m' c'], 226, ?_, fun b w => vi _ w, fun b w => wP _ w, fun args w => by kernel_rfl, ?_, ?_, ?_⟩
  ·intro b
   unfold fs
   rw [if_neg (by decide), if_neg (by decide), if_neg (by decide)]
  ·intro b W hv hl hL hb hi hll hk
   exact tW W O O b v hv gs hl s A A' m c m' c' a hL ⟨hG.2.1.1, nR _⟩ hG.2.1.2 hi hll hk (h.amount.below hb) hA.1 hv8 hT.1 hT.2.1 hT.2.2.1
  ·intro hl q hq
   exact (nJ (hT.mild O O hl) hv8 hqa q hq).mono (by omega)
  intro hl
  simp [cQ]
 ·have hA := fH hV
  have e : fA 2 O gs v a mix = fun h => dR (ap O gs) v mix O h := by funext h; unfold fA; rw [if_neg (by decide), if_pos rfl]
  rw [e]
  refine ⟨175, fun b => .agg #[.slice (some ⟨b, 0, none⟩) (O + 1) (O + 1), .int .i64 ((v : Int) + 1), mv], 218, ?_, fun b w => wU _ w, fun b w => xr _ w, fun args w => by kernel_rfl, ?_, ?_, ?_⟩
  ·intro b
   unfold fs
   rw [if_pos rfl]
  ·intro b W hv hl hL hb hi hll hk
   exact vP O b v gs hG.2.1.2 hT O W hv hl mv mix ⟨hG.2.1.1, nR _⟩ hL hi hll hk (h.mixes.below hb) hA.1
  ·intro hl q hq
   exact (qk hM hv8 (h.mixes.qb (by omega)) hG.2.1.2 hl q hq).mono (by omega)
  intro hl
  exact gF _ _ _ _ _
 ·have hA := eK hV
  have e : fA 3 O gs v a mix = fun h => bJ (ap O gs) v a O h := by funext h; unfold fA; rw [if_neg (by decide), if_neg (by decide), if_pos rfl]
  rw [e]
  refine ⟨177, fun b => .agg #[.slice (some ⟨b, 0, none⟩) (O + 1) (O + 1), .int .i64 ((v : Int) + 1), .bool s, .slice A m c, .slice A' m' c'], 222, ?_, fun b w => vh _ w, fun b w => xt _ w, fun args w => by kernel_rfl, ?_, ?_, ?_⟩
  ·intro b
   unfold fs
   rw [if_neg (by decide), if_pos rfl]
  ·intro b W hv hl hL hb hi hll hk
   exact vk O b v gs hG.2.1.2 hT s A A' m c m' c' a hA.1 hA.2.1 O W hv hl (nR _) hL hi hll hk (h.amount.below hb)
  ·intro hl q hq
   exact (jS hM hv8 hqa O hl q hq).mono (by omega)
  intro hl
  exact bN _ _ _ _ _
 have e : fA 4 O gs v a mix = fun h => bw (ap O gs) v O h := by funext h; unfold fA; rw [if_neg (by decide), if_neg (by decide), if_neg (by decide)]
 rw [e]
 refine ⟨179, fun b => .agg #[.slice (some ⟨b, 0, none⟩) (O + 1) (O + 1), .int .i64 ((v : Int) + 1)], 225, ?_, fun b w => vf _ w, fun b w => xq _ w, fun args w => by kernel_rfl, ?_, ?_, ?_⟩
 ·intro b
  unfold fs
  rw [if_neg (by decide), if_neg (by decide), if_pos rfl]
 ·intro b W hv hl hL hb hi hll hk
  exact ro O b v gs hG.2.1.2 hT O W hv hl (nR _) hL hi hll hk
 ·intro hl q hq
  exact (iB hM hv8 O hl q hq).mono (by omega)
 intro hl
 exact cL _ _ _ _
theorem wZ (w : World) (v : Value) (l : List Int) (hi : Int) (h : IntsAt w v l) :
  Calls Tryz.prog 88 #[v, .int .i64 hi] w fun e w' => e = .returned (.bool (inR 0 hi l)) /\ w' = w := by
 obtain ⟨A, ca, rfl, hlc, hcm, hA⟩ := h.open_
 have HA := aH hA
 clear h hA
 obtain ⟨n, hn⟩ : ∃ n, l.length = n := ⟨_, rfl⟩
 rw [hn] at hlc ⊢
 have HN := aH hn
 clear hn
 go_enter Tryz.func88, Tryz.ntmps88
 go_wp2_with fail
 go_loopg [5] n (fun g i wr => ∃ (j : Nat), wr = w /\ i = .int .i64 j /\ j + g = n /\ Hd (inR 0 hi l = inR 0 hi (l.drop j)))
 case atStart => exact ⟨0, rfl, rfl, by omega, aH rfl⟩
 obtain ⟨j, rfl, rfl, hj, HQ⟩ := hrel
 rcases zP gk with h | h
 ·obtain rfl : j = n := by omega
  have HT : Hd (inR 0 hi l = true) := aH (by rw [HQ.o, dN (by rw [HN.o]; exact nR _)]; rfl)
  go_wp2_with fail
  go_ret
  exact ⟨ai HT.o.symm, rfl⟩
 obtain ⟨g, rfl⟩ : ∃ g, gk = g + 1 := ⟨gk - 1, by omega⟩
 obtain ⟨x, hx⟩ : ∃ x, l[j]? = some x := ⟨_, eG (by rw [HN.o]; omega)⟩
 obtain ⟨ba, oa, rfl, _, hc⟩ := HA.o j x hx
 have ST := aH (HQ.o.trans (m9 hx))
 clear hx
 by_cases h1 : 0 <= x
 ·by_cases h2 : x <= hi
  ·have d1 : decide (x < 0) = false := dF (by omega)
   have d2 : decide (hi < x) = false := dF (by omega)
   have HT : Hd (inR 0 hi l = inR 0 hi (l.drop (j + 1))) := aH (by rw [ST.o, dT h1, dT h2]; rfl)
   clear h1 h2
   go_wp2_with fail
   go_roundg g
   case measure => omega
   case rel => exact ⟨j + 1, rfl, rfl, by omega, HT⟩
  have d1 : decide (x < 0) = false := dF (by omega)
  have d2 : decide (hi < x) = true := dT (by omega)
  have HT : Hd (inR 0 hi l = false) := aH (by rw [ST.o, dT h1, dF h2]; rfl)
  clear h1 h2
  go_wp2_with fail
  go_ret
  exact ⟨ai HT.o.symm, rfl⟩
 have d1 : decide (x < 0) = true := dT (by omega)
 have HT : Hd (inR 0 hi l = false) := aH (by rw [ST.o, dF h1]; rfl)
 clear h1
 go_wp2_with fail
 go_ret
 exact ⟨ai HT.o.symm, rfl⟩
theorem xp (w : World) (va vb : Value) (a b : List Int) (ha : IntsAt w va a) (hb : IntsAt w vb b) (hl : a.length <= b.length) :
  Calls Tryz.prog 83 #[va, vb] w fun e w' => e = .returned (.int .i64 (aN a b)) /\ ∃ m, w' = w.drewN m := by
 obtain ⟨A, ca, rfl, hlc, hcm, hA⟩ := ha.open_
 obtain ⟨B, cb, rfl, hmc, hcm', hB⟩ := hb.open_
 have HA := aH hA
 have HB := aH hB
 clear ha hb hA hB
 obtain ⟨n, hn⟩ : ∃ n, a.length = n := ⟨_, rfl⟩
 obtain ⟨p, hp⟩ : ∃ p, b.length = p := ⟨_, rfl⟩
 rw [hn] at hlc hl ⊢
 rw [hp] at hmc hl ⊢
 have HN := aH hn
 have HP := aH hp
 clear hn hp
 go_enter Tryz.func83, Tryz.ntmps83
 go_wp2_with fail
 go_loopg [5] n (fun g i wr => ∃ (j : Nat), (∃ d, wr = w.drewN d) /\ i = .int .i64 j /\ j + g = n /\ Hd (a.take j = b.take j))
 case atStart => exact ⟨0, ⟨0, rfl⟩, rfl, by omega, aH rfl⟩
 obtain ⟨j, ⟨nd, rfl⟩, rfl, hj, HQ⟩ := hrel
 rcases zP gk with h | h
 ·obtain rfl : j = n := by omega
  have HT : Hd (aN a b = 0) := aH (mT (by
   have := HQ.o
   rw [tL (by rw [HN.o]; exact nR _)] at this
   rw [HN.o]; exact this))
  go_wp2_with fail
  go_ret
  exact ⟨ag HT.o.symm, ⟨_, by first | rfl | exact World.drewN_drewN _ _ _ | exact (congrArg (fun u => World.drewN u _) (World.drewN_drewN _ _ _)).trans (World.drewN_drewN _ _ _)⟩⟩
 obtain ⟨g, rfl⟩ : ∃ g, gk = g + 1 := ⟨gk - 1, by omega⟩
 obtain ⟨x, hx⟩ : ∃ x, a[j]? = some x := ⟨_, eG (by rw [HN.o]; omega)⟩
 obtain ⟨y, hy⟩ : ∃ y, b[j]? = some y := ⟨_, eG (by rw [HP.o]; omega)⟩
 obtain ⟨ba, oa, rfl, _, hc⟩ := HA.o j x hx
 obtain ⟨bb, ob, rfl, _, hc'⟩ := HB.o j y hy
 have HX := aH hx
 have HY := aH hy
 clear hx hy
 by_cases hxy : x = y
 ·subst hxy
  have hne : (x != x) = false := by simp
  go_wp2_with fail
  go_quiet (fail)
  go_wp2_with fail
  go_roundg g
  case measure => omega
  case rel => exact ⟨j + 1, ⟨_, rfl⟩, rfl, by omega, aH (by rw [ah _ HX.o, ah _ HY.o, HQ.o])⟩
 have hne : (x != y) = true := by simpa using hxy
 have HF := aH (o8 HQ.o HX.o HY.o hxy)
 clear hxy
 by_cases hlt : x < y
 ·have HF2 : Hd (aN a b = -1) := aH (by rw [HF.o, if_pos hlt])
  have hd : decide (x < y) = true := dT hlt
  clear hlt
  go_wp2_with fail
  go_quiet (fail)
  go_wp2_with fail
  go_quiet (fail)
  go_wp2_with fail
  go_ret
  exact ⟨ag HF2.o.symm, ⟨_, by first | rfl | exact World.drewN_drewN _ _ _ | exact (congrArg (fun u => World.drewN u _) (World.drewN_drewN _ _ _)).trans (World.drewN_drewN _ _ _)⟩⟩
 have HF2 : Hd (aN a b = 1) := aH (by rw [HF.o, if_neg hlt])
 have hd : decide (x < y) = false := dF hlt
 clear hlt
 go_wp2_with fail
 go_quiet (fail)
 go_wp2_with fail
 go_quiet (fail)
 go_wp2_with fail
 go_ret
 exact ⟨ag HF2.o.symm, ⟨_, by first | rfl | exact World.drewN_drewN _ _ _ | exact (congrArg (fun u => World.drewN u _) (World.drewN_drewN _ _ _)).trans (World.drewN_drewN _ _ _)⟩⟩
theorem jr (w : World) (O V : Int) (lv : Value) (gs : List Gr) (h : GramsAt w lv gs) :
  Calls Tryz.prog 68 #[.agg #[.int .i64 O, .int .i64 V, lv]] w fun e w' => e = .returned (.int .i64 (aP O V gs)) /\ Below w.heap.size w w' := by
 obtain ⟨A, c, rfl, hlc, hcm, hat⟩ := h.open_
 have HAT := aH hat
 clear h hat
 obtain ⟨n, hn⟩ : ∃ n, gs.length = n := ⟨_, rfl⟩
 rw [hn] at hlc ⊢
 have HN := aH hn
 clear hn
 by_cases hlong : 20000 < n
 ·have hd2 : decide ((20000 : Int) < (n : Int)) = true := dT (by omega)
  have HE : Hd (aP O V gs = 5) := aH (iT (by rw [HN.o]; exact hlong))
  clear hlong
  go_enter Tryz.func68, Tryz.ntmps68
  go_wp2_with fail
  go_ret
  exact ⟨ag HE.o.symm, (Below.refl _ _).alloc (nR _) _⟩
 have hd2 : decide ((20000 : Int) < (n : Int)) = false := dF (by omega)
 have HL : Hd (¬ 20000 < gs.length) := aH (by rw [HN.o]; exact hlong)
 clear hlong
 go_enter Tryz.func68, Tryz.ntmps68
 go_wp2_with fail
 obtain ⟨W, hW, P0, PB, Phs⟩ := aA w 27 [.int .i64 O, .int .i64 V, .slice A n c]
 rw [<- hW]
 clear hW
 refine (vF W O V).mono ?_
 rintro e w1 ⟨rfl, hb1⟩
 have P1 := aH (P0.o.below' hb1)
 have B1 := aH (PB.o.trans (hb1.mono (by omega)))
 clear hb1 P0 PB
 obtain ⟨p0, p1, p2, _, _, _⟩ := P1.o.three
 obtain ⟨sb, hsb⟩ : ∃ b, bu O V = b := ⟨_, rfl⟩
 rw [hsb]
 have HSB := aH hsb
 clear hsb
 cases sb
 ·have HE : Hd (aP O V gs = 2) := aH (iS HL.o HSB.o)
  go_wp2_with fail
  go_ret
  exact ⟨ag HE.o.symm, B1.o⟩
 clear hd2
 go_wp2_with fail
 go_loopg [3] n (fun gh i wz => ∃ (j : Nat), i = .int .i64 j /\ j + gh = n /\ Hd (∀ k, k < j -> dL O V gs k = true) /\ Hd (Blk wz w.heap.size 27 [.int .i64 O, .int .i64 V, .slice A n c]) /\ Hd (Below w.heap.size w wz))
 case atStart => exact ⟨0, rfl, by omega, aH (fun k hk => by omega), P1, B1⟩
 clear p0 p1 p2 P1 B1
 obtain ⟨j, rfl, hj, HG, P1, B1⟩ := hrel
 obtain ⟨p0, p1, p2, _, _, _⟩ := P1.o.three
 have s2 : w.heap.size < wr.heap.size := P1.o.lt
 rcases zP gk with hh | hh
 ·subst hh
  obtain rfl : j = n := by omega
  have HE : Hd (aP O V gs = 0) := aH (iU HL.o HSB.o (fun i hi => HG.o i (by rw [HN.o] at hi; exact hi)))
  go_wp2_with fail
  go_ret
  exact ⟨ag HE.o.symm, B1.o⟩
 obtain ⟨gh, rfl⟩ : ∃ g, gk = g + 1 := ⟨gk - 1, by omega⟩
 obtain ⟨x, hx⟩ : ∃ x, gs[j]? = some x := ⟨_, eG (by rw [HN.o]; omega)⟩
 obtain ⟨ba, oa, a0, rfl, hba, ea0, ea1, fa⟩ := HAT.o j x hx
 have d0 := (B1.o.cell (p := ⟨ba, oa + j * 2, none⟩) hba).trans ea0
 have d1 := (B1.o.cell (p := ⟨ba, oa + j * 2 + 1, none⟩) hba).trans ea1
 have FA := aH (fa.below B1.o)
 have HX := aH hx
 have hz3 : ba < wr.heap.size := by omega
 clear hx ea0 ea1
 obtain ⟨A1, k1, hA1⟩ := fa.len
 subst hA1
 clear fa
 have HBAD : Hd ((¬ (x.1.length : Int) = O ∨ inR 0 V x.1 = false ∨ x.2 < 1 ∨ 1073741824 < x.2 ∨ (0 < j /\ ¬ aN (gs.getD (j - 1) ([], 0)).1 x.1 < 0)) -> aP O V gs = 2) := aH (fun hc => ji HL.o (by rw [HN.o]; omega) (im HX.o hc))
 obtain ⟨x1, x2⟩ := x
 simp only at d0 d1 FA HBAD
 obtain ⟨m, hm⟩ : ∃ m, x1.length = m := ⟨_, rfl⟩
 rw [hm] at d0
 have HM := aH hm
 rw [hm] at HBAD
 have FA2 : Hd (IntsAt wr (.slice A1 m k1) x1) := aH (by rw [<- hm]; exact FA.o)
 clear hm FA
 go_wp2_with fail
 obtain ⟨W2, hW2, G0, GB, Ghs⟩ := aA wr 51 [.slice A1 m k1, .int .i64 x2]
 rw [<- hW2]
 clear hW2
 have P3 := aH (P1.o.below' GB.o)
 have BE := aH (B1.o.trans (GB.o.mono B1.o.size))
 have FA3 := aH (FA2.o.below GB.o)
 have FI : Hd (∀ W', IntsAt W' (.slice A1 m k1) x1 -> Calls Tryz.prog 88 #[.slice A1 m k1, .int .i64 V] W' fun e w' => e = .returned (.bool (inR 0 V x1)) /\ w' = W') := aH (fun W' h => wZ W' _ x1 V h)
 clear p0 p1 p2 d0 d1 P1 B1 FA2 GB
 obtain ⟨p0, p1, p2, _, _, _⟩ := P3.o.three
 have g0 := G0.o.cell 0
 have g1 := G0.o.cell 1
 simp only [List.getElem?_cons_zero, List.getElem?_cons_succ] at g0 g1
 obtain ⟨ib, hib⟩ : ∃ b, inR 0 V x1 = b := ⟨_, rfl⟩
 rw [hib] at FI
 have HIB := aH hib
 clear hib
 by_cases hml : (m : Int) = O
 ·have e1 : ((m : Int) != O) = false := by simpa using hml
  have HML := aH hml
  clear hml
  cases ib
  ·have HE := aH (HBAD.o (.inr (.inl HIB.o)))
   go_quiet ((go_at_call 88; exact Calls.quiet_of_same (FI.o _ (FA3.o.drewN _))))
   go_wp2_with fail
   go_ret
   exact ⟨ag HE.o.symm, ak BE.o _⟩
  by_cases hx1 : x2 < 1
  ·have HE := aH (HBAD.o (.inr (.inr (.inl hx1))))
   have e2 : decide (x2 < 1) = true := dT hx1
   clear hx1
   go_quiet ((go_at_call 88; exact Calls.quiet_of_same (FI.o _ (FA3.o.drewN _))))
   go_wp2_with fail
   go_ret
   exact ⟨ag HE.o.symm, ak BE.o _⟩
  have e2 : decide (x2 < 1) = false := dF hx1
  by_cases hx2 : 1073741824 < x2
  ·have HE := aH (HBAD.o (.inr (.inr (.inr (.inl hx2)))))
   have e3 : decide (1073741824 < x2) = true := dT hx2
   clear hx1 hx2
   go_quiet ((go_at_call 88; exact Calls.quiet_of_same (FI.o _ (FA3.o.drewN _))))
   go_wp2_with fail
   go_ret
   exact ⟨ag HE.o.symm, ak BE.o _⟩
  have e3 : decide (1073741824 < x2) = false := dF hx2
  have HX12 := aH (aI hx1 hx2)
  clear hx1 hx2
  rcases zP j with hj0 | hj0
  ·subst hj0
   have HGT := aH (e8 (O := O) (V := V) HX.o (by rw [HM.o]; exact HML.o) HIB.o (by have := HX12.o; simp only; omega) (by have := HX12.o; simp only; omega) (fun h => by omega))
   go_quiet ((go_at_call 88; exact Calls.quiet_of_same (FI.o _ (FA3.o.drewN _))))
   go_wp2_with fail
   go_roundg gh
   case measure => omega
   case rel => exact ⟨1, rfl, by omega, aH (fun k hk => by rw [show k = 0 by omega]; exact HGT.o), aH (P3.o.drewN _), aH (ak BE.o _)⟩
  obtain ⟨i, rfl⟩ : ∃ i, j = i + 1 := ⟨j - 1, by omega⟩
  obtain ⟨y, hy⟩ : ∃ y, gs[i]? = some y := ⟨_, eG (by rw [HN.o]; omega)⟩
  obtain ⟨bb, ob, b0, eb, hbb, eb0, eb1, fb⟩ := HAT.o i y hy
  cases eb
  have d0 := (BE.o.cell (p := ⟨ba, oa + i * 2, none⟩) hbb).trans eb0
  have HYL := aH (jK hy (HG.o i (by omega)))
  obtain ⟨A2, k2, hA2⟩ := fb.len
  subst hA2
  have FB := aH (fb.below BE.o)
  have HOL : Hd (aN y.1 x1 = aN (gs.getD (i + 1 - 1) ([], 0)).1 x1) := aH (by rw [show i + 1 - 1 = i by omega, fC hy])
  obtain ⟨cv, hcv⟩ : ∃ c, aN y.1 x1 = c := ⟨_, rfl⟩
  rw [hcv] at HOL
  obtain ⟨p, hp⟩ : ∃ p, y.1.length = p := ⟨_, rfl⟩
  rw [hp] at d0 FB
  have CM : Hd (∀ W', IntsAt W' (.slice A2 p k2) y.1 -> IntsAt W' (.slice A1 m k1) x1 -> Calls Tryz.prog 83 #[.slice A2 p k2, .slice A1 m k1] W' fun e w' => e = .returned (.int .i64 cv) /\ ∃ m, w' = W'.drewN m) := aH (fun W' h1 h2 => by
   rw [<- hcv]
   exact xp W' _ _ _ _ h1 h2 (by have h1 := HYL.o; have h2 := HML.o; have h3 := HM.o; omega))
  have i1 : IntKind.i64.wrap ((i : Int) + 1 - 1) = (i : Int) := by rw [show (i : Int) + 1 - 1 = i by omega]; exact iI _ (by omega)
  have i2 : IntKind.i64.wrap (i : Int) = (i : Int) := iI _ (by omega)
  have j1 : (0 : Int) <= (i : Int) := by omega
  have j2 : (i : Int) < (n : Int) := by omega
  have j3 : decide ((0 : Int) < (i : Int) + 1) = true := dT (by omega)
  have j4 : decide (0 < i + 1) = true := dT (by omega)
  clear hy eb0 eb1 fb hcv hp
  by_cases hc : cv < 0
  ·have e5 : decide (0 <= cv) = false := dF (by omega)
   have HGT := aH (e8 (O := O) (V := V) HX.o (by rw [HM.o]; exact HML.o) HIB.o (by have := HX12.o; simp only; omega) (by have := HX12.o; simp only; omega) (fun _ => by rw [<- HOL.o]; exact hc))
   clear hc
   go_quiet (first | (go_at_call 88; exact Calls.quiet_of_same (FI.o _ (FA3.o.drewN _))) | (go_at_call 83; exact Calls.quiet_of (CM.o _ (FB.o.drewN _) (FA3.o.drewN _))))
   go_wp2_with fail
   go_roundg gh
   case measure => omega
   case rel => exact ⟨i + 1 + 1, rfl, by omega, aH (fun k hk => by
    by_cases e : k = i + 1
    ·rw [e]; exact HGT.o
    exact HG.o k (by omega)), aH (P3.o.drewN _), aH (ak BE.o _)⟩
  have e5 : decide (0 <= cv) = true := dT (by omega)
  have HE := aH (HBAD.o (.inr (.inr (.inr (.inr ⟨by omega, by rw [<- HOL.o]; omega⟩)))))
  clear hc
  go_quiet (first | (go_at_call 88; exact Calls.quiet_of_same (FI.o _ (FA3.o.drewN _))) | (go_at_call 83; exact Calls.quiet_of (CM.o _ (FB.o.drewN _) (FA3.o.drewN _))))
  go_wp2_with fail
  go_ret
  exact ⟨ag HE.o.symm, ak BE.o _⟩
 have e1 : ((m : Int) != O) = true := by simpa using hml
 have HE := aH (HBAD.o (.inl hml))
 clear hml
 go_quiet (fail)
 go_wp2_with fail
 go_ret
 exact ⟨ag HE.o.symm, ak BE.o _⟩
theorem pV (w : World) (O V : Int) (lv : Value) (gs : List Gr) (k : Int) (s : Bool) (A A' : Option Addr) (m c m' c' : Nat) (mv : Value) (a : Rat) (mix : List Rat) (h : LangAt w lv gs s A A' m c m' c' a mv mix) :
  Calls Tryz.prog 26 #[aG O V lv k s A A' m c m' c' mv] w fun e w' => e = .returned (.int .i64 (aJ O V gs k a mix)) /\ Below w.heap.size w w' := by
 obtain ⟨Al, cl, rfl, _, _, _⟩ := h.grams.open_
 obtain ⟨Am, cm, rfl, hmc, hmm, hat⟩ := h.mixes.open_
 have HL := aH h
 obtain ⟨ml, hml⟩ : ∃ n, mix.length = n := ⟨_, rfl⟩
 have HLM : Hd (FracsAt 64 w (.slice Am ml cm) mix) := aH (by rw [<- hml]; exact h.mixes)
 have HSH := aH h.short
 have HAT := aH hat
 have QA := aH (h.amount.qb (by omega))
 rw [hml] at hmc ⊢
 have HML := aH hml
 have hms : ml <= 1000000 := by rw [<- hml]; exact h.short
 clear h hml hat
 unfold aG
 go_enter Tryz.func26, Tryz.ntmps26
 go_wp2_with fail
 obtain ⟨W, hW, P0, PB, Phs⟩ := aA w 43 [.int .i64 O, .int .i64 V, .slice Al gs.length cl, .int .i64 k, .bool s, .slice A m c, .slice A' m' c', .slice Am ml cm]
 rw [<- hW]
 clear hW
 obtain ⟨p0, p1, p2, p3, p4, p5, p6, p7⟩ := an P0.o
 go_wp2_with fail
 refine (jr W O V _ gs (HL.o.grams.below PB.o)).mono ?_
 rintro e w1 ⟨rfl, hb1⟩
 have P1 := aH (P0.o.below' hb1)
 have B1 := aH (PB.o.trans (hb1.mono PB.o.size))
 clear p0 p1 p2 p3 p4 p5 p6 p7 hb1 P0 PB
 obtain ⟨p0, p1, p2, p3, p4, p5, p6, p7⟩ := an P1.o
 obtain ⟨te, hte⟩ : ∃ z, aP O V gs = z := ⟨_, rfl⟩
 rw [hte]
 have HTE := aH hte
 clear hte
 by_cases h0 : te = 0
 ·subst h0
  have HO := en (eI HTE.o).2.1
  have HE0 : Hd (aJ O V gs k a mix = if av k a mix O = true then 0 else 2) := aH (by unfold aJ; rw [HTE.o]; rfl)
  obtain ⟨sa, hsa⟩ : ∃ z, aU a = z := ⟨_, rfl⟩
  have HSA := aH hsa
  clear hsa
  by_cases hk1 : k = 1
  ·subst hk1
   by_cases hz : ml = 0
   ·have f1 : ((ml : Int) == 0) = true := by simpa using hz
    by_cases hs : 0 < sa
    ·have d1 : decide ((0 : Int) < sa) = true := dT hs
     have HV : Hd (av 1 a mix O = true) := aH (by unfold av; rw [if_pos rfl, HSA.o, HML.o, d1, f1]; rfl)
     clear hz hs
     go_wp2_with fail
     refine (ez w1 _ a 64 (HL.o.amount.below B1.o) (by omega)).mono ?_
     rintro e w2 ⟨rfl, hb2⟩
     rw [HSA.o]
     have B2 := aH (B1.o.trans (hb2.mono B1.o.size))
     have P2 := aH (P1.o.below' hb2)
     clear p0 p1 p2 p3 p4 p5 p6 p7 hb2
     obtain ⟨p0, p1, p2, p3, p4, p5, p6, p7⟩ := an P2.o
     have HE : Hd (aJ O V gs 1 a mix = 0) := aH (by rw [HE0.o, HV.o]; rfl)
     go_wp2_with fail
     go_ret
     exact ⟨ag HE.o.symm, B2.o⟩
    have d1 : decide ((0 : Int) < sa) = false := dF hs
    have HV : Hd (av 1 a mix O = false) := aH (by unfold av; rw [if_pos rfl, HSA.o, d1]; rfl)
    clear hz hs
    go_wp2_with fail
    refine (ez w1 _ a 64 (HL.o.amount.below B1.o) (by omega)).mono ?_
    rintro e w2 ⟨rfl, hb2⟩
    rw [HSA.o]
    have B2 := aH (B1.o.trans (hb2.mono B1.o.size))
    have P2 := aH (P1.o.below' hb2)
    clear p0 p1 p2 p3 p4 p5 p6 p7 hb2
    obtain ⟨p0, p1, p2, p3, p4, p5, p6, p7⟩ := an P2.o
    have HE : Hd (aJ O V gs 1 a mix = 2) := aH (by rw [HE0.o, HV.o]; rfl)
    go_wp2_with fail
    go_ret
    exact ⟨ag HE.o.symm, B2.o⟩
   have f1 : ((ml : Int) == 0) = false := by simpa using hz
   have HV : Hd (av 1 a mix O = false) := aH (by unfold av; rw [if_pos rfl, HML.o, f1, Bool.and_false])
   clear hz
   have HE : Hd (aJ O V gs 1 a mix = 2) := aH (by rw [HE0.o, HV.o]; rfl)
   go_wp2_with fail
   go_ret
   exact ⟨ag HE.o.symm, B1.o⟩
  have n1 : (k == 1) = false := by simpa using hk1
  by_cases hk2 : k = 2
  ·subst hk2
   clear n1 hk1
   have i1 : IntKind.i64.wrap (O + 1) = O + 1 := iI _ (by omega)
   by_cases hs : sa = 0
   ·have d1 : (sa == 0) = true := by simpa using hs
    clear hs
    go_wp2_with fail
    refine (ez w1 _ a 64 (HL.o.amount.below B1.o) (by omega)).mono ?_
    rintro e w2 ⟨rfl, hb2⟩
    rw [HSA.o]
    have B2 := aH (B1.o.trans (hb2.mono B1.o.size))
    have P2 := aH (P1.o.below' hb2)
    clear p0 p1 p2 p3 p4 p5 p6 p7 hb2
    obtain ⟨p0, p1, p2, p3, p4, p5, p6, p7⟩ := an P2.o
    by_cases hz : (ml : Int) = O + 1
    ·have f1 : ((ml : Int) == O + 1) = true := by simpa using hz
     have hm1 : 1 < ml := by omega
     have f2 : (0 : Int) < (ml : Int) := by omega
     go_wp2_with fail
     refine (ku w2 64 _ mix (HLM.o.below B2.o) (by omega) (by rw [HML.o]; omega)).mono ?_
     rintro e w3 ⟨rfl, hb3⟩
     obtain ⟨db, hdb⟩ : ∃ z, iq mix = z := ⟨_, rfl⟩
     rw [hdb]
     have HDB := aH hdb
     clear hdb
     have B3 := aH (B2.o.trans (hb3.mono B2.o.size))
     have P3 := aH (P2.o.below' hb3)
     clear p0 p1 p2 p3 p4 p5 p6 p7 hb3
     obtain ⟨p0, p1, p2, p3, p4, p5, p6, p7⟩ := an P3.o
     cases db with
     | false =>
      have HV : Hd (av 2 a mix O = false) := aH (by unfold av; rw [if_neg (by decide), if_pos rfl, HDB.o]; simp)
      have HE : Hd (aJ O V gs 2 a mix = 2) := aH (by rw [HE0.o, HV.o]; rfl)
      go_wp2_with fail
      go_ret
      exact ⟨ag HE.o.symm, B3.o⟩
     | true =>
      obtain ⟨x, hx⟩ : ∃ x, mix[0]? = some x := ⟨_, eG (by rw [HML.o]; omega)⟩
      obtain ⟨_, _, ee, _, _, hat2⟩ := HLM.o.at_
      obtain ⟨bm, om, ng, An, nn, cn, Ad, nd, cd, he, hbm, e0, e1, e2, hf⟩ := hat2 0 x hx
      have hA : Am = some ⟨bm, om, none⟩ := by cases ee; exact he
      subst hA
      have HG : Hd (mix.getD 0 0 = x) := aH (by rw [gD, hx]; rfl)
      simp only [Nat.zero_mul, Nat.add_zero] at e0 e1 e2
      have c0 := (B3.o.cell (p := ⟨bm, om, none⟩) hbm).trans e0
      have c1 := (B3.o.cell (p := ⟨bm, om + 1, none⟩) hbm).trans e1
      have c2 := (B3.o.cell (p := ⟨bm, om + 2, none⟩) hbm).trans e2
      have FX := aH hf
      clear hx ee hat2 he e0 e1 e2 hf
      go_wp2_with fail
      refine (ez w3 _ x 64 (FX.o.below B3.o) (by omega)).mono ?_
      rintro e w4 ⟨rfl, hb4⟩
      obtain ⟨sx, hsx⟩ : ∃ z, aU x = z := ⟨_, rfl⟩
      rw [hsx]
      have HSX := aH hsx
      clear hsx c0 c1 c2
      have B4 := aH (B3.o.trans (hb4.mono B3.o.size))
      have P4 := aH (P3.o.below' hb4)
      clear p0 p1 p2 p3 p4 p5 p6 p7 hb4
      obtain ⟨p0, p1, p2, p3, p4, p5, p6, p7⟩ := an P4.o
      by_cases hc : 0 < sx
      ·have d2 : decide (0 < sx) = true := dT hc
       have HV : Hd (av 2 a mix O = true) := aH (by unfold av; rw [if_neg (by decide), if_pos rfl, HSA.o, HML.o, HDB.o, HG.o, HSX.o, d1, f1, d2]; rfl)
       clear hc hz
       have HE : Hd (aJ O V gs 2 a mix = 0) := aH (by rw [HE0.o, HV.o]; rfl)
       go_wp2_with fail
       go_ret
       exact ⟨ag HE.o.symm, B4.o⟩
      have d2 : decide (0 < sx) = false := dF hc
      have HV : Hd (av 2 a mix O = false) := aH (by unfold av; rw [if_neg (by decide), if_pos rfl, HG.o, HSX.o, d2]; simp)
      clear hc hz
      have HE : Hd (aJ O V gs 2 a mix = 2) := aH (by rw [HE0.o, HV.o]; rfl)
      go_wp2_with fail
      go_ret
      exact ⟨ag HE.o.symm, B4.o⟩
    have f1 : ((ml : Int) == O + 1) = false := by simpa using hz
    have HV : Hd (av 2 a mix O = false) := aH (by unfold av; rw [if_neg (by decide), if_pos rfl, HML.o, f1]; simp)
    clear hz
    have HE : Hd (aJ O V gs 2 a mix = 2) := aH (by rw [HE0.o, HV.o]; rfl)
    go_wp2_with fail
    go_ret
    exact ⟨ag HE.o.symm, B2.o⟩
   have d1 : (sa == 0) = false := by simpa using hs
   have HV : Hd (av 2 a mix O = false) := aH (by unfold av; rw [if_neg (by decide), if_pos rfl, HSA.o, d1]; rfl)
   clear hs
   go_wp2_with fail
   refine (ez w1 _ a 64 (HL.o.amount.below B1.o) (by omega)).mono ?_
   rintro e w2 ⟨rfl, hb2⟩
   rw [HSA.o]
   have B2 := aH (B1.o.trans (hb2.mono B1.o.size))
   have P2 := aH (P1.o.below' hb2)
   clear p0 p1 p2 p3 p4 p5 p6 p7 hb2
   obtain ⟨p0, p1, p2, p3, p4, p5, p6, p7⟩ := an P2.o
   have HE : Hd (aJ O V gs 2 a mix = 2) := aH (by rw [HE0.o, HV.o]; rfl)
   go_wp2_with fail
   go_ret
   exact ⟨ag HE.o.symm, B2.o⟩
  have n2 : (k == 2) = false := by simpa using hk2
  by_cases hk3 : k = 3
  ·subst hk3
   clear n1 n2 hk1 hk2
   by_cases hz : ml = 0
   ·have f1 : ((ml : Int) == 0) = true := by simpa using hz
    have BB := aH (Below.refl w1.heap.size w1)
    have hS := aI p4 (aI p5 p6)
    obtain ⟨sc, hsc⟩ : ∃ z, aU (a - ((1 : Nat) : Rat)) = z := ⟨_, rfl⟩
    have HSC : Hd (aU (a - ((1 : Nat) : Rat)) = sc) := aH hsc
    have HSC1 : Hd (aU (a - 1) = sc) := aH hsc
    clear hsc
    by_cases hs : 0 < sa
    ·have d1 : decide ((0 : Int) < sa) = true := dT hs
     by_cases hc : sc < 0
     ·have d2 : decide (sc < 0) = true := dT hc
      have HV : Hd (av 3 a mix O = true) := aH (by unfold av; rw [if_neg (by decide), if_neg (by decide), if_pos rfl, HSC1.o, HSA.o, HML.o, dF (show ¬ 0 <= sc by omega), d1, f1]; rfl)
      have HE : Hd (aJ O V gs 3 a mix = 0) := aH (by rw [HE0.o, HV.o]; rfl)
      clear hc hz hs
      go_wp2_with fail
      go_region_held3 (fun w' => w'.cell? ⟨w.heap.size, 4, none⟩ = some (.bool s) /\ w'.cell? ⟨w.heap.size, 5, none⟩ = some (.slice A m c) /\ w'.cell? ⟨w.heap.size, 6, none⟩ = some (.slice A' m' c'))
       (first | assumption | go_keep)
       (first
        | (go_at_call 37; refine (ez _ _ a 64 (HL.o.amount.below B1.o |>.below (by first | exact BB.o | exact BB.o.trans (bS _) | exact BB.o.trans ((bS _).mono BB.o.size))) (by omega)).mono ?_; rintro e wl ⟨rfl, hb⟩; rw [HSA.o]; have hb0 := hb; (first | replace hb := below_new_drew hb | replace hb := below_new hb | replace hb := bO hb | skip); replace BB := aH (BB.o.trans (hb.mono BB.o.size)); clear hb0; have hS := aI ((P1.o.below' BB.o).cell 4) (aI ((P1.o.below' BB.o).cell 5) ((P1.o.below' BB.o).cell 6)); clear hb)
        | (go_at_call 33; refine (ofR _ 1 (by omega)).mono ?_; rintro e wl ⟨u, rfl, t3, hb⟩; have hb0 := hb; (first | replace hb := below_new_drew hb | replace hb := below_new hb | replace hb := bO hb | skip); replace BB := aH (BB.o.trans (hb.mono BB.o.size)); clear hb0; obtain ⟨Au, mu, cu, Au', mu', cu', rfl⟩ := t3.at_.open_; have T3 := aH (t3.at_.frac (k := 64) (bv (n := 1) (k := 64) (by omega) (by omega)) (by omega)); have hS := aI ((P1.o.below' BB.o).cell 4) (aI ((P1.o.below' BB.o).cell 5) ((P1.o.below' BB.o).cell 6)); clear hb t3)
        | (go_at_call 30; refine (vW _ _ _ a ((1 : Nat) : Rat) 64 (HL.o.amount.below B1.o |>.below (by first | exact BB.o | exact BB.o.trans ((bS _).mono BB.o.size))) ?_ (by omega) (by omega)).mono ?_; (first | exact T3.o | exact T3.o.below (bS _) | exact T3.o.below (bA _ _) | exact T3.o.below (below_alloc_drew _ _)); rintro e wl ⟨rfl, hb⟩; rw [HSC.o]; have hb0 := hb; (first | replace hb := below_new_drew hb | replace hb := below_new hb | replace hb := bO hb | skip); replace BB := aH (BB.o.trans (hb.mono BB.o.size)); clear hb0; have hS := aI ((P1.o.below' BB.o).cell 4) (aI ((P1.o.below' BB.o).cell 5) ((P1.o.below' BB.o).cell 6)); clear hb))
      all_goals
       go_wp2_with fail
       go_ret
       exact ⟨ag HE.o.symm, B1.o.trans (BB.o.mono B1.o.size)⟩
     have d2 : decide (sc < 0) = false := dF hc
     have HV : Hd (av 3 a mix O = false) := aH (by unfold av; rw [if_neg (by decide), if_neg (by decide), if_pos rfl, HSC1.o, dT (show 0 <= sc by omega)]; rfl)
     have HE : Hd (aJ O V gs 3 a mix = 2) := aH (by rw [HE0.o, HV.o]; rfl)
     clear hc hz hs
     go_wp2_with fail
     go_region_held3 (fun w' => w'.cell? ⟨w.heap.size, 4, none⟩ = some (.bool s) /\ w'.cell? ⟨w.heap.size, 5, none⟩ = some (.slice A m c) /\ w'.cell? ⟨w.heap.size, 6, none⟩ = some (.slice A' m' c'))
      (first | assumption | go_keep)
      (first
       | (go_at_call 37; refine (ez _ _ a 64 (HL.o.amount.below B1.o |>.below (by first | exact BB.o | exact BB.o.trans (bS _) | exact BB.o.trans ((bS _).mono BB.o.size))) (by omega)).mono ?_; rintro e wl ⟨rfl, hb⟩; rw [HSA.o]; have hb0 := hb; (first | replace hb := below_new_drew hb | replace hb := below_new hb | replace hb := bO hb | skip); replace BB := aH (BB.o.trans (hb.mono BB.o.size)); clear hb0; have hS := aI ((P1.o.below' BB.o).cell 4) (aI ((P1.o.below' BB.o).cell 5) ((P1.o.below' BB.o).cell 6)); clear hb)
       | (go_at_call 33; refine (ofR _ 1 (by omega)).mono ?_; rintro e wl ⟨u, rfl, t3, hb⟩; have hb0 := hb; (first | replace hb := below_new_drew hb | replace hb := below_new hb | replace hb := bO hb | skip); replace BB := aH (BB.o.trans (hb.mono BB.o.size)); clear hb0; obtain ⟨Au, mu, cu, Au', mu', cu', rfl⟩ := t3.at_.open_; have T3 := aH (t3.at_.frac (k := 64) (bv (n := 1) (k := 64) (by omega) (by omega)) (by omega)); have hS := aI ((P1.o.below' BB.o).cell 4) (aI ((P1.o.below' BB.o).cell 5) ((P1.o.below' BB.o).cell 6)); clear hb t3)
       | (go_at_call 30; refine (vW _ _ _ a ((1 : Nat) : Rat) 64 (HL.o.amount.below B1.o |>.below (by first | exact BB.o | exact BB.o.trans ((bS _).mono BB.o.size))) ?_ (by omega) (by omega)).mono ?_; (first | exact T3.o | exact T3.o.below (bS _) | exact T3.o.below (bA _ _) | exact T3.o.below (below_alloc_drew _ _)); rintro e wl ⟨rfl, hb⟩; rw [HSC.o]; have hb0 := hb; (first | replace hb := below_new_drew hb | replace hb := below_new hb | replace hb := bO hb | skip); replace BB := aH (BB.o.trans (hb.mono BB.o.size)); clear hb0; have hS := aI ((P1.o.below' BB.o).cell 4) (aI ((P1.o.below' BB.o).cell 5) ((P1.o.below' BB.o).cell 6)); clear hb))
     all_goals
      go_wp2_with fail
      go_ret
      exact ⟨ag HE.o.symm, B1.o.trans (BB.o.mono B1.o.size)⟩
    have d1 : decide ((0 : Int) < sa) = false := dF hs
    have HV : Hd (av 3 a mix O = false) := aH (by unfold av; rw [if_neg (by decide), if_neg (by decide), if_pos rfl, HSA.o, d1]; simp)
    have HE : Hd (aJ O V gs 3 a mix = 2) := aH (by rw [HE0.o, HV.o]; rfl)
    clear hz hs
    have HSET : Hd (∀ w', Below w1.heap.size w1 w' -> Below w1.heap.size w1 w' /\ w'.cell? ⟨w.heap.size, 4, none⟩ = some (.bool s) /\ w'.cell? ⟨w.heap.size, 5, none⟩ = some (.slice A m c) /\ w'.cell? ⟨w.heap.size, 6, none⟩ = some (.slice A' m' c')) := aH (fun w' hb => ⟨hb, (P1.o.below' hb).cell 4, (P1.o.below' hb).cell 5, (P1.o.below' hb).cell 6⟩)
    clear hS
    have hS := HSET.o w1.drew (bS w1)
    go_wp2_with fail
    refine wp_region_held_drew (S := (fun w' => Below w1.heap.size w1 w' /\ w'.cell? ⟨w.heap.size, 4, none⟩ = some (.bool s) /\ w'.cell? ⟨w.heap.size, 5, none⟩ = some (.slice A m c) /\ w'.cell? ⟨w.heap.size, 6, none⟩ = some (.slice A' m' c'))) (by kernel_rfl) hS (fun hHeld => ?_)
    clear hS
    refine tjj 0 ?_ rfl (by kernel_rfl) rfl ‹_› ?_ (fun _ _ _ h => h) (tjj 1 ?_ rfl (by kernel_rfl) rfl ‹_› ?_ (fun _ _ _ h => h) ?_)
    iterate 2 (rotate_left; · (intro w' hSw; (try dsimp only at hSw); (try go_frame); go_simp <;> with_reducible rfl))
    go_frame
    refine tjj 2 ?_ rfl (by kernel_rfl) rfl ‹_› ?_ (fun _ _ _ h => h) (tjj 3 ?_ rfl (by kernel_rfl) rfl ‹_› ?_ (fun _ _ _ h => h) ?_)
    iterate 2 (rotate_left; · (intro w' hSw; (try dsimp only at hSw); (try go_frame); go_simp <;> with_reducible rfl))
    go_frame
    refine wpAnyH_ready (rs := [4]) (by kernel_rfl) (by simp) ?_
    refine AllReadyH.cons rfl (fun K hK => ?_) AllReadyH.nil
    go_simp
    refine (ez _ _ a 64 ((HL.o.amount.below B1.o).below hHeld.1) (by omega)).mono ?_
    rintro e wl ⟨rfl, hb⟩
    rw [HSA.o]
    have hS := HSET.o wl (hHeld.1.trans (hb.mono hHeld.1.size))
    clear hb hHeld
    try go_simp
    refine hK.out _ _ hS (fun hHeld => ?_)
    clear hK K hS
    try go_frame
    refine tjj 5 ?_ rfl (by kernel_rfl) rfl ‹_› ?_ (fun _ _ _ h => h) (tjj 6 ?_ rfl (by kernel_rfl) rfl ‹_› ?_ (fun _ _ _ h => h) (tjj 7 ?_ rfl (by kernel_rfl) rfl ‹_› ?_ (fun _ _ _ h => h) ?_))
    iterate 3 (rotate_left; · (intro w' hSw; (try dsimp only at hSw); (try go_frame); go_simp <;> with_reducible rfl))
    go_frame
    refine sjj 8 rfl (by kernel_rfl) rfl ‹_› (fun _ _ _ h => h) ?_
    go_frame
    refine sjj 9 rfl (by kernel_rfl) rfl ‹_› (fun _ _ _ h => h) ?_
    go_frame
    refine sjj 10 rfl (by kernel_rfl) rfl ‹_› (fun _ _ _ h => h) ?_
    go_frame
    refine sjj 11 rfl (by kernel_rfl) rfl ‹_› (fun _ _ _ h => h) ?_
    go_frame
    refine sjj 12 rfl (by kernel_rfl) rfl ‹_› (fun _ _ _ h => h) ?_
    go_frame
    refine tjj 13 ?_ rfl (by kernel_rfl) rfl ‹_› ?_ (fun _ _ _ h => h) (tjj 14 ?_ rfl (by kernel_rfl) rfl ‹_› ?_ (fun _ _ _ h => h) ?_)
    iterate 2 (rotate_left; · (intro w' hSw; (try dsimp only at hSw); (try go_frame); go_simp <;> with_reducible rfl))
    go_frame
    refine wpAnyH_done (by kernel_rfl) ?_ _
    have hEND := B1.o.trans (hHeld.1.mono B1.o.size)
    clear hHeld
    go_wp2_with fail
    go_ret
    exact ⟨ag HE.o.symm, hEND⟩
   have f1 : ((ml : Int) == 0) = false := by simpa using hz
   have HV : Hd (av 3 a mix O = false) := aH (by unfold av; rw [if_neg (by decide), if_neg (by decide), if_pos rfl, HML.o, f1]; simp)
   have HE : Hd (aJ O V gs 3 a mix = 2) := aH (by rw [HE0.o, HV.o]; rfl)
   clear hz
   go_wp2_with fail
   go_quiet (fail)
   go_wp2_with fail
   go_ret
   exact ⟨ag HE.o.symm, ak B1.o _⟩
  have n3 : (k == 3) = false := by simpa using hk3
  by_cases hk4 : k = 4
  ·subst hk4
   clear n1 n2 n3 hk1 hk2 hk3
   by_cases hz : ml = 0
   ·have f1 : ((ml : Int) == 0) = true := by simpa using hz
    by_cases hs : sa = 0
    ·have d1 : (sa == 0) = true := by simpa using hs
     have HV : Hd (av 4 a mix O = true) := aH (by unfold av; rw [if_neg (by decide), if_neg (by decide), if_neg (by decide), if_pos rfl, HSA.o, HML.o, d1, f1]; rfl)
     clear hz hs
     go_wp2_with fail
     refine (ez w1 _ a 64 (HL.o.amount.below B1.o) (by omega)).mono ?_
     rintro e w2 ⟨rfl, hb2⟩
     rw [HSA.o]
     have B2 := aH (B1.o.trans (hb2.mono B1.o.size))
     have P2 := aH (P1.o.below' hb2)
     clear p0 p1 p2 p3 p4 p5 p6 p7 hb2
     obtain ⟨p0, p1, p2, p3, p4, p5, p6, p7⟩ := an P2.o
     have HE : Hd (aJ O V gs 4 a mix = 0) := aH (by rw [HE0.o, HV.o]; rfl)
     go_wp2_with fail
     go_ret
     exact ⟨ag HE.o.symm, B2.o⟩
    have d1 : (sa == 0) = false := by simpa using hs
    have HV : Hd (av 4 a mix O = false) := aH (by unfold av; rw [if_neg (by decide), if_neg (by decide), if_neg (by decide), if_pos rfl, HSA.o, d1]; rfl)
    clear hz hs
    go_wp2_with fail
    refine (ez w1 _ a 64 (HL.o.amount.below B1.o) (by omega)).mono ?_
    rintro e w2 ⟨rfl, hb2⟩
    rw [HSA.o]
    have B2 := aH (B1.o.trans (hb2.mono B1.o.size))
    have P2 := aH (P1.o.below' hb2)
    clear p0 p1 p2 p3 p4 p5 p6 p7 hb2
    obtain ⟨p0, p1, p2, p3, p4, p5, p6, p7⟩ := an P2.o
    have HE : Hd (aJ O V gs 4 a mix = 2) := aH (by rw [HE0.o, HV.o]; rfl)
    go_wp2_with fail
    go_ret
    exact ⟨ag HE.o.symm, B2.o⟩
   have f1 : ((ml : Int) == 0) = false := by simpa using hz
   have HV : Hd (av 4 a mix O = false) := aH (by unfold av; rw [if_neg (by decide), if_neg (by decide), if_neg (by decide), if_pos rfl, HML.o, f1, Bool.and_false])
   clear hz
   have HE : Hd (aJ O V gs 4 a mix = 2) := aH (by rw [HE0.o, HV.o]; rfl)
   go_wp2_with fail
   go_ret
   exact ⟨ag HE.o.symm, B1.o⟩
  have n4 : (k == 4) = false := by simpa using hk4
  have HV : Hd (av k a mix O = false) := aH (by unfold av; rw [if_neg hk1, if_neg hk2, if_neg hk3, if_neg hk4])
  clear hk1 hk2 hk3 hk4
  obtain ⟨fb, hfb⟩ : ∃ b, ((ml : Int) == 0) = b := ⟨_, rfl⟩
  cases fb
  all_goals
   have HE : Hd (aJ O V gs k a mix = 2) := aH (by rw [HE0.o, HV.o]; rfl)
   go_wp2_with fail
   go_ret
   exact ⟨ag HE.o.symm, B1.o⟩
 have e1 : (te != 0) = true := by simpa using h0
 have HE : Hd (aJ O V gs k a mix = te) := aH (by unfold aJ; rw [HTE.o, if_pos h0])
 clear h0
 go_wp2_with fail
 go_ret
 exact ⟨ag HE.o.symm, B1.o⟩
theorem rE {V : Int} {gs : List Gr} (h : df V gs = true) : gs.length <= 60 /\ V <= 8 := by
 unfold df at h
 simp only [Bool.and_eq_true, decide_eq_true_eq] at h
 exact h.1
theorem xV (f : Nat -> Rat) (n : Nat) : aQ f (n + 1) = f 0 + aQ (fun x => f (x + 1)) n := by
 induction n with
 | zero => show (0 : Rat) + f 0 = f 0 + 0; rw [Rat.zero_add, Rat.add_zero]
 | succ n ih =>
  show aQ f (n + 1) + f (n + 1) = f 0 + (aQ (fun x => f (x + 1)) n + f (n + 1))
  rw [ih, Rat.add_assoc]
theorem qE (w : World) : GramsAt w (.slice none 0 0) [] := (GOwn.nil_ 0 w).at_
section
open Go.RowKit Go.ChangeShapes Go.WideShapes Go.Deep Go.Joins
theorem oI {H : Type} {enc : TypeId × Value -> H} {W : World} {held : Bool} {fuel : Nat} {v : Value} {x : DataW H × List MemPlace}
  (h : DataW.trod enc Tryz.prog W 0 (fun _ => true) held fuel 25 [v] = some x) : ∃ (A : Option Addr) (n c : Nat) (gs : List Gr), v = .slice A n c /\ gs.length = n /\ GramsAt W v gs := by
 rcases open_slice_pairs Tryz.underlying25 Tryz.underlying51 (by kernel_rfl) rfl rfl (by kernel_rfl) (by kernel_rfl) h with ⟨hc, _⟩ | ⟨a, len, cap, m, k, V0, V1, D0, D1, P0, P1, hc, _, hl, hm, hmm, _, hall⟩
 ·simp at hc
  subst hc
  exact ⟨none, 0, 0, [], rfl, rfl, qE _⟩
 simp at hc
 subst hc
 simp only [if_true] at hmm
 have key : ∀ i, ∃ g : Gr, i < m -> V1 i = .int .i64 g.2 /\ IntsAt W (V0 i) g.1 := by
  intro i
  by_cases hi : i < m
  ·obtain ⟨_, _, t0, t1⟩ := hall i hi
   obtain ⟨l, hl⟩ := kR t0
   obtain ⟨z, hz, _⟩ := DataW.trod_int Tryz.underlying3 t1
   refine ⟨(l, z), fun _ => ⟨?_, hl⟩⟩
   simpa using hz
  exact ⟨([], 0), fun h => absurd h hi⟩
 obtain ⟨G, hG⟩ := Classical.axiomOfChoice key
 have hlen : (List.range len).length = len := List.length_range
 refine ⟨some a, len, cap, (List.range len).map G, rfl, by simp, ?_⟩
 obtain ⟨b, off, s⟩ := a
 refine ⟨(List.range (len * 2)).map fun j => if j % 2 = 0 then V0 (j / 2) else V1 (j / 2), ⟨by simp, some ⟨b, off, s⟩, cap, by simp, by simpa using hl, hm, fun hn => ?_⟩, fun i g hg => ?_⟩
 ·have hn' : 0 < len := by simpa using hn
  have h0 := (hall 0 (by omega)).1
  have hs : s = none := by simpa [Addr.add] using World.cell?_spot h0
  subst hs
  rw [add_plain] at h0
  refine ⟨b, off, rfl, block_lt_of_cell h0, fun j u hu => ?_⟩
  rw [List.getElem?_map] at hu
  by_cases hj : j < len * 2
  ·rw [List.getElem?_range hj] at hu
   obtain rfl := Option.some.inj hu
   have hx := hall (j / 2) (by omega)
   show _ = some (if j % 2 = 0 then V0 (j / 2) else V1 (j / 2))
   split
   ·have := hx.1
    rw [add_plain, show j / 2 * 2 = j by omega] at this
    exact this
   have := hx.2.1
   rw [add_plain, show j / 2 * 2 + 1 = j by omega] at this
   exact this
  rw [nI.2 (by simpa using hj)] at hu
  cases hu
 rw [List.getElem?_map] at hg
 by_cases hi : i < len
 ·rw [List.getElem?_range hi] at hg
  obtain rfl := Option.some.inj hg
  obtain ⟨g1, g2⟩ := hG i (by omega)
  refine ⟨V0 i, ?_, ?_, g2⟩
  ·rw [List.getElem?_map, List.getElem?_range (by omega), Option.map_some, if_pos (by omega), show i * 2 / 2 = i by omega]
  rw [List.getElem?_map, List.getElem?_range (by omega), Option.map_some, if_neg (by omega), show (i * 2 + 1) / 2 = i by omega, g1]
 rw [nI.2 (by simpa using hi)] at hg
 cases hg
end
section
open Go.RowKit Go.ChangeShapes Go.WideShapes Go.Deep Go.Joins
theorem vZ {α : Type} {cs : Array α} (h : cs.size = 8) : ∃ c0 c1 c2 c3 c4 c5 c6 c7, cs = #[c0, c1, c2, c3, c4, c5, c6, c7] := by
 obtain ⟨l⟩ := cs
 match l, h with
 | [c0, c1, c2, c3, c4, c5, c6, c7], _ => exact ⟨c0, c1, c2, c3, c4, c5, c6, c7, rfl⟩
theorem pW {H : Type} {enc : TypeId × Value -> H} {W : World} {held : Bool} {fuel : Nat} {v : Value} {x : DataW H × List MemPlace}
  (h : DataW.trod enc Tryz.prog W 0 (fun _ => true) held fuel 41 [v] = some x) : ∃ rs : List Raw, RawsAt W v rs := by
 have cf : Tryz.prog.cellsOf 40 = 3 := by kernel_rfl
 rcases open_slice Tryz.underlying41 h with ⟨hc, _⟩ | ⟨a, len, cap, m, n, D, Pl, hc, _, hl, hm, hmm, _, hall⟩
 ·simp at hc
  subst hc
  exact ⟨[], [], Sl.nil_ _ _, fun i r hr => by simp at hr⟩
 simp at hc
 subst hc
 simp only [if_true] at hmm
 have key : ∀ i, ∃ q : Raw × Value × Value, i < m -> W.cell? (a.add (i * 3)) = some (.bool q.1.neg) /\ W.cell? (a.add (i * 3 + 1)) = some q.2.1 /\ W.cell? (a.add (i * 3 + 2)) = some q.2.2 /\ DigAt W q.2.1 q.1.n /\ DigAt W q.2.2 q.1.d := by
  intro i
  by_cases hi : i < m
  ·obtain ⟨cs', h1, h2⟩ := hall i hi
   rw [cf] at h1
   obtain ⟨_, hlen, hcell⟩ := World.cells?_some h1
   obtain ⟨r, vn, vd, rfl, hn, hd⟩ := kV h2
   have e0 := hcell 0 (by omega)
   have e1 := hcell 1 (by omega)
   have e2 := hcell 2 (by omega)
   rw [add_add] at e0 e1 e2
   exact ⟨(r, vn, vd), fun _ => ⟨by simpa using e0, by simpa using e1, by simpa using e2, hn, hd⟩⟩
  exact ⟨(⟨false, [], []⟩, .bool false, .bool false), fun h => absurd h hi⟩
 obtain ⟨G, hG⟩ := Classical.axiomOfChoice key
 obtain ⟨b, off, s⟩ := a
 refine ⟨(List.range len).map fun i => (G i).1, (List.range (len * 3)).map fun j => if j % 3 = 0 then .bool (G (j / 3)).1.neg else if j % 3 = 1 then (G (j / 3)).2.1 else (G (j / 3)).2.2, ⟨by simp, some ⟨b, off, s⟩, cap, by simp, by simpa using hl, hm, fun hn => ?_⟩, fun i r hr => ?_⟩
 ·have hn' : 0 < len := by simpa using hn
  have h0 := (hG 0 (by omega)).1
  have hs : s = none := by simpa [Addr.add] using World.cell?_spot h0
  subst hs
  rw [add_plain] at h0
  refine ⟨b, off, rfl, block_lt_of_cell h0, fun j u hu => ?_⟩
  rw [List.getElem?_map] at hu
  by_cases hj : j < len * 3
  ·rw [List.getElem?_range hj] at hu
   obtain rfl := Option.some.inj hu
   have hx := hG (j / 3) (by omega)
   show _ = some (if j % 3 = 0 then .bool (G (j / 3)).1.neg else if j % 3 = 1 then (G (j / 3)).2.1 else (G (j / 3)).2.2)
   split
   ·have := hx.1
    rw [add_plain, show j / 3 * 3 = j by omega] at this
    exact this
   split
   ·have := hx.2.1
    rw [add_plain, show j / 3 * 3 + 1 = j by omega] at this
    exact this
   have := hx.2.2.1
   rw [add_plain, show j / 3 * 3 + 2 = j by omega] at this
   exact this
  rw [nI.2 (by simpa using hj)] at hu
  cases hu
 rw [List.getElem?_map] at hr
 by_cases hi : i < len
 ·rw [List.getElem?_range hi] at hr
  obtain rfl := Option.some.inj hr
  obtain ⟨_, _, _, g3, g4⟩ := hG i (by omega)
  refine ⟨(G i).2.1, (G i).2.2, ?_, ?_, ?_, g3, g4⟩
  ·rw [List.getElem?_map, List.getElem?_range (by omega), Option.map_some, if_pos (by omega), show i * 3 / 3 = i by omega]
  ·rw [List.getElem?_map, List.getElem?_range (by omega), Option.map_some, if_neg (by omega), if_pos (by omega), show (i * 3 + 1) / 3 = i by omega]
  rw [List.getElem?_map, List.getElem?_range (by omega), Option.map_some, if_neg (by omega), if_neg (by omega), show (i * 3 + 2) / 3 = i by omega]
 rw [nI.2 (by simpa using hi)] at hr
 cases hr
theorem qe {H : Type} {enc : TypeId × Value -> H} {W : World} {held : Bool} {v : Value} {d : DataW H} {ps : List MemPlace} {r : Reach} {b0 : Nat}
  (hv : Value.okWide Tryz.prog W r b0 43 v) (h : DataW.Trod enc Tryz.prog W 0 (fun _ => true) held 43 v d ps) :
  ∃ (O V : Int) (Al : Option Addr) (n cl : Nat) (gs : List Gr) (k : Int) (s : Bool) (A A' : Option Addr) (m c m' c' : Nat) (mv : Value) (am : Raw) (rs : List Raw),
   v = aG O V (.slice Al n cl) k s A A' m c m' c' mv /\ gs.length = n /\ GramsAt W (.slice Al n cl) gs /\ RawAt W (.agg #[.bool s, .slice A m c, .slice A' m' c']) am /\ RawsAt W mv rs /\ -9223372036854775808 <= O /\ O <= 9223372036854775807 := by
 have ct : Tryz.prog.cellsOf 27 = 3 := by kernel_rfl
 have cb : Tryz.prog.cellsOf 37 = 1 := by kernel_rfl
 have cf : Tryz.prog.cellsOf 40 = 3 := by kernel_rfl
 have cm : Tryz.prog.cellsOf 41 = 1 := by kernel_rfl
 have ci : Tryz.prog.cellsOf 3 = 1 := by kernel_rfl
 have cg : Tryz.prog.cellsOf 25 = 1 := by kernel_rfl
 have cl : Tryz.prog.cellsOf 43 = 8 := by kernel_rfl
 obtain ⟨cs, rfl, hsz⟩ := okWide_struct Tryz.underlying43 hv
 obtain ⟨c0, c1, c2, c3, c4, c5, c6, c7, rfl⟩ := vZ (hsz.trans cl)
 obtain ⟨fuel, hf⟩ := h
 obtain ⟨y0, y1, y2, y3, n, _, _, h0, h1, h2, h3⟩ := trod_struct4 Tryz.underlying43 hf
 simp [Value.cells, ct, cb, cf, cm] at h0 h1 h2 h3
 obtain ⟨z0, z1, z2, k, _, _, t0, t1, t2⟩ := trod_struct3 Tryz.underlying27 h0
 simp [ci, cg] at t0 t1 t2
 obtain ⟨o, ho, _, wo⟩ := DataW.trod_int Tryz.underlying3 t0
 obtain ⟨V, hV, _⟩ := DataW.trod_int Tryz.underlying3 t1
 obtain ⟨A, n', c, gs, rfl, hn, hg⟩ := oI t2
 obtain ⟨by', hby, _⟩ := DataW.trod_int Tryz.underlying37 h1
 obtain ⟨am, vn, vd, hc, hdn, hdd⟩ := kV h2
 obtain ⟨rs, hrs⟩ := pW h3
 simp at ho hV hby hc
 subst ho
 subst hV
 subst hby
 obtain ⟨rfl, rfl, rfl⟩ := hc
 obtain ⟨_, An, nc, rfl, _⟩ := hdn.open_
 obtain ⟨_, Ad, dc, rfl, _⟩ := hdd.open_
 simp [Lit.wf, IntKind.min, IntKind.max, IntKind.signed, IntKind.bits] at wo
 exact ⟨o, V, A, n', c, gs, by', am.neg, An, Ad, _, nc, _, dc, c7, am, rs, rfl, hn, hg, ⟨_, _, rfl, hdn, hdd⟩, hrs, by omega, by omega⟩
end
end
end Go.Proofs.YtjebfdfkjlkifaaGreat
