/- Lemmas. -/
import Derived.Test.YtjebfdfkjlkifaaGreatM47
set_option linter.all false
set_option maxRecDepth 1000000
set_option maxHeartbeats 32000000
namespace Go.Proofs.YtjebfdfkjlkifaaGreat
open Go.RowKit
theorem oZ {a k : Nat} (h : a < 2 ^ k) (p : Nat) : a ^ p < 2 ^ (k * p + 1) := by
 have h1 : a ^ p <= (2 ^ k) ^ p := Nat.pow_le_pow_left (Nat.le_of_lt h) p
 rw [<- Nat.pow_mul] at h1
 have h2 : 2 ^ (k * p) < 2 ^ (k * p + 1) := Nat.pow_lt_pow_right (by omega) (by omega)
 omega

theorem kS {c q b : Nat} (h : q % 2 = b) : c * q = 2 * c * (q / 2) + c * b := by
 have e : q = 2 * (q / 2) + b := by omega
 have e2 : c * q = c * (2 * (q / 2) + b) := by rw [<- e]
 rw [e2, Nat.mul_add, <- Nat.mul_assoc, Nat.mul_comm c 2]
theorem uB {x : Nat} (hx : x < 4294967296) : bits .and .i64 (x : Int) 1 = ((x % 2 : Nat) : Int) := by
 have h1 : (BitVec.ofInt 64 (x : Int)).toNat = x := by simp [BitVec.toNat_ofInt]; omega
 show IntKind.i64.wrap ((BitVec.ofInt 64 (x : Int) &&& BitVec.ofInt 64 1).toNat : Int) = _
 rw [BitVec.toNat_and, h1, show (BitVec.ofInt 64 1).toNat = 1 from by decide, Nat.and_one_is_mod]
 exact iI _ (by omega)

theorem power (w : World) (va : Value) (a k n : Nat) (ha : NatAt w va a) (la : a < 2 ^ k) (hn : n <= 4096) (hk : k <= 1000000000) :
  Calls Tryz.prog 157 #[va, .int .i64 (n : Int)] w fun e w' => ∃ v', e = .returned v' /\ NatAt w' v' (a ^ n) /\ Below w.heap.size w w' := by
 have HA := aH ha
 have LA := aH la
 clear ha la
 go_enter Tryz.func157, Tryz.ntmps157
 go_wp2_with fail
 refine (small w 1 (by omega)).mono ?_
 rintro e w1 ⟨v1, rfl, h1, hb1⟩
 have H1 := aH h1
 have HB1 := aH hb1
 clear h1 hb1
 go_wp2_with fail
 go_loopg [0, 1, 5] (n + 1) (fun gh x m y wz => ∃ (c q p : Nat), m = .int .i64 (q : Int) /\ q < gh /\ gh <= n + 1 /\ Hd (p + c * q = n) /\ Hd (c <= 2 * n + 1) /\ Hd (NatAt wz x (a ^ c)) /\ Hd (NatAt wz y (a ^ p)) /\ Hd (Below w.heap.size w wz))
 case atStart => exact ⟨1, n, 0, rfl, by omega, nR _, aH (by omega), aH (by omega), aH (by rw [Nat.pow_one]; exact HA.o.below HB1.o), H1, HB1⟩
 clear H1 HB1
 obtain ⟨c, q, p, rfl, hq, hgk, HQ, HC, HX, HY, BW⟩ := hrel
 rcases zP q with h0 | h0
 ·subst h0
  have HP : Hd (p = n) := aH (by have := HQ.o; simpa using this)
  go_wp2_with fail
  go_ret
  exact ⟨_, rfl, by rw [<- HP.o]; exact HY.o, BW.o⟩
 obtain ⟨gh, rfl⟩ : ∃ g, gk = g + 1 := ⟨gk - 1, by omega⟩
 have d1 : decide ((0 : Int) < (q : Int)) = true := dT (by omega)
 have d2 : decide (0 < q) = true := dT h0
 obtain ⟨b, hb⟩ : ∃ b, q % 2 = b := ⟨_, rfl⟩
 have hand : bits .and .i64 (q : Int) 1 = (b : Int) := by rw [uB (by have := HQ.o; omega), hb]
 have HB := aH hb
 have hb2 : b < 2 := by omega
 have hcq : Hd (c <= n) := aH (by
  have h1 : c * 1 <= c * q := Nat.mul_le_mul_left c h0
  have := HQ.o
  omega)
 have LX : Hd (a ^ c < 2 ^ (k * c + 1)) := aH (oZ LA.o c)
 have LY : Hd (a ^ p < 2 ^ (k * p + 1)) := aH (oZ LA.o p)
 have K1 : k * c + 1 <= 70368744177664 := by
  have : k * c <= 1000000000 * 4096 := Nat.mul_le_mul hk (by have := hcq.o; omega)
  omega
 have K2 : k * p + 1 <= 70368744177664 := by
  have : k * p <= 1000000000 * 4096 := Nat.mul_le_mul hk (by have := HQ.o; omega)
  omega
 clear hb
 rcases (show b = 0 ∨ b = 1 by omega) with rfl | rfl
 ·have e1 : (bits .and .i64 (q : Int) 1 == 1) = false := by rw [hand]; rfl
  clear hand
  go_wp2_with fail
  refine (mul wr _ _ (a ^ c) (a ^ c) (k * c + 1) (k * c + 1) HX.o HX.o LX.o LX.o K1 K1).mono ?_
  rintro e w4 ⟨x2, rfl, hx2, hb4⟩
  have HX4 : Hd (NatAt w4 x2 (a ^ (2 * c))) := aH (by
   rw [show 2 * c = c + c by omega, Nat.pow_add]
   exact hx2)
  have HY4 := aH (HY.o.below hb4)
  have B4 := aH (BW.o.trans (hb4.mono BW.o.size))
  clear hx2 hb4
  go_wp2_with fail
  go_roundg gh
  case measure => omega
  case rel => exact ⟨2 * c, q / 2, p, by rw [show ((q / 2 : Nat) : Int) = (q : Int) / 2 by omega], by omega, by omega, aH (by have h1 := kS (c := c) HB.o; have := HQ.o; omega), aH (by have := hcq.o; omega), HX4, HY4, B4⟩
 have e1 : (bits .and .i64 (q : Int) 1 == 1) = true := by rw [hand]; rfl
 clear hand
 go_wp2_with fail
 refine (mul wr _ _ (a ^ p) (a ^ c) (k * p + 1) (k * c + 1) HY.o HX.o LY.o LX.o K2 K1).mono ?_
 rintro e w4 ⟨y2, rfl, hy2, hb4⟩
 have HY4 : Hd (NatAt w4 y2 (a ^ (p + c))) := aH (by
  rw [Nat.pow_add]
  exact hy2)
 have HX4 := aH (HX.o.below hb4)
 have B4 := aH (BW.o.trans (hb4.mono BW.o.size))
 clear hy2 hb4
 go_wp2_with fail
 refine (mul w4 _ _ (a ^ c) (a ^ c) (k * c + 1) (k * c + 1) HX4.o HX4.o LX.o LX.o K1 K1).mono ?_
 rintro e w5 ⟨x2, rfl, hx2, hb5⟩
 have HX5 : Hd (NatAt w5 x2 (a ^ (2 * c))) := aH (by
  rw [show 2 * c = c + c by omega, Nat.pow_add]
  exact hx2)
 have HY5 := aH (HY4.o.below hb5)
 have B5 := aH (B4.o.trans (hb5.mono B4.o.size))
 clear hx2 hb5
 go_wp2_with fail
 go_roundg gh
 case measure => omega
 case rel => exact ⟨2 * c, q / 2, p + c, by rw [show ((q / 2 : Nat) : Int) = (q : Int) / 2 by omega], by omega, by omega, aH (by have h1 := kS (c := c) HB.o; have := HQ.o; omega), aH (by have := hcq.o; omega), HX5, HY5, B5⟩
theorem xH {q : Rat} (h : 0 < q) : ae q = false := by
 unfold ae
 refine dF (fun h1 => ?_)
 have h2 := (Rat.num_nonneg (q := q)).2 (Rat.le_of_lt h)
 omega
theorem powF (w : World) (v : Value) (q : Rat) (k n : Nat) (h : FracAt k w v q) (h0 : 0 < k) (hk : k <= 1000000000) (hq : 0 < q) (hn : 1 <= n /\ n <= 4096) :
  Calls Tryz.prog 126 #[v, .int .i64 (n : Int)] w fun e w' => ∃ u, e = .returned (.tuple #[u, .int .i64 0]) /\ CanAt w' u (q ^ n) /\ Below w.heap.size w w' := by
 obtain ⟨s, vn, vd, rfl⟩ := h.shape
 have H1 := aH h
 have hqb := h.qb h0
 have HNEG : Hd (ae q = false) := aH (xH hq)
 have LN : Hd (q.num.natAbs < 2 ^ k) := aH hqb.1
 have LD : Hd (q.den < 2 ^ k) := aH hqb.2
 have QP : Hd (QB (k * n + 1) (q ^ n)) := aH ⟨by rw [Rat.num_pow, Int.natAbs_pow]; exact oZ hqb.1 n, by rw [Rat.den_pow]; exact oZ hqb.2 n⟩
 have NUM : Hd (∀ (w' : World) (va vb : Value), NatAt w' va (q.num.natAbs ^ n) -> NatAt w' vb (q.den ^ n) -> NumAt w' (.agg #[.bool false, va, vb]) (q ^ n)) := aH (fun w' va vb ha hb => ⟨va, vb, by rw [xH (Rat.pow_pos hq)], by rw [Rat.num_pow, Int.natAbs_pow]; exact ha, by rw [Rat.den_pow]; exact hb⟩)
 have KB : k * n + 1 <= 17592186044416 := by
  have : k * n <= 1000000000 * 4096 := Nat.mul_le_mul hk hn.2
  omega
 have d1 : decide ((4096 : Int) < (n : Int)) = false := dF (by omega)
 have d2 : decide ((n : Int) < -4096) = false := dF (by omega)
 have d3 : decide ((n : Int) < 0) = false := dF (by omega)
 clear h hqb hq
 go_enter Tryz.func126, Tryz.ntmps126
 go_wp2_with fail
 obtain ⟨W, hW, P0, P1, PB, Phs⟩ := cP w 40 [.bool s, vn, vd] 40 [.bool false, .slice none 0 0, .slice none 0 0]
 rw [<- hW]
 clear hW
 obtain ⟨p0, p1, p2, _, _, _⟩ := P0.o.three
 go_wp2_with fail
 refine (take W _ q k (H1.o.below PB.o) h0 (by omega)).mono ?_
 rintro e w1 ⟨v1, rfl, t1, hb1⟩
 obtain ⟨A, m, c, A', m', c', rfl, ta, tb, _, _⟩ := t1.open_
 rw [HNEG.o]
 have TA := aH ta
 have TB := aH tb
 have R1 := aH (P1.o.below' hb1)
 have B1 := aH (PB.o.trans (hb1.mono (by omega)))
 have s1 : w.heap.size + 2 <= w1.heap.size := Nat.le_trans Phs hb1.size
 clear p0 p1 p2 t1 hb1 ta tb P0 P1 PB
 go_upto_region 8 with fail
 obtain ⟨W2, hW2, G0, GB, Ghs⟩ := aA w1 190 [.bool false, .slice A m c, .slice A' m' c']
 rw [<- hW2]
 clear hW2
 obtain ⟨g0, g1, g2, _, _, _⟩ := G0.o.three
 have TA2 := aH (TA.o.below GB.o)
 have TB2 := aH (TB.o.below GB.o)
 have R2 := aH (R1.o.below' GB.o)
 have B2 := aH (B1.o.trans (GB.o.mono (by omega)))
 have sG : w1.heap.size < W2.heap.size := G0.o.lt
 clear TA TB R1 B1
 have HSET : Hd (∀ w', Below W2.heap.size W2 w' -> (fun w' => w'.cell? ⟨w1.heap.size, 0, none⟩ = some (.bool false) /\ w'.cell? ⟨w1.heap.size, 1, none⟩ = some (.slice A m c) /\ w'.cell? ⟨w1.heap.size, 2, none⟩ = some (.slice A' m' c')) w') := aH (fun w' hb => ⟨(hb.cell (p := ⟨w1.heap.size, 0, none⟩) sG).trans g0, (hb.cell (p := ⟨w1.heap.size, 1, none⟩) sG).trans g1, (hb.cell (p := ⟨w1.heap.size, 2, none⟩) sG).trans g2⟩)
 clear g0 g1 g2
 refine wp_region_held_drew (S := fun w' => w'.cell? ⟨w1.heap.size, 0, none⟩ = some (.bool false) /\ w'.cell? ⟨w1.heap.size, 1, none⟩ = some (.slice A m c) /\ w'.cell? ⟨w1.heap.size, 2, none⟩ = some (.slice A' m' c')) (by kernel_rfl) (HSET.o _ (bS W2)) (fun hHeld => ?_)
 refine tjj 0 ?_ rfl (by kernel_rfl) rfl ‹_› ?_ (fun _ _ _ h => h) (tjj 1 ?_ rfl (by kernel_rfl) rfl ‹_› ?_ (fun _ _ _ h => h) (tjj 2 ?_ rfl (by kernel_rfl) rfl ‹_› ?_ (fun _ _ _ h => h) ?_))
 iterate 3 (rotate_left; · (intro w' hSw; (try dsimp only at hSw); (try go_frame); go_simp <;> with_reducible rfl))
 go_frame
 refine sjj 3 rfl (by kernel_rfl) rfl ‹_› (fun _ _ _ h => h) ?_
 go_frame
 refine sjj 4 rfl (by kernel_rfl) rfl ‹_› (fun _ _ _ h => h) ?_
 go_frame
 refine sjj 5 rfl (by kernel_rfl) rfl ‹_› (fun _ _ _ h => h) ?_
 go_frame
 refine tjj 6 ?_ rfl (by kernel_rfl) rfl ‹_› ?_ (fun _ _ _ h => h) (tjj 7 ?_ rfl (by kernel_rfl) rfl ‹_› ?_ (fun _ _ _ h => h) (tjj 8 ?_ rfl (by kernel_rfl) rfl ‹_› ?_ (fun _ _ _ h => h) (tjj 9 ?_ rfl (by kernel_rfl) rfl ‹_› ?_ (fun _ _ _ h => h) (tjj 11 ?_ rfl (by kernel_rfl) rfl ‹_› ?_ (fun _ _ _ h => h) (tjj 12 ?_ rfl (by kernel_rfl) rfl ‹_› ?_ (fun _ _ _ h => h) (tjj 13 ?_ rfl (by kernel_rfl) rfl ‹_› ?_ (fun _ _ _ h => h) ?_))))))
 iterate 7 (rotate_left; · (intro w' hSw; (try dsimp only at hSw); (try go_frame); go_simp <;> with_reducible rfl))
 go_frame
 refine wpAnyH_ready (rs := [10]) (by kernel_rfl) (by simp) ?_
 refine AllReadyH.cons rfl (fun K hK => ?_) AllReadyH.nil
 go_simp
 clear hHeld
 refine (power _ _ q.num.natAbs k n (TA2.o.below (bS W2)) LN.o hn.2 (by omega)).mono ?_
 rintro e w3 ⟨va, rfl, ha, hb'⟩
 obtain ⟨A1, m1, c1, rfl, _, _⟩ := ha.len
 have hb := bO hb'
 have VA := aH ha
 have B3 := aH hb
 clear ha hb'
 have hS := HSET.o w3 hb
 try go_simp
 refine hK.out _ _ hS (fun hHeld => ?_)
 clear hK K hS
 try go_frame
 clear hb
 refine wpAnyH_ready (rs := [14]) (by kernel_rfl) (by simp) ?_
 refine AllReadyH.cons rfl (fun K hK => ?_) AllReadyH.nil
 go_simp
 clear hHeld
 refine (power _ _ q.den k n (TB2.o.below B3.o) LD.o hn.2 (by omega)).mono ?_
 rintro e w4 ⟨vb, rfl, hv4, hb⟩
 obtain ⟨A2, m2, c2, rfl, _, _⟩ := hv4.len
 have VA4 := aH (VA.o.below hb)
 have VB4 := aH hv4
 have B4 := aH (B3.o.trans (hb.mono B3.o.size))
 clear hv4 hb
 have hS := HSET.o w4 B4.o
 try go_simp
 refine hK.out _ _ hS (fun hHeld => ?_)
 clear hK K hS
 try go_frame
 refine tjj 15 ?_ rfl (by kernel_rfl) rfl ‹_› ?_ (fun _ _ _ h => h) ?_
 rotate_left
 ·(intro w' hSw; (try dsimp only at hSw); (try go_frame); go_simp <;> with_reducible rfl)
 go_frame
 refine wpAnyH_ready (rs := [16]) (by kernel_rfl) (by simp) ?_
 refine AllReadyH.cons rfl (fun K hK => ?_) AllReadyH.nil
 go_simp
 clear hHeld
 refine (give w4 _ (q ^ n) (k * n + 1) (NUM.o w4 _ _ VA4.o VB4.o) QP.o KB).mono ?_
 rintro e w5 ⟨u, rfl, t5, hb⟩
 obtain ⟨Ax, mx, cx, Ax', mx', cx', rfl⟩ := t5.at_.open_
 have T5 := aH t5.at_
 have B5 := aH (B4.o.trans (hb.mono B4.o.size))
 clear t5 hb
 have hS := HSET.o w5 B5.o
 try go_simp
 refine hK.out _ _ hS (fun hHeld => ?_)
 clear hK K hS
 try go_frame
 have RB : Hd (BoxC w5 (w.heap.size + 1) 0) := aH (BoxC.of (q := 0) (R2.o.below' B5.o) ((CanNew.zero_ 0 w5).at_))
 obtain ⟨_, _, _, _, _, _, r0, r1, r2, y0, y1, y2, _⟩ := RB.o.get
 refine wpAnyH_ready (rs := [17]) (by kernel_rfl) (by simp) ?_
 refine AllReadyH.cons rfl (fun K hK => ?_) AllReadyH.nil
 go_simp
 refine hK.out _ _ ⟨aj hHeld.1 (by omega) _ _ _ _ _ _, aj hHeld.2.1 (by omega) _ _ _ _ _ _, aj hHeld.2.2 (by omega) _ _ _ _ _ _⟩ (fun _ => ?_)
 clear hK K hHeld
 try go_frame
 refine tjj 18 ?_ rfl (by kernel_rfl) rfl ‹_› ?_ (fun _ _ _ h => h) ?_
 rotate_left
 ·(intro w' hSw; (try dsimp only at hSw); (try go_frame); go_simp <;> with_reducible rfl)
 go_frame
 refine wpAnyH_done (by kernel_rfl) ?_ _
 go_wp2_with fail
 have R4 := RB.o.put rfl T5.o
 obtain ⟨Az, mz, cz, Az', mz', cz', g0, g1, g2, _, _, _, tz⟩ := R4.get
 refine bodyPost_ret (v := .tuple #[.agg #[.bool (ae (q ^ n)), .slice Az mz cz, .slice Az' mz' cz'], .int .i64 0]) (by simp [results, Tryz.results126, go_sem, g0, g1, g2, List.mapM_cons]) rfl ⟨_, rfl, tz, aL (B2.o.trans (B5.o.mono B2.o.size)) (by omega) _ _ _ _ _ _⟩
section
def endH (m : Nat) (s : List Int) : List Int := (List.replicate m 0 ++ s).drop s.length
def innG (m : Nat) (s : List Int) : List (List Int) := (List.range s.length).map fun i => ((List.replicate m 0 ++ s).drop i).take (m + 1)
theorem xX (m : Nat) (s : List Int) : (endH m s).length = m := by simp [endH]
theorem yw (m : Nat) (s : List Int) : aw m s = innG m s ++ [endH m s ++ [0]] := by
 unfold aw innG e9 endH
 rw [List.range_succ, List.map_append]
 congr 1
 ·refine List.map_congr_left (fun i hi => ?_)
  have := List.mem_range.1 hi
  rw [List.drop_append_of_le_length (by simp; omega), List.take_append_of_le_length (by simp; omega)]
 show [((List.replicate m 0 ++ s ++ [0]).drop s.length).take (m + 1)] = [(List.replicate m 0 ++ s).drop s.length ++ [0]]
 rw [List.drop_append_of_le_length (l₁ := List.replicate m 0 ++ s) (by simp), tL (by simp)]
def begQ (row : List Int -> List Rat) (m : Nat) (s : List Int) : Rat := iF row m (innG m s)
theorem xT (row : List Int -> List Rat) (m : Nat) (s : List Int) (x : Nat) (g : List (List Int)) : iF row m (g ++ [endH m s ++ [(x : Int)]]) = iF row m g * (row (endH m s)).getD x 0 := by
 have hl := xX m s
 have h1 : (endH m s ++ [(x : Int)]).take m = endH m s := by rw [List.take_append_of_le_length (by omega), tL (by omega)]
 have h2 : ((endH m s ++ [(x : Int)]).getD m 0).toNat = x := by
  rw [gD, List.getElem?_append_right (by omega), hl, Nat.sub_self]
  exact Int.toNat_natCast x
 rw [kH, h1, h2]
theorem yp (row : List Int -> List Rat) (m : Nat) (s : List Int) : oj row m s = begQ row m s * (row (endH m s)).getD 0 0 := by
 unfold oj begQ
 rw [yw]
 exact xT row m s 0 _
variable {row : List Int -> List Rat} {V : Nat}
theorem yK (hp : ∀ h, ∀ q ∈ row h, 0 < q) (hl : ∀ h, (row h).length = V + 1) {m : Nat} (g : List (List Int)) (hg : ∀ x ∈ g, (x.getD m 0).toNat <= V) : 0 < iF row m g := by
 unfold iF
 have key : ∀ (g : List (List Int)) (p : Rat), 0 < p -> (∀ x ∈ g, (x.getD m 0).toNat <= V) -> 0 < g.foldl (fun p g => p * (row (g.take m)).getD (g.getD m 0).toNat 0) p := by
  intro g
  induction g with
  | nil => intro p hp _; exact hp
  | cons x g ih =>
   intro p h0 hg
   refine ih _ (Rat.mul_pos h0 ?_) (fun y hy => hg y (by simp [hy]))
   have := hg x (by simp)
   rw [gD, eG (by rw [hl]; omega)]
   exact hp _ _ (List.getElem_mem _)
 exact key g 1 (by decide) hg
def yj (V : Nat) (s : List Int) : Prop := ∀ x ∈ s, 1 <= x /\ x <= (V : Int)
theorem zg {m : Nat} {s : List Int} (h : yj V s) : ∀ g ∈ innG m s, (g.getD m 0).toNat <= V := by
 intro g hg
 obtain ⟨i, hi, rfl⟩ := List.mem_map.1 hg
 have := List.mem_range.1 hi
 have e : (((List.replicate m 0 ++ s).drop i).take (m + 1)).getD m 0 = s.getD i 0 := by
  rw [gD, List.getElem?_take_of_lt (by omega), List.getElem?_drop, List.getElem?_append_right (by simp), List.length_replicate, gD]
  congr 2
  omega
 rw [e, gD, eG this]
 have := h _ (List.getElem_mem this)
 show (s[i]).toNat <= V
 omega
theorem yC (hp : ∀ h, ∀ q ∈ row h, 0 < q) (hl : ∀ h, (row h).length = V + 1) {m : Nat} {s : List Int} (h : yj V s) : 0 < begQ row m s := yK hp hl _ (zg h)
theorem say_pos (hp : ∀ h, ∀ q ∈ row h, 0 < q) (hl : ∀ h, (row h).length = V + 1) {m : Nat} {s : List Int} (h : yj V s) : 0 < oj row m s := by
 rw [yp]
 refine Rat.mul_pos (yC hp hl h) ?_
 rw [gD, eG (by rw [hl]; omega)]
 exact hp _ _ (List.getElem_mem _)
end
def LLOwn (B : Nat) (w : World) (v : Value) (ls : List (List Int)) : Prop := ∃ cells, w.ownsRow B 44 1 v ls.length cells /\
 ∀ (i : Nat) (l : List Int), ls[i]? = some l -> ∃ c0, cells[i]? = some c0 /\ IntsAt w c0 l /\ From c0 B /\ ∀ b, v.ownBlock = some b -> Off c0 b
theorem Same.refl (F : Nat) (w : World) : Same F w w := ⟨nR _, fun _ _ _ => rfl⟩
theorem Same.trans {F : Nat} {w w1 w2 : World} (h : Same F w w1) (h' : Same F w1 w2) : Same F w w2 :=
 ⟨Nat.le_trans h.1 h'.1, fun b hb hl => (h'.2 b hb (Nat.lt_of_lt_of_le hl h.1)).trans (h.2 b hb hl)⟩
theorem Same.of_below {F : Nat} {w w' : World} (h : Below w.heap.size w w') : Same F w w' := ⟨h.size, fun b _ hl => h.block b hl⟩
theorem LLOwn.nil_ (B : Nat) (w : World) : LLOwn B w (.slice none 0 0) [] := ⟨[], World.ownsRow_nil .., fun i l hl => by simp at hl⟩
theorem LLOwn.same {B : Nat} {w w' : World} {v : Value} {ls : List (List Int)} (h : LLOwn B w v ls) (hs : Same B w w') : LLOwn B w' v ls := by
 obtain ⟨cells, h1, h2⟩ := h
 refine ⟨cells, ?_, fun i l hl => ?_⟩
 ·obtain ⟨h0, h3 | ⟨g, cap, cur, hv, hg, hh, hr⟩⟩ := h1
  ·exact ⟨h0, .inl h3⟩
  exact ⟨h0, .inr ⟨g, cap, cur, hv, hg, (hs.2 g hg (Array.getElem?_eq_some_iff.1 hh).1).trans hh, hr⟩⟩
 obtain ⟨c0, e0, e1, e2, e3⟩ := h2 i l hl
 exact ⟨c0, e0, Sl.same e1 e2 hs, e2, e3⟩
theorem LLOwn.below {B : Nat} {w w' : World} {v : Value} {ls : List (List Int)} (h : LLOwn B w v ls) (hb : Below w.heap.size w w') : LLOwn B w' v ls := h.same (Same.of_below hb)
theorem LLOwn.new {B F : Nat} {w : World} {v : Value} {ls : List (List Int)} (h : LLOwn B w v ls) (hF : F <= B) : ListsNew F w v ls := by
 obtain ⟨cells, h1, h2⟩ := h
 refine ⟨cells, Sl.of_own h1, (From.of_own h1).mono hF, fun i l hl => ?_⟩
 obtain ⟨c0, e0, e1, e2, _⟩ := h2 i l hl
 exact ⟨c0, e0, e1, e2.mono hF⟩
theorem LLOwn.push {B : Nat} {w w1 w' : World} {v v' c : Value} {ls : List (List Int)} {l : List Int} {cells : List Value} (h2 : ∀ (i : Nat) (l : List Int), ls[i]? = some l -> ∃ c0, cells[i]? = some c0 /\ IntsAt w c0 l /\ From c0 B /\ ∀ b, v.ownBlock = some b -> Off c0 b) (hlen : cells.length = ls.length)
  (hw : Same B w w1) (hc : IntsAt w1 c l) (hcf : From c B) (hco : ∀ b, v.ownBlock = some b -> Off c b) (hown : w'.ownsRow B 44 1 v' (ls.length + 1) (cells ++ [c])) (hg : w1.grownBy w' v.ownBlock) (hb : v'.ownBlock = v.ownBlock ∨ v'.ownBlock = some w1.heap.size) : LLOwn B w' v' (ls ++ [l]) := by
 refine ⟨cells ++ [c], by rw [List.length_append]; exact hown, fun i m hm => ?_⟩
 have key : ∀ (c0 : Value) (m : List Int), IntsAt w1 c0 m -> (∀ b, v.ownBlock = some b -> Off c0 b) -> IntsAt w' c0 m /\ ∀ b, v'.ownBlock = some b -> Off c0 b := fun c0 m h1 h3 =>
  ⟨Sl.keptOff h1 hg h3, fun b hb' => by
   rcases hb with e | e
   ·exact h3 b (e ▸ hb')
   rw [e] at hb'
   cases hb'
   exact IntsAt.off h1 (nR _)⟩
 by_cases hi : i < ls.length
 ·rw [List.getElem?_append_left hi] at hm
  obtain ⟨c0, e0, e1, e2, e3⟩ := h2 i m hm
  obtain ⟨k1, k2⟩ := key c0 m (Sl.same e1 e2 hw) e3
  exact ⟨c0, by rw [List.getElem?_append_left (by omega)]; exact e0, k1, e2, k2⟩
 rw [List.getElem?_append_right (by omega)] at hm
 have hi2 : i = ls.length := by
  have := (sI.1 hm).1
  simp at this
  omega
 subst hi2
 rw [Nat.sub_self] at hm
 cases hm
 obtain ⟨k1, k2⟩ := key c l hc hco
 exact ⟨c, by rw [List.getElem?_append_right (by omega), hlen, Nat.sub_self]; rfl, k1, hcf, k2⟩

def BoxA (w : World) (b : Nat) (q : Rat) (v : Value) : Prop := ∃ A m c A' m' c', Blk w b 40 [.bool (ae q), .slice A m c, .slice A' m' c'] /\ CanAt w (.agg #[.bool (ae q), .slice A m c, .slice A' m' c']) q /\ ∀ r, v.ownBlock = some r -> Off (.slice A m c) r /\ Off (.slice A' m' c') r /\ b ≠ r
theorem BoxA.box {w : World} {b : Nat} {q : Rat} {v : Value} (h : BoxA w b q v) : BoxC w b q := by
 obtain ⟨A, m, c, A', m', c', h1, h2, _⟩ := h
 exact BoxC.of h1 h2
theorem BoxA.below {w w' : World} {b : Nat} {q : Rat} {v : Value} (h : BoxA w b q v) (hb : Below w.heap.size w w') : BoxA w' b q v := by
 obtain ⟨A, m, c, A', m', c', h1, h2, h3⟩ := h
 exact ⟨A, m, c, A', m', c', h1.below' hb, h2.below hb, h3⟩
theorem NatAt.keptOff {w w' : World} {v : Value} {n : Nat} {row : Option Nat} (h : NatAt w v n) (hg : w.grownBy w' row) (ho : ∀ b, row = some b -> Off v b) : NatAt w' v n := by
 obtain ⟨l, ⟨h1, h2⟩, h3⟩ := h
 exact ⟨l, ⟨Sl.keptOff h1 hg ho, h2⟩, h3⟩
theorem NatAt.offNew {w : World} {v : Value} {n F : Nat} (h : NatAt w v n) (hf : w.heap.size <= F) : Off v F := by
 obtain ⟨l, ⟨h1, _⟩, _⟩ := h
 exact Sl.off h1 hf
theorem BoxA.push {w w' : World} {b : Nat} {q : Rat} {v v' : Value} (h : BoxA w b q v) (hg : w.grownBy w' v.ownBlock) (hb : v'.ownBlock = v.ownBlock ∨ v'.ownBlock = some w.heap.size) : BoxA w' b q v' := by
 obtain ⟨A, m, c, A', m', c', h1, ⟨vn, vd, e, n1, n2⟩, h3⟩ := h
 have e' : [Value.bool (ae q), .slice A m c, .slice A' m' c'] = [.bool (ae q), vn, vd] := by
  injection e with e
  exact congrArg Array.toList e
 simp only [List.cons.injEq, and_true, true_and] at e'
 obtain ⟨rfl, rfl⟩ := e'
 refine ⟨A, m, c, A', m', c', h1.grown hg (fun e => (h3 b e.symm).2.2 rfl), ⟨_, _, rfl, n1.keptOff hg (fun r hr => (h3 r hr).1), n2.keptOff hg (fun r hr => (h3 r hr).2.1)⟩, fun r hr => ?_⟩
 rcases hb with e | e
 ·exact h3 r (e ▸ hr)
 rw [e] at hr
 cases hr
 exact ⟨n1.offNew (nR _), n2.offNew (nR _), by have := h1.lt; omega⟩
theorem BoxA.put {w : World} {b B : Nat} {q r : Rat} {v : Value} {A A' : Option Addr} {m c m' c' : Nat} (h : BoxC w b r) (hq : CanNew B w (.agg #[.bool (ae q), .slice A m c, .slice A' m' c']) q) (hv : ∀ x, v.ownBlock = some x -> x < B /\ b ≠ x) :
  BoxA (((w.setCell ⟨b, 0, none⟩ (.bool (ae q))).setCell ⟨b, 1, none⟩ (.slice A m c)).setCell ⟨b, 2, none⟩ (.slice A' m' c')) b q v := by
 have hk := FArc.keeps h hq.at_ 0 1 2 (ae q) A A' m c m' c'
 obtain ⟨vn, vd, e, _, _, f1, f2⟩ := hq
 have e' : [Value.bool (ae q), .slice A m c, .slice A' m' c'] = [.bool (ae q), vn, vd] := by
  injection e with e
  exact congrArg Array.toList e
 simp only [List.cons.injEq, and_true, true_and] at e'
 obtain ⟨rfl, rfl⟩ := e'
 obtain ⟨xs, h1, h2, _, _⟩ := h
 refine ⟨A, m, c, A', m', c', ?_, hk, fun x hx => ⟨f1.off (hv x hx).1, f2.off (hv x hx).1, (hv x hx).2⟩⟩
 have h3 := ((h1.set_ 0 (.bool (ae q))).set_ 1 (.slice A m c)).set_ 2 (.slice A' m' c')
 have e2 : ((xs.set 0 (.bool (ae q))).set 1 (.slice A m c)).set 2 (.slice A' m' c') = [.bool (ae q), .slice A m c, .slice A' m' c'] := by
  have h4 : xs.length = 3 := by simpa using h2
  match xs, h4 with
  | [_, _, _], _ => rfl
 rwa [e2] at h3

theorem sentAny (w : World) (O v : Nat) (lv : Value) (gs : List Gr) (k : Int) (s : Bool) (A A' : Option Addr) (m c m' c' : Nat) (mv : Value) (a : Rat) (mix : List Rat) (sv : Value) (sl : List Int) (h : LangAt w lv gs s A A' m c m' c' a mv mix) (hs : IntsAt w sv sl) (hE : eX O v gs k a mix [sl] = 0) (hv8 : v <= 8) :
  Calls Tryz.prog 36 #[aG O v lv k s A A' m c m' c' mv, sv] w fun e w' => ∃ u, e = .returned (.tuple #[u, .int .i64 0]) /\ CanAt w' u (oj (fA k O gs v a mix) (O - 1) sl) /\ Below w.heap.size w w' := by
 obtain ⟨T, rv, F, hw⟩ := rk w O v lv gs k s A A' m c m' c' mv a mix h (oW hE).1 hv8
 exact pR w O v lv gs k s A A' m c m' c' mv a mix sv sl h hs hE hv8 T rv F (fA k O gs v a mix) (fun b Am nm cm _ => hw.way b) hw.meth hw.nil hw.cf
  (fun b w0 wl hb0 hlv hbl W hv hl hbW hi hll hk => hw.row b W hv hl (hlv.below hbW) (hb0.trans ((hbl.trans (hbW.mono hbl.size)).mono hb0.size)) hi hll hk) hw.qb hw.len
theorem xY (w : World) (O v : Nat) (lv : Value) (gs : List Gr) (k : Int) (s : Bool) (A A' : Option Addr) (m c m' c' : Nat) (mv : Value) (a : Rat) (mix : List Rat) (sv : Value) (sl : List Int) (h : LangAt w lv gs s A A' m c m' c' a mv mix) (hs : IntsAt w sv sl) (hE : aJ O v gs k a mix = 0) (hin : inR 1 v sl = true) (hl : sl.length <= 500) (hv8 : v <= 8) :
  Calls Tryz.prog 104 #[aG O v lv k s A A' m c m' c' mv, sv] w fun e w' => ∃ u, e = .returned u /\ CanAt w' u (oj (fA k O gs v a mix) (O - 1) sl) /\ Below w.heap.size w w' := by
 obtain ⟨T, rv, F, hw⟩ := rk w O v lv gs k s A A' m c m' c' mv a mix h hE hv8
 exact vw w O v lv gs k s A A' m c m' c' mv a mix sv sl h hs (cI hE).1 hv8 hin hl T rv F (fA k O gs v a mix) (fun b Am nm cm _ => hw.way b) hw.meth hw.nil hw.cf
  (fun b wl hlv hbl W hv hl hbW hi hll hk => hw.row b W hv hl (hlv.below hbW) (hbl.trans (hbW.mono hbl.size)) hi hll hk) hw.qb hw.len
theorem xJ {w : World} {g : Nat} {x y : Value} {l m : List Int} (h : Blk w g 44 [x, y]) (hx : IntsAt w x l) (hy : IntsAt w y m) : ListsAt w (.slice (some ⟨g, 0, none⟩) 2 2) [l, m] := by
 have h1 := h.sl (sz := 1) (n := 2) (c := 2) (by simp) (nR _) (by unfold maxLen; omega)
 refine ⟨_, h1, fun i z hz => ?_⟩
 match i, hz with
 | 0, hz => cases hz; exact ⟨_, rfl, hx⟩
 | 1, hz => cases hz; exact ⟨_, rfl, hy⟩
def usualI (row : List Int -> List Rat) (m : Nat) (a b : List Int) : Int := aU (oj row m a ^ (b.length + 1) - oj row m b ^ (a.length + 1))
theorem xQ {row : List Int -> List Rat} (hq : ∀ h, ∀ q ∈ row h, QB 5000000 q) (m : Nat) {s : List Int} (hl : s.length <= 12) : QB 65000001 (oj row m s) := by
 have := oX hq m (aw m s)
 rw [dt] at this
 exact this.mono (by omega)
theorem xR {k : Nat} {q : Rat} (h : QB k q) (n : Nat) : QB (k * n + 1) (q ^ n) :=
 ⟨by rw [Rat.num_pow, Int.natAbs_pow]; exact oZ h.1 n, by rw [Rat.den_pow]; exact oZ h.2 n⟩

theorem usualG (w : World) (O v : Nat) (lv : Value) (gs : List Gr) (k : Int) (s : Bool) (A A' : Option Addr) (m c m' c' : Nat) (mv : Value) (a : Rat) (mix : List Rat) (xv yv : Value) (xl yl : List Int) (h : LangAt w lv gs s A A' m c m' c' a mv mix) (hx : IntsAt w xv xl) (hy : IntsAt w yv yl) (hE : eX O v gs k a mix [xl, yl] = 0) (hv8 : v <= 8) (hxl : xl.length <= 12) (hyl : yl.length <= 12) :
  Calls Tryz.prog 55 #[aG O v lv k s A A' m c m' c' mv, xv, yv] w fun e w' => e = .returned (.tuple #[.int .i64 (usualI (fA k O gs v a mix) (O - 1) xl yl), .int .i64 0]) /\ Below w.heap.size w w' := by
 obtain ⟨Al, cl, rfl, _, _, _⟩ := h.grams.open_
 obtain ⟨Am, cm, rfl, _, _, _⟩ := h.mixes.open_
 obtain ⟨Ax, cx, rfl, hxc, hxm, _⟩ := hx.open_
 obtain ⟨Ay, cy, rfl, hyc, hym, _⟩ := hy.open_
 have HL := aH h
 have HX := aH hx
 have HY := aH hy
 have HE := aH hE
 have HOK := aH (oW hE)
 have HT := aH (bY (cI (oW hE).1).1 hv8)
 have HVB := aH (cI (oW hE).1).2
 have RQ : Hd (∀ h, ∀ q ∈ fA k O gs v a mix h, QB 5000000 q) := aH (by
  obtain ⟨T, rv, F, hw⟩ := rk w O v _ gs k s A A' m c m' c' _ a mix h (oW hE).1 hv8
  exact hw.qb)
 have RP : Hd (∀ l, inR 1 (v : Int) l = true -> 0 < oj (fA k O gs v a mix) (O - 1) l) := aH (fun l hl => say_pos (V := v) (fun h => (uw HT.o HVB.o h).2.2) (fun h => (uw HT.o HVB.o h).1) (fun x hx => gg hl x hx))
 obtain ⟨row, hrow⟩ : ∃ f, fA k O gs v a mix = f := ⟨_, rfl⟩
 rw [hrow] at RQ RP ⊢
 have HRW := aH hrow
 obtain ⟨n1, hn1⟩ : ∃ n, xl.length = n := ⟨_, rfl⟩
 obtain ⟨n2, hn2⟩ : ∃ n, yl.length = n := ⟨_, rfl⟩
 obtain ⟨qx, hqx⟩ : ∃ q, oj row (O - 1) xl = q := ⟨_, rfl⟩
 obtain ⟨qy, hqy⟩ : ∃ q, oj row (O - 1) yl = q := ⟨_, rfl⟩
 have HU : Hd (usualI row (O - 1) xl yl = aU (qx ^ (n2 + 1) - qy ^ (n1 + 1))) := aH (by unfold usualI; rw [hn1, hn2, hqx, hqy])
 have PX : Hd (0 < qx) := aH (by rw [<- hqx]; exact RP.o xl (HOK.o.2 xl (by simp)).2)
 have PY : Hd (0 < qy) := aH (by rw [<- hqy]; exact RP.o yl (HOK.o.2 yl (by simp)).2)
 have QX : Hd (QB 65000001 qx) := aH (by rw [<- hqx]; exact xQ RQ.o _ hxl)
 have QY : Hd (QB 65000001 qy) := aH (by rw [<- hqy]; exact xQ RQ.o _ hyl)
 have HQX := aH hqx
 have HQY := aH hqy
 rw [hn1] at hxc hxl ⊢
 rw [hn2] at hyc hyl ⊢
 have HX2 : Hd (∀ w', Below w.heap.size w w' -> IntsAt w' (.slice Ax n1 cx) xl) := aH (fun w' hb => by rw [<- hn1]; exact HX.o.below hb)
 have HY2 : Hd (∀ w', Below w.heap.size w w' -> IntsAt w' (.slice Ay n2 cy) yl) := aH (fun w' hb => by rw [<- hn2]; exact HY.o.below hb)
 have HN1 := aH hn1
 have HN2 := aH hn2
 have i1 : IntKind.i64.wrap ((n1 : Int) + 1) = (n1 : Int) + 1 := iI _ (by omega)
 have i2 : IntKind.i64.wrap ((n2 : Int) + 1) = (n2 : Int) + 1 := iI _ (by omega)
 clear h hx hy hE hrow hn1 hn2 hqx hqy HX HY
 unfold aG
 go_enter Tryz.func55, Tryz.ntmps55
 go_wp2_with fail
 obtain ⟨W, hW, P0, P1, PB, Phs⟩ := cP w 43 [.int .i64 O, .int .i64 v, .slice Al gs.length cl, .int .i64 k, .bool s, .slice A m c, .slice A' m' c', .slice Am mix.length cm] 44 [.slice Ax n1 cx, .slice Ay n2 cy]
 rw [<- hW]
 clear hW
 have LS : Hd (ListsAt W (.slice (some ⟨w.heap.size + 1, 0, none⟩) 2 2) [xl, yl]) := aH (xJ P1.o (HX2.o W PB.o) (HY2.o W PB.o))
 refine (oP W O v (.slice Al gs.length cl) gs k s A A' m c m' c' (.slice Am mix.length cm) a mix (.slice (some ⟨w.heap.size + 1, 0, none⟩) 2 2) [xl, yl] (HL.o.below PB.o) LS.o).mono ?_
 rintro e w1 ⟨rfl, hb1⟩
 rw [HE.o]
 have X1 := aH (P0.o.below' hb1)
 have B1 := aH (PB.o.trans (hb1.mono PB.o.size))
 clear hb1 P0 P1 PB LS
 obtain ⟨p0, p1, p2, p3, p4, p5, p6, p7⟩ := an X1.o
 go_wp2_with fail
 refine (xY w1 O v (.slice Al gs.length cl) gs k s A A' m c m' c' (.slice Am mix.length cm) a mix (.slice Ax n1 cx) xl (HL.o.below B1.o) (HX2.o w1 B1.o) HOK.o.1 (HOK.o.2 xl (by simp)).2 (HOK.o.2 xl (by simp)).1 hv8).mono ?_
 rintro e w2 ⟨u2, rfl, t2, hb2⟩
 rw [HRW.o, HQX.o] at t2
 have X2 := aH (X1.o.below' hb2)
 have B2 := aH (B1.o.trans (hb2.mono B1.o.size))
 have T2 := aH (t2.frac (k := 65000001) QX.o (by omega))
 clear p0 p1 p2 p3 p4 p5 p6 p7 hb2 t2 X1 B1
 go_wp2_with fail
 refine (powF w2 _ qx 65000001 (n2 + 1) T2.o (by omega) (by omega) PX.o (by omega)).mono ?_
 rintro e w3 ⟨u3, rfl, t3, hb3⟩
 have X3 := aH (X2.o.below' hb3)
 have B3 := aH (B2.o.trans (hb3.mono B2.o.size))
 obtain ⟨A3, m3, c3, A3', m3', c3', rfl⟩ := t3.open_
 have T3 := aH t3
 clear hb3 t3 X2 B2 T2
 go_upto_region 5 with fail
 obtain ⟨W4, hW4, G0, GB, Ghs⟩ := aA w3 40 [.bool (ae (qx ^ (n2 + 1))), .slice A3 m3 c3, .slice A3' m3' c3']
 rw [<- hW4]
 clear hW4
 have X4 := aH (X3.o.below' GB.o)
 have B4 := aH (B3.o.trans (GB.o.mono B3.o.size))
 have T4 := aH (T3.o.below GB.o)
 obtain ⟨p0, p1, p2, p3, p4, p5, p6, p7⟩ := an X4.o
 clear X3 B3 T3
 go_wp2_with fail
 refine (xY W4 O v (.slice Al gs.length cl) gs k s A A' m c m' c' (.slice Am mix.length cm) a mix (.slice Ay n2 cy) yl (HL.o.below B4.o) (HY2.o W4 B4.o) HOK.o.1 (HOK.o.2 yl (by simp)).2 (HOK.o.2 yl (by simp)).1 hv8).mono ?_
 rintro e w5 ⟨u5, rfl, t5, hb5⟩
 rw [HRW.o, HQY.o] at t5
 have B5 := aH (B4.o.trans (hb5.mono B4.o.size))
 have G5 := aH (G0.o.below' hb5)
 have T5 := aH (T4.o.below hb5)
 have U5 := aH (t5.frac (k := 65000001) QY.o (by omega))
 clear p0 p1 p2 p3 p4 p5 p6 p7 hb5 t5 X4 B4 T4 G0 GB Ghs
 go_wp2_with fail
 refine (powF w5 _ qy 65000001 (n1 + 1) U5.o (by omega) (by omega) PY.o (by omega)).mono ?_
 rintro e w6 ⟨u6, rfl, t6, hb6⟩
 have B6 := aH (B5.o.trans (hb6.mono B5.o.size))
 have G6 := aH (G5.o.below' hb6)
 have T6 := aH (T5.o.below hb6)
 obtain ⟨A6, m6, c6, A6', m6', c6', rfl⟩ := t6.open_
 have U6 := aH t6
 clear hb6 t6 B5 G5 T5 U5
 go_upto_region 6 with fail
 obtain ⟨W7, hW7, R0, RB, Rhs⟩ := aA w6 40 [.bool (ae (qy ^ (n1 + 1))), .slice A6 m6 c6, .slice A6' m6' c6']
 rw [<- hW7]
 clear hW7
 have B7 := aH (B6.o.trans (RB.o.mono B6.o.size))
 obtain ⟨g0, g1, g2, _, _, _⟩ := (G6.o.below' RB.o).three
 obtain ⟨r0, r1, r2, _, _, _⟩ := R0.o.three
 have T7 := aH ((T6.o.below RB.o).frac (k := 1000000000) ((xR QX.o (n2 + 1)).mono (by omega)) (by omega))
 have U7 := aH ((U6.o.below RB.o).frac (k := 1000000000) ((xR QY.o (n1 + 1)).mono (by omega)) (by omega))
 go_wp2_with fail
 refine (vX W7 _ _ (qx ^ (n2 + 1)) (qy ^ (n1 + 1)) 1000000000 T7.o U7.o (by omega) (by omega)).mono ?_
 rintro e w8 ⟨rfl, hb8⟩
 rw [<- HU.o]
 have B8 := aH (B7.o.trans (hb8.mono B7.o.size))
 clear hb8
 go_wp2_with fail
 first
  | (go_ret; exact ⟨rfl, B8.o⟩)
  | (go_ret2; exact ⟨rfl, B8.o⟩)
theorem vN {z : Int} (h : z ≠ 0) : (z != 0) = true := by simpa using h

theorem yU (w : World) (O V : Int) (lv : Value) (gs : List Gr) (k : Int) (s : Bool) (A A' : Option Addr) (m c m' c' : Nat) (mv : Value) (a : Rat) (mix : List Rat) (sv : Value) (sl : List Int) (z : Int) (h : LangAt w lv gs s A A' m c m' c' a mv mix) (hs : IntsAt w sv sl) (hE : eX O V gs k a mix [sl] = z) (hz : z ≠ 0) :
  Calls Tryz.prog 36 #[aG O V lv k s A A' m c m' c' mv, sv] w fun e w' => e = .returned (.tuple #[.agg #[.bool false, .slice none 0 0, .slice none 0 0], .int .i64 z]) /\ Below w.heap.size w w' := by
 obtain ⟨Al, cl, rfl, _, _, _⟩ := h.grams.open_
 obtain ⟨Am, cm, rfl, _, _, _⟩ := h.mixes.open_
 obtain ⟨As, cs, rfl, hsc, hsm, _⟩ := hs.open_
 have HL := aH h
 have HS := aH hs
 have HE := aH hE
 have z1 := vN hz
 clear h hs hE hz
 unfold aG
 go_enter Tryz.func36, Tryz.ntmps36
 go_wp2_with fail
 obtain ⟨W, hW, P0, P1, P2, PB, Phs⟩ := box3 w 43 [.int .i64 O, .int .i64 V, .slice Al gs.length cl, .int .i64 k, .bool s, .slice A m c, .slice A' m' c', .slice Am mix.length cm] 40 [.bool false, .slice none 0 0, .slice none 0 0] 44 [.slice As sl.length cs]
 rw [<- hW]
 clear hW
 have LS : Hd (ListsAt W (.slice (some ⟨w.heap.size + 2, 0, none⟩) 1 1) [sl]) := aH (by
  refine ⟨[.slice As sl.length cs], ⟨rfl, _, _, rfl, nR _, by unfold maxLen; omega, fun _ => ⟨_, 0, rfl, P2.o.lt, fun j u hu => ?_⟩⟩, fun i l hl => ?_⟩
  ·cases j with
   | succ j => simp at hu
   | zero => cases hu; exact P2.o.cell 0
  cases i with
  | succ i => simp at hl
  | zero => cases hl; exact ⟨_, rfl, HS.o.below PB.o⟩)
 refine (oP W O V (.slice Al gs.length cl) gs k s A A' m c m' c' (.slice Am mix.length cm) a mix (.slice (some ⟨w.heap.size + 1 + 1, 0, none⟩) 1 1) [sl] (HL.o.below PB.o) LS.o).mono ?_
 rintro e w1 ⟨rfl, hb1⟩
 rw [HE.o]
 have R1 := aH (P1.o.below' hb1)
 have B1 := aH (PB.o.trans (hb1.mono PB.o.size))
 clear hb1 P0 P1 P2 PB LS
 obtain ⟨r0, r1, r2, y0, y1, y2⟩ := R1.o.three
 have R4 := aH (((R1.o.set_ 0 (.bool false)).set_ 1 (.slice none 0 0)).set_ 2 (.slice none 0 0))
 go_wp2_with fail
 obtain ⟨g0, g1, g2, _, _, _⟩ := Blk.three R4.o
 exact bodyPost_ret (v := .tuple #[.agg #[.bool false, .slice none 0 0, .slice none 0 0], .int .i64 z]) (by simp [results, Tryz.results36, go_sem, g0, g1, g2, List.mapM_cons]) rfl ⟨rfl, aL B1.o (by omega) _ _ _ _ _ _⟩

theorem yD (w : World) (O V : Int) (lv : Value) (gs : List Gr) (k : Int) (s : Bool) (A A' : Option Addr) (m c m' c' : Nat) (mv : Value) (a : Rat) (mix : List Rat) (xv yv : Value) (xl yl : List Int) (z : Int) (h : LangAt w lv gs s A A' m c m' c' a mv mix) (hx : IntsAt w xv xl) (hy : IntsAt w yv yl) (hE : eX O V gs k a mix [xl, yl] = z) (hz : z ≠ 0) :
  Calls Tryz.prog 55 #[aG O V lv k s A A' m c m' c' mv, xv, yv] w fun e w' => e = .returned (.tuple #[.int .i64 0, .int .i64 z]) /\ Below w.heap.size w w' := by
 obtain ⟨Al, cl, rfl, _, _, _⟩ := h.grams.open_
 obtain ⟨Am, cm, rfl, _, _, _⟩ := h.mixes.open_
 obtain ⟨Ax, cx, rfl, hxc, hxm, _⟩ := hx.open_
 obtain ⟨Ay, cy, rfl, hyc, hym, _⟩ := hy.open_
 have HL := aH h
 have HX := aH hx
 have HY := aH hy
 have HE := aH hE
 have z1 := vN hz
 clear h hx hy hE hz
 unfold aG
 go_enter Tryz.func55, Tryz.ntmps55
 go_wp2_with fail
 obtain ⟨W, hW, P0, P1, PB, Phs⟩ := cP w 43 [.int .i64 O, .int .i64 V, .slice Al gs.length cl, .int .i64 k, .bool s, .slice A m c, .slice A' m' c', .slice Am mix.length cm] 44 [.slice Ax xl.length cx, .slice Ay yl.length cy]
 rw [<- hW]
 clear hW
 have LS : Hd (ListsAt W (.slice (some ⟨w.heap.size + 1, 0, none⟩) 2 2) [xl, yl]) := aH (xJ P1.o (HX.o.below PB.o) (HY.o.below PB.o))
 refine (oP W O V (.slice Al gs.length cl) gs k s A A' m c m' c' (.slice Am mix.length cm) a mix (.slice (some ⟨w.heap.size + 1, 0, none⟩) 2 2) [xl, yl] (HL.o.below PB.o) LS.o).mono ?_
 rintro e w1 ⟨rfl, hb1⟩
 rw [HE.o]
 have B1 := aH (PB.o.trans (hb1.mono PB.o.size))
 clear hb1 P0 P1 PB LS
 go_wp2_with fail
 first
  | (go_ret; exact ⟨rfl, B1.o⟩)
  | (go_ret2; exact ⟨rfl, B1.o⟩)
def fP (hl : List Int) (x : Int) : List Int := (hl ++ [x]).drop 1
theorem fQ {w : World} {base : Nat} {v : Value} {n : Nat} {l : List Int} (h : w.ownsRow base 3 1 v n (l.map (Value.int .i64))) (hl : l.length = n) : IntsAt w v l := by
 unfold IntsAt
 rw [hl]
 exact Sl.of_own h

theorem wQ (w : World) (hv : Value) (hl : List Int) (x : Int) (hh : IntsAt w hv hl) (hlen : hl.length <= 1000) :
  Calls Tryz.prog 45 #[hv, .int .i64 x] w fun e w' => ∃ v', e = .returned v' /\ IntsAt w' v' (fP hl x) /\ Below w.heap.size w w' := by
 obtain ⟨Ah, ch, rfl, hc, hm, _⟩ := hh.open_
 obtain ⟨n, hn⟩ : ∃ n, hl.length = n := ⟨_, rfl⟩
 rw [hn] at hc hlen hh ⊢
 rcases zP n with h0 | h0
 ·subst h0
  have HN : Hd (fP hl x = []) := aH (by unfold fP; rw [List.eq_nil_of_length_eq_zero hn]; rfl)
  clear hh hn
  go_enter Tryz.func45, Tryz.ntmps45
  go_wp2_with fail
  go_ret
  exact ⟨_, rfl, by rw [HN.o]; exact IntsAt.nil_ _, Below.refl _ _⟩
 have HN : Hd (fP hl x = hl.drop 1 ++ [x]) := aH (by unfold fP; rw [List.drop_append_of_le_length (by omega)])
 obtain ⟨p, rfl⟩ : ∃ p, n = p + 1 := ⟨n - 1, by omega⟩
 obtain ⟨b, o, rfl, tl⟩ := hh.tail1 hn h0
 rw [Nat.add_sub_cancel] at tl
 have hdl : (hl.drop 1).length = p := by rw [List.length_drop]; omega
 obtain ⟨td, htd⟩ : ∃ l, hl.drop 1 = l := ⟨_, rfl⟩
 rw [htd] at tl hdl HN
 have HDL := aH hdl
 have b0 : ((p : Int) + 1 == 0) = false := by simpa using (show ¬ (p : Int) + 1 = 0 by omega)
 obtain ⟨i0, gi, gz0, gz1, gz2⟩ := info_parts eD
 clear hh hn hdl htd
 by_cases hc1 : ch = 1
 ·rw [if_pos hc1] at tl
  have TL : Hd (Sl w 1 (.slice (some ⟨b, o, none⟩) p 0) p ((td).map (Value.int .i64))) := aH (by unfold IntsAt at tl; rwa [HDL.o] at tl)
  subst hc1
  obtain rfl : p = 0 := by omega
  clear tl
  go_enter Tryz.func45, Tryz.ntmps45
  go_wp2_with (at_builtin; refine al rfl (.const (.slice none 0 0)) (.tmp 9) 44 rfl w.heap.size 3 i0 (.int .i64 0) 1 8 Tryz.underlying44 gi gz0 gz1 gz2 rfl (by decide) (.slice none 0 0) 0 [] rfl (World.ownsRow_nil ..) _ 0 ((td).map (Value.int .i64)) rfl TL.o (fo _) (by unfold maxLen; omega) (by omega) (nR _) ?_)
  intro v2 wA tA1 tA2 _
  (try rw [List.nil_append] at tA1)
  (try rw [Nat.zero_add] at tA1)
  have HOA := aH tA1
  have BA : Hd (Below w.heap.size w wA) := aH ((Below.refl _ _).grown tA2 (nR _) (by simp [Value.ownBlock]))
  have hsA : w.heap.size <= wA.heap.size := BA.o.size
  clear tA1 tA2
  go_wp2_with (at_builtin; refine al rfl (.tmp 10) (.tmp 12) 44 rfl w.heap.size 3 i0 (.int .i64 0) 1 8 Tryz.underlying44 gi gz0 gz1 gz2 rfl (by decide) _ _ _ rfl (bK HOA.o (Below.alloc (Below.refl _ _) (nR _) _)) _ 1 [.int .i64 x] rfl (Sl.one _ _ _) (by simp [Value.oneCell']) (by unfold maxLen; omega) (by omega) (by simp; omega) ?_)
  intro v3 wB tB1 tB2 _
  have HOB : Hd (IntsAt wB v3 (td ++ [x])) := aH (fQ (by rw [List.map_append]; exact tB1) (by rw [List.length_append, HDL.o]; rfl))
  have BB : Hd (Below w.heap.size w wB) := aH ((BA.o.alloc hsA _).grown tB2 (by simp; omega) (ao (From.of_own HOA.o)))
  clear tB1 tB2
  go_wp2_with fail
  go_ret
  exact ⟨_, rfl, by rw [HN.o]; exact HOB.o, BB.o⟩
 rw [if_neg hc1] at tl
 have TL : Hd (Sl w 1 (.slice (some ⟨b, o + 1, none⟩) p (ch - 1)) p ((td).map (Value.int .i64))) := aH (by unfold IntsAt at tl; rwa [HDL.o] at tl)
 have i1 : (1 : Int) <= (p : Int) + 1 := by omega
 have i2 : (p : Int) + 1 <= (ch : Int) := by omega
 clear tl
 go_enter Tryz.func45, Tryz.ntmps45
 go_wp2_with (at_builtin; refine al rfl (.const (.slice none 0 0)) (.tmp 9) 44 rfl w.heap.size 3 i0 (.int .i64 0) 1 8 Tryz.underlying44 gi gz0 gz1 gz2 rfl (by decide) (.slice none 0 0) 0 [] rfl (World.ownsRow_nil ..) _ p ((td).map (Value.int .i64)) rfl TL.o (fo _) (by unfold maxLen; omega) (by omega) (nR _) ?_)
 intro v2 wA tA1 tA2 _
 (try rw [List.nil_append] at tA1)
 (try rw [Nat.zero_add] at tA1)
 have HOA := aH tA1
 have BA : Hd (Below w.heap.size w wA) := aH ((Below.refl _ _).grown tA2 (nR _) (by simp [Value.ownBlock]))
 have hsA : w.heap.size <= wA.heap.size := BA.o.size
 clear tA1 tA2
 go_wp2_with (at_builtin; refine al rfl (.tmp 10) (.tmp 12) 44 rfl w.heap.size 3 i0 (.int .i64 0) 1 8 Tryz.underlying44 gi gz0 gz1 gz2 rfl (by decide) _ _ _ rfl (bK HOA.o (Below.alloc (Below.refl _ _) (nR _) _)) _ 1 [.int .i64 x] rfl (Sl.one _ _ _) (by simp [Value.oneCell']) (by unfold maxLen; omega) (by omega) (by simp; omega) ?_)
 intro v3 wB tB1 tB2 _
 have HOB : Hd (IntsAt wB v3 (td ++ [x])) := aH (fQ (by rw [List.map_append]; exact tB1) (by rw [List.length_append, HDL.o]; rfl))
 have BB : Hd (Below w.heap.size w wB) := aH ((BA.o.alloc hsA _).grown tB2 (by simp; omega) (ao (From.of_own HOA.o)))
 clear tB1 tB2
 go_wp2_with fail
 go_ret
 exact ⟨_, rfl, by rw [HN.o]; exact HOB.o, BB.o⟩
def f7 (m : Nat) (s : List Int) (j : Nat) : List Int := ((e9 m s).drop j).take m
theorem xD {m : Nat} {s : List Int} {j : Nat} (hj : j <= s.length) : (f7 m s j).length = m := by
 unfold f7
 rw [List.length_take, List.length_drop, cV]
 omega
theorem yh (m : Nat) (s : List Int) : f7 m s 0 = List.replicate m 0 := by
 unfold f7 e9
 rw [List.drop_zero, List.append_assoc, List.take_append_of_le_length (by simp), tL (by simp)]
theorem yb {m : Nat} {s : List Int} {j : Nat} (hj : j < s.length) : (e9 m s)[j + m]? = s[j]? := by
 unfold e9
 rw [List.append_assoc, List.getElem?_append_right (by simp), List.length_replicate, Nat.add_sub_cancel, List.getElem?_append_left hj]
theorem yQ (m : Nat) (s : List Int) : (e9 m s)[s.length + m]? = some 0 := by
 unfold e9
 rw [List.append_assoc, List.getElem?_append_right (by simp), List.length_replicate, Nat.add_sub_cancel, List.getElem?_append_right (nR _), Nat.sub_self]
 rfl
theorem yi {m : Nat} {s : List Int} {j : Nat} {x : Int} (hx : s[j]? = some x) : fP (f7 m s j) x = f7 m s (j + 1) := by
 have hj := (sI.1 hx).1
 have hf := yb (m := m) hj
 have hl := cV m s
 unfold fP f7
 apply List.ext_getElem?
 intro i
 rw [List.getElem?_drop]
 by_cases hi : i < m
 ·rw [List.getElem?_take_of_lt hi, List.getElem?_drop]
  by_cases h1 : 1 + i < m
  ·rw [List.getElem?_append_left (by rw [List.length_take, List.length_drop]; omega), List.getElem?_take_of_lt h1, List.getElem?_drop]
   congr 1
   omega
  rw [List.getElem?_append_right (by rw [List.length_take, List.length_drop]; omega), List.length_take, List.length_drop]
  rw [show 1 + i - min m ((e9 m s).length - j) = 0 by omega, show j + 1 + i = j + m by omega, hf, hx]
  rfl
 rw [nI.2 (by rw [List.length_append, List.length_take, List.length_drop]; simp only [List.length_cons, List.length_nil]; omega), nI.2 (by rw [List.length_take]; omega)]
theorem yZ {m : Nat} {s : List Int} {j : Nat} (hj : j <= s.length) : (aw m s)[j]? = some (((e9 m s).drop j).take (m + 1)) := by
 unfold aw
 rw [List.getElem?_map, List.getElem?_range (by omega)]
 rfl
theorem x9 (row : List Int -> List Rat) {m : Nat} {s : List Int} {j : Nat} {x : Int} (hj : j <= s.length) (hx : (e9 m s)[j + m]? = some x) : iF row m ((aw m s).take (j + 1)) = iF row m ((aw m s).take j) * (row (f7 m s j)).getD x.toNat 0 := by
 rw [List.take_add_one, yZ hj]
 show iF row m ((aw m s).take j ++ [_]) = _
 rw [kH]
 have e1 : (((e9 m s).drop j).take (m + 1)).take m = f7 m s j := by
  unfold f7
  rw [List.take_take, Nat.min_eq_left (by omega)]
 have e2 : (((e9 m s).drop j).take (m + 1)).getD m 0 = x := by
  rw [gD, List.getElem?_take_of_lt (by omega), List.getElem?_drop, hx]
  rfl
 rw [e1, e2]
theorem yJ (row : List Int -> List Rat) (m : Nat) (s : List Int) : iF row m ((aw m s).take 0) = 1 := by
 rw [List.take_zero]
 rfl
theorem yX (row : List Int -> List Rat) (m : Nat) (s : List Int) : iF row m ((aw m s).take (s.length + 1)) = oj row m s := by
 unfold oj
 rw [tL (by rw [dt]; exact nR _)]
theorem yt {m : Nat} {s : List Int} {j : Nat} {V : Int} (hV : 0 <= V) (hs : ∀ x ∈ s, 1 <= x /\ x <= V) : ∀ x ∈ f7 m s j, 0 <= x /\ x <= V := by
 intro x hx
 have h1 : x ∈ e9 m s := List.mem_of_mem_drop (List.mem_of_mem_take hx)
 unfold e9 at h1
 simp only [List.mem_append, List.mem_singleton] at h1
 rcases h1 with (h1 | h1) | h1
 ·have := List.eq_of_mem_replicate h1
  omega
 ·have := hs x h1
  omega
 omega
theorem powR (w : World) (v : Value) (q : Rat) (k n : Nat) (h : FracAt k w v q) (h0 : 0 < k) (hk : k <= 70000000) (hn : n <= 16) :
  Calls Tryz.prog 127 #[v, .int .i64 (n : Int)] w fun e w' => ∃ u, e = .returned u /\ CanAt w' u (q ^ n) /\ Below w.heap.size w w' := by
 obtain ⟨s, vn, vd, rfl⟩ := h.shape
 have H1 := aH h
 have QA := aH (h.qb h0)
 have d3 : decide ((n : Int) < 0) = false := dF (by omega)
 clear h
 go_enter Tryz.func127, Tryz.ntmps127
 go_wp2_with fail
 obtain ⟨W, hW, P0, P1, PB, Phs⟩ := cP w 40 [.bool s, vn, vd] 40 [.bool false, .slice none 0 0, .slice none 0 0]
 rw [<- hW]
 clear hW
 refine (ofR W 1 (by omega)).mono ?_
 rintro e w1 ⟨u1, rfl, t1, hb1⟩
 obtain ⟨o1, ho1⟩ : ∃ x : Rat, ((1 : Nat) : Rat) = x := ⟨_, rfl⟩
 rw [ho1] at t1
 have HO1 : Hd (o1 = 1) := aH (by rw [<- ho1]; rfl)
 clear ho1
 obtain ⟨A1, m1, c1, A1', m1', c1', rfl⟩ := t1.at_.open_
 have T1 := aH t1.at_
 have X1 := aH (P0.o.below' hb1)
 have R1 := aH (P1.o.below' hb1)
 have F1 := aH ((H1.o.below PB.o).below hb1)
 have B1 := aH (PB.o.trans (hb1.mono (by omega)))
 have s1 : w.heap.size + 2 <= w1.heap.size := Nat.le_trans Phs hb1.size
 clear t1 hb1 P0 P1 PB
 go_wp2_with fail
 obtain ⟨W2, hW2, G0, GB, Ghs⟩ := aA w1 40 [.bool (ae o1), .slice A1 m1 c1, .slice A1' m1' c1']
 rw [<- hW2]
 clear hW2
 have BX : Hd (BoxC W2 w1.heap.size (q ^ 0)) := aH (by
  rw [Rat.pow_zero, <- HO1.o]
  exact BoxC.of (q := o1) G0.o (T1.o.below GB.o))
 have X2 := aH (X1.o.below' GB.o)
 have R2 := aH (R1.o.below' GB.o)
 have F2 := aH (F1.o.below GB.o)
 have B2 := aH (B1.o.trans (GB.o.mono (by omega)))
 obtain ⟨bo, hbo⟩ : ∃ x, w1.heap.size = x := ⟨_, rfl⟩
 rw [hbo] at BX s1 ⊢
 clear hbo X1 R1 F1 B1 T1 G0 GB Ghs
 go_loopg [6] n (fun gh i wz => ∃ (j : Nat), i = .int .i64 j /\ j + gh = n /\ Hd (BoxC wz bo (q ^ j)) /\ Hd (Blk wz w.heap.size 40 [.bool s, vn, vd]) /\ Hd (BoxC wz (w.heap.size + 1) 0) /\ Hd (FracAt k wz (.agg #[.bool s, vn, vd]) q) /\ Hd (Below w.heap.size w wz))
 case atStart => exact ⟨0, rfl, by omega, BX, X2, aH (BoxC.of (q := 0) R2.o ((CanNew.zero_ 0 W2).at_)), F2, B2⟩
 clear BX X2 R2 F2 B2
 obtain ⟨j, rfl, hj, BX, X2, R2, F2, B2⟩ := hrel
 have sX : bo < wr.heap.size := BX.o.lt
 obtain ⟨Ao, mo, co, Ao', mo', co', g0, g1, g2, z0, z1, z2, tt⟩ := BX.o.get
 have TO := aH tt
 clear tt
 rcases zP gk with hh | hh
 ·subst hh
  obtain rfl : j = n := by omega
  obtain ⟨_, _, _, _, _, _, r0, r1, r2, y0, y1, y2, _⟩ := R2.o.get
  have e1 : decide ((j : Int) < (j : Int)) = false := dF (by omega)
  go_wp2_with fail
  have R4 := R2.o.put rfl TO.o
  obtain ⟨Az, mz, cz, Az', mz', cz', f0, f1, f2, _, _, _, tz⟩ := R4.get
  refine bodyPost_ret (v := .agg #[.bool (ae (q ^ j)), .slice Az mz cz, .slice Az' mz' cz']) (by simp [results, Tryz.results127, go_sem, f0, f1, f2]) rfl ⟨_, rfl, tz, aL B2.o (by omega) _ _ _ _ _ _⟩
 obtain ⟨gh, rfl⟩ : ∃ g, gk = g + 1 := ⟨gk - 1, by omega⟩
 have e1 : decide ((j : Int) < (n : Int)) = true := dT (by omega)
 have j1 : IntKind.i64.wrap ((j : Int) + 1) = (j : Int) + 1 := iI _ (by omega)
 have KJ : k * j + 1 <= 2000000000 := by
  have : k * j <= 70000000 * 16 := Nat.mul_le_mul hk (by omega)
  omega
 have QJ : Hd (QB 2000000000 (q ^ j)) := aH ((xR QA.o j).mono KJ)
 obtain ⟨x0, x1, x2, _, _, _⟩ := X2.o.three
 go_wp2_with fail
 refine (mV wr _ _ (q ^ j) q 2000000000 (TO.o.frac QJ.o (by omega)) (F2.o.mono (by omega)) (by omega) (by omega)).mono ?_
 rintro e w3 ⟨u3, rfl, t3, hb3⟩
 rw [<- Rat.pow_succ] at t3
 obtain ⟨A3, m3, c3, A3', m3', c3', rfl⟩ := t3.at_.open_
 have T3 := aH t3.at_
 have BX3 := aH (BX.o.below hb3)
 have X3 := aH (X2.o.below' hb3)
 have R3 := aH (R2.o.below hb3)
 have F3 := aH (F2.o.below hb3)
 have B3 := aH (B2.o.trans (hb3.mono B2.o.size))
 clear g0 g1 g2 z0 z1 z2 x0 x1 x2 t3 hb3 BX X2 R2 F2 B2 TO
 obtain ⟨_, _, _, _, _, _, g0, g1, g2, z0, z1, z2, _⟩ := BX3.o.get
 go_wp2_with fail
 go_roundg gh
 case measure => omega
 case rel => exact ⟨j + 1, rfl, by omega, aH (BX3.o.put rfl T3.o), aH (X3.o.far3 (show w.heap.size ≠ bo by omega) _ _ _ _ _ _), aH (FArc.far R3.o BX3.o (show w.heap.size + 1 ≠ bo by omega) _ _ _ _ _ _ _ _ _ _), aH (FArc.keepsF BX3.o F3.o _ _ _ _ _ _ _ _ _ _), aH (aL B3.o (by omega) _ _ _ _ _ _)⟩
end Go.Proofs.YtjebfdfkjlkifaaGreat
