/- Lemmas. -/
import Derived.Test.YtjebfdfkjlkifaaGreatP53
import Derived.Test.YtjebfdfkjlkifaaGreatN52
import Derived.Test.YtjebfdfkjlkifaaGreatP53
set_option linter.all false
set_option maxRecDepth 1000000
set_option maxHeartbeats 32000000
namespace Go.Proofs.YtjebfdfkjlkifaaGreat
open Go.RowKit
theorem der_some {rs : List bP} {l : List Int} {a : List Int × Rat × Int} (h : deriveQ rs l = some a) : ∃ n, l.length = n + 1 /\ derN rs l (n + 1) = some a := by
 unfold deriveQ at h
 split at h
 ·cases h
 next h0 => exact ⟨l.length - 1, by omega, by rw [show l.length - 1 + 1 = l.length by omega]; exact h⟩
theorem der_words {L V : Int} {rs : List bP} (hc : aR L V rs = 0) {l : List Int} : ∀ {j : Nat} {a : List Int × Rat × Int}, derN rs l j = some a -> ∀ x ∈ a.1, 1 <= x /\ x <= V := by
 intro j
 induction j with
 | zero =>
  intro a h
  cases h
  intro x hx
  cases hx
 | succ j ih =>
  intro b h
  obtain ⟨a, r, h1, _, _, _, hm, _, _, rfl⟩ := derN_step h
  have hr := (lA hc).2.2.2.2.2.1 r hm
  intro x hx
  simp only at hx
  split at hx
  ·rw [List.mem_append, List.mem_singleton] at hx
   rcases hx with hx | rfl
   ·exact ih h1 x hx
   omega
  exact ih h1 x hx
theorem der_range {rs : List bP} {l : List Int} {a : List Int × Rat × Int} (h : deriveQ rs l = some a) {j : Nat} (hj : j < l.length) : 0 <= l.getD j 0 /\ l.getD j 0 < rs.length := by
 obtain ⟨n, h1, h2⟩ := der_some h
 cases h3 : derN rs l (j + 1) with
 | none =>
  have := derN_none h3 (n + 1) (by omega)
  rw [this] at h2
  cases h2
 | some b =>
  obtain ⟨_, _, _, _, h5, h6, _⟩ := derN_step h3
  exact ⟨h5, h6⟩
theorem path_mem (rs : List bP) (sl : List Int) (Ln t : Nat) : ∀ x ∈ (pathN rs sl Ln t).1, 0 <= x /\ x < rs.length := by
 induction t with
 | zero =>
  intro x hx
  cases hx
 | succ t ih =>
  rw [pathN_succ]
  unfold pathS
  split
  ·next i hi =>
   obtain ⟨r, h1, _, _⟩ := findIdx_first hi
   have hl := (sI.1 h1).1
   intro x hx
   simp only [List.mem_append, List.mem_singleton] at hx
   rcases hx with hx | rfl
   ·exact ih x hx
   omega
  exact ih
theorem der_all {Ln : Nat} {V : Int} {rs : List bP} (hc : aR Ln V rs = 0) {l : List Int} {a : List Int × Rat × Int} (h : deriveQ rs l = some a) (hl : l.length <= 10) :
  a.1.length <= 9 /\ eA Ln V rs a.1 = 0 /\ a.2.1 <= bestQ rs a.1 Ln /\ (a.2.1 ≠ 0 -> bestQ rs a.1 Ln ≠ 0 /\ (bestP rs a.1 Ln).length = l.length /\ (a.2.1 = bestQ rs a.1 Ln -> 0 <= firstN l (bestP rs a.1 Ln) l.length)) := by
 have hck := lA hc
 have hr : RulesOk Ln rs := fun r hr => by
  have := hck.2.2.2.2.2.1 r hr
  exact ⟨this.1, this.2.1, this.2.2.1, this.2.2.2.1, this.2.2.2.2.1, this.2.2.2.2.2.2.2⟩
 have hL : 1 <= (Ln : Int) := by omega
 have hLn : (Ln : Int).toNat = Ln := Int.toNat_natCast Ln
 obtain ⟨n, h1, h2⟩ := der_some h
 obtain ⟨s, w, z⟩ := a
 have h3 := (der_down hLn hr hL h1 h2).1
 have h4 := der_le hLn hr hL h1 h2
 obtain ⟨b, _, hb, _⟩ := derN_step h2
 have h5 : 0 <= w := by
  obtain ⟨_, _, e1, _, _, _, hm, _, _, e2⟩ := derN_step h2
  have := (der_up hr hL (by omega) e1).2.1
  injection e2 with _ e2
  injection e2 with e2 _
  rw [e2]
  exact Rat.mul_nonneg this (hr _ hm).2.2.2.2.2
 refine ⟨by simp only; omega, ?_, h4, fun h0 => ?_⟩
 ·unfold eA
  have h6 := der_words hc h2
  rw [if_neg (by simp only; omega), if_neg (by rw [hc]; decide), if_pos (inR_iff.2 h6)]
 have hb0 : bestQ rs s Ln ≠ 0 := by
  intro h6
  simp only at h4 h0
  rw [h6] at h4
  exact h0 (Rat.le_antisymm h4 h5)
 refine ⟨hb0, ?_, fun h6 => ?_⟩
 ·have := path_length hLn hr hL hb0
  simp only at this ⊢
  omega
 exact der_first hLn hr hL h1 h2 h0 h6
theorem bestQ_qb {Ln : Nat} {rs : List bP} {sl : List Int} (hq : ∀ r ∈ rs, QB 64 r.q) (hn : rs.length <= 20) (hs : sl.length <= 9) : QB 20000 (bestQ rs sl Ln) := by
 have h := (uv (Ln := Ln) nice_pickJ hq hn hs sl.length (nR _)).2.2
 unfold bestQ
 rw [gD]
 cases hh : (eo pickJ Ln rs sl sl.length)[0]? with
 | none => exact cB 20000 (by omega)
 | some q => exact h q (mG hh)
theorem bestA_qb {L V : Int} {rs : List bP} {sl : List Int} (hq : ∀ r ∈ rs, QB 64 r.q) (hf : eA L V rs sl = 0 -> rs.length <= 20 /\ sl.length <= 9) : QB 20000 (bestA L V rs sl).2 := by
 unfold bestA
 split
 ·next h => exact bestQ_qb hq (hf h.1).1 (hf h.1).2
 exact cB 20000 (by omega)
def DerP (w : World) (D : Option (List Int × Rat × Int)) (e : Ending) (w' : World) : Prop := ∃ sv u sx ux, e = .returned (.tuple #[sv, u, .bool D.isSome]) /\ IntsAt w' sv sx /\ CanAt w' u ux /\ (∀ a, D = some a -> sx = a.1 /\ ux = a.2.1) /\ Below w.heap.size w w'
theorem DerP.mk_ {w : World} {D : Option (List Int × Rat × Int)} {e : Ending} {w' : World} (h : ∃ sv u sx ux, e = .returned (.tuple #[sv, u, .bool D.isSome]) /\ IntsAt w' sv sx /\ CanAt w' u ux /\ (∀ a, D = some a -> sx = a.1 /\ ux = a.2.1) /\ Below w.heap.size w w') : DerP w D e w' := h
theorem deriveR (w : World) (Ln : Nat) (V : Int) (v lv : Value) (rs : List bP) (l : List Int) (h : RulesAt 64 w v rs) (hl : IntsAt w lv l) (hf : l.length <= 10) (hck : aR Ln V rs = 0) :
  Calls Tryz.prog 66 #[.agg #[.int .i64 Ln, .int .i64 V, v], lv] w (DerP w (deriveQ rs l)) := by
 have hqb := h.qb (by omega)
 have hck := lA hck
 obtain ⟨A, c, rfl, hrc, hrm, hat⟩ := h.open_
 obtain ⟨LA, lc, rfl, hlc, hlm, hlt⟩ := hl.open_
 have HAT := aH hat
 have HLT := aH hlt
 have HQB := aH hqb
 obtain ⟨n, hn⟩ : ∃ n, rs.length = n := ⟨_, rfl⟩
 obtain ⟨p, hp⟩ : ∃ p, l.length = p := ⟨_, rfl⟩
 have HN := aH hn
 have HP := aH hp
 rw [hn] at hrc ⊢
 rw [hp] at hlc hf ⊢
 have hL1 : 1 <= Ln := by omega
 have hn5 : n <= 500 := by omega
 have HRO : Hd (RulesOk Ln rs) := aH (fun r hr => by
  have := hck.2.2.2.2.2.1 r hr
  exact ⟨this.1, this.2.1, this.2.2.1, this.2.2.2.1, this.2.2.2.2.1, this.2.2.2.2.2.2.2⟩)
 obtain ⟨D, hD⟩ : ∃ d, deriveQ rs l = d := ⟨_, rfl⟩
 rw [hD]
 have HDQ := aH hD
 have HBAD : Hd (deriveQ rs l = none -> D = none) := aH (fun h => by rw [<- hD, h])
 clear h hl hat hlt hn hp hqb hck hD
 go_enter Tryz.func66, Tryz.ntmps66
 go_upto_region 1 with fail
 obtain ⟨W, hW, P0, P1, PB, Phs⟩ := cP w 73 [.int .i64 (Ln : Int), .int .i64 V, .slice A n c] 40 [.bool false, .slice none 0 0, .slice none 0 0]
 rw [<- hW]
 clear hW
 obtain ⟨q1, hq1⟩ : ∃ q : Rat, ((1 : Int) : Rat) = q := ⟨_, rfl⟩
 have HQ1 : Hd (q1 = 1) := aH (by rw [<- hq1]; rfl)
 have OF : Hd (Calls Tryz.prog 33 #[.int .i64 1] W fun e w' => ∃ v', e = .returned v' /\ CanNew W.heap.size w' v' q1 /\ Below W.heap.size W w') := aH (by
  have := ko W 1 (by omega) (by omega)
  rwa [hq1] at this)
 clear hq1
 go_wp2_with fail
 refine OF.o.mono ?_
 rintro e w3 ⟨u3, rfl, t3, hb3⟩
 obtain ⟨A3, m3, c3, A3', m3', c3', rfl⟩ := t3.at_.open_
 have T3 := aH t3.at_
 have P3' := aH (P0.o.below' hb3)
 have R3 := aH (P1.o.below' hb3)
 have B3 := aH (PB.o.trans (hb3.mono PB.o.size))
 clear t3 hb3 P0 P1 PB Phs OF
 go_wp2_with fail
 obtain ⟨W4, hW4, X0, XB, Xhs⟩ := aA w3 40 [.bool (ae q1), .slice A3 m3 c3, .slice A3' m3' c3']
 rw [<- hW4]
 clear hW4
 have P4 := aH (P3'.o.below' XB.o)
 have R4 := aH (R3.o.below' XB.o)
 have B4 := aH (B3.o.trans (XB.o.mono B3.o.size))
 have BX4 : Hd (BoxA W4 w3.heap.size q1 (.slice none 0 0)) := aH ⟨_, _, _, _, _, _, X0.o, T3.o.below XB.o, fun r hr => by simp [Value.ownBlock] at hr⟩
 have sw3 : w.heap.size + 1 < w3.heap.size := R3.o.lt
 have sx4 : w3.heap.size < W4.heap.size := X0.o.lt
 obtain ⟨bw, hbw⟩ : ∃ b, w3.heap.size = b := ⟨_, rfl⟩
 obtain ⟨B0, hB0⟩ : ∃ b, W4.heap.size = b := ⟨_, rfl⟩
 rw [hbw] at BX4 sw3 sx4 ⊢
 rw [hB0] at sx4
 have s4 : B0 <= W4.heap.size := by omega
 clear hbw P3' R3 B3 X0 XB Xhs T3
 go_loopg [10, 7, 9, 11] p (fun gh i s8 a10 _ wz => ∃ (j m : Nat) (A9 : Option Addr) (c9 : Nat) (sl : List Int) (q : Rat) (z : Int), i = .int .i64 j /\ s8 = .slice A9 m c9 /\ a10 = .int .i64 z /\ j + gh = p /\ m <= j /\ Hd (sl.length = m) /\ Hd (derN rs l j = some (sl, q, z)) /\ Hd (wz.ownsRow B0 3 1 (.slice A9 m c9) m (sl.map (Value.int .i64))) /\ Hd (BoxA wz bw q (.slice A9 m c9)) /\
  Hd (Blk wz w.heap.size 73 [.int .i64 (Ln : Int), .int .i64 V, .slice A n c]) /\ Hd (Blk wz (w.heap.size + 1) 40 [.bool false, .slice none 0 0, .slice none 0 0]) /\ Hd (Below w.heap.size w wz) /\ B0 <= wz.heap.size)
 case atStart => exact ⟨0, 0, none, 0, [], q1, 0, rfl, rfl, rfl, by omega, by omega, aH rfl, aH (by rw [HQ1.o]; rfl), aH (World.ownsRow_nil ..), BX4, P4, R4, B4, s4⟩
 clear P4 R4 B4 BX4 s4 hB0 HQ1
 obtain ⟨w5, rfl⟩ : ∃ x, x = wr := ⟨_, rfl⟩
 obtain ⟨j, m, A9, c9, sl, q, z, rfl, rfl, rfl, hj, hm, HSL, HD, OW, BX, P5, R5, B5, s5⟩ := hrel
 rcases zP gk with h | h
 ·subst h
  obtain rfl : j = p := by omega
  have HB : Hd (D.isSome = decide (0 < j) /\ ∀ a, D = some a -> sl = a.1 /\ q = a.2.1) := aH (by
   rw [<- HDQ.o]
   unfold deriveQ
   rw [HP.o]
   by_cases h0 : j = 0
   ·rw [if_pos h0, h0]
    exact ⟨rfl, fun a h => by cases h⟩
   rw [if_neg h0, HD.o, dT (by omega)]
   exact ⟨rfl, fun a h => by cases h; exact ⟨rfl, rfl⟩⟩)
  obtain ⟨di, hdi⟩ : ∃ b, decide ((0 : Int) < (j : Int)) = b := ⟨_, rfl⟩
  have hdi' : decide (0 < j) = di := by rw [<- hdi]; exact decide_eq_decide.2 (by omega)
  have HDI : Hd (D.isSome = di) := aH (by rw [HB.o.1, hdi'])
  obtain ⟨Ar, mr, cr, Ar', mr', cr', x0, x1, x2, _, _, _, tr⟩ := BX.o.box.get
  obtain ⟨r0, r1, r2, z0, z1, z2⟩ := R5.o.three
  have RN := aH (FArc.keeps (BoxC.of (q := 0) R5.o (uX w5)) tr 0 1 2 (ae q) Ar Ar' mr cr mr' cr')
  have II : Hd (IntsAt w5 (.slice A9 m c9) sl) := aH (by
   unfold IntsAt
   rw [HSL.o]
   exact Sl.of_own OW.o)
  have FO := aH (From.of_own OW.o)
  have sb : w.heap.size + 1 < B0 := by omega
  clear tr
  go_wp2_with fail
  go_region
  all_goals
   go_wp2_with fail
   refine bodyPost_ret (v := .tuple #[.slice A9 m c9, .agg #[.bool (ae q), .slice Ar mr cr, .slice Ar' mr' cr'], .bool di]) (by simp [results, Tryz.results66, go_sem, r0, r1, r2, List.mapM_cons]) rfl (DerP.mk_ ⟨_, _, sl, q, by rw [HDI.o], II.o.same FO.o (Same.set3 _ sb 0 1 2 _ _ _), RN.o, HB.o.2, by first | exact af B5.o (Nat.le_succ _) _ _ _ | exact (af B5.o (Nat.le_succ _) _ _ _).drew⟩)
 obtain ⟨g, rfl⟩ : ∃ g, gk = g + 1 := ⟨gk - 1, by omega⟩
 obtain ⟨x, hx⟩ : ∃ x, l[j]? = some x := ⟨_, eG (by rw [HP.o]; omega)⟩
 obtain ⟨bl, ol, rfl, hbl, f0⟩ := HLT.o j _ hx
 have c6 := (B5.o.cell (p := ⟨bl, ol + j, none⟩) hbl).trans f0
 have HXJ := aH hx
 have i3 : (0 : Int) <= (j : Int) := by omega
 have i4 : (j : Int) < (p : Int) := by omega
 have j9 : IntKind.i64.wrap ((j : Int) + 1) = (j : Int) + 1 := iI _ (by omega)
 have j8 : IntKind.i64.wrap ((p : Int) - 1) = (p : Int) - 1 := iI _ (by omega)
 obtain ⟨p0, p1, p2, _, _, _⟩ := P5.o.three
 have sP : w.heap.size + 1 < w5.heap.size := R5.o.lt
 have HOUT : Hd (¬ (0 <= x /\ x < (n : Int)) -> D = none) := aH (fun hno => HBAD.o (der_bad (j := j + 1) (by rw [HP.o]; omega) (by
  cases h4 : derN rs l (j + 1) with
  | none => rfl
  | some b =>
   obtain ⟨_, _, _, _, h5, h6, _⟩ := derN_step h4
   rw [gD, HXJ.o, Option.getD_some] at h5 h6
   exact absurd ⟨h5, by rw [HN.o] at h6; exact h6⟩ hno)))
 clear hx f0
 by_cases hx0 : x < 0
 ·have d1 : decide (x < 0) = true := dT hx0
  obtain rfl := HOUT.o (by omega)
  clear hx0
  go_wp2_with fail
  go_quiet (fail)
  obtain ⟨r0, r1, r2, z0, z1, z2⟩ := (R5.o.below' (ak (Below.refl _ w5) nq)).three
  have B6 := aH (ak B5.o nq)
  go_wp2_with fail
  refine bodyPost_ret (v := .tuple #[.slice none 0 0, .agg #[.bool false, .slice none 0 0, .slice none 0 0], .bool false]) (by simp [results, Tryz.results66, go_sem, r0, r1, r2, List.mapM_cons]) rfl (DerP.mk_ ⟨_, _, [], 0, rfl, IntsAt.nil_ _, uX _, (fun a h => by cases h), af B6.o (Nat.le_succ _) _ _ _⟩)
 have d1 : decide (x < 0) = false := dF hx0
 by_cases hx1 : (n : Int) <= x
 ·have d2 : decide ((n : Int) <= x) = true := dT hx1
  obtain rfl := HOUT.o (by omega)
  clear hx0 hx1
  go_wp2_with fail
  go_quiet (fail)
  obtain ⟨r0, r1, r2, z0, z1, z2⟩ := (R5.o.below' (ak (Below.refl _ w5) nq)).three
  have B6 := aH (ak B5.o nq)
  go_wp2_with fail
  refine bodyPost_ret (v := .tuple #[.slice none 0 0, .agg #[.bool false, .slice none 0 0, .slice none 0 0], .bool false]) (by simp [results, Tryz.results66, go_sem, r0, r1, r2, List.mapM_cons]) rfl (DerP.mk_ ⟨_, _, [], 0, rfl, IntsAt.nil_ _, uX _, (fun a h => by cases h), af B6.o (Nat.le_succ _) _ _ _⟩)
 have d2 : decide ((n : Int) <= x) = false := dF hx1
 obtain ⟨i, rfl⟩ : ∃ i : Nat, x = i := ⟨x.toNat, by omega⟩
 obtain ⟨r, hr⟩ : ∃ r, rs[i]? = some r := ⟨_, eG (by rw [HN.o]; omega)⟩
 obtain ⟨ba, oa, s, An, nn, cn, Ad, nd, cd, rfl, hba, e0, e1, e2, e3, e4, e5, hfr⟩ := HAT.o i r hr
 have FR := aH hfr
 have HSTEP := aH (derN_get HD.o HXJ.o hr)
 have HRK := aH (HRO.o r (mG hr))
 have HQR := aH (HQB.o r (mG hr))
 have HQD := aH (der_qb HQB.o HD.o)
 have i1 : (0 : Int) <= (i : Int) := by omega
 have i2 : (i : Int) < (n : Int) := by omega
 go_wp2_with fail
 go_quiet (fail)
 have OWn := aH (bK OW.o (ak (Below.refl _ w5) nq))
 have BXn := aH (BX.o.below (ak (Below.refl _ w5) nq))
 have Pn := aH (P5.o.below' (ak (Below.refl _ w5) nq))
 have Rn := aH (R5.o.below' (ak (Below.refl _ w5) nq))
 have Bn := aH (ak B5.o nq)
 obtain ⟨W5, hW5⟩ : ∃ x, x = w5.drewN nq := ⟨_, rfl⟩
 have s5n : B0 <= W5.heap.size := by rw [hW5]; exact Nat.le_trans s5 (ak (Below.refl w5.heap.size w5) nq).size
 rw [<- hW5] at OWn BXn Pn Rn Bn ⊢
 clear hW5 p0 p1 p2 c6 OW BX P5 R5 B5 s5 sP hx0 hx1
 obtain ⟨p0, p1, p2, _, _, _⟩ := Pn.o.three
 have c6 := (Bn.o.cell (p := ⟨bl, ol + j, none⟩) hbl).trans (by obtain ⟨_, _, e, _, h⟩ := HLT.o j _ HXJ.o; cases e; exact h)
 have c0 := (Bn.o.cell (p := ⟨ba, oa + i * 6, none⟩) hba).trans e0
 have c1 := (Bn.o.cell (p := ⟨ba, oa + i * 6 + 1, none⟩) hba).trans e1
 have c2 := (Bn.o.cell (p := ⟨ba, oa + i * 6 + 2, none⟩) hba).trans e2
 have c3 := (Bn.o.cell (p := ⟨ba, oa + i * 6 + 3, none⟩) hba).trans e3
 have c4 := (Bn.o.cell (p := ⟨ba, oa + i * 6 + 4, none⟩) hba).trans e4
 have c5 := (Bn.o.cell (p := ⟨ba, oa + i * 6 + 5, none⟩) hba).trans e5
 obtain ⟨rf, rw_, rt, rq⟩ := r
 simp only at c0 c1 c2 FR HSTEP HRK HQR
 have hrw0 : 0 <= rw_ := HRK.o.2.2.2.2.1
 clear hr e0 e1 e2 e3 e4 e5 hfr
 have BB := aH (Below.refl W5.heap.size W5)
 have sP : w.heap.size + 1 < W5.heap.size := Rn.o.lt
 have sP' : w.heap.size < W5.heap.size := by omega
 have sbl : bl < W5.heap.size := by omega
 have sba : ba < W5.heap.size := by omega
 go_upto_region 9 with fail
 go_cut [11] (fun s11 wc => ∃ bp, s11 = .pointer (some ⟨bp, 0, none⟩) /\ Hd (B0 <= bp /\ W5.heap.size <= bp) /\ Hd (Blk wc bp 111 [.int .i64 rf, .int .i64 rw_, .int .i64 rt, .bool s, .slice An nn cn, .slice Ad nd cd]) /\ Hd (Below W5.heap.size W5 wc))
 case first =>
  go_region
  all_goals
   go_wp2_with fail
   go_meet
   exact ⟨_, rfl, aH ⟨s5n, nR _⟩, aH (Blk.new W5 111 [.int .i64 rf, .int .i64 rw_, .int .i64 rt, .bool s, .slice An nn cn, .slice Ad nd cd]).drew, aH ((Below.refl W5.heap.size W5).alloc (nR _) _).drew⟩
 obtain ⟨bp, rfl, hbp, G0, BC⟩ := hcut
 obtain ⟨w6, rfl⟩ : ∃ x, x = wc := ⟨_, rfl⟩
 have hbp1 := hbp.o
 have P6 := aH (Pn.o.below' BC.o)
 have R6 := aH (Rn.o.below' BC.o)
 have B6 := aH (Bn.o.trans (BC.o.mono Bn.o.size))
 have OW6 := aH (bK OWn.o BC.o)
 have BX6 := aH (BXn.o.below BC.o)
 have s6 : B0 <= w6.heap.size := Nat.le_trans s5n BC.o.size
 have HL5 : Hd (∀ q, (Value.slice A9 m c9).ownBlock = some q -> q < W5.heap.size) := aH (fun q e => own_lt OWn.o e)
 clear p0 p1 p2 c0 c1 c2 c3 c4 c5 c6 Pn Rn Bn OWn BXn BC hbp
 obtain ⟨g0, g1, g2, g3, g4, g5⟩ := six_at G0.o
 by_cases hff : rf = z
 ·subst hff
  have b1 : (rf != rf) = false := by simp
  by_cases hw0 : (rw_ = 0 ↔ j + 1 = p)
  ·have HD6 : Hd (derN rs l (j + 1) = some (if 0 < rw_ then sl ++ [rw_] else sl, q * rq, rt)) := aH (by rw [HSTEP.o, if_pos ⟨rfl, by rw [HP.o]; exact hw0⟩])
   obtain ⟨tb, b2, b3⟩ : ∃ tb, (rw_ == 0) = tb /\ ((j : Int) == (p : Int) - 1) = tb := ⟨_, rfl, by
    rw [Bool.eq_iff_iff, beq_iff_eq, beq_iff_eq]
    omega⟩
   have b5 : (tb != tb) = false := by simp
   clear hw0 HSTEP
   obtain ⟨tp, b4⟩ : ∃ t, decide (0 < rw_) = t := ⟨_, rfl⟩
   have HTP := aH b4
   go_upto_if 61 with fail
   clear b4
   go_cut [7] (fun s8 w7 => ∃ A7 m7 c7 sl7, s8 = .slice A7 m7 c7 /\ m7 <= j + 1 /\ Hd (sl7.length = m7) /\ Hd (derN rs l (j + 1) = some (sl7, q * rq, rt)) /\ Hd (w7.ownsRow B0 3 1 (.slice A7 m7 c7) m7 (sl7.map (Value.int .i64))) /\ Hd (BoxA w7 bw q (.slice A7 m7 c7)) /\ Hd (Blk w7 w.heap.size 73 [.int .i64 (Ln : Int), .int .i64 V, .slice (some ⟨ba, oa, none⟩) n c]) /\ Hd (Blk w7 (w.heap.size + 1) 40 [.bool false, .slice none 0 0, .slice none 0 0]) /\ Hd (Blk w7 bp 111 [.int .i64 rf, .int .i64 rw_, .int .i64 rt, .bool s, .slice An nn cn, .slice Ad nd cd]) /\ Hd (Below w.heap.size w w7) /\ B0 <= w7.heap.size)
   case first =>
    cases tp with
    | true =>
     have hw := of_decide_eq_true HTP.o
     have HD7 : Hd (derN rs l (j + 1) = some (sl ++ [rw_], q * rq, rt)) := aH (by rw [HD6.o, if_pos hw])
     obtain ⟨xs, hxs⟩ : ∃ xs, sl.map (Value.int .i64) = xs := ⟨_, rfl⟩
     have HTK : Hd ((sl ++ [rw_]).map (Value.int .i64) = xs ++ [.int .i64 rw_]) := aH (by rw [List.map_append, hxs]; rfl)
     rw [hxs] at OW6
     obtain ⟨i0, gi, gz0, gz1, gz2⟩ := info_parts eD
     have HSL7 : Hd ((sl ++ [rw_]).length = m + 1) := aH (by rw [List.length_append, HSL.o]; rfl)
     clear hw hxs HD6 b2 b3 b5
     go_wp2_with (at_builtin; refine al rfl (.tmp 62) (.tmp 65) 44 rfl B0 3 i0 (.int .i64 0) 1 8 Tryz.underlying44 gi gz0 gz1 gz2 rfl (by decide) _ _ _ rfl (bK OW6.o (Below.alloc (Below.refl _ _) (nR _) _)) _ 1 [.int .i64 rw_] rfl (Sl.one _ _ _) (by simp [Value.oneCell']) (by unfold maxLen; omega) (by omega) (by simp; omega) ?_)
     intro v3 w7 t1 t2 t3
     obtain ⟨gb, cap, rfl⟩ := g9 t1 (by omega)
     have hnk : ∀ q, (Value.slice A9 m c9).ownBlock = some q -> B0 <= q := ao (From.of_own OW6.o)
     have OW7 : Hd (w7.ownsRow B0 3 1 (.slice (some ⟨gb, 0, none⟩) (m + 1) cap) (m + 1) ((sl ++ [rw_]).map (Value.int .i64))) := aH (by rw [HTK.o]; exact t1)
     have P7 := aH ((P6.o.alloc (.cells #[.int .i64 rw_] 3)).grown t2 (fun e => by have := hnk _ e.symm; omega))
     have R7 := aH ((R6.o.alloc (.cells #[.int .i64 rw_] 3)).grown t2 (fun e => by have := hnk _ e.symm; omega))
     have G7 := aH ((G0.o.alloc (.cells #[.int .i64 rw_] 3)).grown t2 (fun e => by have := HL5.o _ e.symm; omega))
     have B7 := aH ((B6.o.alloc B6.o.size (.cells #[.int .i64 rw_] 3)).grown t2 (by have := B6.o.size; simp; omega) (fun q e => by have := hnk _ e; omega))
     have BX7 : Hd (BoxA w7 bw q (.slice (some ⟨gb, 0, none⟩) (m + 1) cap)) := aH ((BX6.o.below (bA _ (.cells #[.int .i64 rw_] 3))).push t2 (t3.elim Or.inl (fun e => Or.inr (by rw [e]; simp))))
     have s7 : B0 <= w7.heap.size := by have := t2.size; simp at this; omega
     clear t1 t2 t3 hnk
     go_wp2_with fail
     go_meet
     exact ⟨_, _, _, _, rfl, by omega, HSL7, HD7, OW7, BX7, P7, R7, G7, B7, s7⟩
    | false =>
     have hw := of_decide_eq_false HTP.o
     have HD7 : Hd (derN rs l (j + 1) = some (sl, q * rq, rt)) := aH (by rw [HD6.o, if_neg hw])
     clear hw HD6 b2 b3 b5
     go_wp2_with fail
     go_meet
     exact ⟨_, _, _, _, rfl, by omega, HSL, HD7, OW6, BX6, P6, R6, G0, B6, s6⟩
   clear OW6 BX6 P6 R6 G0 B6 s6 g0 g1 g2 g3 g4 g5 HD6
   obtain ⟨w7, rfl⟩ : ∃ x, x = wc := ⟨_, rfl⟩
   obtain ⟨A7, m7, c7, sl7, rfl, hm7, HSL7, HD7, OW7, BX7, P7, R7, G7, B7, s7⟩ := hcut
   obtain ⟨Ar, mr, cr, Ar', mr', cr', x0, x1, x2, y0, y1, y2, tr⟩ := BX7.o.box.get
   have TR := aH (tr.frac (k := 1000) (HQD.o.mono (by omega)) (by omega))
   have TX := aH ((FR.o.below B7.o).mono (show 64 <= 1000 by omega))
   obtain ⟨g0, g1, g2, g3, g4, g5⟩ := six_at G7.o
   clear tr y0 y1 y2
   go_wp2_with fail
   refine (mV _ _ _ q rq 1000 TR.o TX.o (by omega) (by omega)).mono ?_
   rintro e w8 ⟨u, rfl, t8, hb8⟩
   obtain ⟨A8, m8, c8, A8', m8', c8', rfl⟩ := t8.at_.open_
   have T8 := aH t8
   have BX8 := aH (BX7.o.below hb8)
   have OW8 := aH (bK OW7.o hb8)
   have P8 := aH (P7.o.below' hb8)
   have R8 := aH (R7.o.below' hb8)
   have G8 := aH (G7.o.below' hb8)
   have B8 := aH (B7.o.trans (hb8.mono B7.o.size))
   have HV : Hd (∀ x, (Value.slice A7 m7 c7).ownBlock = some x -> x < w7.heap.size /\ bw ≠ x) := aH (fun x hx => ⟨own_lt OW7.o hx, by have := ao (From.of_own OW7.o) x hx; omega⟩)
   have s8 : B0 <= w8.heap.size := Nat.le_trans s7 hb8.size
   clear t8 hb8 x0 x1 x2 g0 g1 g2 g3 g4 g5 TR TX BX7 P7 R7 G7 B7
   obtain ⟨g0, g1, g2, g3, g4, g5⟩ := six_at G8.o
   obtain ⟨_, _, _, _, _, _, x0, x1, x2, y0, y1, y2, _⟩ := BX8.o.box.get
   have sG : bp ≠ bw := by omega
   have sB : w.heap.size <= bw := by omega
   go_wp2_with fail
   go_roundg g
   case measure => omega
   case rel =>
    refine ⟨j + 1, m7, A7, c7, sl7, q * rq, rt, rfl, rfl, rfl, by omega, by omega, HSL7, HD7, aH ?_, aH (BoxA.put BX8.o.box T8.o HV.o), aH (P8.o.far3 (by omega) 0 1 2 _ _ _), aH (R8.o.far3 (by omega) 0 1 2 _ _ _), aH (aL B8.o sB 0 1 2 _ _ _), by simpa using s8⟩
    exact own_same OW8.o (Same.set3 w8 (show bw < B0 by omega) 0 1 2 _ _ _)
  obtain rfl := HBAD.o (der_bad (j := j + 1) (by rw [HP.o]; omega) (by rw [HSTEP.o, if_neg (fun h => hw0 (by have := h.2; rwa [HP.o] at this))]))
  by_cases hw : rw_ = 0
  ·have b2 : (rw_ == 0) = true := by simpa using hw
   have b3 : ((j : Int) == (p : Int) - 1) = false := by simp; omega
   clear hw hw0
   obtain ⟨r0, r1, r2, z0, z1, z2⟩ := R6.o.three
   go_wp2_with fail
   refine bodyPost_ret (v := .tuple #[.slice none 0 0, .agg #[.bool false, .slice none 0 0, .slice none 0 0], .bool false]) (by simp [results, Tryz.results66, go_sem, r0, r1, r2, List.mapM_cons]) rfl (DerP.mk_ ⟨_, _, [], 0, rfl, IntsAt.nil_ _, uX _, (fun a h => by cases h), af B6.o (Nat.le_succ _) _ _ _⟩)
  have b2 : (rw_ == 0) = false := by simpa using hw
  have b3 : ((j : Int) == (p : Int) - 1) = true := by simp; omega
  clear hw hw0
  obtain ⟨r0, r1, r2, z0, z1, z2⟩ := R6.o.three
  go_wp2_with fail
  refine bodyPost_ret (v := .tuple #[.slice none 0 0, .agg #[.bool false, .slice none 0 0, .slice none 0 0], .bool false]) (by simp [results, Tryz.results66, go_sem, r0, r1, r2, List.mapM_cons]) rfl (DerP.mk_ ⟨_, _, [], 0, rfl, IntsAt.nil_ _, uX _, (fun a h => by cases h), af B6.o (Nat.le_succ _) _ _ _⟩)
 have b1 : (rf != z) = true := by simpa using hff
 obtain rfl := HBAD.o (der_bad (j := j + 1) (by rw [HP.o]; omega) (by rw [HSTEP.o, if_neg (fun h => hff h.1)]))
 clear hff
 obtain ⟨r0, r1, r2, z0, z1, z2⟩ := R6.o.three
 go_wp2_with fail
 refine bodyPost_ret (v := .tuple #[.slice none 0 0, .agg #[.bool false, .slice none 0 0, .slice none 0 0], .bool false]) (by simp [results, Tryz.results66, go_sem, r0, r1, r2, List.mapM_cons]) rfl (DerP.mk_ ⟨_, _, [], 0, rfl, IntsAt.nil_ _, uX _, (fun a h => by cases h), af B6.o (Nat.le_succ _) _ _ _⟩)
theorem gramDerivesG (hsort : ma) (w : World) (L V : Int) (A : Option Addr) (n c : Nat) (rr : List RRule) (lv : Value) (l : List Int) (h : RRulesAt w (.slice A n c) rr) (hn : rr.length = n) (hs : IntsAt w lv l) :
  Calls Tryz.prog 15 #[.agg #[.int .i64 L, .int .i64 V, .slice A n c], lv] w fun e w' => e = .returned (.bool true) /\ Below w.heap.size w w' := by
 obtain ⟨SA, sc, rfl, hsc, hscm, hlt⟩ := hs.open_
 have HK := aH (vQ hsort)
 have HLT := aH hlt
 obtain ⟨p, hp⟩ : ∃ p, l.length = p := ⟨_, rfl⟩
 have HFW : Hd (∀ w', Below w.heap.size w w' -> Calls Tryz.prog 46 #[.agg #[.int .i64 L, .int .i64 V, .slice A n c]] w' fun e w2 => e = .returned (.bool (fewB rr)) /\ Below w'.heap.size w' w2) := aH (fun w' hb => fewG w' L V A n c rr (h.below hb) hn)
 obtain ⟨rs, hrs⟩ : ∃ l, rr.map RRule.rule = l := ⟨_, rfl⟩
 have HRA : Hd (fewB rr = true -> ∀ w', Below w.heap.size w w' -> RulesAt 64 w' (.slice A n c) rs) := aH (fun hf w' hb => by rw [<- hrs]; exact (h.rules (few_ok hf).2).below hb)
 have HIS : Hd (∀ w', Below w.heap.size w w' -> IntsAt w' (.slice SA p sc) l) := aH (fun w' hb => by rw [<- hp]; exact hs.below hb)
 have HN : Hd (rs.length = n) := aH (by rw [<- hrs, List.length_map]; exact hn)
 have HFEW : Hd (fewB rr = true -> n <= 20 ∨ 500 < n) := aH (fun h => by rw [<- hn]; exact (few_ok h).1)
 rw [hp] at hsc ⊢
 have HP := aH hp
 obtain ⟨fb, hfb⟩ : ∃ b, fewB rr = b := ⟨_, rfl⟩
 obtain ⟨ce, hce⟩ : ∃ z, aR L V rs = z := ⟨_, rfl⟩
 obtain ⟨b10, e10⟩ : ∃ b, decide ((10 : Int) < (p : Int)) = b := ⟨_, rfl⟩
 have e10' : decide (10 < p) = b10 := by rw [<- e10]; exact decide_eq_decide.2 (by omega)
 obtain ⟨tk, htk⟩ : ∃ b, (!fb || b10) = b := ⟨_, rfl⟩
 obtain ⟨E, hE⟩ : ∃ z, derE L V rs l = z := ⟨_, rfl⟩
 obtain ⟨da, hda⟩ : ∃ z, derA L V rs l = z := ⟨_, rfl⟩
 obtain ⟨ws, dq⟩ := da
 obtain ⟨D, hD⟩ : ∃ z, deriveQ rs l = z := ⟨_, rfl⟩
 have HFB := aH hfb
 have HCE := aH hce
 have HTK := aH htk
 have HB10 := aH e10
 have HDE := aH hE
 have HDA := aH hda
 have HDQ := aH hD
 have HDN : Hd (aR L V rs = 0 -> D = none -> E = 2 /\ (ws, dq) = (([] : List Int), (0 : Rat))) := aH (fun h0 h1 => by
  rw [<- hE, <- hda]
  unfold derE derA
  rw [if_pos h0, if_pos h0, hD, h1]
  exact ⟨rfl, rfl⟩)
 have HDS : Hd (aR L V rs = 0 -> ∀ a, D = some a -> E = 0 /\ (ws, dq) = (a.1, a.2.1)) := aH (fun h0 a h1 => by
  rw [<- hE, <- hda]
  unfold derE derA
  rw [if_pos h0, if_pos h0, hD, h1]
  exact ⟨rfl, rfl⟩)
 have HEC : Hd (aR L V rs ≠ 0 -> E = ce) := aH (fun h0 => by
  rw [<- hE, <- hce]
  unfold derE
  rw [if_neg h0])
 have HDB : Hd (aR L V rs ≠ 0 -> E = E /\ (ws, dq) = (([] : List Int), (0 : Rat))) := aH (fun h0 => by
  rw [<- hda]
  unfold derA
  rw [if_neg h0]
  exact ⟨rfl, rfl⟩)
 clear hsort h hn hs hp hrs hfb hce htk hE hda hD hlt
 go_enter Tryz.func15, Tryz.ntmps15
 go_upto_region 1 with fail
 obtain ⟨W, hW, P0, PB, Phs⟩ := aA w 73 [.int .i64 L, .int .i64 V, .slice A n c]
 rw [<- hW]
 clear hW
 obtain ⟨p0, p1, p2, _, _, _⟩ := P0.o.three
 go_cut [24] (fun t wc => t = .bool tk /\ Hd (Below W.heap.size W wc))
 case first =>
  go_wp2_with fail
  refine (HFW.o W PB.o).mono ?_
  rintro e wa ⟨rfl, hba⟩
  rw [HFB.o]
  have BA := aH hba
  clear hba
  cases fb with
  | false =>
   go_wp2_with fail
   go_meet
   exact ⟨by rw [<- HTK.o]; rfl, BA⟩
  | true =>
   cases b10 <;> (go_wp2_with fail; go_meet; exact ⟨by rw [<- HTK.o]; rfl, BA⟩)
 case rest =>
 obtain ⟨rfl, hcc⟩ := hcut
 obtain ⟨w1, rfl⟩ : ∃ x, x = wc := ⟨_, rfl⟩
 have P1 := aH (P0.o.below' hcc.o)
 have B1 := aH (PB.o.trans (hcc.o.mono PB.o.size))
 clear hcc p0 p1 p2 P0 PB Phs e10 e10'
 cases tk with
 | true =>
  go_wp2_with fail
  refine (HK.o _).mono ?_
  rintro e wK ⟨rfl, hbK⟩
  have BK := aH (B1.o.trans (hbK.mono B1.o.size))
  clear hbK
  go_wp2_with fail
  go_ret
  exact ⟨rfl, BK.o⟩
 | false =>
 have HTT := HTK.o
 simp only [Bool.or_eq_false_iff, Bool.not_eq_false'] at HTT
 obtain ⟨rfl, rfl⟩ := HTT
 have hp10 : p <= 10 := by have := of_decide_eq_false HB10.o; omega
 have hfew := HFEW.o HFB.o
 have HRS : Hd (∀ w', Below w.heap.size w w' -> RulesAt 64 w' (.slice A n c) rs) := aH (HRA.o HFB.o)
 clear HTK HFW HRA HB10
 obtain ⟨p0, p1, p2, _, _, _⟩ := P1.o.three
 go_wp2_with fail
 refine (deriveG w1 L V _ _ rs l (HRS.o w1 B1.o) (HIS.o w1 B1.o) (by rw [HP.o]; exact hp10)).mono ?_
 rw [HDE.o, HDA.o]
 rintro e w2 ⟨sv, u, rfl, hI, _, hu, hb⟩
 obtain ⟨As, cs, rfl, _, _, _⟩ := hI.open_
 obtain ⟨ns, hns⟩ : ∃ x, ws.length = x := ⟨_, rfl⟩
 simp only at hI hu
 simp only [hns] at hI ⊢
 have HNS := aH hns
 obtain ⟨Ax, mx, cx, Ax', mx', cx', rfl⟩ := hu.open_
 have I2 := aH hI
 have U2 := aH hu
 have P2 := aH (P1.o.below' hb)
 have B2 := aH (B1.o.trans (hb.mono B1.o.size))
 clear hI hu hb hns p0 p1 p2 P1 B1
 go_upto_region 4 with fail
 obtain ⟨w3, hw3, X0, XB, Xhs⟩ := aA w2 40 [.bool (ae dq), .slice Ax mx cx, .slice Ax' mx' cx']
 rw [<- hw3]
 clear hw3
 have B3 := aH (B2.o.trans (XB.o.mono B2.o.size))
 have P3 := aH (P2.o.below' XB.o)
 have I3 := aH (I2.o.below XB.o)
 have U3 := aH (U2.o.below XB.o)
 clear B2 P2 I2 U2
 have X3 := X0
 clear X0 XB Xhs
 obtain ⟨p0, p1, p2, _, _, _⟩ := P3.o.three
 go_wp2_with fail
 refine (checkGR w3 L V _ rs (HRS.o w3 B3.o) (by rw [HN.o]; exact hfew)).mono ?_
 rintro e w4 ⟨rfl, hb⟩
 rw [HCE.o]
 clear p0 p1 p2
 have B4 := aH (B3.o.trans (hb.mono B3.o.size))
 have P4 := aH (P3.o.below' hb)
 have I4 := aH (I3.o.below hb)
 have U4 := aH (U3.o.below hb)
 have X4 := aH (X3.o.below' hb)
 clear B3 P3 I3 U3 X3
 clear hb
 by_cases hc : ce = 0
 ·subst hc
  obtain ⟨Ln, rfl⟩ : ∃ Ln : Nat, L = Ln := ⟨L.toNat, by have := (lA HCE.o).2.1; omega⟩
  obtain ⟨p0, p1, p2, _, _, _⟩ := P4.o.three
  go_wp2_with fail
  refine (deriveR w4 Ln V _ _ rs l (HRS.o w4 B4.o) (HIS.o w4 B4.o) (by rw [HP.o]; exact hp10) HCE.o).mono ?_
  rw [HDQ.o]
  rintro e w5 ⟨sv2, u2, sx, ux, rfl, hI2, hu2, hD, hb⟩
  obtain ⟨Ay, my, cy, Ay', my', cy', rfl⟩ := hu2.open_
  have J5 := aH hI2
  have Y5 := aH hu2
  have HD2 := aH hD
  clear p0 p1 p2 hI2 hu2 hD
  have B5 := aH (B4.o.trans (hb.mono B4.o.size))
  have P5 := aH (P4.o.below' hb)
  have I5 := aH (I4.o.below hb)
  have U5 := aH (U4.o.below hb)
  have X5 := aH (X4.o.below' hb)
  clear B4 P4 I4 U4 X4
  clear hb
  go_upto_region 8 with fail
  obtain ⟨w6, hw6, Z0, ZB, Zhs⟩ := aA w5 40 [.bool (ae ux), .slice Ay my cy, .slice Ay' my' cy']
  rw [<- hw6]
  clear hw6
  have B6 := aH (B5.o.trans (ZB.o.mono B5.o.size))
  have P6 := aH (P5.o.below' ZB.o)
  have I6 := aH (I5.o.below ZB.o)
  have U6 := aH (U5.o.below ZB.o)
  have X6 := aH (X5.o.below' ZB.o)
  have J6 := aH (J5.o.below ZB.o)
  have Y6 := aH (Y5.o.below ZB.o)
  clear B5 P5 I5 U5 X5 J5 Y5
  have Z6 := Z0
  clear Z0 ZB Zhs
  cases D with
  | none =>
   obtain ⟨rfl, h1⟩ := HDN.o HCE.o rfl
   injection h1 with h1 h2
   subst h1
   subst h2
   obtain rfl : ns = 0 := by rw [<- HNS.o]; rfl
   obtain ⟨x0, x1, x2, _, _, _⟩ := X6.o.three
   have TQ := aH (U6.o.frac (cB 64 (by omega)) (by omega))
   go_wp2_with fail
   refine (ez w6 _ 0 64 TQ.o (by omega)).mono ?_
   rintro e wS ⟨rfl, hbS⟩
   rw [show aU 0 = 0 from rfl]
   have BS := aH (B6.o.trans (hbS.mono B6.o.size))
   clear hbS x0 x1 x2 TQ
   go_wp2_with fail
   refine (HK.o _).mono ?_
   rintro e wK ⟨rfl, hbK⟩
   have BK := aH (BS.o.trans (hbK.mono BS.o.size))
   clear hbK
   go_wp2_with fail
   go_ret
   exact ⟨rfl, BK.o⟩
  | some a =>
   obtain ⟨rfl, h1⟩ := HDS.o HCE.o a rfl
   injection h1 with h1 h2
   obtain ⟨h3, h4⟩ := HD2.o a rfl
   rw [<- h1] at h3
   rw [<- h2] at h4
   subst h3
   subst h4
   have HA := aH (aI h1 h2)
   clear h1 h2
   obtain ⟨x0, x1, x2, _, _, _⟩ := X6.o.three
   obtain ⟨z0, z1, z2, _, _, _⟩ := Z6.o.three
   go_wp2_with fail
   refine (oo w6 _ _ sx sx (by have := I6.o; exact this) J6.o).mono ?_
   rintro e w7 ⟨rfl, hb⟩
   rw [show decide (sx = sx) = true from dT rfl]
   clear x0 x1 x2 z0 z1 z2
   have B7 := aH (B6.o.trans (hb.mono B6.o.size))
   have P7 := aH (P6.o.below' hb)
   have I7 := aH (I6.o.below hb)
   have U7 := aH (U6.o.below hb)
   have X7 := aH (X6.o.below' hb)
   have Y7 := aH (Y6.o.below hb)
   have Z7 := aH (Z6.o.below' hb)
   clear B6 P6 I6 U6 X6 Y6 Z6
   clear hb J6
   obtain ⟨x0, x1, x2, _, _, _⟩ := X7.o.three
   obtain ⟨z0, z1, z2, _, _, _⟩ := Z7.o.three
   go_wp2_with fail
   refine (gW w7 _ _ ux ux U7.o Y7.o).mono ?_
   rintro e w8 ⟨rfl, hb⟩
   rw [show decide (ux = ux) = true from dT rfl]
   clear x0 x1 x2 z0 z1 z2
   have B8 := aH (B7.o.trans (hb.mono B7.o.size))
   have P8 := aH (P7.o.below' hb)
   have I8 := aH (I7.o.below hb)
   have U8 := aH (U7.o.below hb)
   have X8 := aH (X7.o.below' hb)
   clear B7 P7 I7 U7 X7
   clear hb Y7 Z7
   have HALL : Hd (sx.length <= 9 /\ eA Ln V rs sx = 0 /\ ux <= bestQ rs sx Ln /\ (ux ≠ 0 -> bestQ rs sx Ln ≠ 0 /\ (bestP rs sx Ln).length = l.length /\ (ux = bestQ rs sx Ln -> 0 <= firstN l (bestP rs sx Ln) l.length))) := aH (by
    have := der_all HCE.o HDQ.o (by rw [HP.o]; exact hp10)
    rwa [<- HA.o.1, <- HA.o.2] at this)
   have hn20 : n <= 20 := by have := (lA HCE.o).1; rw [HN.o] at this; omega
   have HQ6 : Hd (∀ r ∈ rs, QB 64 r.q) := aH ((HRS.o w8 B8.o).qb (by omega))
   have QM := aH (bestA_qb (L := Ln) (V := V) (sl := sx) HQ6.o (fun _ => ⟨by rw [HN.o]; exact hn20, HALL.o.1⟩))
   have QU : Hd (QB 1000 ux) := aH (by
    have := derA_qb (L := Ln) (V := V) HQ6.o (l := l) (by rw [HP.o]; exact hp10)
    rwa [HDA.o] at this)
   obtain ⟨be, hbe⟩ : ∃ z, bestE Ln V rs sx = z := ⟨_, rfl⟩
   obtain ⟨ba, hba⟩ : ∃ z, bestA Ln V rs sx = z := ⟨_, rfl⟩
   obtain ⟨bp, bq⟩ := ba
   have HBE := aH hbe
   have HBA := aH hba
   rw [hba] at QM
   clear hbe hba
   obtain ⟨p0, p1, p2, _, _, _⟩ := P8.o.three
   go_wp2_with fail
   refine (bestG w8 Ln V _ _ rs sx (HRS.o w8 B8.o) (by have := I8.o; exact this) (fun _ => ⟨by rw [HN.o]; exact hn20, HALL.o.1⟩)).mono ?_
   rw [HBE.o, HBA.o]
   rintro e w9 ⟨pv, u3, rfl, hI3, hu3, hb⟩
   obtain ⟨Ap, cp, rfl, hpc, hpm, _⟩ := hI3.open_
   obtain ⟨np, hnp⟩ : ∃ x, bp.length = x := ⟨_, rfl⟩
   simp only at hI3 hu3
   simp only [hnp] at hI3 ⊢
   have HNP := aH hnp
   obtain ⟨Aw, mw, cw, Aw', mw', cw', rfl⟩ := hu3.open_
   have K9 := aH hI3
   have M9 := aH hu3
   clear hI3 hu3 hnp p0 p1 p2 I8 hpc hpm
   have B9 := aH (B8.o.trans (hb.mono B8.o.size))
   have P9 := aH (P8.o.below' hb)
   have U9 := aH (U8.o.below hb)
   have X9 := aH (X8.o.below' hb)
   clear B8 P8 U8 X8
   clear hb
   go_upto_region 13 with fail
   obtain ⟨w10, hw10, N0, NB, Nhs⟩ := aA w9 40 [.bool (ae bq), .slice Aw mw cw, .slice Aw' mw' cw']
   rw [<- hw10]
   clear hw10
   have B10 := aH (B9.o.trans (NB.o.mono B9.o.size))
   have U10 := aH (U9.o.below NB.o)
   have X10 := aH (X9.o.below' NB.o)
   have K10 := aH (K9.o.below NB.o)
   have M10 := aH (M9.o.below NB.o)
   clear B9 U9 X9 K9 M9
   have N10 := N0
   clear N0 NB Nhs P9
   obtain ⟨x0, x1, x2, _, _, _⟩ := X10.o.three
   obtain ⟨sg, hsg⟩ : ∃ z, aU ux = z := ⟨_, rfl⟩
   have HSG := aH hsg
   have HSZ : Hd (sg = 0 ↔ ux = 0) := aH (by rw [<- hsg]; exact pQ ux)
   have TU := aH (U10.o.frac (k := 20000) (QU.o.mono (by omega)) (by omega))
   clear hsg
   go_wp2_with fail
   refine (ez w10 _ ux 20000 TU.o (by omega)).mono ?_
   rintro e w11 ⟨rfl, hb⟩
   rw [HSG.o]
   clear x0 x1 x2
   have B11 := aH (B10.o.trans (hb.mono B10.o.size))
   have X11 := aH (X10.o.below' hb)
   have K11 := aH (K10.o.below hb)
   have M11 := aH (M10.o.below hb)
   have N11 := aH (N10.o.below' hb)
   clear B10 X10 K10 M10 N10
   have TU2 := aH (TU.o.below hb)
   clear hb TU U10
   by_cases hz : sg = 0
   ·have n0 : (sg == 0) = true := by simpa using hz
    go_wp2_with fail
    refine (HK.o _).mono ?_
    rintro e wK ⟨rfl, hbK⟩
    have BK := aH (B11.o.trans (hbK.mono B11.o.size))
    clear hbK
    go_wp2_with fail
    go_ret
    exact ⟨rfl, BK.o⟩
   have n0 : (sg == 0) = false := by simpa using hz
   have hnz : ux ≠ 0 := fun h => hz (HSZ.o.2 h)
   have hall := HALL.o
   obtain ⟨g1, g2, g3⟩ := hall.2.2.2 hnz
   have HBG : Hd (be = 0 /\ bp = bestP rs sx Ln /\ bq = bestQ rs sx Ln) := aH (by
    have h1 := HBE.o
    have h2 := HBA.o
    unfold bestE at h1
    unfold bestA at h2
    rw [if_pos hall.2.1, Int.toNat_natCast, if_neg g1] at h1
    rw [Int.toNat_natCast, if_pos ⟨hall.2.1, g1⟩] at h2
    injection h2 with h2 h3
    exact ⟨h1.symm, h2.symm, h3.symm⟩)
   obtain rfl := HBG.o.1
   have HLE : Hd (aU (ux - bq) <= 0) := aH (by rw [HBG.o.2.2]; exact sgn_le hall.2.2.1)
   obtain rfl : np = p := by rw [<- HNP.o, HBG.o.2.1, g2, HP.o]
   have HFST : Hd (ux = bq -> 0 <= firstN l bp np) := aH (by
    rw [HBG.o.2.2, HBG.o.2.1]
    intro h
    have := g3 h
    rwa [HP.o] at this)
   obtain ⟨s2, hs2⟩ : ∃ z, aU (ux - bq) = z := ⟨_, rfl⟩
   have HS2 := aH hs2
   have hs2le : s2 <= 0 := by rw [<- hs2]; exact HLE.o
   have d1 : decide (0 < s2) = false := dF (by omega)
   have TM := aH (M11.o.frac (k := 20000) QM.o (by omega))
   have c1 : ((np : Int) != (np : Int)) = false := by simp
   obtain ⟨x0, x1, x2, _, _, _⟩ := X11.o.three
   obtain ⟨z0, z1, z2, _, _, _⟩ := N11.o.three
   clear hs2 hall g1 g2 g3 hz
   go_wp2_with fail
   refine (vW w11 _ _ ux bq 20000 TU2.o TM.o (by omega) (by omega)).mono ?_
   rintro e w12 ⟨rfl, hb⟩
   rw [HS2.o]
   clear x0 x1 x2 z0 z1 z2
   have B12 := aH (B11.o.trans (hb.mono B11.o.size))
   have X12 := aH (X11.o.below' hb)
   have K12 := aH (K11.o.below hb)
   have N12 := aH (N11.o.below' hb)
   clear B11 X11 K11 N11
   have TU3 := aH (TU2.o.below hb)
   have TM3 := aH (TM.o.below hb)
   clear hb TU2 TM M11
   have HPM : Hd (∀ x ∈ bp, 0 <= x /\ x < (n : Int)) := aH (fun x hx => by
    rw [HBG.o.2.1] at hx
    have := path_mem rs sx Ln (sx.length + 1) x hx
    rwa [HN.o] at this)
   go_wp2_with fail
   go_loopg [15, 16] np (fun g s15 s16 wz => ∃ (j : Nat), s15 = .int .i64 (firstN l bp j) /\ s16 = .int .i64 j /\ j + g = np /\ Hd (Below w12.heap.size w12 wz))
   case atStart => exact ⟨0, rfl, rfl, by omega, aH (Below.refl _ _)⟩
   obtain ⟨w13, rfl⟩ : ∃ x, x = wr := ⟨_, rfl⟩
   obtain ⟨j, rfl, rfl, hj, BW⟩ := hrel
   obtain ⟨f, hf⟩ : ∃ z, firstN l bp j = z := ⟨_, rfl⟩
   have HFJ := aH hf
   rw [hf]
   clear hf
   by_cases hcont : j < np /\ f = 0
   ·obtain ⟨hjn, rfl⟩ := hcont
    obtain ⟨g, rfl⟩ : ∃ g, gk = g + 1 := ⟨gk - 1, by omega⟩
    obtain ⟨x, hx⟩ : ∃ x, l[j]? = some x := ⟨_, eG (by rw [HP.o]; exact hjn)⟩
    obtain ⟨y, hy⟩ : ∃ y, bp[j]? = some y := ⟨_, eG (by rw [HNP.o]; exact hjn)⟩
    obtain ⟨bl, ol, rfl, hbl, e0⟩ := HLT.o j x hx
    obtain ⟨Ap', cp', e9, _, _, hkt⟩ := (K12.o.below BW.o).open_
    rw [HNP.o] at e9
    injection e9 with e9 _ e11
    subst e9
    subst e11
    obtain ⟨bk, ok, rfl, hbk, e1⟩ := hkt j y hy
    have c6 := ((B12.o.trans (BW.o.mono B12.o.size)).cell (p := ⟨bl, ol + j, none⟩) hbl).trans e0
    have hxr : 0 <= x /\ x < (n : Int) := by
     have := der_range HDQ.o (j := j) (by rw [HP.o]; exact hjn)
     rw [gD, hx, HN.o] at this
     exact this
    have hyr := HPM.o y (mG hy)
    have j9 : IntKind.i64.wrap ((j : Int) + 1) = (j : Int) + 1 := iI _ (by omega)
    have j8 : IntKind.i64.wrap (x - y) = x - y := iI _ (by omega)
    have i1 : (0 : Int) <= (j : Int) := by omega
    have i2 : (j : Int) < (np : Int) := by omega
    have HF1 : Hd (x - y = firstN l bp (j + 1)) := aH (by
     show _ = (if firstN l bp j = 0 then l.getD j 0 - bp.getD j 0 else firstN l bp j)
     rw [if_pos HFJ.o, gD, hx, gD, hy]
     rfl)
    clear hx hy hkt e0
    go_wp2_with fail
    go_quiet (fail)
    go_wp2_with fail
    go_roundg g
    case measure => omega
    case rel => exact ⟨j + 1, by rw [HF1.o], by simp, by omega, aH (ak BW.o nq)⟩
   have HF2 : Hd (firstN l bp np = f) := aH (by
    by_cases h0 : f = 0
    ·obtain rfl : j = np := by omega
     exact HFJ.o
    have := firstN_stay (l := l) (p := bp) (j := j) (by rw [HFJ.o]; exact h0) (np - j)
    rw [show j + (np - j) = np by omega, HFJ.o] at this
    exact this)
   obtain ⟨t1, ht1⟩ : ∃ b, decide ((j : Int) < (np : Int)) = b := ⟨_, rfl⟩
   have ht1' : decide (j < np) = t1 := by rw [<- ht1]; exact decide_eq_decide.2 (by omega)
   obtain ⟨t2, ht2⟩ : ∃ b, (f == 0) = b := ⟨_, rfl⟩
   have HTT : Hd ((t1 && t2) = false) := aH (by
    rw [<- ht1, <- ht2, Bool.and_eq_false_iff, decide_eq_false_iff_not, beq_eq_false_iff_ne]
    by_cases h : (j : Int) < (np : Int)
    ·exact .inr (fun h0 => hcont ⟨by omega, h0⟩)
    exact .inl h)
   have B13 := aH (B12.o.trans (BW.o.mono B12.o.size))
   have X13 := aH (X12.o.below' BW.o)
   have N13 := aH (N12.o.below' BW.o)
   have TU4 := aH (TU3.o.below BW.o)
   have TM4 := aH (TM3.o.below BW.o)
   obtain ⟨x0, x1, x2, _, _, _⟩ := X13.o.three
   obtain ⟨z0, z1, z2, _, _, _⟩ := N13.o.three
   clear hcont
   go_upto_region 19 with fail
   go_cut [124] (fun t wc => t = .bool false /\ wc = w13)
   case first =>
    have HT3 := HTT.o
    clear HTT
    cases t1 <;> cases t2 <;> (first | (exact absurd HT3 (by decide)) | (go_wp2_with fail; go_meet; exact ⟨rfl, rfl⟩))
   case rest =>
   obtain ⟨rfl, hwc⟩ := hcut
   rw [hwc]
   clear hwc wc ht1 ht1' ht2
   go_wp2_with fail
   refine (vW w13 _ _ ux bq 20000 TU4.o TM4.o (by omega) (by omega)).mono ?_
   rintro e w14 ⟨rfl, hb⟩
   rw [HS2.o]
   have B14 := aH (B13.o.trans (hb.mono B13.o.size))
   clear hb x0 x1 x2 z0 z1 z2
   by_cases hneg : s2 < 0
   ·have d2 : decide (s2 < 0) = true := dT hneg
    go_wp2_with fail
    refine (HK.o _).mono ?_
    rintro e wK ⟨rfl, hbK⟩
    have BK := aH (B14.o.trans (hbK.mono B14.o.size))
    clear hbK
    go_wp2_with fail
    go_ret
    exact ⟨rfl, BK.o⟩
   have d2 : decide (s2 < 0) = false := dF hneg
   have hf0 : 0 <= f := by
    rw [<- HF2.o]
    refine HFST.o ?_
    have h0 : aU (ux - bq) = 0 := by rw [HS2.o]; omega
    have := (pQ _).1 h0
    grind
   have d3 : decide (0 <= f) = true := dT hf0
   go_wp2_with fail
   refine (HK.o _).mono ?_
   rintro e wK ⟨rfl, hbK⟩
   have BK := aH (B14.o.trans (hbK.mono B14.o.size))
   clear hbK
   go_wp2_with fail
   go_ret
   exact ⟨rfl, BK.o⟩
 have n3 : (ce != 0) = true := by simpa using hc
 obtain ⟨_, h1⟩ := HDB.o (by rw [HCE.o]; exact hc)
 injection h1 with h1 h2
 subst h1
 subst h2
 obtain rfl : ns = 0 := by rw [<- HNS.o]; rfl
 have n4 : (E == ce) = true := by rw [HEC.o (by rw [HCE.o]; exact hc)]; simp
 obtain ⟨x0, x1, x2, _, _, _⟩ := X4.o.three
 have TQ := aH (U4.o.frac (cB 64 (by omega)) (by omega))
 go_wp2_with fail
 refine (ez w4 _ 0 64 TQ.o (by omega)).mono ?_
 rintro e wS ⟨rfl, hbS⟩
 rw [show aU 0 = 0 from rfl]
 have BS := aH (B4.o.trans (hbS.mono B4.o.size))
 clear hbS x0 x1 x2 TQ
 go_wp2_with fail
 refine (HK.o _).mono ?_
 rintro e wK ⟨rfl, hbK⟩
 have BK := aH (BS.o.trans (hbK.mono BS.o.size))
 clear hbK
 go_wp2_with fail
 go_ret
 exact ⟨rfl, BK.o⟩
end Go.Proofs.YtjebfdfkjlkifaaGreat
