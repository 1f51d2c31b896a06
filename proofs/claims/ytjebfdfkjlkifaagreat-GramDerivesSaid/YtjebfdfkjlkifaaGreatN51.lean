/- Lemmas. -/
import Derived.Test.YtjebfdfkjlkifaaGreatN50
set_option linter.all false
set_option maxRecDepth 1000000
set_option maxHeartbeats 32000000
namespace Go.Proofs.YtjebfdfkjlkifaaGreat
open Go.RowKit
def derE (L V : Int) (rs : List bP) (l : List Int) : Int := if aR L V rs = 0 then (match deriveQ rs l with | some _ => 0 | none => 2) else aR L V rs
def derA (L V : Int) (rs : List bP) (l : List Int) : List Int × Rat := if aR L V rs = 0 then (match deriveQ rs l with | some a => (a.1, a.2.1) | none => ([], 0)) else ([], 0)
theorem der_bad {rs : List bP} {l : List Int} {j : Nat} (hj : j <= l.length) (h : derN rs l j = none) : deriveQ rs l = none := by
 unfold deriveQ
 split
 ·rfl
 exact derN_none h _ hj
theorem der_out {rs : List bP} {l : List Int} {n : Nat} (hn : rs.length = n) (h : inR 0 ((n : Int) - 1) l = false) : deriveQ rs l = none := by
 have h1 : ¬ ∀ x ∈ l, 0 <= x /\ x <= (n : Int) - 1 := fun h2 => by
  rw [inR_iff.2 h2] at h
  cases h
 have h2 : ∃ j, j < l.length /\ ¬ (0 <= l.getD j 0 /\ l.getD j 0 < rs.length) := by
  refine Classical.byContradiction fun h3 => h1 fun x hx => ?_
  obtain ⟨j, hj⟩ := List.mem_iff_getElem?.1 hx
  have hjl := (sI.1 hj).1
  refine Classical.byContradiction fun h4 => h3 ⟨j, hjl, fun h5 => h4 ?_⟩
  rw [gD, hj, Option.getD_some] at h5
  omega
 obtain ⟨j, hj, h3⟩ := h2
 refine der_bad (j := j + 1) hj ?_
 cases h4 : derN rs l (j + 1) with
 | none => rfl
 | some b =>
  obtain ⟨_, _, _, _, h5, h6, _⟩ := derN_step h4
  exact absurd ⟨h5, h6⟩ h3
theorem der_qb {rs : List bP} {l : List Int} (hq : ∀ r ∈ rs, QB 64 r.q) : ∀ {j : Nat} {a : List Int × Rat × Int}, derN rs l j = some a -> QB (1 + j * 64) a.2.1 := by
 intro j
 induction j with
 | zero =>
  intro a h
  cases h
  exact bv (n := 1) (by decide) (by omega)
 | succ j ih =>
  intro b h
  obtain ⟨a, r, h1, _, _, _, hm, _, _, rfl⟩ := derN_step h
  exact ((ih h1).mul (hq r hm)).mono (by omega)
theorem derN_get {rs : List bP} {l : List Int} {j i : Nat} {r : bP} {a : List Int × Rat × Int} (h : derN rs l j = some a) (hx : l[j]? = some (i : Int)) (hr : rs[i]? = some r) :
  derN rs l (j + 1) = if r.f = a.2.2 /\ (r.w = 0 ↔ j + 1 = l.length) then some (if 0 < r.w then a.1 ++ [r.w] else a.1, a.2.1 * r.q, r.t) else none := by
 show (match derN rs l j with
  | none => none
  | some a => if (0 <= l.getD j 0 /\ l.getD j 0 < rs.length) /\ (ruleN rs (l.getD j 0)).f = a.2.2 /\ ((ruleN rs (l.getD j 0)).w = 0 ↔ j + 1 = l.length) then
    some (if 0 < (ruleN rs (l.getD j 0)).w then a.1 ++ [(ruleN rs (l.getD j 0)).w] else a.1, a.2.1 * (ruleN rs (l.getD j 0)).q, (ruleN rs (l.getD j 0)).t) else none) = _
 have e : l.getD j 0 = (i : Int) := by rw [gD, hx]; rfl
 have hi := (sI.1 hr).1
 have e2 : ruleN rs (i : Int) = r := by
  unfold ruleN
  rw [Int.toNat_natCast, gD, hr]
  rfl
 rw [h]
 simp only
 rw [e, e2]
 have e3 : ((0 : Int) <= (i : Int) /\ (i : Int) < rs.length) := by omega
 simp only [e3, true_and, and_self]
theorem six_at {w : World} {g : Nat} {e : TypeId} {a b c d x y : Value} (h : Blk w g e [a, b, c, d, x, y]) : w.cell? ⟨g, 0, none⟩ = some a /\ w.cell? ⟨g, 1, none⟩ = some b /\ w.cell? ⟨g, 2, none⟩ = some c /\ w.cell? ⟨g, 3, none⟩ = some d /\ w.cell? ⟨g, 4, none⟩ = some x /\ w.cell? ⟨g, 5, none⟩ = some y :=
 ⟨h.cell 0, h.cell 1, h.cell 2, h.cell 3, h.cell 4, h.cell 5⟩
theorem own_same {w w' : World} {base : Nat} {e : TypeId} {sz : Nat} {v : Value} {n : Nat} {xs : List Value} (h : w.ownsRow base e sz v n xs) (hs : Same base w w') : w'.ownsRow base e sz v n xs := by
 obtain ⟨h0, h1 | ⟨g, cap, cur, hv, hg, hh, hr⟩⟩ := h
 ·exact ⟨h0, .inl h1⟩
 exact ⟨h0, .inr ⟨g, cap, cur, hv, hg, (hs.2 g hg (Array.getElem?_eq_some_iff.1 hh).1).trans hh, hr⟩⟩
theorem IntsAt.same {F : Nat} {w w' : World} {v : Value} {l : List Int} (h : IntsAt w v l) (hf : From v F) (hs : Same F w w') : IntsAt w' v l := Sl.same h hf hs

theorem deriveG (w : World) (L V : Int) (v lv : Value) (rs : List bP) (l : List Int) (h : RulesAt 64 w v rs) (hl : IntsAt w lv l) (hf : l.length <= 10) :
  Calls Tryz.prog 50 #[.agg #[.int .i64 L, .int .i64 V, v], lv] w fun e w' => ∃ sv u, e = .returned (.tuple #[sv, u, .int .i64 (derE L V rs l)]) /\ IntsAt w' sv (derA L V rs l).1 /\ From sv w.heap.size /\ CanAt w' u (derA L V rs l).2 /\ Below w.heap.size w w' := by
 have hqb := h.qb (by omega)
 obtain ⟨A, c, rfl, hrc, hrm, hat⟩ := h.open_
 obtain ⟨LA, lc, rfl, hlc, hlm, hlt⟩ := hl.open_
 have HR := aH h
 have HI := aH hl
 have HAT := aH hat
 have HLT := aH hlt
 have HQB := aH hqb
 obtain ⟨n, hn⟩ : ∃ n, rs.length = n := ⟨_, rfl⟩
 obtain ⟨p, hp⟩ : ∃ p, l.length = p := ⟨_, rfl⟩
 have HN := aH hn
 have HP := aH hp
 rw [hn] at hrc HR ⊢
 rw [hp] at hlc hf HI ⊢
 obtain ⟨ev, hev⟩ : ∃ z, aR L V rs = z := ⟨_, rfl⟩
 obtain ⟨E, hE⟩ : ∃ z, derE L V rs l = z := ⟨_, rfl⟩
 obtain ⟨AS, hS⟩ : ∃ z, derA L V rs l = z := ⟨_, rfl⟩
 rw [hE, hS]
 have HEV := aH hev
 have HE := aH hE
 have HS := aH hS
 clear h hl hat hlt hn hp hev hE hS hqb
 by_cases hz : ev = 0
 ·subst hz
  have hck := lA HEV.o
  have HCK := aH hck
  obtain ⟨Ln, rfl⟩ : ∃ Ln : Nat, L = Ln := ⟨L.toNat, by omega⟩
  have hL1 : 1 <= Ln := by omega
  have hn5 : n <= 500 := by have := HN.o; omega
  have HRO : Hd (RulesOk Ln rs) := aH (fun r hr => by
   have := hck.2.2.2.2.2.1 r hr
   exact ⟨this.1, this.2.1, this.2.2.1, this.2.2.2.1, this.2.2.2.2.1, this.2.2.2.2.2.2.2⟩)
  have HBAD : Hd (deriveQ rs l = none -> E = 2 /\ AS = ([], 0)) := aH (fun h => by
   rw [<- HE.o, <- HS.o]
   unfold derE derA
   rw [if_pos HEV.o, if_pos HEV.o, h]
   exact ⟨rfl, rfl⟩)
  have HGOOD : Hd (∀ a, deriveQ rs l = some a -> E = 0 /\ AS = (a.1, a.2.1)) := aH (fun a h => by
   rw [<- HE.o, <- HS.o]
   unfold derE derA
   rw [if_pos HEV.o, if_pos HEV.o, h]
   exact ⟨rfl, rfl⟩)
  clear hck
  go_enter Tryz.func50, Tryz.ntmps50
  go_wp2_with fail
  obtain ⟨W, hW, P0, P1, PB, Phs⟩ := cP w 73 [.int .i64 (Ln : Int), .int .i64 V, .slice A n c] 40 [.bool false, .slice none 0 0, .slice none 0 0]
  rw [<- hW]
  clear hW
  obtain ⟨p0, p1, p2, _, _, _⟩ := P0.o.three
  go_wp2_with fail
  refine (kw W Ln V _ rs 64 (HR.o.below PB.o) (by omega) (by omega)).mono ?_
  rintro e w1 ⟨rfl, hb1⟩
  rw [HEV.o]
  have P1' := aH (P0.o.below' hb1)
  have R1 := aH (P1.o.below' hb1)
  have B1 := aH (PB.o.trans (hb1.mono PB.o.size))
  clear hb1 p0 p1 p2 P0 P1 PB
  obtain ⟨p0, p1, p2, _, _, _⟩ := P1'.o.three
  rcases zP p with hp0 | hp0
  ·have d0 : ((p : Int) == 0) = true := by simpa using hp0
   have HB := aH (HBAD.o (by unfold deriveQ; rw [if_pos (by rw [HP.o]; exact hp0)]))
   obtain ⟨rfl, rfl⟩ := HB.o
   obtain ⟨r0, r1, r2, z0, z1, z2⟩ := R1.o.three
   clear hp0
   go_wp2_with fail
   refine bodyPost_ret (v := .tuple #[.slice none 0 0, .agg #[.bool false, .slice none 0 0, .slice none 0 0], .int .i64 2]) (by simp [results, Tryz.results50, go_sem, r0, r1, r2, List.mapM_cons]) rfl ⟨_, _, rfl, IntsAt.nil_ _, From.nil_ _, uX _, af B1.o (by omega) _ _ _⟩
  have d0 : ((p : Int) == 0) = false := by simp; omega
  have d1 : IntKind.i64.wrap ((n : Int) - 1) = (n : Int) - 1 := iI _ (by omega)
  obtain ⟨kb, hkb⟩ : ∃ b, inR 0 ((n : Int) - 1) l = b := ⟨_, rfl⟩
  have HKB := aH hkb
  clear hkb
  go_wp2_with fail
  refine (gU w1 _ l 0 ((n : Int) - 1) (by have := HI.o.below B1.o; exact this)).mono ?_
  rintro e w2 ⟨rfl, hb2⟩
  rw [HKB.o]
  have P2' := aH (P1'.o.below' hb2)
  have R2 := aH (R1.o.below' hb2)
  have B2 := aH (B1.o.trans (hb2.mono B1.o.size))
  clear hb2 p0 p1 p2 P1' R1 B1
  cases kb with
  | false =>
   have HB := aH (HBAD.o (der_out HN.o HKB.o))
   obtain ⟨rfl, rfl⟩ := HB.o
   obtain ⟨r0, r1, r2, z0, z1, z2⟩ := R2.o.three
   go_wp2_with fail
   refine bodyPost_ret (v := .tuple #[.slice none 0 0, .agg #[.bool false, .slice none 0 0, .slice none 0 0], .int .i64 2]) (by simp [results, Tryz.results50, go_sem, r0, r1, r2, List.mapM_cons]) rfl ⟨_, _, rfl, IntsAt.nil_ _, From.nil_ _, uX _, af B2.o (by omega) _ _ _⟩
  | true =>
   obtain ⟨q1, hq1⟩ : ∃ q : Rat, ((1 : Nat) : Rat) = q := ⟨_, rfl⟩
   have HQ1 : Hd (q1 = 1) := aH (by rw [<- hq1]; rfl)
   have OF : Hd (Calls Tryz.prog 110 #[.int .i64 1] w2 fun e w' => ∃ v', e = .returned v' /\ CanNew w2.heap.size w' v' q1 /\ Below w2.heap.size w2 w') := aH (by
    have := ofN w2 1 (by omega)
    rw [hq1] at this
    exact this)
   clear hq1
   go_wp2_with fail
   refine OF.o.mono ?_
   rintro e w3 ⟨u3, rfl, t3, hb3⟩
   obtain ⟨A3, m3, c3, A3', m3', c3', rfl⟩ := t3.at_.open_
   have T3 := aH t3.at_
   have P3' := aH (P2'.o.below' hb3)
   have R3 := aH (R2.o.below' hb3)
   have B3 := aH (B2.o.trans (hb3.mono B2.o.size))
   clear t3 hb3 P2' R2 B2 OF
   go_wp2_with fail
   obtain ⟨W4, hW4, X0, XB, Xhs⟩ := aA w3 40 [.bool (ae q1), .slice A3 m3 c3, .slice A3' m3' c3']
   rw [<- hW4]
   clear hW4
   have P4 := aH (P3'.o.below' XB.o)
   have R4 := aH (R3.o.below' XB.o)
   have B4 := aH (B3.o.trans (XB.o.mono B3.o.size))
   have BX4 : Hd (BoxA W4 w3.heap.size q1 (.slice none 0 0)) := aH ⟨_, _, _, _, _, _, X0.o, T3.o.below XB.o, fun r hr => by simp [Value.ownBlock] at hr⟩
   have sw3 : w.heap.size + 1 < w3.heap.size := R3.o.lt
   have sx4 : w3.heap.size < W4.heap.size := X0.o.lt
   obtain ⟨bw, hbw⟩ : ∃ b, w3.heap.size = b := ⟨_, rfl⟩
   obtain ⟨B0, hB0⟩ : ∃ b, W4.heap.size = b := ⟨_, rfl⟩
   rw [hbw] at BX4 sw3 sx4 ⊢
   rw [hB0] at sx4
   have s4 : B0 <= W4.heap.size := by omega
   clear hbw P3' R3 B3 X0 XB Xhs T3
   go_loopg [36, 8, 10, 11, 12, 13] p (fun gh i s8 a10 _ _ _ wz => ∃ (j m : Nat) (A9 : Option Addr) (c9 : Nat) (sl : List Int) (q : Rat) (z : Int), i = .int .i64 j /\ s8 = .slice A9 m c9 /\ a10 = .int .i64 z /\ j + gh = p /\ m <= j /\ Hd (sl.length = m) /\ Hd (derN rs l j = some (sl, q, z)) /\ Hd (wz.ownsRow B0 3 1 (.slice A9 m c9) m (sl.map (Value.int .i64))) /\ Hd (BoxA wz bw q (.slice A9 m c9)) /\
    Hd (Blk wz w.heap.size 73 [.int .i64 (Ln : Int), .int .i64 V, .slice A n c]) /\ Hd (Blk wz (w.heap.size + 1) 40 [.bool false, .slice none 0 0, .slice none 0 0]) /\ Hd (Below w.heap.size w wz) /\ B0 <= wz.heap.size)
   case atStart => exact ⟨0, 0, none, 0, [], q1, 0, rfl, rfl, rfl, by omega, by omega, aH rfl, aH (by rw [HQ1.o]; rfl), aH (World.ownsRow_nil ..), BX4, P4, R4, B4, s4⟩
   clear P4 R4 B4 BX4 s4 hB0 HQ1
   obtain ⟨w5, rfl⟩ : ∃ x, x = wr := ⟨_, rfl⟩
   obtain ⟨j, m, A9, c9, sl, q, z, rfl, rfl, rfl, hj, hm, HSL, HD, OW, BX, P5, R5, B5, s5⟩ := hrel
   rcases zP gk with h | h
   ·subst h
    obtain rfl : j = p := by omega
    have HB := aH (HGOOD.o (sl, q, z) (by unfold deriveQ; rw [if_neg (by rw [HP.o]; omega), HP.o]; exact HD.o))
    obtain ⟨rfl, rfl⟩ := HB.o
    obtain ⟨Ar, mr, cr, Ar', mr', cr', x0, x1, x2, _, _, _, tr⟩ := BX.o.box.get
    obtain ⟨r0, r1, r2, z0, z1, z2⟩ := R5.o.three
    have RN := aH (FArc.keeps (BoxC.of (q := 0) R5.o (uX w5)) tr 0 1 2 (ae q) Ar Ar' mr cr mr' cr')
    have II : Hd (IntsAt w5 (.slice A9 m c9) sl) := aH (by
     unfold IntsAt
     rw [HSL.o]
     exact Sl.of_own OW.o)
    have FO := aH (From.of_own OW.o)
    have sb : w.heap.size + 1 < B0 := by omega
    clear tr
    go_wp2_with fail
    go_region
    all_goals
     go_wp2_with fail
     refine bodyPost_ret (v := .tuple #[.slice A9 m c9, .agg #[.bool (ae q), .slice Ar mr cr, .slice Ar' mr' cr'], .int .i64 0]) (by simp [results, Tryz.results50, go_sem, r0, r1, r2, List.mapM_cons]) rfl ⟨_, _, rfl, II.o.same FO.o (Same.set3 _ sb 0 1 2 _ _ _), FO.o.mono (by omega), RN.o, by first | exact af B5.o (Nat.le_succ _) _ _ _ | exact (af B5.o (Nat.le_succ _) _ _ _).drew⟩
   obtain ⟨g, rfl⟩ : ∃ g, gk = g + 1 := ⟨gk - 1, by omega⟩
   obtain ⟨x, hx⟩ : ∃ x, l[j]? = some x := ⟨_, eG (by rw [HP.o]; omega)⟩
   have hxr := inR_iff.1 HKB.o x (mG hx)
   obtain ⟨i, rfl⟩ : ∃ i : Nat, x = i := ⟨x.toNat, by omega⟩
   obtain ⟨r, hr⟩ : ∃ r, rs[i]? = some r := ⟨_, eG (by rw [HN.o]; omega)⟩
   obtain ⟨bl, ol, rfl, hbl, f0⟩ := HLT.o j _ hx
   obtain ⟨ba, oa, s, An, nn, cn, Ad, nd, cd, rfl, hba, e0, e1, e2, e3, e4, e5, hfr⟩ := HAT.o i r hr
   have c6 := (B5.o.cell (p := ⟨bl, ol + j, none⟩) hbl).trans f0
   have c0 := (B5.o.cell (p := ⟨ba, oa + i * 6, none⟩) hba).trans e0
   have c1 := (B5.o.cell (p := ⟨ba, oa + i * 6 + 1, none⟩) hba).trans e1
   have c2 := (B5.o.cell (p := ⟨ba, oa + i * 6 + 2, none⟩) hba).trans e2
   have c3 := (B5.o.cell (p := ⟨ba, oa + i * 6 + 3, none⟩) hba).trans e3
   have c4 := (B5.o.cell (p := ⟨ba, oa + i * 6 + 4, none⟩) hba).trans e4
   have c5 := (B5.o.cell (p := ⟨ba, oa + i * 6 + 5, none⟩) hba).trans e5
   have FR := aH hfr
   have HL5 : Hd (∀ q, (Value.slice A9 m c9).ownBlock = some q -> q < w5.heap.size) := aH (fun q e => own_lt OW.o e)
   have sx5 : bw < w5.heap.size := BX.o.box.lt
   have HSTEP := aH (derN_get HD.o hx hr)
   have HRK := aH (HRO.o r (mG hr))
   have HQR := aH (HQB.o r (mG hr))
   have HQD := aH (der_qb HQB.o HD.o)
   have i1 : (0 : Int) <= (i : Int) := by omega
   have i2 : (i : Int) < (n : Int) := by omega
   have i3 : (0 : Int) <= (j : Int) := by omega
   have i4 : (j : Int) < (p : Int) := by omega
   have j9 : IntKind.i64.wrap ((j : Int) + 1) = (j : Int) + 1 := iI _ (by omega)
   have j8 : IntKind.i64.wrap ((p : Int) - 1) = (p : Int) - 1 := iI _ (by omega)
   obtain ⟨p0, p1, p2, _, _, _⟩ := P5.o.three
   have sP : w.heap.size + 1 < w5.heap.size := R5.o.lt
   obtain ⟨rf, rw_, rt, rq⟩ := r
   simp only at c0 c1 c2 FR HSTEP HRK HQR
   have hrw0 : 0 <= rw_ := HRK.o.2.2.2.2.1
   clear hx hxr hr e0 e1 e2 e3 e4 e5 f0 hfr
   go_upto_region 13 with fail
   obtain ⟨W6, hW6, G0, GB, Ghs⟩ := aA w5 111 [.int .i64 rf, .int .i64 rw_, .int .i64 rt, .bool s, .slice An nn cn, .slice Ad nd cd]
   rw [<- hW6]
   clear hW6
   have P6 := aH (P5.o.below' GB.o)
   have R6 := aH (R5.o.below' GB.o)
   have B6 := aH (B5.o.trans (GB.o.mono B5.o.size))
   have OW6 := aH (bK OW.o GB.o)
   have BX6 := aH (BX.o.below GB.o)
   have s6 : B0 <= W6.heap.size := Nat.le_trans s5 GB.o.size
   clear p0 p1 p2 c0 c1 c2 c3 c4 c5 c6 P5 R5 B5 OW BX
   obtain ⟨g0, g1, g2, g3, g4, g5⟩ := six_at G0.o
   by_cases hff : rf = z
   ·subst hff
    have b1 : (rf != rf) = false := by simp
    by_cases hw0 : (rw_ = 0 ↔ j + 1 = p)
    ·have HD6 : Hd (derN rs l (j + 1) = some (if 0 < rw_ then sl ++ [rw_] else sl, q * rq, rt)) := aH (by rw [HSTEP.o, if_pos ⟨rfl, by rw [HP.o]; exact hw0⟩])
     obtain ⟨tb, b2, b3⟩ : ∃ tb, (rw_ == 0) = tb /\ ((j : Int) == (p : Int) - 1) = tb := ⟨_, rfl, by
      rw [Bool.eq_iff_iff, beq_iff_eq, beq_iff_eq]
      omega⟩
     have b5 : (tb != tb) = false := by simp
     clear hw0 HSTEP
     obtain ⟨tp, b4⟩ : ∃ t, decide (0 < rw_) = t := ⟨_, rfl⟩
     have HTP := aH b4
     go_upto_if 64 with fail
     clear b4
     go_cut [8] (fun s8 w7 => ∃ A7 m7 c7 sl7, s8 = .slice A7 m7 c7 /\ m7 <= j + 1 /\ Hd (sl7.length = m7) /\ Hd (derN rs l (j + 1) = some (sl7, q * rq, rt)) /\ Hd (w7.ownsRow B0 3 1 (.slice A7 m7 c7) m7 (sl7.map (Value.int .i64))) /\ Hd (BoxA w7 bw q (.slice A7 m7 c7)) /\ Hd (Blk w7 w.heap.size 73 [.int .i64 (Ln : Int), .int .i64 V, .slice (some ⟨ba, oa, none⟩) n c]) /\ Hd (Blk w7 (w.heap.size + 1) 40 [.bool false, .slice none 0 0, .slice none 0 0]) /\ Hd (Blk w7 w5.heap.size 111 [.int .i64 rf, .int .i64 rw_, .int .i64 rt, .bool s, .slice An nn cn, .slice Ad nd cd]) /\ Hd (Below w.heap.size w w7) /\ B0 <= w7.heap.size)
     case first =>
      cases tp with
      | true =>
       have hw := of_decide_eq_true HTP.o
       have HD7 : Hd (derN rs l (j + 1) = some (sl ++ [rw_], q * rq, rt)) := aH (by rw [HD6.o, if_pos hw])
       obtain ⟨xs, hxs⟩ : ∃ xs, sl.map (Value.int .i64) = xs := ⟨_, rfl⟩
       have HTK : Hd ((sl ++ [rw_]).map (Value.int .i64) = xs ++ [.int .i64 rw_]) := aH (by rw [List.map_append, hxs]; rfl)
       rw [hxs] at OW6
       obtain ⟨i0, gi, gz0, gz1, gz2⟩ := info_parts eD
       have HSL7 : Hd ((sl ++ [rw_]).length = m + 1) := aH (by rw [List.length_append, HSL.o]; rfl)
       clear hw hxs HD6 b2 b3 b5
       go_wp2_with (at_builtin; refine al rfl (.tmp 65) (.tmp 68) 44 rfl B0 3 i0 (.int .i64 0) 1 8 Tryz.underlying44 gi gz0 gz1 gz2 rfl (by decide) _ _ _ rfl (bK OW6.o (Below.alloc (Below.refl _ _) (nR _) _)) _ 1 [.int .i64 rw_] rfl (Sl.one _ _ _) (by simp [Value.oneCell']) (by unfold maxLen; omega) (by omega) (by simp; omega) ?_)
       intro v3 w7 t1 t2 t3
       obtain ⟨gb, cap, rfl⟩ := g9 t1 (by omega)
       have hnk : ∀ q, (Value.slice A9 m c9).ownBlock = some q -> B0 <= q := ao (From.of_own OW6.o)
       have OW7 : Hd (w7.ownsRow B0 3 1 (.slice (some ⟨gb, 0, none⟩) (m + 1) cap) (m + 1) ((sl ++ [rw_]).map (Value.int .i64))) := aH (by rw [HTK.o]; exact t1)
       have P7 := aH ((P6.o.alloc (.cells #[.int .i64 rw_] 3)).grown t2 (fun e => by have := hnk _ e.symm; omega))
       have R7 := aH ((R6.o.alloc (.cells #[.int .i64 rw_] 3)).grown t2 (fun e => by have := hnk _ e.symm; omega))
       have G7 := aH ((G0.o.alloc (.cells #[.int .i64 rw_] 3)).grown t2 (fun e => by have := HL5.o _ e.symm; omega))
       have B7 := aH ((B6.o.alloc B6.o.size (.cells #[.int .i64 rw_] 3)).grown t2 (by have := B6.o.size; simp; omega) (fun q e => by have := hnk _ e; omega))
       have BX7 : Hd (BoxA w7 bw q (.slice (some ⟨gb, 0, none⟩) (m + 1) cap)) := aH ((BX6.o.below (bA _ (.cells #[.int .i64 rw_] 3))).push t2 (t3.elim Or.inl (fun e => Or.inr (by rw [e]; simp))))
       have s7 : B0 <= w7.heap.size := by have := t2.size; simp at this; omega
       clear t1 t2 t3 hnk
       go_wp2_with fail
       go_meet
       exact ⟨_, _, _, _, rfl, by omega, HSL7, HD7, OW7, BX7, P7, R7, G7, B7, s7⟩
      | false =>
       have hw := of_decide_eq_false HTP.o
       have HD7 : Hd (derN rs l (j + 1) = some (sl, q * rq, rt)) := aH (by rw [HD6.o, if_neg hw])
       clear hw HD6 b2 b3 b5
       go_wp2_with fail
       go_meet
       exact ⟨_, _, _, _, rfl, by omega, HSL, HD7, OW6, BX6, P6, R6, G0, B6, s6⟩
     clear OW6 BX6 P6 R6 G0 B6 s6 g0 g1 g2 g3 g4 g5 HD6 GB Ghs
     obtain ⟨w7, rfl⟩ : ∃ x, x = wc := ⟨_, rfl⟩
     obtain ⟨A7, m7, c7, sl7, rfl, hm7, HSL7, HD7, OW7, BX7, P7, R7, G7, B7, s7⟩ := hcut
     obtain ⟨Ar, mr, cr, Ar', mr', cr', x0, x1, x2, y0, y1, y2, tr⟩ := BX7.o.box.get
     have TR := aH (tr.frac (k := 1000) (HQD.o.mono (by omega)) (by omega))
     have TX := aH ((FR.o.below B7.o).mono (show 64 <= 1000 by omega))
     obtain ⟨g0, g1, g2, g3, g4, g5⟩ := six_at G7.o
     clear tr y0 y1 y2
     go_wp2_with fail
     refine (lP _ _ _ q rq 1000 TR.o TX.o (by omega) (by omega)).mono ?_
     rintro e w8 ⟨u, rfl, t8, hb8⟩
     obtain ⟨A8, m8, c8, A8', m8', c8', rfl⟩ := t8.at_.open_
     have T8 := aH t8
     have BX8 := aH (BX7.o.below hb8)
     have OW8 := aH (bK OW7.o hb8)
     have P8 := aH (P7.o.below' hb8)
     have R8 := aH (R7.o.below' hb8)
     have G8 := aH (G7.o.below' hb8)
     have B8 := aH (B7.o.trans (hb8.mono B7.o.size))
     have HV : Hd (∀ x, (Value.slice A7 m7 c7).ownBlock = some x -> x < w7.heap.size /\ bw ≠ x) := aH (fun x hx => ⟨own_lt OW7.o hx, by have := ao (From.of_own OW7.o) x hx; omega⟩)
     have s8 : B0 <= w8.heap.size := Nat.le_trans s7 hb8.size
     clear t8 hb8 x0 x1 x2 g0 g1 g2 g3 g4 g5 TR TX BX7 P7 R7 G7 B7
     obtain ⟨g0, g1, g2, g3, g4, g5⟩ := six_at G8.o
     obtain ⟨_, _, _, _, _, _, x0, x1, x2, y0, y1, y2, _⟩ := BX8.o.box.get
     have sG : w5.heap.size ≠ bw := by omega
     have sB : w.heap.size <= bw := by omega
     go_wp2_with fail
     go_roundg g
     case measure => omega
     case rel =>
      refine ⟨j + 1, m7, A7, c7, sl7, q * rq, rt, rfl, rfl, rfl, by omega, by omega, HSL7, HD7, aH ?_, aH (BoxA.put BX8.o.box T8.o HV.o), aH (P8.o.far3 (by omega) 0 1 2 _ _ _), aH (R8.o.far3 (by omega) 0 1 2 _ _ _), aH (aL B8.o sB 0 1 2 _ _ _), by simpa using s8⟩
      exact own_same OW8.o (Same.set3 w8 (show bw < B0 by omega) 0 1 2 _ _ _)
    have HB := aH (HBAD.o (der_bad (j := j + 1) (by rw [HP.o]; omega) (by rw [HSTEP.o, if_neg (fun h => hw0 (by have := h.2; rwa [HP.o] at this))])))
    obtain ⟨rfl, rfl⟩ := HB.o
    by_cases hw : rw_ = 0
    ·have b2 : (rw_ == 0) = true := by simpa using hw
     have b3 : ((j : Int) == (p : Int) - 1) = false := by simp; omega
     clear hw hw0
     obtain ⟨r0, r1, r2, z0, z1, z2⟩ := R6.o.three
     go_wp2_with fail
     refine bodyPost_ret (v := .tuple #[.slice none 0 0, .agg #[.bool false, .slice none 0 0, .slice none 0 0], .int .i64 2]) (by simp [results, Tryz.results50, go_sem, r0, r1, r2, List.mapM_cons]) rfl ⟨_, _, rfl, IntsAt.nil_ _, From.nil_ _, uX _, af B6.o (Nat.le_succ _) _ _ _⟩
    have b2 : (rw_ == 0) = false := by simpa using hw
    have b3 : ((j : Int) == (p : Int) - 1) = true := by simp; omega
    clear hw hw0
    obtain ⟨r0, r1, r2, z0, z1, z2⟩ := R6.o.three
    go_wp2_with fail
    refine bodyPost_ret (v := .tuple #[.slice none 0 0, .agg #[.bool false, .slice none 0 0, .slice none 0 0], .int .i64 2]) (by simp [results, Tryz.results50, go_sem, r0, r1, r2, List.mapM_cons]) rfl ⟨_, _, rfl, IntsAt.nil_ _, From.nil_ _, uX _, af B6.o (Nat.le_succ _) _ _ _⟩
   have b1 : (rf != z) = true := by simpa using hff
   have HB := aH (HBAD.o (der_bad (j := j + 1) (by rw [HP.o]; omega) (by rw [HSTEP.o, if_neg (fun h => hff h.1)])))
   obtain ⟨rfl, rfl⟩ := HB.o
   clear hff
   obtain ⟨r0, r1, r2, z0, z1, z2⟩ := R6.o.three
   go_wp2_with fail
   refine bodyPost_ret (v := .tuple #[.slice none 0 0, .agg #[.bool false, .slice none 0 0, .slice none 0 0], .int .i64 2]) (by simp [results, Tryz.results50, go_sem, r0, r1, r2, List.mapM_cons]) rfl ⟨_, _, rfl, IntsAt.nil_ _, From.nil_ _, uX _, af B6.o (Nat.le_succ _) _ _ _⟩
 have bz : (ev != 0) = true := by simpa using hz
 obtain rfl : E = ev := by rw [<- HE.o]; unfold derE; rw [if_neg (by rw [HEV.o]; exact hz), HEV.o]
 obtain rfl : AS = ([], 0) := by rw [<- HS.o]; unfold derA; rw [if_neg (by rw [HEV.o]; exact hz)]
 clear hz
 go_enter Tryz.func50, Tryz.ntmps50
 go_wp2_with fail
 obtain ⟨W, hW, P0, P1, PB, Phs⟩ := cP w 73 [.int .i64 L, .int .i64 V, .slice A n c] 40 [.bool false, .slice none 0 0, .slice none 0 0]
 rw [<- hW]
 clear hW
 obtain ⟨p0, p1, p2, _, _, _⟩ := P0.o.three
 go_wp2_with fail
 refine (kw W L V _ rs 64 (HR.o.below PB.o) (by omega) (by omega)).mono ?_
 rintro e w1 ⟨rfl, hb1⟩
 rw [HEV.o]
 have P11 := aH (P1.o.below' hb1)
 have B1 := aH (PB.o.trans (hb1.mono PB.o.size))
 clear hb1 p0 p1 p2
 obtain ⟨r0, r1, r2, z0, z1, z2⟩ := P11.o.three
 go_wp2_with fail
 refine bodyPost_ret (v := .tuple #[.slice none 0 0, .agg #[.bool false, .slice none 0 0, .slice none 0 0], .int .i64 E]) (by simp [results, Tryz.results50, go_sem, r0, r1, r2, List.mapM_cons]) rfl ⟨_, _, rfl, IntsAt.nil_ _, From.nil_ _, uX _, af B1.o (by omega) _ _ _⟩
def nextA (m : Nat) (l : List Int) : List (List Int) := (List.range m).map fun (n : Nat) => l ++ [(n : Int)]
theorem allL_succ (m k : Nat) : allL m (k + 1) = (allL m k).flatMap (nextA m) := rfl
theorem nextA_length (m : Nat) (l : List Int) : (nextA m l).length = m := by simp [nextA]
theorem nextA_take {m : Nat} {l : List (List Int)} {i : Nat} {s : List Int} (h : l[i]? = some s) : (l.take (i + 1)).flatMap (nextA m) = (l.take i).flatMap (nextA m) ++ nextA m s := by
 have e : l.take (i + 1) = l.take i ++ [s] := by
  rw [List.take_add_one, h]
  rfl
 rw [e, List.flatMap_append]
 simp
theorem nextA_step (m : Nat) (s : List Int) {q : Nat} (hq : q < m) : (nextA m s).take (q + 1) = (nextA m s).take q ++ [s ++ [(q : Int)]] := by
 have h : (nextA m s)[q]? = some (s ++ [(q : Int)]) := by
  unfold nextA
  rw [List.getElem?_map, List.getElem?_range hq]
  rfl
 rw [List.take_add_one, h]
 rfl
theorem flat_len (m : Nat) (l : List (List Int)) : (l.flatMap (nextA m)).length = l.length * m := by
 induction l with
 | nil => simp
 | cons x l ih => rw [List.flatMap_cons, List.length_append, ih, nextA_length, List.length_cons, Nat.succ_mul]; omega
theorem allL_len {m : Nat} (hm : m <= 6) (k : Nat) : (allL m k).length <= 6 ^ k := by
 induction k with
 | zero => exact nR _
 | succ k ih =>
  rw [allL_succ, flat_len, Nat.pow_succ]
  exact Nat.mul_le_mul ih hm
theorem allL_len4 {m : Nat} (hm : m <= 6) {k : Nat} (hk : k <= 4) : (allL m k).length <= 1296 :=
 Nat.le_trans (allL_len hm k) (Nat.pow_le_pow_right (n := 6) (by omega) hk)
theorem flat_bd {m : Nat} (hm : m <= 6) {k : Nat} (hk : k <= 4) (s : List Int) (i q : Nat) : (((allL m k).take i).flatMap (nextA m) ++ (nextA m s).take q).length <= 10000 := by
 rw [List.length_append, flat_len, List.length_take, List.length_take, nextA_length]
 have h1 := allL_len4 hm hk
 have h2 : min i (allL m k).length * m <= 1296 * 6 := Nat.mul_le_mul (by omega) hm
 omega
theorem says_ok {L V : Int} {rs : List bP} {sl : List Int} (hl : sl.length <= 8) (hc : aR L V rs = 0) (hr : inR 1 V sl = true) : eA L V rs sl = 0 /\ jn L V rs sl = sayW L.toNat rs sl := by
 have h1 : eA L V rs sl = 0 := by
  have := (lA hc).1
  unfold eA
  rw [if_neg (by omega), if_neg (by rw [hc]; decide), if_pos hr]
 refine ⟨h1, ?_⟩
 unfold jn
 rw [if_pos h1]
 rfl
theorem sayW_qb {Ln : Nat} {rs : List bP} {sl : List Int} (hq : ∀ r ∈ rs, QB 64 r.q) (hn : rs.length <= 20) (hs : sl.length <= 8) : QB 20000 (sayW Ln rs sl) := by
 have h := (uv (Ln := Ln) r8 hq hn (show sl.length <= 9 by omega) sl.length (nR _)).2.2
 unfold sayW
 rw [gD]
 cases hh : (eo (· + ·) Ln rs sl sl.length)[0]? with
 | none => exact cB 20000 (by omega)
 | some q => exact h q (mG hh)
theorem saysW (w : World) (Ln : Nat) (V : Int) (v sv : Value) (rs : List bP) (sl : List Int) (h : RulesAt 64 w v rs) (hs : IntsAt w sv sl) (hn : rs.length <= 20) (hl : sl.length <= 8) (hc : aR Ln V rs = 0) (hr : inR 1 V sl = true) :
  Calls Tryz.prog 49 #[.agg #[.int .i64 Ln, .int .i64 V, v], sv] w fun e w' => ∃ u, e = .returned (.tuple #[u, .int .i64 0]) /\ CanAt w' u (sayW Ln rs sl) /\ Below w.heap.size w w' := by
 have h1 := wG w Ln V v sv rs sl h hs (fun _ => ⟨hn, hl⟩)
 obtain ⟨e1, e2⟩ := says_ok hl hc hr
 rw [e1, e2, Int.toNat_natCast] at h1
 exact h1
theorem sumTo_qb {f : Nat -> Rat} {k : Nat} (h : ∀ i, QB k (f i)) (n : Nat) : QB (1 + n * (k + 1)) (aQ f n) := by
 induction n with
 | zero => rw [Nat.zero_mul]; exact cB 1 (by omega)
 | succ n ih =>
  show QB _ (aQ f n + f n)
  exact (ih.add (h n)).mono (by rw [Nat.succ_mul]; omega)
theorem share_qb {rs : List bP} (hq : ∀ r ∈ rs, QB 64 r.q) (s l : List Int) (hl : l.length <= 4) : QB 300 (shareL rs s l) := by
 unfold shareL
 split
 ·next a ha =>
  split
  ·unfold deriveQ at ha
   split at ha
   ·cases ha
   exact (der_qb hq ha).mono (by omega)
  exact cB 300 (by omega)
 exact cB 300 (by omega)
theorem sharesum_qb {rs : List bP} (hq : ∀ r ∈ rs, QB 64 r.q) (s : List Int) {ls : List (List Int)} (hl : ∀ l ∈ ls, l.length <= 4) : QB (1 + ls.length * 301) (bX (ls.map (shareL rs s))) := by
 induction ls with
 | nil => rw [List.length_nil, Nat.zero_mul]; exact cB 1 (by omega)
 | cons x l ih =>
  rw [List.map_cons, sumQ_cons, List.length_cons]
  exact ((share_qb hq s x (hl x List.mem_cons_self)).add (ih fun y hy => hl y (List.mem_cons_of_mem _ hy))).mono (by rw [Nat.succ_mul]; omega)
theorem share_der {L V : Int} {rs : List bP} (hc : aR L V rs = 0) (s l : List Int) : (if (derE L V rs l == 0 && decide ((derA L V rs l).1 = s)) = true then (derA L V rs l).2 else 0) = shareL rs s l := by
 unfold derE derA shareL
 rw [if_pos hc, if_pos hc]
 cases deriveQ rs l with
 | none => rfl
 | some a =>
  simp only
  by_cases h : a.1 = s
  ·rw [if_pos h, dT h]
   rfl
  rw [if_neg h, dF h]
  rfl
theorem derA_qb {L V : Int} {rs : List bP} (hq : ∀ r ∈ rs, QB 64 r.q) {l : List Int} (hl : l.length <= 10) : QB 1000 (derA L V rs l).2 := by
 unfold derA
 split
 ·split
  ·next a ha =>
   unfold deriveQ at ha
   split at ha
   ·cases ha
   exact (der_qb hq ha).mono (by omega)
  exact cB 1000 (by omega)
 exact cB 1000 (by omega)
def shortN (Ln V : Nat) (rs : List bP) (i : Nat) : Rat := sayW Ln rs [] + aQ (fun v => sayW Ln rs [(v : Int) + 1] + aQ (fun u => sayW Ln rs [(v : Int) + 1, (u : Int) + 1]) V) i
theorem shortN_all (Ln V : Nat) (rs : List bP) : shortN Ln V rs V = shortQ Ln V rs := rfl
theorem shortN_succ (Ln V : Nat) (rs : List bP) (i : Nat) : shortN Ln V rs (i + 1) = shortN Ln V rs i + sayW Ln rs [(i : Int) + 1] + aQ (fun u => sayW Ln rs [(i : Int) + 1, (u : Int) + 1]) V := by
 show sayW Ln rs [] + (aQ _ i + (sayW Ln rs [(i : Int) + 1] + aQ (fun u => sayW Ln rs [(i : Int) + 1, (u : Int) + 1]) V)) = sayW Ln rs [] + aQ _ i + _ + _
 simp only [Rat.add_assoc]
theorem shortN_qb {Ln V : Nat} {rs : List bP} (hq : ∀ r ∈ rs, QB 64 r.q) (hn : rs.length <= 20) (hV : V <= 4) {i : Nat} (hi : i <= 4) : QB 500000 (shortN Ln V rs i) := by
 have h1 : ∀ v : Nat, QB 80005 (aQ (fun u => sayW Ln rs [(v : Int) + 1, (u : Int) + 1]) V) := fun v =>
  (sumTo_qb (k := 20000) (fun u => sayW_qb hq hn (by simp)) V).mono (by omega)
 have h2 := sumTo_qb (k := 100006) (f := fun v : Nat => sayW Ln rs [(v : Int) + 1] + aQ (fun u => sayW Ln rs [(v : Int) + 1, (u : Int) + 1]) V) (fun v => ((sayW_qb hq hn (by simp)).add (h1 v)).mono (by omega)) i
 exact ((sayW_qb (Ln := Ln) (sl := []) hq hn (by simp)).add h2).mono (by omega)
theorem inner_qb {Ln : Nat} {rs : List bP} (hq : ∀ r ∈ rs, QB 64 r.q) (hn : rs.length <= 20) (v : Int) {j : Nat} (hj : j <= 4) : QB 80005 (aQ (fun u => sayW Ln rs [v, (u : Int) + 1]) j) :=
 (sumTo_qb (k := 20000) (fun u => sayW_qb hq hn (by simp)) j).mono (by omega)
end Go.Proofs.YtjebfdfkjlkifaaGreat
