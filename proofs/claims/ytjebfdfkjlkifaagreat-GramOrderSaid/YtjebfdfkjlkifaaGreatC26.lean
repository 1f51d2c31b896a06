/- Lemmas on the way: Gg4, Gg6, Gg7. -/
import Derived.Test.YtjebfdfkjlkifaaGreatC25
import Derived.Test.YtjebfdfkjlkifaaGreatC24
set_option linter.unusedSimpArgs false
set_option linter.unusedVariables false
set_option linter.unusedSectionVars false
set_option linter.unnecessarySimpa false
namespace Go.Proofs.YtjebfdfkjlkifaaGreat
open Go.RowKit
def saidE (L V : Int) (rs : List Rule) (sl : List Int) : Int :=
 if 500 < sl.length ∨ 500 < rs.length then 5 else if checkG L V rs ≠ 0 then checkG L V rs else if inR 1 V sl then 0 else 2

set_option maxRecDepth 1000000 in
set_option maxHeartbeats 4000000 in
theorem checkSaidG (w : World) (L V : Int) (v sv : Value) (rs : List Rule) (sl : List Int) (k : Nat) (h : RulesAt k w v rs) (hs : IntsAt w sv sl) (h0 : 0 < k) (hk : k ≤ 1000000) :
  Calls Tryz.prog 117 #[.agg #[.int .i64 L, .int .i64 V, v], sv] w fun e w' => e = .returned (.int .i64 (saidE L V rs sl)) ∧ Below w.heap.size w w' := by
 have HR := Lib.hid h
 have HI := Lib.hid hs
 obtain ⟨A, c, rfl, hlc, hcm, _⟩ := h.open_
 clear h hs
 obtain ⟨n, hn⟩ : ∃ n, rs.length = n := ⟨_, rfl⟩
 have HN := Lib.hid hn
 have HR' : Hid (RulesAt k w (.slice A n c) rs) := Lib.hid (by have := HR.out; rwa [hn] at this)
 rw [hn] at hlc ⊢
 clear hn HR
 by_cases h5 : 500 < sl.length
 ·have b5 : decide (500 < sl.length) = true := decide_eq_true h5
  have HB : Hid (saidE L V rs sl = 5) := Lib.hid (by unfold saidE; rw [if_pos (.inl h5)])
  clear h5
  go_enter Tryz.func117, Tryz.ntmps117
  go_wp2_with fail
  obtain ⟨W, hW, P0, PB, Phs⟩ := box1 w 73 [.int .i64 L, .int .i64 V, .slice A n c]
  rw [← hW]
  clear hW
  obtain ⟨p0, p1, p2, _, _, _⟩ := P0.out.three
  go_wp2_with fail
  have TL := tooLongG W sv sl (HI.out.below PB.out)
  rw [b5] at TL
  refine TL.mono ?_
  rintro e w1 ⟨rfl, hb1⟩
  have P1 := Lib.hid (P0.out.below' hb1)
  have B1 := Lib.hid (PB.out.trans (hb1.mono (by omega)))
  clear hb1 p0 p1 p2
  obtain ⟨p0, p1, p2, _, _, _⟩ := P1.out.three
  go_wp2_with fail
  go_ret
  exact ⟨ret_i64 HB.out.symm, B1.out⟩
 have b5 : decide (500 < sl.length) = false := decide_eq_false h5
 by_cases h6 : 500 < n
 ·have b6 : decide ((500 : Int) < (n : Int)) = true := decide_eq_true (by omega)
  have HB : Hid (saidE L V rs sl = 5) := Lib.hid (by unfold saidE; rw [if_pos (.inr (by rw [HN.out]; exact h6))])
  clear h5 h6
  go_enter Tryz.func117, Tryz.ntmps117
  go_wp2_with fail
  obtain ⟨W, hW, P0, PB, Phs⟩ := box1 w 73 [.int .i64 L, .int .i64 V, .slice A n c]
  rw [← hW]
  clear hW
  obtain ⟨p0, p1, p2, _, _, _⟩ := P0.out.three
  go_wp2_with fail
  have TL := tooLongG W sv sl (HI.out.below PB.out)
  rw [b5] at TL
  refine TL.mono ?_
  rintro e w1 ⟨rfl, hb1⟩
  have P1 := Lib.hid (P0.out.below' hb1)
  have B1 := Lib.hid (PB.out.trans (hb1.mono (by omega)))
  clear hb1 p0 p1 p2
  obtain ⟨p0, p1, p2, _, _, _⟩ := P1.out.three
  go_wp2_with fail
  go_ret
  exact ⟨ret_i64 HB.out.symm, B1.out⟩
 have b6 : decide ((500 : Int) < (n : Int)) = false := decide_eq_false (by omega)
 have HS : Hid (saidE L V rs sl = if checkG L V rs ≠ 0 then checkG L V rs else if inR 1 V sl then 0 else 2) := Lib.hid (by
  unfold saidE
  rw [if_neg (by rintro (h | h); exact h5 h; rw [HN.out] at h; exact h6 h)])
 have CG := Lib.hid (fun (U : World) (hU : Below w.heap.size w U) => checkGrammarG U L V (.slice A n c) rs k (HR'.out.below hU) h0 hk)
 clear h5 h6
 generalize checkG L V rs = ce at *
 by_cases hc : ce = 0
 ·have bc : (ce != 0) = false := by simp [hc]
  rcases hr : inR 1 V sl with _ | _
  all_goals
   have HB := Lib.hid (HS.out.trans (by rw [if_neg (by simpa using hc), hr]))
   clear hc
   go_enter Tryz.func117, Tryz.ntmps117
   go_wp2_with fail
   obtain ⟨W, hW, P0, PB, Phs⟩ := box1 w 73 [.int .i64 L, .int .i64 V, .slice A n c]
   rw [← hW]
   clear hW
   obtain ⟨p0, p1, p2, _, _, _⟩ := P0.out.three
   go_wp2_with fail
   have TL := tooLongG W sv sl (HI.out.below PB.out)
   rw [b5] at TL
   refine TL.mono ?_
   rintro e w1 ⟨rfl, hb1⟩
   have P1 := Lib.hid (P0.out.below' hb1)
   have B1 := Lib.hid (PB.out.trans (hb1.mono (by omega)))
   clear hb1 p0 p1 p2 TL
   obtain ⟨p0, p1, p2, _, _, _⟩ := P1.out.three
   have hs1 : w.heap.size ≤ w1.heap.size := B1.out.size
   go_wp2_with fail
   refine (CG.out w1 B1.out).mono ?_
   rintro e w2 ⟨rfl, hb2⟩
   have P2 := Lib.hid (P1.out.below' hb2)
   have B2 := Lib.hid (B1.out.trans (hb2.mono hs1))
   clear hb2 p0 p1 p2
   obtain ⟨p0, p1, p2, _, _, _⟩ := P2.out.three
   have hs2 : w.heap.size ≤ w2.heap.size := B2.out.size
   go_wp2_with fail
   have WG := withinG w2 sv sl 1 V (HI.out.below B2.out)
   rw [hr] at WG
   refine WG.mono ?_
   rintro e w3 ⟨rfl, hb3⟩
   have B3 := Lib.hid (B2.out.trans (hb3.mono hs2))
   clear hb3 WG hr
   go_wp2_with fail
   go_ret
   exact ⟨ret_i64 HB.out.symm, B3.out⟩
 ·have bc : (ce != 0) = true := by simpa using hc
  have HB : Hid (saidE L V rs sl = ce) := Lib.hid (HS.out.trans (by rw [if_pos (by simpa using hc)]))
  clear hc
  go_enter Tryz.func117, Tryz.ntmps117
  go_wp2_with fail
  obtain ⟨W, hW, P0, PB, Phs⟩ := box1 w 73 [.int .i64 L, .int .i64 V, .slice A n c]
  rw [← hW]
  clear hW
  obtain ⟨p0, p1, p2, _, _, _⟩ := P0.out.three
  go_wp2_with fail
  have TL := tooLongG W sv sl (HI.out.below PB.out)
  rw [b5] at TL
  refine TL.mono ?_
  rintro e w1 ⟨rfl, hb1⟩
  have P1 := Lib.hid (P0.out.below' hb1)
  have B1 := Lib.hid (PB.out.trans (hb1.mono (by omega)))
  clear hb1 p0 p1 p2 TL
  obtain ⟨p0, p1, p2, _, _, _⟩ := P1.out.three
  have hs1 : w.heap.size ≤ w1.heap.size := B1.out.size
  go_wp2_with fail
  refine (CG.out w1 B1.out).mono ?_
  rintro e w2 ⟨rfl, hb2⟩
  have B2 := Lib.hid (B1.out.trans (hb2.mono hs1))
  clear hb2
  go_wp2_with fail
  go_ret
  exact ⟨ret_i64 HB.out.symm, B2.out⟩
theorem pow_lt_of {a e n m k : Nat} (h : a ≤ 2 ^ e) (hm : n ≤ m) (hk : e * m < k) : a ^ n < 2 ^ k := by
 have h1 : a ^ n ≤ (2 ^ e) ^ n := Nat.pow_le_pow_left h n
 rw [← Nat.pow_mul] at h1
 exact Nat.lt_of_le_of_lt h1 (Nat.pow_lt_pow_right (by omega) (Nat.lt_of_le_of_lt (Nat.mul_le_mul_left e hm) hk))
theorem rows_qbN {N K : Nat} (hN : 1280 ≤ N) (hK : 10 * N + 700 ≤ K) {join : Rat → Rat → Rat} (hj : NiceJ join) {Ln : Nat} {rs : List Rule} {sl : List Int} (hq : ∀ r ∈ rs, QB 64 r.q) (hn : rs.length ≤ 20) (hs : sl.length ≤ 8) (g : Nat) (hg : g ≤ sl.length) :
  (∀ i, ∀ x ∈ rowL join Ln (rs.take i) sl (match g with | 0 => [] | g + 1 => outL join Ln rs sl g) (sl.length - g), QB K x) ∧
  (∀ r ∈ rs, ∀ q, stepQ sl (match g with | 0 => [] | g + 1 => outL join Ln rs sl g) (sl.length - g) r = some q → QB K q) ∧ ∀ x ∈ outL join Ln rs sl g, QB K x := by
 have hE := denP_pos (rs.map (·.q))
 have hEl : denP (rs.map (·.q)) ≤ 2 ^ N := by
  refine Nat.le_trans (denP_lt (k := 64) _ (fun q h => ?_)) (Nat.pow_le_pow_right (by omega) (by rw [List.length_map]; omega))
  obtain ⟨r, hr, rfl⟩ := List.mem_map.1 h
  exact hq r hr
 have hw : ∀ r ∈ rs, Dn (denP (rs.map (·.q))) (denP (rs.map (·.q)) * 2 ^ 64) r.q := fun r hr => Dn.of_mem (List.mem_map.2 ⟨r, hr, rfl⟩) (hq r hr)
 generalize denP (rs.map (·.q)) = E at hE hEl hw
 have hWl : E * 2 ^ 64 ≤ 2 ^ (N + 64) := by
  have := Nat.mul_le_mul_right (2 ^ 64) hEl
  rwa [← Nat.pow_add] at this
 generalize E * 2 ^ 64 = W at hw hWl
 have key := rowG_dn hj (Ln := Ln) (rs := rs) (sl := sl) hE hw rfl
 have hnW : rs.length * W ≤ 2 ^ (5 + (N + 64)) := by
  have h1 : rs.length ≤ 2 ^ 5 := by omega
  have := Nat.mul_le_mul h1 hWl
  rwa [← Nat.pow_add] at this
 have e1 : ∀ g, g ≤ 8 → E ^ (g + 1) < 2 ^ K := fun g hg => pow_lt_of (e := N) (m := 9) hEl (by omega) (by omega)
 have e2 : ∀ g, g ≤ 8 → (rs.length * W) ^ (g + 1) < 2 ^ K := fun g hg => pow_lt_of (e := 5 + (N + 64)) (m := 9) hnW (by omega) (by omega)
 have whole : ∀ g, g ≤ sl.length → ∀ x ∈ outL join Ln rs sl g, QB K x := fun g hg x hx => ((key g hg).1 x hx).qb (Nat.pow_pos hE) (e1 g (by omega)) (e2 g (by omega))
 refine ⟨fun i x hx => ?_, fun r hr q hq' => ?_, whole g hg⟩
 ·have hi : ∀ i, i ≤ rs.length → ∀ x ∈ rowL join Ln (rs.take i) sl (match g with | 0 => [] | g + 1 => outL join Ln rs sl g) (sl.length - g), QB K x := by
   intro i hi x hx
   refine ((key g hg).2 i x hx).qb (Nat.pow_pos hE) (e1 g (by omega)) (Nat.lt_of_le_of_lt ?_ (e2 g (by omega)))
   have : i * (W * (rs.length * W) ^ g) ≤ rs.length * (W * (rs.length * W) ^ g) := Nat.mul_le_mul_right _ hi
   rw [Nat.pow_succ, Nat.mul_comm ((rs.length * W) ^ g), Nat.mul_assoc]
   exact this
  by_cases h : i ≤ rs.length
  ·exact hi i h x hx
  ·rw [List.take_of_length_le (by omega)] at hx
   exact hi rs.length (Nat.le_refl _) x (by rw [List.take_of_length_le (Nat.le_refl _)]; exact hx)
 ·cases g with
  | zero =>
   have e : q = r.q := stepQ_end (rest := []) (by simpa using hq')
   rw [e]
   exact (hw r hr).qb hE (by have := e1 0 (by omega); simpa using this) (Nat.lt_of_le_of_lt hWl (Nat.pow_lt_pow_right (by omega) (by omega)))
  | succ g =>
   have e := stepQ_in (by omega) hq'
   rw [e]
   have h1 := (hw r hr).mul (getD_dn (key g (by omega)).1 r.t.toNat)
   refine h1.qb (Nat.mul_pos hE (Nat.pow_pos hE)) ?_ ?_
   ·have := e1 (g + 1) (by omega)
    rwa [Nat.pow_succ, Nat.mul_comm] at this
   ·have h2 := e2 g (by omega)
    refine Nat.lt_of_le_of_lt (Nat.mul_le_mul_right _ hWl) ?_
    refine Nat.lt_of_lt_of_le (Nat.mul_lt_mul_of_pos_left (pow_lt_of (n := g + 1) (m := 9) (k := (5 + (N + 64)) * 9 + 1) hnW (by omega) (by omega)) (Nat.pow_pos (by omega))) ?_
    rw [← Nat.pow_add]
    exact Nat.pow_le_pow_right (by omega) (by omega)
theorem rows_qb {join : Rat → Rat → Rat} (hj : NiceJ join) {Ln : Nat} {rs : List Rule} {sl : List Int} (hq : ∀ r ∈ rs, QB 64 r.q) (hn : rs.length ≤ 20) (hs : sl.length ≤ 8) (g : Nat) (hg : g ≤ sl.length) :
  (∀ i, ∀ x ∈ rowL join Ln (rs.take i) sl (match g with | 0 => [] | g + 1 => outL join Ln rs sl g) (sl.length - g), QB 20000 x) ∧
  (∀ r ∈ rs, ∀ q, stepQ sl (match g with | 0 => [] | g + 1 => outL join Ln rs sl g) (sl.length - g) r = some q → QB 20000 q) ∧ ∀ x ∈ outL join Ln rs sl g, QB 20000 x :=
 rows_qbN (N := 1280) (K := 20000) (by omega) (by omega) hj hq hn hs g hg

theorem said_ok {L V : Int} {rs : List Rule} {sl : List Int} (h : saidE L V rs sl = 0) : sl.length ≤ 500 ∧ checkG L V rs = 0 ∧ inR 1 V sl = true := by
 unfold saidE at h
 split at h
 ·omega
 ·next h1 =>
  split at h
  ·omega
  ·next h2 =>
   split at h
   ·next h3 => exact ⟨by omega, by omega, h3⟩
   ·omega
theorem checkG_ok {L V : Int} {rs : List Rule} (h : checkG L V rs = 0) : rs.length ≤ 500 ∧ 1 ≤ L ∧ L ≤ 60 ∧ 1 ≤ V ∧ V ≤ 2000 ∧ (∀ r ∈ rs, 0 ≤ r.f ∧ r.f < L ∧ 0 ≤ r.t ∧ r.t < L ∧ 0 ≤ r.w ∧ r.w ≤ V ∧ (r.w = 0 → r.t = 0) ∧ 0 ≤ r.q) ∧ ∀ q ∈ sumsL L.toNat rs, q = 1 := by
 unfold checkG at h
 split at h
 ·omega
 ·next h1 =>
  split at h
  ·next h2 =>
   refine ⟨by omega, h2.1, h2.2.1, h2.2.2.1, h2.2.2.2.1, fun r hr => ?_, fun q hq => ?_⟩
   ·have := List.all_eq_true.1 h2.2.2.2.2.1 r hr
    unfold ruleB at this
    exact of_decide_eq_true this
   ·exact of_decide_eq_true (List.all_eq_true.1 h2.2.2.2.2.2 q hq)
  ·omega
theorem RulesAt.qb {k : Nat} {w : World} {v : Value} {rs : List Rule} (h : RulesAt k w v rs) (h0 : 0 < k) : ∀ r ∈ rs, QB k r.q := by
 intro r hr
 obtain ⟨i, hi, e⟩ := List.getElem_of_mem hr
 obtain ⟨cells, _, h2⟩ := h
 obtain ⟨a, b, c, _, _, _, _, _, _, hf⟩ := h2 i r (by rw [List.getElem?_eq_getElem hi, e])
 exact hf.qb h0

theorem followsJ (w : World) (Ln : Nat) (V : Int) (v sv : Value) (rs : List Rule) (sl : List Int) (F : Nat) (caps : Array Value) (join : Rat → Rat → Rat) (h : RulesAt 64 w v rs) (hs : IntsAt w sv sl) (hn : rs.length ≤ 20) (hsl : sl.length ≤ 8) (hc : checkG Ln V rs = 0)
  (hF : ∀ (W : World) (args : Array Value), (callFunc F args).run Tryz.prog W = .ok (.enter F args) W) (hnj : NiceJ join)
  (hj : ∀ W a b qa qb, FracAt 20000 W a qa → FracAt 20000 W b qb → QB 20000 (join qa qb) → Calls Tryz.prog F (#[a, b] ++ caps) W fun e w' => ∃ u, e = .returned u ∧ FracAt 20000 w' u (join qa qb) ∧ Below W.heap.size W w') :
  Calls Tryz.prog 119 #[.agg #[.int .i64 Ln, .int .i64 V, v], sv, .func (.func F) #[] caps] w fun e w' => ∃ b rb m, e = .returned (.slice (some ⟨b, 0, none⟩) m m) ∧ w'.cell? ⟨b, 0, none⟩ = some (.slice (some ⟨rb, 0, none⟩) Ln Ln) ∧ FArk 20000 w' rb (outL join Ln rs sl sl.length) ∧ b < w'.heap.size ∧ m = sl.length + 1 ∧ Below w.heap.size w w' := by
 have hg := checkG_ok hc
 have hb := rows_qb hnj (Ln := Ln) (rs := rs) (sl := sl) (h.qb (by omega)) hn hsl
 exact followsG w Ln V v sv rs sl 64 20000 F caps join h hs (by omega) (by omega) (fun r hr => by have := hg.2.2.2.2.2.1 r hr; exact ⟨this.1, this.2.1, this.2.2.1, this.2.2.2.1⟩) hF
  (fun W a b qa qb _ ha hb' hq => hj W a b qa qb ha hb' hq) (by omega) (by omega) (by omega) (fun g hg' => (hb g hg').1) (fun g hg' => (hb g hg').2.1)
theorem callsAdd (W : World) (args : Array Value) : (callFunc 120 args).run Tryz.prog W = .ok (.enter 120 args) W := by kernel_rfl
theorem addJ (W : World) (a b : Value) (qa qb : Rat) (ha : FracAt 20000 W a qa) (hb : FracAt 20000 W b qb) (hq : QB 20000 (qa + qb)) : Calls Tryz.prog 120 (#[a, b] ++ #[]) W fun e w' => ∃ u, e = .returned u ∧ FracAt 20000 w' u (qa + qb) ∧ Below W.heap.size W w' := by
 refine (addF W a b qa qb 20000 ha hb (by omega) (by omega)).mono ?_
 rintro e w' ⟨u, rfl, hu, hb⟩
 exact ⟨u, rfl, hu.at_.frac hq (by omega), hb⟩
theorem canZero (w : World) : CanAt w (.agg #[.bool false, .slice none 0 0, .slice none 0 0]) 0 := ⟨_, _, rfl, NatAt.nil_ w, NatAt.nil_ w⟩
def saysQ (L V : Int) (rs : List Rule) (sl : List Int) : Rat := if saidE L V rs sl = 0 then (outL (· + ·) L.toNat rs sl sl.length).getD 0 0 else 0

theorem CanNew.setBox3 {B g : Nat} {w : World} {q : Rat} {A A' : Option Addr} {m c m' c' : Nat} (h1 : NatAt w (.slice A m c) q.num.natAbs) (h2 : NatAt w (.slice A' m' c') (if q.den = 1 then 0 else q.den)) (h3 : From (.slice A m c) B) (h4 : From (.slice A' m' c') B) (hg : g < B) (u0 u1 u2 : Value) :
  CanAt (((w.setCell ⟨g, 0, none⟩ u0).setCell ⟨g, 1, none⟩ u1).setCell ⟨g, 2, none⟩ u2) (.agg #[.bool (isNeg q), .slice A m c, .slice A' m' c']) q :=
 ⟨_, _, rfl, NatAt.box3 h1 (h3.mono (by omega)) _ _ _, NatAt.box3 h2 (h4.mono (by omega)) _ _ _⟩

set_option maxRecDepth 1000000 in
set_option maxHeartbeats 4000000 in
theorem saysG (w : World) (L V : Int) (v sv : Value) (rs : List Rule) (sl : List Int) (h : RulesAt 64 w v rs) (hs : IntsAt w sv sl) (hf : saidE L V rs sl = 0 → rs.length ≤ 20 ∧ sl.length ≤ 8) :
  Calls Tryz.prog 49 #[.agg #[.int .i64 L, .int .i64 V, v], sv] w fun e w' => ∃ u, e = .returned (.tuple #[u, .int .i64 (saidE L V rs sl)]) ∧ CanAt w' u (saysQ L V rs sl) ∧ Below w.heap.size w w' := by
 obtain ⟨A, c, rfl, hlc, hcm, _⟩ := h.open_
 have HR := Lib.hid h
 have HI := Lib.hid hs
 have HF := Lib.hid hf
 clear h hs hf
 obtain ⟨n, hn⟩ : ∃ n, rs.length = n := ⟨_, rfl⟩
 have HN := Lib.hid hn
 have HR' : Hid (RulesAt 64 w (.slice A n c) rs) := Lib.hid (by have := HR.out; rwa [hn] at this)
 rw [hn] at hlc ⊢
 clear hn HR
 obtain ⟨ev, hev⟩ : ∃ ev, saidE L V rs sl = ev := ⟨_, rfl⟩
 have HE := Lib.hid hev
 rw [hev]
 clear hev
 by_cases hz : ev = 0
 ·have bz : (ev != 0) = false := by simpa using hz
  have HZ := Lib.hid hz
  clear hz
  have hok := said_ok (by rw [HE.out, HZ.out] : saidE L V rs sl = 0)
  have hck := checkG_ok hok.2.1
  obtain ⟨Ln, hLn⟩ : ∃ Ln : Nat, L = Ln := ⟨L.toNat, by omega⟩
  have hfew := HF.out (by rw [HE.out, HZ.out])
  have HOK := Lib.hid hok
  have HFEW := Lib.hid hfew
  have hL1 : 0 < Ln := by omega
  have hL2 : Ln ≤ 60 := by omega
  have HQ : Hid (saysQ L V rs sl = (outL (· + ·) Ln rs sl sl.length).getD 0 0) := Lib.hid (by unfold saysQ; rw [if_pos (by rw [HE.out, HZ.out]), hLn, Int.toNat_natCast])
  subst hLn
  clear hok hck hfew
  go_enter Tryz.func49, Tryz.ntmps49
  go_wp2_with fail
  obtain ⟨W, hW, P0, P1, PB, Phs⟩ := box2 w 73 [.int .i64 (Ln : Int), .int .i64 V, .slice A n c] 40 [.bool false, .slice none 0 0, .slice none 0 0]
  rw [← hW]
  clear hW
  obtain ⟨p0, p1, p2, _, _, _⟩ := P0.out.three
  go_wp2_with fail
  refine (checkSaidG W Ln V _ sv rs sl 64 (HR'.out.below PB.out) (HI.out.below PB.out) (by omega) (by omega)).mono ?_
  rintro e w1 ⟨rfl, hb1⟩
  rw [HE.out]
  have P01 := Lib.hid (P0.out.below' hb1)
  have P11 := Lib.hid (P1.out.below' hb1)
  have B1 := Lib.hid (PB.out.trans (hb1.mono (by omega)))
  have s1 : w.heap.size + 2 ≤ w1.heap.size := Nat.le_trans Phs hb1.size
  clear hb1 p0 p1 p2
  obtain ⟨p0, p1, p2, _, _, _⟩ := P01.out.three
  go_wp2_with fail
  refine (followsJ w1 Ln V _ sv rs sl 120 #[] (· + ·) (HR'.out.below B1.out) (HI.out.below B1.out) HFEW.out.1 HFEW.out.2 HOK.out.2.1 callsAdd nice_add addJ).mono ?_
  rintro e w2 ⟨b, rb, m, rfl, hc2, hf2, hbl, rfl, hb2⟩
  have P12 := Lib.hid (P11.out.below' hb2)
  have B2 := Lib.hid (B1.out.trans (hb2.mono (by omega)))
  have F2 := Lib.hid hf2
  have s2 : w1.heap.size ≤ w2.heap.size := hb2.size
  obtain ⟨q, hq⟩ : ∃ q, (outL (· + ·) Ln rs sl sl.length)[0]? = some q := ⟨_, List.getElem?_eq_getElem (by rw [outL_length]; omega)⟩
  have HQ2 : Hid (saysQ (Ln : Int) V rs sl = q) := Lib.hid (by rw [HQ.out, List.getD_eq_getElem?_getD, hq]; rfl)
  obtain ⟨s', B, mm, c', B', m', c'', a0, a1, a2, _, _, _, hfq⟩ := hf2.get hq
  simp only [Nat.zero_mul, Nat.zero_add] at a0 a1 a2
  have FQ := Lib.hid hfq
  have hp1 : 0 < sl.length + 1 := by omega
  clear hb2 hf2 p0 p1 p2 hq hfq
  go_wp2_with fail
  refine (canon w2 _ q 20000 FQ.out (by omega) (by omega)).mono ?_
  rintro e w3 ⟨v3, rfl, hcn, hb3⟩
  obtain ⟨A3, m3, c3, A3', m3', c3', rfl, ta, tb, tc, td⟩ := hcn.open_
  have TA := Lib.hid ta
  have TB := Lib.hid tb
  have TC := Lib.hid tc
  have TD := Lib.hid td
  have P13 := Lib.hid (P12.out.below' hb3)
  have B3 := Lib.hid (B2.out.trans (hb3.mono (by omega)))
  clear hb3 hcn ta tb tc td a0 a1 a2 hc2
  obtain ⟨r0, r1, r2, z0, z1, z2⟩ := P13.out.three
  go_wp2_with fail
  refine bodyPost_ret (v := .tuple #[.agg #[.bool (isNeg q), .slice A3 m3 c3, .slice A3' m3' c3'], .int .i64 ev]) (by simp [results, Tryz.results49, go_sem, r0, r1, r2, List.mapM_cons, HZ.out]) rfl ⟨_, rfl, ?_, below_box3 B3.out (by omega) _ _ _⟩
  rw [HQ2.out]
  exact CanNew.setBox3 TA.out TB.out TC.out TD.out (by omega) _ _ _
 ·have bz : (ev != 0) = true := by simpa using hz
  have HQ : Hid (saysQ L V rs sl = 0) := Lib.hid (by unfold saysQ; rw [if_neg (by rw [HE.out]; exact hz)])
  clear hz
  go_enter Tryz.func49, Tryz.ntmps49
  go_wp2_with fail
  obtain ⟨W, hW, P0, P1, PB, Phs⟩ := box2 w 73 [.int .i64 L, .int .i64 V, .slice A n c] 40 [.bool false, .slice none 0 0, .slice none 0 0]
  rw [← hW]
  clear hW
  obtain ⟨p0, p1, p2, _, _, _⟩ := P0.out.three
  go_wp2_with fail
  refine (checkSaidG W L V _ sv rs sl 64 (HR'.out.below PB.out) (HI.out.below PB.out) (by omega) (by omega)).mono ?_
  rintro e w1 ⟨rfl, hb1⟩
  rw [HE.out]
  have P11 := Lib.hid (P1.out.below' hb1)
  have B1 := Lib.hid (PB.out.trans (hb1.mono (by omega)))
  have s1 : w.heap.size + 2 ≤ w1.heap.size := Nat.le_trans Phs hb1.size
  clear hb1 p0 p1 p2
  obtain ⟨r0, r1, r2, z0, z1, z2⟩ := P11.out.three
  go_wp2_with fail
  refine bodyPost_ret (v := .tuple #[.agg #[.bool false, .slice none 0 0, .slice none 0 0], .int .i64 ev]) (by simp [results, Tryz.results49, go_sem, r0, r1, r2, List.mapM_cons]) rfl ⟨_, rfl, ?_, below_box3 B1.out (by omega) _ _ _⟩
  rw [HQ.out]
  exact canZero _
end Go.Proofs.YtjebfdfkjlkifaaGreat
