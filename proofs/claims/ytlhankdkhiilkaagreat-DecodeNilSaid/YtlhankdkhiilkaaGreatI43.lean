/- Lemmas on the way: Eo1, Eo2, Eo4. -/
import Derived.Test.YtlhankdkhiilkaaGreatI41
import Derived.Test.YtlhankdkhiilkaaGreatI42
set_option linter.unusedSimpArgs false
set_option linter.unusedVariables false
set_option linter.unusedSectionVars false
set_option linter.unnecessarySimpa false
namespace Go.Proofs.YtlhankdkhiilkaaGreat
open Go.RowKit
section
def natA (s : St) : AV → Option Nat
 | .snil => some 0
 | .nat o => match s.h.get o with
  | some (.nat n) => some n
  | _ => none
 | _ => none
def partsA (s : St) : AV → Option (Bool × Nat × Nat)
 | .agg [.b neg, n, d] => match natA s n, natA s d with
  | some n, some d => cond (Nat.blt n (2 ^ 512) && Nat.blt d (2 ^ 512)) (some (neg, n, d)) none
  | _, _ => none
 | _ => none
def ratA (s : St) (x : AV) : Option Rat := (partsA s x).map fun p => fracVal p.1 p.2.1 p.2.2
def denQ (q : Rat) : Nat := if q.den = 1 then 0 else q.den
def giveA (s : St) (q : Rat) : AV × St := (.agg [.b (isNeg q), .nat s.nx, .nat (s.nx + 1)], (s.new (.nat q.num.natAbs)).new (.nat (denQ q)))
def canA (s : St) (x : AV) : Option Rat := match partsA s x with
 | some (neg, n, d) => cond ((neg == isNeg (fracVal neg n d)) && Nat.beq n (fracVal neg n d).num.natAbs && Nat.beq d (denQ (fracVal neg n d))) (some (fracVal neg n d)) none
 | none => none

section
variable {P : Program} {μ : Mu} {s : St} {w w' : World}
theorem natA_at (h : Rel μ s w) {x : AV} {v : Value} {n : Nat} (hx : natA s x = some n) (hv : VR μ x v) : NatAt w v n := by
 cases x <;> simp only [natA] at hx <;> try cases hx
 case snil => simp only [VR] at hv; subst hv; exact NatAt.nil_ w
 case nat o =>
  simp only [VR] at hv
  obtain ⟨A, m, c, hm, rfl⟩ := hv
  split at hx
  ·next k ho =>
   cases hx
   have := h.obj o _ ho (by rw [hm]; simp)
   simp only [OR] at this
   obtain ⟨A', m', c', h1, h2⟩ := this
   rw [hm] at h1
   cases h1
   exact h2
  ·cases hx
theorem partsA_at (h : Rel μ s w) {x : AV} {v : Value} {neg : Bool} {n d : Nat} (hx : partsA s x = some (neg, n, d)) (hv : VR μ x v) : ∃ vn vd, v = .agg #[.bool neg, vn, vd] ∧ NatAt w vn n ∧ NatAt w vd d ∧ n < 2 ^ 512 ∧ d < 2 ^ 512 := by
 unfold partsA at hx
 split at hx
 ·next neg' xn xd =>
  split at hx
  ·next n' d' hn hd =>
   obtain ⟨hc, hx⟩ := cond_some hx
   cases hx
   simp only [Bool.and_eq_true, Nat.blt_eq] at hc
   simp only [VR, VRs] at hv
   obtain ⟨l, rfl, y0, _, rfl, rfl, y1, _, rfl, h1, y2, _, rfl, h2, rfl⟩ := hv
   exact ⟨y1, y2, rfl, natA_at h hn h1, natA_at h hd h2, hc.1, hc.2⟩
  ·cases hx
 ·cases hx
theorem frac_of_nats {neg : Bool} {vn vd : Value} {n d : Nat} (hn : NatAt w vn n) (hd : NatAt w vd d) (ln : n < 2 ^ 512) (ld : d < 2 ^ 512) : FracAt 512 w (.agg #[.bool neg, vn, vd]) (fracVal neg n d) := by
 obtain ⟨l, d1, t1, rfl⟩ := hn
 obtain ⟨l', d2, t2, rfl⟩ := hd
 exact ⟨neg, vn, vd, l, l', rfl, d1, d2, rfl, ln, ld, by have := t1.length_le ln; omega, by have := t2.length_le ld; omega⟩
theorem ratA_at (h : Rel μ s w) {x : AV} {v : Value} {q : Rat} (hx : ratA s x = some q) (hv : VR μ x v) : FracAt 512 w v q := by
 unfold ratA at hx
 simp only [Option.map_eq_some_iff] at hx
 obtain ⟨⟨neg, n, d⟩, h1, rfl⟩ := hx
 obtain ⟨vn, vd, rfl, a, b, c, e⟩ := partsA_at h h1 hv
 exact frac_of_nats a b c e
theorem canA_at (h : Rel μ s w) {x : AV} {v : Value} {q : Rat} (hx : canA s x = some q) (hv : VR μ x v) : CanAt w v q := by
 unfold canA at hx
 split at hx
 ·next neg n d h1 =>
  obtain ⟨hc, hx⟩ := cond_some hx
  simp only [Bool.and_eq_true, beq_iff_eq, Nat.beq_eq] at hc
  obtain ⟨⟨c1, c2⟩, c3⟩ := hc
  obtain ⟨vn, vd, rfl, a, b, _, _⟩ := partsA_at h h1 hv
  simp only [Option.some.injEq] at hx
  rw [hx] at c1 c2 c3
  exact ⟨vn, vd, by rw [c1], c2 ▸ a, (show d = (if q.den = 1 then 0 else q.den) from c3) ▸ b⟩
 ·cases hx

theorem Rel.below (h : Rel μ s w) (hb : Below w.heap.size w w') : Rel μ s w' := by
 have lt : ∀ o x p', s.h.get o = some x → μ o = some (.at_ p') → p'.blk < w.heap.size := fun o x p' e m => by
  obtain ⟨b, hb⟩ := (h.obj o x e (by rw [m]; simp)).at_ m
  exact (Array.getElem?_eq_some_iff.1 hb).1
 exact ⟨fun o x e m => (h.obj o x e m).keep (Sub.refl μ) hb.size (fun p hp => hb.block _ (lt o x p e hp)) (fun A m c _ ad _ _ hlt => hb.block _ hlt), h.inj, h.nat, h.wf⟩
theorem Stp.below (μ : Mu) (s : St) (hb : Below w.heap.size w w') : Stp μ s w μ s w' :=
 ⟨Sub.refl μ, fun _ h h' => absurd h h', Nat.le_refl _, hb.os, hb.tape, hb.output, hb.size, fun g hg _ => hb.block g hg, fun o x p h h' => .inr ⟨o, x, p, h, h', rfl⟩, fun _ _ _ => rfl⟩
theorem Rel.addNat (h : Rel μ s w) (hn : μ s.nx = none) {A : Option Addr} {m c n : Nat} (hv : NatAt w (.slice A m c) n) : Rel (μ.with s.nx (.val A m c)) (s.new (.nat n)) w ∧ Stp μ s w (μ.with s.nx (.val A m c)) (s.new (.nat n)) w := by
 have hs := Mu.sub_with (.val A m c) hn
 have hkeep : ∀ o y, s.h.get o = some y → μ o ≠ none → OR (μ.with s.nx (.val A m c)) w o y := fun o y e m' => (h.obj o y e m').keep hs (Nat.le_refl _) (fun _ _ => rfl) (fun _ _ _ _ _ _ _ _ => rfl)
 have hnew : OR (μ.with s.nx (.val A m c)) w s.nx (.nat n) := by simp only [OR]; exact ⟨A, m, c, Mu.with_same _ _ _, hv⟩
 constructor
 ·refine ⟨fun o y e m' => ?_, fun o o' y y' q q' e1 e2 m1 m2 hb => ?_, fun o n' A' m' c' o' x' p' e1 m1 e2 m2 => ?_, fun o ho => ?_⟩
  ·simp only [St.new, Tr.get_set] at e
   split at e
   ·next e2 => subst e2; cases e; exact hnew
   ·next e2 => rw [Mu.with_ne _ _ e2] at m'; exact hkeep o y e m'
  ·simp only [St.new, Tr.get_set] at e1 e2
   split at e1
   ·next a => subst a; rw [Mu.with_same] at m1; cases m1
   ·next a =>
    split at e2
    ·next b => subst b; rw [Mu.with_same] at m2; cases m2
    ·next b =>
     rw [Mu.with_ne _ _ a] at m1
     rw [Mu.with_ne _ _ b] at m2
     exact h.inj o o' y y' q q' e1 e2 m1 m2 hb
  ·simp only [St.new, Tr.get_set] at e1 e2
   split at e2
   ·next b => subst b; rw [Mu.with_same] at m2; cases m2
   ·next b =>
    rw [Mu.with_ne _ _ b] at m2
    split at e1
    ·next a =>
     subst a
     rw [Mu.with_same] at m1
     cases m1
     have h2 := hkeep o' x' e2 (by rw [m2]; simp)
     cases e1
     exact nat_off hnew (Mu.with_same _ _ _) h2 (hs _ _ m2) (fun k e => by
      subst e
      have := h.obj o' _ e2 (by rw [m2]; simp)
      simp only [OR] at this
      obtain ⟨_, _, _, q1, _⟩ := this
      rw [m2] at q1
      cases q1)
    ·next a => rw [Mu.with_ne _ _ a] at m1; exact h.nat o n' A' m' c' o' x' p' e1 m1 e2 m2
  ·have h1 : s.nx + 1 ≤ o := ho
   simp only [St.new]
   rw [Tr.get_set_ne _ _ (by omega)]
   exact h.wf o (by omega)
 ·refine ⟨hs, fun o h1 h2 => ?_, by simp [St.new], rfl, rfl, rfl, Nat.le_refl _, fun _ _ _ => rfl, fun o y q e1 m1 => ?_, fun o _ h2 => by simp only [St.new]; exact Tr.get_set_ne _ _ (by omega)⟩
  ·by_cases e : o = s.nx
   ·subst e; simp [St.new]
   ·rw [Mu.with_ne _ _ e] at h2; exact absurd h1 h2
  ·simp only [St.new, Tr.get_set] at e1
   split at e1
   ·next a => subst a; rw [Mu.with_same] at m1; cases m1
   ·next a => rw [Mu.with_ne _ _ a] at m1; right; exact ⟨o, y, q, e1, m1, rfl⟩
theorem grows_give (s : St) (q : Rat) : Grows s (giveA s q).2 := (Grows.new s _).trans (Grows.new _ _)
theorem give_ok (h : Rel μ s w) {u : Value} {q : Rat} (hu : CanAt w u q) (hf : Fresh μ s (giveA s q).2) : ∃ μ', Rel μ' (giveA s q).2 w ∧ Stp μ s w μ' (giveA s q).2 w ∧ VR μ' (giveA s q).1 u := by
 obtain ⟨vn, vd, rfl, h1, h2⟩ := hu
 obtain ⟨A, m, c, rfl, _⟩ := h1.len
 obtain ⟨A', m', c', rfl, _⟩ := h2.len
 have f1 : μ s.nx = none := hf s.nx (Nat.le_refl _) (by show s.nx < s.nx + 1 + 1; omega)
 obtain ⟨r1, t1⟩ := h.addNat f1 h1
 have f2 : (μ.with s.nx (.val A m c)) (s.new (.nat q.num.natAbs)).nx = none := by
  show (μ.with s.nx (.val A m c)) (s.nx + 1) = none
  rw [Mu.with_ne _ _ (by omega)]
  exact hf (s.nx + 1) (by omega) (by show s.nx + 1 < s.nx + 1 + 1; omega)
 obtain ⟨r2, t2⟩ := r1.addNat f2 (n := denQ q) h2
 refine ⟨_, r2, t1.trans t2, ?_⟩
 simp only [giveA, VR]
 exact ⟨_, rfl, VRs.cons (by simp [VR]) (VRs.cons (by simp only [VR]; exact ⟨A, m, c, t2.sub _ _ (Mu.with_same _ _ _), rfl⟩) (VRs.cons (by simp only [VR]; exact ⟨A', m', c', Mu.with_same _ _ _, rfl⟩) VRs.nil_))⟩

def Answers (P : Program) (f : FuncId) (g : List AV → St → Option (AV × St)) : Prop := ∀ {args s v s'}, g args s = some (v, s') → (CallOk P f ∧ s.nx ≤ s'.nx ∧ (Wf s → Wf s')) ∧ ∀ {μ : Mu} {w : World} {vs : List Value} (n : Nat), Rel μ s w → VRs μ args vs → Fresh μ s s' →
  CallsIn Fence.wide n P f vs.toArray w fun e w' => ∃ v' μ', e = .returned v' ∧ Rel μ' s' w' ∧ Stp μ s w μ' s' w' ∧ VR μ' v v'
def enterOk (P : Program) (f : FuncId) : Bool := (P.funcs[f]?).any fun fn => fn.body.isSome && !(fn.name == "runtime.NumGoroutine")
theorem callOk_of {f : FuncId} (h : enterOk P f = true) : CallOk P f := by
 unfold enterOk at h
 rw [Option.any_eq_true] at h
 obtain ⟨fn, h1, h2⟩ := h
 simp only [Bool.and_eq_true, Bool.not_eq_true'] at h2
 obtain ⟨c, hc⟩ := Option.isSome_iff_exists.1 h2.1
 have hname : ¬ fn.name = "runtime.NumGoroutine" := by simpa using h2.2
 exact fun args w => by simp [callFunc, h1, hname, hc]
theorem ret_frac {f : FuncId} {vs : List Value} {n : Nat} {q : Rat} (h : Rel μ s w) (hf : Fresh μ s (giveA s q).2) (hc : Calls P f vs.toArray w fun e w' => ∃ u, e = .returned u ∧ CanNew w.heap.size w' u q ∧ Below w.heap.size w w') :
  CallsIn Fence.wide n P f vs.toArray w fun e w' => ∃ v' μ', e = .returned v' ∧ Rel μ' (giveA s q).2 w' ∧ Stp μ s w μ' (giveA s q).2 w' ∧ VR μ' (giveA s q).1 v' := by
 refine CallsIn.mono (callsIn_wide.2 hc) ?_
 rintro e w' ⟨u, rfl, hu, hb⟩
 obtain ⟨μ', r, t, hv⟩ := give_ok (h.below hb) hu.at_ hf
 exact ⟨u, μ', rfl, r, (Stp.below μ s hb).trans t, hv⟩
theorem ret_val {f : FuncId} {vs : List Value} {n : Nat} {u : Value} {x : AV} (h : Rel μ s w) (hx : VR μ x u) (hc : Calls P f vs.toArray w fun e w' => e = .returned u ∧ Below w.heap.size w w') :
  CallsIn Fence.wide n P f vs.toArray w fun e w' => ∃ v' μ', e = .returned v' ∧ Rel μ' s w' ∧ Stp μ s w μ' s w' ∧ VR μ' x v' := by
 refine CallsIn.mono (callsIn_wide.2 hc) ?_
 rintro e w' ⟨rfl, hb⟩
 exact ⟨u, μ, rfl, h.below hb, Stp.below μ s hb, hx⟩

def bin2A (op : Rat → Rat → Rat) (args : List AV) (s : St) : Option (AV × St) :=
 match args with
 | [x, y] => match ratA s x, ratA s y with
  | some q, some r => some (giveA s (op q r))
  | _, _ => none
 | _ => none
theorem bin2_ok {f : FuncId} (hco : enterOk P f = true) (op : Rat → Rat → Rat) (hC : ∀ w v v' q r, FracAt 512 w v q → FracAt 512 w v' r → Calls P f #[v, v'] w fun e w' => ∃ u, e = .returned u ∧ CanNew w.heap.size w' u (op q r) ∧ Below w.heap.size w w') : Answers P f (bin2A op) := by
 intro args s v s' h
 unfold bin2A at h
 split at h
 ·next x y =>
  split at h
  ·next q r hq hr =>
   simp only [Option.some.injEq] at h
   obtain ⟨rfl, rfl⟩ : (giveA s (op q r)).1 = v ∧ (giveA s (op q r)).2 = s' := by rw [h]; exact ⟨rfl, rfl⟩
   refine ⟨⟨callOk_of hco, grows_give s _⟩, ?_⟩
   intro μ w vs n hR hvs hF
   simp only [VRs] at hvs
   obtain ⟨a, _, rfl, ha, b, _, rfl, hb, rfl⟩ := hvs
   exact ret_frac hR hF (hC w a b q r (ratA_at hR hq ha) (ratA_at hR hr hb))
  ·cases h
 ·cases h
def cmpA (args : List AV) (s : St) : Option (AV × St) :=
 match args with
 | [x, y] => match ratA s x, ratA s y with
  | some q, some r => some (.i .i64 (sgnI (q - r)), s)
  | _, _ => none
 | _ => none
theorem cmp_ok {f : FuncId} (hco : enterOk P f = true) (hC : ∀ w v v' q r, FracAt 512 w v q → FracAt 512 w v' r → Calls P f #[v, v'] w fun e w' => e = .returned (.int .i64 (sgnI (q - r))) ∧ Below w.heap.size w w') : Answers P f cmpA := by
 intro args s v s' h
 unfold cmpA at h
 split at h
 ·next x y =>
  split at h
  ·next q r hq hr =>
   simp only [Option.some.injEq, Prod.mk.injEq] at h
   obtain ⟨rfl, rfl⟩ := h
   refine ⟨⟨callOk_of hco, Grows.refl s⟩, ?_⟩
   intro μ w vs n hR hvs hF
   simp only [VRs] at hvs
   obtain ⟨a, _, rfl, ha, b, _, rfl, hb, rfl⟩ := hvs
   exact ret_val hR (by simp [VR]) (hC w a b q r (ratA_at hR hq ha) (ratA_at hR hr hb))
  ·cases h
 ·cases h
def signA (args : List AV) (s : St) : Option (AV × St) :=
 match args with
 | [x] => match ratA s x with
  | some q => some (.i .i64 (sgnI q), s)
  | _ => none
 | _ => none
theorem sign_ok {f : FuncId} (hco : enterOk P f = true) (hC : ∀ w v q, FracAt 512 w v q → Calls P f #[v] w fun e w' => e = .returned (.int .i64 (sgnI q)) ∧ Below w.heap.size w w') : Answers P f signA := by
 intro args s v s' h
 unfold signA at h
 split at h
 ·next x =>
  split at h
  ·next q hq =>
   simp only [Option.some.injEq, Prod.mk.injEq] at h
   obtain ⟨rfl, rfl⟩ := h
   refine ⟨⟨callOk_of hco, Grows.refl s⟩, ?_⟩
   intro μ w vs n hR hvs hF
   simp only [VRs] at hvs
   obtain ⟨a, _, rfl, ha, rfl⟩ := hvs
   exact ret_val hR (by simp [VR]) (hC w a q (ratA_at hR hq ha))
  ·cases h
 ·cases h
def canonA (args : List AV) (s : St) : Option (AV × St) :=
 match args with
 | [x] => match ratA s x with
  | some q => some (giveA s q)
  | _ => none
 | _ => none
theorem canon_ok {f : FuncId} (hco : enterOk P f = true) (hC : ∀ w v q, FracAt 512 w v q → Calls P f #[v] w fun e w' => ∃ u, e = .returned u ∧ CanNew w.heap.size w' u q ∧ Below w.heap.size w w') : Answers P f canonA := by
 intro args s v s' h
 unfold canonA at h
 split at h
 ·next x =>
  split at h
  ·next q hq =>
   simp only [Option.some.injEq] at h
   obtain ⟨rfl, rfl⟩ : (giveA s q).1 = v ∧ (giveA s q).2 = s' := by rw [h]; exact ⟨rfl, rfl⟩
   refine ⟨⟨callOk_of hco, grows_give s _⟩, ?_⟩
   intro μ w vs n hR hvs hF
   simp only [VRs] at hvs
   obtain ⟨a, _, rfl, ha, rfl⟩ := hvs
   exact ret_frac hR hF (hC w a q (ratA_at hR hq ha))
  ·cases h
 ·cases h
def ofA (args : List AV) (s : St) : Option (AV × St) :=
 match args with
 | [x] => match bnd x with
  | some n => cond (Nat.blt n 9223372036854775808) (some (giveA s (n : Rat))) none
  | _ => none
 | _ => none
theorem of_ok {f : FuncId} (hco : enterOk P f = true) (hC : ∀ w (n : Nat), n < 9223372036854775808 → Calls P f #[.int .i64 (n : Int)] w fun e w' => ∃ u, e = .returned u ∧ CanNew w.heap.size w' u (n : Rat) ∧ Below w.heap.size w w') : Answers P f ofA := by
 intro args s v s' h
 unfold ofA at h
 split at h
 ·next x =>
  split at h
  ·next q hq =>
   obtain ⟨hc, h⟩ := cond_some h
   rw [Nat.blt_eq] at hc
   simp only [Option.some.injEq] at h
   obtain ⟨rfl, rfl⟩ : (giveA s (q : Rat)).1 = v ∧ (giveA s (q : Rat)).2 = s' := by rw [h]; exact ⟨rfl, rfl⟩
   refine ⟨⟨callOk_of hco, grows_give s _⟩, ?_⟩
   intro μ w vs n hR hvs hF
   simp only [VRs] at hvs
   obtain ⟨a, _, rfl, ha, rfl⟩ := hvs
   have := bnd_vr hq ha
   subst this
   exact ret_frac hR hF (hC w q hc)
  ·cases h
 ·cases h
def makeA (args : List AV) (s : St) : Option (AV × St) :=
 match args with
 | [x, y] => match bnd x, bnd y with
  | some n, some d => cond (Nat.blt n 9223372036854775808 && Nat.blt d 9223372036854775808 && Nat.blt 0 d) (some (giveA s ((n : Rat) / (d : Rat)))) none
  | _, _ => none
 | _ => none
theorem make_ok {f : FuncId} (hco : enterOk P f = true) (hC : ∀ w (n d : Nat), n < 9223372036854775808 → d < 9223372036854775808 → 0 < d → Calls P f #[.int .i64 (n : Int), .int .i64 (d : Int)] w fun e w' => ∃ u, e = .returned u ∧ CanNew w.heap.size w' u ((n : Rat) / (d : Rat)) ∧ Below w.heap.size w w') : Answers P f makeA := by
 intro args s v s' h
 unfold makeA at h
 split at h
 ·next x y =>
  split at h
  ·next n d hn hd =>
   obtain ⟨hc, h⟩ := cond_some h
   simp only [Bool.and_eq_true, Nat.blt_eq] at hc
   simp only [Option.some.injEq] at h
   obtain ⟨rfl, rfl⟩ : (giveA s ((n : Rat) / (d : Rat))).1 = v ∧ (giveA s ((n : Rat) / (d : Rat))).2 = s' := by rw [h]; exact ⟨rfl, rfl⟩
   refine ⟨⟨callOk_of hco, grows_give s _⟩, ?_⟩
   intro μ w vs k hR hvs hF
   simp only [VRs] at hvs
   obtain ⟨a, _, rfl, ha, b, _, rfl, hb, rfl⟩ := hvs
   have := bnd_vr hn ha
   subst this
   have := bnd_vr hd hb
   subst this
   exact ret_frac hR hF (hC w n d hc.1.1 hc.1.2 hc.2)
  ·cases h
 ·cases h
def sameA (args : List AV) (s : St) : Option (AV × St) :=
 match args with
 | [x, y] => match canA s x, canA s y with
  | some q, some r => some (.b (decide (q = r)), s)
  | _, _ => none
 | _ => none
theorem same_ok {f : FuncId} (hco : enterOk P f = true) (hC : ∀ w v v' q r, CanAt w v q → CanAt w v' r → Calls P f #[v, v'] w fun e w' => e = .returned (.bool (decide (q = r))) ∧ Below w.heap.size w w') : Answers P f sameA := by
 intro args s v s' h
 unfold sameA at h
 split at h
 ·next x y =>
  split at h
  ·next q r hq hr =>
   simp only [Option.some.injEq, Prod.mk.injEq] at h
   obtain ⟨rfl, rfl⟩ := h
   refine ⟨⟨callOk_of hco, Grows.refl s⟩, ?_⟩
   intro μ w vs n hR hvs hF
   simp only [VRs] at hvs
   obtain ⟨a, _, rfl, ha, b, _, rfl, hb, rfl⟩ := hvs
   exact ret_val hR (by simp [VR]) (hC w a b q r (canA_at hR hq ha) (canA_at hR hr hb))
  ·cases h
 ·cases h
def ratsA (s : St) : List AV → Option (List Rat)
 | [] => some []
 | a :: b :: c :: l => match ratA s (.agg [a, b, c]) with
  | some q => (ratsA s l).map (q :: ·)
  | none => none
 | _ => none
theorem ratsA_at (h : Rel μ s w) : ∀ {l : List AV} {m : List Value} {qs : List Rat}, ratsA s l = some qs → VRs μ l m → m.length = qs.length * 3 ∧ ∀ (i : Nat) (q : Rat), qs[i]? = some q → ∃ c0 c1 c2, m[i * 3]? = some c0 ∧ m[i * 3 + 1]? = some c1 ∧ m[i * 3 + 2]? = some c2 ∧ FracAt 512 w (.agg #[c0, c1, c2]) q
 | [], m, qs, hx, hv => by
  simp only [ratsA, Option.some.injEq] at hx
  subst hx
  simp only [VRs] at hv
  subst hv
  simp
 | [_], _, _, hx, _ => by simp [ratsA] at hx
 | [_, _], _, _, hx, _ => by simp [ratsA] at hx
 | a :: b :: c :: l, m, qs, hx, hv => by
  simp only [ratsA] at hx
  split at hx
  ·next q hq =>
   simp only [Option.map_eq_some_iff] at hx
   obtain ⟨qs', h1, rfl⟩ := hx
   simp only [VRs] at hv
   obtain ⟨y0, _, rfl, g0, y1, _, rfl, g1, y2, m', rfl, g2, hl⟩ := hv
   obtain ⟨k1, k2⟩ := ratsA_at h h1 hl
   refine ⟨by simp [k1]; omega, fun i q' hq' => ?_⟩
   cases i with
   | zero =>
    simp at hq'
    subst hq'
    refine ⟨y0, y1, y2, rfl, rfl, rfl, ratA_at h hq ?_⟩
    simp only [VR]
    exact ⟨[y0, y1, y2], rfl, VRs.cons g0 (VRs.cons g1 (VRs.cons g2 VRs.nil_))⟩
   | succ i =>
    obtain ⟨c0, c1, c2, e0, e1, e2, e3⟩ := k2 i q' (by simpa using hq')
    refine ⟨c0, c1, c2, ?_, ?_, ?_, e3⟩
    ·rw [show (i + 1) * 3 = i * 3 + 1 + 1 + 1 by omega]; simpa using e0
    ·rw [show (i + 1) * 3 + 1 = i * 3 + 1 + 1 + 1 + 1 by omega]; simpa using e1
    ·rw [show (i + 1) * 3 + 2 = i * 3 + 2 + 1 + 1 + 1 by omega]; simpa using e2
  ·cases hx
theorem reads_sl (h : Rel μ s w) {z : Nat} {x : AV} {v : Value} {l : List AV} (hx : readsA s z x = some l) (hv : VR μ x v) (hcap : ∀ o off n c, x = .sl o off n c → Nat.ble n c = true) : ∃ n m, Sl w z v n m ∧ VRs μ l m ∧ l.length = n * z := by
 obtain ⟨m, h1, h2, h3⟩ := reads_run h hx hv (fun _ _ _ _ _ => .inr trivial)
 have hlen := h1.length
 rcases h3 with ⟨rfl, rfl, rfl⟩ | ⟨o, off, n, c, c', p, rfl, hl, hm, rfl, hcell⟩
 ·have : m = [] := List.eq_nil_of_length_eq_zero (by simpa using hlen.symm)
  subst this
  exact ⟨0, [], Sl.nil_ w z, h1, by simp⟩
 ·have hnc := hcap o off n c rfl
  rw [Nat.ble_eq] at hnc
  simp only [VR] at hv
  obtain ⟨p', c2, hm', e, k1, k2⟩ := hv
  rw [hm] at hm'
  cases hm'
  simp only [Value.slice.injEq, true_and] at e
  obtain ⟨_, rfl⟩ := e
  have hc : n ≤ c' ∧ c' < big := by
   by_cases e : c < big
   ·rw [k1 e]; exact ⟨hnc, e⟩
   ·have := k2 e; exact ⟨this.1, this.2.1⟩
  have hblk : p.blk < w.heap.size := by
   simp only [readsA] at hx
   split at hx
   ·next ho =>
    obtain ⟨bb, hbb⟩ := (h.obj o _ ho (by rw [hm]; simp)).at_ hm
    exact (Array.getElem?_eq_some_iff.1 hbb).1
   ·cases hx
  exact ⟨n, m, ⟨by omega, _, c', rfl, hc.1, by have := hc.2; unfold big at this; unfold maxLen; omega, fun _ => ⟨p.blk, p.base + off, rfl, hblk, hcell⟩⟩, h1, hl⟩
def capOk : AV → Bool
 | .sl _ _ n c => Nat.ble n c
 | _ => true
def prodA (args : List AV) (s : St) : Option (AV × St) :=
 match args with
 | [x] => match readsA s 3 x with
  | some l => match ratsA s l with
   | some qs => cond (capOk x && Nat.ble qs.length 1000) (some (giveA s (prodQ qs))) none
   | none => none
  | none => none
 | _ => none
theorem prod_ok {f : FuncId} (hco : enterOk P f = true) (hC : ∀ w v qs, FracsAt 512 w v qs → qs.length ≤ 1000 → Calls P f #[v] w fun e w' => ∃ u, e = .returned u ∧ CanNew w.heap.size w' u (prodQ qs) ∧ Below w.heap.size w w') : Answers P f prodA := by
 intro args s v s' h
 unfold prodA at h
 split at h
 ·next x =>
  split at h
  ·next l hl =>
   split at h
   ·next qs hqs =>
    obtain ⟨hc, h⟩ := cond_some h
    simp only [Bool.and_eq_true, Nat.ble_eq] at hc
    simp only [Option.some.injEq] at h
    obtain ⟨rfl, rfl⟩ : (giveA s (prodQ qs)).1 = v ∧ (giveA s (prodQ qs)).2 = s' := by rw [h]; exact ⟨rfl, rfl⟩
    refine ⟨⟨callOk_of hco, grows_give s _⟩, ?_⟩
    intro μ w vs n hR hvs hF
    simp only [VRs] at hvs
    obtain ⟨a, _, rfl, ha, rfl⟩ := hvs
    obtain ⟨k, m, h1, h2, h3⟩ := reads_sl hR hl ha (fun o off n' c e => by subst e; exact hc.1)
    obtain ⟨g1, g2⟩ := ratsA_at hR hqs h2
    have hk : k = qs.length := by have := h2.length; omega
    subst hk
    exact ret_frac hR hF (hC w a qs ⟨m, h1, g2⟩ hc.2)
   ·cases h
  ·cases h
 ·cases h
end
end
section
def numsA : List AV → Option (List Int)
 | [] => some []
 | .i .i64 n :: l => (numsA l).map (n :: ·)
 | _ => none
def intsA (s : St) (x : AV) : Option (List Int) := match readsA s 1 x with
 | some l => cond (capOk x) (numsA l) none
 | none => none
def gramL (s : St) : List AV → Option (List Gr)
 | [] => some []
 | x :: .i .i64 k :: l => match intsA s x, gramL s l with
  | some g, some r => some ((g, k) :: r)
  | _, _ => none
 | _ => none
def gramsA (s : St) (x : AV) : Option (List Gr) := match readsA s 2 x with
 | some l => cond (capOk x) (gramL s l) none
 | none => none
def langA (s : St) : AV → Option (Int × Int × List Gr × Int × Rat)
 | .agg [.i .i64 O, .i .i64 V, lv, .i .i64 k, .b neg, x, y, .snil] => match gramsA s lv, natA s x, natA s y with
  | some gs, some n, some d => cond (Nat.blt n (2 ^ 64) && Nat.blt d (2 ^ 64)) (some (O, V, gs, k, fracVal neg n d)) none
  | _, _, _ => none
 | _ => none

section
variable {P : Program} {μ : Mu} {s : St} {w w' : World}
theorem numsA_at : ∀ {l : List AV} {m : List Value} {ns : List Int}, numsA l = some ns → VRs μ l m → m = ns.map (Value.int .i64)
 | [], m, ns, hx, hv => by
  simp only [numsA, Option.some.injEq] at hx
  subst hx
  simp only [VRs] at hv
  subst hv
  rfl
 | x :: l, m, ns, hx, hv => by
  obtain ⟨n, rfl⟩ : ∃ n, x = .i .i64 n := by
   cases x with
   | i k n => cases k with
    | i64 => exact ⟨n, rfl⟩
    | _ => simp [numsA] at hx
   | _ => simp [numsA] at hx
  ·simp only [numsA, Option.map_eq_some_iff] at hx
   obtain ⟨ns', h1, rfl⟩ := hx
   simp only [VRs, VR] at hv
   obtain ⟨y, ys, rfl, rfl, h2⟩ := hv
   rw [numsA_at h1 h2]
   rfl
theorem intsA_at (h : Rel μ s w) {x : AV} {v : Value} {ns : List Int} (hx : intsA s x = some ns) (hv : VR μ x v) : IntsAt w v ns := by
 unfold intsA at hx
 split at hx
 ·next l hl =>
  obtain ⟨hc, hx⟩ := cond_some hx
  obtain ⟨n, m, h1, h2, h3⟩ := reads_sl h hl hv (fun o off n' c e => by subst e; exact hc)
  have e := numsA_at hx h2
  subst e
  have hn : n = ns.length := by have := h2.length; simp at this; omega
  subst hn
  exact h1
 ·cases hx
theorem gramL_at (h : Rel μ s w) : ∀ {l : List AV} {m : List Value} {gs : List Gr}, gramL s l = some gs → VRs μ l m → m.length = gs.length * 2 ∧ ∀ (i : Nat) (g : Gr), gs[i]? = some g → ∃ c0, m[i * 2]? = some c0 ∧ m[i * 2 + 1]? = some (.int .i64 g.2) ∧ IntsAt w c0 g.1
 | [], m, gs, hx, hv => by
  simp only [gramL, Option.some.injEq] at hx
  subst hx
  simp only [VRs] at hv
  subst hv
  simp
 | [_], _, _, hx, _ => by simp [gramL] at hx
 | a :: b :: l, m, gs, hx, hv => by
  obtain ⟨n, rfl⟩ : ∃ n, b = .i .i64 n := by
   cases b with
   | i k n => cases k with
    | i64 => exact ⟨n, rfl⟩
    | _ => simp [gramL] at hx
   | _ => simp [gramL] at hx
  ·simp only [gramL] at hx
   split at hx
   ·next g r hg hr =>
    simp only [Option.some.injEq] at hx
    subst hx
    simp only [VRs, VR] at hv
    obtain ⟨y0, _, rfl, g0, y1, m', rfl, rfl, hl⟩ := hv
    obtain ⟨k1, k2⟩ := gramL_at h hr hl
    refine ⟨by simp [k1]; omega, fun i g' hg' => ?_⟩
    cases i with
    | zero =>
     simp at hg'
     subst hg'
     exact ⟨y0, rfl, rfl, intsA_at h hg g0⟩
    | succ i =>
     obtain ⟨c0, e0, e1, e3⟩ := k2 i g' (by simpa using hg')
     refine ⟨c0, ?_, ?_, e3⟩
     ·rw [show (i + 1) * 2 = i * 2 + 1 + 1 by omega]; simpa using e0
     ·rw [show (i + 1) * 2 + 1 = i * 2 + 1 + 1 + 1 by omega]; simpa using e1
   ·cases hx
theorem gramsA_at (h : Rel μ s w) {x : AV} {v : Value} {gs : List Gr} (hx : gramsA s x = some gs) (hv : VR μ x v) : GramsAt w v gs := by
 unfold gramsA at hx
 split at hx
 ·next l hl =>
  obtain ⟨hc, hx⟩ := cond_some hx
  obtain ⟨n, m, h1, h2, h3⟩ := reads_sl h hl hv (fun o off n' c e => by subst e; exact hc)
  obtain ⟨g1, g2⟩ := gramL_at h hx h2
  have hn : n = gs.length := by have := h2.length; omega
  subst hn
  exact ⟨m, h1, g2⟩
 ·cases hx
theorem langA_at (h : Rel μ s w) {x : AV} {v : Value} {O V : Int} {gs : List Gr} {k : Int} {a : Rat} (hx : langA s x = some (O, V, gs, k, a)) (hv : VR μ x v) :
  ∃ lv b A A' m c m' c', v = langV O V lv k b A A' m c m' c' (.slice none 0 0) ∧ LangAt w lv gs b A A' m c m' c' a (.slice none 0 0) [] := by
 unfold langA at hx
 split at hx
 ·next O' V' lv k' neg x y =>
  split at hx
  ·next gs' n d hg hn hd =>
   obtain ⟨hc, hx⟩ := cond_some hx
   simp only [Bool.and_eq_true, Nat.blt_eq] at hc
   simp only [Option.some.injEq, Prod.mk.injEq] at hx
   obtain ⟨rfl, rfl, rfl, rfl, rfl⟩ := hx
   simp only [VR, VRs] at hv
   obtain ⟨l, rfl, y0, _, rfl, rfl, y1, _, rfl, rfl, y2, _, rfl, h2, y3, _, rfl, rfl, y4, _, rfl, rfl, y5, _, rfl, h5, y6, _, rfl, h6, y7, _, rfl, rfl, rfl⟩ := hv
   have a1 := natA_at h hn h5
   have a2 := natA_at h hd h6
   obtain ⟨A, m, c, rfl, _⟩ := a1.len
   obtain ⟨A', m', c', rfl, _⟩ := a2.len
   refine ⟨y2, neg, A, A', m, c, m', c', rfl, gramsA_at h hg h2, ?_, ⟨[], Sl.nil_ _ _, fun i q hq => by cases hq⟩, by simp⟩
   obtain ⟨l, d1, t1, rfl⟩ := a1
   obtain ⟨l', d2, t2, rfl⟩ := a2
   exact ⟨neg, _, _, l, l', rfl, d1, d2, rfl, hc.1, hc.2, by have := t1.length_le hc.1; omega, by have := t2.length_le hc.2; omega⟩
  ·cases hx
 ·cases hx

def gcheckA (args : List AV) (s : St) : Option (AV × St) :=
 match args with
 | [x] => match langA s x with
  | some (O, V, gs, k, a) => some (.i .i64 (checkE O V gs k a []), s)
  | _ => none
 | _ => none
theorem gcheck_ok {f : FuncId} (hco : enterOk P f = true) (hC : ∀ (w : World) (O V : Int) (lv : Value) (gs : List Gr) (k : Int) (s : Bool) (A A' : Option Addr) (m c m' c' : Nat) (mv : Value) (a : Rat) (mix : List Rat), LangAt w lv gs s A A' m c m' c' a mv mix → Calls P f #[langV O V lv k s A A' m c m' c' mv] w fun e w' => e = .returned (.int .i64 (checkE O V gs k a mix)) ∧ Below w.heap.size w w') : Answers P f gcheckA := by
 intro args s v s' h
 unfold gcheckA at h
 split at h
 ·next x =>
  split at h
  ·next O V gs k a hq =>
   simp only [Option.some.injEq, Prod.mk.injEq] at h
   obtain ⟨rfl, rfl⟩ := h
   refine ⟨⟨callOk_of hco, Grows.refl s⟩, ?_⟩
   intro μ w vs n hR hvs hF
   simp only [VRs] at hvs
   obtain ⟨y, _, rfl, ha, rfl⟩ := hvs
   obtain ⟨lv, b, A, A', m, c, m', c', rfl, hL⟩ := langA_at hR hq ha
   exact ret_val hR (by simp [VR]) (hC w O V lv gs k b A A' m c m' c' _ a [] hL)
  ·cases h
 ·cases h

def giveL (s : St) : List Rat → List AV × St
 | [] => ([], s)
 | q :: qs => (.b (isNeg q) :: .nat s.nx :: .nat (s.nx + 1) :: (giveL (giveA s q).2 qs).1, (giveL (giveA s q).2 qs).2)
theorem grows_giveL : ∀ (qs : List Rat) (s : St), Grows s (giveL s qs).2
 | [], s => Grows.refl s
 | q :: qs, s => (grows_give s q).trans (grows_giveL qs _)
theorem giveL_flat : ∀ (qs : List Rat) (s : St), (giveL s qs).1.all flat = true
 | [], _ => rfl
 | q :: qs, s => by simp only [giveL, List.all_cons, flat, Bool.true_and]; exact giveL_flat qs _
theorem giveL_ok : ∀ (qs : List Rat) {μ : Mu} {s : St} (_ : Rel μ s w) (xs : List Value) (_ : xs.length = qs.length * 3) (_ : ∀ (i : Nat) (q : Rat), qs[i]? = some q → ∃ A m c A' m' c', xs[i * 3]? = some (.bool (isNeg q)) ∧ xs[i * 3 + 1]? = some (.slice A m c) ∧ xs[i * 3 + 2]? = some (.slice A' m' c') ∧ CanAt w (.agg #[.bool (isNeg q), .slice A m c, .slice A' m' c']) q) (_ : Fresh μ s (giveL s qs).2),
  ∃ μ', Rel μ' (giveL s qs).2 w ∧ Stp μ s w μ' (giveL s qs).2 w ∧ VRs μ' (giveL s qs).1 xs
 | [], μ, s, h, xs, hl, _, _ => by
  have : xs = [] := List.eq_nil_of_length_eq_zero (by simpa using hl)
  subst this
  exact ⟨μ, h, Stp.refl μ s w, VRs.nil_⟩
 | q :: qs, μ, s, h, xs, hl, hx, hf => by
  obtain ⟨A, m, c, A', m', c', e0, e1, e2, e3⟩ := hx 0 q rfl
  obtain ⟨x0, x1, x2, xs, rfl⟩ : ∃ x0 x1 x2 ys, xs = x0 :: x1 :: x2 :: ys := by
   match xs, hl with
   | x0 :: x1 :: x2 :: ys, _ => exact ⟨x0, x1, x2, ys, rfl⟩
   | [], hl => simp at hl
   | [_], hl => simp at hl; omega
   | [_, _], hl => simp at hl; omega
  simp only [Nat.zero_mul, List.getElem?_cons_zero, Nat.zero_add, List.getElem?_cons_succ, Option.some.injEq] at e0 e1 e2
  subst e0 e1 e2
  have f1 : Fresh μ s (giveA s q).2 := fun o h1 h2 => hf o h1 (Nat.lt_of_lt_of_le h2 (grows_giveL qs _).1)
  obtain ⟨μ1, r1, t1, v1⟩ := give_ok h e3 f1
  have f2 : Fresh μ1 (giveA s q).2 (giveL (giveA s q).2 qs).2 := fun o h1 h2 => by
   cases e : μ1 o with
   | none => rfl
   | some l =>
    have := t1.dom o (hf o (Nat.le_trans (grows_give s q).1 h1) h2) (by rw [e]; simp)
    omega
  obtain ⟨μ2, r2, t2, v2⟩ := giveL_ok qs r1 xs (by simp at hl; omega) (fun i q' hq' => by
   obtain ⟨A, m, c, A', m', c', e0, e1, e2, e3⟩ := hx (i + 1) q' (by simpa using hq')
   rw [show (i + 1) * 3 = i * 3 + 1 + 1 + 1 by omega] at e0
   rw [show (i + 1) * 3 + 1 = i * 3 + 1 + 1 + 1 + 1 by omega] at e1
   rw [show (i + 1) * 3 + 2 = i * 3 + 2 + 1 + 1 + 1 by omega] at e2
   exact ⟨A, m, c, A', m', c', by simpa using e0, by simpa using e1, by simpa using e2, e3⟩) f2
  refine ⟨μ2, r2, t1.trans t2, ?_⟩
  have v1 := v1.mono t2.sub
  simp only [giveA, VR] at v1
  obtain ⟨l, e, v1⟩ := v1
  simp only [Value.agg.injEq] at e
  have e : l = [.bool (isNeg q), .slice A m c, .slice A' m' c'] := by
   have := congrArg Array.toList e
   simpa using this.symm
  subst e
  simp only [VRs] at v1
  obtain ⟨_, _, a1, b1, _, _, a2, b2, _, _, a3, b3, _⟩ := v1
  simp only [List.cons.injEq] at a1 a2 a3
  obtain ⟨rfl, rfl⟩ := a1
  obtain ⟨rfl, rfl⟩ := a2
  obtain ⟨rfl, rfl⟩ := a3
  exact VRs.cons b1 (VRs.cons b2 (VRs.cons b3 v2))

def growA (s : St) (t : TypeId) (qs : List Rat) : AV × St := (.sl (giveL s qs).2.nx 0 qs.length qs.length, (giveL s qs).2.new (.cells (giveL s qs).1 t false))
theorem grows_grow (s : St) (t : TypeId) (qs : List Rat) : Grows s (growA s t qs).2 := (grows_giveL qs s).trans (Grows.new _ _)
theorem grow_ok (h : Rel μ s w) (hb : Below w.heap.size w w') {b : Nat} {qs : List Rat} (hbs : w.heap.size ≤ b) (hF : FArc w' b qs) (hq : qs.length < big) (hf : Fresh μ s (growA s 27 qs).2) :
  ∃ μ', Rel μ' (growA s 27 qs).2 w' ∧ Stp μ s w μ' (growA s 27 qs).2 w' ∧ VR μ' (growA s 27 qs).1 (.slice (some ⟨b, 0, none⟩) qs.length qs.length) := by
 obtain ⟨xs, hB, hxl, hnd, hx⟩ := hF
 have f1 : Fresh μ s (giveL s qs).2 := fun o h1 h2 => hf o h1 (Nat.lt_of_lt_of_le h2 (Grows.new _ _).1)
 obtain ⟨μ1, r1, t1, v1⟩ := giveL_ok qs (h.below hb) xs hxl hx f1
 have hn : μ1 (giveL s qs).2.nx = none := by
  cases e : μ1 (giveL s qs).2.nx with
  | none => rfl
  | some l =>
   have := t1.dom _ (hf _ (grows_giveL qs s).1 (by show (giveL s qs).2.nx < (giveL s qs).2.nx + 1; omega)) (by rw [e]; simp)
   omega
 have T := (Stp.below μ s hb).trans t1
 have hs := Mu.sub_with (.at_ ⟨b, 0, xs.length⟩) hn
 have hfree : ∀ o x' p', (giveL s qs).2.h.get o = some x' → μ1 o = some (.at_ p') → p'.blk < w.heap.size := fun o x' p' e m => by
  rcases t1.own o x' p' e m with h1 | ⟨o0, x0, p0, h1, h2, h3⟩
  ·have := (r1.obj o x' e (by rw [m]; simp)).at_ m
   obtain ⟨bb, hbb⟩ := this
   have := (Array.getElem?_eq_some_iff.1 hbb).1
   omega
  ·obtain ⟨bb, hbb⟩ := (h.obj o0 x0 h1 (by rw [h2]; simp)).at_ h2
   have := (Array.getElem?_eq_some_iff.1 hbb).1
   omega
 have R := r1.adopt hn (.cells (giveL s qs).1 27 false) ⟨b, 0, xs.length⟩ (by
   simp only [OR]
   refine ⟨_, xs.toArray, Mu.with_same _ _ _, hB, by simp, ⟨giveL_flat qs s, ?_⟩, fun i x hi => ?_⟩
   ·rw [List.all_eq_true]
    intro x hx'
    have := hnd x (by simpa using hx')
    cases x <;> first | rfl | (rename_i k _; cases k <;> first | rfl | exact absurd this (by simp [NoDig]))
   ·obtain ⟨y, hy, hv⟩ := v1.get hi
    exact ⟨y, by simpa using hy, hv.mono hs⟩)
  (fun o x' p' e m => by have := hfree o x' p' e m; simp only; omega)
  (fun o n A m c e m' => by
   have := r1.obj o _ e (by rw [m']; simp)
   simp only [OR] at this
   obtain ⟨A', m2, c', g1, g2⟩ := this
   rw [m'] at g1
   cases g1
   exact g2.offBlk hB hnd)
  (fun n e => by cases e)
 refine ⟨_, R, ⟨T.sub.trans hs, fun o h1 h2 => ?_, Nat.le_trans T.nx (Nat.le_succ _), T.os, T.tape, T.output, T.size, T.blk, fun o x p e m => ?_, fun o h1 h2 => ?_⟩, ?_⟩
 ·by_cases e : o = (giveL s qs).2.nx
  ·subst e; exact ⟨T.nx, Nat.lt_succ_self _⟩
  ·rw [Mu.with_ne _ _ e] at h2
   have := T.dom o h1 h2
   exact ⟨this.1, Nat.lt_succ_of_lt this.2⟩
 ·simp only [growA, St.new, Tr.get_set] at e
  split at e
  ·next a => subst a; rw [Mu.with_same] at m; cases m; exact .inl hbs
  ·next a => rw [Mu.with_ne _ _ a] at m; exact T.own o x p e m
 ·have := T.nx
  simp only [growA, St.new]
  rw [Tr.get_set_ne _ _ (by omega)]
  exact T.keep o h1 h2
 ·simp only [growA, VR]
  exact ⟨_, _, Mu.with_same _ _ _, rfl, fun _ => rfl, fun hn => absurd hq hn⟩

def growAdd (args : List AV) (s : St) : Option (AV × St) :=
 match args with
 | [x, y] => match langA s x, intsA s y with
  | some (O, V, gs, k, a), some hl =>
   cond (decide (0 ≤ O) && decide (0 ≤ V) && decide (V ≤ 8) && decide (k = 1) && decide (histE O V gs 1 a [] hl = 0))
    (some (.tup [(growA s 27 (addedQ (totN O.toNat gs O.toNat hl) V.toNat a)).1, .i .i64 0], (growA s 27 (addedQ (totN O.toNat gs O.toNat hl) V.toNat a)).2)) none
  | _, _ => none
 | _ => none
theorem growAdd_ok {f : FuncId} (hco : enterOk P f = true) (hC : ∀ (w : World) (O v : Nat) (lv : Value) (gs : List Gr) (s : Bool) (A A' : Option Addr) (m c m' c' : Nat) (mv : Value) (a : Rat) (mix : List Rat) (hv : Value) (hl : List Int), LangAt w lv gs s A A' m c m' c' a mv mix → IntsAt w hv hl → histE O v gs 1 a mix hl = 0 → v ≤ 8 →
  Calls P f #[langV O v lv 1 s A A' m c m' c' mv, hv] w (RowOk w v (addedQ (totN O gs O hl) v a))) : Answers P f growAdd := by
 intro args s v s' h
 unfold growAdd at h
 split at h
 ·next x y =>
  split at h
  ·next O V gs k a hl hq hi =>
   obtain ⟨hc, h1⟩ := cond_some h
   clear h
   simp only [Bool.and_eq_true, decide_eq_true_eq] at hc
   obtain ⟨⟨⟨⟨c1, c2⟩, c3⟩, ck⟩, c5⟩ := hc
   subst ck
   simp only [Option.some.injEq, Prod.mk.injEq] at h1
   obtain ⟨rfl, rfl⟩ := h1
   refine ⟨⟨callOk_of hco, grows_grow s _ _⟩, ?_⟩
   intro μ w vs n hR hvs hF
   simp only [VRs] at hvs
   obtain ⟨x', _, rfl, ha, y', _, rfl, hb, rfl⟩ := hvs
   obtain ⟨lv, b, A, A', m, c, m', c', rfl, hL⟩ := langA_at hR hq ha
   have hI := intsA_at hR hi hb
   obtain ⟨O, rfl⟩ := Int.eq_ofNat_of_zero_le c1
   obtain ⟨V, rfl⟩ := Int.eq_ofNat_of_zero_le c2
   simp only [Int.toNat_natCast] at hF ⊢
   refine CallsIn.mono (callsIn_wide.2 (hC w O V lv gs b A A' m c m' c' _ a [] y' hl hL hI c5 (by omega))) ?_
   rintro e w' ⟨b', rfl, h1, h2, h3⟩
   have hlen : (addedQ (totN O gs O hl) V a).length = V + 1 := by simp [addedQ]
   obtain ⟨μ', r, t, hv⟩ := grow_ok hR h3 h1 h2 (by rw [hlen]; unfold big; omega) hF
   rw [hlen] at hv
   exact ⟨_, μ', rfl, r, t, by simp only [VR]; exact ⟨[_, .int .i64 0], rfl, VRs.cons hv (VRs.cons (by simp [VR]) VRs.nil_)⟩⟩
  ·cases h
 ·cases h
end
end
section
def pick (f : FuncId) : List (FuncId × (List AV → St → Option (AV × St))) → Option (List AV → St → Option (AV × St))
 | [] => none
 | p :: l => cond (Nat.beq f p.1) (some p.2) (pick f l)
theorem pick_ok {P : Program} {f : FuncId} {g : List AV → St → Option (AV × St)} : ∀ {l : List (FuncId × (List AV → St → Option (AV × St)))}, (∀ p ∈ l, Answers P p.1 p.2) → pick f l = some g → Answers P f g
 | [], _, h => by cases h
 | p :: l, ha, h => by
  simp only [pick] at h
  cases e : Nat.beq f p.1 with
  | true =>
   rw [e] at h
   simp only [cond_true, Option.some.injEq] at h
   subst h
   rw [Nat.eq_of_beq_eq_true e]
   exact ha p (List.mem_cons_self ..)
  | false =>
   rw [e] at h
   exact pick_ok (fun q hq => ha q (List.mem_cons_of_mem _ hq)) h

theorem kbits : (0 : Nat) < 512 := by omega
section
variable {P : Program}
def fracsA (s : St) (x : AV) : Option (List Rat) := match readsA s 3 x with
 | some l => match ratsA s l with
  | some qs => cond (capOk x && Nat.ble qs.length 1000) (some qs) none
  | none => none
 | none => none
theorem fracsA_at {μ : Mu} {s : St} {w : World} (h : Rel μ s w) {x : AV} {v : Value} {qs : List Rat} (hx : fracsA s x = some qs) (hv : VR μ x v) : FracsAt 512 w v qs ∧ qs.length ≤ 1000 := by
 unfold fracsA at hx
 split at hx
 ·next l hl =>
  split at hx
  ·next qs' hqs =>
   obtain ⟨hc, hx⟩ := cond_some hx
   simp only [Bool.and_eq_true, Nat.ble_eq] at hc
   simp only [Option.some.injEq] at hx
   subst hx
   obtain ⟨k, m, h1, h2, h3⟩ := reads_sl h hl hv (fun o off n' c e => by subst e; exact hc.1)
   obtain ⟨g1, g2⟩ := ratsA_at h hqs h2
   have hk : k = qs'.length := by have := h2.length; omega
   subst hk
   exact ⟨⟨m, h1, g2⟩, hc.2⟩
  ·cases hx
 ·cases hx
def distrA (args : List AV) (s : St) : Option (AV × St) :=
 match args with
 | [x] => match fracsA s x with
  | some qs => some (.b (distr qs), s)
  | none => none
 | _ => none
theorem distr_ok {f : FuncId} (hco : enterOk P f = true) (hC : ∀ w v qs, FracsAt 512 w v qs → qs.length ≤ 1000 → Calls P f #[v] w fun e w' => e = .returned (.bool (distr qs)) ∧ Below w.heap.size w w') : Answers P f distrA := by
 intro args s v s' h
 unfold distrA at h
 split at h
 ·next x =>
  split at h
  ·next qs hqs =>
   simp only [Option.some.injEq, Prod.mk.injEq] at h
   obtain ⟨rfl, rfl⟩ := h
   refine ⟨⟨callOk_of hco, Grows.refl s⟩, ?_⟩
   intro μ w vs n hR hvs hF
   simp only [VRs] at hvs
   obtain ⟨a, _, rfl, ha, rfl⟩ := hvs
   obtain ⟨h1, h2⟩ := fracsA_at hR hqs ha
   exact ret_val hR (by simp [VR]) (hC w a qs h1 h2)
  ·cases h
 ·cases h
def bitsA (args : List AV) (s : St) : Option (AV × St) :=
 match args with
 | [.i .u64 x] => cond (decide (0 ≤ x) && decide (x ≤ 18446744073709551615)) (some (.i .i64 (Lib.bitLen x.toNat), s)) none
 | _ => none
theorem bits_ok {f : FuncId} (hco : enterOk P f = true) (hC : ∀ (x : Int) (w : World), 0 ≤ x → x ≤ 18446744073709551615 → Calls P f #[.int .u64 x] w fun e w' => e = .returned (.int .i64 (Lib.bitLen x.toNat)) ∧ w' = w) : Answers P f bitsA := by
 intro args s v s' h
 unfold bitsA at h
 split at h
 ·next x =>
  obtain ⟨hc, h⟩ := cond_some h
  simp only [Bool.and_eq_true, decide_eq_true_eq] at hc
  simp only [Option.some.injEq, Prod.mk.injEq] at h
  obtain ⟨rfl, rfl⟩ := h
  refine ⟨⟨callOk_of hco, Grows.refl s⟩, ?_⟩
  intro μ w vs n hR hvs hF
  simp only [VRs, VR] at hvs
  obtain ⟨a, _, rfl, rfl, rfl⟩ := hvs
  exact ret_val hR (by simp [VR]) ((hC x w hc.1 hc.2).mono fun e w' ⟨h1, h2⟩ => ⟨h1, by subst h2; exact Below.refl _ _⟩)
 ·cases h
end
end
end Go.Proofs.YtlhankdkhiilkaaGreat
