/- Lemmas on the way: Ev1, Ev2. -/
import Derived.Test.YtlhankdkhiilkaaGreatI32
set_option linter.unusedSimpArgs false
set_option linter.unusedVariables false
set_option linter.unusedSectionVars false
set_option linter.unnecessarySimpa false
namespace Go.Proofs.YtlhankdkhiilkaaGreat
open Go.RowKit
section
theorem beqF {a b : Nat} : Nat.beq a b = false ↔ a ≠ b := by
 constructor
 ·exact Nat.ne_of_beq_eq_false
 ·intro h; cases e : Nat.beq a b with
  | false => rfl
  | true => exact absurd (Nat.eq_of_beq_eq_true e) h

namespace Tr
variable {α : Type}
theorem get_put (x : Option α) : ∀ (f : Nat) (t : Tr α) (k j : Nat), k < f → (put x f t k).get j = if j = k then x else t.get j := by
 intro f
 induction f with
 | zero => intro t k j h; omega
 | succ f ih =>
  intro t k j h
  rcases Nat.eq_zero_or_pos k with hk | hk
  ·subst hk
   cases t <;> (simp only [put, Nat.beq_refl, cond_true]; rcases Nat.eq_zero_or_pos j with hj | hj)
   ·subst hj; simp [get]
   ·simp [get, show Nat.beq j 0 = false from by rw [beqF]; omega, show j ≠ 0 by omega]
   ·subst hj; simp [get]
   ·simp [get, show Nat.beq j 0 = false from by rw [beqF]; omega, show j ≠ 0 by omega]
  ·have hk0 : Nat.beq k 0 = false := by rw [beqF]; omega
   rcases Nat.mod_two_eq_zero_or_one k with h2 | h2
   ·have hb : Nat.beq (k % 2) 1 = false := by rw [h2]; rfl
    have hlt : k / 2 - 1 < f := by omega
    cases t <;> simp only [put, hk0, hb, cond_false, get] <;>
    ·rcases Nat.eq_zero_or_pos j with hj | hj
     ·subst hj; simp [show ¬ (0 = k) by omega, get]
     ·have hj0 : Nat.beq j 0 = false := by rw [beqF]; omega
      simp only [hj0, cond_false]
      rcases Nat.mod_two_eq_zero_or_one j with h3 | h3
      ·rw [show Nat.beq (j % 2) 1 = false from by rw [h3]; rfl]
       simp only [cond_false]
       rw [ih _ _ _ hlt]
       by_cases e : j = k
       ·subst e; simp
       ·rw [if_neg e, if_neg (by omega)]; try rfl
      ·rw [show Nat.beq (j % 2) 1 = true from by rw [h3]; rfl]
       simp [show ¬ (j = k) by omega, get]
   ·have hb : Nat.beq (k % 2) 1 = true := by rw [h2]; rfl
    have hlt : k / 2 < f := by omega
    cases t <;> simp only [put, hk0, hb, cond_false, cond_true, get] <;>
    ·rcases Nat.eq_zero_or_pos j with hj | hj
     ·subst hj; simp [show ¬ (0 = k) by omega, get]
     ·have hj0 : Nat.beq j 0 = false := by rw [beqF]; omega
      simp only [hj0, cond_false]
      rcases Nat.mod_two_eq_zero_or_one j with h3 | h3
      ·rw [show Nat.beq (j % 2) 1 = false from by rw [h3]; rfl]
       simp [show ¬ (j = k) by omega, get]
      ·rw [show Nat.beq (j % 2) 1 = true from by rw [h3]; rfl]
       simp only [cond_true]
       rw [ih _ _ _ hlt]
       by_cases e : j = k
       ·subst e; simp
       ·rw [if_neg e, if_neg (by omega)]; try rfl
theorem get_set (t : Tr α) (k j : Nat) (x : Option α) : (t.set k x).get j = if j = k then x else t.get j := get_put x (k + 1) t k j (Nat.lt_succ_self k)
theorem get_set_same (t : Tr α) (k : Nat) (x : Option α) : (t.set k x).get k = x := by rw [get_set, if_pos rfl]
theorem get_set_ne (t : Tr α) {k j : Nat} (x : Option α) (h : j ≠ k) : (t.set k x).get j = t.get j := by rw [get_set, if_neg h]
theorem ofList_go (l : List α) : ∀ (t : Tr α) (n : Nat), (∀ j, n ≤ j → t.get j = none) →
  ∀ j, (l.foldl (fun (p : Tr α × Nat) x => (p.1.set p.2 (some x), p.2 + 1)) (t, n)).1.get j = if j < n then t.get j else l[j - n]? := by
 induction l with
 | nil =>
  intro t n h j
  simp only [List.foldl_nil]
  by_cases e : j < n
  ·rw [if_pos e]
  ·rw [if_neg e, h j (by omega)]; simp
 | cons x l ih =>
  intro t n h j
  rw [List.foldl_cons, ih]
  ·by_cases e : j < n
   ·rw [if_pos (by omega), if_pos e, get_set_ne _ _ (by omega)]
   ·rw [if_neg e]
    by_cases e2 : j = n
    ·subst e2; rw [if_pos (by omega), get_set_same]; simp
    ·rw [if_neg (by omega), show j - n = (j - (n + 1)) + 1 by omega, List.getElem?_cons_succ]
  ·intro j hj
   rw [get_set_ne _ _ (by omega)]; exact h j (by omega)
theorem get_ofList (l : List α) (j : Nat) : (ofList l).get j = l[j]? := by
 unfold ofList
 rw [ofList_go l .nil 0 (fun _ _ => rfl) j]
 simp
end Tr

structure Pl where
 blk : Nat
 base : Nat
 tot : Nat
inductive Lc where
 | at_ (p : Pl)
 | val (A : Option Addr) (m c : Nat)
abbrev Mu := Nat → Option Lc
def Sub (μ μ' : Mu) : Prop := ∀ o l, μ o = some l → μ' o = some l
theorem Sub.refl (μ : Mu) : Sub μ μ := fun _ _ h => h
theorem Sub.trans {a b c : Mu} (h : Sub a b) (k : Sub b c) : Sub a c := fun o l e => k o l (h o l e)

mutual
def VR (μ : Mu) : AV → Value → Prop
 | .b x, v => v = .bool x
 | .i k n, v => v = .int k n
 | .ptr o off, v => ∃ p, μ o = some (.at_ p) ∧ v = .pointer (some ⟨p.blk, p.base + off, none⟩)
 | .pnil, v => v = .pointer none
 | .sl o off len cap, v => ∃ p c, μ o = some (.at_ p) ∧ v = .slice (some ⟨p.blk, p.base + off, none⟩) len c ∧ (cap < big → c = cap) ∧ (¬ cap < big → len ≤ c ∧ c < big ∧ p.base + off + c * (cap - big) = p.tot)
 | .snil, v => v = .slice none 0 0
 | .nat o, v => ∃ A m c, μ o = some (.val A m c) ∧ v = .slice A m c
 | .mp o, v => ∃ p, μ o = some (.at_ p) ∧ v = .map (some p.blk)
 | .mnil, v => v = .map none
 | .fn f a c, v => ∃ a' c', v = .func (.func f) (List.toArray a') (List.toArray c') ∧ VRs μ a a' ∧ VRs μ c c'
 | .yl l, v => ∃ p, μ l = some (.at_ p) ∧ v = .func (.yield p.blk) #[] #[]
 | .fnil, v => v = .nilFunc
 | .ifc t x, v => ∃ y, v = .iface t y ∧ VR μ x y
 | .inil, v => v = .nilIface
 | .agg l, v => ∃ l', v = .agg (List.toArray l') ∧ VRs μ l l'
 | .tup l, v => ∃ l', v = .tuple (List.toArray l') ∧ VRs μ l l'
def VRs (μ : Mu) : List AV → List Value → Prop
 | [], l => l = []
 | x :: xs, l => ∃ y ys, l = y :: ys ∧ VR μ x y ∧ VRs μ xs ys
end

mutual
theorem VR.mono {μ μ' : Mu} (h : Sub μ μ') : ∀ (x : AV) {v : Value}, VR μ x v → VR μ' x v
 | .b _, _, e | .i _ _, _, e | .pnil, _, e | .snil, _, e | .mnil, _, e | .fnil, _, e | .inil, _, e => by simpa only [VR] using e
 | .ptr o _, _, e => by
  simp only [VR] at e ⊢
  obtain ⟨p, h1, h2⟩ := e
  exact ⟨p, h _ _ h1, h2⟩
 | .sl o _ _ _, _, e => by
  simp only [VR] at e ⊢
  obtain ⟨p, c, h1, h2⟩ := e
  exact ⟨p, c, h _ _ h1, h2⟩
 | .nat o, _, e => by
  simp only [VR] at e ⊢
  obtain ⟨A, m, c, h1, h2⟩ := e
  exact ⟨A, m, c, h _ _ h1, h2⟩
 | .mp o, _, e => by
  simp only [VR] at e ⊢
  obtain ⟨p, h1, h2⟩ := e
  exact ⟨p, h _ _ h1, h2⟩
 | .yl o, _, e => by
  simp only [VR] at e ⊢
  obtain ⟨p, h1, h2⟩ := e
  exact ⟨p, h _ _ h1, h2⟩
 | .fn f a c, _, e => by
  simp only [VR] at e ⊢
  obtain ⟨a', c', h0, h1, h2⟩ := e
  exact ⟨a', c', h0, VRs.mono h a h1, VRs.mono h c h2⟩
 | .ifc t x, _, e => by
  simp only [VR] at e ⊢
  obtain ⟨y, h0, h1⟩ := e
  exact ⟨y, h0, VR.mono h x h1⟩
 | .agg l, _, e => by
  simp only [VR] at e ⊢
  obtain ⟨y, h0, h1⟩ := e
  exact ⟨y, h0, VRs.mono h l h1⟩
 | .tup l, _, e => by
  simp only [VR] at e ⊢
  obtain ⟨y, h0, h1⟩ := e
  exact ⟨y, h0, VRs.mono h l h1⟩
theorem VRs.mono {μ μ' : Mu} (h : Sub μ μ') : ∀ (l : List AV) {m : List Value}, VRs μ l m → VRs μ' l m
 | [], _, e => by simpa only [VRs] using e
 | x :: xs, _, e => by
  simp only [VRs] at e ⊢
  obtain ⟨y, ys, h0, h1, h2⟩ := e
  exact ⟨y, ys, h0, VR.mono h x h1, VRs.mono h xs h2⟩
end

section
variable {μ : Mu}
theorem VRs.nil_ : VRs μ [] [] := by simp [VRs]
theorem VRs.cons {x : AV} {y : Value} {xs : List AV} {ys : List Value} (h : VR μ x y) (k : VRs μ xs ys) : VRs μ (x :: xs) (y :: ys) := by
 simp only [VRs]; exact ⟨y, ys, rfl, h, k⟩
theorem VRs.length : ∀ {l : List AV} {m : List Value}, VRs μ l m → l.length = m.length
 | [], _, e => by simp only [VRs] at e; subst e; rfl
 | x :: xs, _, e => by
  simp only [VRs] at e
  obtain ⟨y, ys, rfl, _, h⟩ := e
  simp [VRs.length h]
theorem VRs.get : ∀ {l : List AV} {m : List Value}, VRs μ l m → ∀ {i : Nat} {x : AV}, l[i]? = some x → ∃ y, m[i]? = some y ∧ VR μ x y
 | [], _, _, _, _, h => by simp at h
 | x :: xs, _, e, i, z, h => by
  simp only [VRs] at e
  obtain ⟨y, ys, rfl, h1, h2⟩ := e
  cases i with
  | zero => simp at h; subst h; exact ⟨y, by simp, h1⟩
  | succ i => simp at h ⊢; exact VRs.get h2 h
theorem VRs.of_get : ∀ {l : List AV} {m : List Value}, l.length = m.length → (∀ (i : Nat) (x : AV), l[i]? = some x → ∃ y, m[i]? = some y ∧ VR μ x y) → VRs μ l m
 | [], [], _, _ => VRs.nil_
 | [], _ :: _, h, _ => by simp at h
 | _ :: _, [], h, _ => by simp at h
 | x :: xs, y :: ys, h, k => by
  obtain ⟨y', h1, h2⟩ := k 0 x (by simp)
  simp at h1
  subst h1
  exact VRs.cons h2 (VRs.of_get (by simpa using h) fun i z hz => by simpa using k (i + 1) z (by simpa using hz))
theorem VRs.append {l l' : List AV} {m m' : List Value} (h : VRs μ l m) (k : VRs μ l' m') : VRs μ (l ++ l') (m ++ m') := by
 have hl := h.length
 refine VRs.of_get (by simp [hl, k.length]) fun i x hx => ?_
 rw [List.getElem?_append] at hx ⊢
 split at hx
 ·next e => rw [if_pos (by omega)]; exact h.get hx
 ·next e => rw [if_neg (by omega)]; rw [← hl]; exact k.get hx
theorem VRs.take {l : List AV} {m : List Value} (h : VRs μ l m) (n : Nat) : VRs μ (l.take n) (m.take n) := by
 refine VRs.of_get (by simp [h.length]) fun i x hx => ?_
 rw [List.getElem?_take] at hx ⊢
 split at hx
 ·next e => rw [if_pos e]; exact h.get hx
 ·simp at hx
theorem VRs.set {l : List AV} {m : List Value} (h : VRs μ l m) (i : Nat) {x : AV} {y : Value} (hx : VR μ x y) : VRs μ (l.set i x) (m.set i y) := by
 have hl := h.length
 refine VRs.of_get (by simp [hl]) fun j z hz => ?_
 rw [List.getElem?_set] at hz ⊢
 split at hz
 ·next e =>
  subst e
  split at hz
  ·next e2 => rw [if_pos rfl, if_pos (by omega)]; cases hz; exact ⟨y, rfl, hx⟩
  ·simp at hz
 ·next e => rw [if_neg e]; exact h.get hz
theorem VR.cells {x : AV} {v : Value} (h : VR μ x v) : VRs μ x.cells v.cells.toList := by
 cases x <;> simp only [VR] at h
 case agg l => obtain ⟨l', rfl, h⟩ := h; simpa [AV.cells, Value.cells] using h
 all_goals (simp only [AV.cells])
 case b => subst h; exact VRs.cons (by simp [VR]) VRs.nil_
 case i => subst h; exact VRs.cons (by simp [VR]) VRs.nil_
 case ptr => obtain ⟨p, h1, rfl⟩ := h; exact VRs.cons (by simp only [VR]; exact ⟨p, h1, rfl⟩) VRs.nil_
 case pnil => subst h; exact VRs.cons (by simp [VR]) VRs.nil_
 case sl => obtain ⟨p, c, h1, rfl, h2⟩ := h; exact VRs.cons (by simp only [VR]; exact ⟨p, c, h1, rfl, h2⟩) VRs.nil_
 case snil => subst h; exact VRs.cons (by simp [VR]) VRs.nil_
 case mp => obtain ⟨p, h1, rfl⟩ := h; exact VRs.cons (by simp only [VR]; exact ⟨p, h1, rfl⟩) VRs.nil_
 case mnil => subst h; exact VRs.cons (by simp [VR]) VRs.nil_
 case fn => obtain ⟨a, c, rfl, h1, h2⟩ := h; exact VRs.cons (by simp only [VR]; exact ⟨a, c, rfl, h1, h2⟩) VRs.nil_
 case yl => obtain ⟨p, h1, rfl⟩ := h; exact VRs.cons (by simp only [VR]; exact ⟨p, h1, rfl⟩) VRs.nil_
 case fnil => subst h; exact VRs.cons (by simp [VR]) VRs.nil_
 case ifc => obtain ⟨y, rfl, h1⟩ := h; exact VRs.cons (by simp only [VR]; exact ⟨y, rfl, h1⟩) VRs.nil_
 case inil => subst h; exact VRs.cons (by simp [VR]) VRs.nil_
 case tup => obtain ⟨y, rfl, h1⟩ := h; exact VRs.cons (by simp only [VR]; exact ⟨y, rfl, h1⟩) VRs.nil_
 case nat => obtain ⟨A, m, c, h1, rfl⟩ := h; exact VRs.cons (by simp only [VR]; exact ⟨A, m, c, h1, rfl⟩) VRs.nil_
end
end
theorem NatAt.keep {w w' : World} {v : Value} {n : Nat} (h : NatAt w v n) (hs : w.heap.size ≤ w'.heap.size)
  (hb : ∀ ad m c, v = .slice (some ad) m c → 0 < m → ad.block < w.heap.size → w'.heap[ad.block]? = w.heap[ad.block]?) : NatAt w' v n := by
 obtain ⟨l, ⟨⟨h0, A, c, h1, h2, h3, h4⟩, h5⟩, h6⟩ := h
 refine ⟨l, ⟨⟨h0, A, c, h1, h2, h3, fun hn => ?_⟩, h5⟩, h6⟩
 obtain ⟨b, off, rfl, hlt, hc⟩ := h4 hn
 refine ⟨b, off, rfl, Nat.lt_of_lt_of_le hlt hs, fun j u hu => ?_⟩
 have e := hb _ _ _ h1 hn hlt
 rw [← hc j u hu]
 exact World.cell?_of_block (w := w) e

def lsOf : LS → LoopState
 | .ready => .ready
 | .busy => .busy
 | .done => .done
 | .over => .exhausted
def TR (μ : Mu) (n : Nat) (T : Tr AV) (tm : Array Value) : Prop := tm.size = n ∧ ∀ t x, T.get t = some x → ∃ y, tm[t]? = some y ∧ VR μ x y
theorem TR.mono {μ μ' : Mu} {n : Nat} {T : Tr AV} {tm : Array Value} (h : TR μ n T tm) (hs : Sub μ μ') : TR μ' n T tm :=
 ⟨h.1, fun t x e => let ⟨y, h1, h2⟩ := h.2 t x e; ⟨y, h1, h2.mono hs⟩⟩
theorem TR.put {μ : Mu} {n : Nat} {T : Tr AV} {tm : Array Value} (h : TR μ n T tm) {d : Nat} (hd : d < n) {x : AV} {y : Value} (hx : VR μ x y) : TR μ n (T.set d (some x)) (tm.setIfInBounds d y) := by
 refine ⟨by simp [h.1], fun t z e => ?_⟩
 rw [Tr.get_set] at e
 split at e
 ·next e2 => subst e2; cases e; exact ⟨y, by simp [h.1, hd], hx⟩
 ·next e2 =>
  obtain ⟨u, h1, h2⟩ := h.2 t z e
  exact ⟨u, by rw [Array.getElem?_setIfInBounds_ne (Ne.symm e2)]; exact h1, h2⟩

def noDig : Value → Bool
 | .int .u32 _ => false
 | _ => true
theorem noDig_of_flat {μ : Mu} {x : AV} {v : Value} (h : VR μ x v) (hf : flat x = true) : noDig v = true := by
 cases x <;> simp only [VR] at h <;> simp only [flat] at hf
 case i k n => subst h; cases k <;> first | rfl | (simp [flat] at hf; done)
 all_goals first
  | (subst h; rfl)
  | (obtain ⟨_, _, rfl⟩ := h; rfl)
  | (obtain ⟨_, _, _, rfl, _⟩ := h; rfl)
  | (obtain ⟨_, _, _, _, rfl⟩ := h; rfl)
  | (obtain ⟨_, _, rfl, _⟩ := h; rfl)
  | (obtain ⟨_, rfl, _⟩ := h; rfl)
  | cases hf
theorem noDigs_of_flat {μ : Mu} : ∀ {l : List AV} {m : List Value}, VRs μ l m → l.all flat = true → m.all noDig = true
 | [], m, h, _ => by simp only [VRs] at h; subst h; rfl
 | x :: l, m, h, hf => by
  simp only [VRs] at h
  obtain ⟨y, ys, rfl, h1, h2⟩ := h
  simp only [List.all_cons, Bool.and_eq_true] at hf ⊢
  exact ⟨noDig_of_flat h1 hf.1, noDigs_of_flat h2 hf.2⟩

def EsR (μ : Mu) : List AE → List MapEntry → Prop
 | [], l => l = []
 | e :: es, l => ∃ k v l', l = ⟨k, v, e.born⟩ :: l' ∧ VR μ e.key k ∧ VR μ e.val v ∧ EsR μ es l'
theorem EsR.mono {μ μ' : Mu} (hs : Sub μ μ') : ∀ {es : List AE} {l : List MapEntry}, EsR μ es l → EsR μ' es l
 | [], _, h => h
 | _ :: _, _, ⟨k, v, l', e, h1, h2, h3⟩ => ⟨k, v, l', e, h1.mono hs, h2.mono hs, EsR.mono hs h3⟩

def OR (μ : Mu) (w : World) (o : Nat) : AO → Prop
 | .cells c t op => ∃ p cs, μ o = some (.at_ p) ∧ w.heap[p.blk]? = some (.cells cs t (0, 0)) ∧ cs.size = p.tot ∧ (c.all flat = true ∧ cs.toList.all noDig = true) ∧
   ∀ i x, c[i]? = some x → ∃ y, cs[p.base + i]? = some y ∧ VR μ x y
 | .map es clock => ∃ p l, μ o = some (.at_ p) ∧ w.heap[p.blk]? = some (.map l.toArray clock) ∧ EsR μ es l
 | .iter m since seen st => ∃ p m', μ o = some (.at_ p) ∧ p.base = 0 ∧ w.heap[p.blk]? = some (.mapIter m' since seen.toArray st) ∧
   (match m with
    | none => m' = none
    | some m => ∃ q, μ m = some (.at_ q) ∧ m' = some q.blk)
 | .loop st pe _ n T ps asn body ds => ∃ p q tm fn, μ o = some (.at_ p) ∧ μ ds = some (.at_ q) ∧ TR μ n T tm ∧
   w.heap[p.blk]? = some (.loop { state := lsOf st, pending := pe, fn, tmps := tm, params := ps.toArray, assign := asn, body, defers := q.blk })
 | .defs => ∃ p, μ o = some (.at_ p) ∧ w.heap[p.blk]? = some (.deferred (some []))
 | .nat n => ∃ A m c, μ o = some (.val A m c) ∧ NatAt w (.slice A m c) n

theorem OR.at_ {μ : Mu} {w : World} {o : Nat} {x : AO} {p : Pl} (h : OR μ w o x) (hm : μ o = some (.at_ p)) : ∃ b, w.heap[p.blk]? = some b := by
 cases x <;> simp only [OR] at h
 case cells => obtain ⟨p', cs, h1, h2, _⟩ := h; rw [hm] at h1; cases h1; exact ⟨_, h2⟩
 case map => obtain ⟨p', cs, h1, h2, _⟩ := h; rw [hm] at h1; cases h1; exact ⟨_, h2⟩
 case iter => obtain ⟨p', m', h1, _, h2, _⟩ := h; rw [hm] at h1; cases h1; exact ⟨_, h2⟩
 case loop => obtain ⟨p', q, tm, fn, h1, _, _, h2⟩ := h; rw [hm] at h1; cases h1; exact ⟨_, h2⟩
 case defs => obtain ⟨p', h1, h2⟩ := h; rw [hm] at h1; cases h1; exact ⟨_, h2⟩
 case nat => obtain ⟨A, m, c, h1, _⟩ := h; rw [hm] at h1; cases h1
theorem OR.keep {μ μ' : Mu} {w w' : World} {o : Nat} {x : AO} (h : OR μ w o x) (hs : Sub μ μ') (hz : w.heap.size ≤ w'.heap.size)
  (hb : ∀ p, μ o = some (.at_ p) → w'.heap[p.blk]? = w.heap[p.blk]?)
  (hv : ∀ A m c, μ o = some (.val A m c) → ∀ ad, A = some ad → 0 < m → ad.block < w.heap.size → w'.heap[ad.block]? = w.heap[ad.block]?) : OR μ' w' o x := by
 cases x <;> simp only [OR] at h ⊢
 case cells => obtain ⟨p, cs, h1, h2, h3, h4, h5⟩ := h; exact ⟨p, cs, hs _ _ h1, (hb p h1).trans h2, h3, h4, fun i x e => let ⟨y, a, b⟩ := h5 i x e; ⟨y, a, b.mono hs⟩⟩
 case map => obtain ⟨p, cs, h1, h2, h3⟩ := h; exact ⟨p, cs, hs _ _ h1, (hb p h1).trans h2, h3.mono hs⟩
 case iter m _ _ _ =>
  obtain ⟨p, m', h1, h0, h2, h3⟩ := h
  refine ⟨p, m', hs _ _ h1, h0, (hb p h1).trans h2, ?_⟩
  cases m with
  | none => exact h3
  | some m => obtain ⟨q, a, b⟩ := h3; exact ⟨q, hs _ _ a, b⟩
 case loop => obtain ⟨p, q, tm, fn, h1, h2, h3, h4⟩ := h; exact ⟨p, q, tm, fn, hs _ _ h1, hs _ _ h2, h3.mono hs, (hb p h1).trans h4⟩
 case defs => obtain ⟨p, h1, h2⟩ := h; exact ⟨p, hs _ _ h1, (hb p h1).trans h2⟩
 case nat =>
  obtain ⟨A, m, c, h1, h2⟩ := h
  refine ⟨A, m, c, hs _ _ h1, h2.keep hz fun ad m' c' e hm hlt => ?_⟩
  cases e
  exact hv _ m c h1 ad rfl hm hlt
theorem OR.val {μ : Mu} {w : World} {o : Nat} {x : AO} {A : Option Addr} {m c : Nat} (h : OR μ w o x) (hm : μ o = some (.val A m c)) : ∃ n, x = .nat n := by
 cases x <;> simp only [OR] at h
 case cells => obtain ⟨p', cs, h1, h2, _⟩ := h; rw [hm] at h1; cases h1
 case map => obtain ⟨p', cs, h1, h2, _⟩ := h; rw [hm] at h1; cases h1
 case iter => obtain ⟨p', m', h1, _, h2, _⟩ := h; rw [hm] at h1; cases h1
 case loop => obtain ⟨p', q, tm, fn, h1, _, _, h2⟩ := h; rw [hm] at h1; cases h1
 case defs => obtain ⟨p', h1, h2⟩ := h; rw [hm] at h1; cases h1
 case nat => exact ⟨_, rfl⟩

theorem nat_off {μ : Mu} {w : World} {o o' n : Nat} {x : AO} {A : Option Addr} {m c : Nat} {p : Pl} (h : OR μ w o (.nat n)) (hm : μ o = some (.val A m c)) (h' : OR μ w o' x) (hm' : μ o' = some (.at_ p)) (hx : ∀ n, x ≠ .nat n) : Off (.slice A m c) p.blk := by
 simp only [OR] at h
 obtain ⟨A', m', c', h1, h2⟩ := h
 rw [hm] at h1
 cases h1
 intro ad n' c'' e hpos eb
 cases e
 obtain ⟨l, ⟨⟨hl, A'', c2, e3, _, _, h4⟩, _⟩, _⟩ := h2
 cases e3
 obtain ⟨b, off, e4, hlt, hc⟩ := h4 hpos
 cases e4
 obtain ⟨d, hd⟩ : ∃ d, l[0]? = some d := ⟨_, List.getElem?_eq_getElem hpos⟩
 have hcell := hc 0 (dg d) (by rw [List.getElem?_map, hd]; rfl)
 simp only at eb
 subst eb
 simp only [World.cell?] at hcell
 cases x <;> simp only [OR] at h'
 case cells =>
  obtain ⟨p', cs, g1, g2, g3, g4, g5⟩ := h'
  rw [hm'] at g1
  cases g1
  rw [g2] at hcell
  simp only [Option.isSome_none, Bool.false_eq_true, if_false] at hcell
  have := g4.2
  rw [List.all_eq_true] at this
  have := this (dg d) (List.mem_of_getElem? (i := off + 0) (by rw [Array.getElem?_toList]; exact hcell))
  simp [noDig, dg] at this
 case map => obtain ⟨p', l, g1, g2, _⟩ := h'; rw [hm'] at g1; cases g1; rw [g2] at hcell; simp at hcell
 case iter => obtain ⟨p', m', g1, _, g2, _⟩ := h'; rw [hm'] at g1; cases g1; rw [g2] at hcell; simp at hcell
 case loop => obtain ⟨p', q, tm, fn, g1, _, _, g2⟩ := h'; rw [hm'] at g1; cases g1; rw [g2] at hcell; simp at hcell
 case defs => obtain ⟨p', g1, g2⟩ := h'; rw [hm'] at g1; cases g1; rw [g2] at hcell; simp at hcell
 case nat k => exact absurd rfl (hx k)

structure Rel (μ : Mu) (s : St) (w : World) : Prop where
 obj : ∀ o x, s.h.get o = some x → μ o ≠ none → OR μ w o x
 inj : ∀ o o' x x' p p', s.h.get o = some x → s.h.get o' = some x' → μ o = some (.at_ p) → μ o' = some (.at_ p') → p.blk = p'.blk → o = o'
 nat : ∀ o n A m c o' x' p', s.h.get o = some (.nat n) → μ o = some (.val A m c) → s.h.get o' = some x' → μ o' = some (.at_ p') → Off (.slice A m c) p'.blk
 wf : ∀ o, s.nx ≤ o → s.h.get o = none

structure Stp (μ : Mu) (s : St) (w : World) (μ' : Mu) (s' : St) (w' : World) : Prop where
 sub : Sub μ μ'
 dom : ∀ o, μ o = none → μ' o ≠ none → s.nx ≤ o ∧ o < s'.nx
 nx : s.nx ≤ s'.nx
 os : w'.os = w.os
 tape : w'.tape = w.tape
 output : w'.output = w.output
 size : w.heap.size ≤ w'.heap.size
 blk : ∀ g, g < w.heap.size → (∀ o x p, s.h.get o = some x → μ o = some (.at_ p) → p.blk ≠ g) → w'.heap[g]? = w.heap[g]?
 own : ∀ o x p, s'.h.get o = some x → μ' o = some (.at_ p) → w.heap.size ≤ p.blk ∨ ∃ o0 x0 p0, s.h.get o0 = some x0 ∧ μ o0 = some (.at_ p0) ∧ p0.blk = p.blk
 keep : ∀ o, μ o = none → o < s.nx → s'.h.get o = s.h.get o
theorem Stp.refl (μ : Mu) (s : St) (w : World) : Stp μ s w μ s w :=
 ⟨Sub.refl μ, fun _ h h' => absurd h h', Nat.le_refl _, rfl, rfl, rfl, Nat.le_refl _, fun _ _ _ => rfl, fun o x p h h' => .inr ⟨o, x, p, h, h', rfl⟩, fun _ _ _ => rfl⟩
theorem Stp.trans {a b c : Mu} {s t u : St} {w v z : World} (h : Stp a s w b t v) (k : Stp b t v c u z) : Stp a s w c u z := by
 refine ⟨h.sub.trans k.sub, fun o h1 h2 => ?_, Nat.le_trans h.nx k.nx, k.os.trans h.os, k.tape.trans h.tape, k.output.trans h.output, Nat.le_trans h.size k.size, fun g hg hn => ?_, fun o x p e1 e2 => ?_, fun o h1 h2 => ?_⟩
 ·by_cases e : b o = none
  ·have := k.dom o e h2
   have := h.nx
   omega
  ·have := h.dom o h1 e
   have := k.nx
   omega
 ·exact (k.blk g (Nat.lt_of_lt_of_le hg h.size) fun o x p e1 e2 => by
   rcases h.own o x p e1 e2 with h1 | ⟨o0, x0, p0, h1, h2, h3⟩
   ·omega
   ·rw [← h3]; exact hn o0 x0 p0 h1 h2).trans (h.blk g hg hn)
 ·rcases k.own o x p e1 e2 with h1 | ⟨o0, x0, p0, h1, h2, h3⟩
  ·exact .inl (Nat.le_trans h.size h1)
  ·rw [← h3]; exact h.own o0 x0 p0 h1 h2
 ·exact (k.keep o (by
   cases e : b o with
   | none => rfl
   | some l => have := h.dom o h1 (by rw [e]; simp); omega) (by have := h.nx; omega)).trans (h.keep o h1 h2)
theorem Stp.drew {μ μ' : Mu} {s s' : St} {w w' : World} (h : Stp μ s w.drew μ' s' w') : Stp μ s w μ' s' w' := ⟨h.sub, h.dom, h.nx, h.os, h.tape, h.output, h.size, h.blk, h.own, h.keep⟩
theorem Rel.drew {μ : Mu} {s : St} {w : World} (h : Rel μ s w) : Rel μ s w.drew := ⟨fun o x e m => by
  have := h.obj o x e m
  exact this.keep (Sub.refl μ) (Nat.le_refl _) (fun _ _ => rfl) (fun _ _ _ _ _ _ _ _ => rfl), h.inj, h.nat, h.wf⟩

def Mu.with (μ : Mu) (o : Nat) (l : Lc) : Mu := fun k => if k = o then some l else μ k
theorem Mu.sub_with {μ : Mu} {o : Nat} (l : Lc) (h : μ o = none) : Sub μ (μ.with o l) := fun k l' e => by
 unfold Mu.with
 rw [if_neg (fun e2 => by subst e2; rw [h] at e; cases e)]
 exact e
theorem Mu.with_same (μ : Mu) (o : Nat) (l : Lc) : μ.with o l o = some l := if_pos rfl
theorem Mu.with_ne (μ : Mu) {o k : Nat} (l : Lc) (h : k ≠ o) : μ.with o l k = μ k := if_neg h

theorem heap_new (w : World) (O : Obj) : (w.alloc O).heap[w.heap.size]? = some O := heap_alloc_new w O

theorem Rel.new {μ : Mu} {s : St} {w : World} (h : Rel μ s w) (hn : μ s.nx = none) (O : Obj) (x : AO) (p : Pl) (hp : p.blk = w.heap.size)
  (hx : OR (μ.with s.nx (.at_ p)) (w.alloc O) s.nx x) : Rel (μ.with s.nx (.at_ p)) (s.new x) (w.alloc O) ∧ Stp μ s w (μ.with s.nx (.at_ p)) (s.new x) (w.alloc O) := by
 have hs := Mu.sub_with (.at_ p) hn
 have hsz : w.heap.size ≤ (w.alloc O).heap.size := by simp
 have hold : ∀ g, g < w.heap.size → (w.alloc O).heap[g]? = w.heap[g]? := fun g hg => Below.heap_alloc w O g hg
 have lt : ∀ o x p', s.h.get o = some x → μ o = some (.at_ p') → p'.blk < w.heap.size := fun o x p' e m => by
  obtain ⟨b, hb⟩ := (h.obj o x e (by rw [m]; simp)).at_ m
  exact (Array.getElem?_eq_some_iff.1 hb).1
 have ne : ∀ o x, s.h.get o = some x → o ≠ s.nx := fun o x e e2 => by subst e2; rw [h.wf _ (Nat.le_refl _)] at e; cases e
 constructor
 ·refine ⟨fun o y e m => ?_, fun o o' y y' q q' e1 e2 m1 m2 hb => ?_, fun o n A m c o' x' p' e1 m1 e2 m2 => ?_, fun o ho => ?_⟩
  ·simp only [St.new, Tr.get_set] at e
   split at e
   ·next e2 => subst e2; cases e; exact hx
   ·next e2 =>
    rw [Mu.with_ne _ _ e2] at m
    refine (h.obj o y e m).keep hs hsz (fun q hq => hold _ (lt o y q e hq)) (fun A m' c hq ad hA hm hlt => hold _ hlt)
  ·simp only [St.new, Tr.get_set] at e1 e2
   split at e1 <;> split at e2
   ·next a b => rw [a, b]
   ·next a b =>
    subst a
    rw [Mu.with_same] at m1
    cases m1
    rw [Mu.with_ne _ _ b] at m2
    have := lt _ _ _ e2 m2
    omega
   ·next a b =>
    subst b
    rw [Mu.with_same] at m2
    cases m2
    rw [Mu.with_ne _ _ a] at m1
    have := lt _ _ _ e1 m1
    omega
   ·next a b =>
    rw [Mu.with_ne _ _ a] at m1
    rw [Mu.with_ne _ _ b] at m2
    exact h.inj o o' y y' q q' e1 e2 m1 m2 hb
  ·simp only [St.new, Tr.get_set] at e1 e2
   split at e1
   ·next a => subst a; rw [Mu.with_same] at m1; cases m1
   ·next a =>
    rw [Mu.with_ne _ _ a] at m1
    split at e2
    ·next b =>
     subst b
     rw [Mu.with_same] at m2
     cases m2
     have hv := h.obj o _ e1 (by rw [m1]; simp)
     simp only [OR] at hv
     obtain ⟨A', m', c', h1, h2⟩ := hv
     rw [m1] at h1
     cases h1
     intro ad n' c'' e hpos
     cases e
     obtain ⟨l, ⟨⟨_, A'', c2, e3, _, _, h4⟩, _⟩, _⟩ := h2
     cases e3
     obtain ⟨b, off, e4, hlt, _⟩ := h4 hpos
     cases e4
     simp only
     omega
    ·next b =>
     rw [Mu.with_ne _ _ b] at m2
     exact h.nat o n A m c o' x' p' e1 m1 e2 m2
  ·have h1 : s.nx + 1 ≤ o := ho
   simp only [St.new]
   rw [Tr.get_set_ne _ _ (by omega)]
   exact h.wf o (by omega)
 ·refine ⟨hs, fun o h1 h2 => ?_, by simp [St.new], rfl, rfl, rfl, hsz, fun g hg _ => hold g hg, fun o y q e1 m1 => ?_, fun o _ h2 => by simp only [St.new]; exact Tr.get_set_ne _ _ (by omega)⟩
  ·by_cases e : o = s.nx
   ·subst e; simp [St.new]
   ·rw [Mu.with_ne _ _ e] at h2; exact absurd h1 h2
  ·simp only [St.new, Tr.get_set] at e1
   split at e1
   ·next a => subst a; rw [Mu.with_same] at m1; cases m1; left; omega
   ·next a => rw [Mu.with_ne _ _ a] at m1; right; exact ⟨o, y, q, e1, m1, rfl⟩

theorem Rel.turn {μ : Mu} {s : St} {w w' : World} (h : Rel μ s w) {o : Nat} {p : Pl} {x0 : AO} (h0 : s.h.get o = some x0) (hm : μ o = some (.at_ p)) (x : AO)
  (hos : w'.os = w.os) (htp : w'.tape = w.tape) (hou : w'.output = w.output) (hsz : w'.heap.size = w.heap.size)
  (hb : ∀ g, g ≠ p.blk → w'.heap[g]? = w.heap[g]?) (hx : OR μ w' o x) (hn : ∀ n, x ≠ .nat n) : Rel μ (s.set o x) w' ∧ Stp μ s w μ (s.set o x) w' := by
 constructor
 ·refine ⟨fun o' y e m => ?_, fun o1 o2 y y' q q' e1 e2 m1 m2 hbb => ?_, fun o1 n A m c o' x' p' e1 m1 e2 m2 => ?_, fun o1 ho => ?_⟩
  ·simp only [St.set, Tr.get_set] at e
   split at e
   ·next e2 => subst e2; cases e; exact hx
   ·next e2 =>
    refine (h.obj o' y e m).keep (Sub.refl μ) (by omega) (fun q hq => hb _ fun e3 => e2 (h.inj o' o y x0 q p e h0 hq hm e3)) (fun A m' c hq ad hA hm' hlt => hb _ ?_)
    subst hA
    obtain ⟨n, rfl⟩ := (h.obj o' y e m).val hq
    exact h.nat o' n _ m' c o x0 p e hq h0 hm ad m' c rfl hm'
  ·simp only [St.set, Tr.get_set] at e1 e2
   split at e1 <;> split at e2
   ·next a b => rw [a, b]
   ·next a b => subst a; exact h.inj _ _ _ _ q q' h0 e2 m1 m2 hbb
   ·next a b => subst b; exact h.inj _ _ _ _ q q' e1 h0 m1 m2 hbb
   ·exact h.inj _ _ _ _ q q' e1 e2 m1 m2 hbb
  ·simp only [St.set, Tr.get_set] at e1 e2
   split at e1
   ·next a => cases e1; exact absurd rfl (hn n)
   ·split at e2
    ·next b => subst b; exact h.nat o1 n A m c _ _ p' e1 m1 h0 m2
    ·exact h.nat o1 n A m c _ _ p' e1 m1 e2 m2
  ·simp only [St.set]
   rw [Tr.get_set_ne _ _ (fun e => by subst e; rw [h.wf _ ho] at h0; cases h0)]
   exact h.wf o1 ho
 ·refine ⟨Sub.refl μ, fun o h1 h2 => absurd h1 h2, Nat.le_refl _, hos, htp, hou, by omega, fun g _ hg => hb g fun e => hg o x0 p h0 hm e.symm, fun o' y q e1 m1 => ?_, fun o' h1 _ => by simp only [St.set]; exact Tr.get_set_ne _ _ (fun e => by subst e; rw [hm] at h1; cases h1)⟩
  ·simp only [St.set, Tr.get_set] at e1
   split at e1
   ·next a => subst a; right; exact ⟨o', x0, q, h0, m1, rfl⟩
   ·right; exact ⟨o', y, q, e1, m1, rfl⟩
theorem Rel.less {μ : Mu} {s : St} {w : World} (h : Rel μ s w) (h' : Tr AO) (nx : Nat) (hs : ∀ o x, h'.get o = some x → s.h.get o = some x) (hx : ∀ o, nx ≤ o → h'.get o = none) : Rel μ ⟨h', nx⟩ w :=
 ⟨fun o x e m => h.obj o x (hs o x e) m, fun o o' x x' p p' e e' => h.inj o o' x x' p p' (hs _ _ e) (hs _ _ e'), fun o n A m c o' x' p' e m1 e' => h.nat o n A m c o' x' p' (hs _ _ e) m1 (hs _ _ e'), hx⟩
theorem Rel.drop {μ : Mu} {s : St} {w : World} (h : Rel μ s w) (k : Nat) : Rel μ (s.drop k) w :=
 h.less _ _ (fun o x e => by rw [Tr.get_set] at e; split at e <;> simp_all) (fun o ho => by rw [Tr.get_set]; split; rfl; exact h.wf o ho)
theorem Stp.drop (μ : Mu) (s : St) (w : World) (k : Nat) (hk : μ k ≠ none) : Stp μ s w μ (s.drop k) w :=
 ⟨Sub.refl μ, fun _ h h' => absurd h h', Nat.le_refl _, rfl, rfl, rfl, Nat.le_refl _, fun _ _ _ => rfl,
  fun o x p h h' => .inr ⟨o, x, p, by simp only [St.drop, Tr.get_set] at h; split at h <;> simp_all, h', rfl⟩,
  fun o h1 _ => by simp only [St.drop]; exact Tr.get_set_ne _ _ (fun e => hk (e ▸ h1))⟩
end Go.Proofs.YtlhankdkhiilkaaGreat
