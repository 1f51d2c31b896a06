/- Lemmas on the way: Ev10, Ev11. -/
import Derived.Test.YtlhankdkhiilkaaGreatI35
import Derived.Deep.Upon
set_option linter.unusedSimpArgs false
set_option linter.unusedVariables false
set_option linter.unusedSectionVars false
set_option linter.unnecessarySimpa false
namespace Go.Proofs.YtlhankdkhiilkaaGreat
open Go.RowKit
section
theorem setCells_same (b : Nat) (t : TypeId) (fr : Nat × Nat) : ∀ (vs : List Value) (o : Nat) (w : World) (cs : List Value), w.heap[b]? = some (.cells cs.toArray t fr) → (w.setCells b o vs).heap[b]? = some (.cells (putR cs o vs).toArray t fr)
 | [], _, _, _, h => h
 | v :: vs, o, w, cs, h => by
  rw [World.setCells, putR]
  exact setCells_same b t fr vs (o + 1) _ _ (by simp [World.setCell, Array.getElem?_modify, h])
theorem setCells_ne (b : Nat) {g : Nat} (hg : g ≠ b) : ∀ (vs : List Value) (o : Nat) (w : World), (w.setCells b o vs).heap[g]? = w.heap[g]?
 | [], _, _ => rfl
 | v :: vs, o, w => by rw [World.setCells, setCells_ne b hg vs, Below.heap_setCell w ⟨b, o, none⟩ v g hg]
theorem setCells_rest (b : Nat) : ∀ (vs : List Value) (o : Nat) (w : World), (w.setCells b o vs).os = w.os ∧ (w.setCells b o vs).tape = w.tape ∧ (w.setCells b o vs).output = w.output ∧ (w.setCells b o vs).heap.size = w.heap.size
 | [], _, _ => ⟨rfl, rfl, rfl, rfl⟩
 | v :: vs, o, w => by
  rw [World.setCells]
  have := setCells_rest b vs (o + 1) (w.setCell ⟨b, o, none⟩ v)
  exact ⟨this.1, this.2.1, this.2.2.1, this.2.2.2.trans (World.size_setCell w _ v)⟩
theorem putR_length {α : Type} : ∀ (vs : List α) (c : List α) (o : Nat), (putR c o vs).length = c.length
 | [], _, _ => rfl
 | v :: vs, c, o => by rw [putR, putR_length vs]; simp
theorem putR_get {α : Type} : ∀ (vs : List α) (c : List α) (o i : Nat), (putR c o vs)[i]? = if o ≤ i ∧ i < o + vs.length ∧ i < c.length then vs[i - o]? else c[i]?
 | [], c, o, i => by simp only [putR, List.length_nil]; rw [if_neg (by omega)]
 | v :: vs, c, o, i => by
  rw [putR, putR_get vs (c.set o v) (o + 1) i]
  simp only [List.length_set, List.length_cons]
  by_cases h1 : o = i
  ·subst h1
   rw [if_neg (by omega)]
   by_cases h2 : o < c.length
   ·rw [if_pos (by omega)]; simp [h2]
   ·rw [if_neg (by omega)]
    rw [List.getElem?_eq_none_iff.2 (by simp; omega), List.getElem?_eq_none_iff.2 (by omega)]
  ·by_cases h2 : o + 1 ≤ i ∧ i < o + 1 + vs.length ∧ i < c.length
   ·rw [if_pos h2, if_pos (by omega), show i - o = (i - (o + 1)) + 1 by omega, List.getElem?_cons_succ]
   ·rw [if_neg h2, if_neg (by omega), List.getElem?_set_ne h1]
theorem all_flat_putR {vs : List AV} (hv : vs.all flat = true) : ∀ {c : List AV} {o : Nat}, c.all flat = true → (putR c o vs).all flat = true := by
 induction vs with
 | nil => intro c o h; exact h
 | cons v vs ih =>
  intro c o h
  simp only [List.all_cons, Bool.and_eq_true] at hv
  rw [putR]
  refine ih hv.2 ?_
  rw [List.all_eq_true] at h ⊢
  intro x hx
  rcases List.mem_or_eq_of_mem_set hx with hx | rfl
  ·exact h x hx
  ·exact hv.1
theorem noDig_putR {vs : List Value} (hv : vs.all noDig = true) : ∀ {c : List Value} {o : Nat}, c.all noDig = true → (putR c o vs).all noDig = true := by
 induction vs with
 | nil => intro c o h; exact h
 | cons v vs ih =>
  intro c o h
  simp only [List.all_cons, Bool.and_eq_true] at hv
  rw [putR]
  refine ih hv.2 ?_
  rw [List.all_eq_true] at h ⊢
  intro x hx
  rcases List.mem_or_eq_of_mem_set hx with hx | rfl
  ·exact h x hx
  ·exact hv.1
theorem oneCells {μ : Mu} : ∀ {l : List AV} {m : List Value}, VRs μ l m → l.all flat = true → ∀ v ∈ m, v.oneCell' = true
 | [], m, h, _, v, hv => by simp only [VRs] at h; subst h; cases hv
 | x :: l, m, h, hf, v, hv => by
  simp only [VRs] at h
  obtain ⟨y, ys, rfl, h1, h2⟩ := h
  simp only [List.all_cons, Bool.and_eq_true] at hf
  rcases List.mem_cons.1 hv with rfl | hv
  ·exact oneCell_of_flat h1 hf.1
  ·exact oneCells h2 hf.2 v hv

section
variable {P : Program} {μ : Mu} {s : St} {w : World}

theorem put_cells (h : Rel μ s w) {o off : Nat} {c : List AV} {t : TypeId} {op : Bool} {p : Pl} (ho : s.h.get o = some (.cells c t op)) (hm : μ o = some (.at_ p)) {vs : List AV} {ms : List Value} (hv : VRs μ vs ms) (hf : vs.all flat = true) (hlen : off + vs.length ≤ c.length) :
  (storeCells ⟨p.blk, p.base + off, none⟩ ms).run P w = .ok () (w.setCells p.blk (p.base + off) ms) ∧
  Rel μ (s.set o (.cells (putR c off vs) t op)) (w.setCells p.blk (p.base + off) ms) ∧ Stp μ s w μ (s.set o (.cells (putR c off vs) t op)) (w.setCells p.blk (p.base + off) ms) := by
 have hob := h.obj o _ ho (by rw [hm]; simp)
 simp only [OR] at hob
 obtain ⟨p', cs, h1, h2, h3, h4, h5⟩ := hob
 rw [hm] at h1
 cases h1
 have hl := hv.length
 have hcell : ∀ j, j < ms.length → ∃ y, w.cell? ⟨p.blk, p.base + off + j, none⟩ = some y := fun j hj => by
  obtain ⟨x, hx⟩ : ∃ x, c[off + j]? = some x := ⟨_, List.getElem?_eq_getElem (by omega)⟩
  obtain ⟨y, hy, _⟩ := h5 _ x hx
  exact ⟨y, by simp [World.cell?, h2, Nat.add_assoc, hy]⟩
 have hrun := run_storeCells_cells (P := P) p.blk (p.base + off) ms 0 w (fun j hj => by obtain ⟨y, hy⟩ := hcell j hj; simp [hy]) (fun j hj => by simp [World.frozen?, h2]) (oneCells hv hf)
 obtain ⟨r1, r2, r3, r4⟩ := setCells_rest p.blk ms (p.base + off) w
 have hblk := setCells_same p.blk t (0, 0) ms (p.base + off) w cs.toList (by simpa using h2)
 refine ⟨by simpa using hrun, h.turn ho hm _ r1 r2 r3 r4 (fun g hg => setCells_ne p.blk hg ms _ w) ?_ (by simp)⟩
 refine ⟨p, _, hm, hblk, by simp [putR_length, h3], ⟨all_flat_putR hf h4.1, noDig_putR (noDigs_of_flat hv hf) h4.2⟩, fun i x hx => ?_⟩
 rw [putR_get] at hx
 rw [List.getElem?_toArray, putR_get]
 have hi : ∀ y, c[i]? = some y → p.base + i < cs.toList.length := fun y hy => by
  obtain ⟨z, hz, _⟩ := h5 i y hy
  have := (Array.getElem?_eq_some_iff.1 hz).1
  simpa using this
 split at hx
 ·next e =>
  have := hi _ (List.getElem?_eq_getElem e.2.2)
  rw [if_pos (by omega), show p.base + i - (p.base + off) = i - off by omega]
  exact hv.get hx
 ·next e =>
  have := hi _ hx
  have hc := (List.getElem?_eq_some_iff.1 hx).1
  rw [if_neg (by omega), Array.getElem?_toList]
  exact h5 i x hx

theorem store_run (h : Rel μ s w) {t : TypeId} {v a : AV} {v' a' : Value} {s' : St} (hx : storeA P s t v a = some s') (ha : VR μ a a') (hv : VR μ v v') :
  ∃ w', (Instr.storeAt t a' v').run P w = .ok () w' ∧ Rel μ s' w' ∧ Stp μ s w μ s' w' := by
 unfold storeA at hx
 split at hx
 ·next o off =>
  split at hx
  ·next c e op ho =>
   split at hx
   ·next n hn =>
    obtain ⟨hc, hx⟩ := cond_some hx
    cases hx
    simp only [Bool.and_eq_true, Nat.beq_eq, Nat.ble_eq] at hc
    obtain ⟨⟨g1, g2⟩, g3⟩ := hc
    simp only [VR] at ha
    obtain ⟨p, hm, rfl⟩ := ha
    have hcs := hv.cells
    obtain ⟨r1, r2, r3⟩ := put_cells (P := P) (off := off) h ho hm hcs g3 (by omega)
    refine ⟨_, ?_, r2, r3⟩
    have hsz : v'.cells.size = n := by rw [← g1, hcs.length]; simp
    simp [Instr.storeAt, Instr.sureAddr, storeVar, sizeOf_run hn, hsz, r1]
   ·cases hx
  ·cases hx
 ·cases hx

theorem putObj_facts (w : World) (g : Nat) (O : Obj) : (∀ k, k ≠ g → ({ w with heap := w.heap.setIfInBounds g O } : World).heap[k]? = w.heap[k]?) ∧ ({ w with heap := w.heap.setIfInBounds g O } : World).heap.size = w.heap.size :=
 ⟨fun k hk => Array.getElem?_setIfInBounds_ne (Ne.symm hk), by simp⟩
theorem putObj_same {w : World} {g : Nat} {O0 : Obj} (O : Obj) (h : w.heap[g]? = some O0) : ({ w with heap := w.heap.setIfInBounds g O } : World).heap[g]? = some O := by
 have := (Array.getElem?_eq_some_iff.1 h).1
 simp [this]
theorem turn_obj (h : Rel μ s w) {o : Nat} {x0 x : AO} {p : Pl} {O0 O : Obj} (ho : s.h.get o = some x0) (hm : μ o = some (.at_ p)) (hb : w.heap[p.blk]? = some O0) (hn : ∀ n, x ≠ .nat n)
  (hx : ∀ w' : World, w'.heap[p.blk]? = some O → OR μ w' o x) : Rel μ (s.set o x) { w with heap := w.heap.setIfInBounds p.blk O } ∧ Stp μ s w μ (s.set o x) { w with heap := w.heap.setIfInBounds p.blk O } :=
 h.turn ho hm x rfl rfl rfl (putObj_facts w p.blk O).2 (fun g hg => (putObj_facts w p.blk O).1 g hg) (hx _ (putObj_same O hb)) hn

theorem EsR.append {es : List AE} {l : List MapEntry} (h : EsR μ es l) {k v : AV} {k' v' : Value} (hk : VR μ k k') (hv : VR μ v v') (b : Nat) : EsR μ (es ++ [⟨k, v, b⟩]) (l ++ [⟨k', v', b⟩]) := by
 induction es generalizing l with
 | nil => simp only [EsR] at h; subst h; exact ⟨k', v', [], rfl, hk, hv, rfl⟩
 | cons e es ih =>
  obtain ⟨a, c, l', rfl, h1, h2, h3⟩ := h
  exact ⟨a, c, _, rfl, h1, h2, ih h3⟩
theorem EsR.set {es : List AE} {l : List MapEntry} (h : EsR μ es l) {i : Nat} {k v : AV} {k' v' : Value} {b : Nat} (hk : VR μ k k') (hv : VR μ v v') : EsR μ (es.set i ⟨k, v, b⟩) (l.set i ⟨k', v', b⟩) := by
 induction es generalizing l i with
 | nil => simp only [EsR] at h; subst h; simp [EsR]
 | cons e es ih =>
  obtain ⟨a, c, l', rfl, h1, h2, h3⟩ := h
  cases i with
  | zero => exact ⟨k', v', l', rfl, hk, hv, h3⟩
  | succ i => exact ⟨a, c, _, rfl, h1, h2, ih h3⟩
theorem EsR.get {es : List AE} {l : List MapEntry} (h : EsR μ es l) {i : Nat} {a : AE} (ha : es[i]? = some a) : ∃ e, l[i]? = some e ∧ VR μ a.key e.key ∧ VR μ a.val e.val ∧ e.born = a.born := by
 induction es generalizing l i with
 | nil => cases ha
 | cons x es ih =>
  obtain ⟨k, c, l', rfl, h1, h2, h3⟩ := h
  cases i with
  | zero => simp at ha; subst ha; exact ⟨_, rfl, h1, h2, rfl⟩
  | succ i => simp only [List.getElem?_cons_succ] at ha ⊢; exact ih h3 ha
theorem modify_set (l : List MapEntry) (i : Nat) (f : MapEntry → MapEntry) (e : MapEntry) (h : l[i]? = some e) : l.toArray.modify i f = (l.set i (f e)).toArray := by
 apply Array.ext'
 simp only [Array.toList_modify]
 apply List.ext_getElem?
 intro j
 rw [List.getElem?_modify, List.getElem?_set]
 by_cases hj : i = j
 ·subst hj
  have := List.getElem?_eq_some_iff.1 h
  simp [this.1, this.2]
 ·simp [hj]
theorem getObj_run {r : Nat} {O : Obj} (h : w.heap[r]? = some O) (hc : ∀ c t f, O ≠ .cells c t f) : (getObj r).run P w = .ok O w := by
 unfold getObj
 simp only [Sem.run, h]
theorem setObj_run {r : Nat} {O : Obj} (h : w.heap[r]? = some O) (hc : ∀ c t f, O ≠ .cells c t f) (O' : Obj) : (setObj r O').run P w = .ok () { w with heap := w.heap.setIfInBounds r O' } := by
 unfold setObj
 simp only [Sem.run, h]

theorem mapPut_run (hl : laidOutB P = true) (h : Rel μ s w) {t kt et : TypeId} (hu : P.underlying t = some (.map kt et)) {m k v : AV} {m' k' v' : Value} {s' : St} (hx : mapPut P s kt m k v = some s') (hm : VR μ m m') (hk : VR μ k k') (hv : VR μ v v') :
  ∃ w', (Instr.mapUpdate t m' k' v').run P w = .ok () w' ∧ Rel μ s' w' ∧ Stp μ s w μ s' w' := by
 unfold mapPut at hx
 split at hx
 ·next o q hq =>
  simp only [VR] at hm
  obtain ⟨p, hmo, rfl⟩ := hm
  have hkv := keyN_vr hq hk
  have hqf := keyN_form hq
  split at hx
  ·next es clock ho =>
   have hob := h.obj o _ ho (by rw [hmo]; simp)
   simp only [OR] at hob
   obtain ⟨p', l, h1, h2, h3⟩ := hob
   rw [hmo] at h1
   cases h1
   split at hx
   ·next i hsp =>
    obtain ⟨c1, c2, _, hsome⟩ := spotA_find hl hqf hsp h3 w
    obtain ⟨e0, a0, g1, g2, g3, g4, g5, g6⟩ := hsome _ rfl
    rw [g2] at hx
    cases hx
    obtain ⟨r1, r2⟩ := turn_obj (x := .map (es.set i ⟨k, v, a0.born⟩) clock) (O := .map (l.set i ⟨keyVal q, v', a0.born⟩).toArray clock) h ho hmo h2 (by simp) (fun w' hw => by simp only [OR]; exact ⟨p, _, hmo, hw, h3.set (hkv ▸ hk) hv⟩)
    refine ⟨_, ?_, r1, r2⟩
    subst hkv
    simp only [Instr.mapUpdate, Sem.run_bind, run_underlying hu w, Result.andThen_ok, getObj_run h2 (by simp), c1, g6, List.getElem?_toArray, g1, Option.map_some, Option.getD_some, g3, c2]
    rw [modify_set l i _ e0 g1, setObj_run h2 (by simp), g4]
   ·next hsp =>
    obtain ⟨c1, c2, hnone, _⟩ := spotA_find hl hqf hsp h3 w
    have g6 := hnone rfl
    cases hx
    obtain ⟨r1, r2⟩ := turn_obj (x := .map (es ++ [⟨k, v, clock⟩]) (clock + 1)) (O := .map (l ++ [(⟨keyVal q, v', clock⟩ : MapEntry)]).toArray (clock + 1)) h ho hmo h2 (by simp) (fun w' hw => by simp only [OR]; exact ⟨p, _, hmo, hw, h3.append (hkv ▸ hk) hv clock⟩)
    refine ⟨_, ?_, r1, r2⟩
    subst hkv
    simp only [Instr.mapUpdate, Sem.run_bind, run_underlying hu w, Result.andThen_ok, getObj_run h2 (by simp), c1, g6]
    rw [setObj_run h2 (by simp)]
    simp
   ·cases hx
  ·cases hx
 ·cases hx
end
end
section
section
variable {P : Program} {μ : Mu} {s : St} {w : World}

theorem Rel.adopt (h : Rel μ s w) (hn : μ s.nx = none) (x : AO) (p : Pl) (hx : OR (μ.with s.nx (.at_ p)) w s.nx x)
  (hfree : ∀ o x' p', s.h.get o = some x' → μ o = some (.at_ p') → p'.blk ≠ p.blk) (hnat : ∀ o n A m c, s.h.get o = some (.nat n) → μ o = some (.val A m c) → Off (.slice A m c) p.blk) (hnn : ∀ n, x ≠ .nat n) : Rel (μ.with s.nx (.at_ p)) (s.new x) w := by
 have hs := Mu.sub_with (.at_ p) hn
 refine ⟨fun o y e m => ?_, fun o o' y y' q q' e1 e2 m1 m2 hb => ?_, fun o n A m c o' x' p' e1 m1 e2 m2 => ?_, fun o ho => ?_⟩
 ·simp only [St.new, Tr.get_set] at e
  split at e
  ·next e2 => subst e2; cases e; exact hx
  ·next e2 =>
   rw [Mu.with_ne _ _ e2] at m
   exact (h.obj o y e m).keep hs (Nat.le_refl _) (fun _ _ => rfl) (fun _ _ _ _ _ _ _ _ => rfl)
 ·simp only [St.new, Tr.get_set] at e1 e2
  split at e1 <;> split at e2
  ·next a b => rw [a, b]
  ·next a b =>
   subst a
   rw [Mu.with_same] at m1
   cases m1
   rw [Mu.with_ne _ _ b] at m2
   exact absurd hb.symm (hfree _ _ _ e2 m2)
  ·next a b =>
   subst b
   rw [Mu.with_same] at m2
   cases m2
   rw [Mu.with_ne _ _ a] at m1
   exact absurd hb (hfree _ _ _ e1 m1)
  ·next a b =>
   rw [Mu.with_ne _ _ a] at m1
   rw [Mu.with_ne _ _ b] at m2
   exact h.inj o o' y y' q q' e1 e2 m1 m2 hb
 ·simp only [St.new, Tr.get_set] at e1 e2
  split at e1
  ·next a => cases e1; exact absurd rfl (hnn n)
  ·next a =>
   rw [Mu.with_ne _ _ a] at m1
   split at e2
   ·next b => subst b; rw [Mu.with_same] at m2; cases m2; exact hnat o n A m c e1 m1
   ·next b => rw [Mu.with_ne _ _ b] at m2; exact h.nat o n A m c o' x' p' e1 m1 e2 m2
 ·have h1 : s.nx + 1 ≤ o := ho
  simp only [St.new]
  rw [Tr.get_set_ne _ _ (by omega)]
  exact h.wf o (by omega)

theorem reads_run (h : Rel μ s w) {z : Nat} {x : AV} {x' : Value} {l : List AV} (hx : readsA s z x = some l) (hv : VR μ x x') (h1 : ∀ o off n c, x = .sl o off n c → n * z = l.length ∨ True) :
  ∃ m, VRs μ l m ∧ l.all flat = true ∧ ((x = .snil ∧ l = [] ∧ x' = .slice none 0 0) ∨ ∃ o off n c c' p, x = .sl o off n c ∧ l.length = n * z ∧ μ o = some (.at_ p) ∧ x' = .slice (some ⟨p.blk, p.base + off, none⟩) n c' ∧ ∀ j u, m[j]? = some u → w.cell? ⟨p.blk, p.base + off + j, none⟩ = some u) := by
 unfold readsA at hx
 split at hx
 ·cases hx
  simp only [VR] at hv
  exact ⟨[], VRs.nil_, rfl, .inl ⟨rfl, rfl, hv⟩⟩
 ·next o off n c =>
  split at hx
  ·next cs t op ho =>
   simp only [VR] at hv
   obtain ⟨p, c', hm, rfl, _⟩ := hv
   have hob := h.obj o _ ho (by rw [hm]; simp)
   simp only [OR] at hob
   obtain ⟨p', cells, e1, e2, e3, e4, e5⟩ := hob
   rw [hm] at e1
   cases e1
   obtain ⟨g1, g2⟩ := getR_spec hx
   have key : ∀ (k : Nat) (r : List AV) (off : Nat), r.length = k → (∀ i, i < k → r[i]? = cs[off + i]?) → ∃ m, VRs μ r m ∧ ∀ j u, m[j]? = some u → w.cell? ⟨p.blk, p.base + off + j, none⟩ = some u := by
    intro k
    induction k with
    | zero => intro r off hr _; exact ⟨[], by rw [List.eq_nil_of_length_eq_zero hr]; exact VRs.nil_, by simp⟩
    | succ k ih =>
     intro r off hr1 hr2
     cases r with
     | nil => simp at hr1
     | cons y r =>
      have hy := hr2 0 (by omega)
      simp only [Nat.add_zero, List.getElem?_cons_zero] at hy
      obtain ⟨z, hz, hv⟩ := e5 off y hy.symm
      obtain ⟨m, hm2, hm3⟩ := ih r (off + 1) (by simpa using hr1) (fun i hi => by have := hr2 (i + 1) (by omega); rw [List.getElem?_cons_succ] at this; rw [this]; congr 1; omega)
      refine ⟨z :: m, VRs.cons hv hm2, fun j u hj => ?_⟩
      cases j with
      | zero => simp at hj; subst hj; simp [World.cell?, e2, hz]
      | succ j => rw [List.getElem?_cons_succ] at hj; have := hm3 j u hj; rw [show p.base + off + (j + 1) = p.base + (off + 1) + j by omega]; exact this
   obtain ⟨m, k1, k2⟩ := key (n * z) l off g1 g2
   refine ⟨m, k1, ?_, .inr ⟨o, off, n, c, c', p, rfl, g1, hm, rfl, k2⟩⟩
   have e4 := e4.1
   rw [List.all_eq_true] at e4 ⊢
   intro a ha
   obtain ⟨i, hi⟩ := List.mem_iff_getElem?.1 ha
   have hlt := (List.getElem?_eq_some_iff.1 hi).1
   rw [g2 i (by omega)] at hi
   exact e4 a (List.mem_of_getElem? hi)
  ·cases hx
 ·cases hx

theorem growBy_le (n : Nat) : ∀ (k c : Nat), c ≤ 2 * n + 768 → Builtin.growBy n k c ≤ 2 * n + 768
 | 0, c, h => h
 | k + 1, c, h => by
  unfold Builtin.growBy
  split
  ·exact h
  ·next h2 => exact growBy_le n k _ (by omega)
theorem nextcap_le {n c : Nat} (h : c < n) : Builtin.nextslicecap n c ≤ 2 * n + 768 := by
 unfold Builtin.nextslicecap
 split
 ·omega
 ·split
  ·omega
  ·exact growBy_le n 4 c (by omega)
theorem zeroCells_eq (zv : Array Value) (h0 : 0 < zv.size) (n : Nat) : Builtin.zeroCells zv n = (reps zv.toList n).toArray := reps_range zv h0 n

theorem append_run (h : Rel μ s w) {t t' ty e e' : TypeId} (ht : P.underlying t = some (.slice e)) (ht' : P.underlying t' = some (.slice e')) {x y r : AV} {x' y' : Value} {s' : St} (hx : appendA P s e x y = some (r, s')) (hvx : VR μ x x') (hvy : VR μ y y')
  (hfr : ∀ o, s.nx ≤ o → o < s'.nx → μ o = none) :
  ∃ w' μ' v, (Builtin.append_ #[t, t'] ty #[x', y']).run P w = .ok v w' ∧ Rel μ' s' w' ∧ Stp μ s w μ' s' w' ∧ VR μ' r v := by
 unfold appendA at hx
 split at hx
 ·next i zv hi hz =>
  split at hx
  ·next old new hold hnew =>
   obtain ⟨hc, hx⟩ := cond_some hx
   simp only [Bool.and_eq_true, Nat.beq_eq, Nat.blt_eq, Nat.ble_eq] at hc
   obtain ⟨⟨⟨⟨g0, g1⟩, g2⟩, g3⟩, g4⟩ := hc
   obtain ⟨zval, hz1, hz2⟩ := zero_run hz w
   have hzi : i.zero = some zval := by
    have := hz1
    simp only [zeroValue, typeInfo, Sem.run_bind, run_program, Result.andThen_ok, hi, Sem.run_pure] at this
    cases hzz : i.zero with
    | none => rw [hzz] at this; simp at this
    | some q => rw [hzz] at this; simp at this; rw [this]
   have hzs : zval.cells.size = i.size := by rw [← g2, (hz2 μ).cells.length]; simp
   obtain ⟨mo, o1, o2, o3⟩ := reads_run h hold hvx (fun _ _ _ _ _ => .inr trivial)
   obtain ⟨mn, n1, n2, n3⟩ := reads_run h hnew hvy (fun _ _ _ _ _ => .inr trivial)
   have ln := n1.length
   have lo := o1.length
   -- the second argument as a source
   obtain ⟨k, hk, hsrc⟩ : ∃ k, new.length = k * i.size ∧ Src P i.size t' y' k mn w := by
    rcases n3 with ⟨rfl, rfl, rfl⟩ | ⟨o, off, n, c, c', p, rfl, hl, hm, rfl, hcell⟩
    ·exact ⟨0, by simp, by
      have : mn = [] := List.eq_nil_of_length_eq_zero (by simpa using ln.symm)
      subst this
      exact Src.ofNil w ht' 0⟩
    ·exact ⟨n, hl, Src.ofSlice w ht' _ n c' mn (by rw [← ln, hl]) (fun j u hj => by rw [add_at]; exact hcell j u hj) (oneCells n1 n2)⟩
   have hkd : new.length / i.size = k := by rw [hk]; exact Nat.mul_div_cancel _ g1
   rw [hkd] at hx
   have hk' : k ≤ new.length := by rw [hk]; exact Nat.le_mul_of_pos_right _ g1
   -- the arm that grows
   have grow : ∀ (base : Option Addr) (n c : Nat), x' = .slice base n c → n * i.size = old.length → c < n + k → (∀ w1 : World, (∀ b off, w1.cell? ⟨b, off, none⟩ = w.cell? ⟨b, off, none⟩) → (Builtin.firstCells i.size n (.slice base n c)).run P w1 = .ok mo.toArray w1) →
     ∃ cap', n + k ≤ cap' ∧ cap' < big ∧ (Builtin.append_ #[t, t'] ty #[x', y']).run P w = .ok (.slice (some ⟨w.heap.size, 0, none⟩) (n + k) cap') (w.drew.alloc (.cells ((mo ++ mn) ++ reps zval.cells.toList (cap' - (n + k))).toArray e)) := by
    intro base n c ex hn hlt hfirst
    subst ex
    have hb : n + k ≤ 1000000 := by
     have : n ≤ old.length := by rw [← hn]; exact Nat.le_mul_of_pos_right _ g1
     omega
    have hfit : Builtin.nextslicecap (n + k) c * i.bytes ≤ 281474976710656 := by
     have h1 := nextcap_le hlt
     have h2 : Builtin.nextslicecap (n + k) c * i.bytes ≤ 2000768 * 1000000 := Nat.mul_le_mul (by omega) g4
     omega
    have := run_append_grow_src (P := P) w t t' ty e i zval ht hi hzi base n c mo (hfirst w.drew (fun _ _ => rfl)) y' k mn hsrc hlt (by omega) hfit
    refine ⟨grownCap w (n + k) c e, ?_, ?_, ?_⟩
    ·unfold grownCap; simp only [Question.cut]; omega
    ·unfold grownCap big
     simp only [Question.cut]
     have : w.tape w.drawn (.appendCap (n + k) c e) % (2 ^ 63 - (n + k)) < 2 ^ 63 - (n + k) := Nat.mod_lt _ (by omega)
     omega
    ·rw [this, zeroCells_eq _ (by omega)]
     simp
   -- what the arm that grows leaves
   have grown : ∀ (n cap' : Nat) (s1 : St), (∀ o, μ o = none → s1.h.get o = s.h.get o) → n * i.size = old.length → n + k ≤ cap' → cap' < big → s1.nx = s.nx → (∀ o x, s1.h.get o = some x → s.h.get o = some x) → s1.h.get s.nx = none → μ s.nx = none →
     ∃ μ', Rel μ' (s1.new (.cells (old ++ new) e true)) (w.drew.alloc (.cells ((mo ++ mn) ++ reps zval.cells.toList (cap' - (n + k))).toArray e)) ∧
      Stp μ s w μ' (s1.new (.cells (old ++ new) e true)) (w.drew.alloc (.cells ((mo ++ mn) ++ reps zval.cells.toList (cap' - (n + k))).toArray e)) ∧
      VR μ' (.sl s.nx 0 (n + k) (big + i.size)) (.slice (some ⟨w.heap.size, 0, none⟩) (n + k) cap') := by
    intro n cap' s1 hkeep hn hcap hbig hnx hsub hs1 hfree
    have hlz : ∀ j, (reps zval.cells.toList j).length = j * i.size := by
     intro j
     induction j with
     | zero => simp [reps]
     | succ j ih => rw [reps, List.length_append, ih, Array.length_toList, hzs, Nat.add_mul]; omega
    have htot : ((mo ++ mn) ++ reps zval.cells.toList (cap' - (n + k))).length = cap' * i.size := by
     simp only [List.length_append, hlz]
     rw [← lo, ← ln, ← hn, hk, ← Nat.add_mul, ← Nat.add_mul]
     congr 1
     omega
    have hr1 : Rel μ s1 w.drew := by
     have := h.drew.less s1.h s1.nx hsub (fun o ho => by
      cases e : s1.h.get o with
      | none => rfl
      | some x => have := h.wf o (by omega); rw [hsub o x e] at this; cases this)
     exact this
    have hp : (⟨w.heap.size, 0, cap' * i.size⟩ : Pl).blk = w.drew.heap.size := rfl
    have hsx : Sub μ (μ.with s1.nx (.at_ ⟨w.heap.size, 0, cap' * i.size⟩)) := Mu.sub_with _ (by rw [hnx]; exact hfree)
    obtain ⟨q1, q2⟩ := hr1.new (by rw [hnx]; exact hfree) (.cells ((mo ++ mn) ++ reps zval.cells.toList (cap' - (n + k))).toArray e) (.cells (old ++ new) e true) ⟨w.heap.size, 0, cap' * i.size⟩ hp
     (or_cells (Mu.with_same _ _ _) (heap_new w.drew _) (by simpa using htot) (by rw [List.all_append, o2, n2]; rfl)
      ⟨mo ++ mn, VRs.mono hsx _ (o1.append n1), _, rfl, noDigs_of_flat (vrs_of_z (fun μ => (hz2 μ).cells) μ _) (reps_flat g0 _)⟩)
    have q3 : Stp μ s w.drew μ s1 w.drew := ⟨Sub.refl μ, fun _ h h' => absurd h h', by omega, rfl, rfl, rfl, Nat.le_refl _, fun _ _ _ => rfl, fun o x p e1 e2 => .inr ⟨o, x, p, hsub o x e1, e2, rfl⟩, fun o h1 _ => hkeep o h1⟩
    refine ⟨_, q1, (q3.trans q2).drew, ?_⟩
    obtain ⟨y, hy, ey⟩ : ∃ y, y = big + i.size - big ∧ y = i.size := ⟨_, rfl, by omega⟩
    simp only [VR]
    rw [← hy, ey]
    clear hy ey
    refine ⟨_, cap', by rw [← hnx]; exact Mu.with_same _ _ _, rfl, fun e => by omega, fun _ => ⟨hcap, hbig, ?_⟩⟩
    simp
   rcases o3 with ⟨rfl, rfl, rfl⟩ | ⟨o, off, n, cap, c, p, rfl, hol, hm, rfl, hocell⟩
   ·-- onto nil
    simp only at hx
    cases hn0 : Nat.beq new.length 0 with
    | true =>
     rw [hn0] at hx
     cases hx
     have h0 := Nat.eq_of_beq_eq_true hn0
     have hk0 : k = 0 := by omega
     subst hk0
     have : mn = [] := List.eq_nil_of_length_eq_zero (by omega)
     subst this
     exact ⟨w, μ, .slice none 0 0, run_append_nothing (P := P) w t t' ty e i ht hi none 0 0 (Nat.le_refl 0) y' hsrc, h, Stp.refl _ _ _, by simp [VR]⟩
    | false =>
     rw [hn0] at hx
     cases hx
     have h0 := beqF.1 hn0
     have hk0 : 0 < k := by
      rcases Nat.eq_zero_or_pos k with e | e
      ·subst e; simp at hk; exact absurd hk (by intro e; rw [e] at h0; exact h0 rfl)
      ·exact e
     have hmo : mo = [] := List.eq_nil_of_length_eq_zero (by simpa using lo.symm)
     subst hmo
     obtain ⟨cap', c1, c2, c3⟩ := grow none 0 0 rfl (by simp) (by omega) (fun w1 _ => run_firstCells_none w1 i.size 0 0 0)
     obtain ⟨μ', d1, d2, d3⟩ := grown 0 cap' s (fun _ _ => rfl) (by simp) c1 c2 rfl (fun _ _ h => h) (h.wf _ (Nat.le_refl _)) (hfr _ (Nat.le_refl _) (by simp [St.new]))
     refine ⟨_, μ', _, c3, ?_, ?_, ?_⟩
     ·simpa using d1
     ·simpa using d2
     ·simpa using d3
   ·have hvx' := hvx
    simp only [VR] at hvx'
    obtain ⟨p0, c0, hm0, ec0, hk1, hk2⟩ := hvx'
    rw [hm] at hm0
    cases hm0
    simp only [Value.slice.injEq, true_and] at ec0
    obtain ⟨_, rfl⟩ := ec0
    have hfirst : ∀ w1 : World, (∀ b off, w1.cell? ⟨b, off, none⟩ = w.cell? ⟨b, off, none⟩) → (Builtin.firstCells i.size n (.slice (some ⟨p.blk, p.base + off, none⟩) n c)).run P w1 = .ok mo.toArray w1 := fun w1 hw1 =>
     run_firstCells_some w1 i.size n ⟨p.blk, p.base + off, none⟩ n c mo (by rw [← lo, hol]) (fun j u hj => by rw [add_at, hw1]; exact hocell j u hj)
    -- the arm with room, in the object's known cells
    have room : ∀ (cells : List AV) (t0 : TypeId) (op : Bool), s.h.get o = some (.cells cells t0 op) → n + k ≤ c → off + n * i.size + new.length ≤ cells.length →
      (Builtin.append_ #[t, t'] ty #[.slice (some ⟨p.blk, p.base + off, none⟩) n c, y']).run P w = .ok (.slice (some ⟨p.blk, p.base + off, none⟩) (n + k) c) (w.setCells p.blk (p.base + off + n * i.size) mn) ∧
      Rel μ (s.set o (.cells (putR cells (off + n * i.size) new) t0 op)) (w.setCells p.blk (p.base + off + n * i.size) mn) ∧ Stp μ s w μ (s.set o (.cells (putR cells (off + n * i.size) new) t0 op)) (w.setCells p.blk (p.base + off + n * i.size) mn) := by
     intro cells t0 op ho hroom hlen
     have hob := h.obj o _ ho (by rw [hm]; simp)
     simp only [OR] at hob
     obtain ⟨p', cs, e1, e2, e3, e4, e5⟩ := hob
     rw [hm] at e1
     cases e1
     obtain ⟨_, r2, r3⟩ := put_cells (P := P) h ho hm n1 n2 hlen
     rw [← Nat.add_assoc] at r2 r3
     refine ⟨?_, r2, r3⟩
     have hcell : ∀ j, j < mn.length → ∃ u, cs[p.base + off + n * i.size + j]? = some u := fun j hj => by
      obtain ⟨u, hu, _⟩ := e5 (off + n * i.size + j) _ (List.getElem?_eq_getElem (by omega))
      exact ⟨u, by rw [← hu]; congr 1; omega⟩
     exact run_append_room_src (P := P) w t t' ty e i ht hi p.blk (p.base + off) n c y' k mn hsrc hroom (fun j hj => by obtain ⟨u, hu⟩ := hcell j hj; simp [World.cell?, e2, hu]) (fun j hj => by simp [World.frozen?, e2])
    simp only at hx
    cases hcb : Nat.blt cap big with
    | true =>
     rw [hcb] at hx
     simp only [cond_true] at hx
     rw [Nat.blt_eq] at hcb
     have hcc := hk1 hcb
     subst hcc
     cases hroom : Nat.ble (n + k) c with
     | true =>
      rw [hroom] at hx
      simp only [cond_true] at hx
      rw [Nat.ble_eq] at hroom
      split at hx
      ·next cells t0 op ho =>
       obtain ⟨hle, hx⟩ := cond_some hx
       rw [Nat.ble_eq] at hle
       cases hx
       have : off + n * i.size + new.length ≤ cells.length := by
        have : (n + k) * i.size ≤ c * i.size := Nat.mul_le_mul_right _ hroom
        rw [Nat.add_mul, ← hk] at this
        omega
       obtain ⟨r1, r2, r3⟩ := room cells t0 op ho hroom this
       exact ⟨_, μ, _, r1, r2, r3, by simp only [VR]; exact ⟨p, c, hm, rfl, fun _ => rfl, fun e => absurd hcb e⟩⟩
      ·cases hx
     | false =>
      rw [hroom] at hx
      cases hx
      have hlt : c < n + k := by
       rcases Nat.lt_or_ge c (n + k) with h | h
       ·exact h
       ·rw [Nat.ble_eq_true_of_le h] at hroom; cases hroom
      obtain ⟨cap', c1, c2, c3⟩ := grow _ n c rfl hol.symm hlt hfirst
      obtain ⟨μ', d1, d2, d3⟩ := grown n cap' s (fun _ _ => rfl) hol.symm c1 c2 rfl (fun _ _ h => h) (h.wf _ (Nat.le_refl _)) (hfr _ (Nat.le_refl _) (by simp [St.new]))
      exact ⟨_, μ', _, c3, d1, d2, d3⟩
    | false =>
     rw [hcb] at hx
     simp only [cond_false] at hx
     obtain ⟨hcz, hx⟩ := cond_some hx
     have hcz := Nat.eq_of_beq_eq_true hcz
     subst hcz
     obtain ⟨yy, hy, ey⟩ : ∃ y, y = big + i.size - big ∧ y = i.size := ⟨_, rfl, by omega⟩
     have hk3 := hk2 (by omega)
     rw [← hy, ey] at hk3
     obtain ⟨kl, kb, kt⟩ := hk3
     have vsl : ∀ (μ' : Mu) (o' off' m : Nat) (p' : Pl), μ' o' = some (.at_ p') → p'.blk = p.blk → p'.base + off' = p.base + off → p'.tot = p.tot → m ≤ c → VR μ' (.sl o' off' m (big + i.size)) (.slice (some ⟨p.blk, p.base + off, none⟩) m c) := by
      intro μ' o' off' m p' a1 a2 a3 a4 a5
      simp only [VR]
      rw [← hy, ey]
      clear hy ey
      exact ⟨p', c, a1, by rw [a2, a3], fun e => by omega, fun _ => ⟨a5, kb, by rw [a3, a4]; exact kt⟩⟩
     clear hy ey
     split at hx
     ·next cells t0 op ho =>
      have hob := h.obj o _ ho (by rw [hm]; simp)
      simp only [OR] at hob
      obtain ⟨p', cs, e1, e2, e3, e4, e5⟩ := hob
      rw [hm] at e1
      cases e1
      cases hin : Nat.ble (off + n * i.size + new.length) cells.length with
      | true =>
       rw [hin] at hx
       cases hx
       rw [Nat.ble_eq] at hin
       have hroom : n + k ≤ c := by
        rcases Nat.eq_zero_or_pos new.length with e0 | e0
        ·have : k = 0 := by omega
         omega
        ·obtain ⟨u, hu, _⟩ := e5 (off + n * i.size + new.length - 1) _ (List.getElem?_eq_getElem (by omega))
         have hlt := (Array.getElem?_eq_some_iff.1 hu).1
         have : (n + k) * i.size ≤ c * i.size := by rw [Nat.add_mul, ← hk]; omega
         exact Nat.le_of_mul_le_mul_right this g1
       obtain ⟨r1, r2, r3⟩ := room cells t0 op ho hroom hin
       exact ⟨_, μ, _, r1, r2, r3, vsl μ o off (n + k) p hm rfl rfl rfl hroom⟩
      | false =>
       rw [hin] at hx
       simp only [cond_false] at hx
       obtain ⟨hee0, hx2⟩ := cond_some hx
       clear hx
       have hee := Nat.eq_of_beq_eq_true hee0
       subst hee
       cases hx2
       have hfree : μ s.nx = none := hfr _ (Nat.le_refl _) (by simp [St.new, St.drop])
       have hone : o ≠ s.nx := fun e => by rw [e, h.wf _ (Nat.le_refl _)] at ho; cases ho
       have hsub : ∀ o1 x, (s.drop o).h.get o1 = some x → s.h.get o1 = some x := fun o1 x e => by simp only [St.drop, Tr.get_set] at e; split at e <;> simp_all
       rcases Nat.lt_or_ge c (n + k) with hlt | hroom
       ·obtain ⟨cap', c1, c2, c3⟩ := grow _ n c rfl hol.symm hlt hfirst
        obtain ⟨μ', d1, d2, d3⟩ := grown n cap' (s.drop o) (fun o1 h1 => by simp only [St.drop]; exact Tr.get_set_ne _ _ (fun e => by subst e; rw [hm] at h1; cases h1)) hol.symm c1 c2 rfl hsub (by simp only [St.drop]; rw [Tr.get_set_ne _ _ (Ne.symm hone)]; exact h.wf _ (Nat.le_refl _)) hfree
        exact ⟨_, μ', _, c3, d1, d2, d3⟩
       ·-- room behind the known cells
        have hsz : p.base + off + (n + k) * i.size ≤ cs.size := by
         have : (n + k) * i.size ≤ c * i.size := Nat.mul_le_mul_right _ hroom
         omega
        have hnk : (n + k) * i.size = n * i.size + new.length := by rw [Nat.add_mul, hk]
        have hrun := run_append_room_src (P := P) w t t' ty e i ht hi p.blk (p.base + off) n c y' k mn hsrc hroom
         (fun j hj => by
          have : p.base + off + n * i.size + j < cs.size := by omega
          simp [World.cell?, e2, this]) (fun j hj => by simp [World.frozen?, e2])
        obtain ⟨r1, r2, r3, r4⟩ := setCells_rest p.blk mn (p.base + off + n * i.size) w
        have hblk := setCells_same p.blk e (0, 0) mn (p.base + off + n * i.size) w cs.toList (by simpa using e2)
        have hne := fun g (hg : g ≠ p.blk) => setCells_ne p.blk hg mn (p.base + off + n * i.size) w
        have hdr := h.drop o
        have hne2 : ∀ o1 x1 p1, (s.drop o).h.get o1 = some x1 → μ o1 = some (.at_ p1) → p1.blk ≠ p.blk := fun o1 x1 p1 f1 f2 f3 => by
         have : o1 = o := h.inj o1 o x1 _ p1 p (hsub o1 x1 f1) ho f2 hm f3
         subst this
         simp only [St.drop] at f1
         rw [Tr.get_set_same] at f1
         cases f1
        have hnt : ∀ o1 n1 A m1 c1, (s.drop o).h.get o1 = some (.nat n1) → μ o1 = some (.val A m1 c1) → Off (.slice A m1 c1) p.blk := fun o1 n1 A m1 c1 f1 f2 => h.nat o1 n1 A m1 c1 o _ p (hsub _ _ f1) f2 ho hm
        have hrel : Rel μ (s.drop o) (w.setCells p.blk (p.base + off + n * i.size) mn) :=
         ⟨fun o1 x1 f1 f2 => (hdr.obj o1 x1 f1 f2).keep (Sub.refl μ) (by omega) (fun p1 f3 => hne _ (hne2 o1 x1 p1 f1 f3)) (fun A m1 c1 f3 ad hA hpos hlt => hne _ (by
          obtain ⟨nn, rfl⟩ := (hdr.obj o1 x1 f1 f2).val f3
          subst hA
          exact hnt o1 nn _ m1 c1 f1 f3 ad m1 c1 rfl hpos)), hdr.inj, hdr.nat, hdr.wf⟩
        have hp' : (μ.with s.nx (.at_ ⟨p.blk, p.base + off, p.tot⟩)) s.nx = some (.at_ ⟨p.blk, p.base + off, p.tot⟩) := Mu.with_same _ _ _
        have hsx : Sub μ (μ.with s.nx (.at_ ⟨p.blk, p.base + off, p.tot⟩)) := Mu.sub_with _ hfree
        have hob' : OR (μ.with s.nx (.at_ ⟨p.blk, p.base + off, p.tot⟩)) (w.setCells p.blk (p.base + off + n * i.size) mn) s.nx (.cells (old ++ new) e true) := by
         refine ⟨_, _, hp', hblk, by simp [putR_length, e3], ⟨by rw [List.all_append, o2, n2]; rfl, noDig_putR (noDigs_of_flat n1 n2) e4.2⟩, fun j x hj => ?_⟩
         rw [List.getElem?_toArray, putR_get]
         simp only
         rw [List.getElem?_append] at hj
         split at hj
         ·next hjo =>
          obtain ⟨u, hu, hv⟩ := o1.get hj
          refine ⟨u, ?_, hv.mono hsx⟩
          rw [if_neg (by omega)]
          have := hocell j u hu
          simp only [World.cell?, e2, Option.isSome_none, Bool.false_eq_true, if_false] at this
          rw [Array.getElem?_toList]
          exact this
         ·next hjo =>
          obtain ⟨u, hu, hv⟩ := n1.get hj
          refine ⟨u, ?_, hv.mono hsx⟩
          have hjl := (List.getElem?_eq_some_iff.1 hj).1
          rw [if_pos (by simp only [Array.length_toList]; omega), ← hu]
          congr 1
          omega
        have hR := hrel.adopt hfree (.cells (old ++ new) e true) ⟨p.blk, p.base + off, p.tot⟩ hob' hne2 hnt (by simp)
        refine ⟨_, μ.with s.nx (.at_ ⟨p.blk, p.base + off, p.tot⟩), _, hrun, hR, ?_, vsl _ s.nx 0 (n + k) _ hp' rfl (by simp) rfl hroom⟩
        refine ⟨hsx, fun o1 f1 f2 => ?_, by simp [St.new, St.drop], r1, r2, r3, by omega, fun g hg hno => hne g (fun e => hno o _ p ho hm e.symm), fun o1 x1 p1 f1 f2 => ?_, fun o1 h1 h2 => by
         simp only [St.new, St.drop]
         rw [Tr.get_set_ne _ _ (by omega), Tr.get_set_ne _ _ (fun e => by subst e; rw [hm] at h1; cases h1)]⟩
        ·by_cases e : o1 = s.nx
         ·subst e; simp [St.new, St.drop]
         ·rw [Mu.with_ne _ _ e] at f2; exact absurd f1 f2
        ·simp only [St.new] at f1
         rw [Tr.get_set] at f1
         split at f1
         ·next e => rw [show (s.drop o).nx = s.nx from rfl] at e; subst e; rw [Mu.with_same] at f2; cases f2; exact .inr ⟨o, _, p, ho, hm, rfl⟩
         ·next e => rw [Mu.with_ne _ _ (show o1 ≠ s.nx from e)] at f2; exact .inr ⟨o1, x1, p1, hsub o1 x1 f1, f2, rfl⟩
     ·cases hx
  ·cases hx
 ·cases hx
end
end
end Go.Proofs.YtlhankdkhiilkaaGreat
