/- Lemmas on the way: Ev8, Ev9. -/
import Derived.Test.YtlhankdkhiilkaaGreatI34
set_option linter.unusedSimpArgs false
set_option linter.unusedVariables false
set_option linter.unusedSectionVars false
set_option linter.unnecessarySimpa false
namespace Go.Proofs.YtlhankdkhiilkaaGreat
open Go.RowKit
section
section
variable {P : Program} {μ : Mu} {s : St} {w : World}

theorem EsR.find {es : List AE} {l : List MapEntry} (h : EsR μ es l) (b : Nat) : (∀ a, es.find? (fun e => Nat.beq e.born b) = some a → ∃ e, l.find? (fun e => e.born == b) = some e ∧ VR μ a.key e.key ∧ VR μ a.val e.val ∧ e.born = a.born) := by
 induction es generalizing l with
 | nil => intro a e; cases e
 | cons x es ih =>
  obtain ⟨k, v, l', rfl, h1, h2, h3⟩ := h
  intro a e
  rw [List.find?_cons] at e ⊢
  cases hb : Nat.beq x.born b with
  | true =>
   rw [hb] at e
   cases e
   have : (x.born == b) = true := by simpa using hb
   simp only [this]
   exact ⟨_, rfl, h1, h2, rfl⟩
  | false =>
   rw [hb] at e
   have : (x.born == b) = false := by simpa using (beqF.1 hb)
   simp only [this]
   exact ih h3 a e

set_option maxHeartbeats 1000000 in
theorem rd_run (hl : laidOutB P = true) (h : Rel μ s w) {ρ : Operand → Option AV} {ev : Operand → Value} (hρ : ∀ x v, ρ x = some v → VR μ v (ev x)) (o : Oper) {r : AV} (hx : rdA P ρ s o.op = some r) :
  ∃ v, (execOp ev o).run P w = .ok (.value v) w ∧ VR μ r v := by
 obtain ⟨dst, op, type, pos, after, guard⟩ := o
 simp only at hx
 cases op
 case move x => exact ⟨_, rfl, hρ _ _ (by simpa only [rdA] using hx)⟩
 case assign x => exact ⟨_, rfl, hρ _ _ (by simpa only [rdA] using hx)⟩
 case pick c a b =>
  simp only [rdA] at hx
  split at hx
  ·next t hc =>
   have hc' := hρ _ _ hc
   simp only [VR] at hc'
   cases t
   ·exact ⟨ev b, by simp [execOp, hc', asBool], hρ _ _ hx⟩
   ·exact ⟨ev a, by simp [execOp, hc', asBool], hρ _ _ hx⟩
  ·cases hx
 case load t a =>
  simp only [rdA, Option.bind_eq_some_iff] at hx
  obtain ⟨x, h1, h2⟩ := hx
  obtain ⟨v, h3, h4⟩ := load_run h h2 (hρ _ _ h1)
  exact ⟨v, value_run h3, h4⟩
 case nilCheck x =>
  simp only [rdA] at hx
  split at hx
  ·next o off e =>
   cases hx
   have := hρ _ _ e
   refine ⟨ev x, ?_, this⟩
   simp only [VR] at this
   obtain ⟨p, _, e'⟩ := this
   simp [execOp, e']
  ·next f fs cs e =>
   cases hx
   have := hρ _ _ e
   refine ⟨ev x, ?_, this⟩
   simp only [VR] at this
   obtain ⟨a, c, e', _, _⟩ := this
   simp [execOp, e']
  ·next l e =>
   cases hx
   have := hρ _ _ e
   refine ⟨ev x, ?_, this⟩
   simp only [VR] at this
   obtain ⟨p, _, e'⟩ := this
   simp [execOp, e']
  ·cases hx
 case binOp op t x y yt =>
  simp only [rdA] at hx
  split at hx
  ·next a b ha hb =>
   obtain ⟨h1, v, h2, h3⟩ := binA_run (x := x) (y := y) hx (hρ _ _ ha) (hρ _ _ hb) w
   exact ⟨v, by simp [execOp, h1, h2], h3⟩
  ·cases hx
 case unOp op t x =>
  simp only [rdA, Option.bind_eq_some_iff] at hx
  obtain ⟨a, h1, v, h2, u, h3, h4⟩ := hx
  have := toConst_vr h2 (hρ _ _ h1)
  exact ⟨u, by simp [execOp, this, pureRun_run P w _ h3], ofConst_vr μ u h4⟩
 case convert src dst x =>
  simp only [rdA, Option.bind_eq_some_iff] at hx
  obtain ⟨a, h1, hx⟩ := hx
  split at hx
  ·next k n =>
   rw [Option.bind_eq_some_iff] at hx
   obtain ⟨u, h3, h4⟩ := hx
   have := hρ _ _ h1
   simp only [VR] at this
   exact ⟨u, by simp [execOp, this, pureRun_run P w _ h3], ofConst_vr μ u h4⟩
  ·cases hx
 case makeInterface t x =>
  simp only [rdA] at hx
  split at hx
  ·cases hx
  ·next d hd hu =>
   simp only [Option.map_eq_some_iff] at hx
   obtain ⟨a, h1, rfl⟩ := hx
   refine ⟨.iface t (ev x), ?_, by simp only [VR]; exact ⟨_, rfl, hρ _ _ h1⟩⟩
   apply value_run
   simp only [Instr.makeInterface, Sem.run_bind, run_underlying hu w, Result.andThen_ok]
   rfl
  ·cases hx
 case makeFunc fn fs cs =>
  cases fn with
  | func f =>
   simp only [rdA, Option.bind_eq_some_iff, Option.map_eq_some_iff] at hx
   obtain ⟨asn, h1, bs, h2, rfl⟩ := hx
   refine ⟨.func (.func f) (fs.map ev) (cs.map ev), rfl, ?_⟩
   simp only [VR]
   exact ⟨fs.toList.map ev, cs.toList.map ev, by rw [← Array.toList_map, ← Array.toList_map, Array.toArray_toList, Array.toArray_toList], mapM_vrs hρ h1, mapM_vrs hρ h2⟩
  | _ => simp [rdA] at hx
 case slice t x lo hi mx =>
  simp only [rdA] at hx
  cases hc : (hi.isSome || mx.isNone) with
  | false => rw [hc] at hx; cases hx
  | true =>
   rw [hc] at hx
   simp only [cond_true, Option.bind_eq_some_iff] at hx
   obtain ⟨a, h1, h2⟩ := hx
   obtain ⟨v, h3, h4⟩ := sliceA_run hρ (by rintro rfl; simpa using hc) h2 (hρ _ _ h1) w
   exact ⟨v, value_run h3, h4⟩
 case fieldAddr t x f =>
  simp only [rdA] at hx
  split at hx
  ·next fd o off hf ha =>
   obtain ⟨fs, hu, hfs⟩ := fieldT_run hf
   have hv := hρ _ _ ha
   simp only [VR] at hv
   obtain ⟨p, hm, e⟩ := hv
   split at hx
   ·next n hz =>
    cases hx
    refine ⟨.pointer (some ⟨p.blk, p.base + (off + fd.offset), none⟩), value_run ?_, by simp only [VR]; exact ⟨p, hm, rfl⟩⟩
    simp [Instr.fieldAt, Instr.sureAddr, run_underlying hu, hfs, e, fieldPlace, sizeOf_run hz, add_at, Nat.add_assoc]
   ·cases hx
  ·cases hx
 case field t x f =>
  simp only [rdA] at hx
  split at hx
  ·next fd l hf ha =>
   obtain ⟨fs, hu, hfs⟩ := fieldT_run hf
   have hv := hρ _ _ ha
   simp only [VR] at hv
   obtain ⟨m, e, hm⟩ := hv
   obtain ⟨v, h3, h4⟩ := part_run hx hm w
   refine ⟨v, value_run ?_, h4⟩
   simp [Instr.field, run_underlying hu, hfs, e, asAgg, h3]
  ·cases hx
 case indexAddr t x ix =>
  simp only [rdA] at hx
  split at hx
  ·next n e o off i hu ha hi =>
   rw [Option.bind_eq_some_iff] at hi
   obtain ⟨ia, hi1, hi2⟩ := hi
   have ei := bnd_vr hi2 (hρ _ _ hi1)
   have hv := hρ _ _ ha
   simp only [VR] at hv
   obtain ⟨p, hm, e'⟩ := hv
   split at hx
   ·next z hz =>
    cases hc : Nat.blt i n with
    | false => rw [hc] at hx; cases hx
    | true =>
     rw [hc] at hx
     cases hx
     rw [Nat.blt_eq] at hc
     refine ⟨.pointer (some ⟨p.blk, p.base + (off + i * z), none⟩), value_run ?_, by simp only [VR]; exact ⟨p, hm, rfl⟩⟩
     simp [Instr.indexAt, asIntOf, ei, Instr.sureAddr, run_underlying hu, e', sizeOf_run hz, add_at, Nat.add_assoc, hc]
   ·cases hx
  ·next e o off n c i hu ha hi =>
   rw [Option.bind_eq_some_iff] at hi
   obtain ⟨ia, hi1, hi2⟩ := hi
   have ei := bnd_vr hi2 (hρ _ _ hi1)
   have hv := hρ _ _ ha
   simp only [VR] at hv
   obtain ⟨p, c', hm, e', _, _⟩ := hv
   split at hx
   ·next z hz =>
    cases hc : Nat.blt i n with
    | false => rw [hc] at hx; cases hx
    | true =>
     rw [hc] at hx
     cases hx
     rw [Nat.blt_eq] at hc
     refine ⟨.pointer (some ⟨p.blk, p.base + (off + i * z), none⟩), value_run ?_, by simp only [VR]; exact ⟨p, hm, rfl⟩⟩
     simp [Instr.indexAt, asIntOf, ei, run_underlying hu, e', sizeOf_run hz, add_at, Nat.add_assoc, hc]
   ·cases hx
  ·cases hx
 case index t x ix =>
  simp only [rdA] at hx
  split at hx
  ·next n e l i hu ha hi =>
   rw [Option.bind_eq_some_iff] at hi
   obtain ⟨ia, hi1, hi2⟩ := hi
   have ei := bnd_vr hi2 (hρ _ _ hi1)
   have hv := hρ _ _ ha
   simp only [VR] at hv
   obtain ⟨m, e', hm⟩ := hv
   split at hx
   ·next z hz =>
    cases hc : Nat.blt i n with
    | false => rw [hc] at hx; cases hx
    | true =>
     rw [hc] at hx
     rw [Nat.blt_eq] at hc
     obtain ⟨v, h3, h4⟩ := part_run hx hm w
     refine ⟨v, value_run ?_, h4⟩
     simp [Instr.index, asIntOf, ei, run_underlying hu, e', sizeOf_run hz, hc, h3]
   ·cases hx
  ·cases hx
 case lookup t x k ok =>
  simp only [rdA] at hx
  split at hx
  ·next a b ha hb =>
   obtain ⟨v, h3, h4⟩ := lookA_run hl h hx (hρ _ _ ha) (hρ _ _ hb)
   exact ⟨v, value_run h3, h4⟩
  ·cases hx
 case typeAssert x xt t ok =>
  simp only [rdA] at hx
  split at hx
  ·cases hx
  ·next d t' u hd hu ha =>
   have hv := hρ _ _ ha
   simp only [VR] at hv
   obtain ⟨y, e', hy⟩ := hv
   cases hc : Nat.beq t t' with
   | false => rw [hc] at hx; cases hx
   | true =>
    rw [hc] at hx
    cases hx
    have ht := Nat.eq_of_beq_eq_true hc
    subst ht
    refine ⟨if ok then .tuple #[y, .bool true] else y, value_run ?_, ?_⟩
    ·simp only [Instr.typeAssert, Sem.run_bind, run_underlying hu w, Result.andThen_ok, e']
     cases d <;> first | exact absurd rfl (hd _) | simp
    ·cases ok
     ·exact hy
     ·simp only [cond_true, if_true, VR]; exact ⟨[y, .bool true], rfl, VRs.cons hy (VRs.cons (by simp [VR]) VRs.nil_)⟩
  ·cases hx
 case extract x k =>
  simp only [rdA] at hx
  split at hx
  ·next l ha =>
   have hv := hρ _ _ ha
   simp only [VR] at hv
   obtain ⟨m, e', hm⟩ := hv
   obtain ⟨y, hy, hv⟩ := hm.get hx
   exact ⟨y, value_run (by simp [Instr.extract, e', hy]), hv⟩
  ·cases hx
 case entry it =>
  simp only [rdA] at hx
  split at hx
  ·next o ha =>
   have hv := hρ _ _ ha
   simp only [VR] at hv
   obtain ⟨p, hm, e'⟩ := hv
   split at hx
   ·next m x1 seen st ho =>
    have hob := h.obj o _ ho (by rw [hm]; simp)
    simp only [OR] at hob
    obtain ⟨p', m', h1, h0, h2, q, h3, rfl⟩ := hob
    rw [hm] at h1
    cases h1
    split at hx
    ·next es clock hmo =>
     have hob2 := h.obj m _ hmo (by rw [h3]; simp)
     simp only [OR] at hob2
     obtain ⟨q', l, h4, h5, h6⟩ := hob2
     rw [h3] at h4
     cases h4
     split at hx
     ·next b hb =>
      cases hc : Nat.beq clock st with
      | false => rw [hc] at hx; cases hx
      | true =>
       rw [hc] at hx
       simp only [cond_true] at hx
       have hcs := Nat.eq_of_beq_eq_true hc
       subst hcs
       split at hx
       ·next a hfa =>
        cases hx
        obtain ⟨e, f1, f2, f3, f4⟩ := h6.find b a hfa
        refine ⟨.tuple #[e.key, e.val], value_run ?_, by simp only [VR]; exact ⟨[e.key, e.val], rfl, VRs.cons f2 (VRs.cons f3 VRs.nil_)⟩⟩
        have hbk : seen.toArray.back? = some b := by simpa using hb
        simp [Instr.entry, e', h0, getObj, Sem.run, h2, h5, hbk, f1]
       ·cases hx
     ·cases hx
    ·cases hx
   ·cases hx
  ·cases hx
 case build t ps =>
  obtain ⟨v, h3, h4⟩ := build_run hρ hx w
  exact ⟨v, value_run h3, h4⟩
 case call c =>
  obtain ⟨callee, args, argTypes⟩ := c
  cases callee with
  | builtin b =>
   cases b
   case len =>
    simp only [rdA] at hx
    split at hx
    ·next t x ht ha =>
     have hrun : ∀ {v}, (Builtin.len_ argTypes type (args.map ev)).run P w = .ok v w → (execOp ev ⟨dst, .call ⟨.builtin .len, args, argTypes⟩, type, pos, after, guard⟩).run P w = .ok (.value v) w := fun hv => by
      simp [execOp, resolve, invoke, builtin, hv]
     have hat : argTypes = #[t] := by rw [← Array.toArray_toList (xs := argTypes), ht]
     have haa : args = #[x] := by rw [← Array.toArray_toList (xs := args), ha]
     subst hat
     subst haa
     split at hx
     ·next n e hu =>
      cases hx
      exact ⟨.int .i64 n, hrun (by simp [Builtin.len_, run_underlying hu, goInt]), by simp [VR]⟩
     ·next e hu =>
      split at hx
      ·next o off n c hv =>
       cases hx
       have hv := hρ _ _ hv
       simp only [VR] at hv
       obtain ⟨p, c', hm, e', _, _⟩ := hv
       exact ⟨.int .i64 n, hrun (by simp [Builtin.len_, run_underlying hu, goInt, e']), by simp [VR]⟩
      ·next hv =>
       cases hx
       have hv := hρ _ _ hv
       simp only [VR] at hv
       exact ⟨.int .i64 0, hrun (by simp [Builtin.len_, run_underlying hu, goInt, hv]), by simp [VR]⟩
      ·cases hx
     ·next kt e hu =>
      split at hx
      ·next o hv =>
       simp only [lenA, Option.map_eq_some_iff] at hx
       obtain ⟨n, hn, rfl⟩ := hx
       have hv := hρ _ _ hv
       simp only [VR] at hv
       obtain ⟨p, hm, e'⟩ := hv
       split at hn
       ·next es clock ho =>
        cases hn
        have hob := h.obj o _ ho (by rw [hm]; simp)
        simp only [OR] at hob
        obtain ⟨p', l, h1, h2, h3⟩ := hob
        rw [hm] at h1
        cases h1
        have hlen : ∀ {es : List AE} {l : List MapEntry}, EsR μ es l → l.length = es.length := by
         intro es
         induction es with
         | nil => intro l h; simp only [EsR] at h; subst h; rfl
         | cons a es ih => intro l h; obtain ⟨_, _, l', rfl, _, _, h⟩ := h; simp [ih h]
        exact ⟨.int .i64 es.length, hrun (by simp [Builtin.len_, run_underlying hu, goInt, e', getObj, Sem.run, h2, hlen h3]), by simp [VR]⟩
       ·cases hn
      ·next hv =>
       cases hx
       have hv := hρ _ _ hv
       simp only [VR] at hv
       exact ⟨.int .i64 0, hrun (by simp [Builtin.len_, run_underlying hu, goInt, hv]), by simp [VR]⟩
      ·cases hx
     ·cases hx
    ·cases hx
   case cap =>
    simp only [rdA] at hx
    split at hx
    ·next t x ht ha =>
     have hrun : ∀ {v}, (Builtin.cap_ argTypes type (args.map ev)).run P w = .ok v w → (execOp ev ⟨dst, .call ⟨.builtin .cap, args, argTypes⟩, type, pos, after, guard⟩).run P w = .ok (.value v) w := fun hv => by
      simp [execOp, resolve, invoke, builtin, hv]
     have hat : argTypes = #[t] := by rw [← Array.toArray_toList (xs := argTypes), ht]
     have haa : args = #[x] := by rw [← Array.toArray_toList (xs := args), ha]
     subst hat
     subst haa
     split at hx
     ·next e hu =>
      split at hx
      ·next o off n c hv =>
       cases hc : Nat.blt c big with
       | false => rw [hc] at hx; cases hx
       | true =>
        rw [hc] at hx
        cases hx
        rw [Nat.blt_eq] at hc
        have hv := hρ _ _ hv
        simp only [VR] at hv
        obtain ⟨p, c', hm, e', h1, _⟩ := hv
        rw [h1 hc] at e'
        exact ⟨.int .i64 c, hrun (by simp [Builtin.cap_, run_underlying hu, goInt, e']), by simp [VR]⟩
      ·next hv =>
       cases hx
       have hv := hρ _ _ hv
       simp only [VR] at hv
       exact ⟨.int .i64 0, hrun (by simp [Builtin.cap_, run_underlying hu, goInt, hv]), by simp [VR]⟩
      ·cases hx
     ·cases hx
    ·cases hx
   case min =>
    simp only [rdA] at hx
    split at hx
    ·next k a k' b hm =>
     cases hc : (k == k') with
     | false => rw [hc] at hx; cases hx
     | true =>
      rw [hc] at hx
      cases hx
      have hv := mapM_vrs hρ hm
      simp only [VRs, VR] at hv
      obtain ⟨y, ys, e1, rfl, y2, ys2, rfl, rfl, rfl⟩ := hv
      refine ⟨.int k (if b < a then b else a), ?_, ?_⟩
      ·simp [execOp, resolve, invoke, builtin, Builtin.min_, e1, Builtin.min2]
      ·by_cases e : b < a <;> simp [VR, e]
    ·cases hx
   case max =>
    simp only [rdA] at hx
    split at hx
    ·next k a k' b hm =>
     cases hc : (k == k') with
     | false => rw [hc] at hx; cases hx
     | true =>
      rw [hc] at hx
      cases hx
      have hv := mapM_vrs hρ hm
      simp only [VRs, VR] at hv
      obtain ⟨y, ys, e1, rfl, y2, ys2, rfl, rfl, rfl⟩ := hv
      refine ⟨.int k (if b > a then b else a), ?_, ?_⟩
      ·simp [execOp, resolve, invoke, builtin, Builtin.max_, e1, Builtin.max2]
      ·by_cases e : b > a <;> simp [VR, e]
    ·cases hx
   all_goals (simp [rdA] at hx; done)
  | _ => simp [rdA] at hx
 all_goals (simp [rdA] at hx; done)
end
end
section
theorem i64_small (n : Nat) (h : n < 9223372036854775808) : IntKind.i64.wrap (n : Int) = (n : Int) := by
 unfold IntKind.wrap
 simp only [IntKind.bits, IntKind.signed]
 have h1 : (n : Int) % (2 ^ 64) = n := Int.emod_eq_of_lt (by omega) (by omega)
 simp only [h1]
 rw [if_neg]
 simp
 omega
theorem vrs_of_z {z : List AV} {zv : List Value} (hz : ∀ μ, VRs μ z zv) (μ : Mu) : ∀ n, VRs μ (reps z n) (reps zv n)
 | 0 => VRs.nil_
 | n + 1 => (hz μ).append (vrs_of_z hz μ n)
theorem reps_range (zv : Array Value) (h0 : 0 < zv.size) (n : Nat) : ((Array.range (n * zv.size)).map (zv[· % zv.size]!)) = (reps zv.toList n).toArray := by
 apply Array.ext'
 simp only [Array.toList_map, Array.toList_range]
 induction n with
 | zero => simp [reps]
 | succ n ih =>
  have : (n + 1) * zv.size = zv.size + n * zv.size := by rw [Nat.add_mul]; omega
  rw [this, List.range_add, List.map_append]
  have e1 : (List.range zv.size).map (fun x => zv[x % zv.size]!) = zv.toList := by
   apply List.ext_getElem?
   intro i
   by_cases hi : i < zv.size
   ·simp [hi, Nat.mod_eq_of_lt hi]
   ·simp [hi]
  have e2 : ((List.range (n * zv.size)).map (zv.size + ·)).map (fun x => zv[x % zv.size]!) = (List.range (n * zv.size)).map (fun x => zv[x % zv.size]!) := by
   rw [List.map_map]
   apply List.map_congr_left
   intro x _
   simp
  rw [e1, e2, ih]
  simp [reps]
theorem reps_flat {z : List AV} (h : z.all flat = true) : ∀ n, (reps z n).all flat = true
 | 0 => rfl
 | n + 1 => by simp only [reps, List.all_append, Bool.and_eq_true]; exact ⟨h, reps_flat h n⟩
theorem cond_some {α : Type} {b : Bool} {x : Option α} {y : α} (h : cond b x none = some y) : b = true ∧ x = some y := by
 cases b with
 | true => exact ⟨rfl, h⟩
 | false => cases h

section
variable {P : Program} {μ : Mu} {s : St} {w : World}

theorem or_cells {μ : Mu} {w' : World} {o g tot : Nat} {c : List AV} {cs : Array Value} {t : TypeId} {op : Bool} (hm : μ o = some (.at_ ⟨g, 0, tot⟩)) (hb : w'.heap[g]? = some (.cells cs t (0, 0))) (hs : cs.size = tot) (hf : c.all flat = true)
  (hc : ∃ rest, VRs μ c rest ∧ ∃ r2, cs.toList = rest ++ r2 ∧ r2.all noDig = true) : OR μ w' o (.cells c t op) := by
 obtain ⟨rest, h1, r2, h2, h3⟩ := hc
 refine ⟨_, cs, hm, hb, hs, ⟨hf, by rw [h2, List.all_append, noDigs_of_flat h1 hf, h3]; rfl⟩, fun i x hx => ?_⟩
 obtain ⟨y, hy, hv⟩ := h1.get hx
 refine ⟨y, ?_, hv⟩
 simp only [Nat.zero_add]
 rw [← Array.getElem?_toList, h2, List.getElem?_append_left (List.getElem?_eq_some_iff.1 hy).1]
 exact hy

theorem al_run {ρ : Operand → Option AV} {ev : Operand → Value} (hρ : ∀ x v, ρ x = some v → VR μ v (ev x)) (o : Oper) {x : AO} {f : Nat → AV} (hx : alA P ρ o.op = some (x, f)) (w : World) :
  ∃ O tot v, (execOp ev o).run P w = .ok (.value v) (w.alloc O) ∧ (∀ n, x ≠ .nat n) ∧
   ∀ μ' k, Sub μ μ' → μ' k = some (.at_ ⟨w.heap.size, 0, tot⟩) → VR μ' (f k) v ∧ ∀ w' : World, w'.heap[w.heap.size]? = some O → OR μ' w' k x := by
 obtain ⟨dst, op, type, pos, after, guard⟩ := o
 simp only at hx
 cases op
 case alloc t =>
  simp only [alA, Option.bind_eq_some_iff] at hx
  obtain ⟨z, hz, hx⟩ := hx
  obtain ⟨hf, hx⟩ := cond_some hx
  cases hx
  obtain ⟨zv, hz1, hz2⟩ := zero_run hz w
  refine ⟨.cells zv.cells t, zv.cells.size, .pointer (some ⟨w.heap.size, 0, none⟩), ?_, by simp, fun μ' k hs hk => ⟨?_, fun w' hw => ?_⟩⟩
  ·apply value_run
   simp [Instr.alloc, hz1, newVar, newRow]
  ·simp only [VR]; exact ⟨_, hk, rfl⟩
  ·exact or_cells hk hw rfl hf ⟨zv.cells.toList, (hz2 μ').cells, [], by simp, rfl⟩
 case box t y =>
  simp only [alA, Option.bind_eq_some_iff] at hx
  obtain ⟨v, hv, hx⟩ := hx
  obtain ⟨hf, hx⟩ := cond_some hx
  cases hx
  have hv' := hρ _ _ hv
  refine ⟨.cells (ev y).cells t, (ev y).cells.size, .pointer (some ⟨w.heap.size, 0, none⟩), ?_, by simp, fun μ' k hs hk => ⟨?_, fun w' hw => ?_⟩⟩
  ·apply value_run
   simp [Instr.box, newVar, newRow]
  ·simp only [VR]; exact ⟨_, hk, rfl⟩
  ·exact or_cells hk hw rfl hf ⟨(ev y).cells.toList, (hv'.mono hs).cells, [], by simp, rfl⟩
 case buildSlice t len ps =>
  simp only [alA] at hx
  split at hx
  ·next e hu =>
   split at hx
   ·next z n hz hn =>
    obtain ⟨hc, hx⟩ := cond_some hx
    simp only [Bool.and_eq_true, Nat.beq_eq, Nat.blt_eq, Nat.ble_eq] at hc
    obtain ⟨⟨hc1, hc2⟩, hc3⟩ := hc
    rw [Option.bind_eq_some_iff] at hx
    obtain ⟨c, hfill, hx⟩ := hx
    obtain ⟨hf, hx⟩ := cond_some hx
    cases hx
    obtain ⟨zv, hz1, hz2⟩ := zero_run hz w
    have hzs : zv.cells.size = n := by rw [← hc1, (hz2 μ).cells.length]; simp
    obtain ⟨m, h1, h2⟩ := fill_run hρ ps.toList (reps z.cells len) (reps zv.cells.toList len) (vrs_of_z (fun μ => (hz2 μ).cells) μ len) hfill
    rw [← reps_range zv.cells (by omega), hzs] at h1
    refine ⟨.cells m.toArray e, m.length, .slice (some ⟨w.heap.size, 0, none⟩) len len, ?_, by simp, fun μ' k hs hk => ⟨?_, fun w' hw => ?_⟩⟩
    ·apply value_run
     have e0 : (ps.map fun (i, x) => (i, ev x)).toList = ps.toList.map fun p => (p.1, ev p.2) := by simp
     have hlen : ¬ (len * n > 2 ^ 24) := by omega
     by_cases h0 : len * n = 0
     ·have hl0 : len = 0 := by rcases Nat.mul_eq_zero.1 h0 with h | h <;> omega
      subst hl0
      simp only [Instr.buildSlice, Sem.run_bind, run_underlying hu w, sizeOf_run hn, Result.andThen_ok]
      have hr : Array.range 0 = #[] := rfl
      simp only [Nat.zero_mul, hr, Array.map_empty] at h1 ⊢
      simp only [Nat.not_lt_zero, if_false, if_true, e0, Sem.run_bind, Sem.run_pure, Result.andThen_ok, gt_iff_lt]
      rw [h1]
      rfl
     ·simp only [Instr.buildSlice, Sem.run_bind, run_underlying hu w, sizeOf_run hn, Result.andThen_ok]
      rw [if_neg hlen, if_neg h0]
      simp only [Sem.run_bind, hz1, Result.andThen_ok, Sem.run_pure, hzs, e0]
      rw [h1]
      rfl
    ·simp only [VR]
     refine ⟨_, len, hk, rfl, fun _ => rfl, fun e => ?_⟩
     have : len ≤ len * n := Nat.le_mul_of_pos_right _ hc2
     exact absurd (show len < big by unfold big; omega) e
    ·exact or_cells hk hw (by simp) hf ⟨m, VRs.mono hs _ h2, [], by simp, rfl⟩
   ·cases hx
  ·cases hx
 case makeMap t r =>
  cases r with
  | none =>
   simp only [alA, Option.some.injEq, Prod.mk.injEq] at hx
   obtain ⟨rfl, rfl⟩ := hx
   refine ⟨.map #[] 0, 0, .map (some w.heap.size), by simp [execOp, Instr.makeMap], by simp, fun μ' k hs hk => ⟨?_, fun w' hw => ?_⟩⟩
   ·simp only [VR]; exact ⟨_, hk, rfl⟩
   ·exact ⟨_, [], hk, hw, rfl⟩
  | some y =>
   simp only [alA] at hx
   split at hx
   ·next kt e k n hu hy =>
    cases hx
    have := hρ _ _ hy
    simp only [VR] at this
    refine ⟨.map #[] 0, 0, .map (some w.heap.size), value_run (by simp [Instr.makeMap, run_underlying hu, this, asInt, asIntOf]), by simp, fun μ' k hs hk => ⟨?_, fun w' hw => ?_⟩⟩
    ·simp only [VR]; exact ⟨_, hk, rfl⟩
    ·exact ⟨_, [], hk, hw, rfl⟩
   ·cases hx
 case makeSlice t l c =>
  simp only [alA] at hx
  split at hx
  ·next e ln cp hu hl hc =>
   rw [Option.bind_eq_some_iff] at hl hc
   obtain ⟨la, hl1, hl2⟩ := hl
   obtain ⟨ca, hc1, hc2⟩ := hc
   have el := bnd_vr hl2 (hρ _ _ hl1)
   have ec := bnd_vr hc2 (hρ _ _ hc1)
   split at hx
   ·next z i hz hi =>
    obtain ⟨hcd, hx⟩ := cond_some hx
    cases hx
    simp only [Bool.and_eq_true, Nat.beq_eq, Nat.blt_eq, Nat.ble_eq] at hcd
    obtain ⟨⟨⟨⟨⟨hf, g1⟩, g2⟩, g3⟩, g4⟩, g5⟩ := hcd
    obtain ⟨zv, hz1, hz2⟩ := zero_run hz w
    have hzs : zv.cells.size = i.size := by rw [← g1, (hz2 μ).cells.length]; simp
    have hbytes : i.bytes * cp ≤ 1000000 * 1000000 := Nat.mul_le_mul g5 g4
    have hflat := reps_flat hf cp
    refine ⟨.cells (reps zv.cells.toList cp).toArray e, (reps zv.cells.toList cp).length, .slice (some ⟨w.heap.size, 0, none⟩) ln cp, ?_, by simp, fun μ' k hs hk => ⟨?_, fun w' hw => ?_⟩⟩
    ·apply value_run
     have hw1 := i64_small ln (by omega)
     have hw2 := i64_small cp (by omega)
     have hno : ¬ ((cp : Int) < 0) := by omega
     have hbi : ¬ ((i.bytes : Int) * (cp : Int) > 2 ^ 48) := by
      have : ((i.bytes * cp : Nat) : Int) ≤ ((1000000 * 1000000 : Nat) : Int) := Int.ofNat_le.2 hbytes
      rw [Int.natCast_mul] at this
      omega
     simp only [Instr.makeSlice, Sem.run_bind, run_underlying hu w, Result.andThen_ok, el, ec, asInt, asIntOf, typeInfo, sizeOf, hi, hw1, hw2, Sem.run_pure, run_program]
     have d1 : decide ((cp : Int) < 0) = false := decide_eq_false hno
     have d2 : decide ((i.bytes : Int) * (cp : Int) > 2 ^ 48) = false := decide_eq_false hbi
     have d3 : decide ((ln : Int) < 0) = false := decide_eq_false (by omega)
     have d4 : decide ((ln : Int) > (cp : Int)) = false := decide_eq_false (by omega)
     simp only [d1, d2, d3, d4, Bool.or_false, Bool.false_eq_true, if_false, Sem.run_bind, run_askRoom, run_program, hi, Sem.run_pure, Result.andThen_ok, Int.toNat_natCast]
     by_cases h0 : cp * i.size = 0
     ·have hc0 : cp = 0 := by rcases Nat.mul_eq_zero.1 h0 with h | h <;> omega
      subst hc0
      have e0 : ln = 0 := by omega
      subst e0
      have hr : Array.range 0 = #[] := rfl
      simp [newRow, reps, hr]
     ·rw [if_neg h0]
      have := reps_range zv.cells (by omega) cp
      rw [hzs] at this
      simp only [Sem.run_bind, hz1, Result.andThen_ok, Sem.run_pure, hzs, this]
      rfl
    ·simp only [VR]
     exact ⟨_, cp, hk, rfl, fun _ => rfl, fun e => absurd (show cp < big by unfold big; omega) e⟩
    ·exact or_cells hk hw (by simp) hflat ⟨_, vrs_of_z (fun μ => (hz2 μ).cells) μ' cp, [], by simp, rfl⟩
   ·cases hx
  ·cases hx
 all_goals (simp [alA] at hx; done)
end
end
end Go.Proofs.YtlhankdkhiilkaaGreat
