/- Lemmas on the way: Lw1, Ce1, CqP. -/
import Derived.Test.YtjebfdfkjlkifaaGreatC37
import Derived.Test.YtjebfdfkjlkifaaGreatC39
set_option linter.unusedSimpArgs false
set_option linter.unusedVariables false
set_option linter.unusedSectionVars false
set_option linter.unnecessarySimpa false
namespace Go.Proofs.YtjebfdfkjlkifaaGreat
open Go.RowKit
theorem all_step {α : Type} {p : α → Bool} {l : List α} {j : Nat} {x : α} (hx : l[j]? = some x) : (l.drop j).all p = (p x && (l.drop (j + 1)).all p) := by
 have hj := (List.getElem?_eq_some_iff.1 hx).1
 have : l[j] = x := by rw [List.getElem?_eq_getElem hj] at hx; injection hx
 rw [List.drop_eq_getElem_cons hj, this]
 rfl
section
attribute [local go_sem] Oper.semAt_some
end
theorem ordL_swap {a b : List Int} (h : a.length = b.length) : ordL b a = - ordL a b := by
 rw [← cmpL_ord h, ← cmpL_ord h.symm, cmpL_swap]
theorem look_cons (e : Gr) (m : List Gr) (k : List Int) : lookT (e :: m) k = if e.1 = k then some e.2 else lookT m k := by
 unfold lookT
 rw [List.find?_cons]
 by_cases h : e.1 = k
 ·rw [if_pos h, decide_eq_true h]; rfl
 ·rw [if_neg h, decide_eq_false h]
theorem put_none {n : Nat} {g : Gr} {gs : List Gr} {ws : List Int} (hr : Rises (g :: gs)) (h1 : ¬ ordL g.1 ws < 0) (h2 : ¬ ordL g.1 ws = 0) : ∀ e ∈ g :: gs, e.1 ≠ ws := by
 intro e he h
 rcases List.mem_cons.1 he with rfl | he
 ·rw [h, ordL_self] at h2
  exact h2 rfl
 ·have := (List.pairwise_cons.1 hr).1 e he
  rw [h] at this
  exact h1 this
theorem putL_look {n : Nat} {gs : List Gr} {ws : List Int} {c : Int} (hr : Rises gs) (hl : ∀ g ∈ gs, g.1.length = n) (hw : ws.length = n) (k : List Int) :
  lookT (putL gs ws c) k = if k = ws then some ((lookT gs ws).getD 0 + c) else lookT gs k := by
 induction gs with
 | nil =>
  unfold putL
  rw [look_cons]
  by_cases hk : k = ws
  ·rw [if_pos hk, if_pos hk.symm]; simp [lookT]
  ·rw [if_neg hk, if_neg (fun e => hk e.symm)]
 | cons g gs ih =>
  have hr2 := List.pairwise_cons.1 hr
  have hg := hl g List.mem_cons_self
  have ih' := ih hr2.2 (fun x hx => hl x (List.mem_cons_of_mem _ hx))
  unfold putL
  by_cases h1 : ordL g.1 ws < 0
  ·rw [if_pos h1]
   have hne : g.1 ≠ ws := fun e => by rw [e, ordL_self] at h1; omega
   rw [look_cons, look_cons, look_cons, ih', if_neg hne]
   by_cases hk : k = ws
   ·rw [if_pos hk, if_neg (by rw [hk]; exact hne), if_pos hk]
   ·rw [if_neg hk, if_neg hk]
  ·rw [if_neg h1]
   by_cases h2 : ordL g.1 ws = 0
   ·rw [if_pos h2]
    have he : g.1 = ws := (ordL_eq (by rw [hg, hw])).1 h2
    rw [look_cons, look_cons, look_cons, if_pos he]
    by_cases hk : k = ws
    ·rw [if_pos hk, if_pos (by rw [hk]; exact he)]; rfl
    ·rw [if_neg hk, if_neg (by rw [he]; exact fun e => hk e.symm), if_neg (by rw [he]; exact fun e => hk e.symm)]
   ·rw [if_neg h2]
    have hno := lookT_none (put_none (n := n) hr h1 h2)
    rw [look_cons, hno]
    by_cases hk : k = ws
    ·rw [if_pos hk, if_pos hk.symm]; simp
    ·rw [if_neg hk, if_neg (fun e => hk e.symm)]
theorem putL_rises {n : Nat} {gs : List Gr} {ws : List Int} {c : Int} (hr : Rises gs) (hl : ∀ g ∈ gs, g.1.length = n) (hw : ws.length = n) : Rises (putL gs ws c) := by
 induction gs with
 | nil => exact List.pairwise_singleton _ _
 | cons g gs ih =>
  have hr2 := List.pairwise_cons.1 hr
  have hg := hl g List.mem_cons_self
  have hgs : ∀ x ∈ gs, x.1.length = n := fun x hx => hl x (List.mem_cons_of_mem _ hx)
  have ih' := ih hr2.2 hgs
  unfold putL
  by_cases h1 : ordL g.1 ws < 0
  ·rw [if_pos h1]
   refine List.pairwise_cons.2 ⟨fun x hx => ?_, ih'⟩
   rcases putL_mem hx with h | rfl | ⟨y, hy, rfl⟩
   ·exact hr2.1 x h
   ·exact h1
   ·exact hr2.1 y hy
  ·rw [if_neg h1]
   by_cases h2 : ordL g.1 ws = 0
   ·rw [if_pos h2]
    exact List.pairwise_cons.2 ⟨fun x hx => hr2.1 x hx, hr2.2⟩
   ·rw [if_neg h2]
    have h3 : ordL ws g.1 < 0 := by rw [ordL_swap (by rw [hg, hw])]; omega
    refine List.pairwise_cons.2 ⟨fun x hx => ?_, hr⟩
    rcases List.mem_cons.1 hx with rfl | hx
    ·exact h3
    ·exact ordL_lt_trans (by rw [hw, hg]) (by rw [hg, hgs x hx]) h3 (hr2.1 x hx)
theorem putL_len {n : Nat} {gs : List Gr} {ws : List Int} {c : Int} (hl : ∀ g ∈ gs, g.1.length = n) (hw : ws.length = n) : ∀ g ∈ putL gs ws c, g.1.length = n := by
 intro g hg
 rcases putL_mem hg with h | rfl | ⟨y, hy, rfl⟩
 ·exact hl g h
 ·exact hw
 ·exact hl y hy
theorem Cnt.putL {n : Nat} {gs : List Gr} {T : List Int → Int} {ws : List Int} {c : Int} (h : Cnt gs T) (hr : Rises gs) (hl : ∀ g ∈ gs, g.1.length = n) (hw : ws.length = n) (hc : 0 < c) : Cnt (putL gs ws c) (fun x => T x + if x = ws then c else 0) := by
 refine ⟨(putL_rises hr hl hw).nodup, fun k => ?_, fun e he => ?_⟩
 ·rw [putL_look hr hl hw]
  by_cases hk : k = ws
  ·show _ = T k + if k = ws then c else 0
   rw [if_pos hk, if_pos hk, hk, ← h.2.1 ws]; rfl
  ·show _ = T k + if k = ws then c else 0
   rw [if_neg hk, if_neg hk, h.2.1 k]; omega
 ·rcases putL_mem he with h1 | rfl | ⟨y, hy, rfl⟩
  ·exact h.2.2 e h1
  ·exact hc
  ·have := h.2.2 y hy
   show 0 < y.2 + c
   omega
theorem Cnt.nodup {m : List Gr} {T : List Int → Int} (h : Cnt m T) : m.Nodup := (List.pairwise_map.1 h.1).imp (fun h e => h (congrArg _ e))
theorem Cnt.perm_of {m m' : List Gr} {T : List Int → Int} (h : Cnt m T) (h' : Cnt m' T) : m.Perm m' := by
 refine (List.perm_ext_iff_of_nodup h.nodup h'.nodup).2 fun e => ⟨fun he => ?_, fun he => ?_⟩
 ·have h1 := h.of_mem he
  have h2 := h.2.2 e he
  have h3 := h'.mem (k := e.1) (by omega)
  rw [h1] at h3
  exact h3
 ·have h1 := h'.of_mem he
  have h2 := h'.2.2 e he
  have h3 := h.mem (k := e.1) (by omega)
  rw [h1] at h3
  exact h3
theorem Rises.sorted {n : Nat} {gs : List Gr} (h : Rises gs) (hl : ∀ g ∈ gs, g.1.length = n) : SortedG gs := by
 refine List.Pairwise.imp_of_mem ?_ h
 intro a b ha hb hab hn
 rw [cmpL_ord (by rw [hl a ha, hl b hb]), ordL_swap (by rw [hl a ha, hl b hb])] at hn
 omega
theorem sorted_cnt {n : Nat} {gs hs : List Gr} {T : List Int → Int} (hp : gs.Perm hs) (hg : SortedG gs) (hr : Rises hs) (hl : ∀ g ∈ hs, g.1.length = n) (hc : Cnt hs T) : gs = hs := by
 refine sorted_one hp hg (hr.sorted hl) ?_
 intro a ha b hb h1 h2
 have e : a.1 = b.1 := by
  rcases cmpL_not.1 h2 with h | h
  ·exact absurd h h1
  ·exact h
 refine Prod.ext e ?_
 have e1 := nodup_at hc.1 ha
 have e2 := nodup_at hc.1 hb
 rw [e, e2] at e1
 injection e1 with e1
 exact e1.symm
end Go.Proofs.YtjebfdfkjlkifaaGreat
