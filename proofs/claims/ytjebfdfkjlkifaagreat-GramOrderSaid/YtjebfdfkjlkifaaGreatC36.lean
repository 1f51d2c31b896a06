/- Lemmas on the way: Co1. -/
import Derived.Test.YtjebfdfkjlkifaaGreatC35
set_option linter.unusedSimpArgs false
set_option linter.unusedVariables false
set_option linter.unusedSectionVars false
set_option linter.unnecessarySimpa false
namespace Go.Proofs.YtjebfdfkjlkifaaGreat
open Go.RowKit
section
attribute [local go_sem] Oper.semAt_some

def onesL (m : Nat) (ls : List (List Int)) : List (List Int × Int) := (ls.flatMap (gramsL m)).map fun g => (g, 1)
def cntL (m : Nat) (ls : List (List Int)) : List (List Int × Int) := accT (onesL m ls)

def cntJ (mo : Nat) (ls : List (List Int)) (j i : Nat) : List (List Int × Int) := onesL mo (ls.take j) ++ ((gramsL mo (ls.getD j [])).take i).map fun g => (g, (1 : Int))
theorem cntJ_zero (mo : Nat) (ls : List (List Int)) : cntJ mo ls 0 0 = [] := by simp [cntJ, onesL]
theorem cntJ_end (mo : Nat) (ls : List (List Int)) : cntJ mo ls ls.length 0 = onesL mo ls := by simp [cntJ]
theorem cntJ_step (mo : Nat) (ls : List (List Int)) (j i : Nat) (hi : i < (ls.getD j []).length + 1) : cntJ mo ls j (i + 1) = cntJ mo ls j i ++ [((gramsL mo (ls.getD j [])).getD i [], 1)] := by
 unfold cntJ
 rw [take_gram hi, List.map_append, List.append_assoc]
 rfl
theorem cntJ_next (mo : Nat) (ls : List (List Int)) (j : Nat) (hj : j < ls.length) : cntJ mo ls j ((ls.getD j []).length + 1) = cntJ mo ls (j + 1) 0 := by
 unfold cntJ
 rw [List.take_of_length_le (l := gramsL mo (ls.getD j [])) (by rw [gramsL_length]; exact Nat.le_refl _), List.take_succ_eq_append_getElem hj, show ls.getD j [] = ls[j] by rw [List.getD_eq_getElem?_getD, List.getElem?_eq_getElem hj]; rfl]
 unfold onesL
 rw [List.flatMap_append, List.map_append]
 simp
theorem ones_len {mo : Nat} {ls : List (List Int)} (h : ∀ l ∈ ls, l.length ≤ 500) : (onesL mo ls).length ≤ ls.length * 501 := by
 induction ls with
 | nil => simp [onesL]
 | cons l ls ih =>
  have h1 := ih (fun x hx => h x (List.mem_cons_of_mem _ hx))
  have h2 := h l List.mem_cons_self
  unfold onesL at h1 ⊢
  rw [List.length_map] at h1 ⊢
  rw [List.flatMap_cons, List.length_append, gramsL_length, List.length_cons]
  omega
theorem cntJ_len {mo : Nat} {ls : List (List Int)} {j i : Nat} (h : ∀ l ∈ ls, l.length ≤ 500) (hn : ls.length ≤ 8) : (cntJ mo ls j i).length ≤ 5000 := by
 unfold cntJ
 rw [List.length_append, List.length_map]
 have h1 := ones_len (mo := mo) (ls := ls.take j) (fun l hl => h l (List.mem_of_mem_take hl))
 have h2 : (ls.take j).length ≤ 8 := Nat.le_trans (List.length_take_le' _ _) hn
 have h3 : ((gramsL mo (ls.getD j [])).take i).length ≤ (ls.getD j []).length + 1 := by
  rw [← gramsL_length mo]
  exact List.length_take_le' _ _
 have h4 : (ls.getD j []).length ≤ 500 := by
  rw [List.getD_eq_getElem?_getD]
  cases hg : ls[j]? with
  | none => simp
  | some l => exact h l (List.mem_of_getElem? hg)
 omega
theorem acc_nice (l : List (List Int × Int)) (h : ∀ e ∈ l, NiceK e.1 ∧ e.2 = 1) : NiceM l.length (accT l) := by
 have key : ∀ (l m : List (List Int × Int)) (n : Nat), (∀ e ∈ l, NiceK e.1 ∧ e.2 = 1) → NiceM n m → NiceM ((n + l.length : Nat) : Int) (l.foldl addT m) := by
  intro l
  induction l with
  | nil => intro m n _ hm; simpa using hm
  | cons e l ih =>
   intro m n h hm
   obtain ⟨h2, h3⟩ := h e List.mem_cons_self
   obtain ⟨k, c⟩ := e
   simp only at h2 h3
   subst h3
   have h4 := hm.add (a := 1) (by omega) h2 (c := 1) (by omega)
   have h5 := ih (addT m (k, 1)) (n + 1) (fun x hx => h x (List.mem_cons_of_mem _ hx)) (by exact_mod_cast h4)
   rw [List.foldl_cons, List.length_cons, show n + (l.length + 1) = n + 1 + l.length by omega]
   exact h5
 have := key l [] 0 h (fun e he => by cases he)
 rwa [Nat.zero_add] at this
theorem cntJ_nice {mo : Nat} {V : Int} {ls : List (List Int)} {j i : Nat} (hm : mo ≤ 3) (hV : 0 ≤ V ∧ V ≤ 2000) (h : ∀ l ∈ ls, ∀ x ∈ l, 1 ≤ x ∧ x ≤ V) : ∀ e ∈ cntJ mo ls j i, NiceK e.1 ∧ e.2 = 1 := by
 have key : ∀ l : List Int, (∀ x ∈ l, 1 ≤ x ∧ x ≤ V) → ∀ g ∈ gramsL mo l, NiceK g := by
  intro l hl g hg
  obtain ⟨i, hi⟩ := List.getElem?_of_mem hg
  have hlt := (List.getElem?_eq_some_iff.1 hi).1
  rw [gramsL_length] at hlt
  have e : (gramsL mo l).getD i [] = g := by rw [List.getD_eq_getElem?_getD, hi]; rfl
  have := gram_all (m := mo) (v := V) hV.1 hl hlt
  rw [e] at this
  exact ⟨by omega, fun x hx => by have := this.2 x hx; omega⟩
 intro e he
 unfold cntJ onesL at he
 rcases List.mem_append.1 he with he | he
 ·obtain ⟨g, hg, rfl⟩ := List.mem_map.1 he
  obtain ⟨l, hl, hg⟩ := List.mem_flatMap.1 hg
  exact ⟨key l (h l (List.mem_of_mem_take hl)) g hg, rfl⟩
 ·obtain ⟨g, hg, rfl⟩ := List.mem_map.1 he
  refine ⟨key _ (fun x hx => ?_) g (List.mem_of_mem_take hg), rfl⟩
  rw [List.getD_eq_getElem?_getD] at hx
  cases hg : ls[j]? with
  | none => rw [hg] at hx; cases hx
  | some l => rw [hg] at hx; exact h l (List.mem_of_getElem? hg) x hx
def CoI (w3 W4 : World) (mo : Nat) (ls : List (List Int)) (j : Nat) (rs : List Nat) (i : Nat) (W : World) : Prop :=
 Below w3.heap.size w3 W ∧ Blk W (w3.heap.size + 1) 115 [.map (some w3.heap.size)] ∧
  TMap keyV (Value.int .i64) W 120 w3.heap.size (accT (cntJ mo ls j i)) ∧
  ∀ r ∈ rs, W4.heap.size ≤ r ∧ r < W.heap.size ∧ W.heap[r]? = some (.deferred (some []))
theorem CoI.mark {w3 W4 : World} {mo : Nat} {ls : List (List Int)} {j i : Nat} {rs : List Nat} {W W' : World} {row : Option Nat} (h : CoI w3 W4 mo ls j rs i W) (hg : W.grownBy W' row) (hr : ∀ r ∈ rs, some r ≠ row) : ∀ r ∈ rs, W4.heap.size ≤ r ∧ r < W'.heap.size ∧ W'.heap[r]? = some (.deferred (some [])) := fun r hm => by
 obtain ⟨h1, h2, h3⟩ := h.2.2.2 r hm
 exact ⟨h1, Nat.lt_of_lt_of_le h2 hg.size, (hg.block r h2 (hr r hm)).trans h3⟩
theorem coI_own {w3 W4 : World} {mo : Nat} {ls : List (List Int)} {j B : Nat} {rs : List Nat} (hB : w3.heap.size < B) (hr : ∀ r ∈ rs, r < B) : OwnFrom B (CoI w3 W4 mo ls j rs) := by
 intro i W W' r h hg hw
 have hm := h.mark hg (fun x hx e => by have := (hw x e.symm).1; have := hr x hx; omega)
 obtain ⟨h1, h2, h3, _⟩ := h
 exact ⟨h1.grown hg h1.size (fun k e => Nat.le_trans (by omega) (hw k e).1), h2.calm (Calm.of_grown hg (fun r' e => (hw r' e).2)), h3.kept hg (fun e => by have := (hw w3.heap.size e.symm).1; omega), hm⟩
set_option maxRecDepth 1000000 in
set_option maxHeartbeats 16000000 in
theorem countF (w : World) (O : Nat) (V : Int) (sv : Value) (ls : List (List Int)) (hs : ListsAt w sv ls) (hl : anyLong ls = false) (hO : sizesB O V = true) (ho : anyOut V ls = false) (hn : ls.length ≤ 8)
  (R : Ending → World → Prop) (hcol : ∀ W b, TMap keyV (Value.int .i64) W 120 b (cntL (O - 1) ls) → Below w.heap.size w W → Calls Tryz.prog 82 #[.int .i64 O, .int .i64 V, .map (some b)] W fun e w' => ∃ A m c, e = .returned (.tuple #[.agg #[.int .i64 O, .int .i64 V, .slice A m c], .int .i64 0]) ∧ Below W.heap.size W w' ∧ ∀ W2, Below w.heap.size w W2 → Mid W.heap.size w' W2 → R (.returned (.tuple #[.agg #[.int .i64 O, .int .i64 V, .slice A m c], .int .i64 0])) W2) :
  Calls Tryz.prog 19 #[.int .i64 O, .int .i64 V, sv] w R := by
 obtain ⟨As, cs, rfl, hsc, hsm, hat⟩ := hs.open_
 have HS := Lib.hid hs
 have HAT := Lib.hid hat
 have HLO := Lib.hid hl
 have HSZ := Lib.hid hO
 have HOU := Lib.hid ho
 have HC := Lib.hid hcol
 have hO4 := sizes_ok hO
 obtain ⟨mo, rfl⟩ : ∃ mo, O = mo + 1 := ⟨O - 1, by omega⟩
 obtain ⟨ns, hns⟩ : ∃ n, ls.length = n := ⟨_, rfl⟩
 rw [hns] at hsc hn HS ⊢
 have HNS := Lib.hid hns
 clear hs hat hl hO ho hcol hns
 refine (callsIn_wide (n := 10)).1 ?_
 refine callsIn_of_wp_marks Tryz.func19 rfl trivial ?_ rfl
 simp only [Tryz.ntmps19, List.size_toArray, List.length_cons, List.length_nil, Nat.reduceAdd, Nat.reduceSub, Array.replicate_succ, Array.replicate_zero, List.push_toArray, List.append_toArray, List.nil_append, List.cons_append]
 refine (wpIn_wide (n := 10)).2 ?_
 have hmm := @run_makeMap Tryz.prog
 go_wp2_with fail
 obtain ⟨W, hW, P0, P1, PB, Phs⟩ := box2 w 3 [.int .i64 V] 27 [.int .i64 0, .int .i64 0, .slice none 0 0]
 rw [← hW]
 clear hW
 have CI := Lib.hid (containsInts W _ ls 76 #[] (fun l => decide (500 < l.length)) (HS.out.below PB.out) (by have := HNS.out; omega) (fun _ _ => by kernel_rfl) (fun U x a hb hx hi => tooLongG U a x hi))
 refine CI.out.mono ?_
 rintro e w1 ⟨rfl, hb1⟩
 rw [show (ls.any fun l => decide (500 < l.length)) = false from HLO.out]
 have X0 := Lib.hid (P0.out.below' hb1)
 have X1 := Lib.hid (P1.out.below' hb1)
 have B1 := Lib.hid (PB.out.trans (hb1.mono PB.out.size))
 clear hb1 P0 P1 PB CI
 have q0 := X0.out.cell 0
 simp only [List.getElem?_cons_zero] at q0
 go_wp2_with fail
 refine (sizedG w1 ((mo : Int) + 1) V).mono ?_
 rintro e w2 ⟨rfl, hb2⟩
 rw [show sizesB ((mo : Int) + 1) V = true from HSZ.out]
 have Y0 := Lib.hid (X0.out.below' hb2)
 have Y1 := Lib.hid (X1.out.below' hb2)
 have B2 := Lib.hid (B1.out.trans (hb2.mono B1.out.size))
 clear hb2 q0 X0 X1 B1
 have q0 := Y0.out.cell 0
 simp only [List.getElem?_cons_zero] at q0
 have CI := Lib.hid (containsInts w2 _ ls 78 #[.pointer (some ⟨w.heap.size, 0, none⟩)] (fun l => !inR 1 V l) (HS.out.below B2.out) (by have := HNS.out; omega) (fun _ _ => by kernel_rfl) (fun U x a hb hx hi => notSaid2 U a x V w.heap.size hi ((Y0.out.below' hb).cell 0)))
 go_wp2_with fail
 refine CI.out.mono ?_
 rintro e w3 ⟨rfl, hb3⟩
 rw [show (ls.any fun l => !inR 1 V l) = false from HOU.out]
 have Z0 := Lib.hid (Y0.out.below' hb3)
 have Z1 := Lib.hid (Y1.out.below' hb3)
 have B3 := Lib.hid (B2.out.trans (hb3.mono B2.out.size))
 clear hb3 q0 Y0 Y1 B2 CI
 have q0 := Z0.out.cell 0
 simp only [List.getElem?_cons_zero] at q0
 go_wp2_with fail
 obtain ⟨W4, hW4⟩ : ∃ W4, W4 = (w3.alloc (.map #[] 0)).alloc (.cells #[.map (some w3.heap.size)] 115) := ⟨_, rfl⟩
 have M4 : Hid (TMap keyV (Value.int .i64) W4 120 w3.heap.size ([] : List (List Int × Int))) := Lib.hid (by
  rw [hW4]
  exact (TMap.made w3 keyV (Value.int .i64) 120).below ((Below.refl _ _).alloc (Nat.le_refl _) _))
 have D4 : Hid (Blk W4 (w3.heap.size + 1) 115 [.map (some w3.heap.size)]) := Lib.hid (by
  rw [hW4]
  have := Blk.new (w3.alloc (.map #[] 0)) 115 [.map (some w3.heap.size)]
  rwa [World.size_alloc] at this)
 have B34 : Hid (Below w3.heap.size w3 W4) := Lib.hid (by rw [hW4]; exact ((Below.refl _ w3).alloc (Nat.le_refl _) _).alloc (by simp) _)
 rw [← hW4]
 clear hW4 q0
 have s34 : w3.heap.size + 1 < W4.heap.size := D4.out.lt
 have hZ4 : CoI w3 W4 mo ls 0 [] 0 W4 := ⟨B34.out, D4.out, by rw [cntJ_zero]; exact M4.out, fun r hr => by cases hr⟩
 have Z4 := Lib.hid hZ4
 clear hZ4 M4 D4
 refine wp_loop (fun a W => ∃ (j : Nat) (rs : List Nat) (u10 u29 u30 u31 u32 u33 u34 u43 : Value), a = ⟨#[.int .i64 ((mo : Int) + 1), .int .i64 V, .slice As ns cs, undef, .pointer (some ⟨w.heap.size, 0, none⟩), undef, .pointer (some ⟨w.heap.size + 1, 0, none⟩), .int .i64 0, .pointer (some ⟨w3.heap.size + 1, 0, none⟩), undef, u10, undef, .slice As ns cs, .bool false, undef, .int .i64 ((mo : Int) + 1), .int .i64 V, .bool true, .bool false, .bool false, .slice As ns cs, .func (.func 78) #[] #[.pointer (some ⟨w.heap.size, 0, none⟩)], .bool false, .bool false, undef, .map (some w3.heap.size), .slice As ns cs, .int .i64 (ns : Int), .int .i64 (j : Int), u29, u30, u31, u32, u33, u34, undef, undef, undef, undef, undef, undef, undef, undef, u43, undef, undef, undef, undef, undef, undef], rs.map markOf⟩ ∧ j ≤ ns ∧ rs.Nodup ∧ W4.heap.size ≤ W.heap.size ∧ CoI w3 W4 mo ls j rs 0 W) (fun a _ => ns - (intOf (a.tmps.getD 28 undef)).toNat) ⟨0, [], undef, undef, undef, undef, undef, undef, undef, undef, rfl, Nat.zero_le _, List.nodup_nil, Nat.le_refl _, Z4.out⟩ ?_
 rintro a W ⟨j, rs, u10, u29, u30, u31, u32, u33, u34, u43, rfl, hj, hnd, hW4, hI⟩
 have HI := Lib.hid hI
 have HND := Lib.hid hnd
 clear hI Z4 hnd
 by_cases hlt : j < ns
 ·obtain ⟨l, hl⟩ : ∃ l, ls[j]? = some l := ⟨_, List.getElem?_eq_getElem (by have := HNS.out; omega)⟩
  obtain ⟨bl, ol, cl, rfl, hbl, hcl, hil⟩ := HAT.out j l hl
  have h500 : l.length ≤ 500 := by
   have := List.any_eq_false.1 HLO.out l (List.mem_of_getElem? hl)
   simpa using this
  have HLV : Hid (∀ x ∈ l, 1 ≤ x ∧ x ≤ V) := Lib.hid (by
   have := List.any_eq_false.1 HOU.out l (List.mem_of_getElem? hl)
   exact inR_all (by simpa using this))
  have HGD : Hid (ls.getD j [] = l) := Lib.hid (by rw [List.getD_eq_getElem?_getD, hl]; rfl)
  obtain ⟨Ai, ci, rfl, _, _, _⟩ := hil.open_
  have b13 : Below w3.heap.size w3 W := HI.out.1
  have b1 : Below w.heap.size w W := B3.out.trans (b13.mono B3.out.size)
  have HIL := Lib.hid (hil.below b1)
  have cW := (b1.cell (p := ⟨bl, ol + j, none⟩) hbl).trans hcl
  have d1 : decide ((j : Int) < (ns : Int)) = true := decide_eq_true (by omega)
  have j1 : (0 : Int) ≤ (j : Int) := by omega
  have j2 : (j : Int) < (ns : Int) := by omega
  clear hl hcl hil
  go_wp2_with fail
  refine (gramsF W ((mo : Int) + 1) _ Ai l.length ci rfl).mono ?_
  rintro e w5 ⟨rfl, hgN, hgS, hb5⟩
  have GN := Lib.hid hgN
  have GS := Lib.hid hgS
  have B5 := Lib.hid hb5
  have zW : w3.heap.size + 1 < W.heap.size := HI.out.2.1.lt
  have zw : w.heap.size ≤ w3.heap.size := B3.out.size
  have z7 : W.heap.size + 1 < w5.heap.size := GS.out.lt
  clear hgN hgS hb5 cW
  go_wp2_with fail
  refine (wpIn_wide (n := 10)).1 ?_
  gi_wp2
  have HSQ := Lib.hid (gramsSeq 9 (by omega) w5 W.heap.size mo (.slice Ai l.length ci) l W.heap.size (W.heap.size + 1) (by omega) (by omega) GN.out GS.out (HIL.out.below B5.out) (Nat.le_refl _))
  have hrs : ∀ r ∈ rs, r < w5.heap.size := fun r hr => by have := (HI.out.2.2.2 r hr).2.1; omega
  have HRS := Lib.hid hrs
  have I5 : Hid (CoI w3 W4 mo ls j rs 0 w5) := Lib.hid (by
   obtain ⟨h1, h2, h3, h4⟩ := HI.out
   refine ⟨h1.trans (B5.out.mono h1.size), h2.below' B5.out, h3.below B5.out, fun r hr => ?_⟩
   obtain ⟨g1, g2, g3⟩ := h4 r hr
   exact ⟨g1, by omega, (B5.out.block r g2).trans g3⟩)
  clear GN GS hrs
  refine wpIn_rangeFunc_seen rfl (by omega) (gf := 135) (lb := #[.pointer (some ⟨W.heap.size, 0, none⟩), .pointer (some ⟨W.heap.size + 1, 0, none⟩)]) rfl trivial (fun args w => by kernel_rfl) (fun i v => ints_own) (B := W.heap.size) (by omega) HSQ.out rfl
   (CoI w3 W4 mo ls j rs) (coI_own (by omega) HRS.out) I5.out
   (fun xx => { tmps := #[.int .i64 ((mo : Int) + 1), .int .i64 V, .slice (some ⟨bl, ol, none⟩) ns cs, undef, .pointer (some ⟨w.heap.size, 0, none⟩), undef, .pointer (some ⟨w.heap.size + 1, 0, none⟩), .int .i64 0, .pointer (some ⟨w3.heap.size + 1, 0, none⟩), undef, .slice Ai l.length ci, xx, .slice (some ⟨bl, ol, none⟩) ns cs, .bool false, undef, .int .i64 ((mo : Int) + 1), .int .i64 V, .bool true, .bool false, .bool false, .slice (some ⟨bl, ol, none⟩) ns cs, .func (.func 78) #[] #[.pointer (some ⟨w.heap.size, 0, none⟩)], .bool false, .bool false, undef, .map (some w3.heap.size), .slice (some ⟨bl, ol, none⟩) ns cs, .int .i64 (ns : Int), .int .i64 (j : Int), .bool true, .pointer (some ⟨bl, ol + j, none⟩), .slice Ai l.length ci, .int .i64 ((mo : Int) + 1), .slice Ai l.length ci, .func (.func 135) #[] #[.pointer (some ⟨W.heap.size, 0, none⟩), .pointer (some ⟨W.heap.size + 1, 0, none⟩)], xx, undef, undef, undef, undef, undef, undef, undef, u43, undef, undef, undef, undef, undef, undef], defers := [] }) ?assign ?body ?done
  case assign =>
   intro l x W K hK
   gi_wp2
   exact hK
  case body =>
   intro lo i x Wr hi hx hI hlt
   obtain ⟨h1, h2, h3, h4⟩ := id hI
   have HII := Lib.hid hI
   have hga := gram_all (m := mo) (i := i) (s := l) (v := V) (by omega) HLV.out hi
   have hst := cntJ_step mo ls j i (by rw [HGD.out]; exact hi)
   rw [HGD.out] at hst
   obtain ⟨g, hg⟩ : ∃ g, (gramsL mo l).getD i [] = g := ⟨_, rfl⟩
   rw [hg] at hx hga hst
   have HST0 := Lib.hid hst
   obtain ⟨Ag, cg, rfl, _, _, _⟩ := hx.open_
   have HNK : Hid (NiceK g) := Lib.hid ⟨by omega, fun z hz => by have := hga.2 z hz; omega⟩
   obtain ⟨m, hm⟩ : ∃ m, accT (cntJ mo ls j i) = m := ⟨_, rfl⟩
   have HNI : Hid (NiceM 5000 m) := Lib.hid (by
    rw [← hm]
    intro e he
    obtain ⟨g1, g2, g3⟩ := acc_nice _ (cntJ_nice (mo := mo) (V := V) (ls := ls) (j := j) (i := i) (by omega) (by omega) (fun l hl => inR_all (by simpa using List.any_eq_false.1 HOU.out l hl))) e he
    have := cntJ_len (mo := mo) (ls := ls) (j := j) (i := i) (fun l hl => by simpa using List.any_eq_false.1 HLO.out l hl) (by rw [HNS.out]; exact hn)
    exact ⟨g1, g2, by omega⟩)
   have HST : Hid (accT (cntJ mo ls j (i + 1)) = putT m g ((lookT m g).getD 0 + 1)) := Lib.hid (by rw [HST0.out, accT_snoc, hm]; rfl)
   rw [hm] at h3
   obtain ⟨v, hv⟩ : ∃ v, (lookT m g).getD 0 = v := ⟨_, rfl⟩
   have hvb := HNI.out.look (by omega) g
   rw [hv] at HST hvb
   have HV := Lib.hid hv
   have BW0 := Lib.hid h1
   have D4 := Lib.hid h2
   have HM := Lib.hid h3
   have HX := Lib.hid hx
   have i1 : IntKind.i64.wrap (v + 1) = v + 1 := IntWalk.i64_in _ (by omega)
   clear h1 h2 h3 h4 hst hg hx hga hm hv hI HST0
   gi_wp2
   refine region_in_round (S := fun w' => w'.cell? ⟨w3.heap.size + 1, 0, none⟩ = some (.map (some w3.heap.size))) (by kernel_rfl) (noDefer_spec (by kernel_rfl)) (fun h => by obtain ⟨a, w, h⟩ := h; exact h) ((D4.out.below' (below_drew_self Wr)).cell 0) (fun hHeld => ?_)
   refine wpAnyH_take (i := 0) (v := ?_) rfl (by kernel_rfl) (by kernel_rfl) (by kernel_rfl) (fun _ _ _ h => h) (Or.inl ⟨by rfl, ?_⟩) (by assumption) ?_
   rotate_left
   ·(intro w' hSw; (try dsimp only at hSw); go_simp <;> with_reducible rfl)
   simp only [List.getElem_toArray, List.getElem_cons_succ, List.getElem_cons_zero, Act.put, List.setIfInBounds_toArray, List.set_cons_zero, List.set_cons_succ]
   refine wpAnyH_take (i := 1) (v := ?_) rfl (by kernel_rfl) (by kernel_rfl) (by kernel_rfl) (fun _ _ _ h => h) (Or.inl ⟨by rfl, ?_⟩) (by assumption) ?_
   rotate_left
   ·(intro w' hSw; (try dsimp only at hSw); go_simp <;> with_reducible rfl)
   simp only [List.getElem_toArray, List.getElem_cons_succ, List.getElem_cons_zero, Act.put, List.setIfInBounds_toArray, List.set_cons_zero, List.set_cons_succ]
   refine wpAnyH_ready (rs := [2]) (by kernel_rfl) (by simp) ?_
   refine AllReadyH.cons rfl (fun K hK => ?_) AllReadyH.nil
   go_simp
   refine (keyedG _ _ _ (HX.out.below (below_drew_self _)) HNK.out.1 (fun z hz => by have := HNK.out.2 z hz; omega)).mono ?_
   rintro e w2 ⟨rfl, hb2'⟩
   have hb2 := below_of_drew hb2'
   have HM2 : TMap keyV (Value.int .i64) w2 120 w3.heap.size m := HM.out.below hb2
   have inj : ∀ e ∈ m, keyV e.1 = keyV g → e.1 = g := fun e he h => (HNI.out e he).1.inj HNK.out h
   have hlook := HM2.look keyLaw Tryz.underlying115 (zeroInt w2) HNK.out.good inj
   obtain ⟨jj, w3', hent, hmid, hg3, hlook3⟩ := HM2.entry keyLaw Tryz.underlying115 zeroInt HNK.out.good inj
   rw [elim_getD, HV.out] at hlook hent hlook3
   obtain ⟨w4, hst, hT4, hg4⟩ := hmid.store (t := 115) (v + 1)
   have D2 := D4.out.below' hb2
   have D3 := D2.grown hg3 (by simp)
   have D5 := D3.grown hg4 (by simp)
   have hS2 := D2.cell 0
   have hS3 := D3.cell 0
   have hS4 := D5.cell 0
   simp only [List.getElem?_cons_zero] at hS2 hS3 hS4
   have T4 := Lib.hid hT4
   have MW : Hid (Mid W.heap.size Wr w4) := Lib.hid (((Mid.of_below hb2).trans (Mid.of_grown hg3 (by omega))).trans (Mid.of_grown hg4 (by omega)))
   have hs2 := hb2.size
   have hs3 := hg3.size
   have hsW : W.heap.size ≤ Wr.heap.size := by omega
   have BW : Hid (Below w3.heap.size w3 w4) := Lib.hid (((BW0.out.trans (hb2.mono BW0.out.size)).grown hg3 (by omega) (fun k e => by cases e; omega)).grown hg4 (by omega) (fun k e => by cases e; omega))
   have MK : Hid (∀ r ∈ rs, W4.heap.size ≤ r ∧ r < w4.heap.size ∧ w4.heap[r]? = some (.deferred (some []))) := Lib.hid (fun r hr => by
    obtain ⟨g1, g2, g3⟩ := HII.out.2.2.2 r hr
    have n1 : some r ≠ some w3.heap.size := fun e => by cases e; omega
    exact ⟨g1, by have := hg4.size; omega, (hg4.block r (by omega) n1).trans ((hg3.block r (by omega) n1).trans ((hb2.block r g2).trans g3))⟩)
   clear D4
   have D4 := Lib.hid D5
   clear hb2' hb2 HM2 inj hmid hT4 hg3 hg4 D2 D3 D5 hHeld HII
   try go_simp
   refine hK.out _ _ hS2 (fun hHeld => ?_)
   clear hK K
   try simp only [List.getElem_toArray, List.getElem_cons_succ, List.getElem_cons_zero, Act.put, List.setIfInBounds_toArray, List.set_cons_zero, List.set_cons_succ]
   refine wpAnyH_ready (rs := [3, 5]) (by kernel_rfl) (by simp) ?_
   refine AllReadyH.cons rfl (fun K hK => ?_) (AllReadyH.cons rfl (fun K hK => ?_) AllReadyH.nil)
   ·skip
    go_simp
    refine hK.out _ _ hS2 (fun hHeld => ?_)
    clear hK K
    try simp only [List.getElem_toArray, List.getElem_cons_succ, List.getElem_cons_zero, Act.put, List.setIfInBounds_toArray, List.set_cons_zero, List.set_cons_succ]
    refine wpAnyH_take (i := 4) (v := ?_) rfl (by kernel_rfl) (by kernel_rfl) (by kernel_rfl) (fun _ _ _ h => h) (Or.inl ⟨by rfl, ?_⟩) (by assumption) ?_
    rotate_left
    ·(intro w' hSw; (try dsimp only at hSw); go_simp <;> with_reducible rfl)
    simp only [List.getElem_toArray, List.getElem_cons_succ, List.getElem_cons_zero, Act.put, List.setIfInBounds_toArray, List.set_cons_zero, List.set_cons_succ]
    refine wpAnyH_ready (rs := [5]) (by kernel_rfl) (by simp) ?_
    refine AllReadyH.cons rfl (fun K hK => ?_) AllReadyH.nil
    go_simp
    refine hK.out _ _ hS3 (fun hHeld => ?_)
    clear hK K
    try simp only [List.getElem_toArray, List.getElem_cons_succ, List.getElem_cons_zero, Act.put, List.setIfInBounds_toArray, List.set_cons_zero, List.set_cons_succ]
    refine wpAnyH_take (i := 6) (v := ?_) rfl (by kernel_rfl) (by kernel_rfl) (by kernel_rfl) (fun _ _ _ h => h) (Or.inl ⟨by rfl, ?_⟩) (by assumption) ?_
    rotate_left
    ·(intro w' hSw; (try dsimp only at hSw); go_simp <;> with_reducible rfl)
    simp only [List.getElem_toArray, List.getElem_cons_succ, List.getElem_cons_zero, Act.put, List.setIfInBounds_toArray, List.set_cons_zero, List.set_cons_succ]
    refine wpAnyH_ready (rs := [7]) (by kernel_rfl) (by simp) ?_
    refine AllReadyH.cons rfl (fun K hK => ?_) AllReadyH.nil
    go_simp
    refine hK.out _ _ hS4 (fun hHeld => ?_)
    clear hK K
    try simp only [List.getElem_toArray, List.getElem_cons_succ, List.getElem_cons_zero, Act.put, List.setIfInBounds_toArray, List.set_cons_zero, List.set_cons_succ]
    clear hS2 hS3 hS4 hlook hent hlook3 hst
    refine wpAnyH_done (by kernel_rfl) ?_ _
    exact ⟨MW.out, BW.out, D4.out, by rw [HST.out]; exact T4.out, MK.out⟩
   ·skip
    go_simp
    refine hK.out _ _ hS3 (fun hHeld => ?_)
    clear hK K
    try simp only [List.getElem_toArray, List.getElem_cons_succ, List.getElem_cons_zero, Act.put, List.setIfInBounds_toArray, List.set_cons_zero, List.set_cons_succ]
    refine wpAnyH_take (i := 6) (v := ?_) rfl (by kernel_rfl) (by kernel_rfl) (by kernel_rfl) (fun _ _ _ h => h) (Or.inl ⟨by rfl, ?_⟩) (by assumption) ?_
    rotate_left
    ·(intro w' hSw; (try dsimp only at hSw); go_simp <;> with_reducible rfl)
    simp only [List.getElem_toArray, List.getElem_cons_succ, List.getElem_cons_zero, Act.put, List.setIfInBounds_toArray, List.set_cons_zero, List.set_cons_succ]
    refine wpAnyH_ready (rs := [3]) (by kernel_rfl) (by simp) ?_
    refine AllReadyH.cons rfl (fun K hK => ?_) AllReadyH.nil
    go_simp
    refine hK.out _ _ hS3 (fun hHeld => ?_)
    clear hK K
    try simp only [List.getElem_toArray, List.getElem_cons_succ, List.getElem_cons_zero, Act.put, List.setIfInBounds_toArray, List.set_cons_zero, List.set_cons_succ]
    refine wpAnyH_take (i := 4) (v := ?_) rfl (by kernel_rfl) (by kernel_rfl) (by kernel_rfl) (fun _ _ _ h => h) (Or.inl ⟨by rfl, ?_⟩) (by assumption) ?_
    rotate_left
    ·(intro w' hSw; (try dsimp only at hSw); go_simp <;> with_reducible rfl)
    simp only [List.getElem_toArray, List.getElem_cons_succ, List.getElem_cons_zero, Act.put, List.setIfInBounds_toArray, List.set_cons_zero, List.set_cons_succ]
    refine wpAnyH_ready (rs := [7]) (by kernel_rfl) (by simp) ?_
    refine AllReadyH.cons rfl (fun K hK => ?_) AllReadyH.nil
    go_simp
    refine hK.out _ _ hS4 (fun hHeld => ?_)
    clear hK K
    try simp only [List.getElem_toArray, List.getElem_cons_succ, List.getElem_cons_zero, Act.put, List.setIfInBounds_toArray, List.set_cons_zero, List.set_cons_succ]
    clear hS2 hS3 hS4 hlook hent hlook3 hst
    refine wpAnyH_done (by kernel_rfl) ?_ _
    exact ⟨MW.out, BW.out, D4.out, by rw [HST.out]; exact T4.out, MK.out⟩
  case done =>
   intro Wd hI hK
   obtain ⟨h1, h2, h3, h4⟩ := id hI
   have i1 : IntKind.i64.wrap ((j : Int) + 1) = (j : Int) + 1 := IntWalk.i64_in _ (by omega)
   have hwd : w5.heap.size < Wd.heap.size := (Array.getElem?_eq_some_iff.1 hK).1
   have hne := cntJ_next mo ls j (by rw [HNS.out]; exact hlt)
   rw [HGD.out] at hne
   have hRel : ∃ (j' : Nat) (rs' : List Nat), j' = j + 1 ∧ rs' = w5.heap.size :: rs ∧ rs'.Nodup ∧ CoI w3 W4 mo ls j' rs' 0 Wd := ⟨_, _, rfl, rfl, List.nodup_cons.2 ⟨fun h => by have := HRS.out _ h; omega, HND.out⟩, h1, h2, by rw [← hne]; exact h3, fun r hr => by
    rcases List.mem_cons.1 hr with rfl | hr
    ·exact ⟨by have := B5.out.size; omega, hwd, hK⟩
    ·exact h4 r hr⟩
   have HREL := Lib.hid hRel
   clear h1 h2 h3 h4 hI hK hne hRel
   go_wp2_with fail
   obtain ⟨j', rs', rfl, rfl, g1, g2⟩ := HREL.out
   refine ⟨⟨j + 1, w5.heap.size :: rs, .slice Ai l.length ci, .bool true, .pointer (some ⟨bl, ol + j, none⟩), .slice Ai l.length ci, .int .i64 ((mo : Int) + 1), .slice Ai l.length ci, .func (.func 135) #[] #[.pointer (some ⟨W.heap.size, 0, none⟩), .pointer (some ⟨W.heap.size + 1, 0, none⟩)], .int .i64 ((j : Int) + 1), rfl, by omega, g1, by have := B5.out.size; omega, g2⟩, by simp [intOf]; omega⟩
 ·obtain rfl : j = ns := by omega
  have d1 : decide ((j : Int) < (j : Int)) = false := decide_eq_false (by omega)
  have b13 : Below w3.heap.size w3 W := HI.out.1
  have b1 : Below w.heap.size w W := B3.out.trans (b13.mono B3.out.size)
  have zw : w.heap.size + 1 < w3.heap.size := Z1.out.lt
  have ZA := Lib.hid (Z0.out.below' b13)
  have ZB := Lib.hid (Z1.out.below' b13)
  have q0 := ZA.out.cell 0
  have q1 := HI.out.2.1.cell 0
  have BW := Lib.hid b1
  simp only [List.getElem?_cons_zero] at q0 q1
  clear b13 b1
  go_wp2_with fail
  have TM : TMap keyV (Value.int .i64) W 120 w3.heap.size (cntL mo ls) := by
   have := HI.out.2.2.1
   rw [show cntJ mo ls j 0 = onesL mo ls by rw [← HNS.out]; exact cntJ_end mo ls] at this
   exact this
  refine (HC.out W w3.heap.size TM BW.out).mono ?_
  rintro e w6 ⟨A, m, c, rfl, hb6, hR⟩
  have HR := Lib.hid hR
  have B6 := Lib.hid hb6
  have Z6 := Lib.hid (ZB.out.below' hb6)
  have hz6 : W.heap.size ≤ w6.heap.size := hb6.size
  have r0 := Z6.out.cell 0
  have r1 := Z6.out.cell 1
  have r2 := Z6.out.cell 2
  simp only [List.getElem?_cons_zero, List.getElem?_cons_succ] at r0 r1 r2
  have f0 := Z6.out.frozen 0
  have f1 := Z6.out.frozen 1
  have f2 := Z6.out.frozen 2
  clear TM hR hb6 q0 q1
  go_wp2_with fail
  clear r0 r1 r2 f0 f1 f2
  obtain ⟨W6, hW6⟩ : ∃ W6, W6 = ((w6.setCell ⟨w.heap.size + 1, 0, none⟩ (.int .i64 ((mo : Int) + 1))).setCell ⟨w.heap.size + 1, 1, none⟩ (.int .i64 V)).setCell ⟨w.heap.size + 1, 2, none⟩ (.slice A m c) := ⟨_, rfl⟩
  have X6 : Blk W6 (w.heap.size + 1) 27 [.int .i64 ((mo : Int) + 1), .int .i64 V, .slice A m c] := by
   rw [hW6]
   exact ((Z6.out.set_ 0 _).set_ 1 _).set_ 2 _
  have Y6 : Below w.heap.size w W6 := by rw [hW6]; exact below3 (BW.out.trans (B6.out.mono BW.out.size)) (by omega) _ _ _ _ _ _
  have M6 : Mid W.heap.size w6 W6 := by rw [hW6]; exact (((Mid.refl _ w6).set (.inl (by show w.heap.size + 1 < W.heap.size; omega)) _).set (.inl (by show w.heap.size + 1 < W.heap.size; omega)) _).set (.inl (by show w.heap.size + 1 < W.heap.size; omega)) _
  have K6 : ∀ r ∈ rs, W6.heap[r]? = some (.deferred (some [])) := fun r hr => by
   obtain ⟨g1, g2, g3⟩ := HI.out.2.2.2 r hr
   have g4 := (B6.out.block r g2).trans g3
   rw [hW6]
   exact ((Below.heap_setCell _ ⟨w.heap.size + 1, 2, none⟩ _ _ (by show r ≠ w.heap.size + 1; omega)).trans (Below.heap_setCell _ ⟨w.heap.size + 1, 1, none⟩ _ _ (by show r ≠ w.heap.size + 1; omega))).trans ((Below.heap_setCell _ ⟨w.heap.size + 1, 0, none⟩ _ _ (by show r ≠ w.heap.size + 1; omega)).trans g4)
  rw [← hW6]
  clear hW6
  refine leaves_marks rs W6 K6 HND.out (fun W7 hs => ?_)
  obtain ⟨s1, s2, s3, s4⟩ := hs
  have Y7 : Below w.heap.size w W7 := Y6.trans (s4 w.heap.size (fun r hr => by have := (HI.out.2.2.2 r hr).1; omega) Y6.size)
  have M7 : Mid W.heap.size w6 W7 := M6.trans ⟨Nat.le_of_eq s2.symm, fun g hg _ => s3 g (fun h => by have := (HI.out.2.2.2 g h).2.1; omega)⟩
  have X7 := X6.calm s1
  have g0 := X7.cell 0
  have g1 := X7.cell 1
  have g2 := X7.cell 2
  simp only [List.getElem?_cons_zero, List.getElem?_cons_succ] at g0 g1 g2
  exact ⟨.tuple #[.agg #[.int .i64 ((mo : Int) + 1), .int .i64 V, .slice A m c], .int .i64 0], by simp [results, Tryz.results19, go_sem, g0, g1, g2], by have h := HR.out W7 Y7 M7; rwa [show ((mo + 1 : Nat) : Int) = (mo : Int) + 1 from rfl] at h⟩
end
end Go.Proofs.YtjebfdfkjlkifaaGreat
