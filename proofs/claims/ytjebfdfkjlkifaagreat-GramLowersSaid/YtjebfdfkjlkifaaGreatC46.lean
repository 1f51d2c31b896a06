/- Lemmas on the way: Lc2. -/
import Derived.Test.YtjebfdfkjlkifaaGreatC45
set_option linter.unusedSimpArgs false
set_option linter.unusedVariables false
set_option linter.unusedSectionVars false
set_option linter.unnecessarySimpa false
namespace Go.Proofs.YtjebfdfkjlkifaaGreat
open Go.RowKit
section
open Go.WideShapes (add_plain)

theorem ListsAt.take_ {w : World} {A : Option Addr} {n c k : Nat} {ls : List (List Int)} (h : ListsAt w (.slice A n c) ls) (hn : ls.length = n) (hk : k ≤ n) : ListsAt w (.slice A k c) (ls.take k) := by
 obtain ⟨cells, h1, h2⟩ := h
 have hl : (ls.take k).length = k := by rw [List.length_take]; omega
 rw [hn] at h1
 refine ⟨cells.take k, by rw [hl]; have := Sl.head h1 hk; rwa [Nat.mul_one] at this, fun i l hi => ?_⟩
 have hik : i < k := by have := (List.getElem?_eq_some_iff.1 hi).1; omega
 rw [List.getElem?_take_of_lt hik] at hi ⊢
 exact h2 i l hi
theorem ListsAt.drop_ {w : World} {b off n c k : Nat} {ls : List (List Int)} (h : ListsAt w (.slice (some ⟨b, off, none⟩) n c) ls) (hn : ls.length = n) (hk : k ≤ n) : ListsAt w (.slice (some ⟨b, off + k, none⟩) (n - k) (c - k)) (ls.drop k) := by
 obtain ⟨cells, h1, h2⟩ := h
 have hl : (ls.drop k).length = n - k := by rw [List.length_drop]; omega
 rw [hn] at h1
 refine ⟨cells.drop k, by rw [hl]; have := Sl.tail h1 hk; rwa [Nat.mul_one] at this, fun i l hi => ?_⟩
 rw [List.getElem?_drop] at hi ⊢
 exact h2 _ l hi
theorem lists_none {w : World} {A : Option Addr} {c : Nat} (hc : c ≤ maxLen) : ListsAt w (.slice A 0 c) [] := ⟨[], Sl.none_ _ _ _ _ hc, fun i l h => by cases h⟩
theorem ListsAt.tail1 {w : World} {A : Option Addr} {n c k : Nat} {ls : List (List Int)} (h : ListsAt w (.slice A n c) ls) (hn : ls.length = n) (hk : k ≤ n) : ListsAt w (.slice (Option.map (fun x => x.add k) A) (n - k) (c - k)) (ls.drop k) := by
 by_cases h0 : n - k = 0
 ·rw [h0, List.drop_eq_nil_of_le (by omega)]
  obtain ⟨_, _, e, _, h2, _⟩ := h.open_
  cases e
  exact lists_none (by unfold maxLen; omega)
 ·have h' := h
  obtain ⟨_, _, e, _, _, hat⟩ := h.open_
  cases e
  obtain ⟨l, hl⟩ : ∃ l, ls[0]? = some l := ⟨_, List.getElem?_eq_getElem (by omega)⟩
  obtain ⟨b, off, _, rfl, _⟩ := hat 0 l hl
  have := h'.drop_ hn hk
  rwa [show Option.map (fun x : Addr => x.add k) (some ⟨b, off, none⟩) = some ⟨b, off + k, none⟩ by rw [Option.map_some, add_plain]]
theorem ListsAt.tail2 {w : World} {A : Option Addr} {n k : Nat} {ls : List (List Int)} (h : ListsAt w (.slice A n k) ls) (hn : ls.length = n) (hk : k ≤ n) : ListsAt w (.slice A (n - k) 0) (ls.drop k) := by
 obtain ⟨_, _, e, h1, _, _⟩ := h.open_
 cases e
 rw [show ls.length - k = 0 by omega, List.drop_eq_nil_of_le (by omega)]
 exact lists_none (by unfold maxLen; omega)
def lowB (O V : Int) (ls : List (List Int)) (cut : Int) : Bool := shortB ls && sizesB O V && decide (spokeE V ls = 0) && decide (0 ≤ cut) && decide (cut ≤ ls.length)

set_option maxRecDepth 1000000 in
set_option maxHeartbeats 4000000 in
theorem gramLowersOut (hsort : SortOk) (w : World) (O V cut : Int) (sv : Value) (ls : List (List Int)) (hs : ListsAt w sv ls) (hB : lowB O V ls cut = false) :
  Calls Tryz.prog 12 #[.int .i64 O, .int .i64 V, sv, .int .i64 cut] w fun e w' => e = .returned (.bool true) ∧ Below w.heap.size w w' := by
 have HK := Lib.hid (knownS hsort)
 have HS := Lib.hid hs
 obtain ⟨A, c, rfl, hlc, hcm, _⟩ := hs.open_
 obtain ⟨n, hn⟩ : ∃ n, ls.length = n := ⟨_, rfl⟩
 unfold lowB at hB
 rw [hn] at hlc HS hB ⊢
 have HN := Lib.hid hn
 clear hs hn hsort
 cases h1 : shortB ls with
 | false =>
  have H1 := Lib.hid h1
  clear h1 hB
  go_enter Tryz.func12, Tryz.ntmps12
  go_wp2_with fail
  refine (shortG w _ ls HS.out).mono ?_
  rintro e w1 ⟨rfl, hb1⟩
  rw [H1.out]
  have B1 := Lib.hid hb1
  clear hb1
  go_wp2_with fail
  refine (HK.out _).mono ?_
  rintro e w9 ⟨rfl, hb9⟩
  have B9 := Lib.hid (B1.out.trans (hb9.mono B1.out.size))
  clear hb9
  go_wp2_with fail
  go_ret
  exact ⟨rfl, B9.out⟩
 | true =>
  have H1 := Lib.hid h1
  rw [h1] at hB
  clear h1
  cases h2 : sizesB O V with
  | false =>
   have H2 := Lib.hid h2
   clear h2 hB
   go_enter Tryz.func12, Tryz.ntmps12
   go_wp2_with fail
   refine (shortG w _ ls HS.out).mono ?_
   rintro e w1 ⟨rfl, hb1⟩
   rw [H1.out]
   have B1 := Lib.hid hb1
   clear hb1
   go_wp2_with fail
   refine (sizesG w1 O V).mono ?_
   rintro e w2 ⟨rfl, hb2⟩
   rw [H2.out]
   replace B1 := Lib.hid (B1.out.trans (hb2.mono B1.out.size))
   clear hb2
   go_wp2_with fail
   refine (HK.out _).mono ?_
   rintro e w9 ⟨rfl, hb9⟩
   have B9 := Lib.hid (B1.out.trans (hb9.mono B1.out.size))
   clear hb9
   go_wp2_with fail
   go_ret
   exact ⟨rfl, B9.out⟩
  | true =>
   have H2 := Lib.hid h2
   rw [h2] at hB
   clear h2
   obtain ⟨se, hse⟩ : ∃ se, spokeE V ls = se := ⟨_, rfl⟩
   rw [hse] at hB
   have HSE := Lib.hid hse
   clear hse
   by_cases h3 : se = 0
   ·subst h3
    by_cases h4 : 0 ≤ cut
    ·have d4 : decide (cut < 0) = false := decide_eq_false (by omega)
     have h5 : ¬ cut ≤ (n : Int) := fun h => by rw [decide_eq_true h4, decide_eq_true h] at hB; cases hB
     have d5 : decide ((n : Int) < cut) = true := decide_eq_true (by omega)
     clear hB h4 h5
     go_enter Tryz.func12, Tryz.ntmps12
     go_wp2_with fail
     refine (shortG w _ ls HS.out).mono ?_
     rintro e w1 ⟨rfl, hb1⟩
     rw [H1.out]
     have B1 := Lib.hid hb1
     clear hb1
     go_wp2_with fail
     refine (sizesG w1 O V).mono ?_
     rintro e w2 ⟨rfl, hb2⟩
     rw [H2.out]
     replace B1 := Lib.hid (B1.out.trans (hb2.mono B1.out.size))
     clear hb2
     go_wp2_with fail
     refine (spokenG w2 V _ ls (HS.out.below B1.out)).mono ?_
     rintro e w3 ⟨rfl, hb3⟩
     rw [HSE.out]
     replace B1 := Lib.hid (B1.out.trans (hb3.mono B1.out.size))
     clear hb3
     go_wp2_with fail
     refine (HK.out _).mono ?_
     rintro e w9 ⟨rfl, hb9⟩
     have B9 := Lib.hid (B1.out.trans (hb9.mono B1.out.size))
     clear hb9
     go_wp2_with fail
     go_ret
     exact ⟨rfl, B9.out⟩
    ·have d4 : decide (cut < 0) = true := decide_eq_true (by omega)
     clear hB h4
     go_enter Tryz.func12, Tryz.ntmps12
     go_wp2_with fail
     refine (shortG w _ ls HS.out).mono ?_
     rintro e w1 ⟨rfl, hb1⟩
     rw [H1.out]
     have B1 := Lib.hid hb1
     clear hb1
     go_wp2_with fail
     refine (sizesG w1 O V).mono ?_
     rintro e w2 ⟨rfl, hb2⟩
     rw [H2.out]
     replace B1 := Lib.hid (B1.out.trans (hb2.mono B1.out.size))
     clear hb2
     go_wp2_with fail
     refine (spokenG w2 V _ ls (HS.out.below B1.out)).mono ?_
     rintro e w3 ⟨rfl, hb3⟩
     rw [HSE.out]
     replace B1 := Lib.hid (B1.out.trans (hb3.mono B1.out.size))
     clear hb3
     go_wp2_with fail
     refine (HK.out _).mono ?_
     rintro e w9 ⟨rfl, hb9⟩
     have B9 := Lib.hid (B1.out.trans (hb9.mono B1.out.size))
     clear hb9
     go_wp2_with fail
     go_ret
     exact ⟨rfl, B9.out⟩
   ·have d3 : (se != 0) = true := by simpa using h3
    clear hB h3
    go_enter Tryz.func12, Tryz.ntmps12
    go_wp2_with fail
    refine (shortG w _ ls HS.out).mono ?_
    rintro e w1 ⟨rfl, hb1⟩
    rw [H1.out]
    have B1 := Lib.hid hb1
    clear hb1
    go_wp2_with fail
    refine (sizesG w1 O V).mono ?_
    rintro e w2 ⟨rfl, hb2⟩
    rw [H2.out]
    replace B1 := Lib.hid (B1.out.trans (hb2.mono B1.out.size))
    clear hb2
    go_wp2_with fail
    refine (spokenG w2 V _ ls (HS.out.below B1.out)).mono ?_
    rintro e w3 ⟨rfl, hb3⟩
    rw [HSE.out]
    replace B1 := Lib.hid (B1.out.trans (hb3.mono B1.out.size))
    clear hb3
    go_wp2_with fail
    refine (HK.out _).mono ?_
    rintro e w9 ⟨rfl, hb9⟩
    have B9 := Lib.hid (B1.out.trans (hb9.mono B1.out.size))
    clear hb9
    go_wp2_with fail
    go_ret
    exact ⟨rfl, B9.out⟩
theorem countT (hsort : SortOk) (w : World) (m : Nat) (V : Int) (sv : Value) (ls : List (List Int)) (hs : ListsAt w sv ls) (hm : m ≤ 3) (hV : 1 ≤ V ∧ V ≤ 2000) (hin : ∀ l ∈ ls, ∀ x ∈ l, 1 ≤ x ∧ x ≤ V) (h5 : ∀ l ∈ ls, l.length ≤ 500) (hn : ls.length ≤ 8) :
  Calls Tryz.prog 19 #[.int .i64 ((m : Int) + 1), .int .i64 V, sv] w fun e w' => ∃ A c L, L = (countL m ls).length ∧ e = .returned (.tuple #[.agg #[.int .i64 ((m : Int) + 1), .int .i64 V, .slice A L c], .int .i64 0]) ∧ GramsAt w' (.slice A L c) (countL m ls) ∧ Below w.heap.size w w' := by
 have hl : anyLong ls = false := by
  unfold anyLong
  exact List.any_eq_false.2 (fun l hl => by simpa using h5 l hl)
 have ho : anyOut V ls = false := by
  unfold anyOut
  exact List.any_eq_false.2 (fun l hl => by simpa using inR_iff.2 (hin l hl))
 have hz : sizesB ((m + 1 : Nat) : Int) V = true := by
  unfold sizesB
  rw [decide_eq_true (show (1 : Int) ≤ ((m + 1 : Nat) : Int) by omega), decide_eq_true (show ((m + 1 : Nat) : Int) ≤ 4 by omega), decide_eq_true hV.1, decide_eq_true hV.2]
  rfl
 refine (countS w (m + 1) V sv ls hs hl hz ho hn hsort).mono ?_
 rintro e w' ⟨lv, gs, rfl, hp, hso, hg, hb⟩
 obtain rfl := count_same hp hso
 obtain ⟨A, c, rfl, _⟩ := hg.open_
 exact ⟨A, c, _, rfl, rfl, hg, hb⟩
theorem tabs_ok {a b : Tb} (ha : tableE a.o a.V a.gs = 0) (hb : tableE b.o b.V b.gs = 0) : tabsE [a, b] = 0 := by
 have la := (table_all ha).1
 have lb := (table_all hb).1
 unfold tabsE
 rw [if_neg (by simp [longT]; omega)]
 unfold firstE firstE firstE
 rw [if_pos ha, if_pos hb]
theorem mergeT (hsort : SortOk) (w : World) (m : Nat) (V : Int) (A B : Option Addr) (L M c d : Nat) (ga gb : List Gr) (ls : List (List Int)) (ha : GramsAt w (.slice A L c) ga) (hb : GramsAt w (.slice B M d) gb) (hL : L = ga.length) (hM : M = gb.length) (ta : tableE ((m : Int) + 1) V ga = 0) (tb : tableE ((m : Int) + 1) V gb = 0)
  (hc : Cnt (accT (ga ++ gb)) (tot 0 (onesL m ls))) (h5 : ∀ l ∈ ls, l.length ≤ 500) (hn : ls.length ≤ 8) (hlen : ga.length + gb.length ≤ 20000) :
  Calls Tryz.prog 58 #[.agg #[.int .i64 ((m : Int) + 1), .int .i64 V, .slice A L c], .agg #[.int .i64 ((m : Int) + 1), .int .i64 V, .slice B M d]] w fun e w' => ∃ A c n, e = .returned (.tuple #[.agg #[.int .i64 ((m : Int) + 1), .int .i64 V, .slice A n c], .int .i64 0]) ∧ GramsAt w' (.slice A n c) (countL m ls) ∧ Below w.heap.size w w' := by
 subst hL
 subst hM
 refine (mergeG hsort w ⟨(m : Int) + 1, V, A, c, ga⟩ ⟨(m : Int) + 1, V, B, d, gb⟩ ha hb (tabs_ok ta tb) hlen).mono ?_
 rintro e w' ⟨hbw, ⟨h1 | h1, rfl⟩ | ⟨_, _, _, A', c', n', gs', rfl, hp, hs, hg⟩⟩
 ·exact absurd ⟨rfl, rfl⟩ h1
 ·exact absurd h1 (cnt_small hc h5 hn)
 ·have := cnt_same hc hp hs
  subst this
  exact ⟨A', c', n', rfl, hg, hbw⟩
theorem lowerT (hsort : SortOk) (w : World) (m : Nat) (V : Int) (A : Option Addr) (L c : Nat) (ls : List (List Int)) (ha : GramsAt w (.slice A L c) (countL (m + 1) ls)) (hL : L = (countL (m + 1) ls).length) (ta : tableE (((m + 1 : Nat) : Int) + 1) V (countL (m + 1) ls) = 0)
  (h5 : ∀ l ∈ ls, l.length ≤ 500) (hn : ls.length ≤ 8) :
  Calls Tryz.prog 59 #[.agg #[.int .i64 (((m + 1 : Nat) : Int) + 1), .int .i64 V, .slice A L c]] w fun e w' => ∃ A c n, e = .returned (.tuple #[.agg #[.int .i64 ((m : Int) + 1), .int .i64 V, .slice A n c], .int .i64 0]) ∧ GramsAt w' (.slice A n c) (countL m ls) ∧ Below w.heap.size w w' := by
 subst hL
 refine (lowerTG hsort w ⟨((m + 1 : Nat) : Int) + 1, V, A, c, countL (m + 1) ls⟩ ha).mono ?_
 have hc := low_cnt m ls
 rintro e w' ⟨hbw, ⟨h1, _⟩ | ⟨_, h1 | h1, _⟩ | ⟨_, _, _, A', c', n', gs', rfl, hp, hs, hg⟩⟩
 ·exact absurd ta h1
 ·simp only at h1; omega
 ·exact absurd h1 (cnt_small hc h5 hn)
 ·have := cnt_same hc hp hs
  subst this
  exact ⟨A', c', n', by rw [show ((m + 1 : Nat) : Int) + 1 - 1 = (m : Int) + 1 by omega], hg, hbw⟩

theorem lowerT2 (hsort : SortOk) (w : World) (m m' : Nat) (hm : m = m' + 1) (V : Int) (A : Option Addr) (L c : Nat) (ls : List (List Int)) (ha : GramsAt w (.slice A L c) (countL m ls)) (hL : L = (countL m ls).length) (ta : tableE ((m : Int) + 1) V (countL m ls) = 0)
  (h5 : ∀ l ∈ ls, l.length ≤ 500) (hn : ls.length ≤ 8) :
  Calls Tryz.prog 59 #[.agg #[.int .i64 ((m : Int) + 1), .int .i64 V, .slice A L c]] w fun e w' => ∃ A c n, e = .returned (.tuple #[.agg #[.int .i64 (m : Int), .int .i64 V, .slice A n c], .int .i64 0]) ∧ GramsAt w' (.slice A n c) (countL m' ls) ∧ Below w.heap.size w w' := by
 subst hm
 refine (lowerT hsort w m' V A L c ls ha hL ta h5 hn).mono ?_
 rintro e w' ⟨A', c', n', rfl, h1, h2⟩
 exact ⟨A', c', n', by rw [show ((m' + 1 : Nat) : Int) = (m' : Int) + 1 by omega], h1, h2⟩
theorem countT2 (hsort : SortOk) (w : World) (m m' : Nat) (hm' : m = m' + 1) (V : Int) (sv : Value) (ls : List (List Int)) (hs : ListsAt w sv ls) (hm : m ≤ 3) (hV : 1 ≤ V ∧ V ≤ 2000) (hin : ∀ l ∈ ls, ∀ x ∈ l, 1 ≤ x ∧ x ≤ V) (h5 : ∀ l ∈ ls, l.length ≤ 500) (hn : ls.length ≤ 8) :
  Calls Tryz.prog 19 #[.int .i64 (m : Int), .int .i64 V, sv] w fun e w' => ∃ A c L, e = .returned (.tuple #[.agg #[.int .i64 (m : Int), .int .i64 V, .slice A L c], .int .i64 0]) ∧ GramsAt w' (.slice A L c) (countL m' ls) ∧ Below w.heap.size w w' := by
 subst hm'
 have h := countT hsort w m' V sv ls hs (by omega) hV hin h5 hn
 rw [show (m' : Int) + 1 = ((m' + 1 : Nat) : Int) by omega] at h
 refine h.mono ?_
 rintro e w' ⟨A', c', n', _, rfl, h1, h2⟩
 exact ⟨A', c', n', rfl, h1, h2⟩

set_option maxRecDepth 1000000 in
set_option maxHeartbeats 16000000 in
theorem gramLowersIn (hsort : SortOk) (w : World) (O V cut : Int) (sv : Value) (ls : List (List Int)) (hs : ListsAt w sv ls) (hB : lowB O V ls cut = true) :
  Calls Tryz.prog 12 #[.int .i64 O, .int .i64 V, sv, .int .i64 cut] w fun e w' => e = .returned (.bool true) ∧ Below w.heap.size w w' := by
 have HK := Lib.hid (knownS hsort)
 have HSO := Lib.hid hsort
 have HS := Lib.hid hs
 obtain ⟨A, c, rfl, hlc, hcm, _⟩ := hs.open_
 obtain ⟨n, hn⟩ : ∃ n, ls.length = n := ⟨_, rfl⟩
 unfold lowB at hB
 rw [hn] at hlc HS hB ⊢
 have HN := Lib.hid hn
 simp only [Bool.and_eq_true, decide_eq_true_eq] at hB
 obtain ⟨⟨⟨⟨h1, h2⟩, h3⟩, h4⟩, h5⟩ := hB
 have hO4 : 1 ≤ O ∧ O ≤ 4 ∧ 1 ≤ V ∧ V ≤ 2000 := by
  unfold sizesB at h2
  simp only [Bool.and_eq_true, decide_eq_true_eq] at h2
  omega
 have h8 : n ≤ 8 := by
  unfold shortB at h1
  rw [hn] at h1
  simp only [Bool.and_eq_true, decide_eq_true_eq] at h1
  exact h1.1
 have HLO : Hid (anyLong ls = false) := Lib.hid (by
  unfold spokeE at h3
  cases h : anyLong ls with
  | true => rw [h] at h3; cases h3
  | false => rfl)
 have HAO : Hid (anyOut V ls = false) := Lib.hid (by
  unfold spokeE at h3
  rw [HLO.out] at h3
  cases h : anyOut V ls with
  | true => rw [h] at h3; cases h3
  | false => rfl)
 have HIN : Hid (∀ l ∈ ls, ∀ x ∈ l, 1 ≤ x ∧ x ≤ V) := Lib.hid (fun l hl => inR_all (by simpa using List.any_eq_false.1 HAO.out l hl))
 have H5 : Hid (∀ l ∈ ls, l.length ≤ 500) := Lib.hid (fun l hl => by simpa using List.any_eq_false.1 HLO.out l hl)
 have H1 := Lib.hid h1
 obtain ⟨m, rfl⟩ : ∃ m : Nat, O = (m : Int) + 1 := ⟨(O - 1).toNat, by omega⟩
 have H2 := Lib.hid h2
 have HSE := Lib.hid h3
 obtain ⟨k, rfl⟩ : ∃ k : Nat, cut = (k : Int) := ⟨cut.toNat, by omega⟩
 have hk : k ≤ n := by omega
 have d4 : decide ((k : Int) < 0) = false := decide_eq_false (by omega)
 have d5 : decide ((n : Int) < (k : Int)) = false := decide_eq_false (by omega)
 have k1 : (0 : Int) ≤ (k : Int) := by omega
 have k2 : (k : Int) ≤ (n : Int) := by omega
 have k3 : (k : Int) ≤ (c : Int) := by omega
 clear hs hn hsort h1 h2 h3 h4 h5
 go_enter Tryz.func12, Tryz.ntmps12
 go_wp2_with fail
 refine (shortG w _ ls HS.out).mono ?_
 rintro e w1 ⟨rfl, hb1⟩
 rw [H1.out]
 have B1 := Lib.hid hb1
 clear hb1
 go_wp2_with fail
 refine (sizesG w1 ((m : Int) + 1) V).mono ?_
 rintro e w2 ⟨rfl, hb2⟩
 rw [H2.out]
 replace B1 := Lib.hid (B1.out.trans (hb2.mono B1.out.size))
 clear hb2
 go_wp2_with fail
 refine (spokenG w2 V _ ls (HS.out.below B1.out)).mono ?_
 rintro e w3 ⟨rfl, hb3⟩
 rw [HSE.out]
 replace B1 := Lib.hid (B1.out.trans (hb3.mono B1.out.size))
 clear hb3
 go_wp2_with fail
 refine (countT HSO.out w3 m V _ ls (HS.out.below B1.out) (by omega) (by omega) HIN.out H5.out (by rw [HN.out]; exact h8)).mono ?_
 rintro e w4 ⟨At, ct, Lt, hLt, rfl, hg, hb4⟩
 have HLT := Lib.hid hLt
 have GT := Lib.hid hg
 have B4 := Lib.hid (B1.out.trans (hb4.mono B1.out.size))
 clear hb4 hg hLt B1
 go_wp2_with fail
 obtain ⟨W4, hW4, T0, TB, Ths⟩ := box1 w4 27 [.int .i64 ((m : Int) + 1), .int .i64 V, .slice At Lt ct]
 rw [← hW4]
 clear hW4
 have B4' := Lib.hid (B4.out.trans (TB.out.mono B4.out.size))
 have GT4 := Lib.hid (GT.out.below TB.out)
 clear GT TB
 refine (countT HSO.out W4 m V _ (ls.take k) ((HS.out.below B4'.out).take_ HN.out hk) (by omega) (by omega) (fun l hl => HIN.out l (List.mem_of_mem_take hl)) (fun l hl => H5.out l (List.mem_of_mem_take hl)) (by rw [List.length_take]; omega)).mono ?_
 rintro e w5 ⟨Aa, ca, La, hLa, rfl, hg, hb5⟩
 have HLA := Lib.hid hLa
 have GA5 := Lib.hid hg
 have T5 := Lib.hid (T0.out.below' hb5)
 have GT5 := Lib.hid (GT4.out.below hb5)
 have B5 := Lib.hid (B4'.out.trans (hb5.mono B4'.out.size))
 clear hb5 hg hLa B4' GT4 T0 B4
 go_wp2_with fail
 all_goals
  have HTL0 := Lib.hid (HS.out.below B5.out)
  first
   | (have hck : c = k := (by omega); have HTL := Lib.hid ((show ListsAt w5 (.slice A n k) ls by have := HTL0.out; rwa [hck] at this).tail2 HN.out hk); clear hck)
   | have HTL := Lib.hid (HTL0.out.tail1 HN.out hk)
  have HTM : Hid (tableE ((m : Int) + 1) V (countL m (ls.take k)) = 0 ∧ tableE ((m : Int) + 1) V (countL m (ls.drop k)) = 0 ∧ tableE ((m : Int) + 1) V (countL m ls) = 0) := Lib.hid ⟨
   count_table (m := m) (by omega) (by omega) (fun l hl => HIN.out l (List.mem_of_mem_take hl)) (fun l hl => H5.out l (List.mem_of_mem_take hl)) (by rw [List.length_take]; omega),
   count_table (m := m) (by omega) (by omega) (fun l hl => HIN.out l (List.mem_of_mem_drop hl)) (fun l hl => H5.out l (List.mem_of_mem_drop hl)) (by rw [List.length_drop, HN.out]; omega),
   count_table (m := m) (by omega) (by omega) HIN.out H5.out (by rw [HN.out]; exact h8)⟩
  clear HTL0
  first
   | (generalize Option.map (fun x => Addr.add x k) A = A2 at HTL ⊢; generalize c - k = c2 at HTL ⊢)
   | skip
  obtain ⟨W5, hW5, A0, AB, Ahs⟩ := box1 w5 27 [.int .i64 ((m : Int) + 1), .int .i64 V, .slice Aa La ca]
  rw [← hW5]
  clear hW5
  have B5' := Lib.hid (B5.out.trans (AB.out.mono B5.out.size))
  have GT6 := Lib.hid (GT5.out.below AB.out)
  have GA6 := Lib.hid (GA5.out.below AB.out)
  have T6 := Lib.hid (T5.out.below' AB.out)
  have HTL6 := Lib.hid (HTL.out.below AB.out)
  clear GT5 GA5 T5 HTL AB B5
  refine (countT HSO.out W5 m V _ (ls.drop k) HTL6.out (by omega) (by omega) (fun l hl => HIN.out l (List.mem_of_mem_drop hl)) (fun l hl => H5.out l (List.mem_of_mem_drop hl)) (by rw [List.length_drop, HN.out]; omega)).mono ?_
  rintro e w6 ⟨Ab, cb, Lb, hLb, rfl, hg, hb6⟩
  have HLB := Lib.hid hLb
  have GB7 := Lib.hid hg
  have GA7 := Lib.hid (GA6.out.below hb6)
  have GT7 := Lib.hid (GT6.out.below hb6)
  have T7 := Lib.hid (T6.out.below' hb6)
  have A7 := Lib.hid (A0.out.below' hb6)
  have B7 := Lib.hid (B5'.out.trans (hb6.mono B5'.out.size))
  clear hb6 hg hLb B5' GT6 GA6 T6 HTL6 A0
  obtain ⟨a0, a1, a2, _, _, _⟩ := A7.out.three
  have y0 : w5.heap.size < w6.heap.size := A7.out.lt
  have y1 : w4.heap.size < w6.heap.size := T7.out.lt
  go_wp2_with fail
  obtain ⟨W6, hW6, B0, BB, Bhs⟩ := box1 w6 27 [.int .i64 ((m : Int) + 1), .int .i64 V, .slice Ab Lb cb]
  rw [← hW6]
  clear hW6
  have X8 := Lib.hid (B7.out.trans (BB.out.mono B7.out.size))
  have GT8 := Lib.hid (GT7.out.below BB.out)
  have GA8 := Lib.hid (GA7.out.below BB.out)
  have GB8 := Lib.hid (GB7.out.below BB.out)
  have T8 := Lib.hid (T7.out.below' BB.out)
  have A8 := Lib.hid (A7.out.below' BB.out)
  have HLEN : Hid ((countL m (ls.take k)).length + (countL m (ls.drop k)).length ≤ 20000 ∧ (countL m (ls.drop k)).length + (countL m (ls.take k)).length ≤ 20000) := Lib.hid (by
   have q1 := (count_le (m := m) (ls := ls.take k) (fun l hl => H5.out l (List.mem_of_mem_take hl)) (by rw [List.length_take]; omega)).1
   have q2 := (count_le (m := m) (ls := ls.drop k) (fun l hl => H5.out l (List.mem_of_mem_drop hl)) (by rw [List.length_drop, HN.out]; omega)).1
   omega)
  clear B7 GT7 GA7 GB7 T7 A7 BB a0 a1 a2
  refine (mergeT HSO.out W6 m V Aa Ab La Lb ca cb _ _ ls GA8.out GB8.out HLA.out HLB.out HTM.out.1 HTM.out.2.1 (half_cnt m ls k).1 H5.out (by rw [HN.out]; exact h8) HLEN.out.1).mono ?_
  rintro e w7 ⟨Am, cm, Lm, rfl, hg, hb7⟩
  have GM9 := Lib.hid hg
  have X9 := Lib.hid (X8.out.trans (hb7.mono X8.out.size))
  have GT9 := Lib.hid (GT8.out.below hb7)
  have GA9 := Lib.hid (GA8.out.below hb7)
  have GB9 := Lib.hid (GB8.out.below hb7)
  have T9 := Lib.hid (T8.out.below' hb7)
  have A9 := Lib.hid (A8.out.below' hb7)
  have B9 := Lib.hid (B0.out.below' hb7)
  clear hg hb7 X8 GT8 GA8 GB8 T8 A8 B0
  obtain ⟨a0, a1, a2, _, _, _⟩ := A9.out.three
  obtain ⟨b0, b1, b2, _, _, _⟩ := B9.out.three
  have y2 : w5.heap.size < w7.heap.size := A9.out.lt
  have y3 : w6.heap.size < w7.heap.size := B9.out.lt
  go_wp2_with fail
  clear a0 a1 a2 b0 b1 b2
  obtain ⟨W7, hW7, M0, MB, Mhs⟩ := box1 w7 27 [.int .i64 ((m : Int) + 1), .int .i64 V, .slice Am Lm cm]
  rw [← hW7]
  clear hW7
  have X10 := Lib.hid (X9.out.trans (MB.out.mono X9.out.size))
  have GT10 := Lib.hid (GT9.out.below MB.out)
  have GM10 := Lib.hid (GM9.out.below MB.out)
  have T10 := Lib.hid (T9.out.below' MB.out)
  refine (mergeT HSO.out W7 m V Ab Aa Lb La cb ca _ _ ls (GB9.out.below MB.out) (GA9.out.below MB.out) HLB.out HLA.out HTM.out.2.1 HTM.out.1 (half_cnt m ls k).2 H5.out (by rw [HN.out]; exact h8) HLEN.out.2).mono ?_
  rintro e w8 ⟨An, cn, Ln, rfl, hg, hb8⟩
  have GN11 := Lib.hid hg
  have X11 := Lib.hid (X10.out.trans (hb8.mono X10.out.size))
  have GT11 := Lib.hid (GT10.out.below hb8)
  have GM11 := Lib.hid (GM10.out.below hb8)
  have T11 := Lib.hid (T10.out.below' hb8)
  have M11 := Lib.hid (M0.out.below' hb8)
  clear hg hb8 X9 X10 GT9 GT10 GM9 GM10 GA9 GB9 T9 T10 A9 B9 MB M0
  obtain ⟨m0, m1, m2, _, _, _⟩ := M11.out.three
  obtain ⟨t0, t1, t2, _, _, _⟩ := T11.out.three
  have y4 : w7.heap.size < w8.heap.size := M11.out.lt
  have y5 : w4.heap.size < w8.heap.size := T11.out.lt
  go_wp2_with fail
  clear m0 m1 m2 t0 t1 t2
  obtain ⟨W8, hW8, N0, NB, Nhs⟩ := box1 w8 27 [.int .i64 ((m : Int) + 1), .int .i64 V, .slice An Ln cn]
  rw [← hW8]
  clear hW8
  refine (sameTableG W8 ((m : Int) + 1) V ((m : Int) + 1) V _ _ _ _ (GM11.out.below NB.out) (GT11.out.below NB.out)).mono ?_
  rintro e w9 ⟨rfl, hb9⟩
  rw [show decide ((m : Int) + 1 = (m : Int) + 1 ∧ V = V ∧ countL m ls = countL m ls) = true from decide_eq_true ⟨rfl, rfl, rfl⟩]
  have X12 := Lib.hid (X11.out.trans ((NB.out.trans (hb9.mono NB.out.size)).mono X11.out.size))
  have GT12 := Lib.hid ((GT11.out.below NB.out).below hb9)
  have GN12 := Lib.hid ((GN11.out.below NB.out).below hb9)
  have T12 := Lib.hid ((T11.out.below' NB.out).below' hb9)
  have N12 := Lib.hid (N0.out.below' hb9)
  clear hb9 X11 GT11 GM11 GN11 T11 M11 NB N0
  obtain ⟨n0, n1, n2, _, _, _⟩ := N12.out.three
  obtain ⟨t0, t1, t2, _, _, _⟩ := T12.out.three
  go_wp2_with fail
  refine (sameTableG w9 ((m : Int) + 1) V ((m : Int) + 1) V _ _ _ _ GN12.out GT12.out).mono ?_
  rintro e wA ⟨rfl, hbA⟩
  rw [show decide ((m : Int) + 1 = (m : Int) + 1 ∧ V = V ∧ countL m ls = countL m ls) = true from decide_eq_true ⟨rfl, rfl, rfl⟩]
  have XA := Lib.hid (X12.out.trans (hbA.mono X12.out.size))
  have GTA := Lib.hid (GT12.out.below hbA)
  have TA := Lib.hid (T12.out.below' hbA)
  clear hbA X12 GT12 GN12 T12 N12 n0 n1 n2 t0 t1 t2
  obtain ⟨t0, t1, t2, _, _, _⟩ := TA.out.three
  obtain ⟨gs, hgs⟩ : ∃ gs, gs = countL m ls := ⟨_, rfl⟩
  have HGS := Lib.hid hgs
  obtain ⟨_, _, e, hLc, hLm, hat⟩ := GTA.out.open_
  have HAT : Hid (∀ (j : Nat) (g : Gr), gs[j]? = some g → ∃ b off c0, At = some ⟨b, off, none⟩ ∧ b < wA.heap.size ∧ wA.cell? ⟨b, off + j * 2, none⟩ = some c0 ∧ wA.cell? ⟨b, off + j * 2 + 1, none⟩ = some (.int .i64 g.2) ∧ IntsAt wA c0 g.1) := Lib.hid (by
   rw [hgs]
   injection e with e1 e2 e3
   subst e1
   exact hat)
  have HGL : Hid (gs.length = Lt) := Lib.hid (by rw [hgs, HLT.out])
  have HPOS : Hid (∀ g ∈ gs, 0 < g.2) := Lib.hid (by rw [hgs]; exact (count_cnt m ls).2.2)
  have HSUM : Hid (sumN gs = lenS ls) := Lib.hid (by rw [hgs]; exact sum_count m ls)
  have hLS : lenS ls ≤ 4008 := lenS_le H5.out (by rw [HN.out]; exact h8)
  have hLtc : Lt ≤ ct := by
   injection e with e1 e2 e3
   have := HLT.out
   omega
  have hctm : ct ≤ 9223372036854775807 := by
   injection e with e1 e2 e3
   omega
  clear e hLc hLm hat hgs
  obtain ⟨LS, hLSe⟩ : ∃ LS : Int, LS = (lenS ls : Int) := ⟨_, rfl⟩
  have HLS := Lib.hid hLSe
  have hLS1 : 0 ≤ LS ∧ LS ≤ 4008 := by omega
  clear hLSe hLS
  go_wp2_with fail
  go_loopg [19, 20] Lt (fun g s i wr => ∃ (j : Nat) (sj : Int), wr = wA ∧ s = .int .i64 sj ∧ Hid (sj = sumN (gs.take j)) ∧ i = .int .i64 j ∧ j + g = Lt)
  case atStart => exact ⟨0, 0, rfl, rfl, Lib.hid rfl, rfl, by omega⟩
  case round =>
   obtain ⟨j, sj, rfl, rfl, HSJ, rfl, hj⟩ := hrel
   rcases Nat.eq_zero_or_pos gk with h | h
   ·obtain rfl : j = Lt := by omega
    have HS1 : Hid (sj = LS) := Lib.hid (by rw [HSJ.out, List.take_of_length_le (by rw [HGL.out]; exact Nat.le_refl _), HSUM.out, HLS.out])
    go_wp2_with fail
    have hsl := HS1.out
    subst hsl
    have HATL := Lib.hid (HS.out.below XA.out).open_
    clear HSJ HS1 HAT HPOS HSUM HGL HGS
    go_loopg [19, 21] n (fun g s i wz => ∃ (j : Nat) (sv : Int), wz = wr ∧ s = .int .i64 sv ∧ Hid (sv = sj - (lenS (ls.take j) : Int)) ∧ i = .int .i64 j ∧ j + g = n)
    case atStart => exact ⟨0, sj, rfl, rfl, Lib.hid (by rw [show lenS (ls.take 0) = 0 from rfl]; omega), rfl, by omega⟩
    case round =>
     obtain ⟨q, sv, rfl, rfl, HSV, rfl, hq⟩ := hrel
     rcases Nat.eq_zero_or_pos gk with h | h
     ·obtain rfl : q = n := by omega
      have hs0 : sv = 0 := by
       rw [HSV.out, List.take_of_length_le (by rw [HN.out]; exact Nat.le_refl _), HLS.out]
       omega
      subst hs0
      clear HSV HATL
      by_cases hm0 : m = 0
      ·have d6 : ((m : Int) + 1 == 1) = true := by rw [hm0]; rfl
       clear hm0
       go_wp2_with fail
       refine (HK.out _).mono ?_
       rintro e wB ⟨rfl, hbB⟩
       have XB := Lib.hid (XA.out.trans (hbB.mono XA.out.size))
       clear hbB
       go_wp2_with fail
       go_ret
       exact ⟨rfl, XB.out⟩
      ·have d6 : ((m : Int) + 1 == 1) = false := by
        rw [beq_eq_false_iff_ne]
        omega
       obtain ⟨m', hm'⟩ : ∃ m', m = m' + 1 := ⟨m - 1, by omega⟩
       have HMM := Lib.hid hm'
       have hw1 : IntKind.i64.wrap ((m : Int) + 1 - 1) = (m : Int) := by rw [show (m : Int) + 1 - 1 = m by omega]; exact IntWalk.i64_in _ (by omega)
       have hw2 : IntKind.i64.wrap (m : Int) = (m : Int) := IntWalk.i64_in _ (by omega)
       have hlist := Lib.hid (HS.out.below XA.out)
       clear hm0 hm'
       go_wp2_with fail
       refine (lowerT2 HSO.out _ m m' HMM.out V _ _ _ ls GTA.out HLT.out HTM.out.2.2 H5.out (by rw [HN.out]; exact h8)).mono ?_
       rintro e wB ⟨Ax, cx, Lx, rfl, hg, hbB⟩
       have XB := Lib.hid (XA.out.trans (hbB.mono XA.out.size))
       have GXB := Lib.hid hg
       have HLB2 := Lib.hid (hlist.out.below hbB)
       clear hg hbB XA GTA TA t0 t1 t2 hlist
       go_wp2_with fail
       first
        | (have hck : c = k := (by omega); have HLQ := Lib.hid (show ListsAt wB (.slice A q k) ls by have := HLB2.out; rwa [hck] at this); clear hck)
        | have HLQ := HLB2
       obtain ⟨WB, hWB, Z0, ZB, Zhs⟩ := box1 wB 27 [.int .i64 (m : Int), .int .i64 V, .slice Ax Lx cx]
       rw [← hWB]
       clear hWB
       refine (countT2 HSO.out WB m m' HMM.out V _ ls (HLQ.out.below ZB.out) (by omega) (by omega) HIN.out H5.out (by rw [HN.out]; exact h8)).mono ?_
       rintro e wC ⟨Ay, cy, Ly, rfl, hg, hbC⟩
       have XC := Lib.hid (XB.out.trans ((ZB.out.trans (hbC.mono ZB.out.size)).mono XB.out.size))
       have GXC := Lib.hid ((GXB.out.below ZB.out).below hbC)
       have GYC := Lib.hid hg
       have ZC := Lib.hid (Z0.out.below' hbC)
       clear hg hbC XB GXB HLB2 HLQ ZB Z0
       obtain ⟨z0, z1, z2, _, _, _⟩ := ZC.out.three
       have y6 : wB.heap.size < wC.heap.size := ZC.out.lt
       go_wp2_with fail
       clear z0 z1 z2
       obtain ⟨WC, hWC, Y0, YB, Yhs⟩ := box1 wC 27 [.int .i64 (m : Int), .int .i64 V, .slice Ay Ly cy]
       rw [← hWC]
       clear hWC
       refine (sameTableG WC (m : Int) V (m : Int) V _ _ _ _ (GXC.out.below YB.out) (GYC.out.below YB.out)).mono ?_
       rintro e wD ⟨rfl, hbD⟩
       rw [show decide ((m : Int) = (m : Int) ∧ V = V ∧ countL m' ls = countL m' ls) = true from decide_eq_true ⟨rfl, rfl, rfl⟩]
       have XD := Lib.hid (XC.out.trans ((YB.out.trans (hbD.mono YB.out.size)).mono XC.out.size))
       clear hbD XC GXC GYC ZC YB Y0
       go_wp2_with fail
       refine (HK.out _).mono ?_
       rintro e wE ⟨rfl, hbE⟩
       have XE := Lib.hid (XD.out.trans (hbE.mono XD.out.size))
       clear hbE
       go_wp2_with fail
       go_ret
       exact ⟨rfl, XE.out⟩
     ·obtain ⟨g, rfl⟩ : ∃ g, gk = g + 1 := ⟨gk - 1, by omega⟩
      obtain ⟨x, hx⟩ : ∃ x, ls[q]? = some x := ⟨_, List.getElem?_eq_getElem (by rw [HN.out]; omega)⟩
      obtain ⟨_, _, e, _, _, hatl⟩ := HATL.out
      injection e with e1 e2 e3
      obtain ⟨ba, oa, c0, rfl, _, e0, hi⟩ := hatl q x hx
      obtain ⟨Ai, ci, rfl, _, _, _⟩ := hi.open_
      obtain ⟨p, hp⟩ : ∃ p, x.length = p := ⟨_, rfl⟩
      have hst := lenS_take hx
      have hpt := lenS_part ls (q + 1)
      rw [hp] at hst e0
      have hsv := HSV.out
      have hls := HLS.out
      have hsvb : 0 ≤ sv - (p : Int) - 1 ∧ sv ≤ 4008 := by omega
      have HS2 : Hid (sv - (p : Int) - 1 = sj - (lenS (ls.take (q + 1)) : Int)) := Lib.hid (by omega)
      have hw1 : IntKind.i64.wrap (sv - (p : Int)) = sv - (p : Int) := IntWalk.i64_in _ (by omega)
      have hw2 : IntKind.i64.wrap (sv - (p : Int) - 1) = sv - (p : Int) - 1 := IntWalk.i64_in _ (by omega)
      subst e1
      clear hx hatl hi hp hst hpt hsv hls e2 e3
      go_wp2_with fail
      go_roundg g
      case measure => omega
      case rel => exact ⟨q + 1, _, rfl, rfl, HS2, rfl, by omega⟩
   ·obtain ⟨g, rfl⟩ : ∃ g, gk = g + 1 := ⟨gk - 1, by omega⟩
    obtain ⟨x, hx⟩ : ∃ x, gs[j]? = some x := ⟨_, List.getElem?_eq_getElem (by rw [HGL.out]; omega)⟩
    obtain ⟨ba, oa, c0, rfl, _, e0, e1, _⟩ := HAT.out j x hx
    have hp0 := sumN_part HPOS.out j
    have hp1 := sumN_part HPOS.out (j + 1)
    have hst := sumN_take hx
    have HS2 : Hid (sj + x.2 = sumN (gs.take (j + 1))) := Lib.hid (by rw [HSJ.out, hst])
    have hw : IntKind.i64.wrap (sj + x.2) = sj + x.2 := IntWalk.i64_in _ (by have := HS2.out; have := HSUM.out; have := HLS.out; omega)
    clear hx hp0 hp1 hst e0
    go_wp2_with fail
    go_roundg g
    case measure => omega
    case rel => exact ⟨j + 1, sj + x.2, rfl, rfl, HS2, rfl, by omega⟩
theorem gramLowersG (hsort : SortOk) (w : World) (O V cut : Int) (sv : Value) (ls : List (List Int)) (hs : ListsAt w sv ls) :
  Calls Tryz.prog 12 #[.int .i64 O, .int .i64 V, sv, .int .i64 cut] w fun e w' => e = .returned (.bool true) ∧ Below w.heap.size w w' := by
 cases h : lowB O V ls cut with
 | false => exact gramLowersOut hsort w O V cut sv ls hs h
 | true => exact gramLowersIn hsort w O V cut sv ls hs h
end
end Go.Proofs.YtjebfdfkjlkifaaGreat
