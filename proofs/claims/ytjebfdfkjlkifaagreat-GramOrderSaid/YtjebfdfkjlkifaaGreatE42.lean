/- Lemmas on the way: Mx1. -/
import Derived.Test.YtjebfdfkjlkifaaGreatC32
import Derived.Test.YtjebfdfkjlkifaaGreatC29
import Derived.Test.YtjebfdfkjlkifaaGreatE41
set_option linter.unusedSimpArgs false
set_option linter.unusedVariables false
set_option linter.unusedSectionVars false
set_option linter.unnecessarySimpa false
namespace Go.Proofs.YtjebfdfkjlkifaaGreat
open Go.RowKit
theorem IntsAt.cut {w : World} {A : Option Addr} {n c k m : Nat} {l : List Int} (h : IntsAt w (.slice A n c) l) (hl : l.length = n) (hk : k ≤ n) (hm : m = n - k) : IntsAt w (.slice (A.map fun x => x.add k) m (c - k)) (l.drop k) := by
 subst hm
 obtain ⟨A', c', e, hc, hcm, hat⟩ := h.open_
 have hA : A = A' ∧ n = l.length ∧ c = c' := by cases e; exact ⟨rfl, rfl, rfl⟩
 obtain ⟨rfl, _, rfl⟩ := hA
 clear e
 rcases Nat.eq_zero_or_pos n with h0 | h0
 ·have hd : l.drop k = [] := List.eq_nil_of_length_eq_zero (by rw [List.length_drop]; omega)
  unfold IntsAt
  rw [hd]
  exact Sl.none' _ _ _ _ _ _ (by omega) rfl (by unfold maxLen; omega)
 ·obtain ⟨y, hy⟩ : ∃ y, l[0]? = some y := ⟨_, List.getElem?_eq_getElem (by omega)⟩
  obtain ⟨b, o, rfl, _, _⟩ := hat 0 y hy
  unfold IntsAt at h ⊢
  rw [hl] at h
  have := Sl.tail (k := k) h hk
  rw [List.length_drop, hl, List.map_drop]
  have e : (⟨b, o, none⟩ : Addr).add k = ⟨b, o + k, none⟩ := by unfold Addr.add; split <;> simp_all
  rw [Option.map_some, e]
  simpa using this
theorem IntsAt.none_ {w : World} {A : Option Addr} {c : Nat} (hc : c ≤ 9223372036854775807) : IntsAt w (.slice A 0 c) [] := by
 unfold IntsAt
 exact Sl.none' _ _ _ _ _ _ rfl rfl (by unfold maxLen; omega)

set_option maxRecDepth 1000000 in
set_option maxHeartbeats 16000000 in
theorem mixedG (O b v : Nat) (gs : List Gr) (hO : O ≤ 4) (hT : SmallT gs v) (n : Nat) (w : World) (hv : Value) (h : List Int) (mv : Value) (mix : List Rat) (hn : 1 ≤ n ∧ n ≤ O) (hL : LvsAt w b O 0 gs) (hI : IntsAt w hv h) (hl : h.length = n - 1) (hk : NiceK h) (hm : FracsAt 64 w mv mix) (hml : mix.length = n + 1) :
  Calls Tryz.prog 218 #[.agg #[.slice (some ⟨b, 0, none⟩) (O + 1) (O + 1), .int .i64 ((v + 1 : Nat) : Int), mv], .int .i64 n, hv] w (RowNew w v (mixedQ (totN O gs) v mix n h)) := by
 have hv8 := hT.2.2.2
 obtain ⟨Ah, ch, rfl, hlc, hcm, _⟩ := hI.open_
 obtain ⟨Am, cm, rfl, hmc, hmm, hat⟩ := hm.open_
 obtain ⟨p, hp⟩ : ∃ p, h.length = p := ⟨_, rfl⟩
 have hpn : p + 1 = n := by omega
 rw [hp] at hI hlc ⊢
 rw [hml] at hm hmc ⊢
 have HI := Lib.hid hI
 have HL := Lib.hid hL
 have HLN := Lib.hid hp
 have HM := Lib.hid hm
 have HML := Lib.hid hml
 have HAT := Lib.hid hat
 have HK := Lib.hid hk
 have HT := Lib.hid hT
 have QM : Hid (∀ q ∈ mix, QB 64 q) := Lib.hid (fun q hq => by
  obtain ⟨j, hj⟩ := List.mem_iff_getElem?.1 hq
  obtain ⟨_, _, _, _, _, _, _, _, _, _, hf⟩ := hat j q hj
  exact hf.qb (by omega))
 clear hI hL hl hm hml hat hk hT hp
 go_enter Tryz.func218, Tryz.ntmps218
 go_wp2_with (at_make; refine wpList_make_fracs rfl _ _ rfl ((v : Int) + 1) (v + 1) rfl rfl (by omega) (by omega) ?_)
 obtain ⟨W, hW, P0, PB, Phs⟩ := box1 w 175 [.slice (some ⟨b, 0, none⟩) (O + 1) (O + 1), .int .i64 ((v : Int) + 1), .slice Am (n + 1) cm]
 rw [← hW]
 clear hW
 intro w1 hf1 hb1
 have F1 := Lib.hid hf1.arc
 have P1 := Lib.hid (P0.out.below hb1 (by omega))
 have B1 := Lib.hid (PB.out.trans (hb1.mono (by omega)))
 obtain ⟨p0, p1, p2, _, _, _⟩ := P1.out.three
 clear hf1 hb1
 go_wp2_with fail
 refine (flatG w1 (.slice (some ⟨b, 0, none⟩) (O + 1) (O + 1)) (v + 1) (by omega) (by omega) rfl _ _ _ rfl).mono ?_
 rintro e w2 ⟨be, rfl, hbe, hf2, hb2⟩
 have hbo : w.heap.size + 1 < w1.heap.size := F1.out.lt
 have E2 : Hid (FArc w2 be (estQ (totN O gs) v h 0)) := Lib.hid hf2.arc
 have F2 := Lib.hid (F1.out.below hb2)
 have P2 := Lib.hid (P1.out.below' hb2)
 have B2 := Lib.hid (B1.out.trans (hb2.mono B1.out.size))
 obtain ⟨ow, how⟩ : ∃ f : Nat → Nat → Rat, f = fun j x => mixN (totN O gs) v mix h x j := ⟨_, rfl⟩
 have OW := Lib.hid how
 have F2' : Hid (FArc w2 (w.heap.size + 1) ((List.range (v + 1)).map (ow 0))) := Lib.hid (by
  have := F2.out
  rw [OW.out]
  have e : (List.range (v + 1)).map (fun x => mixN (totN O gs) v mix h x 0) = List.replicate (v + 1) 0 := by
   apply List.ext_getElem?
   intro i
   by_cases hi : i < v + 1
   ·rw [List.getElem?_map, List.getElem?_range hi, List.getElem?_replicate_of_lt hi]; rfl
   ·rw [List.getElem?_eq_none_iff.2 (by simp; omega), List.getElem?_eq_none_iff.2 (by simp; omega)]
  rw [e]
  exact this)
 have MLD := Lib.hid (fun (a : Nat) (b : List Int) => HT.out.mild O a b)
 clear p0 p1 p2 hf2 hb2 P1 F1 F2 P0 PB B1 how
 go_wp2_with fail
 go_loopg [9, 10, 11, 12, 13] (n + 1) (fun gh i _ _ _ _ wz => ∃ (j : Nat), i = .int .i64 j ∧ j + gh = n + 1 ∧ Hid (FArc wz be (estQ (totN O gs) v h (j - 1))) ∧ Hid (FArc wz (w.heap.size + 1) ((List.range (v + 1)).map (ow j))) ∧ Hid (Blk wz w.heap.size 175 [.slice (some ⟨b, 0, none⟩) (O + 1) (O + 1), .int .i64 ((v : Int) + 1), .slice Am (n + 1) cm]) ∧ Hid (Below w.heap.size w wz))
 case atStart => exact ⟨0, rfl, by omega, E2, F2', P2, B2⟩
 case round =>
  clear E2 F2' P2 B2
  obtain ⟨j, rfl, hj, E2, F2, P2, B2⟩ := hrel
  obtain ⟨p0, p1, p2, _, _, _⟩ := P2.out.three
  have s2 : w.heap.size < wr.heap.size := P2.out.lt
  rcases Nat.eq_zero_or_pos gk with hh | hh
  ·subst hh
   obtain rfl : j = n + 1 := by omega
   have d1 : decide ((n : Int) + 1 ≤ (n : Int)) = false := decide_eq_false (by omega)
   have d2 : decide (n + 1 ≤ n) = false := decide_eq_false (by omega)
   go_wp2_with fail
   go_ret
   exact ⟨w.heap.size + 1, rfl, by omega, by
    have := F2.out
    rw [OW.out] at this
    exact this, B2.out⟩
  ·obtain ⟨gh, rfl⟩ : ∃ g, gk = g + 1 := ⟨gk - 1, by omega⟩
   have d1 : decide ((j : Int) ≤ (n : Int)) = true := decide_eq_true (by omega)
   have d2 : decide (j ≤ n) = true := decide_eq_true (by omega)
   go_upto_if 27 with fail
   go_cut [10, 11, 12] (fun _ _ _ wc => Hid (FArc wc be (estQ (totN O gs) v h j)) ∧ Hid (FArc wc (w.heap.size + 1) ((List.range (v + 1)).map (ow j))) ∧ Hid (Blk wc w.heap.size 175 [.slice (some ⟨b, 0, none⟩) (O + 1) (O + 1), .int .i64 ((v : Int) + 1), .slice Am (n + 1) cm]) ∧ Hid (Below w.heap.size w wc))
   case first =>
    rcases Nat.eq_zero_or_pos j with hj0 | hj0
    ·subst hj0
     go_wp2_with fail
     go_meet
     exact ⟨E2, F2, P2, B2⟩
    ·obtain ⟨i, rfl⟩ : ∃ i, j = i + 1 := ⟨j - 1, by omega⟩
     obtain ⟨k, rfl⟩ : ∃ k, p = k + i := ⟨p - i, by omega⟩
     have E2 : Hid (FArc wr be (estQ (totN O gs) v h i)) := E2
     have j3 : decide ((0 : Int) < (i : Int) + 1) = true := decide_eq_true (by omega)
     have j4 : decide (0 < i + 1) = true := decide_eq_true (by omega)
     have a1 : IntKind.i64.wrap ((k : Int) + (i : Int) - ((i : Int) + 1)) = (k : Int) - 1 := by rw [show (k : Int) + (i : Int) - ((i : Int) + 1) = (k : Int) - 1 by omega]; exact IntWalk.i64_in _ (by omega)
     have a2 : IntKind.i64.wrap ((k : Int) - 1 + 1) = (k : Int) := by rw [show (k : Int) - 1 + 1 = (k : Int) by omega]; exact IntWalk.i64_in _ (by omega)
     have a3 : IntKind.i64.wrap (k : Int) = (k : Int) := IntWalk.i64_in _ (by omega)
     have a4 : (0 : Int) ≤ (k : Int) := by omega
     have a5 : (k : Int) ≤ (k : Int) + (i : Int) := by omega
     have a6 : (k : Int) ≤ (ch : Int) := by omega
     have LV := Lib.hid (HL.out.below B2.out)
     have IW := Lib.hid (HI.out.below B2.out)
     have HDL : Hid ((h.drop k).length = i) := Lib.hid (by rw [List.length_drop, HLN.out]; omega)
     have HDK : Hid (NiceK (h.drop k)) := Lib.hid ⟨by have := HK.out.1; rw [List.length_drop]; omega, fun x hx => HK.out.2 x (List.mem_of_mem_drop hx)⟩
     have hS := And.intro p0 p1
     by_cases hck : ch = k
     ·obtain rfl : ch = k := hck
      go_wp2_with fail
      go_region_held3 (fun w' => w'.cell? ⟨w.heap.size, 0, none⟩ = some (.slice (some ⟨b, 0, none⟩) (O + 1) (O + 1)) ∧ w'.cell? ⟨w.heap.size, 1, none⟩ = some (.int .i64 ((v : Int) + 1)))
       (first | assumption | go_keep)
       (first
         | (go_at_call 219; refine (seenG _ O (i + 1) b _ _ gs (h.drop ch) (LV.out.below (below_drew_self _)) ⟨by omega, by omega⟩ hO ?_ (by rw [HDL.out]; omega) HDK.out).mono ?_; (rw [List.eq_nil_of_length_eq_zero (HDL.out.trans (show i = 0 by omega))]; exact IntsAt.none_ (by omega)); rintro e wc ⟨mw, L, rfl, h1, h2, h3, h4'⟩; have h4 := below_of_drew h4'; have SN := Lib.hid h1; have CN : Hid (CntI L (totN O gs (i + 1) (h.drop ch))) := Lib.hid h2; have BC := Lib.hid h4; have hS := And.intro ((BC.out.cell (p := ⟨w.heap.size, 0, none⟩) (by show w.heap.size < wr.heap.size; omega)).trans p0) ((BC.out.cell (p := ⟨w.heap.size, 1, none⟩) (by show w.heap.size < wr.heap.size; omega)).trans p1); clear h1 h2 h3 h4 h4'))
      all_goals
       clear hS
       have M := Lib.hid (MLD.out (i + 1) (h.drop ch))
       have HS0 : Hid (sumI L = sumC (totN O gs (i + 1) (h.drop ch)) v) := Lib.hid (sumI_eq CN.out (HT.out.keys CN.out))
       have EST : Hid (estQ (totN O gs) v h (i + 1) = if 0 < sumC (totN O gs (i + 1) (h.drop ch)) v then shareQ (totN O gs (i + 1) (h.drop ch)) v else estQ (totN O gs) v h (i)) := Lib.hid (by
        have e : h.length - i = ch := by rw [HLN.out]; omega
        show (if 0 < sumC (totN O gs (i + 1) (h.drop (h.length - i))) v then shareQ (totN O gs (i + 1) (h.drop (h.length - i))) v else estQ (totN O gs) v h (i)) = _
        rw [e])
       obtain ⟨N, hN⟩ : ∃ N : Int, sumI L = N := ⟨_, rfl⟩
       rw [hN]
       have HS := Lib.hid (HS0.out.symm.trans hN)
       have hbs := sumC_bd M.out v
       rw [HS.out] at hbs EST
       have hN0 : 0 ≤ N := hbs.1
       have hN1 : N < 900000000000000000 := by omega
       have E3 := Lib.hid (E2.out.below BC.out)
       have F3 := Lib.hid (F2.out.below BC.out)
       have P3 := Lib.hid (P2.out.below' BC.out)
       have B3 := Lib.hid (B2.out.trans (BC.out.mono B2.out.size))
       clear hN hbs p0 p1
       by_cases hz : 0 < N
       ·have z1 : decide (0 < N) = true := decide_eq_true hz
        have EQ : Hid (estQ (totN O gs) v h (i + 1) = shareQ (totN O gs (i + 1) (h.drop ch)) v) := Lib.hid (by rw [EST.out, if_pos hz])
        obtain ⟨old, hold⟩ : ∃ l, estQ (totN O gs) v h (i) = l := ⟨_, rfl⟩
        have hol : old.length = v + 1 := by rw [← hold]; exact estQ_length _ _ _ _
        have E4 : Hid (FArc wc be old) := Lib.hid (by rw [← hold]; exact E3.out)
        have HOL := Lib.hid hol
        obtain ⟨fw, hfw⟩ : ∃ f : Nat → Rat, f = fun (x : Nat) => ((totN O gs (i + 1) (h.drop ch) (x : Int) : Int) : Rat) / (N : Rat) := ⟨_, rfl⟩
        have FW := Lib.hid hfw
        clear hfw hold hol
        go_wp2_with fail
        go_loopg [12, 46] (v + 1) (fun gq _ ii wz => ∃ (q : Nat), ii = .int .i64 q ∧ q + gq = v + 1 ∧ Hid (FArc wz be ((List.range q).map fw ++ old.drop q)) ∧ Hid (FArc wz (w.heap.size + 1) ((List.range (v + 1)).map (ow (i + 1)))) ∧ Hid (SeenAt wz mw L) ∧ Hid (Blk wz w.heap.size 175 [.slice (some ⟨b, 0, none⟩) (O + 1) (O + 1), .int .i64 ((v : Int) + 1), .slice Am (n + 1) cm]) ∧ Hid (Below w.heap.size w wz))
        case atStart => exact ⟨0, rfl, by omega, Lib.hid (by simpa using E4.out), F3, SN, P3, B3⟩
        case round =>
         clear E2 F2 P2 B2 E3 F3 P3 B3 E4 SN
         obtain ⟨q, rfl, hq, E4, F4, SN4, P4, B4⟩ := hrel
         rcases Nat.eq_zero_or_pos gk with hh | hh
         ·subst hh
          obtain rfl : q = v + 1 := by omega
          go_wp2_with fail
          go_meet
          exact ⟨Lib.hid (by
           have h1 := E4.out
           rw [List.drop_eq_nil_of_le (by rw [HOL.out]; exact Nat.le_refl _), List.append_nil, FW.out] at h1
           rw [EQ.out]
           unfold shareQ
           rw [HS.out]
           exact h1), F4, P4, B4⟩
         ·obtain ⟨gq, rfl⟩ : ∃ g, gk = g + 1 := ⟨gk - 1, by omega⟩
          obtain ⟨cj, hcj⟩ : ∃ c, totN O gs (i + 1) (h.drop ch) (q : Int) = c := ⟨_, rfl⟩
          have hm := M.out (q : Int)
          rw [hcj] at hm
          have hlk := SN4.out.look CN.out (x := (q : Int)) (by omega)
          rw [hcj] at hlk
          have HV : Hid ((cj : Rat) / (N : Rat) = fw q) := Lib.hid (by rw [FW.out]; simp only [hcj])
          have q1 : (0 : Int) ≤ (q : Int) := by omega
          have q2 : (q : Int) < (v : Int) + 1 := by omega
          have ql : q < old.length := by rw [HOL.out]; omega
          have HGT := Lib.hid (row_at2 fw old ql)
          have QLH := Lib.hid ql
          clear hcj ql
          go_wp2_with fail
          refine (makeI _ cj N hm.1 (by omega) hz (by omega)).mono ?_
          rintro e w5 ⟨u, rfl, t5, hb5⟩
          rw [HV.out] at t5
          obtain ⟨Ar, mr, cr, Ar', mr', cr', rfl⟩ := t5.at_.open_
          have T5 := Lib.hid t5.at_
          have E5 := Lib.hid (E4.out.below hb5)
          have F5 := Lib.hid (F4.out.below hb5)
          have SN5 := Lib.hid (SN4.out.below hb5)
          have P5 := Lib.hid (P4.out.below' hb5)
          have B5 := Lib.hid (B4.out.trans (hb5.mono B4.out.size))
          obtain ⟨_, _, _, _, _, _, f0, f1, f2, y0, y1, y2, _⟩ := E5.out.get HGT.out
          clear t5 hb5 hlk
          go_wp2_with fail
          go_roundg gq
          case measure => omega
          case rel => exact ⟨q + 1, rfl, by omega, Lib.hid (by
           have := E5.out.put (i := q) (by have := QLH.out; simp; omega) rfl T5.out
           rwa [row_step2 fw old QLH.out rfl] at this), Lib.hid (F5.out.far E5.out (by omega) _ _ _ _ _ _ _ _ _ _), Lib.hid (SN5.out.far3 E5.out _ _ _ _ _ _), Lib.hid (P5.out.far3 (by omega) _ _ _ _ _ _), Lib.hid (below3 B5.out (by omega) _ _ _ _ _ _)⟩
       ·have z1 : decide (0 < N) = false := decide_eq_false hz
        have EQ : Hid (estQ (totN O gs) v h (i + 1) = estQ (totN O gs) v h (i)) := Lib.hid (by rw [EST.out, if_neg hz])
        go_wp2_with fail
        go_meet
        exact ⟨Lib.hid (by rw [EQ.out]; exact E3.out), F3, P3, B3⟩

     ·go_wp2_with fail
      go_region_held3 (fun w' => w'.cell? ⟨w.heap.size, 0, none⟩ = some (.slice (some ⟨b, 0, none⟩) (O + 1) (O + 1)) ∧ w'.cell? ⟨w.heap.size, 1, none⟩ = some (.int .i64 ((v : Int) + 1)))
       (first | assumption | go_keep)
       (first
         | (go_at_call 219; refine (seenG _ O (i + 1) b _ _ gs (h.drop k) (LV.out.below (below_drew_self _)) ⟨by omega, by omega⟩ hO ?_ (by rw [HDL.out]; omega) HDK.out).mono ?_; (exact IntsAt.drew (IW.out.cut HLN.out (by omega) (by omega))); rintro e wc ⟨mw, L, rfl, h1, h2, h3, h4'⟩; have h4 := below_of_drew h4'; have SN := Lib.hid h1; have CN : Hid (CntI L (totN O gs (i + 1) (h.drop k))) := Lib.hid h2; have BC := Lib.hid h4; have hS := And.intro ((BC.out.cell (p := ⟨w.heap.size, 0, none⟩) (by show w.heap.size < wr.heap.size; omega)).trans p0) ((BC.out.cell (p := ⟨w.heap.size, 1, none⟩) (by show w.heap.size < wr.heap.size; omega)).trans p1); clear h1 h2 h3 h4 h4'))
      all_goals
       clear hS
       have M := Lib.hid (MLD.out (i + 1) (h.drop k))
       have HS0 : Hid (sumI L = sumC (totN O gs (i + 1) (h.drop k)) v) := Lib.hid (sumI_eq CN.out (HT.out.keys CN.out))
       have EST : Hid (estQ (totN O gs) v h (i + 1) = if 0 < sumC (totN O gs (i + 1) (h.drop k)) v then shareQ (totN O gs (i + 1) (h.drop k)) v else estQ (totN O gs) v h (i)) := Lib.hid (by
        have e : h.length - i = k := by rw [HLN.out]; omega
        show (if 0 < sumC (totN O gs (i + 1) (h.drop (h.length - i))) v then shareQ (totN O gs (i + 1) (h.drop (h.length - i))) v else estQ (totN O gs) v h (i)) = _
        rw [e])
       obtain ⟨N, hN⟩ : ∃ N : Int, sumI L = N := ⟨_, rfl⟩
       rw [hN]
       have HS := Lib.hid (HS0.out.symm.trans hN)
       have hbs := sumC_bd M.out v
       rw [HS.out] at hbs EST
       have hN0 : 0 ≤ N := hbs.1
       have hN1 : N < 900000000000000000 := by omega
       have E3 := Lib.hid (E2.out.below BC.out)
       have F3 := Lib.hid (F2.out.below BC.out)
       have P3 := Lib.hid (P2.out.below' BC.out)
       have B3 := Lib.hid (B2.out.trans (BC.out.mono B2.out.size))
       clear hN hbs p0 p1
       by_cases hz : 0 < N
       ·have z1 : decide (0 < N) = true := decide_eq_true hz
        have EQ : Hid (estQ (totN O gs) v h (i + 1) = shareQ (totN O gs (i + 1) (h.drop k)) v) := Lib.hid (by rw [EST.out, if_pos hz])
        obtain ⟨old, hold⟩ : ∃ l, estQ (totN O gs) v h (i) = l := ⟨_, rfl⟩
        have hol : old.length = v + 1 := by rw [← hold]; exact estQ_length _ _ _ _
        have E4 : Hid (FArc wc be old) := Lib.hid (by rw [← hold]; exact E3.out)
        have HOL := Lib.hid hol
        obtain ⟨fw, hfw⟩ : ∃ f : Nat → Rat, f = fun (x : Nat) => ((totN O gs (i + 1) (h.drop k) (x : Int) : Int) : Rat) / (N : Rat) := ⟨_, rfl⟩
        have FW := Lib.hid hfw
        clear hfw hold hol
        go_wp2_with fail
        go_loopg [12, 46] (v + 1) (fun gq _ ii wz => ∃ (q : Nat), ii = .int .i64 q ∧ q + gq = v + 1 ∧ Hid (FArc wz be ((List.range q).map fw ++ old.drop q)) ∧ Hid (FArc wz (w.heap.size + 1) ((List.range (v + 1)).map (ow (i + 1)))) ∧ Hid (SeenAt wz mw L) ∧ Hid (Blk wz w.heap.size 175 [.slice (some ⟨b, 0, none⟩) (O + 1) (O + 1), .int .i64 ((v : Int) + 1), .slice Am (n + 1) cm]) ∧ Hid (Below w.heap.size w wz))
        case atStart => exact ⟨0, rfl, by omega, Lib.hid (by simpa using E4.out), F3, SN, P3, B3⟩
        case round =>
         clear E2 F2 P2 B2 E3 F3 P3 B3 E4 SN
         obtain ⟨q, rfl, hq, E4, F4, SN4, P4, B4⟩ := hrel
         rcases Nat.eq_zero_or_pos gk with hh | hh
         ·subst hh
          obtain rfl : q = v + 1 := by omega
          go_wp2_with fail
          go_meet
          exact ⟨Lib.hid (by
           have h1 := E4.out
           rw [List.drop_eq_nil_of_le (by rw [HOL.out]; exact Nat.le_refl _), List.append_nil, FW.out] at h1
           rw [EQ.out]
           unfold shareQ
           rw [HS.out]
           exact h1), F4, P4, B4⟩
         ·obtain ⟨gq, rfl⟩ : ∃ g, gk = g + 1 := ⟨gk - 1, by omega⟩
          obtain ⟨cj, hcj⟩ : ∃ c, totN O gs (i + 1) (h.drop k) (q : Int) = c := ⟨_, rfl⟩
          have hm := M.out (q : Int)
          rw [hcj] at hm
          have hlk := SN4.out.look CN.out (x := (q : Int)) (by omega)
          rw [hcj] at hlk
          have HV : Hid ((cj : Rat) / (N : Rat) = fw q) := Lib.hid (by rw [FW.out]; simp only [hcj])
          have q1 : (0 : Int) ≤ (q : Int) := by omega
          have q2 : (q : Int) < (v : Int) + 1 := by omega
          have ql : q < old.length := by rw [HOL.out]; omega
          have HGT := Lib.hid (row_at2 fw old ql)
          have QLH := Lib.hid ql
          clear hcj ql
          go_wp2_with fail
          refine (makeI _ cj N hm.1 (by omega) hz (by omega)).mono ?_
          rintro e w5 ⟨u, rfl, t5, hb5⟩
          rw [HV.out] at t5
          obtain ⟨Ar, mr, cr, Ar', mr', cr', rfl⟩ := t5.at_.open_
          have T5 := Lib.hid t5.at_
          have E5 := Lib.hid (E4.out.below hb5)
          have F5 := Lib.hid (F4.out.below hb5)
          have SN5 := Lib.hid (SN4.out.below hb5)
          have P5 := Lib.hid (P4.out.below' hb5)
          have B5 := Lib.hid (B4.out.trans (hb5.mono B4.out.size))
          obtain ⟨_, _, _, _, _, _, f0, f1, f2, y0, y1, y2, _⟩ := E5.out.get HGT.out
          clear t5 hb5 hlk
          go_wp2_with fail
          go_roundg gq
          case measure => omega
          case rel => exact ⟨q + 1, rfl, by omega, Lib.hid (by
           have := E5.out.put (i := q) (by have := QLH.out; simp; omega) rfl T5.out
           rwa [row_step2 fw old QLH.out rfl] at this), Lib.hid (F5.out.far E5.out (by omega) _ _ _ _ _ _ _ _ _ _), Lib.hid (SN5.out.far3 E5.out _ _ _ _ _ _), Lib.hid (P5.out.far3 (by omega) _ _ _ _ _ _), Lib.hid (below3 B5.out (by omega) _ _ _ _ _ _)⟩
       ·have z1 : decide (0 < N) = false := decide_eq_false hz
        have EQ : Hid (estQ (totN O gs) v h (i + 1) = estQ (totN O gs) v h (i)) := Lib.hid (by rw [EST.out, if_neg hz])
        go_wp2_with fail
        go_meet
        exact ⟨Lib.hid (by rw [EQ.out]; exact E3.out), F3, P3, B3⟩

   case rest =>
    obtain ⟨E5, F5, P5, B5⟩ := hcut
    clear E2 F2 P2 B2 p0 p1 p2
    obtain ⟨x, hx⟩ : ∃ x, mix[j]? = some x := ⟨_, List.getElem?_eq_getElem (by rw [HML.out]; omega)⟩
    obtain ⟨A1, c1, ee, _, _, hat2⟩ := HM.out.at_
    obtain ⟨bm, om, ng, An, nn, cn, Ad, nd, cd, he, hbm, e0, e1, e2, hfx⟩ := hat2 j x hx
    have hA : Am = some ⟨bm, om, none⟩ := by injection ee with e1; rw [e1]; exact he
    subst hA
    have HGX : Hid (mix.getD j 0 = x) := Lib.hid (by rw [List.getD_eq_getElem?_getD, hx]; rfl)
    have QX := Lib.hid (QM.out x (List.mem_of_getElem? hx))
    have FX := Lib.hid hfx
    have HE0 := Lib.hid e0
    have HE1 := Lib.hid e1
    have HE2 := Lib.hid e2
    obtain ⟨est, hest⟩ : ∃ l, estQ (totN O gs) v h j = l := ⟨_, rfl⟩
    have hel : est.length = v + 1 := by rw [← hest]; exact estQ_length _ _ _ _
    have QE : Hid (∀ q ∈ est, QB 128 q) := Lib.hid (by rw [← hest]; exact estQ_qb (fun a b => HT.out.mild O a b) hv8 h j)
    have HEL := Lib.hid hel
    have HES := Lib.hid hest
    rw [hest] at E5
    have hs5 : w.heap.size + 1 < wc.heap.size := F5.out.lt
    clear hx ee hat2 he e0 e1 e2 hfx hest hel HM
    go_wp2_with fail
    go_loopg [13, 63] (v + 1) (fun gq _ ii wz => ∃ (q : Nat), ii = .int .i64 q ∧ q + gq = v + 1 ∧ Hid (FArc wz (w.heap.size + 1) ((List.range q).map (ow (j + 1)) ++ ((List.range (v + 1)).map (ow j)).drop q)) ∧ Hid (FArc wz be est) ∧ Hid (Blk wz w.heap.size 175 [.slice (some ⟨b, 0, none⟩) (O + 1) (O + 1), .int .i64 ((v : Int) + 1), .slice (some ⟨bm, om, none⟩) (n + 1) cm]) ∧ Hid (Below w.heap.size w wz))
    case atStart => exact ⟨0, rfl, by omega, Lib.hid (by simpa using F5.out), E5, P5, B5⟩
    case round =>
     clear E5 F5 P5 B5
     obtain ⟨q, rfl, hq, F6, E6, P6, B6⟩ := hrel
     rcases Nat.eq_zero_or_pos gk with hh | hh
     ·subst hh
      obtain rfl : q = v + 1 := by omega
      have j9 : IntKind.i64.wrap ((j : Int) + 1) = (j : Int) + 1 := IntWalk.i64_in _ (by omega)
      go_wp2_with fail
      go_roundg gh
      case measure => omega
      case rel => exact ⟨j + 1, rfl, by omega, Lib.hid (by rw [Nat.add_sub_cancel, HES.out]; exact E6.out), Lib.hid (by
       have := F6.out
       rwa [List.drop_eq_nil_of_le (by simp), List.append_nil] at this), P6, B6⟩
     ·obtain ⟨gq, rfl⟩ : ∃ g, gk = g + 1 := ⟨gk - 1, by omega⟩
      obtain ⟨o, ho⟩ : ∃ y, ow j q = y := ⟨_, rfl⟩
      obtain ⟨pe, hpe⟩ : ∃ y, est.getD q 0 = y := ⟨_, rfl⟩
      have hlo : q < ((List.range (v + 1)).map (ow j)).length := by simp; omega
      have hgo := row_at2 (ow (j + 1)) ((List.range (v + 1)).map (ow j)) hlo
      rw [show ((List.range (v + 1)).map (ow j)).getD q 0 = o by rw [List.getD_eq_getElem?_getD, List.getElem?_map, List.getElem?_range (show q < v + 1 by omega), ← ho]; rfl] at hgo
      have hge : est[q]? = some pe := by rw [← hpe, List.getD_eq_getElem?_getD, List.getElem?_eq_getElem (by rw [HEL.out]; omega)]; rfl
      have QP := Lib.hid (QE.out pe (List.mem_of_getElem? hge))
      have QO : Hid (QB 966 o) := Lib.hid (by rw [← ho, OW.out]; exact (mixN_qb (fun a b => HT.out.mild O a b) hv8 QM.out h q j).mono (by omega))
      obtain ⟨X1, hX1⟩ : ∃ y : Rat, x * pe = y := ⟨_, rfl⟩
      have Q1 : Hid (QB 200 X1) := Lib.hid (by rw [← hX1]; exact (QX.out.mul QP.out).mono (by omega))
      obtain ⟨X2, hX2⟩ : ∃ y : Rat, o + X1 = y := ⟨_, rfl⟩
      have HV : Hid (X2 = ow (j + 1) q) := Lib.hid (by
       rw [← hX2, ← hX1, ← ho, ← hpe, OW.out, ← HGX.out, ← HES.out]
       rfl)
      have HX1 := Lib.hid hX1
      have HX2 := Lib.hid hX2
      have HGO := Lib.hid hgo
      have HGE := Lib.hid hge
      have HLO := Lib.hid hlo
      obtain ⟨Ao, mo, co, Ao', mo', co', g0, g1, g2, y0, y1, y2, tO⟩ := F6.out.get hgo
      obtain ⟨Ae, me, ce, Ae', me', ce', k0, k1, k2, _, _, _, tE⟩ := E6.out.get hge
      have TO := Lib.hid (tO.frac (k := 2000) (QO.out.mono (by omega)) (by omega))
      have TE := Lib.hid (tE.frac (k := 2000) (QP.out.mono (by omega)) (by omega))
      have TX := Lib.hid ((FX.out.below B6.out).mono (show 64 ≤ 2000 by omega))
      have c0 := (B6.out.cell (p := ⟨bm, om + j * 3, none⟩) hbm).trans HE0.out
      have c1 := (B6.out.cell (p := ⟨bm, om + j * 3 + 1, none⟩) hbm).trans HE1.out
      have c2 := (B6.out.cell (p := ⟨bm, om + j * 3 + 2, none⟩) hbm).trans HE2.out
      have p2 := P6.out.cell 2
      simp only [List.getElem?_cons_zero, List.getElem?_cons_succ] at p2
      clear ho hpe hlo hgo hge hX1 hX2 tO tE
      have q1 : (0 : Int) ≤ (q : Int) := by omega
      have q2 : (q : Int) < (v : Int) + 1 := by omega
      have q3 : (0 : Int) ≤ (j : Int) := by omega
      have q4 : (j : Int) < (n : Int) + 1 := by omega
      have l0 := F6.out.lt
      have l1 := E6.out.lt
      have l2 := P6.out.lt
      have l3 := B6.out.size
      have BB := Lib.hid (Below.refl wr.heap.size wr)
      have nb1 : bm ≠ w.heap.size + 1 := by omega
      have nb2 : be ≠ w.heap.size + 1 := by omega
      have nb3 : w.heap.size ≠ w.heap.size + 1 := by omega
      have HSET : Hid (∀ w', Below wr.heap.size wr w' → (fun w' => w'.cell? ⟨w.heap.size, 2, none⟩ = some (.slice (some ⟨bm, om, none⟩) (n + 1) cm) ∧ w'.cell? ⟨bm, om + j * 3, none⟩ = some (.bool ng) ∧ w'.cell? ⟨bm, om + j * 3 + 1, none⟩ = some (.slice An nn cn) ∧ w'.cell? ⟨bm, om + j * 3 + 2, none⟩ = some (.slice Ad nd cd) ∧ w'.cell? ⟨be, q * 3, none⟩ = some (.bool (isNeg pe)) ∧ w'.cell? ⟨be, q * 3 + 1, none⟩ = some (.slice Ae me ce) ∧ w'.cell? ⟨be, q * 3 + 2, none⟩ = some (.slice Ae' me' ce')) w') := Lib.hid (fun w' hb => ⟨(hb.cell (p := ⟨w.heap.size, 2, none⟩) l2).trans p2, (hb.cell (p := ⟨bm, om + j * 3, none⟩) (by show bm < wr.heap.size; omega)).trans c0, (hb.cell (p := ⟨bm, om + j * 3 + 1, none⟩) (by show bm < wr.heap.size; omega)).trans c1, (hb.cell (p := ⟨bm, om + j * 3 + 2, none⟩) (by show bm < wr.heap.size; omega)).trans c2, (hb.cell (p := ⟨be, q * 3, none⟩) l1).trans k0, (hb.cell (p := ⟨be, q * 3 + 1, none⟩) l1).trans k1, (hb.cell (p := ⟨be, q * 3 + 2, none⟩) l1).trans k2⟩)
      clear p2 c0 c1 c2 k0 k1 k2
      go_wp2_with fail
      refine wp_region_held_drew (S := fun w' => w'.cell? ⟨w.heap.size, 2, none⟩ = some (.slice (some ⟨bm, om, none⟩) (n + 1) cm) ∧ w'.cell? ⟨bm, om + j * 3, none⟩ = some (.bool ng) ∧ w'.cell? ⟨bm, om + j * 3 + 1, none⟩ = some (.slice An nn cn) ∧ w'.cell? ⟨bm, om + j * 3 + 2, none⟩ = some (.slice Ad nd cd) ∧ w'.cell? ⟨be, q * 3, none⟩ = some (.bool (isNeg pe)) ∧ w'.cell? ⟨be, q * 3 + 1, none⟩ = some (.slice Ae me ce) ∧ w'.cell? ⟨be, q * 3 + 2, none⟩ = some (.slice Ae' me' ce')) (by kernel_rfl) (HSET.out _ (below_drew_self wr)) (fun hHeld => ?_)
      refine wpAnyH_take (i := 0) (v := ?_) rfl (by kernel_rfl) (by kernel_rfl) (by kernel_rfl) (fun _ _ _ h => h) (Or.inl ⟨by rfl, ?_⟩) (by assumption) ?_
      rotate_left
      ·(intro w' hSw; (try dsimp only at hSw); go_simp <;> with_reducible rfl)
      simp only [List.getElem_toArray, List.getElem_cons_succ, List.getElem_cons_zero, Act.put, List.setIfInBounds_toArray, List.set_cons_zero, List.set_cons_succ]
      refine wpAnyH_take (i := 1) (v := ?_) rfl (by kernel_rfl) (by kernel_rfl) (by kernel_rfl) (fun _ _ _ h => h) (Or.inl ⟨by rfl, ?_⟩) (by assumption) ?_
      rotate_left
      ·(intro w' hSw; (try dsimp only at hSw); go_simp <;> with_reducible rfl)
      simp only [List.getElem_toArray, List.getElem_cons_succ, List.getElem_cons_zero, Act.put, List.setIfInBounds_toArray, List.set_cons_zero, List.set_cons_succ]
      refine wpAnyH_take (i := 2) (v := ?_) rfl (by kernel_rfl) (by kernel_rfl) (by kernel_rfl) (fun _ _ _ h => h) (Or.inl ⟨by rfl, ?_⟩) (by assumption) ?_
      rotate_left
      ·(intro w' hSw; (try dsimp only at hSw); go_simp <;> with_reducible rfl)
      simp only [List.getElem_toArray, List.getElem_cons_succ, List.getElem_cons_zero, Act.put, List.setIfInBounds_toArray, List.set_cons_zero, List.set_cons_succ]
      refine wpAnyH_take (i := 3) (v := ?_) rfl (by kernel_rfl) (by kernel_rfl) (by kernel_rfl) (fun _ _ _ h => h) (Or.inl ⟨by rfl, ?_⟩) (by assumption) ?_
      rotate_left
      ·(intro w' hSw; (try dsimp only at hSw); go_simp <;> with_reducible rfl)
      simp only [List.getElem_toArray, List.getElem_cons_succ, List.getElem_cons_zero, Act.put, List.setIfInBounds_toArray, List.set_cons_zero, List.set_cons_succ]
      refine wpAnyH_take (i := 4) (v := ?_) rfl (by kernel_rfl) (by kernel_rfl) (by kernel_rfl) (fun _ _ _ h => h) (Or.inl ⟨by rfl, ?_⟩) (by assumption) ?_
      rotate_left
      ·(intro w' hSw; (try dsimp only at hSw); go_simp <;> with_reducible rfl)
      simp only [List.getElem_toArray, List.getElem_cons_succ, List.getElem_cons_zero, Act.put, List.setIfInBounds_toArray, List.set_cons_zero, List.set_cons_succ]
      refine wpAnyH_take (i := 6) (v := ?_) rfl (by kernel_rfl) (by kernel_rfl) (by kernel_rfl) (fun _ _ _ h => h) (Or.inl ⟨by rfl, ?_⟩) (by assumption) ?_
      rotate_left
      ·(intro w' hSw; (try dsimp only at hSw); go_simp <;> with_reducible rfl)
      simp only [List.getElem_toArray, List.getElem_cons_succ, List.getElem_cons_zero, Act.put, List.setIfInBounds_toArray, List.set_cons_zero, List.set_cons_succ]
      refine wpAnyH_take (i := 7) (v := ?_) rfl (by kernel_rfl) (by kernel_rfl) (by kernel_rfl) (fun _ _ _ h => h) (Or.inl ⟨by rfl, ?_⟩) (by assumption) ?_
      rotate_left
      ·(intro w' hSw; (try dsimp only at hSw); go_simp <;> with_reducible rfl)
      simp only [List.getElem_toArray, List.getElem_cons_succ, List.getElem_cons_zero, Act.put, List.setIfInBounds_toArray, List.set_cons_zero, List.set_cons_succ]
      refine wpAnyH_take (i := 8) (v := ?_) rfl (by kernel_rfl) (by kernel_rfl) (by kernel_rfl) (fun _ _ _ h => h) (Or.inl ⟨by rfl, ?_⟩) (by assumption) ?_
      rotate_left
      ·(intro w' hSw; (try dsimp only at hSw); go_simp <;> with_reducible rfl)
      simp only [List.getElem_toArray, List.getElem_cons_succ, List.getElem_cons_zero, Act.put, List.setIfInBounds_toArray, List.set_cons_zero, List.set_cons_succ]
      refine wpAnyH_take (i := 9) (v := ?_) rfl (by kernel_rfl) (by kernel_rfl) (by kernel_rfl) (fun _ _ _ h => h) (Or.inl ⟨by rfl, ?_⟩) (by assumption) ?_
      rotate_left
      ·(intro w' hSw; (try dsimp only at hSw); go_simp <;> with_reducible rfl)
      simp only [List.getElem_toArray, List.getElem_cons_succ, List.getElem_cons_zero, Act.put, List.setIfInBounds_toArray, List.set_cons_zero, List.set_cons_succ]
      refine wpAnyH_take (i := 10) (v := ?_) rfl (by kernel_rfl) (by kernel_rfl) (by kernel_rfl) (fun _ _ _ h => h) (Or.inl ⟨by rfl, ?_⟩) (by assumption) ?_
      rotate_left
      ·(intro w' hSw; (try dsimp only at hSw); go_simp <;> with_reducible rfl)
      simp only [List.getElem_toArray, List.getElem_cons_succ, List.getElem_cons_zero, Act.put, List.setIfInBounds_toArray, List.set_cons_zero, List.set_cons_succ]
      refine wpAnyH_take (i := 11) (v := ?_) rfl (by kernel_rfl) (by kernel_rfl) (by kernel_rfl) (fun _ _ _ h => h) (Or.inl ⟨by rfl, ?_⟩) (by assumption) ?_
      rotate_left
      ·(intro w' hSw; (try dsimp only at hSw); go_simp <;> with_reducible rfl)
      simp only [List.getElem_toArray, List.getElem_cons_succ, List.getElem_cons_zero, Act.put, List.setIfInBounds_toArray, List.set_cons_zero, List.set_cons_succ]
      refine wpAnyH_take (i := 12) (v := ?_) rfl (by kernel_rfl) (by kernel_rfl) (by kernel_rfl) (fun _ _ _ h => h) (Or.inl ⟨by rfl, ?_⟩) (by assumption) ?_
      rotate_left
      ·(intro w' hSw; (try dsimp only at hSw); go_simp <;> with_reducible rfl)
      simp only [List.getElem_toArray, List.getElem_cons_succ, List.getElem_cons_zero, Act.put, List.setIfInBounds_toArray, List.set_cons_zero, List.set_cons_succ]
      refine wpAnyH_take (i := 13) (v := ?_) rfl (by kernel_rfl) (by kernel_rfl) (by kernel_rfl) (fun _ _ _ h => h) (Or.inl ⟨by rfl, ?_⟩) (by assumption) ?_
      rotate_left
      ·(intro w' hSw; (try dsimp only at hSw); go_simp <;> with_reducible rfl)
      simp only [List.getElem_toArray, List.getElem_cons_succ, List.getElem_cons_zero, Act.put, List.setIfInBounds_toArray, List.set_cons_zero, List.set_cons_succ]
      refine wpAnyH_take (i := 14) (v := ?_) rfl (by kernel_rfl) (by kernel_rfl) (by kernel_rfl) (fun _ _ _ h => h) (Or.inl ⟨by rfl, ?_⟩) (by assumption) ?_
      rotate_left
      ·(intro w' hSw; (try dsimp only at hSw); go_simp <;> with_reducible rfl)
      simp only [List.getElem_toArray, List.getElem_cons_succ, List.getElem_cons_zero, Act.put, List.setIfInBounds_toArray, List.set_cons_zero, List.set_cons_succ]
      refine wpAnyH_ready (rs := [5, 15]) (by kernel_rfl) (by simp) ?_
      refine AllReadyH.cons rfl (fun K hK => ?_) (AllReadyH.cons rfl (fun K hK => ?_) AllReadyH.nil)
      ·go_simp
       refine hK.out _ _ hHeld (fun _ => ?_)
       clear hK K
       try simp only [List.getElem_toArray, List.getElem_cons_succ, List.getElem_cons_zero, Act.put, List.setIfInBounds_toArray, List.set_cons_zero, List.set_cons_succ]
       refine wpAnyH_ready (rs := [15]) (by kernel_rfl) (by simp) ?_
       refine AllReadyH.cons rfl (fun K hK => ?_) AllReadyH.nil
       go_simp
       refine (mulF _ _ _ x pe 2000 (TX.out.below (below_drew_self _)) (TE.out.below (below_drew_self _)) (by omega) (by omega)).mono ?_
       rintro e wl ⟨u, rfl, t, hb'⟩
       rw [HX1.out] at t
       have hb := below_of_drew hb'
       have BB := Lib.hid hb
       have T1 := Lib.hid (t.at_.frac (k := 2000) (Q1.out.mono (by omega)) (by omega))
       obtain ⟨Az, mz, cz, Az', mz', cz', rfl⟩ := t.at_.open_
       clear hHeld t hb'
       have hS := HSET.out wl hb
       try go_simp
       refine hK.out _ _ hS (fun hHeld => ?_)
       clear hK K hS
       try simp only [List.getElem_toArray, List.getElem_cons_succ, List.getElem_cons_zero, Act.put, List.setIfInBounds_toArray, List.set_cons_zero, List.set_cons_succ]
       refine wpAnyH_ready (rs := [16]) (by kernel_rfl) (by simp) ?_
       refine AllReadyH.cons rfl (fun K hK => ?_) AllReadyH.nil
       go_simp
       clear hHeld
       refine (addF _ _ _ o X1 2000 (TO.out.below BB.out) T1.out (by omega) (by omega)).mono ?_
       rintro e wl2 ⟨u, rfl, t, hb2⟩
       rw [HX2.out, HV.out] at t
       have BB2 := Lib.hid (BB.out.trans (hb2.mono BB.out.size))
       obtain ⟨As, ms, cs, As', ms', cs', rfl⟩ := t.at_.open_
       have T2 := Lib.hid t.at_
       clear t hb2
       have hS := HSET.out wl2 BB2.out
       try go_simp
       refine hK.out _ _ hS (fun hHeld => ?_)
       clear hK K hS
       try simp only [List.getElem_toArray, List.getElem_cons_succ, List.getElem_cons_zero, Act.put, List.setIfInBounds_toArray, List.set_cons_zero, List.set_cons_succ]
       refine wpAnyH_take (i := 17) (v := ?_) rfl (by kernel_rfl) (by kernel_rfl) (by kernel_rfl) (fun _ _ _ h => h) (Or.inl ⟨by rfl, ?_⟩) (by assumption) ?_
       rotate_left
       ·(intro w' hSw; (try dsimp only at hSw); go_simp <;> with_reducible rfl)
       simp only [List.getElem_toArray, List.getElem_cons_succ, List.getElem_cons_zero, Act.put, List.setIfInBounds_toArray, List.set_cons_zero, List.set_cons_succ]
       obtain ⟨_, _, _, _, _, _, z0, z1, z2, x0, x1, x2, _⟩ := (F6.out.below BB2.out).get HGO.out
       refine wpAnyH_ready (rs := [18]) (by kernel_rfl) (by simp) ?_
       refine AllReadyH.cons rfl (fun K hK => ?_) AllReadyH.nil
       go_simp
       refine hK.out _ _ ⟨cell3 hHeld.1 nb3 _ _ _ _ _ _, cell3 hHeld.2.1 nb1 _ _ _ _ _ _, cell3 hHeld.2.2.1 nb1 _ _ _ _ _ _, cell3 hHeld.2.2.2.1 nb1 _ _ _ _ _ _, cell3 hHeld.2.2.2.2.1 nb2 _ _ _ _ _ _, cell3 hHeld.2.2.2.2.2.1 nb2 _ _ _ _ _ _, cell3 hHeld.2.2.2.2.2.2 nb2 _ _ _ _ _ _⟩ (fun _ => ?_)
       clear hK K hHeld
       try simp only [List.getElem_toArray, List.getElem_cons_succ, List.getElem_cons_zero, Act.put, List.setIfInBounds_toArray, List.set_cons_zero, List.set_cons_succ]
       refine wpAnyH_done (by kernel_rfl) ?_ _
       go_wp2_with fail
       go_roundg gq
       case measure => omega
       case rel =>
        have F8 := F6.out.below BB2.out
        exact ⟨q + 1, rfl, by omega, Lib.hid (by
         have := F8.put (i := q) (by have := HLO.out; simp; omega) rfl T2.out
         rwa [row_step2 (ow (j + 1)) _ HLO.out rfl] at this), Lib.hid ((E6.out.below BB2.out).far F8 nb2 _ _ _ _ _ _ _ _ _ _), Lib.hid ((P6.out.below' BB2.out).far3 nb3 _ _ _ _ _ _), Lib.hid (below3 (B6.out.trans (BB2.out.mono B6.out.size)) (by omega) _ _ _ _ _ _)⟩
      ·go_simp
       refine (mulF _ _ _ x pe 2000 (TX.out.below (below_drew_self _)) (TE.out.below (below_drew_self _)) (by omega) (by omega)).mono ?_
       rintro e wl ⟨u, rfl, t, hb'⟩
       rw [HX1.out] at t
       have hb := below_of_drew hb'
       have BB := Lib.hid hb
       have T1 := Lib.hid (t.at_.frac (k := 2000) (Q1.out.mono (by omega)) (by omega))
       obtain ⟨Az, mz, cz, Az', mz', cz', rfl⟩ := t.at_.open_
       clear hHeld t hb'
       have hS := HSET.out wl hb
       try go_simp
       refine hK.out _ _ hS (fun hHeld => ?_)
       clear hK K hS
       try simp only [List.getElem_toArray, List.getElem_cons_succ, List.getElem_cons_zero, Act.put, List.setIfInBounds_toArray, List.set_cons_zero, List.set_cons_succ]
       have o0 := (BB.out.cell (p := ⟨w.heap.size + 1, q * 3, none⟩) l0).trans g0
       have o1 := (BB.out.cell (p := ⟨w.heap.size + 1, q * 3 + 1, none⟩) l0).trans g1
       have o2 := (BB.out.cell (p := ⟨w.heap.size + 1, q * 3 + 2, none⟩) l0).trans g2
       refine wpAnyH_ready (rs := [5]) (by kernel_rfl) (by simp) ?_
       refine AllReadyH.cons rfl (fun K hK => ?_) AllReadyH.nil
       go_simp
       refine hK.out _ _ hHeld (fun _ => ?_)
       clear hK K o0 o1 o2
       try simp only [List.getElem_toArray, List.getElem_cons_succ, List.getElem_cons_zero, Act.put, List.setIfInBounds_toArray, List.set_cons_zero, List.set_cons_succ]
       refine wpAnyH_ready (rs := [16]) (by kernel_rfl) (by simp) ?_
       refine AllReadyH.cons rfl (fun K hK => ?_) AllReadyH.nil
       go_simp
       clear hHeld
       refine (addF _ _ _ o X1 2000 (TO.out.below BB.out) T1.out (by omega) (by omega)).mono ?_
       rintro e wl2 ⟨u, rfl, t, hb2⟩
       rw [HX2.out, HV.out] at t
       have BB2 := Lib.hid (BB.out.trans (hb2.mono BB.out.size))
       obtain ⟨As, ms, cs, As', ms', cs', rfl⟩ := t.at_.open_
       have T2 := Lib.hid t.at_
       clear t hb2
       have hS := HSET.out wl2 BB2.out
       try go_simp
       refine hK.out _ _ hS (fun hHeld => ?_)
       clear hK K hS
       try simp only [List.getElem_toArray, List.getElem_cons_succ, List.getElem_cons_zero, Act.put, List.setIfInBounds_toArray, List.set_cons_zero, List.set_cons_succ]
       refine wpAnyH_take (i := 17) (v := ?_) rfl (by kernel_rfl) (by kernel_rfl) (by kernel_rfl) (fun _ _ _ h => h) (Or.inl ⟨by rfl, ?_⟩) (by assumption) ?_
       rotate_left
       ·(intro w' hSw; (try dsimp only at hSw); go_simp <;> with_reducible rfl)
       simp only [List.getElem_toArray, List.getElem_cons_succ, List.getElem_cons_zero, Act.put, List.setIfInBounds_toArray, List.set_cons_zero, List.set_cons_succ]
       obtain ⟨_, _, _, _, _, _, z0, z1, z2, x0, x1, x2, _⟩ := (F6.out.below BB2.out).get HGO.out
       refine wpAnyH_ready (rs := [18]) (by kernel_rfl) (by simp) ?_
       refine AllReadyH.cons rfl (fun K hK => ?_) AllReadyH.nil
       go_simp
       refine hK.out _ _ ⟨cell3 hHeld.1 nb3 _ _ _ _ _ _, cell3 hHeld.2.1 nb1 _ _ _ _ _ _, cell3 hHeld.2.2.1 nb1 _ _ _ _ _ _, cell3 hHeld.2.2.2.1 nb1 _ _ _ _ _ _, cell3 hHeld.2.2.2.2.1 nb2 _ _ _ _ _ _, cell3 hHeld.2.2.2.2.2.1 nb2 _ _ _ _ _ _, cell3 hHeld.2.2.2.2.2.2 nb2 _ _ _ _ _ _⟩ (fun _ => ?_)
       clear hK K hHeld
       try simp only [List.getElem_toArray, List.getElem_cons_succ, List.getElem_cons_zero, Act.put, List.setIfInBounds_toArray, List.set_cons_zero, List.set_cons_succ]
       refine wpAnyH_done (by kernel_rfl) ?_ _
       go_wp2_with fail
       go_roundg gq
       case measure => omega
       case rel =>
        have F8 := F6.out.below BB2.out
        exact ⟨q + 1, rfl, by omega, Lib.hid (by
         have := F8.put (i := q) (by have := HLO.out; simp; omega) rfl T2.out
         rwa [row_step2 (ow (j + 1)) _ HLO.out rfl] at this), Lib.hid ((E6.out.below BB2.out).far F8 nb2 _ _ _ _ _ _ _ _ _ _), Lib.hid ((P6.out.below' BB2.out).far3 nb3 _ _ _ _ _ _), Lib.hid (below3 (B6.out.trans (BB2.out.mono B6.out.size)) (by omega) _ _ _ _ _ _)⟩
end Go.Proofs.YtjebfdfkjlkifaaGreat
