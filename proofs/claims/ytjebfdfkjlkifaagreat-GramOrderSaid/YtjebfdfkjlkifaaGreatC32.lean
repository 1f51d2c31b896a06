/- Lemmas on the way: Di1. -/
import Derived.Test.YtjebfdfkjlkifaaGreatC31
set_option linter.unusedSimpArgs false
set_option linter.unusedVariables false
set_option linter.unusedSectionVars false
set_option linter.unnecessarySimpa false
namespace Go.Proofs.YtjebfdfkjlkifaaGreat
open Go.RowKit
theorem makeI (w : World) (z d : Int) (h0 : 0 ≤ z) (h1 : z < 9223372036854775808) (d0 : 0 < d) (d1 : d < 9223372036854775808) :
  Calls Tryz.prog 220 #[.int .i64 z, .int .i64 d] w fun e w' => ∃ u, e = .returned (.tuple #[u, .int .i64 0]) ∧ CanNew w.heap.size w' u ((z : Rat) / (d : Rat)) ∧ Below w.heap.size w w' := by
 obtain ⟨n, rfl⟩ := Int.eq_ofNat_of_zero_le h0
 obtain ⟨k, rfl⟩ := Int.eq_ofNat_of_zero_le (Int.le_of_lt d0)
 have := makeF w n k (by omega) (by omega) (by omega)
 rwa [show ((n : Int) : Rat) = (n : Rat) from Rat.intCast_natCast n, show ((k : Int) : Rat) = (k : Rat) from Rat.intCast_natCast k]

set_option maxRecDepth 1000000 in
set_option maxHeartbeats 4000000 in
theorem disc0 (w : World) (O b v : Nat) (hv : Value) (T : Nat → List Int → Int → Int) (h : List Int) (hv8 : v ≤ 8) (s : Bool) (A A' : Option Addr) (m c m' c' : Nat) (a : Rat) :
  Calls Tryz.prog 222 #[.agg #[.slice (some ⟨b, 0, none⟩) (O + 1) (O + 1), .int .i64 ((v + 1 : Nat) : Int), .bool s, .slice A m c, .slice A' m' c'], .int .i64 0, hv] w (RowNew w v (discQ T v a 0 h)) := by
 go_enter Tryz.func222, Tryz.ntmps222
 go_wp2_with fail
 obtain ⟨W, hW, P0, PB, Phs⟩ := box1 w 177 [.slice (some ⟨b, 0, none⟩) (O + 1) (O + 1), .int .i64 ((v : Int) + 1), .bool s, .slice A m c, .slice A' m' c']
 rw [← hW]
 clear hW
 obtain ⟨p0, p1, p2, p3, p4⟩ := five P0.out
 go_wp2_with fail
 refine (flatG W (.slice (some ⟨b, 0, none⟩) (O + 1) (O + 1)) (v + 1) (by omega) (by omega) rfl _ _ _ rfl).mono ?_
 rintro e w1 ⟨b1, rfl, hb, hf, hb1⟩
 have HF := Lib.hid hf.arc
 have B1 := Lib.hid (PB.out.trans (hb1.mono (by omega)))
 clear p0 p1 p2 p3 p4 hf hb1
 go_wp2_with fail
 go_ret
 exact ⟨_, rfl, by omega, HF.out, B1.out⟩

set_option maxRecDepth 1000000 in
set_option maxHeartbeats 16000000 in
theorem discG (O b v : Nat) (gs : List Gr) (hO : O ≤ 4) (hT : SmallT gs v) (s : Bool) (A A' : Option Addr) (m c m' c' : Nat) (a : Rat) (ha0 : 0 < a) (ha1 : a < 1) (n : Nat) : ∀ (w : World) (hv : Value) (h : List Int), n ≤ O → LvsAt w b O 0 gs → IntsAt w hv h → h.length = n - 1 → NiceK h → FracAt 64 w (.agg #[.bool s, .slice A m c, .slice A' m' c']) a →
  Calls Tryz.prog 222 #[.agg #[.slice (some ⟨b, 0, none⟩) (O + 1) (O + 1), .int .i64 ((v + 1 : Nat) : Int), .bool s, .slice A m c, .slice A' m' c'], .int .i64 n, hv] w (RowNew w v (discQ (totN O gs) v a n h)) := by
 have hv8 := hT.2.2.2
 have A0 := Lib.hid ha0
 have A1 := Lib.hid ha1
 clear ha0 ha1
 induction n with
 | zero => exact fun w hv h _ _ _ _ _ _ => disc0 w O b v hv _ h hv8 s A A' m c m' c' a
 | succ n ih =>
  intro w hv h hn hL hI hl hk ha
  obtain ⟨Ah, ch, rfl, hlc, hcm, _⟩ := hI.open_
  have hln : h.length = n := by omega
  rw [hln] at hI hlc ⊢
  have HI := Lib.hid hI
  have HL := Lib.hid hL
  have HLN := Lib.hid hln
  have HN := Lib.hid hn
  have HK := Lib.hid hk
  have IH := Lib.hid ih
  have HT := Lib.hid hT
  have HA := Lib.hid ha
  have QA := Lib.hid (ha.qb (by omega))
  have M := Lib.hid (hT.mild O (n + 1) h)
  have b0 : (((n : Int) + 1) == 0) = false := by simpa using (show ¬ (n : Int) + 1 = 0 by omega)
  clear hI hL hln hn hk ih hT hl ha
  go_enter Tryz.func222, Tryz.ntmps222
  go_wp2_with fail
  obtain ⟨W, hW, P0, PB, Phs⟩ := box1 w 177 [.slice (some ⟨b, 0, none⟩) (O + 1) (O + 1), .int .i64 ((v : Int) + 1), .bool s, .slice A m c, .slice A' m' c']
  rw [← hW]
  clear hW
  obtain ⟨p0, p1, p2, p3, p4⟩ := five P0.out
  go_wp2_with fail
  refine (seenG W O (n + 1) b _ _ gs h (HL.out.below PB.out) ⟨by omega, HN.out⟩ hO (HI.out.below PB.out) (by rw [HLN.out]; omega) HK.out).mono ?_
  rintro e W3 ⟨mv, L, rfl, hsn, hcnt, hbd, hb3⟩
  have SN := Lib.hid hsn
  have CN : Hid (CntI L (totN O gs (n + 1) h)) := Lib.hid hcnt
  have P3 := Lib.hid (P0.out.below' hb3)
  have BL3 := Lib.hid (PB.out.trans (hb3.mono PB.out.size))
  have s3 : w.heap.size + 1 ≤ W3.heap.size := Nat.le_trans Phs hb3.size
  have HA3 := Lib.hid ((HA.out.below BL3.out).mono (show 64 ≤ 5000000 by omega))
  obtain ⟨N, hN⟩ : ∃ N : Int, sumI L = N := ⟨_, rfl⟩
  rw [hN]
  have HS := Lib.hid ((sumI_eq CN.out (HT.out.keys CN.out)).symm.trans hN)
  have HKS := Lib.hid (length_eq CN.out (HT.out.keys CN.out))
  have hbs := sumC_bd M.out v
  rw [HS.out] at hbs
  have hN0 : 0 ≤ N := hbs.1
  have hN1 : N < 900000000000000000 := by omega
  have hkl := kindsC_le (totN O gs (n + 1) h) v
  obtain ⟨kk, hkk⟩ : ∃ k : Int, (L.length : Int) = k := ⟨_, rfl⟩
  have HKK : Hid (((kindsC (totN O gs (n + 1) h) v : Nat) : Int) = kk) := Lib.hid (by rw [← HKS.out]; exact hkk)
  have hk1 : 0 ≤ kk := by omega
  have hk2 : kk ≤ (v : Int) + 1 := by rw [← HKK.out]; omega
  have LN : Hid (∀ w', SeenAt w' mv L → (Builtin.len_ #[206] 3 #[mv]).run Tryz.prog w' = .ok (.int .i64 kk) w') := Lib.hid (fun w' hw' => by rw [← hkk]; exact hw'.len _)
  have hlen := LN.out W3 SN.out
  clear hsn hcnt hb3 hN hbd hbs p0 p1 p2 p3 p4 P0 PB hkk hkl
  obtain ⟨p0, p1, p2, p3, p4⟩ := five P3.out
  by_cases hall : kk = (v : Int) + 1
  ·have b1 : (kk == (v : Int) + 1) = true := by simpa using hall
   have HALL : Hid (kindsC (totN O gs (n + 1) h) v = v + 1) := Lib.hid (by have := HKK.out; omega)
   have HNP : Hid (0 < sumC (totN O gs (n + 1) h) v) := Lib.hid ((kinds_pos M.out v).2 (by rw [HALL.out]; omega))
   have hNp : 0 < N := by rw [← HS.out]; exact HNP.out
   clear hall
   go_wp2_with (at_make; refine wpList_make_fracs rfl _ _ rfl ((v : Int) + 1) (v + 1) rfl rfl (by omega) (by omega) ?_)
   intro w4 hf4 hb4
   have F4 := Lib.hid hf4.arc
   have SN4 := Lib.hid (SN.out.below hb4)
   have BL4 := Lib.hid (BL3.out.trans (hb4.mono BL3.out.size))
   obtain ⟨fw, hfw⟩ : ∃ f : Nat → Rat, f = fun (x : Nat) => ((totN O gs (n + 1) h (x : Int) : Int) : Rat) / (N : Rat) := ⟨_, rfl⟩
   have FW := Lib.hid hfw
   clear hlen hf4 hb4 p0 p1 p2 p3 p4 hfw SN BL3
   go_wp2_with fail
   go_loopg [10, 43] (v + 1) (fun gh _ i wz => ∃ (j : Nat), i = .int .i64 j ∧ j + gh = v + 1 ∧ Hid (FArc wz W3.heap.size ((List.range j).map fw ++ List.replicate gh 0)) ∧ Hid (SeenAt wz mv L) ∧ Hid (Below w.heap.size w wz))
   case atStart => exact ⟨0, rfl, by omega, Lib.hid (by simpa using F4.out), SN4, BL4⟩
   case round =>
    clear F4 SN4 BL4
    obtain ⟨j, rfl, hj, F4, SN4, BL4⟩ := hrel
    rcases Nat.eq_zero_or_pos gk with hh | hh
    ·subst hh
     obtain rfl : j = v + 1 := by omega
     go_wp2_with fail
     go_ret
     exact ⟨_, rfl, by omega, by
      have h1 := F4.out
      rw [List.replicate_zero, List.append_nil, FW.out] at h1
      unfold discQ
      rw [if_pos HALL.out]
      unfold shareQ
      rw [HS.out]
      exact h1, BL4.out⟩
    ·obtain ⟨gh, rfl⟩ : ∃ g, gk = g + 1 := ⟨gk - 1, by omega⟩
     obtain ⟨cj, hcj⟩ : ∃ c, totN O gs (n + 1) h (j : Int) = c := ⟨_, rfl⟩
     have hm := M.out (j : Int)
     rw [hcj] at hm
     have hlk := SN4.out.look CN.out (x := (j : Int)) (by omega)
     rw [hcj] at hlk
     have HV : Hid ((cj : Rat) / (N : Rat) = fw j) := Lib.hid (by rw [FW.out]; simp only [hcj])
     have j1 : (0 : Int) ≤ (j : Int) := by omega
     have j2 : (j : Int) < (v : Int) + 1 := by omega
     clear hcj
     go_wp2_with fail
     refine (makeI wr cj N hm.1 (by omega) hNp (by omega)).mono ?_
     rintro e w5 ⟨u, rfl, t5, hb5⟩
     rw [HV.out] at t5
     obtain ⟨Ar, mr, cr, Ar', mr', cr', rfl⟩ := t5.at_.open_
     have T5 := Lib.hid t5.at_
     have F5 := Lib.hid (F4.out.below hb5)
     have SN5 := Lib.hid (SN4.out.below hb5)
     have BL5 := Lib.hid (BL4.out.trans (hb5.mono BL4.out.size))
     have hlt : W3.heap.size < wr.heap.size := F4.out.lt
     obtain ⟨_, _, _, _, _, _, f0, f1, f2, y0, y1, y2, _⟩ := F5.out.get (row_at fw j gh)
     clear t5 hb5 hlk
     go_wp2_with fail
     go_roundg gh
     case measure => omega
     case rel => exact ⟨j + 1, rfl, by omega, Lib.hid (by
      have := F5.out.put (i := j) (by simp) rfl T5.out
      rwa [row_step fw j gh rfl] at this), Lib.hid (SN5.out.far3 F5.out _ _ _ _ _ _), Lib.hid (below3 BL5.out (by omega) _ _ _ _ _ _)⟩
  ·have b1 : (kk == (v : Int) + 1) = false := by simpa using hall
   have HALL : Hid (¬ kindsC (totN O gs (n + 1) h) v = v + 1) := Lib.hid (by have := HKK.out; omega)
   clear hall
   go_upto_region 12 with fail
   clear hlen
   go_cut [11] (fun x wc => ∃ b1, x = .slice (some ⟨b1, 0, none⟩) (v + 1) (v + 1) ∧ Hid (W3.heap.size ≤ b1) ∧ Hid (FArc wc b1 (discQ (totN O gs) v a n (h.drop 1))) ∧ Hid (Below W3.heap.size W3 wc))
   case first =>
    have hS := five P3.out
    have i1 : IntKind.i64.wrap ((n : Int) + 1 - 1) = (n : Int) := by rw [show (n : Int) + 1 - 1 = n by omega]; exact IntWalk.i64_in _ (by have := HN.out; omega)
    have i2 : IntKind.i64.wrap (n : Int) = (n : Int) := IntWalk.i64_in _ (by have := HN.out; omega)
    have IA := Lib.hid (HI.out.below BL3.out)
    have LA := Lib.hid (HL.out.below BL3.out)
    have HAW := Lib.hid (HA.out.below BL3.out)
    have NK : Hid (NiceK (h.drop 1)) := Lib.hid ⟨by have := HK.out.1; rw [List.length_drop]; omega, fun x hx => HK.out.2 x (List.mem_of_mem_drop hx)⟩
    have DL : Hid ((h.drop 1).length = n - 1) := Lib.hid (by rw [List.length_drop, HLN.out])
    rcases Nat.eq_zero_or_pos n with h0 | h0
    ·subst h0
     have TL : ∀ A c, c ≤ 9223372036854775807 → Hid (IntsAt W3 (.slice A 0 c) (h.drop 1)) := fun A c hc => Lib.hid (by
      unfold IntsAt
      rw [DL.out, List.eq_nil_of_length_eq_zero DL.out]
      exact Sl.none' _ _ _ _ _ _ rfl rfl (by unfold maxLen; omega))
     have m0 : min (1 : Int) 0 = 0 := by decide
     rcases Nat.eq_zero_or_pos ch with hc0 | hc0
     ·subst hc0
      go_region_held3 (fun w' => w'.cell? ⟨w.heap.size, 0, none⟩ = some (.slice (some ⟨b, 0, none⟩) (O + 1) (O + 1)) ∧ w'.cell? ⟨w.heap.size, 1, none⟩ = some (.int .i64 ((v : Int) + 1)) ∧ w'.cell? ⟨w.heap.size, 2, none⟩ = some (.bool s) ∧ w'.cell? ⟨w.heap.size, 3, none⟩ = some (.slice A m c) ∧ w'.cell? ⟨w.heap.size, 4, none⟩ = some (.slice A' m' c'))
       (first | assumption | go_keep)
       (first
        | (go_at_call 222; refine (IH.out _ _ (h.drop 1) (by have := HN.out; omega) (LA.out.below (below_drew_self _)) ?_ DL.out NK.out (HAW.out.below (below_drew_self _))).mono ?_; (exact (TL _ _ (by omega)).out.drew); rintro e wc ⟨b1, rfl, h1, h2, h3'⟩; have h3 := below_of_drew h3'; have R1 : Hid (W3.heap.size ≤ b1) := Lib.hid h1; have R2 := Lib.hid h2; have R3 := Lib.hid h3; have hS := five (P3.out.below' R3.out); clear h1 h2 h3 h3'))
      all_goals
       go_wp2_with fail
       go_meet
       exact ⟨b1, rfl, R1, R2, R3⟩
     ·have hc1 : (ch == 0) = false := by simpa using (show ¬ ch = 0 by omega)
      go_region_held3 (fun w' => w'.cell? ⟨w.heap.size, 0, none⟩ = some (.slice (some ⟨b, 0, none⟩) (O + 1) (O + 1)) ∧ w'.cell? ⟨w.heap.size, 1, none⟩ = some (.int .i64 ((v : Int) + 1)) ∧ w'.cell? ⟨w.heap.size, 2, none⟩ = some (.bool s) ∧ w'.cell? ⟨w.heap.size, 3, none⟩ = some (.slice A m c) ∧ w'.cell? ⟨w.heap.size, 4, none⟩ = some (.slice A' m' c'))
       (first | assumption | go_keep)
       (first
        | (go_at_call 222; refine (IH.out _ _ (h.drop 1) (by have := HN.out; omega) (LA.out.below (below_drew_self _)) ?_ DL.out NK.out (HAW.out.below (below_drew_self _))).mono ?_; (exact (TL _ _ (by omega)).out.drew); rintro e wc ⟨b1, rfl, h1, h2, h3'⟩; have h3 := below_of_drew h3'; have R1 : Hid (W3.heap.size ≤ b1) := Lib.hid h1; have R2 := Lib.hid h2; have R3 := Lib.hid h3; have hS := five (P3.out.below' R3.out); clear h1 h2 h3 h3'))
      all_goals
       go_wp2_with fail
       go_meet
       exact ⟨b1, rfl, R1, R2, R3⟩
    ·obtain ⟨ba, oa, rfl, tl⟩ := IA.out.tail1 HLN.out h0
     have m0 : min (1 : Int) (n : Int) = 1 := by omega
     have n1 : (1 : Int) ≤ (n : Int) := by omega
     have n2 : (n : Int) ≤ (ch : Int) := by omega
     rcases Nat.lt_or_ge 1 ch with hc0 | hc0
     ·have hc1 : ¬ ch = 1 := by omega
      rw [if_neg hc1] at tl
      have TL := Lib.hid tl
      clear tl
      go_region_held3 (fun w' => w'.cell? ⟨w.heap.size, 0, none⟩ = some (.slice (some ⟨b, 0, none⟩) (O + 1) (O + 1)) ∧ w'.cell? ⟨w.heap.size, 1, none⟩ = some (.int .i64 ((v : Int) + 1)) ∧ w'.cell? ⟨w.heap.size, 2, none⟩ = some (.bool s) ∧ w'.cell? ⟨w.heap.size, 3, none⟩ = some (.slice A m c) ∧ w'.cell? ⟨w.heap.size, 4, none⟩ = some (.slice A' m' c'))
       (first | assumption | go_keep)
       (first
        | (go_at_call 222; refine (IH.out _ _ (h.drop 1) (by have := HN.out; omega) (LA.out.below (below_drew_self _)) ?_ DL.out NK.out (HAW.out.below (below_drew_self _))).mono ?_; (exact TL.out.drew); rintro e wc ⟨b1, rfl, h1, h2, h3'⟩; have h3 := below_of_drew h3'; have R1 : Hid (W3.heap.size ≤ b1) := Lib.hid h1; have R2 := Lib.hid h2; have R3 := Lib.hid h3; have hS := five (P3.out.below' R3.out); clear h1 h2 h3 h3'))
      all_goals
       go_wp2_with fail
       go_meet
       exact ⟨b1, rfl, R1, R2, R3⟩
     ·obtain rfl : ch = 1 := by omega
      obtain rfl : n = 1 := by omega
      rw [if_pos rfl] at tl
      have TL := Lib.hid tl
      clear tl
      go_region_held3 (fun w' => w'.cell? ⟨w.heap.size, 0, none⟩ = some (.slice (some ⟨b, 0, none⟩) (O + 1) (O + 1)) ∧ w'.cell? ⟨w.heap.size, 1, none⟩ = some (.int .i64 ((v : Int) + 1)) ∧ w'.cell? ⟨w.heap.size, 2, none⟩ = some (.bool s) ∧ w'.cell? ⟨w.heap.size, 3, none⟩ = some (.slice A m c) ∧ w'.cell? ⟨w.heap.size, 4, none⟩ = some (.slice A' m' c'))
       (first | assumption | go_keep)
       (first
        | (go_at_call 222; refine (IH.out _ _ (h.drop 1) (by have := HN.out; omega) (LA.out.below (below_drew_self _)) ?_ DL.out NK.out (HAW.out.below (below_drew_self _))).mono ?_; (exact TL.out.drew); rintro e wc ⟨b1, rfl, h1, h2, h3'⟩; have h3 := below_of_drew h3'; have R1 : Hid (W3.heap.size ≤ b1) := Lib.hid h1; have R2 := Lib.hid h2; have R3 := Lib.hid h3; have hS := five (P3.out.below' R3.out); clear h1 h2 h3 h3'))
      all_goals
       go_wp2_with fail
       go_meet
       exact ⟨b1, rfl, R1, R2, R3⟩
   case rest =>
    obtain ⟨b1, rfl, hb1, F4, BC⟩ := hcut
    obtain ⟨wd, rfl⟩ : ∃ x : World, x = wc := ⟨_, rfl⟩
    have s4 := hb1.out
    have P4 := Lib.hid (P3.out.below' BC.out)
    have SN4 := Lib.hid (SN.out.below BC.out)
    have HA4 := Lib.hid (HA3.out.below BC.out)
    have BL4 := Lib.hid (BL3.out.trans (BC.out.mono BL3.out.size))
    clear p0 p1 p2 p3 p4 P3 SN HA3 BL3 BC hb1
    obtain ⟨low, hlow⟩ : ∃ l, discQ (totN O gs) v a n (h.drop 1) = l := ⟨_, rfl⟩
    have QL : Hid (∀ q ∈ low, QB (bq n) q) := Lib.hid (by rw [← hlow]; exact discQ_qb (fun a b => HT.out.mild O a b) hv8 QA.out n _)
    have PL : Hid (∀ q ∈ low, 0 < q) := Lib.hid (by rw [← hlow]; exact discQ_pos (fun a b => HT.out.mild O a b) A0.out A1.out n _)
    have LLH : Hid (low.length = v + 1) := Lib.hid (by rw [← hlow]; exact discQ_length _ _ _ _ _)
    rw [hlow] at F4
    have HLOW := Lib.hid hlow
    have bqn : bq n ≤ 4392300 := bq_le (by have := HN.out; omega)
    have bqg := bq_ge n
    clear hlow
    by_cases hz : N = 0
    ·subst hz
     go_wp2_with fail
     go_ret
     exact ⟨b1, rfl, by omega, by
      have h1 := F4.out
      rw [← HLOW.out] at h1
      unfold discQ
      rw [if_neg HALL.out, if_pos HS.out]
      exact h1, BL4.out⟩
    ·have hz0 : (N == 0) = false := by simpa using hz
     have hNp : 0 < N := by omega
     clear hz
     go_wp2_with fail
     obtain ⟨W4, hW4, R0, RB, Rhs⟩ := box1 wd 40 [.bool false, .slice none 0 0, .slice none 0 0]
     rw [← hW4]
     clear hW4
     have BR : Hid (BoxC W4 wd.heap.size 0) := Lib.hid (BoxC.of (q := 0) R0.out ((CanNew.zero_ 0 W4).at_))
     have F5 := Lib.hid (F4.out.below RB.out)
     have P5 := Lib.hid (P4.out.below' RB.out)
     have SN5 := Lib.hid (SN4.out.below RB.out)
     have HA5 := Lib.hid ((HA4.out.below RB.out).mono (show 5000000 ≤ 100000000 by omega))
     have BL5 := Lib.hid (BL4.out.trans (RB.out.mono BL4.out.size))
     have s5 : b1 < wd.heap.size := F4.out.lt
     have HNU : Hid (∃ x, x ≤ v ∧ totN O gs (n + 1) h (x : Int) = 0) := Lib.hid (unseen HALL.out)
     have QR : Hid (∀ j, j ≤ v + 1 → QB 40000000 (restN (totN O gs (n + 1) h) low j)) := Lib.hid (fun j hj => (restN_qb _ (by omega) QL.out j).mono (by
      have h1 : j * (bq n + 1) ≤ 9 * (bq n + 1) := Nat.mul_le_mul_right _ (by omega)
      omega))
     clear R0 RB Rhs F4 P4 SN4 HA4 BL4
     go_loopg [13, 14, 74] (v + 1) (fun gh _ _ i wz => ∃ (j : Nat), i = .int .i64 j ∧ j + gh = v + 1 ∧ Hid (BoxC wz wd.heap.size (restN (totN O gs (n + 1) h) low j)) ∧ Hid (FArc wz b1 low) ∧ Hid (Blk wz w.heap.size 177 [.slice (some ⟨b, 0, none⟩) (O + 1) (O + 1), .int .i64 ((v : Int) + 1), .bool s, .slice A m c, .slice A' m' c']) ∧ Hid (SeenAt wz mv L) ∧ Hid (FracAt 100000000 wz (.agg #[.bool s, .slice A m c, .slice A' m' c']) a) ∧ Hid (Below w.heap.size w wz))
     case atStart => exact ⟨0, rfl, by omega, BR, F5, P5, SN5, HA5, BL5⟩
     case round =>
      clear BR F5 P5 SN5 HA5 BL5
      obtain ⟨j, rfl, hj, BR, F5, P5, SN5, HA5, BL5⟩ := hrel
      have hbr := BR.out.lt
      rcases Nat.eq_zero_or_pos gk with hh | hh
      ·subst hh
       obtain rfl : j = v + 1 := by omega
       obtain ⟨rest, hrest⟩ : ∃ r, restN (totN O gs (n + 1) h) low (v + 1) = r := ⟨_, rfl⟩
       have QRE := Lib.hid (QR.out (v + 1) (by omega))
       have RP : Hid (rest ≠ 0) := Lib.hid (by
        obtain ⟨x, hx, hx0⟩ := HNU.out
        have h1 := restN_pos PL.out (j := v + 1) (x := x) (by omega) (by rw [LLH.out]; exact Nat.le_refl _) hx0
        rw [hrest] at h1
        exact fun e => by rw [e] at h1; exact absurd h1 Rat.lt_irrefl)
       rw [hrest] at BR QRE
       have HREST := Lib.hid hrest
       have hlen := LN.out wr SN5.out
       obtain ⟨X1, hX1⟩ : ∃ x : Rat, a * (kk : Rat) = x := ⟨_, rfl⟩
       obtain ⟨X2, hX2⟩ : ∃ x : Rat, X1 / (N : Rat) = x := ⟨_, rfl⟩
       have QK : Hid (QB 64 (kk : Rat)) := Lib.hid (qb_int (by omega) (by omega))
       have QN : Hid (QB 64 (N : Rat)) := Lib.hid (qb_int (by omega) (by omega))
       have Q1 : Hid (QB 128 X1) := Lib.hid (by rw [← hX1]; exact QA.out.mul QK.out)
       have Q2 : Hid (QB 192 X2) := Lib.hid (by rw [← hX2]; exact Q1.out.div QN.out (by omega))
       have HX1 := Lib.hid hX1
       have HX2 := Lib.hid hX2
       have N0 : Hid ((N : Rat) ≠ 0) := Lib.hid (by exact_mod_cast (show N ≠ 0 by omega))
       clear hrest hX1 hX2
       go_upto_region 22 with fail
       clear hlen
       go_cut [15] (fun p wc => ∃ bp, p = .pointer (some ⟨bp, 0, none⟩) ∧ Hid (wr.heap.size ≤ bp) ∧ Hid (BoxC wc bp X2) ∧ Hid (Below wr.heap.size wr wc))
       case first =>
        have q5 := five P5.out
        have hS := (And.intro q5.2.2.1 (And.intro q5.2.2.2.1 (And.intro q5.2.2.2.2 (LN.out wr SN5.out))))
        have BB := Lib.hid (Below.refl wr.heap.size wr)
        clear q5
        go_region_held3 (fun w' => w'.cell? ⟨w.heap.size, 2, none⟩ = some (.bool s) ∧ w'.cell? ⟨w.heap.size, 3, none⟩ = some (.slice A m c) ∧ w'.cell? ⟨w.heap.size, 4, none⟩ = some (.slice A' m' c') ∧ (Builtin.len_ #[206] 3 #[mv]).run Tryz.prog w' = .ok (.int .i64 kk) w')
         (first | assumption | exact ⟨hS.1, hS.2.1, hS.2.2.1, LN.out _ (SeenAt.drew SN5.out)⟩ | exact ⟨cell_alloc hS.1 _, cell_alloc hS.2.1 _, cell_alloc hS.2.2.1 _, LN.out _ ((SN5.out.below BB.out).below (below_alloc_self _ _))⟩ | exact ⟨cell_alloc hS.1 _, cell_alloc hS.2.1 _, cell_alloc hS.2.2.1 _, LN.out _ (SN5.out.below (below_alloc_drew _ _))⟩ | exact ⟨cell3 hS.1 (by omega) _ _ _ _ _ _, cell3 hS.2.1 (by omega) _ _ _ _ _ _, cell3 hS.2.2.1 (by omega) _ _ _ _ _ _, LN.out _ ((SN5.out.below BB.out).far3 AB.out _ _ _ _ _ _)⟩ | go_keep)
         (first
          | (go_at_call_of 110 (Value.int .i64 kk); refine (ofI _ kk (by omega) (by omega)).mono ?_; rintro e wl ⟨u1, rfl, t, hb⟩; have hb0 := hb; (first | replace hb := below_new_drew hb | replace hb := below_new hb | replace hb := below_of_drew hb | skip); (try (first | replace AB := Lib.hid (AB.out.below' hb) | replace AB := Lib.hid (AB.out.below hb))); (first | have AB := Lib.hid ((BoxC.zero _).below hb0) | have AB := Lib.hid ((BoxC.zero _).below (below_of_drew hb0)) | skip); replace BB := Lib.hid (BB.out.trans (hb.mono BB.out.size)); have hs := BB.out.size; clear hb0; have T1 := Lib.hid (t.at_.frac (k := 100000000) (QK.out.mono (by omega)) (by omega)); have q5 := five (P5.out.below' BB.out); have hS := (And.intro q5.2.2.1 (And.intro q5.2.2.2.1 (And.intro q5.2.2.2.2 (LN.out _ (SN5.out.below BB.out))))); clear t hb q5)
          | (go_at_call 121; refine (mulF _ _ _ a (kk : Rat) 100000000 ?_ ?_ (by omega) (by omega)).mono ?_; (first | exact HA5.out.below BB.out | exact (HA5.out.below BB.out).below (below_alloc_self _ _)); (first | exact T1.out | exact T1.out.below (below_drew_self _) | exact T1.out.below (below_alloc_self _ _) | exact T1.out.below (below_alloc_drew _ _)); rintro e wl ⟨u2, rfl, t, hb⟩; rw [HX1.out] at t; have hb0 := hb; (first | replace hb := below_new_drew hb | replace hb := below_new hb | replace hb := below_of_drew hb | skip); (try (first | replace AB := Lib.hid (AB.out.below' hb) | replace AB := Lib.hid (AB.out.below hb))); (first | have AB := Lib.hid ((BoxC.zero _).below hb0) | have AB := Lib.hid ((BoxC.zero _).below (below_of_drew hb0)) | skip); replace BB := Lib.hid (BB.out.trans (hb.mono BB.out.size)); have hs := BB.out.size; clear hb0; have T2 := Lib.hid (t.at_.frac (k := 100000000) (Q1.out.mono (by omega)) (by omega)); have q5 := five (P5.out.below' BB.out); have hS := (And.intro q5.2.2.1 (And.intro q5.2.2.2.1 (And.intro q5.2.2.2.2 (LN.out _ (SN5.out.below BB.out))))); clear t hb q5)
          | (go_at_call 110; refine (ofI _ N (by omega) (by omega)).mono ?_; rintro e wl ⟨u3, rfl, t, hb⟩; have hb0 := hb; (first | replace hb := below_new_drew hb | replace hb := below_new hb | replace hb := below_of_drew hb | skip); (try (first | replace AB := Lib.hid (AB.out.below' hb) | replace AB := Lib.hid (AB.out.below hb))); (try (first | replace T2 := Lib.hid (T2.out.below' hb) | replace T2 := Lib.hid (T2.out.below hb))); (first | have AB := Lib.hid ((BoxC.zero _).below hb0) | have AB := Lib.hid ((BoxC.zero _).below (below_of_drew hb0)) | skip); replace BB := Lib.hid (BB.out.trans (hb.mono BB.out.size)); have hs := BB.out.size; clear hb0; have T3 := Lib.hid (t.at_.frac (k := 100000000) (QN.out.mono (by omega)) (by omega)); have q5 := five (P5.out.below' BB.out); have hS := (And.intro q5.2.2.1 (And.intro q5.2.2.2.1 (And.intro q5.2.2.2.2 (LN.out _ (SN5.out.below BB.out))))); clear t hb q5)
          | (go_at_call 223; refine (overG _ _ _ X1 (N : Rat) 100000000 ?_ ?_ (by omega) (by omega) N0.out).mono ?_; (first | exact T2.out | exact T2.out.below (below_drew_self _) | exact T2.out.below (below_alloc_self _ _) | exact T2.out.below (below_alloc_drew _ _)); (first | exact T3.out | exact T3.out.below (below_drew_self _) | exact T3.out.below (below_alloc_self _ _) | exact T3.out.below (below_alloc_drew _ _)); rintro e wl ⟨u4, rfl, t, hb⟩; rw [HX2.out] at t; have hb0 := hb; (first | replace hb := below_new_drew hb | replace hb := below_new hb | replace hb := below_of_drew hb | skip); (try (first | replace AB := Lib.hid (AB.out.below' hb) | replace AB := Lib.hid (AB.out.below hb))); (first | have AB := Lib.hid ((BoxC.zero _).below hb0) | have AB := Lib.hid ((BoxC.zero _).below (below_of_drew hb0)) | skip); replace BB := Lib.hid (BB.out.trans (hb.mono BB.out.size)); have hs := BB.out.size; clear hb0; obtain ⟨Ar, mr, cr, Ar', mr', cr', rfl⟩ := t.at_.open_; have T4 := Lib.hid t.at_; (try (obtain ⟨_, _, _, _, _, _, ab0, ab1, ab2, az0, az1, az2, _⟩ := AB.out.get)); have q5 := five (P5.out.below' BB.out); have hS := (And.intro q5.2.2.1 (And.intro q5.2.2.2.1 (And.intro q5.2.2.2.2 (LN.out _ (SN5.out.below BB.out))))); clear t hb q5))
        all_goals
         go_wp2_with fail
         go_meet
         first
          | exact ⟨_, rfl, Lib.hid (by omega), Lib.hid (BoxC.new T4.out), Lib.hid (BB.out.alloc BB.out.size _)⟩
          | exact ⟨_, rfl, Lib.hid (by omega), Lib.hid (AB.out.put rfl T4.out), Lib.hid (below3 BB.out (by omega) _ _ _ _ _ _)⟩
       case rest =>
        obtain ⟨bf, rfl, hbf, BF, BC⟩ := hcut
        have s6 := hbf.out
        have BR6 := Lib.hid (BR.out.below BC.out)
        have F6 := Lib.hid (F5.out.below BC.out)
        have P6 := Lib.hid (P5.out.below' BC.out)
        have SN6 := Lib.hid (SN5.out.below BC.out)
        have HA6 := Lib.hid (HA5.out.below BC.out)
        have BL6 := Lib.hid (BL5.out.trans (BC.out.mono BL5.out.size))
        clear BR F5 P5 SN5 HA5 BL5 hbf BC
        obtain ⟨fw, hfw⟩ : ∃ f : Nat → Rat, f = fun x => discW (totN O gs (n + 1) h) v a rest (low.getD x 0) x := ⟨_, rfl⟩
        have FW := Lib.hid hfw
        clear hfw
        go_wp2_with fail
        go_loopg [16, 17, 98] (v + 1) (fun gh _ _ i wz => ∃ (j : Nat), i = .int .i64 j ∧ j + gh = v + 1 ∧ Hid (FArc wz b1 ((List.range j).map fw ++ low.drop j)) ∧ Hid (BoxC wz wd.heap.size rest) ∧ Hid (BoxC wz bf X2) ∧ Hid (Blk wz w.heap.size 177 [.slice (some ⟨b, 0, none⟩) (O + 1) (O + 1), .int .i64 ((v : Int) + 1), .bool s, .slice A m c, .slice A' m' c']) ∧ Hid (SeenAt wz mv L) ∧ Hid (FracAt 100000000 wz (.agg #[.bool s, .slice A m c, .slice A' m' c']) a) ∧ Hid (Below w.heap.size w wz))
        case atStart => exact ⟨0, rfl, by omega, Lib.hid (by simpa using F6.out), BR6, BF, P6, SN6, HA6, BL6⟩
        case round =>
         clear F6 BR6 BF P6 SN6 HA6 BL6
         obtain ⟨j, rfl, hj, F6, BR6, BF, P6, SN6, HA6, BL6⟩ := hrel
         rcases Nat.eq_zero_or_pos gk with hh | hh
         ·subst hh
          obtain rfl : j = v + 1 := by omega
          go_wp2_with fail
          go_ret
          exact ⟨b1, rfl, by omega, by
           have h1 := F6.out
           rw [List.drop_eq_nil_of_le (by rw [LLH.out]; exact Nat.le_refl _), List.append_nil, FW.out, ← HREST.out, ← HLOW.out] at h1
           unfold discQ
           rw [if_neg HALL.out, if_neg (show ¬ sumC (totN O gs (n + 1) h) v = 0 by rw [HS.out]; omega)]
           exact h1, BL6.out⟩
         ·obtain ⟨gh, rfl⟩ : ∃ g, gk = g + 1 := ⟨gk - 1, by omega⟩
          obtain ⟨cj, hcj⟩ : ∃ c, totN O gs (n + 1) h (j : Int) = c := ⟨_, rfl⟩
          obtain ⟨pj, hpj⟩ : ∃ x, low.getD j 0 = x := ⟨_, rfl⟩
          have hm := M.out (j : Int)
          have QC := Lib.hid (M.out.qb (j : Int))
          rw [hcj] at hm QC
          have QP : Hid (QB (bq n) pj) := Lib.hid (by rw [← hpj]; exact getD_mem (P := fun q => QB (bq n) q) (qb_zero _ (by omega)) QL.out)
          have LK : Hid (∀ w', SeenAt w' mv L → (Instr.lookup 206 mv (.int .i64 (j : Int)) false).run Tryz.prog w' = .ok (.int .i64 cj) w') := Lib.hid (fun w' hw' => by
           rw [← hcj]
           exact hw'.look CN.out (x := (j : Int)) (by omega))
          have jl : j < low.length := by rw [LLH.out]; omega
          have hget := row_at2 fw low jl
          rw [hpj] at hget
          have HG := Lib.hid hget
          have JL := Lib.hid jl
          have HV1 : Hid (0 < cj → ((cj : Rat) - a) / (N : Rat) = fw j) := Lib.hid (fun e => by
           rw [FW.out]
           simp only [discW]
           rw [if_pos (by rw [hcj]; exact e), hcj, HS.out])
          have HV2 : Hid (¬ 0 < cj → X2 * pj / rest = fw j) := Lib.hid (fun e => by
           rw [FW.out]
           simp only [discW]
           rw [if_neg (by rw [hcj]; exact e), hpj, HS.out, ← HX2.out, ← HX1.out, show ((kindsC (totN O gs (n + 1) h) v : Nat) : Rat) = (kk : Rat) by rw [← HKK.out]; exact (Rat.intCast_natCast _).symm])
          obtain ⟨Ap, mp, cp, Ap', mp', cp', e0, e1, e2, _, _, _, tp⟩ := F6.out.get hget
          have TP := Lib.hid (tp.frac (k := 100000000) (QP.out.mono (by omega)) (by omega))
          have hb1 := F6.out.lt
          have hlk := LK.out _ (SN6.out.below (below_alloc_self wr (.cells #[.bool (isNeg pj), .slice Ap mp cp, .slice Ap' mp' cp'] 40)))
          have j1 : (0 : Int) ≤ (j : Int) := by omega
          have j2 : (j : Int) < (v : Int) + 1 := by omega
          clear hcj hpj hget jl tp
          by_cases hc : 0 < cj
          ·have hcb : decide (0 < cj) = true := decide_eq_true hc
           have HV := Lib.hid (HV1.out hc)
           obtain ⟨Y2, hY2⟩ : ∃ x : Rat, (cj : Rat) - a = x := ⟨_, rfl⟩
           have QY2 : Hid (QB 129 Y2) := Lib.hid (by rw [← hY2, Rat.sub_eq_add_neg]; exact QC.out.add QA.out.neg)
           have HY2 := Lib.hid hY2
           rw [hY2] at HV
           clear hY2
           go_wp2_with fail
           obtain ⟨W9, hW9, G0, GB, Ghs⟩ := box1 wr 40 [.bool (isNeg pj), .slice Ap mp cp, .slice Ap' mp' cp']
           rw [← hW9]
           clear hW9
           have SN7 := Lib.hid (SN6.out.below GB.out)
           have F7 := Lib.hid (F6.out.below GB.out)
           have P7 := Lib.hid (P6.out.below' GB.out)
           have HA7 := Lib.hid (HA6.out.below GB.out)
           have BR7 := Lib.hid (BR6.out.below GB.out)
           have BF7 := Lib.hid (BF.out.below GB.out)
           have BL7 := Lib.hid (BL6.out.trans (GB.out.mono BL6.out.size))
           clear hlk e0 e1 e2 G0 hc HV1 HV2
           have BB := Lib.hid (Below.refl W9.heap.size W9)
           have q5 := five P7.out
           have hS := (And.intro q5.2.2.1 (And.intro q5.2.2.2.1 (And.intro q5.2.2.2.2 (LK.out W9 SN7.out))))
           clear q5
           go_region_held3 (fun w' => w'.cell? ⟨w.heap.size, 2, none⟩ = some (.bool s) ∧ w'.cell? ⟨w.heap.size, 3, none⟩ = some (.slice A m c) ∧ w'.cell? ⟨w.heap.size, 4, none⟩ = some (.slice A' m' c') ∧ (Instr.lookup 206 mv (.int .i64 (j : Int)) false).run Tryz.prog w' = .ok (.int .i64 cj) w')
            (first | assumption | exact ⟨hS.1, hS.2.1, hS.2.2.1, LK.out _ (SeenAt.drew SN7.out)⟩ | exact ⟨cell3 hS.1 (by omega) _ _ _ _ _ _, cell3 hS.2.1 (by omega) _ _ _ _ _ _, cell3 hS.2.2.1 (by omega) _ _ _ _ _ _, LK.out _ ((SN7.out.below BB.out).far3 (F7.out.below BB.out) _ _ _ _ _ _)⟩ | go_keep)
            (first
             | (go_at_call_of 110 (Value.int .i64 cj); refine (ofI _ cj (by omega) (by omega)).mono ?_; rintro e wl ⟨u1, rfl, t, hb⟩; have hb0 := hb; (first | replace hb := below_new_drew hb | replace hb := below_new hb | replace hb := below_of_drew hb | skip); (try (first | replace AB := Lib.hid (AB.out.below' hb) | replace AB := Lib.hid (AB.out.below hb))); (first | have AB := Lib.hid ((BoxC.zero _).below hb0) | have AB := Lib.hid ((BoxC.zero _).below (below_of_drew hb0)) | skip); replace BB := Lib.hid (BB.out.trans (hb.mono BB.out.size)); have hs := BB.out.size; clear hb0; have T1 := Lib.hid (t.at_.frac (k := 100000000) (QC.out.mono (by omega)) (by omega)); have q5 := five (P7.out.below' BB.out); have hS := (And.intro q5.2.2.1 (And.intro q5.2.2.2.1 (And.intro q5.2.2.2.2 (LK.out _ (SN7.out.below BB.out))))); clear t hb q5)
             | (go_at_call 224; refine (subFr _ _ _ (cj : Rat) a 100000000 ?_ ?_ (by omega) (by omega)).mono ?_; (first | exact T1.out | exact T1.out.below (below_drew_self _) | exact T1.out.below (below_alloc_self _ _) | exact T1.out.below (below_alloc_drew _ _)); (exact HA7.out.below BB.out); rintro e wl ⟨u2, rfl, t, hb⟩; rw [HY2.out] at t; have hb0 := hb; (first | replace hb := below_new_drew hb | replace hb := below_new hb | replace hb := below_of_drew hb | skip); (try (first | replace AB := Lib.hid (AB.out.below' hb) | replace AB := Lib.hid (AB.out.below hb))); (first | have AB := Lib.hid ((BoxC.zero _).below hb0) | have AB := Lib.hid ((BoxC.zero _).below (below_of_drew hb0)) | skip); replace BB := Lib.hid (BB.out.trans (hb.mono BB.out.size)); have hs := BB.out.size; clear hb0; have T2 := Lib.hid (t.at_.frac (k := 100000000) (QY2.out.mono (by omega)) (by omega)); have q5 := five (P7.out.below' BB.out); have hS := (And.intro q5.2.2.1 (And.intro q5.2.2.2.1 (And.intro q5.2.2.2.2 (LK.out _ (SN7.out.below BB.out))))); clear t hb q5)
             | (go_at_call 110; refine (ofI _ N (by omega) (by omega)).mono ?_; rintro e wl ⟨u3, rfl, t, hb⟩; have hb0 := hb; (first | replace hb := below_new_drew hb | replace hb := below_new hb | replace hb := below_of_drew hb | skip); (try (first | replace AB := Lib.hid (AB.out.below' hb) | replace AB := Lib.hid (AB.out.below hb))); (try (first | replace T2 := Lib.hid (T2.out.below' hb) | replace T2 := Lib.hid (T2.out.below hb))); (first | have AB := Lib.hid ((BoxC.zero _).below hb0) | have AB := Lib.hid ((BoxC.zero _).below (below_of_drew hb0)) | skip); replace BB := Lib.hid (BB.out.trans (hb.mono BB.out.size)); have hs := BB.out.size; clear hb0; have T3 := Lib.hid (t.at_.frac (k := 100000000) (QN.out.mono (by omega)) (by omega)); have q5 := five (P7.out.below' BB.out); have hS := (And.intro q5.2.2.1 (And.intro q5.2.2.2.1 (And.intro q5.2.2.2.2 (LK.out _ (SN7.out.below BB.out))))); clear t hb q5)
             | (go_at_call 223; refine (overG _ _ _ Y2 (N : Rat) 100000000 ?_ ?_ (by omega) (by omega) N0.out).mono ?_; (first | exact T2.out | exact T2.out.below (below_drew_self _) | exact T2.out.below (below_alloc_self _ _) | exact T2.out.below (below_alloc_drew _ _)); (first | exact T3.out | exact T3.out.below (below_drew_self _) | exact T3.out.below (below_alloc_self _ _) | exact T3.out.below (below_alloc_drew _ _)); rintro e wl ⟨u4, rfl, t, hb⟩; rw [HV.out] at t; have hb0 := hb; (first | replace hb := below_new_drew hb | replace hb := below_new hb | replace hb := below_of_drew hb | skip); (try (first | replace AB := Lib.hid (AB.out.below' hb) | replace AB := Lib.hid (AB.out.below hb))); (first | have AB := Lib.hid ((BoxC.zero _).below hb0) | have AB := Lib.hid ((BoxC.zero _).below (below_of_drew hb0)) | skip); replace BB := Lib.hid (BB.out.trans (hb.mono BB.out.size)); have hs := BB.out.size; clear hb0; obtain ⟨Ar, mr, cr, Ar', mr', cr', rfl⟩ := t.at_.open_; have T4 := Lib.hid t.at_; have q5 := five (P7.out.below' BB.out); have hS := (And.intro q5.2.2.1 (And.intro q5.2.2.2.1 (And.intro q5.2.2.2.2 (LK.out _ (SN7.out.below BB.out))))); obtain ⟨_, _, _, _, _, _, f0, f1, f2, y0, y1, y2, _⟩ := (F7.out.below BB.out).get HG.out; clear t hb q5))
           go_wp2_with fail
           go_roundg gh
           case measure => omega
           case rel =>
            have F8 := F7.out.below BB.out
            exact ⟨j + 1, rfl, by omega, Lib.hid (by
             have := F8.put (i := j) (by have := JL.out; simp; omega) rfl T4.out
             rwa [row_step2 fw low JL.out rfl] at this), Lib.hid (FArc.far (BR7.out.below BB.out) F8 (by omega) _ _ _ _ _ _ _ _ _ _), Lib.hid (FArc.far (BF7.out.below BB.out) F8 (by omega) _ _ _ _ _ _ _ _ _ _), Lib.hid ((P7.out.below' BB.out).far3 (by omega) _ _ _ _ _ _), Lib.hid ((SN7.out.below BB.out).far3 F8 _ _ _ _ _ _), Lib.hid (F8.keepsF (HA7.out.below BB.out) _ _ _ _ _ _ _ _ _ _), Lib.hid (below3 (BL7.out.trans (BB.out.mono BL7.out.size)) (by omega) _ _ _ _ _ _)⟩
          ·have hcb : decide (0 < cj) = false := decide_eq_false hc
           have HV := Lib.hid (HV2.out hc)
           obtain ⟨Y2, hY2⟩ : ∃ x : Rat, X2 * pj = x := ⟨_, rfl⟩
           have QY2 : Hid (QB 50000000 Y2) := Lib.hid (by rw [← hY2]; exact (Q2.out.mul QP.out).mono (by omega))
           have HY2 := Lib.hid hY2
           rw [hY2] at HV
           obtain ⟨Aq, mq, cq, Aq', mq', cq', f0, f1, f2, _, _, _, tq⟩ := BF.out.get
           have TQ := Lib.hid (tq.frac (k := 100000000) (Q2.out.mono (by omega)) (by omega))
           obtain ⟨Ar, mr, cr, Ar', mr', cr', r0, r1, r2, _, _, _, tr⟩ := BR6.out.get
           have TR := Lib.hid (tr.frac (k := 100000000) (QRE.out.mono (by omega)) (by omega))
           clear hY2 tq tr
           go_wp2_with fail
           obtain ⟨W9, hW9, G0, GB, Ghs⟩ := box1 wr 40 [.bool (isNeg pj), .slice Ap mp cp, .slice Ap' mp' cp']
           rw [← hW9]
           clear hW9
           have SN7 := Lib.hid (SN6.out.below GB.out)
           have F7 := Lib.hid (F6.out.below GB.out)
           have P7 := Lib.hid (P6.out.below' GB.out)
           have HA7 := Lib.hid (HA6.out.below GB.out)
           have BR7 := Lib.hid (BR6.out.below GB.out)
           have BF7 := Lib.hid (BF.out.below GB.out)
           have TP7 := Lib.hid (TP.out.below GB.out)
           have TQ7 := Lib.hid (TQ.out.below GB.out)
           have TR7 := Lib.hid (TR.out.below GB.out)
           have BL7 := Lib.hid (BL6.out.trans (GB.out.mono BL6.out.size))
           have lf := BF.out.lt
           have lr := BR6.out.lt
           have E0 := Lib.hid G0.out.three
           have E1 := Lib.hid (And.intro ((GB.out.cell (p := ⟨bf, 0, none⟩) lf).trans f0) (And.intro ((GB.out.cell (p := ⟨bf, 1, none⟩) lf).trans f1) ((GB.out.cell (p := ⟨bf, 2, none⟩) lf).trans f2)))
           have E2 := Lib.hid (And.intro ((GB.out.cell (p := ⟨wd.heap.size, 0, none⟩) lr).trans r0) (And.intro ((GB.out.cell (p := ⟨wd.heap.size, 1, none⟩) lr).trans r1) ((GB.out.cell (p := ⟨wd.heap.size, 2, none⟩) lr).trans r2)))
           have lg := G0.out.lt
           have lf7 := BF7.out.lt
           have lr7 := BR7.out.lt
           clear hlk e0 e1 e2 f0 f1 f2 r0 r1 r2 hc HV1 HV2
           have BB := Lib.hid (Below.refl W9.heap.size W9)
           have hS := (And.intro E0.out.1 (And.intro E0.out.2.1 (And.intro E0.out.2.2.1 (And.intro E1.out.1 (And.intro E1.out.2.1 (And.intro E1.out.2.2 (And.intro E2.out.1 (And.intro E2.out.2.1 E2.out.2.2))))))))
           go_region_held3 (fun w' => w'.cell? ⟨wr.heap.size, 0, none⟩ = some (.bool (isNeg pj)) ∧ w'.cell? ⟨wr.heap.size, 1, none⟩ = some (.slice Ap mp cp) ∧ w'.cell? ⟨wr.heap.size, 2, none⟩ = some (.slice Ap' mp' cp') ∧ w'.cell? ⟨bf, 0, none⟩ = some (.bool (isNeg X2)) ∧ w'.cell? ⟨bf, 1, none⟩ = some (.slice Aq mq cq) ∧ w'.cell? ⟨bf, 2, none⟩ = some (.slice Aq' mq' cq') ∧ w'.cell? ⟨wd.heap.size, 0, none⟩ = some (.bool (isNeg rest)) ∧ w'.cell? ⟨wd.heap.size, 1, none⟩ = some (.slice Ar mr cr) ∧ w'.cell? ⟨wd.heap.size, 2, none⟩ = some (.slice Ar' mr' cr'))
            (first | assumption | exact ⟨cell3 hS.1 (show wr.heap.size ≠ b1 by omega) _ _ _ _ _ _, cell3 hS.2.1 (show wr.heap.size ≠ b1 by omega) _ _ _ _ _ _, cell3 hS.2.2.1 (show wr.heap.size ≠ b1 by omega) _ _ _ _ _ _, cell3 hS.2.2.2.1 (show bf ≠ b1 by omega) _ _ _ _ _ _, cell3 hS.2.2.2.2.1 (show bf ≠ b1 by omega) _ _ _ _ _ _, cell3 hS.2.2.2.2.2.1 (show bf ≠ b1 by omega) _ _ _ _ _ _, cell3 hS.2.2.2.2.2.2.1 (show wd.heap.size ≠ b1 by omega) _ _ _ _ _ _, cell3 hS.2.2.2.2.2.2.2.1 (show wd.heap.size ≠ b1 by omega) _ _ _ _ _ _, cell3 hS.2.2.2.2.2.2.2.2 (show wd.heap.size ≠ b1 by omega) _ _ _ _ _ _⟩ | go_keep)
            (first
             | (go_at_call 121; refine (mulF _ _ _ X2 pj 100000000 ?_ ?_ (by omega) (by omega)).mono ?_; (first | exact TQ7.out | exact TQ7.out.below (below_drew_self _) | exact TQ7.out.below (below_alloc_self _ _) | exact TQ7.out.below (below_alloc_drew _ _)); (first | exact TP7.out | exact TP7.out.below (below_drew_self _) | exact TP7.out.below (below_alloc_self _ _) | exact TP7.out.below (below_alloc_drew _ _)); rintro e wl ⟨u1, rfl, t, hb⟩; rw [HY2.out] at t; have hb0 := hb; (first | replace hb := below_new_drew hb | replace hb := below_new hb | replace hb := below_of_drew hb | skip); (try (first | replace AB := Lib.hid (AB.out.below' hb) | replace AB := Lib.hid (AB.out.below hb))); (first | have AB := Lib.hid ((BoxC.zero _).below hb0) | have AB := Lib.hid ((BoxC.zero _).below (below_of_drew hb0)) | skip); replace BB := Lib.hid (BB.out.trans (hb.mono BB.out.size)); have hs := BB.out.size; clear hb0; have T1 := Lib.hid (t.at_.frac (k := 100000000) (QY2.out.mono (by omega)) (by omega)); have hS := (And.intro ((BB.out.cell (p := ⟨wr.heap.size, 0, none⟩) lg).trans E0.out.1) (And.intro ((BB.out.cell (p := ⟨wr.heap.size, 1, none⟩) lg).trans E0.out.2.1) (And.intro ((BB.out.cell (p := ⟨wr.heap.size, 2, none⟩) lg).trans E0.out.2.2.1) (And.intro ((BB.out.cell (p := ⟨bf, 0, none⟩) lf7).trans E1.out.1) (And.intro ((BB.out.cell (p := ⟨bf, 1, none⟩) lf7).trans E1.out.2.1) (And.intro ((BB.out.cell (p := ⟨bf, 2, none⟩) lf7).trans E1.out.2.2) (And.intro ((BB.out.cell (p := ⟨wd.heap.size, 0, none⟩) lr7).trans E2.out.1) (And.intro ((BB.out.cell (p := ⟨wd.heap.size, 1, none⟩) lr7).trans E2.out.2.1) ((BB.out.cell (p := ⟨wd.heap.size, 2, none⟩) lr7).trans E2.out.2.2))))))))); clear t hb)
             | (go_at_call 223; refine (overG _ _ _ Y2 rest 100000000 ?_ ?_ (by omega) (by omega) RP.out).mono ?_; (first | exact T1.out | exact T1.out.below (below_drew_self _) | exact T1.out.below (below_alloc_self _ _) | exact T1.out.below (below_alloc_drew _ _)); (exact TR7.out.below BB.out); rintro e wl ⟨u2, rfl, t, hb⟩; rw [HV.out] at t; have hb0 := hb; (first | replace hb := below_new_drew hb | replace hb := below_new hb | replace hb := below_of_drew hb | skip); (try (first | replace AB := Lib.hid (AB.out.below' hb) | replace AB := Lib.hid (AB.out.below hb))); (first | have AB := Lib.hid ((BoxC.zero _).below hb0) | have AB := Lib.hid ((BoxC.zero _).below (below_of_drew hb0)) | skip); replace BB := Lib.hid (BB.out.trans (hb.mono BB.out.size)); have hs := BB.out.size; clear hb0; obtain ⟨As, ms, cs, As', ms', cs', rfl⟩ := t.at_.open_; have T4 := Lib.hid t.at_; have hS := (And.intro ((BB.out.cell (p := ⟨wr.heap.size, 0, none⟩) lg).trans E0.out.1) (And.intro ((BB.out.cell (p := ⟨wr.heap.size, 1, none⟩) lg).trans E0.out.2.1) (And.intro ((BB.out.cell (p := ⟨wr.heap.size, 2, none⟩) lg).trans E0.out.2.2.1) (And.intro ((BB.out.cell (p := ⟨bf, 0, none⟩) lf7).trans E1.out.1) (And.intro ((BB.out.cell (p := ⟨bf, 1, none⟩) lf7).trans E1.out.2.1) (And.intro ((BB.out.cell (p := ⟨bf, 2, none⟩) lf7).trans E1.out.2.2) (And.intro ((BB.out.cell (p := ⟨wd.heap.size, 0, none⟩) lr7).trans E2.out.1) (And.intro ((BB.out.cell (p := ⟨wd.heap.size, 1, none⟩) lr7).trans E2.out.2.1) ((BB.out.cell (p := ⟨wd.heap.size, 2, none⟩) lr7).trans E2.out.2.2))))))))); obtain ⟨_, _, _, _, _, _, f0, f1, f2, y0, y1, y2, _⟩ := (F7.out.below BB.out).get HG.out; clear t hb))
           go_wp2_with fail
           go_roundg gh
           case measure => omega
           case rel =>
            have F8 := F7.out.below BB.out
            exact ⟨j + 1, rfl, by omega, Lib.hid (by
             have := F8.put (i := j) (by have := JL.out; simp; omega) rfl T4.out
             rwa [row_step2 fw low JL.out rfl] at this), Lib.hid (FArc.far (BR7.out.below BB.out) F8 (by omega) _ _ _ _ _ _ _ _ _ _), Lib.hid (FArc.far (BF7.out.below BB.out) F8 (by omega) _ _ _ _ _ _ _ _ _ _), Lib.hid ((P7.out.below' BB.out).far3 (by omega) _ _ _ _ _ _), Lib.hid ((SN7.out.below BB.out).far3 F8 _ _ _ _ _ _), Lib.hid (F8.keepsF (HA7.out.below BB.out) _ _ _ _ _ _ _ _ _ _), Lib.hid (below3 (BL7.out.trans (BB.out.mono BL7.out.size)) (by omega) _ _ _ _ _ _)⟩
      ·obtain ⟨gh, rfl⟩ : ∃ g, gk = g + 1 := ⟨gk - 1, by omega⟩
       obtain ⟨cj, hcj⟩ : ∃ c, totN O gs (n + 1) h (j : Int) = c := ⟨_, rfl⟩
       obtain ⟨pj, hpj⟩ : ∃ x, low.getD j 0 = x := ⟨_, rfl⟩
       obtain ⟨rj, hrj⟩ : ∃ x, restN (totN O gs (n + 1) h) low j = x := ⟨_, rfl⟩
       have hm := M.out (j : Int)
       rw [hcj] at hm
       have QP : Hid (QB (bq n) pj) := Lib.hid (by rw [← hpj]; exact getD_mem (P := fun q => QB (bq n) q) (qb_zero _ (by omega)) QL.out)
       have QJ := Lib.hid (QR.out j (by omega))
       rw [hrj] at QJ BR
       have HC0 : Hid (cj = 0 → restN (totN O gs (n + 1) h) low (j + 1) = rj + pj) := Lib.hid (fun e => by
        show (if totN O gs (n + 1) h (j : Int) = 0 then _ else _) = _
        rw [if_pos (by rw [hcj, e]), hrj, hpj])
       have HC1 : Hid (¬ cj = 0 → restN (totN O gs (n + 1) h) low (j + 1) = rj) := Lib.hid (fun e => by
        show (if totN O gs (n + 1) h (j : Int) = 0 then _ else _) = _
        rw [if_neg (by rw [hcj]; exact e), hrj])
       have LK : Hid (∀ w', SeenAt w' mv L → (Instr.lookup 206 mv (.int .i64 (j : Int)) false).run Tryz.prog w' = .ok (.int .i64 cj) w') := Lib.hid (fun w' hw' => by
        rw [← hcj]
        exact hw'.look CN.out (x := (j : Int)) (by omega))
       have hget : low[j]? = some pj := by rw [← hpj, List.getD_eq_getElem?_getD, List.getElem?_eq_getElem (by rw [LLH.out]; omega)]; rfl
       obtain ⟨Ap, mp, cp, Ap', mp', cp', e0, e1, e2, _, _, _, tp⟩ := F5.out.get hget
       have TP := Lib.hid (tp.frac (k := 100000000) (QP.out.mono (by omega)) (by omega))
       obtain ⟨Ar, mr, cr, Ar', mr', cr', r0, r1, r2, z0, z1, z2, tr⟩ := BR.out.get
       have TR := Lib.hid (tr.frac (k := 100000000) (QJ.out.mono (by omega)) (by omega))
       have hb1 := F5.out.lt
       have hlk := LK.out _ (SN5.out.below (below_alloc_self wr (.cells #[.bool (isNeg pj), .slice Ap mp cp, .slice Ap' mp' cp'] 40)))
       have j1 : (0 : Int) ≤ (j : Int) := by omega
       have j2 : (j : Int) < (v : Int) + 1 := by omega
       clear hcj hpj hrj hget tp tr
       by_cases hc : cj = 0
       ·subst hc
        have HR := Lib.hid (HC0.out rfl)
        go_wp2_with fail
        refine (addF _ _ _ rj pj 100000000 ?_ ?_ (by omega) (by omega)).mono ?_
        ·exact TR.out.below (below_alloc_self _ _)
        ·exact TP.out.below (below_alloc_self _ _)
        rintro e w7 ⟨u, rfl, t, hb⟩
        replace hb := below_new hb
        obtain ⟨As, ms, cs, As', ms', cs', rfl⟩ := t.at_.open_
        have T7 := Lib.hid t.at_
        have BR7 := Lib.hid (BR.out.below hb)
        have F7 := Lib.hid (F5.out.below hb)
        have P7 := Lib.hid (P5.out.below' hb)
        have SN7 := Lib.hid (SN5.out.below hb)
        have HA7 := Lib.hid (HA5.out.below hb)
        have BL7 := Lib.hid (BL5.out.trans (hb.mono BL5.out.size))
        clear hlk e0 e1 e2 r0 r1 r2 z0 z1 z2 t hb
        obtain ⟨_, _, _, _, _, _, r0, r1, r2, z0, z1, z2, _⟩ := BR7.out.get
        go_wp2_with fail
        go_roundg gh
        case measure => omega
        case rel => exact ⟨j + 1, rfl, by omega, Lib.hid (by rw [HR.out]; exact BR7.out.put rfl T7.out), Lib.hid (F7.out.far BR7.out (by omega) _ _ _ _ _ _ _ _ _ _), Lib.hid (P7.out.far3 (by omega) _ _ _ _ _ _), Lib.hid (SN7.out.far3 BR7.out _ _ _ _ _ _), Lib.hid (FArc.keepsF BR7.out HA7.out _ _ _ _ _ _ _ _ _ _), Lib.hid (below3 BL7.out (by omega) _ _ _ _ _ _)⟩
       ·have hcb : (cj == 0) = false := by simpa using hc
        have HR := Lib.hid (HC1.out hc)
        have hb := below_alloc_self wr (.cells #[.bool (isNeg pj), .slice Ap mp cp, .slice Ap' mp' cp'] 40)
        have HB := Lib.hid hb
        clear hc hb
        go_wp2_with fail
        go_roundg gh
        case measure => omega
        case rel => exact ⟨j + 1, rfl, by omega, Lib.hid (by rw [HR.out]; exact BR.out.below HB.out), Lib.hid (F5.out.below HB.out), Lib.hid (P5.out.below' HB.out), Lib.hid (SN5.out.below HB.out), Lib.hid (HA5.out.below HB.out), Lib.hid (BL5.out.trans (HB.out.mono BL5.out.size))⟩
end Go.Proofs.YtjebfdfkjlkifaaGreat
