/- Lemmas on the way: Gr1. -/
import Derived.Test.YtjebfdfkjlkifaaGreatC31
import Derived.OwnWalkIn
import Derived.TacticsInMore
import Derived.LoopNIn
import Derived.LoopIn
set_option linter.unusedSimpArgs false
set_option linter.unusedVariables false
set_option linter.unusedSectionVars false
set_option linter.unnecessarySimpa false
namespace Go.Proofs.YtjebfdfkjlkifaaGreat
open Go.RowKit
section
attribute [local go_sem] Oper.semAt_some

theorem run_make_ints (w : World) (n : Nat) (hn : n ≤ 1000000) : ∃ w', (Instr.makeSlice 44 (.int .i64 (n : Int)) (.int .i64 (n : Int))).run Tryz.prog w = .ok (.slice (some ⟨w.heap.size, 0, none⟩) n n) w' ∧ w'.ownsRow w.heap.size 3 1 (.slice (some ⟨w.heap.size, 0, none⟩) n n) n (List.replicate n (.int .i64 0)) ∧ w.grownBy w' none := by
 obtain ⟨i0, h2, h3, h4, h5⟩ := info_parts infoInt
 obtain ⟨w', hrun, r1, r2⟩ := run_make_full (P := Tryz.prog) w w.heap.size 44 3 i0 (.int .i64 0) 1 Tryz.underlying44 h2 h3 h4 .i64 .i64 n (by rw [h5]; omega) (by unfold maxLen; omega) (Nat.le_refl _)
 refine ⟨w', hrun, ?_, r2⟩
 rw [Nat.mul_one, show (Value.int .i64 0).cells = #[.int .i64 0] from rfl, cells_made] at r1
 exact r1

theorem Blk.mid {B : Nat} {w w' : World} {g : Nat} {e : TypeId} {xs : List Value} (h : Blk w g e xs) (hm : Mid B w w') (hg : B ≤ g) : Blk w' g e xs := (hm.same g hg h.lt).trans h
theorem Sl.mid {B : Nat} {w w' : World} {sz g o n c : Nat} {xs : List Value} (h : Sl w sz (.slice (some ⟨g, o, none⟩) n c) n xs) (hm : Mid B w w') (hg : B ≤ g) : Sl w' sz (.slice (some ⟨g, o, none⟩) n c) n xs := by
 obtain ⟨h0, A, c', e, h2, h3, h5⟩ := h
 cases e
 refine ⟨h0, _, _, rfl, h2, h3, fun hn => ?_⟩
 obtain ⟨b, off, e, hlt, hc⟩ := h5 hn
 cases e
 exact ⟨_, _, rfl, Nat.lt_of_lt_of_le hlt hm.size, fun j u hu => (hm.cell (p := ⟨g, o + j, none⟩) hg hlt).trans (hc j u hu)⟩
theorem Sl.recap {w : World} {sz n c c' : Nat} {A : Option Addr} {xs : List Value} (h : Sl w sz (.slice A n c) n xs) (hc : n ≤ c') (hm : c' ≤ maxLen) : Sl w sz (.slice A n c') n xs := by
 obtain ⟨h0, A', c0, e, h2, h3, h5⟩ := h
 cases e
 exact ⟨h0, _, _, rfl, hc, hm, h5⟩
theorem gramsL_get {m : Nat} {s : List Int} {j : Nat} (hj : j ≤ s.length) : (gramsL m s).getD j [] = ((fullL m s).drop j).take (m + 1) := by
 unfold gramsL
 rw [List.getD_eq_getElem?_getD, List.getElem?_map, List.getElem?_range (by omega)]
 rfl

set_option maxRecDepth 1000000 in
set_option maxHeartbeats 4000000 in
theorem gramsF (w : World) (N : Int) (sv : Value) (A : Option Addr) (k c : Nat) (hv : sv = .slice A k c) :
  Calls Tryz.prog 80 #[.int .i64 N, sv] w fun e w' => e = .returned (.func (.func 135) #[] #[.pointer (some ⟨w.heap.size, 0, none⟩), .pointer (some ⟨w.heap.size + 1, 0, none⟩)]) ∧ Blk w' w.heap.size 3 [.int .i64 N] ∧ Blk w' (w.heap.size + 1) 44 [sv] ∧ Below w.heap.size w w' := by
 subst hv
 go_enter Tryz.func80, Tryz.ntmps80
 go_wp2_with fail
 obtain ⟨W, hW, P0, P1, PB, Phs⟩ := box2 w 3 [.int .i64 N] 44 [.slice A k c]
 rw [← hW]
 clear hW
 go_ret
 exact ⟨rfl, P0.out, P1.out, PB.out⟩

set_option maxRecDepth 1000000 in
set_option maxHeartbeats 8000000 in
theorem gramsSeq (n : Nat) (hn : 1 ≤ n) (w : World) (B m : Nat) (sv : Value) (s : List Int) (gN gS : Nat) (hm : m ≤ 3) (hs : s.length ≤ 1000000) (hN : Blk w gN 3 [.int .i64 ((m : Int) + 1)]) (hS : Blk w gS 44 [sv]) (hI : IntsAt w sv s) (hB : B ≤ gN) :
  SeqSeen Fence.wide n Tryz.prog 135 #[.pointer (some ⟨gN, 0, none⟩), .pointer (some ⟨gS, 0, none⟩)] (s.length + 1) (fun i v W => IntsAt W v ((gramsL m s).getD i [])) B w := by
 intro l J W hW hJ hY h0
 have HJ := Lib.hid hJ
 have HY := Lib.hid hY
 have J0 := Lib.hid h0
 have NW := Lib.hid (hN.below' hW)
 have SW := Lib.hid (hS.below' hW)
 have IW := Lib.hid (hI.below hW)
 have hBW : B ≤ W.heap.size := by have := hN.lt; have := hW.size; omega
 clear hJ hY h0 hN hS hI hW
 obtain ⟨Av, cv, rfl, hvc, hvm, _⟩ := IW.out.open_
 obtain ⟨i0, gi, gz0, gz1, gz2⟩ := info_parts infoInt
 have c0 := NW.out.cell 0
 have c1 := SW.out.cell 0
 simp only [List.getElem?_cons_zero] at c0 c1
 have i1 : IntKind.i64.wrap ((m : Int) + 1 - 1) = (m : Int) := by rw [show (m : Int) + 1 - 1 = m by omega]; exact IntWalk.i64_in _ (by omega)
 have i2 : IntKind.i64.wrap (m : Int) = (m : Int) := IntWalk.i64_in _ (by omega)
 refine callsIn_wide.2 ?_
 show Calls Tryz.prog 135 #[.func (.yield l) #[] #[], .pointer (some ⟨gN, 0, none⟩), .pointer (some ⟨gS, 0, none⟩)] W _
 go_enter Tryz.func135, Tryz.ntmps135
 obtain ⟨W1, hmk, ho1, hg1⟩ := run_make_ints W.drew m (by omega)
 have HO1 : Hid (W1.ownsRow W.heap.size 3 1 (.slice (some ⟨W.heap.size, 0, none⟩) m m) m (List.replicate m (.int .i64 0))) := Lib.hid ho1
 have B1 : Hid (Below W.heap.size W W1) := Lib.hid (below_of_drew ((Below.refl _ W.drew).grown hg1 (Nat.le_refl _) (by simp)))
 have hmk' : (Instr.makeSlice 44 (.int .i64 (m : Int)) (.int .i64 (m : Int))).run Tryz.prog W.drew = .ok (.slice (some ⟨W.heap.size, 0, none⟩) m m) W1 := hmk
 have hs1 : W.heap.size ≤ W1.heap.size := B1.out.size
 have hSd : W1.cell? ⟨gN, 0, none⟩ = some (.int .i64 ((m : Int) + 1)) ∧ W1.cell? ⟨gS, 0, none⟩ = some (.slice Av s.length cv) := ⟨(NW.out.below' B1.out).cell 0, (SW.out.below' B1.out).cell 0⟩
 have hS := And.intro c0 c1
 clear hmk ho1 hg1
 go_wp2_with fail
 go_region_held3 (fun w' => w'.cell? ⟨gN, 0, none⟩ = some (.int .i64 ((m : Int) + 1)) ∧ w'.cell? ⟨gS, 0, none⟩ = some (.slice Av s.length cv))
  (first | assumption | go_keep)
  (first
   | (refine step_append_sl rfl (Operand.tmp 8) (Operand.tmp 9) 44 rfl W.heap.size 3 i0 (.int .i64 0) 1 8 Tryz.underlying44 gi gz0 gz1 gz2 rfl (by decide) (.slice (some ⟨W.heap.size, 0, none⟩) m m) m _ rfl HO1.out (.slice Av s.length cv) s.length (s.map (Value.int .i64)) rfl (IW.out.below B1.out) (ints_one s) (by unfold maxLen; omega) (by omega) hs1 ?_; intro v2 w2 t1 t2 _; have HO2 := Lib.hid t1; have B2 : Hid (Below W.heap.size W w2) := Lib.hid (B1.out.grown t2 hs1 (own_block_le (From.of_own HO1.out))); have hs2 : W.heap.size ≤ w2.heap.size := B2.out.size; have hSd2 : w2.cell? ⟨gN, 0, none⟩ = some (.int .i64 ((m : Int) + 1)) ∧ w2.cell? ⟨gS, 0, none⟩ = some (.slice Av s.length cv) := ⟨(NW.out.below' B2.out).cell 0, (SW.out.below' B2.out).cell 0⟩; clear t1 t2))
 clear hSd hSd2 hS hmk' c0 c1
 go_wp2_with (at_builtin; refine wpList_append_sl rfl (.tmp 11) (.tmp 12) 44 rfl W.heap.size 3 i0 (.int .i64 0) 1 8 Tryz.underlying44 gi gz0 gz1 gz2 rfl (by decide) _ _ _ rfl (own_below HO2.out (Below.alloc (Below.refl _ _) (Nat.le_refl _) _)) _ 1 [.int .i64 0] rfl (Sl.one _ _ _) (by simp [Value.oneCell']) (by unfold maxLen; omega) (by omega) (by simp; omega) ?_)
 intro v3 w3 t1 t2 _
 have HO3 : Hid (w3.ownsRow W.heap.size 3 1 v3 (m + s.length + 1) ((fullL m s).map (Value.int .i64))) := Lib.hid (by
  have := t1
  simpa [fullL, List.map_append, List.map_replicate, Nat.add_assoc] using this)
 have B3 : Hid (Below W.heap.size W w3) := Lib.hid ((B2.out.alloc hs2 _).grown t2 (by simp; omega) (own_block_le (From.of_own HO2.out)))
 have hs3 : W.heap.size ≤ w3.heap.size := B3.out.size
 clear t1 t2
 obtain ⟨g, cap, rfl, hcap, hcm⟩ : ∃ g cap, v3 = .slice (some ⟨g, 0, none⟩) (m + s.length + 1) cap ∧ m + s.length + 1 ≤ cap ∧ cap ≤ 9223372036854775807 := by
  obtain ⟨h0, ⟨_, h1⟩ | ⟨g, cap, cur, hv, hb, hh, hn, hc, _⟩⟩ := HO3.out
  ·simp at h1
  ·exact ⟨g, cap, hv, hn, by unfold maxLen at hc; omega⟩
 have hgW : W.heap.size ≤ g := own_ge HO3.out
 obtain ⟨L, hL⟩ : ∃ L, m + s.length + 1 = L := ⟨_, rfl⟩
 have SL3 : Hid (Sl w3 1 (.slice (some ⟨g, 0, none⟩) L cap) L ((fullL m s).map (Value.int .i64))) := Lib.hid (by rw [← hL]; exact Sl.of_own HO3.out)
 have N3 := Lib.hid (NW.out.below' B3.out)
 have J3 := Lib.hid (HJ.out 0 W w3 J0.out B3.out)
 rw [hL] at hcap ⊢
 obtain ⟨p, hp⟩ : ∃ p, s.length = p := ⟨_, rfl⟩
 have HP := Lib.hid hp
 rw [hp] at hL hs ⊢
 clear hp HO3 HO2 HO1 B1 B2 B3 J0
 go_wp2_with fail
 refine (wpIn_wide (n := n)).1 ?_
 gi_loopw [5] (fun i wr => ∃ (j : Nat), i = .int .i64 j ∧ j ≤ p + 1 ∧ Hid (J j wr) ∧ Hid (Blk wr gN 3 [.int .i64 ((m : Int) + 1)]) ∧ Hid (Sl wr 1 (.slice (some ⟨g, 0, none⟩) L cap) L ((fullL m s).map (Value.int .i64))))
  (fun i _ => p + 1 - (intOf i).toNat)
 case atStart => exact ⟨0, rfl, by omega, J3, N3, SL3⟩
 case round =>
  clear J3 N3 SL3
  obtain ⟨j, rfl, hj, JJ, NR, SL⟩ := hrel
  have c0 := NR.out.cell 0
  simp only [List.getElem?_cons_zero] at c0
  by_cases hlt : j ≤ p
  ·have d1 : decide ((j : Int) + ((m : Int) + 1) ≤ (L : Int)) = true := decide_eq_true (by omega)
   have HX : Hid (IntsAt wr (.slice (some ⟨g, j, none⟩) (m + 1) (m + 1)) ((gramsL m s).getD j [])) := Lib.hid (by
    rw [gramsL_get (by rw [HP.out]; exact hlt)]
    have e : (((fullL m s).drop j).take (m + 1)).length = m + 1 := by rw [List.length_take, List.length_drop, fullL_length, HP.out]; omega
    have h1 := win_at (j := j) (n := m + 1) SL.out (by omega) (by rw [fullL_length, HP.out]; exact hL)
    unfold IntsAt at h1 ⊢
    rw [e] at h1 ⊢
    exact h1.recap (Nat.le_refl _) (by unfold maxLen; omega))
   obtain ⟨fn, tmps, assign, body, hy, hR⟩ := HY.out j (.slice (some ⟨g, j, none⟩) (m + 1) (m + 1)) wr (by rw [HP.out]; omega) HX.out JJ.out
   have HR := Lib.hid hR
   clear hR
   gi_wp2
   refine HR.out.mono ?_
   rintro e W3 ⟨rfl, hJ3, hm3⟩
   have JJ3 := Lib.hid hJ3
   have NR3 := Lib.hid (NR.out.mid hm3 hB)
   have SL3 := Lib.hid (SL.out.mid hm3 (by omega))
   clear hJ3 hm3 hy c0
   gi_wp2
   go_roundw
   case rel => exact ⟨j + 1, rfl, by omega, JJ3, NR3, SL3⟩
   case measure => simp [intOf]; omega
  ·obtain rfl : j = p + 1 := by omega
   have d1 : decide ((p : Int) + 1 + ((m : Int) + 1) ≤ (L : Int)) = false := decide_eq_false (by omega)
   gi_wp2
   go_end0
   exact ⟨⟨_, rfl⟩, by rw [HP.out]; exact JJ.out⟩
end
end Go.Proofs.YtjebfdfkjlkifaaGreat
