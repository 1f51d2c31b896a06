/- Lemmas on the way: Rw2. -/
import Derived.Test.YtlhankdkhiilkaaGreatI31
set_option linter.unusedSimpArgs false
set_option linter.unusedVariables false
set_option linter.unusedSectionVars false
set_option linter.unnecessarySimpa false
namespace Go.Proofs.YtlhankdkhiilkaaGreat
open Go.RowKit
set_option maxRecDepth 1000000 in
set_option maxHeartbeats 16000000 in
theorem rowAdded (w : World) (O v : Nat) (lv : Value) (gs : List Gr) (s : Bool) (A A' : Option Addr) (m c m' c' : Nat) (mv : Value) (a : Rat) (mix : List Rat) (hv : Value) (hl : List Int) (h : LangAt w lv gs s A A' m c m' c' a mv mix) (hh : IntsAt w hv hl) (hE : histE O v gs 1 a mix hl = 0) (hv8 : v ≤ 8) :
  Calls Tryz.prog 69 #[langV O v lv 1 s A A' m c m' c' mv, hv] w (RowOk w v (addedQ (totN O gs O hl) v a)) := by
 obtain ⟨Al, cl, rfl, _, _, _⟩ := h.grams.open_
 obtain ⟨Am, cm, rfl, _, _, _⟩ := h.mixes.open_
 obtain ⟨Ah, ch, rfl, hlc, hcm, _⟩ := hh.open_
 have HL := Lib.hid h
 have HI := Lib.hid hh
 have HE := Lib.hid hE
 have HG := Lib.hid (table_good (hist_ok hE).1)
 have HT := Lib.hid (table_small (hist_ok hE).1 hv8)
 have hO := HG.out.2.1
 have HLN : Hid (hl.length = O - 1) := Lib.hid (by have := (hist_ok hE).2.2.1; omega)
 have HNK : Hid (NiceK hl) := Lib.hid ⟨by have := HLN.out; omega, fun x hx => by have := (hist_ok hE).2.2.2 x hx; omega⟩
 have VA := Lib.hid (valid_added (hist_ok hE).2.1)
 have hm := methA
 clear h hh hE
 unfold langV
 go_enter Tryz.func69, Tryz.ntmps69
 go_wp2_with fail
 obtain ⟨W, hW, P0, PB, Phs⟩ := box1 w 69 [.int .i64 O, .int .i64 v, .slice Al gs.length cl, .int .i64 1, .bool s, .slice A m c, .slice A' m' c', .slice Am mix.length cm]
 rw [← hW]
 clear hW
 obtain ⟨p0, p1, p2, p3, p4, p5, p6, p7⟩ := eight P0.out
 go_wp2_with fail
 refine (checkHistG W O v (.slice Al gs.length cl) gs 1 s A A' m c m' c' (.slice Am mix.length cm) a mix _ hl (HL.out.below PB.out) (HI.out.below PB.out)).mono ?_
 rintro e w1 ⟨rfl, hb1⟩
 rw [HE.out]
 have P1 := Lib.hid (P0.out.below' hb1)
 have B1 := Lib.hid (PB.out.trans (hb1.mono PB.out.size))
 clear p0 p1 p2 p3 p4 p5 p6 p7 hb1 P0 PB
 obtain ⟨p0, p1, p2, p3, p4, p5, p6, p7⟩ := eight P1.out
 have hS := eight P1.out
 go_wp2_with fail
 go_region_held3 (fun w' => w'.cell? ⟨w.heap.size, 0, none⟩ = some (.int .i64 O) ∧ w'.cell? ⟨w.heap.size, 1, none⟩ = some (.int .i64 v) ∧ w'.cell? ⟨w.heap.size, 2, none⟩ = some (.slice Al gs.length cl) ∧ w'.cell? ⟨w.heap.size, 3, none⟩ = some (.int .i64 1) ∧ w'.cell? ⟨w.heap.size, 4, none⟩ = some (.bool s) ∧ w'.cell? ⟨w.heap.size, 5, none⟩ = some (.slice A m c) ∧ w'.cell? ⟨w.heap.size, 6, none⟩ = some (.slice A' m' c') ∧ w'.cell? ⟨w.heap.size, 7, none⟩ = some (.slice Am mix.length cm))
  (first | assumption | go_keep)
  (first
   | (go_at_call 108; refine (wayG _ O v (.slice Al gs.length cl) gs 1 s A A' m c m' c' Am mix.length cm ((HL.out.grams.below B1.out).below (below_drew_self _)) HG.out (by have := HT.out.2.2.2; omega)).mono ?_; rintro e wl ⟨b, rfl, hlv, hb'⟩; have hb := below_of_drew hb'; have BB := Lib.hid (B1.out.trans (hb.mono B1.out.size)); have LV := Lib.hid hlv; have R1 := Lib.hid hb; have hS := eight (P1.out.below' hb); (unfold wayV; rw [if_neg (by decide), if_neg (by decide), if_neg (by decide)]); clear hlv hb hb')
   | (go_at_call 213; refine (addedG _ O O b v _ gs hl s A A' m c m' c' a LV.out ⟨by omega, Nat.le_refl _⟩ (by omega) (HI.out.below BB.out) HLN.out HNK.out (HL.out.amount.below BB.out) VA.out.1 HT.out.2.2.2 HT.out.1 HT.out.2.1 HT.out.2.2.1).mono ?_; rintro e w2 ⟨b2, rfl, hb2, hf2, hbl⟩; have F2 := Lib.hid hf2; have B2 := Lib.hid (BB.out.trans (hbl.mono BB.out.size)); have s2 : w.heap.size ≤ b2 := Nat.le_trans BB.out.size hb2; have hS := eight ((P1.out.below' R1.out).below' hbl); clear hf2 hbl hb2))
 all_goals
  go_wp2_with fail
  go_ret2
  exact ⟨b2, rfl, s2, F2.out, B2.out⟩
end Go.Proofs.YtlhankdkhiilkaaGreat
