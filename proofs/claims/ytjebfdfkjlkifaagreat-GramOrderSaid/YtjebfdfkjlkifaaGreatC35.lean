/- Lemmas on the way: Wg1. -/
import Derived.Test.YtjebfdfkjlkifaaGreatC34
import Derived.Test.YtjebfdfkjlkifaaGreatC33
import Derived.Lib.SliceRun
set_option linter.unusedSimpArgs false
set_option linter.unusedVariables false
set_option linter.unusedSectionVars false
set_option linter.unnecessarySimpa false
namespace Go.Proofs.YtjebfdfkjlkifaaGreat
open Go.RowKit
section
attribute [local go_sem] Oper.semAt_some

def sayL (row : List Int → List Rat) (m : Nat) (gl : List (List Int)) : Rat := gl.foldl (fun p g => p * (row (g.take m)).getD (g.getD m 0).toNat 0) 1
def sayQ (row : List Int → List Rat) (m : Nat) (s : List Int) : Rat := sayL row m (gramsL m s)
theorem sayL_snoc (row : List Int → List Rat) (m : Nat) (gl : List (List Int)) (g : List Int) : sayL row m (gl ++ [g]) = sayL row m gl * (row (g.take m)).getD (g.getD m 0).toNat 0 := by simp [sayL]
theorem sayL_qb {row : List Int → List Rat} (hq : ∀ h, ∀ q ∈ row h, QB 5000000 q) (m : Nat) (gl : List (List Int)) : QB (1 + gl.length * 5000000) (sayL row m gl) := by
 have key : ∀ (gl : List (List Int)) (k : Nat) (p : Rat), QB k p → QB (k + gl.length * 5000000) (gl.foldl (fun p g => p * (row (g.take m)).getD (g.getD m 0).toNat 0) p) := by
  intro gl
  induction gl with
  | nil => intro k p hp; simpa using hp
  | cons g gl ih =>
   intro k p hp
   rw [List.foldl_cons, List.length_cons]
   exact (ih _ _ (hp.mul (getD_mem (i := (g.getD m 0).toNat) (P := fun q => QB 5000000 q) (qb_zero _ (by omega)) (hq (g.take m))))).mono (by omega)
 exact key gl 1 1 (qb_nat (n := 1) (by omega) (by omega))
def rowV (v b : Nat) : Value := .slice (some ⟨b, 0, none⟩) (v + 1) (v + 1)
theorem IntsAt.head_ {w : World} {A : Option Addr} {n c k : Nat} {l : List Int} (h : IntsAt w (.slice A n c) l) (hl : l.length = n) (hk : k ≤ n) : IntsAt w (.slice A k c) (l.take k) := by
 unfold IntsAt at h ⊢
 rw [hl] at h
 have := Sl.head h hk
 rw [List.length_take, hl, Nat.min_eq_left hk, List.map_take]
 simpa using this
theorem fullL_all {m : Nat} {s : List Int} {v : Int} (hv : 0 ≤ v) (h : ∀ x ∈ s, 1 ≤ x ∧ x ≤ v) : ∀ x ∈ fullL m s, 0 ≤ x ∧ x ≤ v := by
 intro x hx
 unfold fullL at hx
 rcases List.mem_append.1 hx with hx | hx
 ·rcases List.mem_append.1 hx with hx | hx
  ·rw [List.eq_of_mem_replicate hx]; omega
  ·have := h x hx; omega
 ·rw [List.mem_singleton.1 hx]; omega
theorem gram_all {m i : Nat} {s : List Int} {v : Int} (hv : 0 ≤ v) (h : ∀ x ∈ s, 1 ≤ x ∧ x ≤ v) (hi : i < s.length + 1) : ((gramsL m s).getD i []).length = m + 1 ∧ ∀ x ∈ (gramsL m s).getD i [], 0 ≤ x ∧ x ≤ v := by
 rw [gramsL_get (by omega)]
 refine ⟨by rw [List.length_take, List.length_drop, fullL_length]; omega, fun x hx => fullL_all hv h x (List.mem_of_mem_drop (List.mem_of_mem_take hx))⟩
theorem take_gram {m i : Nat} {s : List Int} (hi : i < s.length + 1) : (gramsL m s).take (i + 1) = (gramsL m s).take i ++ [(gramsL m s).getD i []] := by
 have hl : i < (gramsL m s).length := by simp [gramsL]; omega
 rw [List.take_succ_eq_append_getElem hl, List.getD_eq_getElem?_getD, List.getElem?_eq_getElem hl]
 rfl
theorem zeroFracs (w : World) : (zeroValue 41).run Tryz.prog w = .ok (.slice none 0 0) w := by kernel_rfl
def WgI (w1 : World) (b5 b6 b7 b8 bk mo v : Nat) (ifv : Value) (row : List Int → List Rat) (sl : List Int) (i : Nat) (W : World) : Prop :=
 Below w1.heap.size w1 W ∧ Blk W b5 128 [ifv] ∧ Blk W b6 186 [.map (some bk)] ∧ Blk W b8 3 [.int .i64 ((mo : Int) + 1)] ∧ BoxC W b7 (sayL row mo ((gramsL mo sl).take i)) ∧
  ∃ km : List (List Int × Nat), TMap keyV (rowV v) W 120 bk km ∧ ∀ e ∈ km, NiceK e.1 ∧ FArc W e.2 (row e.1) ∧ e.2 ≠ b7
theorem wgI_own {w1 : World} {b5 b6 b7 b8 bk mo v B : Nat} {ifv : Value} {row : List Int → List Rat} {sl : List Int} (hB : w1.heap.size ≤ B) (hk : bk < B) : OwnFrom B (WgI w1 b5 b6 b7 b8 bk mo v ifv row sl) := by
 intro i W W' r h hg hr
 obtain ⟨h1, h2, h3, h4, h5, km, h6, h7⟩ := h
 have hc : Calm W W' := Calm.of_grown hg (fun r' e => (hr r' e).2)
 refine ⟨h1.grown hg h1.size (fun k e => Nat.le_trans hB (hr k e).1), h2.calm hc, h3.calm hc, h4.calm hc, h5.calm hc, km, h6.kept hg (fun e => by have := (hr bk e.symm).1; omega), fun e he => ?_⟩
 obtain ⟨g1, g2, g3⟩ := h7 e he
 exact ⟨g1, g2.calm hc, g3⟩
theorem ints_own {B : Nat} {v : Value} {l : List Int} : OwnFrom B (fun (_ : Unit) W => IntsAt W v l) := fun _ W W' r h hg hr => IntsAt.calm h (Calm.of_grown hg (fun r' e => (hr r' e).2))

set_option maxRecDepth 1000000 in
set_option maxHeartbeats 16000000 in
theorem weighG (w : World) (O v : Nat) (lv : Value) (gs : List Gr) (k : Int) (s : Bool) (A A' : Option Addr) (m c m' c' : Nat) (mv : Value) (a : Rat) (mix : List Rat) (sv : Value) (sl : List Int) (h : LangAt w lv gs s A A' m c m' c' a mv mix) (hs : IntsAt w sv sl) (hE : tableE O v gs = 0) (hv8 : v ≤ 8) (hin : inR 1 v sl = true) (hsl : sl.length ≤ 500)
  (T : TypeId) (rv : Nat → Value) (F : FuncId) (row : List Int → List Rat)
  (hway : ∀ b Am nm cm, mv = .slice Am nm cm → wayV k b O v s A A' m c m' c' mv = .iface T (rv b))
  (hmeth : ∀ b w, (method 358 T (rv b) "earshot/gram.row").run Tryz.prog w = .ok (F, rv b) w)
  (hnil : ∀ b w, (nilAhead 358 T (rv b) "earshot/gram.row").run Tryz.prog w = .ok (some false) w)
  (hcf : ∀ args w, (callFunc F args).run Tryz.prog w = .ok (.enter F args) w)
  (hrow : ∀ b wl, LvsAt wl b O 0 gs → Below w.heap.size w wl → ∀ W hv h, Below wl.heap.size wl W → IntsAt W hv h → h.length = O - 1 → NiceK h → Calls Tryz.prog F #[rv b, .int .i64 O, hv] W (RowNew W v (row h)))
  (hq : ∀ h, ∀ q ∈ row h, QB 5000000 q) (hlen : ∀ h, (row h).length = v + 1) :
  Calls Tryz.prog 104 #[langV O v lv k s A A' m c m' c' mv, sv] w fun e w' => ∃ u, e = .returned u ∧ CanAt w' u (sayQ row (O - 1) sl) ∧ Below w.heap.size w w' := by
 obtain ⟨Al, cl, rfl, _, _, _⟩ := h.grams.open_
 obtain ⟨Am, cm, rfl, _, _, _⟩ := h.mixes.open_
 obtain ⟨As, cs, rfl, hsc, hsm, _⟩ := hs.open_
 have HL := Lib.hid h
 have HS := Lib.hid hs
 have HG := Lib.hid (table_good hE)
 have HW := Lib.hid hway
 have HM := Lib.hid hmeth
 have HNI := Lib.hid hnil
 have HCF := Lib.hid hcf
 have HR := Lib.hid hrow
 have HQ := Lib.hid hq
 have HLN := Lib.hid hlen
 have HIN := Lib.hid (inR_all hin)
 have hO := HG.out.2.1
 obtain ⟨mo, rfl⟩ : ∃ mo, O = mo + 1 := ⟨O - 1, by omega⟩
 obtain ⟨ns, hns⟩ : ∃ n, sl.length = n := ⟨_, rfl⟩
 rw [hns] at hsc hsl HS ⊢
 have HNS := Lib.hid hns
 clear h hs hE hway hmeth hnil hcf hrow hq hlen hin hns
 unfold langV
 refine (callsIn_wide (n := 10)).1 ?_
 refine callsIn_of_wp_marks Tryz.func104 rfl trivial ?_ rfl
 simp only [Tryz.ntmps104, List.size_toArray, List.length_cons, List.length_nil, Nat.reduceAdd, Nat.reduceSub, Array.replicate_succ, Array.replicate_zero, List.push_toArray, List.append_toArray, List.nil_append, List.cons_append]
 refine (wpIn_wide (n := 10)).2 ?_
 have hmm := @run_makeMap Tryz.prog
 go_wp2_with fail
 obtain ⟨W, hW, P0, P1, PB, Phs⟩ := box2 w 43 [.int .i64 ((mo : Int) + 1), .int .i64 v, .slice Al gs.length cl, .int .i64 k, .bool s, .slice A m c, .slice A' m' c', .slice Am mix.length cm] 40 [.bool false, .slice none 0 0, .slice none 0 0]
 rw [← hW]
 clear hW
 refine (wayG W (mo + 1) v (.slice Al gs.length cl) gs k s A A' m c m' c' Am mix.length cm (HL.out.grams.below PB.out) HG.out (by omega)).mono ?_
 rintro e w1 ⟨b, rfl, hlv, hb1⟩
 rw [HW.out b _ _ _ rfl]
 have LV := Lib.hid hlv
 have R1 : Hid (BoxC w1 (w.heap.size + 1) 0) := Lib.hid ((BoxC.of (q := 0) P1.out ((CanNew.zero_ 0 W).at_)).below hb1)
 have P1 := Lib.hid (P0.out.below' hb1)
 have B1 := Lib.hid (PB.out.trans (hb1.mono PB.out.size))
 clear hlv hb1 PB P0
 have hRC := HR.out b w1 LV.out B1.out
 have RC := Lib.hid hRC
 clear hRC
 have z1 : w.heap.size + 1 < w1.heap.size := R1.out.lt
 have q0 := (eight P1.out).1
 go_wp2_with fail
 obtain ⟨W2, hW2⟩ : ∃ W2, W2 = ((w1.alloc (.cells #[.iface T (rv b)] 128)).alloc (.map #[] 0)).alloc (.cells #[.map (some (w1.heap.size + 1))] 186) := ⟨_, rfl⟩
 have D5 : Hid (Blk W2 w1.heap.size 128 [.iface T (rv b)]) := Lib.hid (by rw [hW2]; exact ((Blk.new w1 _ _).alloc _).alloc _)
 have M6 : Hid (TMap keyV (rowV v) W2 120 (w1.heap.size + 1) ([] : List (List Int × Nat))) := Lib.hid (by
  rw [hW2]
  have := TMap.made (w1.alloc (.cells #[.iface T (rv b)] 128)) keyV (rowV v) 120
  rw [World.size_alloc] at this
  exact this.below ((Below.refl _ _).alloc (Nat.le_refl _) _))
 have D6 : Hid (Blk W2 (w1.heap.size + 2) 186 [.map (some (w1.heap.size + 1))]) := Lib.hid (by
  rw [hW2]
  have := Blk.new ((w1.alloc (.cells #[.iface T (rv b)] 128)).alloc (.map #[] 0)) 186 [.map (some (w1.heap.size + 1))]
  rwa [World.size_alloc, World.size_alloc] at this)
 have X2 : Hid (Below w1.heap.size w1 W2) := Lib.hid (by
  rw [hW2]
  exact (((Below.refl _ w1).alloc (Nat.le_refl _) _).alloc (by simp) _).alloc (by simp; omega) _)
 rw [← hW2]
 clear hW2
 refine (ofI W2 1 (by omega) (by omega)).mono ?_
 rintro e w3 ⟨u1, rfl, t1, hb3⟩
 obtain ⟨un, hun⟩ : ∃ x : Rat, ((1 : Int) : Rat) = x := ⟨_, rfl⟩
 rw [hun] at t1
 have HUN : Hid (un = 1) := Lib.hid (by rw [← hun]; rfl)
 clear hun
 obtain ⟨Ao, mo', co, Ao', mo'', co', rfl⟩ := t1.at_.open_
 have T1 := Lib.hid t1.at_
 have X3 := Lib.hid (X2.out.trans (hb3.mono X2.out.size))
 have D5' := Lib.hid (D5.out.below' hb3)
 have D6' := Lib.hid (D6.out.below' hb3)
 have M6' := Lib.hid (M6.out.below hb3)
 have P3 := Lib.hid (P1.out.below' X3.out)
 clear t1 hb3 q0 D5 D6 M6 X2
 have q0 := (eight P3.out).1
 have z3 : w1.heap.size + 2 < w3.heap.size := D6'.out.lt
 have z4 : w.heap.size < w3.heap.size := P3.out.lt
 have z5 : w1.heap.size < w3.heap.size := by omega
 go_wp2_with fail
 obtain ⟨W4, hW4, G0, G1, GB, Ghs⟩ := box2 w3 40 [.bool (isNeg un), .slice Ao mo' co, .slice Ao' mo'' co'] 3 [.int .i64 ((mo : Int) + 1)]
 rw [← hW4]
 clear hW4
 refine (gramsF W4 ((mo : Int) + 1) _ As ns cs rfl).mono ?_
 rintro e w5 ⟨rfl, hgN, hgS, hb5⟩
 have X5 := Lib.hid (X3.out.trans ((GB.out.trans (hb5.mono GB.out.size)).mono X3.out.size))
 have GN := Lib.hid hgN
 have GS := Lib.hid hgS
 have BX7 : Hid (BoxC w5 w3.heap.size un) := Lib.hid ((BoxC.of G0.out (T1.out.below GB.out)).below hb5)
 have D8 := Lib.hid (G1.out.below' hb5)
 have B35 := Lib.hid (GB.out.trans (hb5.mono GB.out.size))
 have D5 := Lib.hid (D5'.out.below' B35.out)
 have D6 := Lib.hid (D6'.out.below' B35.out)
 have M6 := Lib.hid (M6'.out.below B35.out)
 have P5 := Lib.hid (P3.out.below' B35.out)
 have z6 : w3.heap.size + 2 ≤ W4.heap.size := Ghs
 have z7 : W4.heap.size + 1 < w5.heap.size := GS.out.lt
 clear hgN hgS hb5 q0 D5' D6' M6' P3 P1 X3 G0 G1 GB T1
 go_wp2_with fail
 refine (wpIn_wide (n := 10)).1 ?_
 gi_wp2
 have hsh := HS.out.below (B1.out.trans (X5.out.mono (by have := B1.out.size; omega)))
 have HSQ := Lib.hid (gramsSeq 9 (by omega) w5 W4.heap.size mo (.slice As ns cs) sl W4.heap.size (W4.heap.size + 1) (by omega) (by rw [HNS.out]; omega) GN.out GS.out hsh (Nat.le_refl _))
 have I5 : Hid (WgI w1 w1.heap.size (w1.heap.size + 2) w3.heap.size (w3.heap.size + 1) (w1.heap.size + 1) mo v (.iface T (rv b)) row sl 0 w5) := Lib.hid ⟨X5.out, D5.out, D6.out, D8.out, by
  have := BX7.out
  rw [HUN.out] at this
  exact this, [], M6.out, fun e he => by cases he⟩
 clear hsh GN GS D5 D6 D8 BX7 M6 B35
 refine wpIn_rangeFunc_seen rfl (by omega) (gf := 135) (lb := #[.pointer (some ⟨W4.heap.size, 0, none⟩), .pointer (some ⟨W4.heap.size + 1, 0, none⟩)]) rfl trivial (fun args w => by kernel_rfl) (fun i v => ints_own) (B := W4.heap.size) (by omega) HSQ.out rfl
  (WgI w1 w1.heap.size (w1.heap.size + 2) w3.heap.size (w3.heap.size + 1) (w1.heap.size + 1) mo v (.iface T (rv b)) row sl) (wgI_own X5.out.size (by omega)) I5.out
  (fun xx => { tmps := #[.agg #[.int .i64 ((mo : Int) + 1), .int .i64 v, .slice Al gs.length cl, .int .i64 k, .bool s, .slice A m c, .slice A' m' c', .slice Am mix.length cm], .slice As ns cs, .pointer (some ⟨w.heap.size, 0, none⟩), undef, .pointer (some ⟨w.heap.size + 1, 0, none⟩), .pointer (some ⟨w1.heap.size, 0, none⟩), .pointer (some ⟨w1.heap.size + 1 + 1, 0, none⟩), .pointer (some ⟨w3.heap.size, 0, none⟩), .pointer (some ⟨w3.heap.size + 1, 0, none⟩), xx, undef, .agg #[.int .i64 ((mo : Int) + 1), .int .i64 v, .slice Al gs.length cl, .int .i64 k, .bool s, .slice A m c, .slice A' m' c', .slice Am mix.length cm], .iface T (rv b), .map (some (w1.heap.size + 1)), .agg #[.bool (isNeg un), .slice Ao mo' co, .slice Ao' mo'' co'], .pointer (some ⟨w.heap.size, 0, none⟩), .pointer (some ⟨w.heap.size, 0, none⟩), .int .i64 ((mo : Int) + 1), .int .i64 ((mo : Int) + 1), .slice As ns cs, .func (.func 135) #[] #[.pointer (some ⟨W4.heap.size, 0, none⟩), .pointer (some ⟨W4.heap.size + 1, 0, none⟩)], xx, undef, undef, undef, undef, undef, undef, undef, undef, undef, undef, undef, undef, undef, undef, undef, undef, undef, undef, undef, undef, undef, undef, undef, undef, undef, undef, undef, undef, undef, undef, undef, undef, undef, undef], defers := [] }) ?assign ?body ?done
 case assign =>
  intro l x W K hK
  gi_wp2
  exact hK
 case body =>
  intro l i x W hi hx hI hlt
  obtain ⟨h1, h2, h3, h4, h5, km, h6, h7⟩ := hI
  have HGA := Lib.hid (gram_all (m := mo) (i := i) (s := sl) (v := (v : Int)) (by omega) HIN.out hi)
  have HTG := Lib.hid (take_gram (m := mo) hi)
  obtain ⟨g, hg⟩ : ∃ g, (gramsL mo sl).getD i [] = g := ⟨_, rfl⟩
  rw [hg] at hx HGA HTG
  obtain ⟨Ag, cg, rfl, hgc, hgm, hat⟩ := hx.open_
  have hgl := HGA.out.1
  rw [hgl] at hx hgc
  obtain ⟨y, hy⟩ : ∃ y, g[mo]? = some y := ⟨_, List.getElem?_eq_getElem (by omega)⟩
  obtain ⟨bg, og, rfl, hbg, cy⟩ := hat mo y hy
  have hyb := HGA.out.2 y (List.mem_of_getElem? hy)
  obtain ⟨yn, rfl⟩ := Int.eq_ofNat_of_zero_le hyb.1
  have HY : Hid (g.getD mo 0 = yn) := Lib.hid (by rw [List.getD_eq_getElem?_getD, hy]; rfl)
  have HGL := Lib.hid hgl
  have HX := Lib.hid hx
  have BW := Lib.hid h1
  have D5 := Lib.hid h2
  have D6 := Lib.hid h3
  have D8 := Lib.hid h4
  have BX := Lib.hid h5
  have KM := Lib.hid h6
  have KE := Lib.hid h7
  have HNK : Hid (NiceK (g.take mo)) := Lib.hid ⟨by rw [List.length_take]; omega, fun z hz => by have := HGA.out.2 z (List.mem_of_mem_take hz); omega⟩
  have HH : Hid (IntsAt W (.slice (some ⟨bg, og, none⟩) mo cg) (g.take mo)) := Lib.hid (IntsAt.head_ HX.out HGL.out (by omega))
  obtain ⟨k0, k1, k2, k3, hk⟩ := four (keyL_length HNK.out.1)
  have HKV : Hid (keyV (g.take mo) = .agg #[.int .i64 k0, .int .i64 k1, .int .i64 k2, .int .i64 k3]) := Lib.hid (by unfold keyV; rw [hk]; rfl)
  have CY := Lib.hid cy
  clear hx hat hy hgl h1 h2 h3 h4 h5 h6 h7 hg hk cy
  have d8 := D8.out.cell 0
  simp only [List.getElem?_cons_zero] at d8
  have s5 : w1.heap.size < W.heap.size := D5.out.lt
  have m1 : (0 : Int) ≤ (mo : Int) := by omega
  have m2 : (mo : Int) ≤ (cg : Int) := by omega
  rw [HGL.out]
  gi_wp2
  refine ⟨trivial, (CallsIn.inRound l (callsIn_wide.2 (keyedG W _ _ HH.out HNK.out.1 (fun z hz => by have := HNK.out.2 z hz; omega)))).mono ?_⟩
  rintro e w6 ⟨rfl, hb6⟩
  rw [HKV.out]
  have BW6 := Lib.hid (BW.out.trans (hb6.mono BW.out.size))
  have D5 := Lib.hid (D5.out.below' hb6)
  have D6 := Lib.hid (D6.out.below' hb6)
  have D8 := Lib.hid (D8.out.below' hb6)
  have BX := Lib.hid (BX.out.below hb6)
  have KM := Lib.hid (KM.out.below hb6)
  have KE : Hid (∀ e ∈ km, NiceK e.1 ∧ FArc w6 e.2 (row e.1) ∧ e.2 ≠ w3.heap.size) := Lib.hid (fun e he => ⟨(KE.out e he).1, (KE.out e he).2.1.below hb6, (KE.out e he).2.2⟩)
  have HH := Lib.hid (HH.out.below hb6)
  have HX := Lib.hid (HX.out.below hb6)
  have MW : Hid (Mid W4.heap.size W w6) := Lib.hid (Mid.of_below hb6)
  have hsz6 : W.heap.size ≤ w6.heap.size := hb6.size
  have HCY6 := Lib.hid ((hb6.cell (p := ⟨bg, og + mo, none⟩) hbg).trans CY.out)
  have hlook := (KM.out.below (below_alloc_self w6 (.cells #[.int .i64 k0, .int .i64 k1, .int .i64 k2, .int .i64 k3] 120))).look keyLaw (show Tryz.prog.underlying 186 = some (.map 120 41) from Tryz.underlying186) (zeroFracs _) HNK.out.good (fun e he h => (KE.out e he).1.inj HNK.out h)
  rw [HKV.out] at hlook
  have HLK := Lib.hid hlook
  have qT : ∀ (w : World) (a : Option Addr) (n c n' c' : Nat), (binOp .eql 41 (.slice a n c) (.slice none n' c')).run Tryz.prog w = .ok (.bool a.isNone) w := fun w a n c n' c' => Lib.run_eql_slice_nil w _ _ a n c n' c' Tryz.underlying41
  have d6 := D6.out.cell 0
  simp only [List.getElem?_cons_zero] at d6
  have z8 : w1.heap.size + 2 < w6.heap.size := D6.out.lt
  clear hb6 d8 hlook
  cases hlt' : lookT km (g.take mo) with
  | none =>
   have hlk := HLK.out
   rw [hlt'] at hlk
   simp only [Option.elim_none] at hlk
   have HLT := Lib.hid hlt'
   clear hlt' HLK
   obtain ⟨W7, hW7⟩ : ∃ W7, W7 = w6.alloc (.cells #[.int .i64 k0, .int .i64 k1, .int .i64 k2, .int .i64 k3] 120) := ⟨_, rfl⟩
   gi_wp2
   rw [← hW7]
   have KB : Hid (Blk W7 w6.heap.size 120 [.int .i64 k0, .int .i64 k1, .int .i64 k2, .int .i64 k3]) := Lib.hid (by rw [hW7]; exact Blk.new _ _ _)
   have HB67 : Hid (Below w6.heap.size w6 W7) := Lib.hid (by rw [hW7]; exact below_alloc_self _ _)
   have CY7 := Lib.hid ((HB67.out.cell (p := ⟨bg, og + mo, none⟩) (by show bg < w6.heap.size; omega)).trans (HCY6.out))
   have D5A := Lib.hid (D5.out.below' HB67.out)
   have D6A := Lib.hid (D6.out.below' HB67.out)
   have D8A := Lib.hid (D8.out.below' HB67.out)
   have KM7 := Lib.hid (KM.out.below HB67.out)
   have HH7 := Lib.hid (HH.out.below HB67.out)
   have hSet : ∀ w', Calm W7 w' → (fun w' => w'.cell? ⟨w1.heap.size + 2, 0, none⟩ = some (.map (some (w1.heap.size + 1))) ∧ w'.cell? ⟨w6.heap.size, 0, none⟩ = some (.int .i64 k0) ∧ w'.cell? ⟨w6.heap.size, 1, none⟩ = some (.int .i64 k1) ∧ w'.cell? ⟨w6.heap.size, 2, none⟩ = some (.int .i64 k2) ∧ w'.cell? ⟨w6.heap.size, 3, none⟩ = some (.int .i64 k3) ∧ w'.cell? ⟨w3.heap.size + 1, 0, none⟩ = some (.int .i64 ((mo : Int) + 1)) ∧ w'.cell? ⟨w1.heap.size, 0, none⟩ = some (.iface T (rv b))) w' := fun w' hw' =>
    ⟨(D6A.out.calm hw').cell 0, (KB.out.calm hw').cell 0, (KB.out.calm hw').cell 1, (KB.out.calm hw').cell 2, (KB.out.calm hw').cell 3, (D8A.out.calm hw').cell 0, (D5A.out.calm hw').cell 0⟩
   have HSET := Lib.hid hSet
   have i1 : IntKind.i64.wrap ((mo : Int) + 1 - 1) = (mo : Int) := by rw [show (mo : Int) + 1 - 1 = mo by omega]; exact IntWalk.i64_in _ (by omega)
   have i2 : IntKind.i64.wrap (mo : Int) = (mo : Int) := IntWalk.i64_in _ (by omega)
   have hm1 := HM.out b
   have hm2 := HNI.out b
   have hm3 := HCF.out
   clear hSet qT d6 hlk hW7
   refine region_in_round (S := fun w' => w'.cell? ⟨w1.heap.size + 2, 0, none⟩ = some (.map (some (w1.heap.size + 1))) ∧ w'.cell? ⟨w6.heap.size, 0, none⟩ = some (.int .i64 k0) ∧ w'.cell? ⟨w6.heap.size, 1, none⟩ = some (.int .i64 k1) ∧ w'.cell? ⟨w6.heap.size, 2, none⟩ = some (.int .i64 k2) ∧ w'.cell? ⟨w6.heap.size, 3, none⟩ = some (.int .i64 k3) ∧ w'.cell? ⟨w3.heap.size + 1, 0, none⟩ = some (.int .i64 ((mo : Int) + 1)) ∧ w'.cell? ⟨w1.heap.size, 0, none⟩ = some (.iface T (rv b))) (by kernel_rfl) (noDefer_spec (by kernel_rfl)) (fun h => by obtain ⟨a, w, h⟩ := h; exact h) (HSET.out _ (Calm.of_below (below_drew_self W7))) (fun hHeld => ?_)
   refine wpAnyH_take (i := 0) (v := ?_) rfl (by kernel_rfl) (by kernel_rfl) (by kernel_rfl) (fun _ _ _ h => h) (Or.inl ⟨by rfl, ?_⟩) (by assumption) ?_
   rotate_left
   ·(intro w' hSw; (try dsimp only at hSw); go_simp <;> with_reducible rfl)
   simp only [List.getElem_toArray, List.getElem_cons_succ, List.getElem_cons_zero, Act.put, List.setIfInBounds_toArray, List.set_cons_zero, List.set_cons_succ]
   refine wpAnyH_take (i := 1) (v := ?_) rfl (by kernel_rfl) (by kernel_rfl) (by kernel_rfl) (fun _ _ _ h => h) (Or.inl ⟨by rfl, ?_⟩) (by assumption) ?_
   rotate_left
   ·(intro w' hSw; (try dsimp only at hSw); go_simp <;> with_reducible rfl)
   simp only [List.getElem_toArray, List.getElem_cons_succ, List.getElem_cons_zero, Act.put, List.setIfInBounds_toArray, List.set_cons_zero, List.set_cons_succ]
   refine wpAnyH_take (i := 2) (v := ?_) rfl (by kernel_rfl) (by kernel_rfl) (by kernel_rfl) (fun _ _ _ h => h) (Or.inl ⟨by rfl, ?_⟩) (by assumption) ?_
   rotate_left
   ·(intro w' hSw; (try dsimp only at hSw); go_simp <;> with_reducible rfl)
   simp only [List.getElem_toArray, List.getElem_cons_succ, List.getElem_cons_zero, Act.put, List.setIfInBounds_toArray, List.set_cons_zero, List.set_cons_succ]
   refine wpAnyH_take (i := 3) (v := ?_) rfl (by kernel_rfl) (by kernel_rfl) (by kernel_rfl) (fun _ _ _ h => h) (Or.inl ⟨by rfl, ?_⟩) (by assumption) ?_
   rotate_left
   ·(intro w' hSw; (try dsimp only at hSw); go_simp <;> with_reducible rfl)
   simp only [List.getElem_toArray, List.getElem_cons_succ, List.getElem_cons_zero, Act.put, List.setIfInBounds_toArray, List.set_cons_zero, List.set_cons_succ]
   refine wpAnyH_take (i := 4) (v := ?_) rfl (by kernel_rfl) (by kernel_rfl) (by kernel_rfl) (fun _ _ _ h => h) (Or.inl ⟨by rfl, ?_⟩) (by assumption) ?_
   rotate_left
   ·(intro w' hSw; (try dsimp only at hSw); go_simp <;> with_reducible rfl)
   simp only [List.getElem_toArray, List.getElem_cons_succ, List.getElem_cons_zero, Act.put, List.setIfInBounds_toArray, List.set_cons_zero, List.set_cons_succ]
   refine wpAnyH_take (i := 5) (v := ?_) rfl (by kernel_rfl) (by kernel_rfl) (by kernel_rfl) (fun _ _ _ h => h) (Or.inl ⟨by rfl, ?_⟩) (by assumption) ?_
   rotate_left
   ·(intro w' hSw; (try dsimp only at hSw); go_simp <;> with_reducible rfl)
   simp only [List.getElem_toArray, List.getElem_cons_succ, List.getElem_cons_zero, Act.put, List.setIfInBounds_toArray, List.set_cons_zero, List.set_cons_succ]
   refine wpAnyH_take (i := 6) (v := ?_) rfl (by kernel_rfl) (by kernel_rfl) (by kernel_rfl) (fun _ _ _ h => h) (Or.inl ⟨by rfl, ?_⟩) (by assumption) ?_
   rotate_left
   ·(intro w' hSw; (try dsimp only at hSw); go_simp <;> with_reducible rfl)
   simp only [List.getElem_toArray, List.getElem_cons_succ, List.getElem_cons_zero, Act.put, List.setIfInBounds_toArray, List.set_cons_zero, List.set_cons_succ]
   refine wpAnyH_take (i := 7) (v := ?_) rfl (by kernel_rfl) (by kernel_rfl) (by kernel_rfl) (fun _ _ _ h => h) (Or.inl ⟨by rfl, ?_⟩) (by assumption) ?_
   rotate_left
   ·(intro w' hSw; (try dsimp only at hSw); go_simp <;> with_reducible rfl)
   simp only [List.getElem_toArray, List.getElem_cons_succ, List.getElem_cons_zero, Act.put, List.setIfInBounds_toArray, List.set_cons_zero, List.set_cons_succ]
   refine wpAnyH_take (i := 8) (v := ?_) rfl (by kernel_rfl) (by kernel_rfl) (by kernel_rfl) (fun _ _ _ h => h) (Or.inl ⟨by rfl, ?_⟩) (by assumption) ?_
   rotate_left
   ·(intro w' hSw; (try dsimp only at hSw); go_simp <;> with_reducible rfl)
   simp only [List.getElem_toArray, List.getElem_cons_succ, List.getElem_cons_zero, Act.put, List.setIfInBounds_toArray, List.set_cons_zero, List.set_cons_succ]
   refine wpAnyH_take (i := 9) (v := ?_) rfl (by kernel_rfl) (by kernel_rfl) (by kernel_rfl) (fun _ _ _ h => h) (Or.inl ⟨by rfl, ?_⟩) (by assumption) ?_
   rotate_left
   ·(intro w' hSw; (try dsimp only at hSw); go_simp <;> with_reducible rfl)
   simp only [List.getElem_toArray, List.getElem_cons_succ, List.getElem_cons_zero, Act.put, List.setIfInBounds_toArray, List.set_cons_zero, List.set_cons_succ]
   refine wpAnyH_take (i := 10) (v := ?_) rfl (by kernel_rfl) (by kernel_rfl) (by kernel_rfl) (fun _ _ _ h => h) (Or.inl ⟨by rfl, ?_⟩) (by assumption) ?_
   rotate_left
   ·(intro w' hSw; (try dsimp only at hSw); go_simp <;> with_reducible rfl)
   simp only [List.getElem_toArray, List.getElem_cons_succ, List.getElem_cons_zero, Act.put, List.setIfInBounds_toArray, List.set_cons_zero, List.set_cons_succ]
   refine wpAnyH_ready (rs := [11]) (by kernel_rfl) (by simp) ?_
   refine AllReadyH.cons rfl (fun K hK => ?_) AllReadyH.nil
   go_simp
   refine (RC.out W7.drew _ (g.take mo) (BW6.out.trans ((HB67.out.trans (below_drew_self W7)).mono BW6.out.size)) (HH7.out.below (below_drew_self W7)) (by rw [List.length_take, HGL.out]; omega) HNK.out).mono ?_
   rintro e wl ⟨b2, rfl, hb2, hf2, hb'⟩
   have hb := below_of_drew hb'
   have HB8 := Lib.hid hb
   have F2 := Lib.hid hf2
   have hb2' : W7.heap.size ≤ b2 := hb2
   have hH8 := HSET.out wl (Calm.of_below hb)
   have s8' : w6.heap.size < W7.heap.size := KB.out.lt
   have s9' : W7.heap.size ≤ wl.heap.size := hb.size
   clear hf2 hb' hb hHeld hb2 hm1 hm2 hm3
   obtain ⟨Wn, hrun, hkm, hgrow⟩ := (KM7.out.below HB8.out).update (e := 41) (t := 186) (k := g.take mo) keyLaw Tryz.underlying186 HNK.out.good (fun e he h => (KE.out e he).1.inj HNK.out h) b2
   rw [HKV.out] at hrun
   simp only [rowV] at hrun
   have CN : Hid (Calm wl Wn) := Lib.hid (Calm.of_grown hgrow (fun r e => by cases e; exact (KM7.out.below HB8.out).notCells))
   have HBN : Hid (Below w1.heap.size w1 Wn) := Lib.hid ((BW6.out.trans ((HB67.out.trans (HB8.out.mono HB67.out.size)).mono BW6.out.size)).grown hgrow (Nat.le_trans (Nat.le_trans BW6.out.size HB67.out.size) HB8.out.size) (fun k e => by cases e; omega))
   have MWN : Hid (Mid W4.heap.size W Wn) := Lib.hid ((MW.out.trans (Mid.of_below (HB67.out.trans (HB8.out.mono HB67.out.size)))).trans (Mid.of_grown hgrow (by omega)))
   have KMN := Lib.hid hkm
   have hHn := HSET.out Wn ((Calm.of_below HB8.out).trans CN.out)
   clear hkm hgrow
   try go_simp
   refine hK.out _ _ hH8 (fun hHeld => ?_)
   clear hK K hH8
   try simp only [List.getElem_toArray, List.getElem_cons_succ, List.getElem_cons_zero, Act.put, List.setIfInBounds_toArray, List.set_cons_zero, List.set_cons_succ]
   refine wpAnyH_ready (rs := [12]) (by kernel_rfl) (by simp) ?_
   refine AllReadyH.cons rfl (fun K hK => ?_) AllReadyH.nil
   go_simp
   refine hK.out _ _ hHn (fun hHeld => ?_)
   clear hK K hHn hrun
   try simp only [List.getElem_toArray, List.getElem_cons_succ, List.getElem_cons_zero, Act.put, List.setIfInBounds_toArray, List.set_cons_zero, List.set_cons_succ]
   refine wpAnyH_done (by kernel_rfl) ?_ _
   have D5 := Lib.hid ((D5A.out.below' HB8.out).calm CN.out)
   have D6 := Lib.hid ((D6A.out.below' HB8.out).calm CN.out)
   have D8 := Lib.hid ((D8A.out.below' HB8.out).calm CN.out)
   have BX := Lib.hid (((BX.out.below HB67.out).below HB8.out).calm CN.out)
   have CY7 := Lib.hid (CN.out.cell ((HB8.out.cell (p := ⟨bg, og + mo, none⟩) (by show bg < W7.heap.size; omega)).trans CY7.out))
   have HB : Hid (FArc Wn b2 (row (g.take mo)) ∧ b2 ≠ w3.heap.size) := Lib.hid ⟨F2.out.calm CN.out, by omega⟩
   have KE : Hid (∀ e ∈ putT km (g.take mo) b2, NiceK e.1 ∧ FArc Wn e.2 (row e.1) ∧ e.2 ≠ w3.heap.size) := Lib.hid (fun e he => by
    rcases putT_mem he with he | rfl
    ·obtain ⟨g1, g2, g3⟩ := KE.out e he
     exact ⟨g1, ((g2.below HB67.out).below HB8.out).calm CN.out, g3⟩
    ·exact ⟨HNK.out, HB.out.1, HB.out.2⟩)
   have HLT : Hid (lookT (putT km (g.take mo) b2) (g.take mo) = some b2) := Lib.hid (by rw [lookT_put, if_pos rfl])
   have KM := Lib.hid KMN.out
   have MW := Lib.hid MWN.out
   have BW6 := Lib.hid HBN.out
   have KB := Lib.hid ((KB.out.below' HB8.out).calm CN.out)
   have hbgn : bg < Wn.heap.size := by have := CN.out.size; omega
   obtain ⟨km2, hkm2⟩ : ∃ x, putT km (g.take mo) b2 = x := ⟨_, rfl⟩
   rw [hkm2] at KE HLT KM
   clear hkm2 KMN HB8 HB67 HSET hHeld
   gi_wp2
   obtain ⟨rq, hrq⟩ : ∃ q, (row (g.take mo)).getD yn 0 = q := ⟨_, rfl⟩
   have hrg : (row (g.take mo))[yn]? = some rq := by rw [← hrq, List.getD_eq_getElem?_getD, List.getElem?_eq_getElem (by rw [HLN.out]; omega)]; rfl
   have QRQ := Lib.hid (HQ.out _ rq (List.mem_of_getElem? hrg))
   obtain ⟨pv, hpv⟩ : ∃ q, sayL row mo ((gramsL mo sl).take i) = q := ⟨_, rfl⟩
   have QPV : Hid (QB 4000000000 pv) := Lib.hid (by
    rw [← hpv]
    exact (sayL_qb HQ.out mo _).mono (by
     have h1 : ((gramsL mo sl).take i).length ≤ i := List.length_take_le _ _
     have h2 := HNS.out
     omega))
   rw [hpv] at BX
   have HPQ : Hid (pv * rq = sayL row mo ((gramsL mo sl).take (i + 1))) := Lib.hid (by
    rw [HTG.out, sayL_snoc, hpv, HY.out]
    rw [show ((yn : Int)).toNat = yn by omega, hrq])
   have BA := Lib.hid (BX.out.below (Below.refl Wn.heap.size Wn))
   have FA := Lib.hid (HB.out.1.below (Below.refl Wn.heap.size Wn))
   have hne2 : b2 ≠ w3.heap.size := HB.out.2
   obtain ⟨Ar, mr, cr, Ar', mr', cr', r0, r1, r2, _, _, _, tr⟩ := FA.out.get hrg
   have TR := Lib.hid (tr.frac (k := 4000000000) (QRQ.out.mono (by omega)) (by omega))
   obtain ⟨Ap, mp, cp, Ap', mp', cp', x0, x1, x2, _, _, _, tp⟩ := BA.out.get
   have TP := Lib.hid (tp.frac (k := 4000000000) QPV.out (by omega))
   have KM7 := Lib.hid (KM.out.below (Below.refl Wn.heap.size Wn))
   have D6A := Lib.hid (D6.out.below' (Below.refl Wn.heap.size Wn))
   have D8A := Lib.hid (D8.out.below' (Below.refl Wn.heap.size Wn))
   have hSet : ∀ w', Below Wn.heap.size Wn w' → (fun w' => w'.cell? ⟨w1.heap.size + 2, 0, none⟩ = some (.map (some (w1.heap.size + 1))) ∧ w'.cell? ⟨w6.heap.size, 0, none⟩ = some (.int .i64 k0) ∧ w'.cell? ⟨w6.heap.size, 1, none⟩ = some (.int .i64 k1) ∧ w'.cell? ⟨w6.heap.size, 2, none⟩ = some (.int .i64 k2) ∧ w'.cell? ⟨w6.heap.size, 3, none⟩ = some (.int .i64 k3) ∧ w'.cell? ⟨w3.heap.size + 1, 0, none⟩ = some (.int .i64 ((mo : Int) + 1)) ∧ w'.cell? ⟨bg, og + mo, none⟩ = some (.int .i64 (yn : Int)) ∧ (Instr.lookup 186 (.map (some (w1.heap.size + 1))) (.agg #[.int .i64 k0, .int .i64 k1, .int .i64 k2, .int .i64 k3]) false).run Tryz.prog w' = .ok (.slice (some ⟨b2, 0, none⟩) (v + 1) (v + 1)) w' ∧ w'.cell? ⟨b2, yn * 3, none⟩ = some (.bool (isNeg rq)) ∧ w'.cell? ⟨b2, yn * 3 + 1, none⟩ = some (.slice Ar mr cr) ∧ w'.cell? ⟨b2, yn * 3 + 2, none⟩ = some (.slice Ar' mr' cr')) w' := fun w' hw' =>
    ⟨(D6A.out.below' hw').cell 0, (KB.out.below' hw').cell 0, (KB.out.below' hw').cell 1, (KB.out.below' hw').cell 2, (KB.out.below' hw').cell 3, (D8A.out.below' hw').cell 0, (hw'.cell (p := ⟨bg, og + mo, none⟩) (by show bg < Wn.heap.size; have := (Below.refl Wn.heap.size Wn).size; omega)).trans CY7.out, by
     have := (KM7.out.below hw').look keyLaw (show Tryz.prog.underlying 186 = some (.map 120 41) from Tryz.underlying186) (zeroFracs _) HNK.out.good (fun e he h => (KE.out e he).1.inj HNK.out h)
     rw [HKV.out, HLT.out] at this
     exact this, (hw'.cell (p := ⟨b2, yn * 3, none⟩) FA.out.lt).trans r0, (hw'.cell (p := ⟨b2, yn * 3 + 1, none⟩) FA.out.lt).trans r1, (hw'.cell (p := ⟨b2, yn * 3 + 2, none⟩) FA.out.lt).trans r2⟩
   have HSET := Lib.hid hSet
   have hbv : w3.heap.size < Wn.heap.size := BA.out.lt
   have i1 : IntKind.i64.wrap ((mo : Int) + 1 - 1) = (mo : Int) := by rw [show (mo : Int) + 1 - 1 = mo by omega]; exact IntWalk.i64_in _ (by omega)
   have i2 : IntKind.i64.wrap (mo : Int) = (mo : Int) := IntWalk.i64_in _ (by omega)
   have m3 : (mo : Int) < (mo : Int) + 1 := by omega
   have y1 : (0 : Int) ≤ (yn : Int) := by omega
   have y2 : (yn : Int) < (v : Int) + 1 := by omega
   clear hrq hrg hpv tr tp hSet r0 r1 r2
   refine region_in_round (S := fun w' => w'.cell? ⟨w1.heap.size + 2, 0, none⟩ = some (.map (some (w1.heap.size + 1))) ∧ w'.cell? ⟨w6.heap.size, 0, none⟩ = some (.int .i64 k0) ∧ w'.cell? ⟨w6.heap.size, 1, none⟩ = some (.int .i64 k1) ∧ w'.cell? ⟨w6.heap.size, 2, none⟩ = some (.int .i64 k2) ∧ w'.cell? ⟨w6.heap.size, 3, none⟩ = some (.int .i64 k3) ∧ w'.cell? ⟨w3.heap.size + 1, 0, none⟩ = some (.int .i64 ((mo : Int) + 1)) ∧ w'.cell? ⟨bg, og + mo, none⟩ = some (.int .i64 (yn : Int)) ∧ (Instr.lookup 186 (.map (some (w1.heap.size + 1))) (.agg #[.int .i64 k0, .int .i64 k1, .int .i64 k2, .int .i64 k3]) false).run Tryz.prog w' = .ok (.slice (some ⟨b2, 0, none⟩) (v + 1) (v + 1)) w' ∧ w'.cell? ⟨b2, yn * 3, none⟩ = some (.bool (isNeg rq)) ∧ w'.cell? ⟨b2, yn * 3 + 1, none⟩ = some (.slice Ar mr cr) ∧ w'.cell? ⟨b2, yn * 3 + 2, none⟩ = some (.slice Ar' mr' cr')) (by kernel_rfl) (noDefer_spec (by kernel_rfl)) (fun h => by obtain ⟨a, w, h⟩ := h; exact h) (HSET.out _ (below_drew_self Wn)) (fun hHeld => ?_)
   refine wpAnyH_take (i := 1) (v := ?_) rfl (by kernel_rfl) (by kernel_rfl) (by kernel_rfl) (fun _ _ _ h => h) (Or.inl ⟨by rfl, ?_⟩) (by assumption) ?_
   rotate_left
   ·(intro w' hSw; (try dsimp only at hSw); go_simp <;> with_reducible rfl)
   simp only [List.getElem_toArray, List.getElem_cons_succ, List.getElem_cons_zero, Act.put, List.setIfInBounds_toArray, List.set_cons_zero, List.set_cons_succ]
   refine wpAnyH_take (i := 2) (v := ?_) rfl (by kernel_rfl) (by kernel_rfl) (by kernel_rfl) (fun _ _ _ h => h) (Or.inl ⟨by rfl, ?_⟩) (by assumption) ?_
   rotate_left
   ·(intro w' hSw; (try dsimp only at hSw); go_simp <;> with_reducible rfl)
   simp only [List.getElem_toArray, List.getElem_cons_succ, List.getElem_cons_zero, Act.put, List.setIfInBounds_toArray, List.set_cons_zero, List.set_cons_succ]
   refine wpAnyH_take (i := 3) (v := ?_) rfl (by kernel_rfl) (by kernel_rfl) (by kernel_rfl) (fun _ _ _ h => h) (Or.inl ⟨by rfl, ?_⟩) (by assumption) ?_
   rotate_left
   ·(intro w' hSw; (try dsimp only at hSw); go_simp <;> with_reducible rfl)
   simp only [List.getElem_toArray, List.getElem_cons_succ, List.getElem_cons_zero, Act.put, List.setIfInBounds_toArray, List.set_cons_zero, List.set_cons_succ]
   refine wpAnyH_take (i := 4) (v := ?_) rfl (by kernel_rfl) (by kernel_rfl) (by kernel_rfl) (fun _ _ _ h => h) (Or.inl ⟨by rfl, ?_⟩) (by assumption) ?_
   rotate_left
   ·(intro w' hSw; (try dsimp only at hSw); go_simp <;> with_reducible rfl)
   simp only [List.getElem_toArray, List.getElem_cons_succ, List.getElem_cons_zero, Act.put, List.setIfInBounds_toArray, List.set_cons_zero, List.set_cons_succ]
   refine wpAnyH_take (i := 5) (v := ?_) rfl (by kernel_rfl) (by kernel_rfl) (by kernel_rfl) (fun _ _ _ h => h) (Or.inl ⟨by rfl, ?_⟩) (by assumption) ?_
   rotate_left
   ·(intro w' hSw; (try dsimp only at hSw); go_simp <;> with_reducible rfl)
   simp only [List.getElem_toArray, List.getElem_cons_succ, List.getElem_cons_zero, Act.put, List.setIfInBounds_toArray, List.set_cons_zero, List.set_cons_succ]
   refine wpAnyH_take (i := 6) (v := ?_) rfl (by kernel_rfl) (by kernel_rfl) (by kernel_rfl) (fun _ _ _ h => h) (Or.inl ⟨by rfl, ?_⟩) (by assumption) ?_
   rotate_left
   ·(intro w' hSw; (try dsimp only at hSw); go_simp <;> with_reducible rfl)
   simp only [List.getElem_toArray, List.getElem_cons_succ, List.getElem_cons_zero, Act.put, List.setIfInBounds_toArray, List.set_cons_zero, List.set_cons_succ]
   refine wpAnyH_take (i := 7) (v := ?_) rfl (by kernel_rfl) (by kernel_rfl) (by kernel_rfl) (fun _ _ _ h => h) (Or.inl ⟨by rfl, ?_⟩) (by assumption) ?_
   rotate_left
   ·(intro w' hSw; (try dsimp only at hSw); go_simp <;> with_reducible rfl)
   simp only [List.getElem_toArray, List.getElem_cons_succ, List.getElem_cons_zero, Act.put, List.setIfInBounds_toArray, List.set_cons_zero, List.set_cons_succ]
   refine wpAnyH_take (i := 8) (v := ?_) rfl (by kernel_rfl) (by kernel_rfl) (by kernel_rfl) (fun _ _ _ h => h) (Or.inl ⟨by rfl, ?_⟩) (by assumption) ?_
   rotate_left
   ·(intro w' hSw; (try dsimp only at hSw); go_simp <;> with_reducible rfl)
   simp only [List.getElem_toArray, List.getElem_cons_succ, List.getElem_cons_zero, Act.put, List.setIfInBounds_toArray, List.set_cons_zero, List.set_cons_succ]
   refine wpAnyH_take (i := 9) (v := ?_) rfl (by kernel_rfl) (by kernel_rfl) (by kernel_rfl) (fun _ _ _ h => h) (Or.inl ⟨by rfl, ?_⟩) (by assumption) ?_
   rotate_left
   ·(intro w' hSw; (try dsimp only at hSw); go_simp <;> with_reducible rfl)
   simp only [List.getElem_toArray, List.getElem_cons_succ, List.getElem_cons_zero, Act.put, List.setIfInBounds_toArray, List.set_cons_zero, List.set_cons_succ]
   refine wpAnyH_take (i := 10) (v := ?_) rfl (by kernel_rfl) (by kernel_rfl) (by kernel_rfl) (fun _ _ _ h => h) (Or.inl ⟨by rfl, ?_⟩) (by assumption) ?_
   rotate_left
   ·(intro w' hSw; (try dsimp only at hSw); go_simp <;> with_reducible rfl)
   simp only [List.getElem_toArray, List.getElem_cons_succ, List.getElem_cons_zero, Act.put, List.setIfInBounds_toArray, List.set_cons_zero, List.set_cons_succ]
   refine wpAnyH_ready (rs := [0]) (by kernel_rfl) (by simp) ?_
   refine AllReadyH.cons rfl (fun K hK => ?_) AllReadyH.nil
   go_simp
   refine hK.out _ _ hHeld (fun hHeld => ?_)
   clear hK K
   try simp only [List.getElem_toArray, List.getElem_cons_succ, List.getElem_cons_zero, Act.put, List.setIfInBounds_toArray, List.set_cons_zero, List.set_cons_succ]
   refine wpAnyH_ready (rs := [11]) (by kernel_rfl) (by simp) ?_
   refine AllReadyH.cons rfl (fun K hK => ?_) AllReadyH.nil
   go_simp
   refine (mulF _ _ _ pv rq 4000000000 (TP.out.below (below_drew_self _)) (TR.out.below (below_drew_self _)) (by omega) (by omega)).mono ?_
   rintro e wl ⟨u, rfl, t, hb'⟩
   have hb := below_of_drew hb'
   rw [HPQ.out] at t
   obtain ⟨As', ms, cs', As'', ms', cs'', rfl⟩ := t.at_.open_
   have TU := Lib.hid t.at_
   have HB8 := Lib.hid hb
   clear t hb' hb hHeld x0 x1 x2
   have hH8 := HSET.out wl HB8.out
   try go_simp
   refine hK.out _ _ hH8 (fun hHeld => ?_)
   clear hK K hH8
   try simp only [List.getElem_toArray, List.getElem_cons_succ, List.getElem_cons_zero, Act.put, List.setIfInBounds_toArray, List.set_cons_zero, List.set_cons_succ]
   obtain ⟨_, _, _, _, _, _, x0, x1, x2, e0, e1, e2, _⟩ := (BA.out.below HB8.out).get
   refine wpAnyH_ready (rs := [12]) (by kernel_rfl) (by simp) ?_
   refine AllReadyH.cons rfl (fun K hK => ?_) AllReadyH.nil
   go_simp
   have F8 := BA.out.below HB8.out
   have s8 : w6.heap.size < Wn.heap.size := KB.out.lt
   have n1 : w1.heap.size + 2 ≠ w3.heap.size := by omega
   have n2 : w6.heap.size ≠ w3.heap.size := by omega
   have n3 : w3.heap.size + 1 ≠ w3.heap.size := by omega
   have n4 : bg ≠ w3.heap.size := F8.int_ne hHeld.2.2.2.2.2.2.1
   refine hK.out _ _ ?_ (fun hHeld => ?_)
   ·exact ⟨cell3 hHeld.1 n1 _ _ _ _ _ _, cell3 hHeld.2.1 n2 _ _ _ _ _ _, cell3 hHeld.2.2.1 n2 _ _ _ _ _ _, cell3 hHeld.2.2.2.1 n2 _ _ _ _ _ _, cell3 hHeld.2.2.2.2.1 n2 _ _ _ _ _ _, cell3 hHeld.2.2.2.2.2.1 n3 _ _ _ _ _ _, cell3 hHeld.2.2.2.2.2.2.1 n4 _ _ _ _ _ _, (by
     have := ((KM7.out.below HB8.out).far3 F8 0 1 2 (.bool (isNeg (sayL row mo ((gramsL mo sl).take (i + 1))))) (.slice As' ms cs') (.slice As'' ms' cs'')).look keyLaw (show Tryz.prog.underlying 186 = some (.map 120 41) from Tryz.underlying186) (zeroFracs _) HNK.out.good (fun e he h => (KE.out e he).1.inj HNK.out h)
     rw [HKV.out, HLT.out] at this
     exact this), cell3 hHeld.2.2.2.2.2.2.2.2.1 hne2 _ _ _ _ _ _, cell3 hHeld.2.2.2.2.2.2.2.2.2.1 hne2 _ _ _ _ _ _, cell3 hHeld.2.2.2.2.2.2.2.2.2.2 hne2 _ _ _ _ _ _⟩
   clear hK K
   refine wpAnyH_done (by kernel_rfl) ?_ _
   have n5 : w1.heap.size ≠ w3.heap.size := by omega
   have n6 : w3.heap.size < W4.heap.size := by omega
   refine ⟨(((MW.out.trans (Mid.of_below ((Below.refl Wn.heap.size Wn).trans (HB8.out.mono (Below.refl Wn.heap.size Wn).size)))).set (.inl n6) _).set (.inl n6) _).set (.inl n6) _, below3 (BW6.out.trans (((Below.refl Wn.heap.size Wn).trans (HB8.out.mono (Below.refl Wn.heap.size Wn).size)).mono BW6.out.size)) (by omega) _ _ _ _ _ _, ((D5.out.below' (Below.refl Wn.heap.size Wn)).below' HB8.out).far3 n5 _ _ _ _ _ _, ((D6.out.below' (Below.refl Wn.heap.size Wn)).below' HB8.out).far3 n1 _ _ _ _ _ _, ((D8.out.below' (Below.refl Wn.heap.size Wn)).below' HB8.out).far3 n3 _ _ _ _ _ _, F8.put rfl TU.out, km2, (KM7.out.below HB8.out).far3 F8 _ _ _ _ _ _, fun e he => ?_⟩
   obtain ⟨g1, g2, g3⟩ := KE.out e he
   exact ⟨g1, ((g2.below (Below.refl Wn.heap.size Wn)).below HB8.out).far F8 g3 _ _ _ _ _ _ _ _ _ _, g3⟩
  | some b2 =>
   have hlk := HLK.out
   rw [hlt'] at hlk
   simp only [Option.elim_some, rowV] at hlk
   have HLT := Lib.hid hlt'
   clear hlt' HLK
   have HB := Lib.hid ((KE.out _ (lookT_mem HLT.out)).2)
   obtain ⟨W7, hW7⟩ : ∃ W7, W7 = w6.alloc (.cells #[.int .i64 k0, .int .i64 k1, .int .i64 k2, .int .i64 k3] 120) := ⟨_, rfl⟩
   gi_wp2
   rw [← hW7] at hlk ⊢
   have KB : Hid (Blk W7 w6.heap.size 120 [.int .i64 k0, .int .i64 k1, .int .i64 k2, .int .i64 k3]) := Lib.hid (by rw [hW7]; exact Blk.new _ _ _)
   have HB67 : Hid (Below w6.heap.size w6 W7) := Lib.hid (by rw [hW7]; exact below_alloc_self _ _)
   have CY7 := Lib.hid ((HB67.out.cell (p := ⟨bg, og + mo, none⟩) (by show bg < w6.heap.size; omega)).trans (HCY6.out))
   clear hW7
   obtain ⟨rq, hrq⟩ : ∃ q, (row (g.take mo)).getD yn 0 = q := ⟨_, rfl⟩
   have hrg : (row (g.take mo))[yn]? = some rq := by rw [← hrq, List.getD_eq_getElem?_getD, List.getElem?_eq_getElem (by rw [HLN.out]; omega)]; rfl
   have QRQ := Lib.hid (HQ.out _ rq (List.mem_of_getElem? hrg))
   obtain ⟨pv, hpv⟩ : ∃ q, sayL row mo ((gramsL mo sl).take i) = q := ⟨_, rfl⟩
   have QPV : Hid (QB 4000000000 pv) := Lib.hid (by
    rw [← hpv]
    exact (sayL_qb HQ.out mo _).mono (by
     have h1 : ((gramsL mo sl).take i).length ≤ i := List.length_take_le _ _
     have h2 := HNS.out
     omega))
   rw [hpv] at BX
   have HPQ : Hid (pv * rq = sayL row mo ((gramsL mo sl).take (i + 1))) := Lib.hid (by
    rw [HTG.out, sayL_snoc, hpv, HY.out]
    rw [show ((yn : Int)).toNat = yn by omega, hrq])
   have BA := Lib.hid (BX.out.below HB67.out)
   have FA := Lib.hid (HB.out.1.below HB67.out)
   have hne2 : b2 ≠ w3.heap.size := HB.out.2
   obtain ⟨Ar, mr, cr, Ar', mr', cr', r0, r1, r2, _, _, _, tr⟩ := FA.out.get hrg
   have TR := Lib.hid (tr.frac (k := 4000000000) (QRQ.out.mono (by omega)) (by omega))
   obtain ⟨Ap, mp, cp, Ap', mp', cp', x0, x1, x2, _, _, _, tp⟩ := BA.out.get
   have TP := Lib.hid (tp.frac (k := 4000000000) QPV.out (by omega))
   have KM7 := Lib.hid (KM.out.below HB67.out)
   have D6A := Lib.hid (D6.out.below' HB67.out)
   have D8A := Lib.hid (D8.out.below' HB67.out)
   have hSet : ∀ w', Below W7.heap.size W7 w' → (fun w' => w'.cell? ⟨w1.heap.size + 2, 0, none⟩ = some (.map (some (w1.heap.size + 1))) ∧ w'.cell? ⟨w6.heap.size, 0, none⟩ = some (.int .i64 k0) ∧ w'.cell? ⟨w6.heap.size, 1, none⟩ = some (.int .i64 k1) ∧ w'.cell? ⟨w6.heap.size, 2, none⟩ = some (.int .i64 k2) ∧ w'.cell? ⟨w6.heap.size, 3, none⟩ = some (.int .i64 k3) ∧ w'.cell? ⟨w3.heap.size + 1, 0, none⟩ = some (.int .i64 ((mo : Int) + 1)) ∧ w'.cell? ⟨bg, og + mo, none⟩ = some (.int .i64 (yn : Int)) ∧ (Instr.lookup 186 (.map (some (w1.heap.size + 1))) (.agg #[.int .i64 k0, .int .i64 k1, .int .i64 k2, .int .i64 k3]) false).run Tryz.prog w' = .ok (.slice (some ⟨b2, 0, none⟩) (v + 1) (v + 1)) w' ∧ w'.cell? ⟨b2, yn * 3, none⟩ = some (.bool (isNeg rq)) ∧ w'.cell? ⟨b2, yn * 3 + 1, none⟩ = some (.slice Ar mr cr) ∧ w'.cell? ⟨b2, yn * 3 + 2, none⟩ = some (.slice Ar' mr' cr')) w' := fun w' hw' =>
    ⟨(D6A.out.below' hw').cell 0, (KB.out.below' hw').cell 0, (KB.out.below' hw').cell 1, (KB.out.below' hw').cell 2, (KB.out.below' hw').cell 3, (D8A.out.below' hw').cell 0, (hw'.cell (p := ⟨bg, og + mo, none⟩) (by show bg < W7.heap.size; have := HB67.out.size; omega)).trans CY7.out, by
     have := (KM7.out.below hw').look keyLaw (show Tryz.prog.underlying 186 = some (.map 120 41) from Tryz.underlying186) (zeroFracs _) HNK.out.good (fun e he h => (KE.out e he).1.inj HNK.out h)
     rw [HKV.out, HLT.out] at this
     exact this, (hw'.cell (p := ⟨b2, yn * 3, none⟩) FA.out.lt).trans r0, (hw'.cell (p := ⟨b2, yn * 3 + 1, none⟩) FA.out.lt).trans r1, (hw'.cell (p := ⟨b2, yn * 3 + 2, none⟩) FA.out.lt).trans r2⟩
   have HSET := Lib.hid hSet
   have hbv : w3.heap.size < W7.heap.size := BA.out.lt
   have i1 : IntKind.i64.wrap ((mo : Int) + 1 - 1) = (mo : Int) := by rw [show (mo : Int) + 1 - 1 = mo by omega]; exact IntWalk.i64_in _ (by omega)
   have i2 : IntKind.i64.wrap (mo : Int) = (mo : Int) := IntWalk.i64_in _ (by omega)
   have m3 : (mo : Int) < (mo : Int) + 1 := by omega
   have y1 : (0 : Int) ≤ (yn : Int) := by omega
   have y2 : (yn : Int) < (v : Int) + 1 := by omega
   clear hrq hrg hpv tr tp hSet qT d6 hlk r0 r1 r2
   refine region_in_round (S := fun w' => w'.cell? ⟨w1.heap.size + 2, 0, none⟩ = some (.map (some (w1.heap.size + 1))) ∧ w'.cell? ⟨w6.heap.size, 0, none⟩ = some (.int .i64 k0) ∧ w'.cell? ⟨w6.heap.size, 1, none⟩ = some (.int .i64 k1) ∧ w'.cell? ⟨w6.heap.size, 2, none⟩ = some (.int .i64 k2) ∧ w'.cell? ⟨w6.heap.size, 3, none⟩ = some (.int .i64 k3) ∧ w'.cell? ⟨w3.heap.size + 1, 0, none⟩ = some (.int .i64 ((mo : Int) + 1)) ∧ w'.cell? ⟨bg, og + mo, none⟩ = some (.int .i64 (yn : Int)) ∧ (Instr.lookup 186 (.map (some (w1.heap.size + 1))) (.agg #[.int .i64 k0, .int .i64 k1, .int .i64 k2, .int .i64 k3]) false).run Tryz.prog w' = .ok (.slice (some ⟨b2, 0, none⟩) (v + 1) (v + 1)) w' ∧ w'.cell? ⟨b2, yn * 3, none⟩ = some (.bool (isNeg rq)) ∧ w'.cell? ⟨b2, yn * 3 + 1, none⟩ = some (.slice Ar mr cr) ∧ w'.cell? ⟨b2, yn * 3 + 2, none⟩ = some (.slice Ar' mr' cr')) (by kernel_rfl) (noDefer_spec (by kernel_rfl)) (fun h => by obtain ⟨a, w, h⟩ := h; exact h) (HSET.out _ (below_drew_self W7)) (fun hHeld => ?_)
   refine wpAnyH_take (i := 1) (v := ?_) rfl (by kernel_rfl) (by kernel_rfl) (by kernel_rfl) (fun _ _ _ h => h) (Or.inl ⟨by rfl, ?_⟩) (by assumption) ?_
   rotate_left
   ·(intro w' hSw; (try dsimp only at hSw); go_simp <;> with_reducible rfl)
   simp only [List.getElem_toArray, List.getElem_cons_succ, List.getElem_cons_zero, Act.put, List.setIfInBounds_toArray, List.set_cons_zero, List.set_cons_succ]
   refine wpAnyH_take (i := 2) (v := ?_) rfl (by kernel_rfl) (by kernel_rfl) (by kernel_rfl) (fun _ _ _ h => h) (Or.inl ⟨by rfl, ?_⟩) (by assumption) ?_
   rotate_left
   ·(intro w' hSw; (try dsimp only at hSw); go_simp <;> with_reducible rfl)
   simp only [List.getElem_toArray, List.getElem_cons_succ, List.getElem_cons_zero, Act.put, List.setIfInBounds_toArray, List.set_cons_zero, List.set_cons_succ]
   refine wpAnyH_take (i := 3) (v := ?_) rfl (by kernel_rfl) (by kernel_rfl) (by kernel_rfl) (fun _ _ _ h => h) (Or.inl ⟨by rfl, ?_⟩) (by assumption) ?_
   rotate_left
   ·(intro w' hSw; (try dsimp only at hSw); go_simp <;> with_reducible rfl)
   simp only [List.getElem_toArray, List.getElem_cons_succ, List.getElem_cons_zero, Act.put, List.setIfInBounds_toArray, List.set_cons_zero, List.set_cons_succ]
   refine wpAnyH_take (i := 4) (v := ?_) rfl (by kernel_rfl) (by kernel_rfl) (by kernel_rfl) (fun _ _ _ h => h) (Or.inl ⟨by rfl, ?_⟩) (by assumption) ?_
   rotate_left
   ·(intro w' hSw; (try dsimp only at hSw); go_simp <;> with_reducible rfl)
   simp only [List.getElem_toArray, List.getElem_cons_succ, List.getElem_cons_zero, Act.put, List.setIfInBounds_toArray, List.set_cons_zero, List.set_cons_succ]
   refine wpAnyH_take (i := 5) (v := ?_) rfl (by kernel_rfl) (by kernel_rfl) (by kernel_rfl) (fun _ _ _ h => h) (Or.inl ⟨by rfl, ?_⟩) (by assumption) ?_
   rotate_left
   ·(intro w' hSw; (try dsimp only at hSw); go_simp <;> with_reducible rfl)
   simp only [List.getElem_toArray, List.getElem_cons_succ, List.getElem_cons_zero, Act.put, List.setIfInBounds_toArray, List.set_cons_zero, List.set_cons_succ]
   refine wpAnyH_take (i := 6) (v := ?_) rfl (by kernel_rfl) (by kernel_rfl) (by kernel_rfl) (fun _ _ _ h => h) (Or.inl ⟨by rfl, ?_⟩) (by assumption) ?_
   rotate_left
   ·(intro w' hSw; (try dsimp only at hSw); go_simp <;> with_reducible rfl)
   simp only [List.getElem_toArray, List.getElem_cons_succ, List.getElem_cons_zero, Act.put, List.setIfInBounds_toArray, List.set_cons_zero, List.set_cons_succ]
   refine wpAnyH_take (i := 7) (v := ?_) rfl (by kernel_rfl) (by kernel_rfl) (by kernel_rfl) (fun _ _ _ h => h) (Or.inl ⟨by rfl, ?_⟩) (by assumption) ?_
   rotate_left
   ·(intro w' hSw; (try dsimp only at hSw); go_simp <;> with_reducible rfl)
   simp only [List.getElem_toArray, List.getElem_cons_succ, List.getElem_cons_zero, Act.put, List.setIfInBounds_toArray, List.set_cons_zero, List.set_cons_succ]
   refine wpAnyH_take (i := 8) (v := ?_) rfl (by kernel_rfl) (by kernel_rfl) (by kernel_rfl) (fun _ _ _ h => h) (Or.inl ⟨by rfl, ?_⟩) (by assumption) ?_
   rotate_left
   ·(intro w' hSw; (try dsimp only at hSw); go_simp <;> with_reducible rfl)
   simp only [List.getElem_toArray, List.getElem_cons_succ, List.getElem_cons_zero, Act.put, List.setIfInBounds_toArray, List.set_cons_zero, List.set_cons_succ]
   refine wpAnyH_take (i := 9) (v := ?_) rfl (by kernel_rfl) (by kernel_rfl) (by kernel_rfl) (fun _ _ _ h => h) (Or.inl ⟨by rfl, ?_⟩) (by assumption) ?_
   rotate_left
   ·(intro w' hSw; (try dsimp only at hSw); go_simp <;> with_reducible rfl)
   simp only [List.getElem_toArray, List.getElem_cons_succ, List.getElem_cons_zero, Act.put, List.setIfInBounds_toArray, List.set_cons_zero, List.set_cons_succ]
   refine wpAnyH_take (i := 10) (v := ?_) rfl (by kernel_rfl) (by kernel_rfl) (by kernel_rfl) (fun _ _ _ h => h) (Or.inl ⟨by rfl, ?_⟩) (by assumption) ?_
   rotate_left
   ·(intro w' hSw; (try dsimp only at hSw); go_simp <;> with_reducible rfl)
   simp only [List.getElem_toArray, List.getElem_cons_succ, List.getElem_cons_zero, Act.put, List.setIfInBounds_toArray, List.set_cons_zero, List.set_cons_succ]
   refine wpAnyH_ready (rs := [0]) (by kernel_rfl) (by simp) ?_
   refine AllReadyH.cons rfl (fun K hK => ?_) AllReadyH.nil
   go_simp
   refine hK.out _ _ hHeld (fun hHeld => ?_)
   clear hK K
   try simp only [List.getElem_toArray, List.getElem_cons_succ, List.getElem_cons_zero, Act.put, List.setIfInBounds_toArray, List.set_cons_zero, List.set_cons_succ]
   refine wpAnyH_ready (rs := [11]) (by kernel_rfl) (by simp) ?_
   refine AllReadyH.cons rfl (fun K hK => ?_) AllReadyH.nil
   go_simp
   refine (mulF _ _ _ pv rq 4000000000 (TP.out.below (below_drew_self _)) (TR.out.below (below_drew_self _)) (by omega) (by omega)).mono ?_
   rintro e wl ⟨u, rfl, t, hb'⟩
   have hb := below_of_drew hb'
   rw [HPQ.out] at t
   obtain ⟨As', ms, cs', As'', ms', cs'', rfl⟩ := t.at_.open_
   have TU := Lib.hid t.at_
   have HB8 := Lib.hid hb
   clear t hb' hb hHeld x0 x1 x2
   have hH8 := HSET.out wl HB8.out
   try go_simp
   refine hK.out _ _ hH8 (fun hHeld => ?_)
   clear hK K hH8
   try simp only [List.getElem_toArray, List.getElem_cons_succ, List.getElem_cons_zero, Act.put, List.setIfInBounds_toArray, List.set_cons_zero, List.set_cons_succ]
   obtain ⟨_, _, _, _, _, _, x0, x1, x2, e0, e1, e2, _⟩ := (BA.out.below HB8.out).get
   refine wpAnyH_ready (rs := [12]) (by kernel_rfl) (by simp) ?_
   refine AllReadyH.cons rfl (fun K hK => ?_) AllReadyH.nil
   go_simp
   have F8 := BA.out.below HB8.out
   have s8 : w6.heap.size < W7.heap.size := KB.out.lt
   have n1 : w1.heap.size + 2 ≠ w3.heap.size := by omega
   have n2 : w6.heap.size ≠ w3.heap.size := by omega
   have n3 : w3.heap.size + 1 ≠ w3.heap.size := by omega
   have n4 : bg ≠ w3.heap.size := F8.int_ne hHeld.2.2.2.2.2.2.1
   refine hK.out _ _ ?_ (fun hHeld => ?_)
   ·exact ⟨cell3 hHeld.1 n1 _ _ _ _ _ _, cell3 hHeld.2.1 n2 _ _ _ _ _ _, cell3 hHeld.2.2.1 n2 _ _ _ _ _ _, cell3 hHeld.2.2.2.1 n2 _ _ _ _ _ _, cell3 hHeld.2.2.2.2.1 n2 _ _ _ _ _ _, cell3 hHeld.2.2.2.2.2.1 n3 _ _ _ _ _ _, cell3 hHeld.2.2.2.2.2.2.1 n4 _ _ _ _ _ _, (by
     have := ((KM7.out.below HB8.out).far3 F8 0 1 2 (.bool (isNeg (sayL row mo ((gramsL mo sl).take (i + 1))))) (.slice As' ms cs') (.slice As'' ms' cs'')).look keyLaw (show Tryz.prog.underlying 186 = some (.map 120 41) from Tryz.underlying186) (zeroFracs _) HNK.out.good (fun e he h => (KE.out e he).1.inj HNK.out h)
     rw [HKV.out, HLT.out] at this
     exact this), cell3 hHeld.2.2.2.2.2.2.2.2.1 hne2 _ _ _ _ _ _, cell3 hHeld.2.2.2.2.2.2.2.2.2.1 hne2 _ _ _ _ _ _, cell3 hHeld.2.2.2.2.2.2.2.2.2.2 hne2 _ _ _ _ _ _⟩
   clear hK K
   refine wpAnyH_done (by kernel_rfl) ?_ _
   have n5 : w1.heap.size ≠ w3.heap.size := by omega
   have n6 : w3.heap.size < W4.heap.size := by omega
   refine ⟨(((MW.out.trans (Mid.of_below (HB67.out.trans (HB8.out.mono HB67.out.size)))).set (.inl n6) _).set (.inl n6) _).set (.inl n6) _, below3 (BW6.out.trans ((HB67.out.trans (HB8.out.mono HB67.out.size)).mono BW6.out.size)) (by omega) _ _ _ _ _ _, ((D5.out.below' HB67.out).below' HB8.out).far3 n5 _ _ _ _ _ _, ((D6.out.below' HB67.out).below' HB8.out).far3 n1 _ _ _ _ _ _, ((D8.out.below' HB67.out).below' HB8.out).far3 n3 _ _ _ _ _ _, F8.put rfl TU.out, km, (KM7.out.below HB8.out).far3 F8 _ _ _ _ _ _, fun e he => ?_⟩
   obtain ⟨g1, g2, g3⟩ := KE.out e he
   exact ⟨g1, ((g2.below HB67.out).below HB8.out).far F8 g3 _ _ _ _ _ _ _ _ _ _, g3⟩
 case done =>
  intro W hI hK
  obtain ⟨h1, h2, h3, h4, h5, _⟩ := hI
  have BW := Lib.hid h1
  have KW := Lib.hid hK
  have RW := Lib.hid (R1.out.below h1)
  have hgl : (gramsL mo sl).take (sl.length + 1) = gramsL mo sl := List.take_of_length_le (by simp [gramsL])
  rw [hgl] at h5
  obtain ⟨qv, hqv⟩ : ∃ q, sayL row mo (gramsL mo sl) = q := ⟨_, rfl⟩
  rw [hqv] at h5
  have HQV : Hid (sayQ row (mo + 1 - 1) sl = qv) := Lib.hid (by rw [← hqv]; rfl)
  have BX := Lib.hid h5
  clear h1 h2 h3 h4 h5 hK hgl hqv
  obtain ⟨Ax, mx, cx, Ax', mx', cx', x0, x1, x2, _, _, _, tx⟩ := BX.out.get
  have TX := Lib.hid tx
  obtain ⟨_, _, _, _, _, _, r0, r1, r2, y0, y1, y2, _⟩ := RW.out.get
  clear tx
  go_wp2_with fail
  clear r0 r1 r2 y0 y1 y2 x0 x1 x2
  obtain ⟨W6, hW6⟩ : ∃ W6, W6 = ((W.setCell ⟨w.heap.size + 1, 0, none⟩ (.bool (isNeg qv))).setCell ⟨w.heap.size + 1, 1, none⟩ (.slice Ax mx cx)).setCell ⟨w.heap.size + 1, 2, none⟩ (.slice Ax' mx' cx') := ⟨_, rfl⟩
  have X6 : BoxC W6 (w.heap.size + 1) qv := by rw [hW6]; exact RW.out.put rfl TX.out
  have Y6 : Below w.heap.size w W6 := by rw [hW6]; exact below3 (B1.out.trans (BW.out.mono (by have := B1.out.size; omega))) (by omega) _ _ _ _ _ _
  have K6 : W6.heap[w5.heap.size]? = some (.deferred (some [])) := by
   rw [hW6]
   exact ((Below.heap_setCell _ ⟨w.heap.size + 1, 2, none⟩ _ _ (by show w5.heap.size ≠ w.heap.size + 1; omega)).trans (Below.heap_setCell _ ⟨w.heap.size + 1, 1, none⟩ _ _ (by show w5.heap.size ≠ w.heap.size + 1; omega))).trans ((Below.heap_setCell _ ⟨w.heap.size + 1, 0, none⟩ _ _ (by show w5.heap.size ≠ w.heap.size + 1; omega)).trans KW.out)
  rw [← hW6]
  clear hW6
  have G7 := grownBy_putObj' W6 w5.heap.size (.deferred none)
  have C7 : Calm W6 (W6.putObj w5.heap.size (.deferred none)) := Calm.of_grown G7 (fun r e => by cases e; exact ⟨_, K6, rfl⟩)
  have Y7 : Below w.heap.size w (W6.putObj w5.heap.size (.deferred none)) := Y6.grown G7 Y6.size (fun k e => by cases e; omega)
  obtain ⟨Az, mz, cz, Az', mz', cz', g0, g1, g2, _, _, _, tz⟩ := (X6.calm C7).get
  refine ⟨by simp, .inl ⟨_, _, rfl, run_takeDeferred K6, ?_⟩⟩
  refine ⟨.agg #[.bool (isNeg qv), .slice Az mz cz, .slice Az' mz' cz'], by simp [results, Tryz.results104, go_sem, g0, g1, g2], _, rfl, ?_, Y7⟩
  rw [HQV.out]
  exact tz
end
end Go.Proofs.YtjebfdfkjlkifaaGreat
