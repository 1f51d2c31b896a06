/- Lemmas. -/
import Derived.Test.YtjebfdfkjlkifaaGreatO51
set_option linter.all false
set_option maxRecDepth 1000000
set_option maxHeartbeats 32000000
namespace Go.Proofs.YtjebfdfkjlkifaaGreat
open Go.RowKit
def FrOwn (B : Nat) (w : World) (v : Value) (qs : List Rat) : Prop := ∃ cells, w.ownsRow B 40 3 v qs.length cells /\ ∀ (i : Nat) (q : Rat), qs[i]? = some q -> ∃ x y, cells[i * 3]? = some (.bool (ae q)) /\ cells[i * 3 + 1]? = some x /\ cells[i * 3 + 2]? = some y /\ CanAt w (.agg #[.bool (ae q), x, y]) q /\ ∀ b, v.ownBlock = some b -> Off x b /\ Off y b
theorem FrOwn.nil_ (B : Nat) (w : World) : FrOwn B w (.slice none 0 0) [] := ⟨[], World.ownsRow_nil .., fun i q h => by simp at h⟩
theorem FrOwn.below {B : Nat} {w w' : World} {v : Value} {qs : List Rat} (h : FrOwn B w v qs) (hb : Below w.heap.size w w') : FrOwn B w' v qs := by
 obtain ⟨cells, h1, h2⟩ := h
 refine ⟨cells, bK h1 hb, fun i q hq => ?_⟩
 obtain ⟨x, y, e0, e1, e2, e3, e4⟩ := h2 i q hq
 exact ⟨x, y, e0, e1, e2, e3.below hb, e4⟩
theorem FrOwn.cans {B : Nat} {w : World} {v : Value} {qs : List Rat} (h : FrOwn B w v qs) : CansAt w v qs := by
 obtain ⟨cells, h1, h2⟩ := h
 refine ⟨cells, Sl.of_own h1, fun i q hq => ?_⟩
 obtain ⟨x, y, e0, e1, e2, e3, _⟩ := h2 i q hq
 exact ⟨_, _, _, e0, e1, e2, e3⟩
theorem CanAt.parts {w : World} {s : Bool} {x y : Value} {q : Rat} (h : CanAt w (.agg #[.bool s, x, y]) q) : s = ae q /\ NatAt w x q.num.natAbs /\ NatAt w y (if q.den = 1 then 0 else q.den) := by
 obtain ⟨vn, vd, e, n1, n2⟩ := h
 have e' : [Value.bool s, x, y] = [.bool (ae q), vn, vd] := by
  injection e with e
  exact congrArg Array.toList e
 simp only [List.cons.injEq, and_true, Value.bool.injEq] at e'
 obtain ⟨rfl, rfl, rfl⟩ := e'
 exact ⟨rfl, n1, n2⟩
theorem CanAt.keptOff {w w' : World} {s : Bool} {x y : Value} {q : Rat} {row : Option Nat} (h : CanAt w (.agg #[.bool s, x, y]) q) (hg : w.grownBy w' row) (ho : ∀ b, row = some b -> Off x b /\ Off y b) : CanAt w' (.agg #[.bool s, x, y]) q := by
 obtain ⟨rfl, n1, n2⟩ := h.parts
 exact ⟨_, _, rfl, n1.keptOff hg (fun b hb => (ho b hb).1), n2.keptOff hg (fun b hb => (ho b hb).2)⟩
theorem Sl.three (w : World) (e : TypeId) (x y z : Value) : Sl (w.alloc (.cells #[x, y, z] e)) 3 (.slice (some ⟨w.heap.size, 0, none⟩) 1 1) 1 [x, y, z] := by
 have := (Blk.new w e [x, y, z]).sl (sz := 3) (n := 1) (c := 1) (by simp) (nR _) (by unfold maxLen; omega)
 exact this
theorem FrOwn.push {B : Nat} {w w1 w' : World} {v v' : Value} {qs : List Rat} {q : Rat} {x y : Value} {cells : List Value} (h2 : ∀ (i : Nat) (q : Rat), qs[i]? = some q -> ∃ x y, cells[i * 3]? = some (.bool (ae q)) /\ cells[i * 3 + 1]? = some x /\ cells[i * 3 + 2]? = some y /\ CanAt w (.agg #[.bool (ae q), x, y]) q /\ ∀ b, v.ownBlock = some b -> Off x b /\ Off y b) (hlen : cells.length = qs.length * 3)
  (hw : Below w.heap.size w w1) (hc : CanAt w1 (.agg #[.bool (ae q), x, y]) q) (hco : ∀ b, v.ownBlock = some b -> Off x b /\ Off y b) (hown : w'.ownsRow B 40 3 v' (qs.length + 1) (cells ++ [.bool (ae q), x, y])) (hg : w1.grownBy w' v.ownBlock) (hb : v'.ownBlock = v.ownBlock ∨ v'.ownBlock = some w1.heap.size) : FrOwn B w' v' (qs ++ [q]) := by
 have key : ∀ (x y : Value) (q : Rat), CanAt w1 (.agg #[.bool (ae q), x, y]) q -> (∀ b, v.ownBlock = some b -> Off x b /\ Off y b) -> CanAt w' (.agg #[.bool (ae q), x, y]) q /\ ∀ b, v'.ownBlock = some b -> Off x b /\ Off y b := fun x y q h1 h3 =>
  ⟨h1.keptOff hg h3, fun b hb' => by
   obtain ⟨_, n1, n2⟩ := h1.parts
   rcases hb with e | e
   ·exact h3 b (e ▸ hb')
   rw [e] at hb'
   cases hb'
   exact ⟨n1.offNew (nR _), n2.offNew (nR _)⟩⟩
 refine ⟨cells ++ [.bool (ae q), x, y], by rw [List.length_append]; exact hown, fun i p hp => ?_⟩
 by_cases hi : i < qs.length
 ·rw [List.getElem?_append_left hi] at hp
  obtain ⟨x', y', e0, e1, e2, e3, e4⟩ := h2 i p hp
  obtain ⟨k1, k2⟩ := key x' y' p (e3.below hw) e4
  exact ⟨x', y', by rw [List.getElem?_append_left (by omega)]; exact e0, by rw [List.getElem?_append_left (by omega)]; exact e1, by rw [List.getElem?_append_left (by omega)]; exact e2, k1, k2⟩
 rw [List.getElem?_append_right (by omega)] at hp
 have hi2 : i = qs.length := by
  have := (sI.1 hp).1
  simp at this
  omega
 subst hi2
 rw [Nat.sub_self] at hp
 cases hp
 obtain ⟨k1, k2⟩ := key x y q hc hco
 refine ⟨x, y, ?_, ?_, ?_, k1, k2⟩
 ·rw [List.getElem?_append_right (by omega), show qs.length * 3 - cells.length = 0 by omega]
  rfl
 ·rw [List.getElem?_append_right (by omega), show qs.length * 3 + 1 - cells.length = 1 by omega]
  rfl
 rw [List.getElem?_append_right (by omega), show qs.length * 3 + 2 - cells.length = 2 by omega]
 rfl
def clsOf (cs : List Int) (x : Int) : Int := if x = 0 then 0 else cs.getD (x - 1).toNat 0

theorem classOfG (W : World) (g : Nat) (ov iv : Value) (cs : List Int) (x : Int) (hP : Blk W g 94 [ov, iv]) (hc : IntsAt W ov cs) (h0 : 0 <= x) (h1 : x <= cs.length) (hl : cs.length <= 12) :
  Calls Tryz.prog 130 #[.int .i64 x, .pointer (some ⟨g, 0, none⟩)] W fun e w' => e = .returned (.int .i64 (clsOf cs x)) /\ w' = W := by
 obtain ⟨Ao, co, rfl, hoc, hom, hat⟩ := hc.open_
 obtain ⟨no, hno⟩ : ∃ n, cs.length = n := ⟨_, rfl⟩
 rw [hno] at hoc h1 hl hP
 obtain ⟨q0, q1⟩ := two_at hP
 by_cases hz : x = 0
 ·subst hz
  have HC : Hd (clsOf cs 0 = 0) := aH rfl
  clear hat hc
  go_enter Tryz.func130, Tryz.ntmps130
  go_wp2_with fail
  go_ret
  exact ⟨ret_i HC.o.symm, rfl⟩
 obtain ⟨n, rfl⟩ : ∃ n : Nat, x = n := ⟨x.toNat, by omega⟩
 obtain ⟨i, rfl⟩ : ∃ i, n = i + 1 := ⟨n - 1, by omega⟩
 obtain ⟨y, hy⟩ : ∃ y, cs[i]? = some y := ⟨_, eG (by omega)⟩
 obtain ⟨b, o, rfl, _, e0⟩ := hat i y hy
 have HC : Hd (clsOf cs ((i + 1 : Nat) : Int) = y) := aH (by
  unfold clsOf
  rw [if_neg hz, show (((i + 1 : Nat) : Int) - 1).toNat = i by omega, gD, hy]
  rfl)
 rw [HC.o]
 obtain ⟨z, hzz⟩ : ∃ z : Int, ((i + 1 : Nat) : Int) = z := ⟨_, rfl⟩
 have d0 : (z == 0) = false := by rw [<- hzz]; simpa using hz
 have d1 : IntKind.i64.wrap (z - 1) = (i : Int) := by rw [<- hzz, show ((i + 1 : Nat) : Int) - 1 = (i : Int) by omega]; exact iI _ (by omega)
 have d2 : (0 : Int) <= (i : Int) := by omega
 have d3 : (i : Int) < (no : Int) := by omega
 rw [hzz]
 clear hat hc hy hzz hz HC
 go_enter Tryz.func130, Tryz.ntmps130
 go_wp2_with fail
 go_ret
 exact ⟨rfl, rfl⟩
theorem clsOf_nice {cs : List Int} {v : Nat} {O : Nat} {hl : List Int} (hk : inR 1 v cs = true) (hv : v <= 8) (hin : inR 0 cs.length hl = true) (hlen : hl.length = O - 1) (hO : O <= 4) : NiceK (hl.map (clsOf cs)) := by
 refine ⟨by rw [List.length_map]; omega, fun y hy => ?_⟩
 obtain ⟨x, hx, rfl⟩ := List.mem_map.1 hy
 have h1 := inR_iff.1 hin x hx
 unfold clsOf
 split
 ·omega
 have h2 : (x - 1).toNat < cs.length := by omega
 rw [gD, eG h2]
 have := inR_iff.1 hk _ (List.getElem_mem h2)
 simp only [Option.getD_some]
 omega

theorem BoxC.blk3 {w : World} {b : Nat} {r : Rat} (h : BoxC w b r) (s : Bool) (A : Option Addr) (m c : Nat) (A' : Option Addr) (m' c' : Nat) :
  Blk (((w.setCell ⟨b, 0, none⟩ (.bool s)).setCell ⟨b, 1, none⟩ (.slice A m c)).setCell ⟨b, 2, none⟩ (.slice A' m' c')) b 40 [.bool s, .slice A m c, .slice A' m' c'] := by
 obtain ⟨xs, h1, h2, _, _⟩ := h
 have h3 := ((h1.set_ 0 (.bool s)).set_ 1 (.slice A m c)).set_ 2 (.slice A' m' c')
 have h4 : xs.length = 3 := by simpa using h2
 match xs, h4 with
 | [_, _, _], _ => exact h3
theorem clsOf_in {cs : List Int} {v x : Nat} (hk : inR 1 v cs = true) (hx : x <= cs.length) : ∃ y : Nat, clsOf cs x = (y : Int) /\ y < v + 1 := by
 unfold clsOf
 split
 ·exact ⟨0, rfl, by omega⟩
 next h =>
 have h2 : ((x : Int) - 1).toNat < cs.length := by omega
 rw [gD, eG h2]
 have := inR_iff.1 hk _ (List.getElem_mem h2)
 exact ⟨cs[((x : Int) - 1).toNat].toNat, by simp only [Option.getD_some]; omega, by omega⟩

theorem classedG (w : World) (O v : Nat) (lv : Value) (gs : List Gr) (k : Int) (s : Bool) (A A' : Option Addr) (m c m' c' : Nat) (mv : Value) (a : Rat) (mix : List Rat) (ov iv : Value) (cs : List Int) (qs : List Rat) (hv : Value) (hl : List Int) (x : Nat)
  (h : LangAt w lv gs s A A' m c m' c' a mv mix) (hh : IntsAt w hv hl) (ho : IntsAt w ov cs) (hi : FracsAt 64 w iv qs) (hck : aJ O v gs k a mix = 0) (hv8 : v <= 8) (hc12 : cs.length <= 12) (hq12 : qs.length <= 12) (hcl : clsB cs qs = true) (hkn : inR 1 v cs = true) (hlen : hl.length = O - 1) (hin : inR 0 cs.length hl = true) (hx : x <= cs.length) :
  Calls Tryz.prog 63 #[aG O v lv k s A A' m c m' c' mv, .agg #[ov, iv], hv, .int .i64 x] w fun e w' => ∃ u, e = .returned (.tuple #[u, .int .i64 0]) /\ CanAt w' u (classedQ (fA k O gs v a mix (hl.map (clsOf cs))) cs qs x) /\ (0 < x -> CanNew w.heap.size w' u (classedQ (fA k O gs v a mix (hl.map (clsOf cs))) cs qs x)) /\ Below w.heap.size w w' := by
 obtain ⟨T, rv, F, hw⟩ := rk w O v lv gs k s A A' m c m' c' mv a mix h hck hv8
 have HG := aH (dy (cI hck).1)
 have HT := aH (bY (cI hck).1 hv8)
 have hO := HG.o.2.1
 have HNK := aH (clsOf_nice hkn hv8 hin hlen hO.2)
 obtain ⟨hb1, hb2, _⟩ := clsB_ok hcl
 have HL := aH h
 have HI := aH hh
 have HO := aH ho
 have HF := aH hi
 have HCK := aH hck
 have HCL : Hd (clsE cs qs = 0) := aH (by unfold clsE; rw [hcl]; rfl)
 have HKN := aH hkn
 have HIN := aH hin
 have WO := aH hw
 have hm3 := hw.cf
 obtain ⟨Al, cl, rfl, _, _, _⟩ := h.grams.open_
 obtain ⟨Am, cm, rfl, _, _, _⟩ := h.mixes.open_
 obtain ⟨Ah, ch, rfl, hlc, hlm, hhat⟩ := hh.open_
 obtain ⟨Ao, co, rfl, hoc, hom, _⟩ := ho.open_
 obtain ⟨Ai, ci, rfl, hic, him, hit⟩ := hi.at_
 have HHAT := aH hhat
 have HIT := aH hit
 obtain ⟨no, hno⟩ : ∃ n, cs.length = n := ⟨_, rfl⟩
 obtain ⟨nh, hnh⟩ : ∃ n, hl.length = n := ⟨_, rfl⟩
 rw [hb2, hno] at hic hq12
 rw [hno] at hoc hx hc12 hb1 HIN
 rw [hnh] at hlc hlen
 rw [hb2, hno, hnh]
 rw [hnh] at HI
 rw [hno] at HO
 rw [hb2, hno] at HF
 have HNO := aH hno
 have HNH := aH hnh
 have HNI := aH hb2
 have e1 : IntKind.i64.wrap ((O : Int) - 1) = (nh : Int) := by rw [show (O : Int) - 1 = (nh : Int) by omega]; exact iI _ (by omega)
 have e2 : decide ((x : Int) < 0) = false := dF (by omega)
 have e3 : decide ((no : Int) < (x : Int)) = false := dF (by omega)
 have e4 : decide (no < x) = false := dF (by omega)
 have HLN := aH hlen
 have hnb : nh <= 3 := by omega
 have hkn' := hkn
 have hwl := hw.len (hl.map (clsOf cs))
 have hwq := hw.qb (hl.map (clsOf cs))
 clear h hh ho hi hck hcl hkn hin hw hhat hit hno hnh hb2 hlen
 obtain ⟨row, hrow⟩ : ∃ l, fA k O gs v a mix (hl.map (clsOf cs)) = l := ⟨_, rfl⟩
 rw [hrow]
 obtain ⟨y, hy, hyv⟩ : ∃ y : Nat, clsOf cs x = (y : Int) /\ y < v + 1 := clsOf_in hkn' (by rw [HNO.o]; exact hx)
 obtain ⟨qx, hqx⟩ : ∃ q, row[y]? = some q := ⟨_, eG (by rw [<- hrow, hwl]; exact hyv)⟩
 have HR := aH hrow
 have HY := aH hy
 have HQX := aH hqx
 have HGD : Hd (row.getD y 0 = qx) := aH (by rw [gD, hqx]; rfl)
 have QX : Hd (QB 5000000 qx) := aH (hwq _ (by rw [hrow]; exact mG hqx))
 have yb2 : (0 : Int) <= (y : Int) := by omega
 have yb3 : (y : Int) < (v : Int) + 1 := by omega
 obtain ⟨cq, hcq⟩ : ∃ q, classedQ row cs qs x = q := ⟨_, rfl⟩
 have HCQ := aH hcq
 rw [hcq]
 clear hrow hy hqx hcq hkn' hwl hwq
 unfold aG
 go_enter Tryz.func63, Tryz.ntmps63
 go_upto_region 1 with fail
 obtain ⟨W, hW, P0, P1, P2, PB, Phs⟩ := box3 w 43 [.int .i64 O, .int .i64 v, .slice Al gs.length cl, .int .i64 k, .bool s, .slice A m c, .slice A' m' c', .slice Am mix.length cm] 94 [.slice Ao no co, .slice Ai no ci] 40 [.bool false, .slice none 0 0, .slice none 0 0]
 rw [<- hW]
 clear hW
 obtain ⟨p0, p1, p2, p3, p4, p5, p6, p7⟩ := an P0.o
 go_wp2_with fail
 refine (lW W O v (.slice Al gs.length cl) gs k s A A' m c m' c' (.slice Am mix.length cm) a mix (HL.o.below PB.o)).mono ?_
 rintro e w1 ⟨rfl, hb1⟩
 rw [HCK.o]
 have L1 := aH (P0.o.below' hb1)
 have C1 := aH (P1.o.below' hb1)
 have R1 := aH (P2.o.below' hb1)
 have B1 := aH (PB.o.trans (hb1.mono PB.o.size))
 clear p0 p1 p2 p3 p4 p5 p6 p7 hb1 P0 P1 P2 PB
 obtain ⟨q0, q1⟩ := two_at C1.o
 go_wp2_with fail
 refine (checkClG w1 _ _ cs qs (HO.o.below B1.o) (HF.o.below B1.o) (by rw [HNO.o]; omega) (by rw [HNI.o, HNO.o]; omega)).mono ?_
 rintro e w2 ⟨rfl, hb1⟩
 rw [HCL.o]
 have L2 := aH (L1.o.below' hb1)
 have C2 := aH (C1.o.below' hb1)
 have R2 := aH (R1.o.below' hb1)
 have B2 := aH (B1.o.trans (hb1.mono B1.o.size))
 clear q0 q1 hb1 L1 C1 R1 B1
 obtain ⟨p0, p1, p2, p3, p4, p5, p6, p7⟩ := an L2.o
 obtain ⟨q0, q1⟩ := two_at C2.o
 go_wp2_with fail
 refine (gU w2 _ cs 1 v (HO.o.below B2.o)).mono ?_
 rintro e w3 ⟨rfl, hb1⟩
 rw [HKN.o]
 have L3 := aH (L2.o.below' hb1)
 have C3 := aH (C2.o.below' hb1)
 have R3 := aH (R2.o.below' hb1)
 have B3 := aH (B2.o.trans (hb1.mono B2.o.size))
 clear p0 p1 p2 p3 p4 p5 p6 p7 q0 q1 hb1 L2 C2 R2 B2
 obtain ⟨p0, p1, p2, p3, p4, p5, p6, p7⟩ := an L3.o
 obtain ⟨q0, q1⟩ := two_at C3.o
 go_wp2_with fail
 refine (gU w3 _ hl 0 no (HI.o.below B3.o)).mono ?_
 rintro e W4 ⟨rfl, hb1⟩
 rw [HIN.o]
 have L4 := aH (L3.o.below' hb1)
 have C4 := aH (C3.o.below' hb1)
 have R4 := aH (R3.o.below' hb1)
 have B4 := aH (B3.o.trans (hb1.mono B3.o.size))
 clear p0 p1 p2 p3 p4 p5 p6 p7 q0 q1 hb1 L3 C3 R3 B3
 obtain ⟨q0, q1⟩ := two_at C4.o
 go_wp2_with fail
 have sR4 : w.heap.size + 2 < W4.heap.size := R4.o.lt
 go_loopg [68, 15, 13] nh (fun gh i _ h13 wz => ∃ (j : Nat) (A9 : Option Addr) (c9 : Nat), i = .int .i64 j /\ h13 = .slice A9 j c9 /\ j + gh = nh /\ Hd (wz.ownsRow W4.heap.size 3 1 (.slice A9 j c9) j (((hl.take j).map (clsOf cs)).map (Value.int .i64))) /\
  Hd (Blk wz w.heap.size 43 [.int .i64 O, .int .i64 v, .slice Al gs.length cl, .int .i64 k, .bool s, .slice A m c, .slice A' m' c', .slice Am mix.length cm]) /\ Hd (Blk wz (w.heap.size + 1) 94 [.slice Ao no co, .slice Ai no ci]) /\ Hd (Blk wz (w.heap.size + 2) 40 [.bool false, .slice none 0 0, .slice none 0 0]) /\ Hd (Below w.heap.size w wz) /\ W4.heap.size <= wz.heap.size)
 case atStart => exact ⟨0, none, 0, rfl, rfl, by omega, aH (World.ownsRow_nil ..), L4, C4, R4, B4, nR _⟩
 clear L4 C4 R4 B4 q0 q1
 obtain ⟨w5, rfl⟩ : ∃ x, x = wr := ⟨_, rfl⟩
 obtain ⟨j, A9, c9, rfl, rfl, hj, OW, L5, C5, R5, B5, s5⟩ := hrel
 rcases zP gk with h | h
 ·subst h
  obtain rfl : j = nh := by omega
  go_upto_region 16 with fail
  have I5 : Hd (IntsAt w5 (.slice A9 j c9) (hl.map (clsOf cs))) := aH (by
   have h1 := Sl.of_own OW.o
   rw [tL (by rw [HNH.o]; exact nR _)] at h1
   unfold IntsAt
   rw [List.length_map, HNH.o]
   exact h1)
  go_cut [16] (fun s16 wc => ∃ ab, s16 = .pointer (some ⟨ab, 0, none⟩) /\ Hd (W4.heap.size <= ab) /\ Hd (BoxC wc ab qx) /\ Hd (Below w5.heap.size w5 wc))
  case first =>
   refine wp_region_held_drew (S := fun w' => w'.cell? ⟨w.heap.size, 0, none⟩ = some (.int .i64 O) /\ w'.cell? ⟨w.heap.size, 1, none⟩ = some (.int .i64 v) /\ w'.cell? ⟨w.heap.size, 2, none⟩ = some (.slice Al gs.length cl) /\ w'.cell? ⟨w.heap.size, 3, none⟩ = some (.int .i64 k) /\ w'.cell? ⟨w.heap.size, 4, none⟩ = some (.bool s) /\ w'.cell? ⟨w.heap.size, 5, none⟩ = some (.slice A m c) /\ w'.cell? ⟨w.heap.size, 6, none⟩ = some (.slice A' m' c') /\ w'.cell? ⟨w.heap.size, 7, none⟩ = some (.slice Am mix.length cm)) (by kernel_rfl) (an (L5.o.below' (bS w5))) (fun hHeld => ?_)
   obtain ⟨y0, hy0⟩ : ∃ x, x = w5.drew := ⟨_, rfl⟩
   have Gy0 : Hd (Below w5.heap.size w5 y0) := aH (by rw [hy0]; exact bS w5)
   rw [<- hy0] at hHeld ⊢
   clear hy0
   have Ly0 := aH (L5.o.below' Gy0.o)
   have Cy0 := aH (C5.o.below' Gy0.o)
   have Iy0 := aH (I5.o.below Gy0.o)
   have By0 := aH (B5.o.trans (Gy0.o.mono B5.o.size))
   refine tjj 0 ?_ rfl (by kernel_rfl) rfl ‹_› ?_ (fun _ _ _ h => h) (tjj 2 ?_ rfl (by kernel_rfl) rfl ‹_› ?_ (fun _ _ _ h => h) (tjj 3 ?_ rfl (by kernel_rfl) rfl ‹_› ?_ (fun _ _ _ h => h) (tjj 4 ?_ rfl (by kernel_rfl) rfl ‹_› ?_ (fun _ _ _ h => h) (tjj 5 ?_ rfl (by kernel_rfl) rfl ‹_› ?_ (fun _ _ _ h => h) (tjj 7 ?_ rfl (by kernel_rfl) rfl ‹_› ?_ (fun _ _ _ h => h) (tjj 8 ?_ rfl (by kernel_rfl) rfl ‹_› ?_ (fun _ _ _ h => h) ?_))))))
   iterate 7 (rotate_left; · (intro w' hSw; (try dsimp only at hSw); (try go_frame); go_simp <;> with_reducible rfl))
   go_frame
   refine wpAnyH_ready (rs := [1, 12]) (by kernel_rfl) (by simp) ?_
   refine AllReadyH.cons rfl (fun K hK => ?_) (AllReadyH.cons rfl (fun K hK => ?_) AllReadyH.nil)
   ·go_simp
    refine (rl _ O v (.slice Al gs.length cl) gs k s A A' m c m' c' Am mix.length cm (HL.o.grams.below By0.o) HG.o (by have := HT.o.2.2.2; omega)).mono ?_
    rintro e y1 ⟨b, rfl, hlv, hb⟩
    have Ly1 := aH (Ly0.o.below' hb)
    have Cy1 := aH (Cy0.o.below' hb)
    have Iy1 := aH (Iy0.o.below hb)
    have By1 := aH (By0.o.trans ((hb).mono By0.o.size))
    have Gy1 := aH (Gy0.o.trans ((hb).mono Gy0.o.size))
    clear Ly0 Cy0 Iy0 By0 Gy0
    have LVy1 := aH hlv
    rw [WO.o.way b]
    have hm1 := WO.o.meth b
    have hm2 := WO.o.nil b
    clear hlv hb hHeld
    have hS := an Ly1.o
    try go_simp
    refine hK.out _ _ hS (fun hHeld => ?_)
    clear hK K hS
    try go_frame
    refine wpAnyH_ready (rs := [6, 12]) (by kernel_rfl) (by simp) ?_
    refine AllReadyH.cons rfl (fun K hK => ?_) (AllReadyH.cons rfl (fun K hK => ?_) AllReadyH.nil)
    ·go_simp
     refine (WO.o.row b _ _ _ LVy1.o By1.o Iy1.o (by rw [List.length_map, HNH.o]; exact HLN.o) HNK.o).mono ?_
     rw [HR.o]
     rintro e y2 ⟨b2, rfl, hb2, hf2, hb⟩
     have Ly2 := aH (Ly1.o.below' hb)
     have Cy2 := aH (Cy1.o.below' hb)
     have Iy2 := aH (Iy1.o.below hb)
     have By2 := aH (By1.o.trans ((hb).mono By1.o.size))
     have Gy2 := aH (Gy1.o.trans ((hb).mono Gy1.o.size))
     have LVy2 := aH (LVy1.o.below hb)
     clear Ly1 Cy1 Iy1 By1 Gy1 LVy1
     have Fy2 := aH hf2
     clear hf2 hb hb2 hHeld hm1 hm2 LVy2
     have hS := an Ly2.o
     try go_simp
     refine hK.out _ _ hS (fun hHeld => ?_)
     clear hK K hS
     try go_frame
     refine wpAnyH_ready (rs := [9, 12]) (by kernel_rfl) (by simp) ?_
     refine AllReadyH.cons rfl (fun K hK => ?_) (AllReadyH.cons rfl (fun K hK => ?_) AllReadyH.nil)
     ·go_simp
      refine (classOfG _ (w.heap.size + 1) _ _ cs x Cy2.o (HO.o.below By2.o) (by omega) (by rw [HNO.o]; omega) (by rw [HNO.o]; exact hc12)).mono ?_
      rintro e w' ⟨rfl, hww⟩
      rw [hww, HY.o]
      clear hww w'
      try go_simp
      refine hK.out _ _ hHeld (fun hHeld => ?_)
      clear hK K
      try go_frame
      refine tjj 10 ?_ rfl (by kernel_rfl) rfl ‹_› ?_ (fun _ _ _ h => h) ?_
      rotate_left
      ·(intro w' hSw; (try dsimp only at hSw); (try go_frame); go_simp <;> with_reducible rfl)
      go_frame
      refine wpAnyH_ready (rs := [11, 12]) (by kernel_rfl) (by simp) ?_
      refine AllReadyH.cons rfl (fun K hK => ?_) (AllReadyH.cons rfl (fun K hK => ?_) AllReadyH.nil)
      ·obtain ⟨Ax, mx, cx, Ax', mx', cx', g0, g1, g2, _, _, _, tx⟩ := Fy2.o.get HQX.o
       have TX := aH tx
       clear tx
       go_simp
       refine hK.out _ _ hHeld (fun hHeld => ?_)
       clear hK K g0 g1 g2
       try go_frame
       refine wpAnyH_ready (rs := [12]) (by kernel_rfl) (by simp) ?_
       refine AllReadyH.cons rfl (fun K hK => ?_) AllReadyH.nil
       go_simp
       refine hK.out _ _ ⟨au hHeld.1 _, au hHeld.2.1 _, au hHeld.2.2.1 _, au hHeld.2.2.2.1 _, au hHeld.2.2.2.2.1 _, au hHeld.2.2.2.2.2.1 _, au hHeld.2.2.2.2.2.2.1 _, au hHeld.2.2.2.2.2.2.2 _⟩ (fun hHeld => ?_)
       clear hK K
       try go_frame
       try go_simp
       have Gy5z := Gy2.o.size
       obtain ⟨y5, hy5, A0, AB, Ahs⟩ := aA y2 40 [.bool false, .slice none 0 0, .slice none 0 0]
       replace hHeld : y5.cell? ⟨w.heap.size, 0, none⟩ = some (.int .i64 O) /\ y5.cell? ⟨w.heap.size, 1, none⟩ = some (.int .i64 v) /\ y5.cell? ⟨w.heap.size, 2, none⟩ = some (.slice Al gs.length cl) /\ y5.cell? ⟨w.heap.size, 3, none⟩ = some (.int .i64 k) /\ y5.cell? ⟨w.heap.size, 4, none⟩ = some (.bool s) /\ y5.cell? ⟨w.heap.size, 5, none⟩ = some (.slice A m c) /\ y5.cell? ⟨w.heap.size, 6, none⟩ = some (.slice A' m' c') /\ y5.cell? ⟨w.heap.size, 7, none⟩ = some (.slice Am mix.length cm) := by rw [hy5]; exact hHeld
       rw [<- hy5]
       clear hy5
       have Ly5 := aH (Ly2.o.below' AB.o)
       have Cy5 := aH (Cy2.o.below' AB.o)
       have Iy5 := aH (Iy2.o.below AB.o)
       have By5 := aH (By2.o.trans ((AB.o).mono By2.o.size))
       have Gy5 := aH (Gy2.o.trans ((AB.o).mono Gy2.o.size))
       have Fy5 := aH (Fy2.o.below AB.o)
       clear Ly2 Cy2 Iy2 By2 Gy2 Fy2
       have APy5 : Hd (BoxC y5 y2.heap.size 0) := aH (BoxC.of (q := 0) A0.o ((CanNew.zero_ 0 _).at_))
       have ab : W4.heap.size <= y2.heap.size := Nat.le_trans s5 Gy5z
       have TX := aH (TX.o.below AB.o)
       clear A0 AB Ahs
       refine wpAnyH_ready (rs := [13]) (by kernel_rfl) (by simp) ?_
       refine AllReadyH.cons rfl (fun K hK => ?_) AllReadyH.nil
       obtain ⟨_, _, _, _, _, _, r0, r1, r2, z0, z1, z2, _⟩ := APy5.o.get
       go_simp
       refine hK.out _ _ ⟨aj hHeld.1 (by omega) _ _ _ _ _ _, aj hHeld.2.1 (by omega) _ _ _ _ _ _, aj hHeld.2.2.1 (by omega) _ _ _ _ _ _, aj hHeld.2.2.2.1 (by omega) _ _ _ _ _ _, aj hHeld.2.2.2.2.1 (by omega) _ _ _ _ _ _, aj hHeld.2.2.2.2.2.1 (by omega) _ _ _ _ _ _, aj hHeld.2.2.2.2.2.2.1 (by omega) _ _ _ _ _ _, aj hHeld.2.2.2.2.2.2.2 (by omega) _ _ _ _ _ _⟩ (fun _ => ?_)
       clear hK K hHeld r0 r1 r2 z0 z1 z2
       try go_frame
       refine wpAnyH_done (by kernel_rfl) ?_ _
       go_wp2_with fail
       go_meet
       exact ⟨_, rfl, aH ab, aH (APy5.o.put rfl TX.o), aH (aL Gy5.o (by omega) _ _ _ _ _ _)⟩
      go_simp
      refine hK.out _ _ ⟨au hHeld.1 _, au hHeld.2.1 _, au hHeld.2.2.1 _, au hHeld.2.2.2.1 _, au hHeld.2.2.2.2.1 _, au hHeld.2.2.2.2.2.1 _, au hHeld.2.2.2.2.2.2.1 _, au hHeld.2.2.2.2.2.2.2 _⟩ (fun hHeld => ?_)
      clear hK K
      try go_frame
      try go_simp
      have Gy7z := Gy2.o.size
      obtain ⟨y7, hy7, A0, AB, Ahs⟩ := aA y2 40 [.bool false, .slice none 0 0, .slice none 0 0]
      replace hHeld : y7.cell? ⟨w.heap.size, 0, none⟩ = some (.int .i64 O) /\ y7.cell? ⟨w.heap.size, 1, none⟩ = some (.int .i64 v) /\ y7.cell? ⟨w.heap.size, 2, none⟩ = some (.slice Al gs.length cl) /\ y7.cell? ⟨w.heap.size, 3, none⟩ = some (.int .i64 k) /\ y7.cell? ⟨w.heap.size, 4, none⟩ = some (.bool s) /\ y7.cell? ⟨w.heap.size, 5, none⟩ = some (.slice A m c) /\ y7.cell? ⟨w.heap.size, 6, none⟩ = some (.slice A' m' c') /\ y7.cell? ⟨w.heap.size, 7, none⟩ = some (.slice Am mix.length cm) := by rw [hy7]; exact hHeld
      rw [<- hy7]
      clear hy7
      have Ly7 := aH (Ly2.o.below' AB.o)
      have Cy7 := aH (Cy2.o.below' AB.o)
      have Iy7 := aH (Iy2.o.below AB.o)
      have By7 := aH (By2.o.trans ((AB.o).mono By2.o.size))
      have Gy7 := aH (Gy2.o.trans ((AB.o).mono Gy2.o.size))
      have Fy7 := aH (Fy2.o.below AB.o)
      clear Ly2 Cy2 Iy2 By2 Gy2 Fy2
      have APy7 : Hd (BoxC y7 y2.heap.size 0) := aH (BoxC.of (q := 0) A0.o ((CanNew.zero_ 0 _).at_))
      have ab : W4.heap.size <= y2.heap.size := Nat.le_trans s5 Gy7z
      clear A0 AB Ahs
      refine wpAnyH_ready (rs := [11]) (by kernel_rfl) (by simp) ?_
      refine AllReadyH.cons rfl (fun K hK => ?_) AllReadyH.nil
      obtain ⟨Ax, mx, cx, Ax', mx', cx', g0, g1, g2, _, _, _, tx⟩ := Fy7.o.get HQX.o
      have TX := aH tx
      clear tx
      go_simp
      refine hK.out _ _ hHeld (fun hHeld => ?_)
      clear hK K g0 g1 g2
      try go_frame
      refine wpAnyH_ready (rs := [13]) (by kernel_rfl) (by simp) ?_
      refine AllReadyH.cons rfl (fun K hK => ?_) AllReadyH.nil
      obtain ⟨_, _, _, _, _, _, r0, r1, r2, z0, z1, z2, _⟩ := APy7.o.get
      go_simp
      refine hK.out _ _ ⟨aj hHeld.1 (by omega) _ _ _ _ _ _, aj hHeld.2.1 (by omega) _ _ _ _ _ _, aj hHeld.2.2.1 (by omega) _ _ _ _ _ _, aj hHeld.2.2.2.1 (by omega) _ _ _ _ _ _, aj hHeld.2.2.2.2.1 (by omega) _ _ _ _ _ _, aj hHeld.2.2.2.2.2.1 (by omega) _ _ _ _ _ _, aj hHeld.2.2.2.2.2.2.1 (by omega) _ _ _ _ _ _, aj hHeld.2.2.2.2.2.2.2 (by omega) _ _ _ _ _ _⟩ (fun _ => ?_)
      clear hK K hHeld r0 r1 r2 z0 z1 z2
      try go_frame
      refine wpAnyH_done (by kernel_rfl) ?_ _
      go_wp2_with fail
      go_meet
      exact ⟨_, rfl, aH ab, aH (APy7.o.put rfl TX.o), aH (aL Gy7.o (by omega) _ _ _ _ _ _)⟩
     go_simp
     refine hK.out _ _ ⟨au hHeld.1 _, au hHeld.2.1 _, au hHeld.2.2.1 _, au hHeld.2.2.2.1 _, au hHeld.2.2.2.2.1 _, au hHeld.2.2.2.2.2.1 _, au hHeld.2.2.2.2.2.2.1 _, au hHeld.2.2.2.2.2.2.2 _⟩ (fun hHeld => ?_)
     clear hK K
     try go_frame
     try go_simp
     have Gy10z := Gy2.o.size
     obtain ⟨y10, hy10, A0, AB, Ahs⟩ := aA y2 40 [.bool false, .slice none 0 0, .slice none 0 0]
     replace hHeld : y10.cell? ⟨w.heap.size, 0, none⟩ = some (.int .i64 O) /\ y10.cell? ⟨w.heap.size, 1, none⟩ = some (.int .i64 v) /\ y10.cell? ⟨w.heap.size, 2, none⟩ = some (.slice Al gs.length cl) /\ y10.cell? ⟨w.heap.size, 3, none⟩ = some (.int .i64 k) /\ y10.cell? ⟨w.heap.size, 4, none⟩ = some (.bool s) /\ y10.cell? ⟨w.heap.size, 5, none⟩ = some (.slice A m c) /\ y10.cell? ⟨w.heap.size, 6, none⟩ = some (.slice A' m' c') /\ y10.cell? ⟨w.heap.size, 7, none⟩ = some (.slice Am mix.length cm) := by rw [hy10]; exact hHeld
     rw [<- hy10]
     clear hy10
     have Ly10 := aH (Ly2.o.below' AB.o)
     have Cy10 := aH (Cy2.o.below' AB.o)
     have Iy10 := aH (Iy2.o.below AB.o)
     have By10 := aH (By2.o.trans ((AB.o).mono By2.o.size))
     have Gy10 := aH (Gy2.o.trans ((AB.o).mono Gy2.o.size))
     have Fy10 := aH (Fy2.o.below AB.o)
     clear Ly2 Cy2 Iy2 By2 Gy2 Fy2
     have APy10 : Hd (BoxC y10 y2.heap.size 0) := aH (BoxC.of (q := 0) A0.o ((CanNew.zero_ 0 _).at_))
     have ab : W4.heap.size <= y2.heap.size := Nat.le_trans s5 Gy10z
     clear A0 AB Ahs
     refine wpAnyH_ready (rs := [9]) (by kernel_rfl) (by simp) ?_
     refine AllReadyH.cons rfl (fun K hK => ?_) AllReadyH.nil
     go_simp
     refine (classOfG _ (w.heap.size + 1) _ _ cs x Cy10.o (HO.o.below By10.o) (by omega) (by rw [HNO.o]; omega) (by rw [HNO.o]; exact hc12)).mono ?_
     rintro e w' ⟨rfl, hww⟩
     rw [hww, HY.o]
     clear hww w'
     try go_simp
     refine hK.out _ _ hHeld (fun hHeld => ?_)
     clear hK K
     try go_frame
     refine tjj 10 ?_ rfl (by kernel_rfl) rfl ‹_› ?_ (fun _ _ _ h => h) ?_
     rotate_left
     ·(intro w' hSw; (try dsimp only at hSw); (try go_frame); go_simp <;> with_reducible rfl)
     go_frame
     refine wpAnyH_ready (rs := [11]) (by kernel_rfl) (by simp) ?_
     refine AllReadyH.cons rfl (fun K hK => ?_) AllReadyH.nil
     obtain ⟨Ax, mx, cx, Ax', mx', cx', g0, g1, g2, _, _, _, tx⟩ := Fy10.o.get HQX.o
     have TX := aH tx
     clear tx
     go_simp
     refine hK.out _ _ hHeld (fun hHeld => ?_)
     clear hK K g0 g1 g2
     try go_frame
     refine wpAnyH_ready (rs := [13]) (by kernel_rfl) (by simp) ?_
     refine AllReadyH.cons rfl (fun K hK => ?_) AllReadyH.nil
     obtain ⟨_, _, _, _, _, _, r0, r1, r2, z0, z1, z2, _⟩ := APy10.o.get
     go_simp
     refine hK.out _ _ ⟨aj hHeld.1 (by omega) _ _ _ _ _ _, aj hHeld.2.1 (by omega) _ _ _ _ _ _, aj hHeld.2.2.1 (by omega) _ _ _ _ _ _, aj hHeld.2.2.2.1 (by omega) _ _ _ _ _ _, aj hHeld.2.2.2.2.1 (by omega) _ _ _ _ _ _, aj hHeld.2.2.2.2.2.1 (by omega) _ _ _ _ _ _, aj hHeld.2.2.2.2.2.2.1 (by omega) _ _ _ _ _ _, aj hHeld.2.2.2.2.2.2.2 (by omega) _ _ _ _ _ _⟩ (fun _ => ?_)
     clear hK K hHeld r0 r1 r2 z0 z1 z2
     try go_frame
     refine wpAnyH_done (by kernel_rfl) ?_ _
     go_wp2_with fail
     go_meet
     exact ⟨_, rfl, aH ab, aH (APy10.o.put rfl TX.o), aH (aL Gy10.o (by omega) _ _ _ _ _ _)⟩
    go_simp
    refine hK.out _ _ ⟨au hHeld.1 _, au hHeld.2.1 _, au hHeld.2.2.1 _, au hHeld.2.2.2.1 _, au hHeld.2.2.2.2.1 _, au hHeld.2.2.2.2.2.1 _, au hHeld.2.2.2.2.2.2.1 _, au hHeld.2.2.2.2.2.2.2 _⟩ (fun hHeld => ?_)
    clear hK K
    try go_frame
    try go_simp
    have Gy14z := Gy1.o.size
    obtain ⟨y14, hy14, A0, AB, Ahs⟩ := aA y1 40 [.bool false, .slice none 0 0, .slice none 0 0]
    replace hHeld : y14.cell? ⟨w.heap.size, 0, none⟩ = some (.int .i64 O) /\ y14.cell? ⟨w.heap.size, 1, none⟩ = some (.int .i64 v) /\ y14.cell? ⟨w.heap.size, 2, none⟩ = some (.slice Al gs.length cl) /\ y14.cell? ⟨w.heap.size, 3, none⟩ = some (.int .i64 k) /\ y14.cell? ⟨w.heap.size, 4, none⟩ = some (.bool s) /\ y14.cell? ⟨w.heap.size, 5, none⟩ = some (.slice A m c) /\ y14.cell? ⟨w.heap.size, 6, none⟩ = some (.slice A' m' c') /\ y14.cell? ⟨w.heap.size, 7, none⟩ = some (.slice Am mix.length cm) := by rw [hy14]; exact hHeld
    rw [<- hy14]
    clear hy14
    have Ly14 := aH (Ly1.o.below' AB.o)
    have Cy14 := aH (Cy1.o.below' AB.o)
    have Iy14 := aH (Iy1.o.below AB.o)
    have By14 := aH (By1.o.trans ((AB.o).mono By1.o.size))
    have Gy14 := aH (Gy1.o.trans ((AB.o).mono Gy1.o.size))
    have LVy14 := aH (LVy1.o.below AB.o)
    clear Ly1 Cy1 Iy1 By1 Gy1 LVy1
    have APy14 : Hd (BoxC y14 y1.heap.size 0) := aH (BoxC.of (q := 0) A0.o ((CanNew.zero_ 0 _).at_))
    have ab : W4.heap.size <= y1.heap.size := Nat.le_trans s5 Gy14z
    clear A0 AB Ahs
    refine wpAnyH_ready (rs := [6]) (by kernel_rfl) (by simp) ?_
    refine AllReadyH.cons rfl (fun K hK => ?_) AllReadyH.nil
    go_simp
    refine (WO.o.row b _ _ _ LVy14.o By14.o Iy14.o (by rw [List.length_map, HNH.o]; exact HLN.o) HNK.o).mono ?_
    rw [HR.o]
    rintro e y15 ⟨b2, rfl, hb2, hf2, hb⟩
    have Ly15 := aH (Ly14.o.below' hb)
    have Cy15 := aH (Cy14.o.below' hb)
    have Iy15 := aH (Iy14.o.below hb)
    have By15 := aH (By14.o.trans ((hb).mono By14.o.size))
    have Gy15 := aH (Gy14.o.trans ((hb).mono Gy14.o.size))
    have LVy15 := aH (LVy14.o.below hb)
    have APy15 := aH (APy14.o.below hb)
    clear Ly14 Cy14 Iy14 By14 Gy14 LVy14 APy14
    have Fy15 := aH hf2
    clear hf2 hb hb2 hHeld hm1 hm2 LVy15
    have hS := an Ly15.o
    try go_simp
    refine hK.out _ _ hS (fun hHeld => ?_)
    clear hK K hS
    try go_frame
    refine wpAnyH_ready (rs := [9]) (by kernel_rfl) (by simp) ?_
    refine AllReadyH.cons rfl (fun K hK => ?_) AllReadyH.nil
    go_simp
    refine (classOfG _ (w.heap.size + 1) _ _ cs x Cy15.o (HO.o.below By15.o) (by omega) (by rw [HNO.o]; omega) (by rw [HNO.o]; exact hc12)).mono ?_
    rintro e w' ⟨rfl, hww⟩
    rw [hww, HY.o]
    clear hww w'
    try go_simp
    refine hK.out _ _ hHeld (fun hHeld => ?_)
    clear hK K
    try go_frame
    refine tjj 10 ?_ rfl (by kernel_rfl) rfl ‹_› ?_ (fun _ _ _ h => h) ?_
    rotate_left
    ·(intro w' hSw; (try dsimp only at hSw); (try go_frame); go_simp <;> with_reducible rfl)
    go_frame
    refine wpAnyH_ready (rs := [11]) (by kernel_rfl) (by simp) ?_
    refine AllReadyH.cons rfl (fun K hK => ?_) AllReadyH.nil
    obtain ⟨Ax, mx, cx, Ax', mx', cx', g0, g1, g2, _, _, _, tx⟩ := Fy15.o.get HQX.o
    have TX := aH tx
    clear tx
    go_simp
    refine hK.out _ _ hHeld (fun hHeld => ?_)
    clear hK K g0 g1 g2
    try go_frame
    refine wpAnyH_ready (rs := [13]) (by kernel_rfl) (by simp) ?_
    refine AllReadyH.cons rfl (fun K hK => ?_) AllReadyH.nil
    obtain ⟨_, _, _, _, _, _, r0, r1, r2, z0, z1, z2, _⟩ := APy15.o.get
    go_simp
    refine hK.out _ _ ⟨aj hHeld.1 (by omega) _ _ _ _ _ _, aj hHeld.2.1 (by omega) _ _ _ _ _ _, aj hHeld.2.2.1 (by omega) _ _ _ _ _ _, aj hHeld.2.2.2.1 (by omega) _ _ _ _ _ _, aj hHeld.2.2.2.2.1 (by omega) _ _ _ _ _ _, aj hHeld.2.2.2.2.2.1 (by omega) _ _ _ _ _ _, aj hHeld.2.2.2.2.2.2.1 (by omega) _ _ _ _ _ _, aj hHeld.2.2.2.2.2.2.2 (by omega) _ _ _ _ _ _⟩ (fun _ => ?_)
    clear hK K hHeld r0 r1 r2 z0 z1 z2
    try go_frame
    refine wpAnyH_done (by kernel_rfl) ?_ _
    go_wp2_with fail
    go_meet
    exact ⟨_, rfl, aH ab, aH (APy15.o.put rfl TX.o), aH (aL Gy15.o (by omega) _ _ _ _ _ _)⟩
   go_simp
   refine hK.out _ _ ⟨au hHeld.1 _, au hHeld.2.1 _, au hHeld.2.2.1 _, au hHeld.2.2.2.1 _, au hHeld.2.2.2.2.1 _, au hHeld.2.2.2.2.2.1 _, au hHeld.2.2.2.2.2.2.1 _, au hHeld.2.2.2.2.2.2.2 _⟩ (fun hHeld => ?_)
   clear hK K
   try go_frame
   try go_simp
   have Gy19z := Gy0.o.size
   obtain ⟨y19, hy19, A0, AB, Ahs⟩ := aA y0 40 [.bool false, .slice none 0 0, .slice none 0 0]
   replace hHeld : y19.cell? ⟨w.heap.size, 0, none⟩ = some (.int .i64 O) /\ y19.cell? ⟨w.heap.size, 1, none⟩ = some (.int .i64 v) /\ y19.cell? ⟨w.heap.size, 2, none⟩ = some (.slice Al gs.length cl) /\ y19.cell? ⟨w.heap.size, 3, none⟩ = some (.int .i64 k) /\ y19.cell? ⟨w.heap.size, 4, none⟩ = some (.bool s) /\ y19.cell? ⟨w.heap.size, 5, none⟩ = some (.slice A m c) /\ y19.cell? ⟨w.heap.size, 6, none⟩ = some (.slice A' m' c') /\ y19.cell? ⟨w.heap.size, 7, none⟩ = some (.slice Am mix.length cm) := by rw [hy19]; exact hHeld
   rw [<- hy19]
   clear hy19
   have Ly19 := aH (Ly0.o.below' AB.o)
   have Cy19 := aH (Cy0.o.below' AB.o)
   have Iy19 := aH (Iy0.o.below AB.o)
   have By19 := aH (By0.o.trans ((AB.o).mono By0.o.size))
   have Gy19 := aH (Gy0.o.trans ((AB.o).mono Gy0.o.size))
   clear Ly0 Cy0 Iy0 By0 Gy0
   have APy19 : Hd (BoxC y19 y0.heap.size 0) := aH (BoxC.of (q := 0) A0.o ((CanNew.zero_ 0 _).at_))
   have ab : W4.heap.size <= y0.heap.size := Nat.le_trans s5 Gy19z
   clear A0 AB Ahs
   refine wpAnyH_ready (rs := [1]) (by kernel_rfl) (by simp) ?_
   refine AllReadyH.cons rfl (fun K hK => ?_) AllReadyH.nil
   go_simp
   refine (rl _ O v (.slice Al gs.length cl) gs k s A A' m c m' c' Am mix.length cm (HL.o.grams.below By19.o) HG.o (by have := HT.o.2.2.2; omega)).mono ?_
   rintro e y20 ⟨b, rfl, hlv, hb⟩
   have Ly20 := aH (Ly19.o.below' hb)
   have Cy20 := aH (Cy19.o.below' hb)
   have Iy20 := aH (Iy19.o.below hb)
   have By20 := aH (By19.o.trans ((hb).mono By19.o.size))
   have Gy20 := aH (Gy19.o.trans ((hb).mono Gy19.o.size))
   have APy20 := aH (APy19.o.below hb)
   clear Ly19 Cy19 Iy19 By19 Gy19 APy19
   have LVy20 := aH hlv
   rw [WO.o.way b]
   have hm1 := WO.o.meth b
   have hm2 := WO.o.nil b
   clear hlv hb hHeld
   have hS := an Ly20.o
   try go_simp
   refine hK.out _ _ hS (fun hHeld => ?_)
   clear hK K hS
   try go_frame
   refine wpAnyH_ready (rs := [6]) (by kernel_rfl) (by simp) ?_
   refine AllReadyH.cons rfl (fun K hK => ?_) AllReadyH.nil
   go_simp
   refine (WO.o.row b _ _ _ LVy20.o By20.o Iy20.o (by rw [List.length_map, HNH.o]; exact HLN.o) HNK.o).mono ?_
   rw [HR.o]
   rintro e y21 ⟨b2, rfl, hb2, hf2, hb⟩
   have Ly21 := aH (Ly20.o.below' hb)
   have Cy21 := aH (Cy20.o.below' hb)
   have Iy21 := aH (Iy20.o.below hb)
   have By21 := aH (By20.o.trans ((hb).mono By20.o.size))
   have Gy21 := aH (Gy20.o.trans ((hb).mono Gy20.o.size))
   have LVy21 := aH (LVy20.o.below hb)
   have APy21 := aH (APy20.o.below hb)
   clear Ly20 Cy20 Iy20 By20 Gy20 LVy20 APy20
   have Fy21 := aH hf2
   clear hf2 hb hb2 hHeld hm1 hm2 LVy21
   have hS := an Ly21.o
   try go_simp
   refine hK.out _ _ hS (fun hHeld => ?_)
   clear hK K hS
   try go_frame
   refine wpAnyH_ready (rs := [9]) (by kernel_rfl) (by simp) ?_
   refine AllReadyH.cons rfl (fun K hK => ?_) AllReadyH.nil
   go_simp
   refine (classOfG _ (w.heap.size + 1) _ _ cs x Cy21.o (HO.o.below By21.o) (by omega) (by rw [HNO.o]; omega) (by rw [HNO.o]; exact hc12)).mono ?_
   rintro e w' ⟨rfl, hww⟩
   rw [hww, HY.o]
   clear hww w'
   try go_simp
   refine hK.out _ _ hHeld (fun hHeld => ?_)
   clear hK K
   try go_frame
   refine tjj 10 ?_ rfl (by kernel_rfl) rfl ‹_› ?_ (fun _ _ _ h => h) ?_
   rotate_left
   ·(intro w' hSw; (try dsimp only at hSw); (try go_frame); go_simp <;> with_reducible rfl)
   go_frame
   refine wpAnyH_ready (rs := [11]) (by kernel_rfl) (by simp) ?_
   refine AllReadyH.cons rfl (fun K hK => ?_) AllReadyH.nil
   obtain ⟨Ax, mx, cx, Ax', mx', cx', g0, g1, g2, _, _, _, tx⟩ := Fy21.o.get HQX.o
   have TX := aH tx
   clear tx
   go_simp
   refine hK.out _ _ hHeld (fun hHeld => ?_)
   clear hK K g0 g1 g2
   try go_frame
   refine wpAnyH_ready (rs := [13]) (by kernel_rfl) (by simp) ?_
   refine AllReadyH.cons rfl (fun K hK => ?_) AllReadyH.nil
   obtain ⟨_, _, _, _, _, _, r0, r1, r2, z0, z1, z2, _⟩ := APy21.o.get
   go_simp
   refine hK.out _ _ ⟨aj hHeld.1 (by omega) _ _ _ _ _ _, aj hHeld.2.1 (by omega) _ _ _ _ _ _, aj hHeld.2.2.1 (by omega) _ _ _ _ _ _, aj hHeld.2.2.2.1 (by omega) _ _ _ _ _ _, aj hHeld.2.2.2.2.1 (by omega) _ _ _ _ _ _, aj hHeld.2.2.2.2.2.1 (by omega) _ _ _ _ _ _, aj hHeld.2.2.2.2.2.2.1 (by omega) _ _ _ _ _ _, aj hHeld.2.2.2.2.2.2.2 (by omega) _ _ _ _ _ _⟩ (fun _ => ?_)
   clear hK K hHeld r0 r1 r2 z0 z1 z2
   try go_frame
   refine wpAnyH_done (by kernel_rfl) ?_ _
   go_wp2_with fail
   go_meet
   exact ⟨_, rfl, aH ab, aH (APy21.o.put rfl TX.o), aH (aL Gy21.o (by omega) _ _ _ _ _ _)⟩
  obtain ⟨ab, rfl, hab, XB, BC⟩ := hcut
  obtain ⟨w6, rfl⟩ : ∃ z, z = wc := ⟨_, rfl⟩
  have hab1 := hab.o
  have L6 := aH (L5.o.below' BC.o)
  have C6 := aH (C5.o.below' BC.o)
  have R6 := aH (R5.o.below' BC.o)
  have B6 := aH (B5.o.trans (BC.o.mono B5.o.size))
  have sz6 : w5.heap.size <= w6.heap.size := BC.o.size
  clear OW L5 C5 R5 B5 I5 BC hab
  rcases zP x with hx0 | hx0
  ·subst hx0
   have t1 : decide ((0 : Int) < ((0 : Nat) : Int)) = false := dF (by omega)
   have HE : Hd (cq = qx) := aH (by
    rw [<- HCQ.o]
    unfold classedQ
    rw [if_pos rfl, <- HGD.o]
    have h1 := HY.o
    unfold clsOf at h1
    rw [if_pos (by rfl)] at h1
    rw [show y = 0 by omega])
   obtain ⟨Ar, mr, cr, Ar', mr', cr', r0, r1, r2, _, _, _, tr⟩ := XB.o.get
   obtain ⟨u0, u1, u2, z0, z1, z2⟩ := R6.o.three
   have RN := aH (FArc.keeps (BoxC.of (q := 0) R6.o ((CanNew.zero_ 0 w6).at_)) tr 0 1 2 (ae qx) Ar Ar' mr cr mr' cr')
   clear tr
   go_wp2_with fail
   refine bodyPost_ret (v := .tuple #[.agg #[.bool (ae qx), .slice Ar mr cr, .slice Ar' mr' cr'], .int .i64 0]) (by simp [results, Tryz.results63, go_sem, u0, u1, u2, List.mapM_cons]) rfl ⟨_, rfl, ?_, fun h => absurd h (by omega), af B6.o (by omega) _ _ _⟩
   rw [HE.o]
   exact RN.o
  have t1 : decide ((0 : Int) < (x : Int)) = true := dT (by omega)
  obtain ⟨i, rfl⟩ : ∃ i, x = i + 1 := ⟨x - 1, by omega⟩
  obtain ⟨qi, hqi⟩ : ∃ q, qs[i]? = some q := ⟨_, eG (by rw [HNI.o, HNO.o]; omega)⟩
  have HE : Hd (qx * qi = cq) := aH (by
   rw [<- HCQ.o]
   unfold classedQ
   have h1 := HY.o
   unfold clsOf at h1
   rw [if_neg (by omega)] at h1
   rw [if_neg (by omega), Nat.add_sub_cancel, <- HGD.o]
   rw [show (((i + 1 : Nat) : Int) - 1).toNat = i by omega] at h1
   rw [h1, Int.toNat_natCast]
   congr 1
   rw [gD, hqi]
   rfl)
  obtain ⟨bi, oi, ng, An, nn, cn, Ad, nd, cd, rfl, hbi, f0, f1, f2, hfx⟩ := HIT.o i qi hqi
  have c0 := (B6.o.cell (p := ⟨bi, oi + i * 3, none⟩) hbi).trans f0
  have c1 := (B6.o.cell (p := ⟨bi, oi + i * 3 + 1, none⟩) hbi).trans f1
  have c2 := (B6.o.cell (p := ⟨bi, oi + i * 3 + 2, none⟩) hbi).trans f2
  have TX := aH ((hfx.below B6.o).mono (show 64 <= 6000000 by omega))
  have j9 : IntKind.i64.wrap (((i + 1 : Nat) : Int) - 1) = (i : Int) := by rw [show ((i + 1 : Nat) : Int) - 1 = (i : Int) by omega]; exact iI _ (by omega)
  obtain ⟨z, hz⟩ : ∃ z : Int, ((i + 1 : Nat) : Int) = z := ⟨_, rfl⟩
  rw [hz] at j9 t1 ⊢
  have i1 : (0 : Int) <= (i : Int) := by omega
  have i2 : (i : Int) < (no : Int) := by omega
  have sC := C6.o.lt
  have sI : bi < w6.heap.size := by have := B6.o.size; omega
  have nC : w.heap.size + 1 ≠ ab := by omega
  have nI : bi ≠ ab := by omega
  obtain ⟨q0, q1⟩ := two_at C6.o
  have QX6 := aH (QX.o.mono (show 5000000 <= 6000000 by omega))
  have HSET : Hd (∀ w', Below w6.heap.size w6 w' -> (fun w' => w'.cell? ⟨w.heap.size + 1, 1, none⟩ = some (.slice (some ⟨bi, oi, none⟩) no ci) /\ w'.cell? ⟨bi, oi + i * 3, none⟩ = some (.bool ng) /\ w'.cell? ⟨bi, oi + i * 3 + 1, none⟩ = some (.slice An nn cn) /\ w'.cell? ⟨bi, oi + i * 3 + 2, none⟩ = some (.slice Ad nd cd)) w') := aH (fun w' hb => ⟨(hb.cell (p := ⟨w.heap.size + 1, 1, none⟩) sC).trans q1, (hb.cell (p := ⟨bi, oi + i * 3, none⟩) sI).trans c0, (hb.cell (p := ⟨bi, oi + i * 3 + 1, none⟩) sI).trans c1, (hb.cell (p := ⟨bi, oi + i * 3 + 2, none⟩) sI).trans c2⟩)
  clear hqi f0 f1 f2 hfx q0 q1 c0 c1 c2 hz
  go_upto_region 18 with fail
  refine wp_region_held_drew (S := (fun w' => w'.cell? ⟨w.heap.size + 1, 1, none⟩ = some (.slice (some ⟨bi, oi, none⟩) no ci) /\ w'.cell? ⟨bi, oi + i * 3, none⟩ = some (.bool ng) /\ w'.cell? ⟨bi, oi + i * 3 + 1, none⟩ = some (.slice An nn cn) /\ w'.cell? ⟨bi, oi + i * 3 + 2, none⟩ = some (.slice Ad nd cd))) (by kernel_rfl) (HSET.o _ (bS w6)) (fun hHeld => ?_)
  refine tjj 1 ?_ rfl (by kernel_rfl) rfl ‹_› ?_ (fun _ _ _ h => h) (tjj 2 ?_ rfl (by kernel_rfl) rfl ‹_› ?_ (fun _ _ _ h => h) (tjj 3 ?_ rfl (by kernel_rfl) rfl ‹_› ?_ (fun _ _ _ h => h) (tjj 4 ?_ rfl (by kernel_rfl) rfl ‹_› ?_ (fun _ _ _ h => h) (tjj 5 ?_ rfl (by kernel_rfl) rfl ‹_› ?_ (fun _ _ _ h => h) (tjj 6 ?_ rfl (by kernel_rfl) rfl ‹_› ?_ (fun _ _ _ h => h) ?_)))))
  iterate 6 (rotate_left; · (intro w' hSw; (try dsimp only at hSw); (try go_frame); go_simp <;> with_reducible rfl))
  go_frame
  obtain ⟨Ao, mo, co', Ao', mo', co'', r0, r1, r2, _, _, _, tO⟩ := XB.o.get
  have TO := aH (tO.frac (k := 6000000) QX6.o (by omega))
  clear tO
  refine wpAnyH_ready (rs := [0]) (by kernel_rfl) (by simp) ?_
  refine AllReadyH.cons rfl (fun K hK => ?_) AllReadyH.nil
  go_simp
  refine hK.out _ _ hHeld (fun _ => ?_)
  clear hK K r0 r1 r2
  try go_frame
  refine wpAnyH_ready (rs := [7]) (by kernel_rfl) (by simp) ?_
  refine AllReadyH.cons rfl (fun K hK => ?_) AllReadyH.nil
  go_simp
  clear hHeld
  refine (lP _ _ _ qx qi 6000000 (TO.o.below (bS _)) (TX.o.below (bS _)) (by omega) (by omega)).mono ?_
  rintro e wl ⟨u, rfl, t, hb'⟩
  rw [HE.o] at t
  have hb := bO hb'
  have BB := aH hb
  obtain ⟨As, ms, cs2, As', ms', cs', rfl⟩ := t.at_.open_
  have T2 := aH t
  clear t hb'
  have hS := HSET.o wl hb
  try go_simp
  refine hK.out _ _ hS (fun hHeld => ?_)
  clear hK K hS
  try go_frame
  obtain ⟨_, _, _, _, _, _, u0, u1, u2, y0, y1, y2, _⟩ := (XB.o.below BB.o).get
  refine wpAnyH_ready (rs := [8]) (by kernel_rfl) (by simp) ?_
  refine AllReadyH.cons rfl (fun K hK => ?_) AllReadyH.nil
  go_simp
  refine hK.out _ _ ⟨aj hHeld.1 nC _ _ _ _ _ _, aj hHeld.2.1 nI _ _ _ _ _ _, aj hHeld.2.2.1 nI _ _ _ _ _ _, aj hHeld.2.2.2 nI _ _ _ _ _ _⟩ (fun _ => ?_)
  clear hK K hHeld u0 u1 u2 y0 y1 y2
  try go_frame
  refine wpAnyH_done (by kernel_rfl) ?_ _
  have XB7 := aH ((XB.o.below BB.o).blk3 (ae cq) As ms cs2 As' ms' cs')
  have sab : ab < w6.heap.size := XB.o.lt
  have T3 := aH ((((T2.o.mono (show w6.heap.size <= _ by exact nR _)).far (p := ⟨ab, 0, none⟩) sab (.bool (ae cq))).far (p := ⟨ab, 1, none⟩) sab (.slice As ms cs2)).far (p := ⟨ab, 2, none⟩) sab (.slice As' ms' cs'))
  have R7 := aH ((R6.o.below' BB.o).far3 (show w.heap.size + 2 ≠ ab by omega) 0 1 2 (.bool (ae cq)) (.slice As ms cs2) (.slice As' ms' cs'))
  have B7 := aH (aL (B6.o.trans (BB.o.mono B6.o.size)) (show w.heap.size <= ab by omega) 0 1 2 (.bool (ae cq)) (.slice As ms cs2) (.slice As' ms' cs'))
  obtain ⟨W8, hW8⟩ : ∃ W, ((wl.setCell ⟨ab, 0, none⟩ (.bool (ae cq))).setCell ⟨ab, 1, none⟩ (.slice As ms cs2)).setCell ⟨ab, 2, none⟩ (.slice As' ms' cs') = W := ⟨_, rfl⟩
  rw [hW8] at XB7 R7 B7 T3 ⊢
  clear hW8
  obtain ⟨r0, r1, r2, _, _, _⟩ := XB7.o.three
  obtain ⟨u0, u1, u2, z0, z1, z2⟩ := R7.o.three
  have sw6 : w.heap.size + 2 < w6.heap.size := by omega
  have RN := aH (((T3.o.far (p := ⟨w.heap.size + 2, 0, none⟩) sw6 (.bool (ae cq))).far (p := ⟨w.heap.size + 2, 1, none⟩) sw6 (.slice As ms cs2)).far (p := ⟨w.heap.size + 2, 2, none⟩) sw6 (.slice As' ms' cs'))
  go_wp2_with fail
  refine bodyPost_ret (v := .tuple #[.agg #[.bool (ae cq), .slice As ms cs2, .slice As' ms' cs'], .int .i64 0]) (by simp [results, Tryz.results63, go_sem, u0, u1, u2, List.mapM_cons]) rfl ⟨_, rfl, ?_, (by first | exact RN.o.mono (by omega) | exact fun _ => RN.o.mono (by omega)), af B7.o (by omega) _ _ _⟩
  exact RN.o.at_
 obtain ⟨g, rfl⟩ : ∃ g, gk = g + 1 := ⟨gk - 1, by omega⟩
 obtain ⟨y, hy⟩ : ∃ y, hl[j]? = some y := ⟨_, eG (by rw [HNH.o]; omega)⟩
 obtain ⟨bh, oh, rfl, hbh, e0⟩ := HHAT.o j y hy
 have c0 := (B5.o.cell (p := ⟨bh, oh + j, none⟩) hbh).trans e0
 have hyr := inR_iff.1 HIN.o y (mG hy)
 have HTK : Hd (((hl.take (j + 1)).map (clsOf cs)).map (Value.int .i64) = ((hl.take j).map (clsOf cs)).map (Value.int .i64) ++ [.int .i64 (clsOf cs y)]) := aH (by rw [ah _ hy, List.map_append, List.map_append]; rfl)
 have q3 : (0 : Int) <= (j : Int) := by omega
 have q4 : (j : Int) < (nh : Int) := by omega
 have j9 : IntKind.i64.wrap ((j : Int) + 1) = (j : Int) + 1 := iI _ (by omega)
 obtain ⟨i0, gi, gz0, gz1, gz2⟩ := info_parts eD
 clear hy e0
 go_wp2_with fail
 refine (classOfG w5 (w.heap.size + 1) _ _ cs y C5.o (HO.o.below B5.o) hyr.1 (by rw [HNO.o]; exact hyr.2) (by rw [HNO.o]; exact hc12)).mono ?_
 rintro e w6 ⟨rfl, rfl⟩
 obtain ⟨cy, hcy⟩ : ∃ z, clsOf cs y = z := ⟨_, rfl⟩
 rw [hcy] at HTK ⊢
 obtain ⟨xs, hxs⟩ : ∃ xs, ((hl.take j).map (clsOf cs)).map (Value.int .i64) = xs := ⟨_, rfl⟩
 rw [hxs] at OW HTK
 clear hcy hyr c0 hxs
 go_wp2_with (at_builtin; refine al rfl (.tmp 72) (.tmp 76) 44 rfl W4.heap.size 3 i0 (.int .i64 0) 1 8 Tryz.underlying44 gi gz0 gz1 gz2 rfl (by decide) _ _ _ rfl (bK OW.o (Below.alloc (Below.refl _ _) (nR _) _)) _ 1 [.int .i64 cy] rfl (Sl.one _ _ _) (by simp [Value.oneCell']) (by unfold maxLen; omega) (by omega) (by simp; omega) ?_)
 intro v3 w3 t1 t2 _
 obtain ⟨gb, cap, rfl⟩ := g9 t1 (by omega)
 have hnk : ∀ q, (Value.slice A9 j c9).ownBlock = some q -> W4.heap.size <= q := ao (From.of_own OW.o)
 have OW3 : Hd (w3.ownsRow W4.heap.size 3 1 (.slice (some ⟨gb, 0, none⟩) (j + 1) cap) (j + 1) (((hl.take (j + 1)).map (clsOf cs)).map (Value.int .i64))) := aH (by rw [HTK.o]; exact t1)
 have L6 := aH ((L5.o.alloc (.cells #[.int .i64 cy] 3)).grown t2 (fun e => by have := hnk _ e.symm; omega))
 have C6 := aH ((C5.o.alloc (.cells #[.int .i64 cy] 3)).grown t2 (fun e => by have := hnk _ e.symm; omega))
 have R6 := aH ((R5.o.alloc (.cells #[.int .i64 cy] 3)).grown t2 (fun e => by have := hnk _ e.symm; omega))
 have B6 := aH ((B5.o.alloc (by omega) (.cells #[.int .i64 cy] 3)).grown t2 (by simp; omega) (fun q e => by have := hnk _ e; omega))
 have s6 : W4.heap.size <= w3.heap.size := by have := t2.size; simp at this; omega
 clear t1 t2 hnk
 go_wp2_with fail
 go_roundg g
 case measure => omega
 case rel => exact ⟨j + 1, some ⟨gb, 0, none⟩, cap, rfl, rfl, by omega, OW3, L6, C6, R6, B6, s6⟩
end Go.Proofs.YtjebfdfkjlkifaaGreat
