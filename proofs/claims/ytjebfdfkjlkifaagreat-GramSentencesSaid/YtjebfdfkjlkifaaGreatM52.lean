/- Lemmas. -/
import Derived.Test.YtjebfdfkjlkifaaGreatM51
import Derived.Test.YtjebfdfkjlkifaaGreatM50
set_option linter.all false
set_option maxRecDepth 1000000
set_option maxHeartbeats 32000000
namespace Go.Proofs.YtjebfdfkjlkifaaGreat
open Go.RowKit
theorem yP {O v n : Nat} {gs : List Gr} {k : Int} {a : Rat} {mix : List Rat} {sl : List Int} {j : Nat} (h : aJ O v gs k a mix = 0) (hn : n + 1 = O) (hj : j <= sl.length) (hs : ∀ x ∈ sl, 1 <= x /\ x <= (v : Int)) : bM O v gs k a mix (f7 n sl j) = 0 := by
 unfold bM
 rw [if_neg (by rw [h]; decide), if_pos ⟨by rw [xD hj]; omega, inR_iff.2 (yt (by omega) hs)⟩]
theorem IntsAt.far3 {w wl : World} {hv : Value} {l : List Int} {bo : Nat} {q : Rat} (h : IntsAt w hv l) (hx : BoxC w bo q) (hb : Below w.heap.size w wl) (hne : ∀ A n c, hv = .slice (some A) n c -> l ≠ [] -> A.block ≠ bo) (u0 u1 u2 : Value) : IntsAt (((wl.setCell ⟨bo, 0, none⟩ u0).setCell ⟨bo, 1, none⟩ u1).setCell ⟨bo, 2, none⟩ u2) hv l := by
 have h2 := h.below hb
 unfold IntsAt at h2 ⊢
 obtain ⟨h0, A, c, rfl, hc, hm, h5⟩ := h2
 refine ⟨h0, A, c, rfl, hc, hm, fun hn => ?_⟩
 obtain ⟨b, off, e, hlt, hcell⟩ := h5 hn
 subst e
 have hb2 : b ≠ bo := hne ⟨b, off, none⟩ _ _ rfl (by intro e; rw [e] at hn; simp at hn)
 refine ⟨b, off, rfl, by simpa only [World.size_setCell] using hlt, fun i x hi => ?_⟩
 exact aj (hcell i x hi) hb2 _ _ _ _ _ _

theorem yW (w : World) (O v : Nat) (lv : Value) (gs : List Gr) (k : Int) (s : Bool) (A A' : Option Addr) (m c m' c' : Nat) (mv : Value) (a : Rat) (mix : List Rat) (sv : Value) (sl : List Int) (h : LangAt w lv gs s A A' m c m' c' a mv mix) (hs : IntsAt w sv sl) (hE : eX O v gs k a mix [sl] = 0) (hv8 : v <= 8) (h60 : gs.length <= 60) (hlen : sl.length <= 12) :
  Calls Tryz.prog 56 #[aG O v lv k s A A' m c m' c' mv, sv] w fun e w' => ∃ u, e = .returned u /\ CanAt w' u (oj (fA k O gs v a mix) (O - 1) sl) /\ Below w.heap.size w w' := by
 obtain ⟨Al, cl, rfl, _, _, _⟩ := h.grams.open_
 obtain ⟨Am, cm, rfl, _, _, _⟩ := h.mixes.open_
 obtain ⟨As, cs, rfl, hsc, hsm, hsat⟩ := hs.open_
 obtain ⟨nl, hnl⟩ : ∃ x, gs.length = x := ⟨_, rfl⟩
 obtain ⟨ml, hml⟩ : ∃ x, mix.length = x := ⟨_, rfl⟩
 obtain ⟨ns, hns⟩ : ∃ x, sl.length = x := ⟨_, rfl⟩
 have LA : Hd (∀ w', Below w.heap.size w w' -> LangAt w' (.slice Al nl cl) gs s A A' m c m' c' a (.slice Am ml cm) mix) := aH (fun w' hb => by rw [<- hnl, <- hml]; exact h.below hb)
 obtain ⟨hck, hall⟩ := oW hE
 have hin : ∀ x ∈ sl, 1 <= x /\ x <= (v : Int) := fun x hx => inR_iff.1 (hall sl (by simp)).2 x hx
 have htb := fY (cI hck).1
 obtain ⟨n, hn⟩ : ∃ n, n + 1 = O := ⟨O - 1, by omega⟩
 have hO1 : O - 1 = n := by omega
 rw [hnl, hml, hns, hO1]
 rw [hnl] at h60
 rw [hns] at hsc hlen
 have HE : Hd (∀ j, j <= ns -> bM O v gs k a mix (f7 n sl j) = 0) := aH (fun j hj => yP hck hn (by omega) hin)
 have HALL : Hd (∀ hl, (fA k O gs v a mix hl).length = v + 1 /\ bX (fA k O gs v a mix hl) = 1 /\ ∀ q ∈ fA k O gs v a mix hl, 0 < q) := aH (fun hl => uw (bY (cI hck).1 hv8) (cI hck).2 hl)
 have HQB : Hd (∀ hl, ∀ q ∈ fA k O gs v a mix hl, QB 5000000 q) := aH (by
  obtain ⟨T, rv, F, hw⟩ := rk w O v (.slice Al nl cl) gs k s A A' m c m' c' (.slice Am ml cm) a mix (LA.o w (Below.refl _ _)) hck hv8
  exact hw.qb)
 have HSAT := aH hsat
 have HIN := aH hin
 have HNS := aH hns
 have h60 : gs.length <= 60 := by omega
 have m1 : IntKind.i64.wrap ((O : Int) - 1) = (n : Int) := by rw [show (O : Int) - 1 = (n : Int) by omega]; exact iI _ (by omega)
 have hn4 : n <= 3 := by omega
 obtain ⟨i0, gi, gz0, gz1, gz2⟩ := info_parts eD
 clear h hs hE hck hall hin hsat htb hnl hml hns hO1
 unfold aG
 go_enter Tryz.func56, Tryz.ntmps56
 go_wp2_with fail
 obtain ⟨W, hW, P0, P1, PB, Phs⟩ := cP w 43 [.int .i64 O, .int .i64 v, .slice Al nl cl, .int .i64 k, .bool s, .slice A m c, .slice A' m' c', .slice Am ml cm] 40 [.bool false, .slice none 0 0, .slice none 0 0]
 rw [<- hW]
 clear hW
 refine (ko W 1 (by omega) (by omega)).mono ?_
 rintro e w1 ⟨u, rfl, t1, hb1⟩
 obtain ⟨q1, hq1⟩ : ∃ q : Rat, ((1 : Int) : Rat) = q := ⟨_, rfl⟩
 rw [hq1] at t1
 obtain ⟨A1, k1, c1, A1', k1', c1', rfl⟩ := t1.at_.open_
 have T1 := aH t1.at_
 have P1z := aH (P0.o.below' hb1)
 have R1 := aH (P1.o.below' hb1)
 have B1 := aH (PB.o.trans (hb1.mono PB.o.size))
 have HQ1 := aH hq1
 clear t1 hb1 P0 P1 PB hq1
 go_upto_region 2 with fail
 obtain ⟨W2, hW2, Q0, QB, Qhs⟩ := aA w1 40 [.bool (ae q1), .slice A1 k1 c1, .slice A1' k1' c1']
 rw [<- hW2]
 clear hW2
 have BX : Hd (BoxC W2 w1.heap.size q1) := aH (BoxC.of Q0.o (T1.o.below QB.o))
 have PE := aH (P1z.o.below' QB.o)
 have RE := aH (R1.o.below' QB.o)
 have BE := aH (B1.o.trans (QB.o.mono B1.o.size))
 have hbo : w.heap.size + 1 < w1.heap.size := R1.o.lt
 obtain ⟨bo, hbo'⟩ : ∃ z, w1.heap.size = z := ⟨_, rfl⟩
 rw [hbo'] at BX hbo ⊢
 clear P1z R1 B1 Q0 QB Qhs hbo' T1
 obtain ⟨p0, p1, p2, p3, p4, p5, p6, p7⟩ := an PE.o
 go_wp2_with (at_make; refine ay rfl _ _ 44 rfl 3 i0 (.int .i64 0) 8 Tryz.underlying44 gi gz0 gz1 gz2 rfl .i64 .i64 _ _ n rfl rfl (by omega) (by omega) (by omega) (by unfold maxLen; omega) ?_)
 intro w3 hblk hb3
 have HH : Hd (IntsAt w3 (.slice (some ⟨W2.heap.size, 0, none⟩) n n) (f7 n sl 0)) := aH (by
  rw [yh]
  unfold IntsAt
  rw [List.length_replicate, List.map_replicate]
  have := hblk.sl (sz := 1) (n := n) (c := n) (by simp) (nR _) (by unfold maxLen; omega)
  rwa [Nat.mul_one, tL (by simp)] at this)
 have BX3 : Hd (BoxC w3 bo (iF (fA k O gs v a mix) n ((aw n sl).take 0))) := aH (by rw [yJ, <- show q1 = (1 : Rat) from HQ1.o.symm]; exact BX.o.below hb3)
 have PE3 := aH (PE.o.below' hb3)
 have RE3 := aH (RE.o.below' hb3)
 have BE3 := aH (BE.o.trans (hb3.mono BE.o.size))
 have nb0 : bo < W2.heap.size := BX.o.lt
 clear p0 p1 p2 p3 p4 p5 p6 p7 hblk hb3 BX PE RE BE gi gz0 gz1 gz2
 go_wp2_with fail
 go_loopg [6, 7] ns (fun gh hvv i wz => ∃ (j : Nat) (Ah : Option Addr) (ch : Nat), i = .int .i64 j /\ hvv = .slice Ah n ch /\ j + gh = ns /\ Hd (IntsAt wz (.slice Ah n ch) (f7 n sl j)) /\ Hd (BoxC wz bo (iF (fA k O gs v a mix) n ((aw n sl).take j))) /\ Hd (Blk wz (w.heap.size + 1) 40 [.bool false, .slice none 0 0, .slice none 0 0]) /\ Hd (Blk wz w.heap.size 43 [.int .i64 O, .int .i64 v, .slice Al nl cl, .int .i64 k, .bool s, .slice A m c, .slice A' m' c', .slice Am ml cm]) /\ Hd (Below w.heap.size w wz))
 case atStart => exact ⟨0, _, _, rfl, rfl, by omega, HH, BX3, RE3, PE3, BE3⟩
 clear HH BX3 RE3 PE3 BE3
 obtain ⟨w9, rfl⟩ : ∃ x, x = wr := ⟨_, rfl⟩
 obtain ⟨j, Ah, ch, rfl, rfl, hj, HH, BX, RE, PE, BE⟩ := hrel
 obtain ⟨P, hP⟩ : ∃ p, iF (fA k O gs v a mix) n ((aw n sl).take j) = p := ⟨_, rfl⟩
 obtain ⟨qs, hqs⟩ : ∃ l, fA k O gs v a mix (f7 n sl j) = l := ⟨_, rfl⟩
 have hal := HALL.o (f7 n sl j)
 rw [hqs] at hal
 have HQS := aH hqs
 rw [hP] at BX
 obtain ⟨Ao, mo, co, Ao', mo', co', o0, o1, o2, _, _, _, tO⟩ := BX.o.get
 have QP : Hd (QB 65000001 P) := aH (by
  rw [<- hP]
  have := oX HQB.o n ((aw n sl).take j)
  rw [List.length_take, dt] at this
  exact this.mono (by omega))
 have TP := aH (tO.frac (k := 100000000) (QP.o.mono (by omega)) (by omega))
 have sO := BX.o.lt
 have sL : w.heap.size < w9.heap.size := PE.o.lt
 have BW := aH BE.o
 have nbH : ∀ A n' c, Value.slice Ah n ch = .slice (some A) n' c -> f7 n sl j ≠ [] -> A.block ≠ bo := fun A n' c e hne => by
  injection e with e1
  subst e1
  obtain ⟨_, _, e, _, _, hat⟩ := HH.o.open_
  injection e with e1
  obtain ⟨x, hx⟩ : ∃ x, (f7 n sl j)[0]? = some x := ⟨_, eG (List.length_pos_iff.2 hne)⟩
  obtain ⟨b, o, e2, _, hc⟩ := hat 0 x hx
  rw [<- e1] at e2
  injection e2 with e2
  rw [e2]
  exact FArc.int_ne BX.o hc
 have HNB := aH nbH
 clear nbH tO
 obtain ⟨p0, p1, p2, p3, p4, p5, p6, p7⟩ := an PE.o
 rcases zP gk with hh | hh
 ·subst hh
  obtain rfl : j = ns := by omega
  obtain ⟨qx, hqx⟩ : ∃ q, qs[0]? = some q := ⟨_, eG (by omega)⟩
  have HQX := aH hqx
  have QX : Hd (QB 5000000 qx) := aH (HQB.o (f7 n sl j) qx (by rw [hqs]; exact mG hqx))
  obtain ⟨P2, hP2⟩ : ∃ x : Rat, P * qx = x := ⟨_, rfl⟩
  have HPX := aH hP2
  have HEND : Hd (oj (fA k O gs v a mix) n sl = P2) := aH (by
   rw [<- yX, HNS.o, x9 (x := 0) _ (by rw [HNS.o]; exact nR _) (by rw [<- HNS.o]; exact yQ n sl), hP, hqs, <- hP2]
   congr 1
   show qs.getD 0 0 = qx
   rw [gD, hqx]
   rfl)
  have q3 : (0 : Int) < (v : Int) + 1 := by omega
  have nw : w.heap.size ≠ w.heap.size + 1 := by omega
  have no : bo ≠ w.heap.size + 1 := by omega
  have HSET : Hd (∀ w', Below w9.heap.size w9 w' -> (fun w' => w'.cell? ⟨w.heap.size, 0, none⟩ = some (.int .i64 O) /\ w'.cell? ⟨w.heap.size, 1, none⟩ = some (.int .i64 v) /\ w'.cell? ⟨w.heap.size, 2, none⟩ = some (.slice Al nl cl) /\ w'.cell? ⟨w.heap.size, 3, none⟩ = some (.int .i64 k) /\ w'.cell? ⟨w.heap.size, 4, none⟩ = some (.bool s) /\ w'.cell? ⟨w.heap.size, 5, none⟩ = some (.slice A m c) /\ w'.cell? ⟨w.heap.size, 6, none⟩ = some (.slice A' m' c') /\ w'.cell? ⟨w.heap.size, 7, none⟩ = some (.slice Am ml cm) /\ w'.cell? ⟨bo, 0, none⟩ = some (.bool (ae P)) /\ w'.cell? ⟨bo, 1, none⟩ = some (.slice Ao mo co) /\ w'.cell? ⟨bo, 2, none⟩ = some (.slice Ao' mo' co')) w') := aH (fun w' hb => ⟨(hb.cell (p := ⟨w.heap.size, 0, none⟩) sL).trans p0, (hb.cell (p := ⟨w.heap.size, 1, none⟩) sL).trans p1, (hb.cell (p := ⟨w.heap.size, 2, none⟩) sL).trans p2, (hb.cell (p := ⟨w.heap.size, 3, none⟩) sL).trans p3, (hb.cell (p := ⟨w.heap.size, 4, none⟩) sL).trans p4, (hb.cell (p := ⟨w.heap.size, 5, none⟩) sL).trans p5, (hb.cell (p := ⟨w.heap.size, 6, none⟩) sL).trans p6, (hb.cell (p := ⟨w.heap.size, 7, none⟩) sL).trans p7, (hb.cell (p := ⟨bo, 0, none⟩) sO).trans o0, (hb.cell (p := ⟨bo, 1, none⟩) sO).trans o1, (hb.cell (p := ⟨bo, 2, none⟩) sO).trans o2⟩)
  clear hP hqs hal hqx hP2 o0 o1 o2 p0 p1 p2 p3 p4 p5 p6 p7
  go_wp2_with fail
  refine wp_region_held_drew (S := (fun w' => w'.cell? ⟨w.heap.size, 0, none⟩ = some (.int .i64 O) /\ w'.cell? ⟨w.heap.size, 1, none⟩ = some (.int .i64 v) /\ w'.cell? ⟨w.heap.size, 2, none⟩ = some (.slice Al nl cl) /\ w'.cell? ⟨w.heap.size, 3, none⟩ = some (.int .i64 k) /\ w'.cell? ⟨w.heap.size, 4, none⟩ = some (.bool s) /\ w'.cell? ⟨w.heap.size, 5, none⟩ = some (.slice A m c) /\ w'.cell? ⟨w.heap.size, 6, none⟩ = some (.slice A' m' c') /\ w'.cell? ⟨w.heap.size, 7, none⟩ = some (.slice Am ml cm) /\ w'.cell? ⟨bo, 0, none⟩ = some (.bool (ae P)) /\ w'.cell? ⟨bo, 1, none⟩ = some (.slice Ao mo co) /\ w'.cell? ⟨bo, 2, none⟩ = some (.slice Ao' mo' co'))) (by kernel_rfl) (HSET.o _ (bS w9)) (fun hHeld => ?_)
  refine tjj 0 ?_ rfl (by kernel_rfl) rfl ‹_› ?_ (fun _ _ _ h => h) (tjj 1 ?_ rfl (by kernel_rfl) rfl ‹_› ?_ (fun _ _ _ h => h) (tjj 2 ?_ rfl (by kernel_rfl) rfl ‹_› ?_ (fun _ _ _ h => h) ?_))
  iterate 3 (rotate_left; · (intro w' hSw; (try dsimp only at hSw); (try go_frame); go_simp <;> with_reducible rfl))
  go_frame
  refine wpAnyH_ready (rs := [3]) (by kernel_rfl) (by simp) ?_
  refine AllReadyH.cons rfl (fun K hK => ?_) AllReadyH.nil
  go_simp
  refine (lN w9.drew O v (.slice Al nl cl) gs k s A A' m c m' c' (.slice Am ml cm) a mix _ (f7 n sl j) (LA.o _ (BW.o.trans (bS _))) (HH.o.below (bS _)) (HE.o j (by omega)) hv8 h60).mono ?_
  rw [HQS.o]
  rintro e wl ⟨br, rfl, hbr, hfr, hb'⟩
  have hb := bO hb'
  have BB := aH hb
  have FR := aH hfr
  have hbr2 : w9.heap.size <= br := hbr
  clear hfr hb' hbr
  have hS := HSET.o wl hb
  try go_simp
  refine hK.out _ _ hS (fun hHeld => ?_)
  clear hK K hS
  try go_frame
  refine tjj 4 ?_ rfl (by kernel_rfl) rfl ‹_› ?_ (fun _ _ _ h => h) ?_
  rotate_left
  ·(intro w' hSw; (try dsimp only at hSw); (try go_frame); go_simp <;> with_reducible rfl)
  go_frame
  obtain ⟨Ar, mr, cr, Ar', mr', cr', k0, k1, k2, _, _, _, tr⟩ := FR.o.get HQX.o
  simp only [Nat.zero_mul, Nat.zero_add] at k0 k1 k2
  have TR := aH (tr.frac (k := 100000000) (QX.o.mono (by omega)) (by omega))
  clear tr
  refine wpAnyH_ready (rs := [5]) (by kernel_rfl) (by simp) ?_
  refine AllReadyH.cons rfl (fun K hK => ?_) AllReadyH.nil
  go_simp
  refine hK.out _ _ hHeld (fun hHeld => ?_)
  clear hK K
  try go_frame
  clear k0 k1 k2
  refine wpAnyH_ready (rs := [6]) (by kernel_rfl) (by simp) ?_
  refine AllReadyH.cons rfl (fun K hK => ?_) AllReadyH.nil
  go_simp
  clear hHeld
  refine (mV _ _ _ P qx 100000000 (TP.o.below BB.o) TR.o (by omega) (by omega)).mono ?_
  rintro e wl2 ⟨u, rfl, t, hb2⟩
  rw [HPX.o] at t
  have BB2 := aH (BB.o.trans (hb2.mono BB.o.size))
  obtain ⟨As, ms, cs, As', ms', cs', rfl⟩ := t.at_.open_
  have T2 := aH t.at_
  clear t hb2
  have hS := HSET.o wl2 BB2.o
  try go_simp
  refine hK.out _ _ hS (fun hHeld => ?_)
  clear hK K hS
  try go_frame
  obtain ⟨z0, z1, z2, y0, y1, y2⟩ := (RE.o.below' BB2.o).three
  refine wpAnyH_ready (rs := [7]) (by kernel_rfl) (by simp) ?_
  refine AllReadyH.cons rfl (fun K hK => ?_) AllReadyH.nil
  go_simp
  refine hK.out _ _ ⟨aj hHeld.1 nw _ _ _ _ _ _, aj hHeld.2.1 nw _ _ _ _ _ _, aj hHeld.2.2.1 nw _ _ _ _ _ _, aj hHeld.2.2.2.1 nw _ _ _ _ _ _, aj hHeld.2.2.2.2.1 nw _ _ _ _ _ _, aj hHeld.2.2.2.2.2.1 nw _ _ _ _ _ _, aj hHeld.2.2.2.2.2.2.1 nw _ _ _ _ _ _, aj hHeld.2.2.2.2.2.2.2.1 nw _ _ _ _ _ _, aj hHeld.2.2.2.2.2.2.2.2.1 no _ _ _ _ _ _, aj hHeld.2.2.2.2.2.2.2.2.2.1 no _ _ _ _ _ _, aj hHeld.2.2.2.2.2.2.2.2.2.2 no _ _ _ _ _ _⟩ (fun _ => ?_)
  clear hK K hHeld
  try go_frame
  refine wpAnyH_done (by kernel_rfl) ?_ _
  have RB := aH ((((RE.o.below' BB2.o).set_ 0 (.bool (ae P2))).set_ 1 (.slice As ms cs)).set_ 2 (.slice As' ms' cs'))
  have TE := aH (CanAt.put3 T2.o (RE.o.below' BB2.o) (by intro x hx; simp only [List.mem_cons, List.not_mem_nil, or_false] at hx; rcases hx with rfl | rfl | rfl <;> trivial) 0 1 2 (ae P2) As As' ms cs ms' cs')
  have BE8 := aH (aL (BE.o.trans (BB2.o.mono BE.o.size)) (show w.heap.size <= w.heap.size + 1 by omega) 0 1 2 (.bool (ae P2)) (.slice As ms cs) (.slice As' ms' cs'))
  obtain ⟨w8, hw8⟩ : ∃ z, ((wl2.setCell ⟨w.heap.size + 1, 0, none⟩ (.bool (ae P2))).setCell ⟨w.heap.size + 1, 1, none⟩ (.slice As ms cs)).setCell ⟨w.heap.size + 1, 2, none⟩ (.slice As' ms' cs') = z := ⟨_, rfl⟩
  rw [hw8] at RB TE BE8 ⊢
  clear hw8 z0 z1 z2 y0 y1 y2
  obtain ⟨g0, g1, g2, _, _, _⟩ := RB.o.three
  go_wp2_with fail
  refine bodyPost_ret (v := .agg #[.bool (ae P2), .slice As ms cs, .slice As' ms' cs']) (by simp [results, Tryz.results56, go_sem, g0, g1, g2]) rfl ⟨_, rfl, by rw [HEND.o]; exact TE.o, BE8.o⟩
 obtain ⟨gh, rfl⟩ : ∃ g, gk = g + 1 := ⟨gk - 1, by omega⟩
 obtain ⟨x, hx⟩ : ∃ x, sl[j]? = some x := ⟨_, eG (by rw [HNS.o]; omega)⟩
 obtain ⟨bs, os, hAs, hbs, hcs⟩ := HSAT.o j x hx
 subst hAs
 have hxr := HIN.o x (mG hx)
 obtain ⟨y, rfl⟩ : ∃ y : Nat, x = y := ⟨x.toNat, by omega⟩
 obtain ⟨qx, hqx⟩ : ∃ q, qs[y]? = some q := ⟨_, eG (by omega)⟩
 have HQX := aH hqx
 have QX : Hd (QB 5000000 qx) := aH (HQB.o (f7 n sl j) qx (by rw [hqs]; exact mG hqx))
 obtain ⟨P2, hP2⟩ : ∃ x : Rat, P * qx = x := ⟨_, rfl⟩
 have HPX := aH hP2
 have HNP : Hd (iF (fA k O gs v a mix) n ((aw n sl).take (j + 1)) = P2) := aH (by
  rw [x9 (x := (y : Int)) _ (by rw [HNS.o]; omega) (by rw [yb (by rw [HNS.o]; omega)]; exact hx), hP, hqs, <- hP2]
  congr 1
  show qs.getD y 0 = qx
  rw [gD, hqx]
  rfl)
 have HNX : Hd (fP (f7 n sl j) (y : Int) = f7 n sl (j + 1)) := aH (yi hx)
 have HNL : Hd ((f7 n sl (j + 1)).length = n) := aH (xD (by rw [HNS.o]; omega))
 have HSC := aH hcs
 have sc := (BE.o.cell (p := ⟨bs, os + j, none⟩) hbs).trans hcs
 have sS : bs < w9.heap.size := by have := BE.o.size; omega
 have q1 : (0 : Int) <= (y : Int) := by omega
 have q2 : (y : Int) < (v : Int) + 1 := by omega
 have q5 : (0 : Int) <= (j : Int) := by omega
 have q6 : (j : Int) < (ns : Int) := by omega
 have d1 : decide ((j : Int) < (ns : Int)) = true := dT q6
 have d2 : decide (j < ns) = true := dT (by omega)
 have j1 : IntKind.i64.wrap ((j : Int) + 1) = (j : Int) + 1 := iI _ (by omega)
 have HSET : Hd (∀ w', Below w9.heap.size w9 w' -> (fun w' => w'.cell? ⟨w.heap.size, 0, none⟩ = some (.int .i64 O) /\ w'.cell? ⟨w.heap.size, 1, none⟩ = some (.int .i64 v) /\ w'.cell? ⟨w.heap.size, 2, none⟩ = some (.slice Al nl cl) /\ w'.cell? ⟨w.heap.size, 3, none⟩ = some (.int .i64 k) /\ w'.cell? ⟨w.heap.size, 4, none⟩ = some (.bool s) /\ w'.cell? ⟨w.heap.size, 5, none⟩ = some (.slice A m c) /\ w'.cell? ⟨w.heap.size, 6, none⟩ = some (.slice A' m' c') /\ w'.cell? ⟨w.heap.size, 7, none⟩ = some (.slice Am ml cm) /\ w'.cell? ⟨bs, os + j, none⟩ = some (.int .i64 y)) w') := aH (fun w' hb => ⟨(hb.cell (p := ⟨w.heap.size, 0, none⟩) sL).trans p0, (hb.cell (p := ⟨w.heap.size, 1, none⟩) sL).trans p1, (hb.cell (p := ⟨w.heap.size, 2, none⟩) sL).trans p2, (hb.cell (p := ⟨w.heap.size, 3, none⟩) sL).trans p3, (hb.cell (p := ⟨w.heap.size, 4, none⟩) sL).trans p4, (hb.cell (p := ⟨w.heap.size, 5, none⟩) sL).trans p5, (hb.cell (p := ⟨w.heap.size, 6, none⟩) sL).trans p6, (hb.cell (p := ⟨w.heap.size, 7, none⟩) sL).trans p7, (hb.cell (p := ⟨bs, os + j, none⟩) sS).trans sc⟩)
 have nbL : bs ≠ bo := by omega
 have nw : w.heap.size ≠ bo := by omega
 clear hP hqs hal hx hqx hP2 hcs sc p0 p1 p2 p3 p4 p5 p6 p7 hxr
 go_upto_region 6 with fail
 go_cut [7] (fun iv wc => iv = .int .i64 j /\ Hd (BoxC wc bo P2) /\ Hd (Blk wc (w.heap.size + 1) 40 [.bool false, .slice none 0 0, .slice none 0 0]) /\ Hd (Blk wc w.heap.size 43 [.int .i64 O, .int .i64 v, .slice Al nl cl, .int .i64 k, .bool s, .slice A m c, .slice A' m' c', .slice Am ml cm]) /\ Hd (Below w.heap.size w wc) /\ Hd (IntsAt wc (.slice Ah n ch) (f7 n sl j)))
 case first =>
  refine wp_region_held_drew (S := (fun w' => w'.cell? ⟨w.heap.size, 0, none⟩ = some (.int .i64 O) /\ w'.cell? ⟨w.heap.size, 1, none⟩ = some (.int .i64 v) /\ w'.cell? ⟨w.heap.size, 2, none⟩ = some (.slice Al nl cl) /\ w'.cell? ⟨w.heap.size, 3, none⟩ = some (.int .i64 k) /\ w'.cell? ⟨w.heap.size, 4, none⟩ = some (.bool s) /\ w'.cell? ⟨w.heap.size, 5, none⟩ = some (.slice A m c) /\ w'.cell? ⟨w.heap.size, 6, none⟩ = some (.slice A' m' c') /\ w'.cell? ⟨w.heap.size, 7, none⟩ = some (.slice Am ml cm) /\ w'.cell? ⟨bs, os + j, none⟩ = some (.int .i64 y))) (by kernel_rfl) (HSET.o _ (bS w9)) (fun hHeld => ?_)
  refine tjj 1 ?_ rfl (by kernel_rfl) rfl ‹_› ?_ (fun _ _ _ h => h) (tjj 2 ?_ rfl (by kernel_rfl) rfl ‹_› ?_ (fun _ _ _ h => h) (tjj 4 ?_ rfl (by kernel_rfl) rfl ‹_› ?_ (fun _ _ _ h => h) (tjj 5 ?_ rfl (by kernel_rfl) rfl ‹_› ?_ (fun _ _ _ h => h) (tjj 6 ?_ rfl (by kernel_rfl) rfl ‹_› ?_ (fun _ _ _ h => h) (tjj 7 ?_ rfl (by kernel_rfl) rfl ‹_› ?_ (fun _ _ _ h => h) ?_)))))
  iterate 6 (rotate_left; · (intro w' hSw; (try dsimp only at hSw); (try go_frame); go_simp <;> with_reducible rfl))
  go_frame
  refine wpAnyH_ready (rs := [0, 3]) (by kernel_rfl) (by simp) ?_
  refine AllReadyH.cons rfl (fun K hK => ?_) (AllReadyH.cons rfl (fun K hK => ?_) AllReadyH.nil)
  ·go_simp
   refine hK.out _ _ hHeld (fun hHeld => ?_)
   clear hK K
   try go_frame
   refine wpAnyH_ready (rs := [3]) (by kernel_rfl) (by simp) ?_
   refine AllReadyH.cons rfl (fun K hK => ?_) AllReadyH.nil
   go_simp
   refine (lN w9.drew O v (.slice Al nl cl) gs k s A A' m c m' c' (.slice Am ml cm) a mix _ (f7 n sl j) (LA.o _ (BW.o.trans (bS _))) (HH.o.below (bS _)) (HE.o j (by omega)) hv8 h60).mono ?_
   rw [HQS.o]
   rintro e wl ⟨br, rfl, hbr, hfr, hb'⟩
   have hb := bO hb'
   have BB := aH hb
   have FR := aH hfr
   have hbr2 : w9.heap.size <= br := hbr
   clear hfr hb' hbr
   have hS := HSET.o wl hb
   try go_simp
   refine hK.out _ _ hS (fun hHeld => ?_)
   clear hK K hS
   try go_frame
   refine tjj 8 ?_ rfl (by kernel_rfl) rfl ‹_› ?_ (fun _ _ _ h => h) ?_
   rotate_left
   ·(intro w' hSw; (try dsimp only at hSw); (try go_frame); go_simp <;> with_reducible rfl)
   go_frame
   obtain ⟨Ar, mr, cr, Ar', mr', cr', k0, k1, k2, _, _, _, tr⟩ := FR.o.get HQX.o
   skip
   have TR := aH (tr.frac (k := 100000000) (QX.o.mono (by omega)) (by omega))
   clear tr
   refine wpAnyH_ready (rs := [9]) (by kernel_rfl) (by simp) ?_
   refine AllReadyH.cons rfl (fun K hK => ?_) AllReadyH.nil
   go_simp
   refine hK.out _ _ hHeld (fun hHeld => ?_)
   clear hK K
   try go_frame
   clear k0 k1 k2
   refine wpAnyH_ready (rs := [10]) (by kernel_rfl) (by simp) ?_
   refine AllReadyH.cons rfl (fun K hK => ?_) AllReadyH.nil
   go_simp
   clear hHeld
   refine (mV _ _ _ P qx 100000000 (TP.o.below BB.o) TR.o (by omega) (by omega)).mono ?_
   rintro e wl2 ⟨u, rfl, t, hb2⟩
   rw [HPX.o] at t
   have BB2 := aH (BB.o.trans (hb2.mono BB.o.size))
   obtain ⟨As, ms, cs, As', ms', cs', rfl⟩ := t.at_.open_
   have T2 := aH t.at_
   clear t hb2
   have hS := HSET.o wl2 BB2.o
   try go_simp
   refine hK.out _ _ hS (fun hHeld => ?_)
   clear hK K hS
   try go_frame
   obtain ⟨_, _, _, _, _, _, z0, z1, z2, y0, y1, y2, _⟩ := (BX.o.below BB2.o).get
   refine wpAnyH_ready (rs := [11]) (by kernel_rfl) (by simp) ?_
   refine AllReadyH.cons rfl (fun K hK => ?_) AllReadyH.nil
   go_simp
   refine hK.out _ _ ⟨aj hHeld.1 nw _ _ _ _ _ _, aj hHeld.2.1 nw _ _ _ _ _ _, aj hHeld.2.2.1 nw _ _ _ _ _ _, aj hHeld.2.2.2.1 nw _ _ _ _ _ _, aj hHeld.2.2.2.2.1 nw _ _ _ _ _ _, aj hHeld.2.2.2.2.2.1 nw _ _ _ _ _ _, aj hHeld.2.2.2.2.2.2.1 nw _ _ _ _ _ _, aj hHeld.2.2.2.2.2.2.2.1 nw _ _ _ _ _ _, aj hHeld.2.2.2.2.2.2.2.2 nbL _ _ _ _ _ _⟩ (fun _ => ?_)
   clear hK K hHeld
   try go_frame
   refine wpAnyH_done (by kernel_rfl) ?_ _
   go_wp2_with fail
   go_meet
   exact ⟨rfl, aH ((BX.o.below BB2.o).put rfl T2.o), aH ((RE.o.below' BB2.o).far3 (show w.heap.size + 1 ≠ bo by omega) _ _ _ _ _ _), aH ((PE.o.below' BB2.o).far3 (show w.heap.size ≠ bo by omega) _ _ _ _ _ _), aH (aL (BE.o.trans (BB2.o.mono BE.o.size)) (show w.heap.size <= bo by omega) _ _ _ _ _ _), aH (HH.o.far3 BX.o BB2.o HNB.o _ _ _)⟩
  go_simp
  refine (lN w9.drew O v (.slice Al nl cl) gs k s A A' m c m' c' (.slice Am ml cm) a mix _ (f7 n sl j) (LA.o _ (BW.o.trans (bS _))) (HH.o.below (bS _)) (HE.o j (by omega)) hv8 h60).mono ?_
  rw [HQS.o]
  rintro e wl ⟨br, rfl, hbr, hfr, hb'⟩
  have hb := bO hb'
  have BB := aH hb
  have FR := aH hfr
  have hbr2 : w9.heap.size <= br := hbr
  clear hfr hb' hbr
  have hS := HSET.o wl hb
  try go_simp
  refine hK.out _ _ hS (fun hHeld => ?_)
  clear hK K hS
  try go_frame
  refine tjj 8 ?_ rfl (by kernel_rfl) rfl ‹_› ?_ (fun _ _ _ h => h) ?_
  rotate_left
  ·(intro w' hSw; (try dsimp only at hSw); (try go_frame); go_simp <;> with_reducible rfl)
  go_frame
  have o0' := (BB.o.cell (p := ⟨bo, 0, none⟩) sO).trans o0
  have o1' := (BB.o.cell (p := ⟨bo, 1, none⟩) sO).trans o1
  have o2' := (BB.o.cell (p := ⟨bo, 2, none⟩) sO).trans o2
  obtain ⟨Ar, mr, cr, Ar', mr', cr', k0, k1, k2, _, _, _, tr⟩ := FR.o.get HQX.o
  have TR := aH (tr.frac (k := 100000000) (QX.o.mono (by omega)) (by omega))
  clear tr
  refine wpAnyH_ready (rs := [0, 9]) (by kernel_rfl) (by simp) ?_
  refine AllReadyH.cons rfl (fun K hK => ?_) (AllReadyH.cons rfl (fun K hK => ?_) AllReadyH.nil)
  ·go_simp
   refine hK.out _ _ hHeld (fun hHeld => ?_)
   clear hK K
   try go_frame
   refine wpAnyH_ready (rs := [9]) (by kernel_rfl) (by simp) ?_
   refine AllReadyH.cons rfl (fun K hK => ?_) AllReadyH.nil
   go_simp
   refine hK.out _ _ hHeld (fun hHeld => ?_)
   clear hK K
   try go_frame
   clear o0' o1' o2' k0 k1 k2
   refine wpAnyH_ready (rs := [10]) (by kernel_rfl) (by simp) ?_
   refine AllReadyH.cons rfl (fun K hK => ?_) AllReadyH.nil
   go_simp
   clear hHeld
   refine (mV _ _ _ P qx 100000000 (TP.o.below BB.o) TR.o (by omega) (by omega)).mono ?_
   rintro e wl2 ⟨u, rfl, t, hb2⟩
   rw [HPX.o] at t
   have BB2 := aH (BB.o.trans (hb2.mono BB.o.size))
   obtain ⟨As, ms, cs, As', ms', cs', rfl⟩ := t.at_.open_
   have T2 := aH t.at_
   clear t hb2
   have hS := HSET.o wl2 BB2.o
   try go_simp
   refine hK.out _ _ hS (fun hHeld => ?_)
   clear hK K hS
   try go_frame
   obtain ⟨_, _, _, _, _, _, z0, z1, z2, y0, y1, y2, _⟩ := (BX.o.below BB2.o).get
   refine wpAnyH_ready (rs := [11]) (by kernel_rfl) (by simp) ?_
   refine AllReadyH.cons rfl (fun K hK => ?_) AllReadyH.nil
   go_simp
   refine hK.out _ _ ⟨aj hHeld.1 nw _ _ _ _ _ _, aj hHeld.2.1 nw _ _ _ _ _ _, aj hHeld.2.2.1 nw _ _ _ _ _ _, aj hHeld.2.2.2.1 nw _ _ _ _ _ _, aj hHeld.2.2.2.2.1 nw _ _ _ _ _ _, aj hHeld.2.2.2.2.2.1 nw _ _ _ _ _ _, aj hHeld.2.2.2.2.2.2.1 nw _ _ _ _ _ _, aj hHeld.2.2.2.2.2.2.2.1 nw _ _ _ _ _ _, aj hHeld.2.2.2.2.2.2.2.2 nbL _ _ _ _ _ _⟩ (fun _ => ?_)
   clear hK K hHeld
   try go_frame
   refine wpAnyH_done (by kernel_rfl) ?_ _
   go_wp2_with fail
   go_meet
   exact ⟨rfl, aH ((BX.o.below BB2.o).put rfl T2.o), aH ((RE.o.below' BB2.o).far3 (show w.heap.size + 1 ≠ bo by omega) _ _ _ _ _ _), aH ((PE.o.below' BB2.o).far3 (show w.heap.size ≠ bo by omega) _ _ _ _ _ _), aH (aL (BE.o.trans (BB2.o.mono BE.o.size)) (show w.heap.size <= bo by omega) _ _ _ _ _ _), aH (HH.o.far3 BX.o BB2.o HNB.o _ _ _)⟩
  go_simp
  refine hK.out _ _ hHeld (fun hHeld => ?_)
  clear hK K
  try go_frame
  refine wpAnyH_ready (rs := [0]) (by kernel_rfl) (by simp) ?_
  refine AllReadyH.cons rfl (fun K hK => ?_) AllReadyH.nil
  go_simp
  refine hK.out _ _ hHeld (fun hHeld => ?_)
  clear hK K
  try go_frame
  clear o0' o1' o2' k0 k1 k2
  refine wpAnyH_ready (rs := [10]) (by kernel_rfl) (by simp) ?_
  refine AllReadyH.cons rfl (fun K hK => ?_) AllReadyH.nil
  go_simp
  clear hHeld
  refine (mV _ _ _ P qx 100000000 (TP.o.below BB.o) TR.o (by omega) (by omega)).mono ?_
  rintro e wl2 ⟨u, rfl, t, hb2⟩
  rw [HPX.o] at t
  have BB2 := aH (BB.o.trans (hb2.mono BB.o.size))
  obtain ⟨As, ms, cs, As', ms', cs', rfl⟩ := t.at_.open_
  have T2 := aH t.at_
  clear t hb2
  have hS := HSET.o wl2 BB2.o
  try go_simp
  refine hK.out _ _ hS (fun hHeld => ?_)
  clear hK K hS
  try go_frame
  obtain ⟨_, _, _, _, _, _, z0, z1, z2, y0, y1, y2, _⟩ := (BX.o.below BB2.o).get
  refine wpAnyH_ready (rs := [11]) (by kernel_rfl) (by simp) ?_
  refine AllReadyH.cons rfl (fun K hK => ?_) AllReadyH.nil
  go_simp
  refine hK.out _ _ ⟨aj hHeld.1 nw _ _ _ _ _ _, aj hHeld.2.1 nw _ _ _ _ _ _, aj hHeld.2.2.1 nw _ _ _ _ _ _, aj hHeld.2.2.2.1 nw _ _ _ _ _ _, aj hHeld.2.2.2.2.1 nw _ _ _ _ _ _, aj hHeld.2.2.2.2.2.1 nw _ _ _ _ _ _, aj hHeld.2.2.2.2.2.2.1 nw _ _ _ _ _ _, aj hHeld.2.2.2.2.2.2.2.1 nw _ _ _ _ _ _, aj hHeld.2.2.2.2.2.2.2.2 nbL _ _ _ _ _ _⟩ (fun _ => ?_)
  clear hK K hHeld
  try go_frame
  refine wpAnyH_done (by kernel_rfl) ?_ _
  go_wp2_with fail
  go_meet
  exact ⟨rfl, aH ((BX.o.below BB2.o).put rfl T2.o), aH ((RE.o.below' BB2.o).far3 (show w.heap.size + 1 ≠ bo by omega) _ _ _ _ _ _), aH ((PE.o.below' BB2.o).far3 (show w.heap.size ≠ bo by omega) _ _ _ _ _ _), aH (aL (BE.o.trans (BB2.o.mono BE.o.size)) (show w.heap.size <= bo by omega) _ _ _ _ _ _), aH (HH.o.far3 BX.o BB2.o HNB.o _ _ _)⟩
 obtain ⟨rfl, BX8, RE8, PE8, BE8, HH8⟩ := hcut
 obtain ⟨w8, rfl⟩ : ∃ x, x = wc := ⟨_, rfl⟩
 clear HSET
 have sc := (BE8.o.cell (p := ⟨bs, os + j, none⟩) hbs).trans HSC.o
 go_wp2_with fail
 refine (wQ w8 _ (f7 n sl j) (y : Int) HH8.o (by rw [xD (by rw [HNS.o]; omega)]; omega)).mono ?_
 rintro e w7 ⟨nv, rfl, hn, hb7⟩
 rw [HNX.o] at hn
 obtain ⟨An, cn, rfl, _, _, _⟩ := hn.open_
 rw [HNL.o] at hn ⊢
 go_wp2_with fail
 go_roundg gh
 case measure => omega
 case rel => exact ⟨j + 1, An, cn, rfl, rfl, by omega, aH hn, aH (by rw [HNP.o]; exact BX8.o.below hb7), aH (RE8.o.below' hb7), aH (PE8.o.below' hb7), aH (BE8.o.trans (hb7.mono BE8.o.size))⟩
theorem xZ {O V : Int} {gs : List Gr} {k : Int} {a : Rat} {mix : List Rat} {xs ys : List (List Int)} (h : eX O V gs k a mix ys = 0) (hs : ∀ x ∈ xs, x ∈ ys) : eX O V gs k a mix xs = 0 := by
 have h1 := oW h
 unfold eX at h ⊢
 split at h
 ·cases h
 next h2 =>
 have h3 : ¬ (20000 < gs.length ∨ gw xs = true) := by
  rintro (h4 | h4)
  ·exact h2 (.inl h4)
  refine h2 (.inr ?_)
  obtain ⟨x, hx, hx2⟩ := List.any_eq_true.1 h4
  exact List.any_eq_true.2 ⟨x, hs x hx, hx2⟩
 rw [if_neg h3, if_neg (by rw [h1.1]; decide), if_neg]
 intro h4
 obtain ⟨x, hx, hx2⟩ := List.any_eq_true.1 h4
 rw [(h1.2 x (hs x hx)).2] at hx2
 cases hx2

theorem za (w : World) (O v : Nat) (lv : Value) (gs : List Gr) (k : Int) (s : Bool) (A A' : Option Addr) (m c m' c' : Nat) (mv : Value) (a : Rat) (mix : List Rat) (xv yv : Value) (xl yl : List Int) (h : LangAt w lv gs s A A' m c m' c' a mv mix) (hx : IntsAt w xv xl) (hy : IntsAt w yv yl) (hE : eX O v gs k a mix [xl, yl] = 0) (hv8 : v <= 8) (h60 : gs.length <= 60) (hxl : xl.length <= 12) (hyl : yl.length <= 12) :
  Calls Tryz.prog 57 #[aG O v lv k s A A' m c m' c' mv, xv, yv] w fun e w' => e = .returned (.int .i64 (usualI (fA k O gs v a mix) (O - 1) xl yl)) /\ Below w.heap.size w w' := by
 obtain ⟨Al, cl, rfl, _, _, _⟩ := h.grams.open_
 obtain ⟨Am, cm, rfl, _, _, _⟩ := h.mixes.open_
 obtain ⟨Ax, cx, rfl, hxc, hxm, _⟩ := hx.open_
 obtain ⟨Ay, cy, rfl, hyc, hym, _⟩ := hy.open_
 obtain ⟨nl, hnl⟩ : ∃ x, gs.length = x := ⟨_, rfl⟩
 obtain ⟨ml, hml⟩ : ∃ x, mix.length = x := ⟨_, rfl⟩
 obtain ⟨n1, hn1⟩ : ∃ n, xl.length = n := ⟨_, rfl⟩
 obtain ⟨n2, hn2⟩ : ∃ n, yl.length = n := ⟨_, rfl⟩
 obtain ⟨qx, hqx⟩ : ∃ q, oj (fA k O gs v a mix) (O - 1) xl = q := ⟨_, rfl⟩
 obtain ⟨qy, hqy⟩ : ∃ q, oj (fA k O gs v a mix) (O - 1) yl = q := ⟨_, rfl⟩
 have HX : Hd (∀ w', Below w.heap.size w w' -> Calls Tryz.prog 56 #[aG O v (.slice Al nl cl) k s A A' m c m' c' (.slice Am ml cm), .slice Ax n1 cx] w' fun e w2 => ∃ u, e = .returned u /\ CanAt w2 u qx /\ Below w'.heap.size w' w2) := aH (fun w' hb => by
  rw [<- hqx, <- hnl, <- hml, <- hn1]
  exact yW w' O v _ gs k s A A' m c m' c' _ a mix _ xl (h.below hb) (hx.below hb) (xZ hE (by simp)) hv8 h60 hxl)
 have HY : Hd (∀ w', Below w.heap.size w w' -> Calls Tryz.prog 56 #[aG O v (.slice Al nl cl) k s A A' m c m' c' (.slice Am ml cm), .slice Ay n2 cy] w' fun e w2 => ∃ u, e = .returned u /\ CanAt w2 u qy /\ Below w'.heap.size w' w2) := aH (fun w' hb => by
  rw [<- hqy, <- hnl, <- hml, <- hn2]
  exact yW w' O v _ gs k s A A' m c m' c' _ a mix _ yl (h.below hb) (hy.below hb) (xZ hE (by simp)) hv8 h60 hyl)
 have HU : Hd (usualI (fA k O gs v a mix) (O - 1) xl yl = aU (qx ^ (n2 + 1) - qy ^ (n1 + 1))) := aH (by unfold usualI; rw [hn1, hn2, hqx, hqy])
 have RQ : ∀ h, ∀ q ∈ fA k O gs v a mix h, QB 5000000 q := by
  obtain ⟨T, rv, F, hw⟩ := rk w O v _ gs k s A A' m c m' c' _ a mix h (oW hE).1 hv8
  exact hw.qb
 have QX : Hd (QB 65000001 qx) := aH (by rw [<- hqx]; exact xQ RQ _ hxl)
 have QY : Hd (QB 65000001 qy) := aH (by rw [<- hqy]; exact xQ RQ _ hyl)
 have QX2 : Hd (QB 1000000000 (qx ^ (n2 + 1))) := aH ((xR QX.o (n2 + 1)).mono (by omega))
 have QY2 : Hd (QB 1000000000 (qy ^ (n1 + 1))) := aH ((xR QY.o (n1 + 1)).mono (by omega))
 rw [HU.o, hnl, hml]
 rw [hn1] at hxc hxl ⊢
 rw [hn2] at hyc hyl ⊢
 have i1 : IntKind.i64.wrap ((n1 : Int) + 1) = (n1 : Int) + 1 := iI _ (by omega)
 have i2 : IntKind.i64.wrap ((n2 : Int) + 1) = (n2 : Int) + 1 := iI _ (by omega)
 obtain ⟨px, hpx⟩ : ∃ q, qx ^ (n2 + 1) = q := ⟨_, rfl⟩
 obtain ⟨py, hpy⟩ : ∃ q, qy ^ (n1 + 1) = q := ⟨_, rfl⟩
 rw [hpx] at QX2 ⊢
 rw [hpy] at QY2 ⊢
 have HPX := aH hpx
 have HPY := aH hpy
 clear h hx hy hE RQ hn1 hn2 hqx hqy hnl hml HU hpx hpy h60
 unfold aG at HX HY ⊢
 go_enter Tryz.func57, Tryz.ntmps57
 go_wp2_with fail
 obtain ⟨W, hW, P0, PB, Phs⟩ := aA w 43 [.int .i64 O, .int .i64 v, .slice Al nl cl, .int .i64 k, .bool s, .slice A m c, .slice A' m' c', .slice Am ml cm]
 rw [<- hW]
 clear hW
 obtain ⟨p0, p1, p2, p3, p4, p5, p6, p7⟩ := an P0.o
 have sL := P0.o.lt
 have HSET : Hd (∀ w', Below W.heap.size W w' -> (fun w' => w'.cell? ⟨w.heap.size, 0, none⟩ = some (.int .i64 O) /\ w'.cell? ⟨w.heap.size, 1, none⟩ = some (.int .i64 v) /\ w'.cell? ⟨w.heap.size, 2, none⟩ = some (.slice Al nl cl) /\ w'.cell? ⟨w.heap.size, 3, none⟩ = some (.int .i64 k) /\ w'.cell? ⟨w.heap.size, 4, none⟩ = some (.bool s) /\ w'.cell? ⟨w.heap.size, 5, none⟩ = some (.slice A m c) /\ w'.cell? ⟨w.heap.size, 6, none⟩ = some (.slice A' m' c') /\ w'.cell? ⟨w.heap.size, 7, none⟩ = some (.slice Am ml cm)) w') := aH (fun w' hb => ⟨(hb.cell (p := ⟨w.heap.size, 0, none⟩) sL).trans p0, (hb.cell (p := ⟨w.heap.size, 1, none⟩) sL).trans p1, (hb.cell (p := ⟨w.heap.size, 2, none⟩) sL).trans p2, (hb.cell (p := ⟨w.heap.size, 3, none⟩) sL).trans p3, (hb.cell (p := ⟨w.heap.size, 4, none⟩) sL).trans p4, (hb.cell (p := ⟨w.heap.size, 5, none⟩) sL).trans p5, (hb.cell (p := ⟨w.heap.size, 6, none⟩) sL).trans p6, (hb.cell (p := ⟨w.heap.size, 7, none⟩) sL).trans p7⟩)
 have BB := aH (Below.refl W.heap.size W)
 have hS := HSET.o W BB.o
 clear p0 p1 p2 p3 p4 p5 p6 p7
 go_region_held3 (fun w' => w'.cell? ⟨w.heap.size, 0, none⟩ = some (.int .i64 O) /\ w'.cell? ⟨w.heap.size, 1, none⟩ = some (.int .i64 v) /\ w'.cell? ⟨w.heap.size, 2, none⟩ = some (.slice Al nl cl) /\ w'.cell? ⟨w.heap.size, 3, none⟩ = some (.int .i64 k) /\ w'.cell? ⟨w.heap.size, 4, none⟩ = some (.bool s) /\ w'.cell? ⟨w.heap.size, 5, none⟩ = some (.slice A m c) /\ w'.cell? ⟨w.heap.size, 6, none⟩ = some (.slice A' m' c') /\ w'.cell? ⟨w.heap.size, 7, none⟩ = some (.slice Am ml cm))
  (first | assumption | exact hS | go_keep)
  (first
   | (go_at_call_of 56 (Value.slice Ax n1 cx); refine (HX.o _ (by first | exact PB.o.trans (BB.o.mono PB.o.size) | exact (PB.o.trans (BB.o.mono PB.o.size)).trans (bS _))).mono ?_; rintro e wl ⟨u1, rfl, t, hb⟩; (try replace hb := bO hb); replace BB := aH (BB.o.trans (hb.mono BB.o.size)); have hs := BB.o.size; have T1 := aH (t.frac (k := 65000001) QX.o (by omega)); have hS := HSET.o _ BB.o; clear t hb)
   | (go_at_call_of 127 u1; refine (powR _ _ qx 65000001 (n2 + 1) ?_ (by omega) (by omega) (by omega)).mono ?_; (first | exact T1.o | exact T1.o.below (bS _)); rintro e wl ⟨u2, rfl, t, hb⟩; rw [HPX.o] at t; (try replace hb := bO hb); replace BB := aH (BB.o.trans (hb.mono BB.o.size)); have hs := BB.o.size; have T2 := aH (t.frac (k := 1000000000) QX2.o (by omega)); have hS := HSET.o _ BB.o; clear t hb)
   | (go_at_call_of 56 (Value.slice Ay n2 cy); refine (HY.o _ (by first | exact PB.o.trans (BB.o.mono PB.o.size) | exact (PB.o.trans (BB.o.mono PB.o.size)).trans (bS _))).mono ?_; rintro e wl ⟨u3, rfl, t, hb⟩; (try replace hb := bO hb); replace T2 := aH (T2.o.below hb); replace BB := aH (BB.o.trans (hb.mono BB.o.size)); have hs := BB.o.size; have T3 := aH (t.frac (k := 65000001) QY.o (by omega)); have hS := HSET.o _ BB.o; clear t hb)
   | (go_at_call_of 127 u3; refine (powR _ _ qy 65000001 (n1 + 1) ?_ (by omega) (by omega) (by omega)).mono ?_; (first | exact T3.o | exact T3.o.below (bS _)); rintro e wl ⟨u4, rfl, t, hb⟩; rw [HPY.o] at t; (try replace hb := bO hb); replace T2 := aH (T2.o.below hb); replace BB := aH (BB.o.trans (hb.mono BB.o.size)); have hs := BB.o.size; have T4 := aH (t.frac (k := 1000000000) QY2.o (by omega)); have hS := HSET.o _ BB.o; clear t hb)
   | (go_at_call 30; refine (vW _ _ _ px py 1000000000 ?_ ?_ (by omega) (by omega)).mono ?_; (first | exact T2.o | exact T2.o.below (bS _)); (first | exact T4.o | exact T4.o.below (bS _)); rintro e wl ⟨rfl, hb⟩; (try replace hb := bO hb); replace BB := aH (BB.o.trans (hb.mono BB.o.size)); have hs := BB.o.size; have hS := HSET.o _ BB.o; clear hb))
 go_wp2_with fail
 have BR := aH (PB.o.trans (BB.o.mono PB.o.size))
 first
  | (go_ret; exact ⟨rfl, BR.o⟩)
  | (go_ret2; exact ⟨rfl, BR.o⟩)
theorem xW {w : World} {g : Nat} {x : Value} {l : List Int} (h : Blk w g 44 [x]) (hx : IntsAt w x l) : ListsAt w (.slice (some ⟨g, 0, none⟩) 1 1) [l] := by
 have h1 := h.sl (sz := 1) (n := 1) (c := 1) (by simp) (nR _) (by unfold maxLen; omega)
 refine ⟨_, h1, fun i z hz => ?_⟩
 match i, hz with
 | 0, hz => cases hz; exact ⟨_, rfl, hx⟩
theorem xO {O V : Int} {gs : List Gr} {k : Int} {a : Rat} {mix : List Rat} (ls : List (List Int)) (hg : gs.length <= 60) : eX O V gs k a mix ls = if (spokeE V ls != 5 && aJ O V gs k a mix != 0) = true then aJ O V gs k a mix else spokeE V ls := by
 unfold eX spokeE
 by_cases h1 : gw ls = true
 ·rw [if_pos (.inr h1), if_pos h1]
  rfl
 rw [if_neg (by rintro (h | h); omega; exact h1 h), if_neg h1]
 by_cases h2 : aJ O V gs k a mix = 0
 ·rw [if_neg (by rw [h2]; decide), h2]
  simp
 rw [if_pos h2]
 by_cases h3 : jZ V ls = true
 ·rw [if_pos h3, if_pos (by simpa using h2)]
 rw [if_neg h3, if_pos (by simpa using h2)]
theorem xI {O V : Int} {gs : List Gr} {k : Int} {a : Rat} {mix : List Rat} {ls : List (List Int)} (h : eX O V gs k a mix ls = 0) : ∃ o v : Nat, O = o /\ V = v := by
 have := en (eI (cI (oW h).1).1).2.1
 exact ⟨O.toNat, V.toNat, by omega, by omega⟩
theorem yV (w : World) (O V : Int) (lv : Value) (gs : List Gr) (k : Int) (s : Bool) (A A' : Option Addr) (m c m' c' : Nat) (mv : Value) (a : Rat) (mix : List Rat) (sv : Value) (sl : List Int) (z : Int) (q : Rat) (h : LangAt w lv gs s A A' m c m' c' a mv mix) (hs : IntsAt w sv sl) (hE : eX O V gs k a mix [sl] = z) (hq : (if z = 0 then oj (fA k O.toNat gs V.toNat a mix) (O.toNat - 1) sl else 0) = q) (hv8 : V <= 8) :
  Calls Tryz.prog 36 #[aG O V lv k s A A' m c m' c' mv, sv] w fun e w' => ∃ u, e = .returned (.tuple #[u, .int .i64 z]) /\ CanAt w' u q /\ Below w.heap.size w w' := by
 by_cases hz : z = 0
 ·subst hz
  obtain ⟨o, v, rfl, rfl⟩ := xI hE
  rw [if_pos rfl] at hq
  subst hq
  exact sentAny w o v lv gs k s A A' m c m' c' mv a mix sv sl h hs hE (by omega)
 rw [if_neg hz] at hq
 subst hq
 refine (yU w O V lv gs k s A A' m c m' c' mv a mix sv sl z h hs hE hz).mono ?_
 rintro e w' ⟨rfl, hb⟩
 exact ⟨_, rfl, (CanNew.zero_ 0 w').at_, hb⟩
theorem yE (w : World) (O V : Int) (lv : Value) (gs : List Gr) (k : Int) (s : Bool) (A A' : Option Addr) (m c m' c' : Nat) (mv : Value) (a : Rat) (mix : List Rat) (xv yv : Value) (xl yl : List Int) (z un : Int) (h : LangAt w lv gs s A A' m c m' c' a mv mix) (hx : IntsAt w xv xl) (hy : IntsAt w yv yl) (hE : eX O V gs k a mix [xl, yl] = z) (hq : (if z = 0 then usualI (fA k O.toNat gs V.toNat a mix) (O.toNat - 1) xl yl else 0) = un) (hv8 : V <= 8) (hxl : xl.length <= 6 ∨ 500 < xl.length) (hyl : yl.length <= 6 ∨ 500 < yl.length) :
  Calls Tryz.prog 55 #[aG O V lv k s A A' m c m' c' mv, xv, yv] w fun e w' => e = .returned (.tuple #[.int .i64 un, .int .i64 z]) /\ Below w.heap.size w w' := by
 by_cases hz : z = 0
 ·subst hz
  obtain ⟨o, v, rfl, rfl⟩ := xI hE
  rw [if_pos rfl] at hq
  subst hq
  have h1 := (oW hE).2
  exact usualG w o v lv gs k s A A' m c m' c' mv a mix xv yv xl yl h hx hy hE (by omega) (by have := (h1 xl (by simp)).1; omega) (by have := (h1 yl (by simp)).1; omega)
 rw [if_neg hz] at hq
 subst hq
 exact yD w O V lv gs k s A A' m c m' c' mv a mix xv yv xl yl z h hx hy hE hz

theorem xM (hsort : ma) (w : World) (O V : Int) (Al : Option Addr) (nl cl : Nat) (gs : List Gr) (k : Int) (s : Bool) (A A' : Option Addr) (m c m' c' : Nat) (mv : Value) (am : Raw) (rs : List Raw) (av : Value) (al : List Int) (bv : Value) (bl : List Int) (hg : GramsAt w (.slice Al nl cl) gs) (ha : RawAt w (.agg #[.bool s, .slice A m c, .slice A' m' c']) am) (hm : RawsAt w mv rs) (hal : IntsAt w av al) (hbl : IntsAt w bv bl) (hO : -9223372036854775808 <= O /\ O <= 9223372036854775807) :
  Calls Tryz.prog 10 #[aG O V (.slice Al nl cl) k s A A' m c m' c' mv, av, bv] w fun e w' => e = .returned (.bool true) /\ Below w.heap.size w w' := by
 obtain ⟨Am, cm, rfl, hmc, hcm, _⟩ := hm.open_
 obtain ⟨Aa, ca, rfl, hac, hacm, _⟩ := hal.open_
 obtain ⟨Ab, cb, rfl, hbc, hbcm, _⟩ := hbl.open_
 have HK := aH (vQ hsort)
 obtain ⟨ml, hml⟩ : ∃ n, rs.length = n := ⟨_, rfl⟩
 obtain ⟨na, hna⟩ : ∃ n, al.length = n := ⟨_, rfl⟩
 obtain ⟨nb, hnb⟩ : ∃ n, bl.length = n := ⟨_, rfl⟩
 have HTN : Hd (∀ w', Below w.heap.size w w' -> Calls Tryz.prog 25 #[aG O V (.slice Al nl cl) k s A A' m c m' c' (.slice Am ml cm)] w' fun e w2 => e = .returned (.bool (da V gs am rs)) /\ Below w'.heap.size w' w2) := aH (fun w' hb => by
  rw [<- hml]
  exact wj w' O V (.slice Al nl cl) gs k s A A' m c m' c' _ am rs (hg.below hb) (ha.below hb) (hm.below hb))
 have HLA : Hd (da V gs am rs = true -> ∀ w', Below w.heap.size w w' -> LangAt w' (.slice Al nl cl) gs s A A' m c m' c' am.q (.slice Am ml cm) (rs.map Raw.q)) := aH (fun ht w' hb => by
  rw [<- hml]
  exact (LangAt.of hg ha hm ht).below hb)
 have HA1 : Hd (∀ w', Below w.heap.size w w' -> IntsAt w' (.slice Aa na ca) al) := aH (fun w' hb => by rw [<- hna]; exact hal.below hb)
 have HB1 : Hd (∀ w', Below w.heap.size w w' -> IntsAt w' (.slice Ab nb cb) bl) := aH (fun w' hb => by rw [<- hnb]; exact hbl.below hb)
 rw [hml] at hmc ⊢
 rw [hna] at hac ⊢
 rw [hnb] at hbc ⊢
 have HNA := aH hna
 have HNB := aH hnb
 obtain ⟨tb, htb⟩ : ∃ b, da V gs am rs = b := ⟨_, rfl⟩
 have HTB := aH htb
 obtain ⟨ts, hts⟩ : ∃ b, (!tb || (decide ((6 : Int) < (na : Int)) && decide ((na : Int) <= 500)) || (decide ((6 : Int) < (nb : Int)) && decide ((nb : Int) <= 500))) = b := ⟨_, rfl⟩
 have HTS := aH hts
 clear hsort hg ha hm hal hbl hml hna hnb htb hts
 unfold aG
 go_enter Tryz.func10, Tryz.ntmps10
 go_upto_region 1 with fail
 obtain ⟨W, hW, P0, PB, Phs⟩ := aA w 43 [.int .i64 O, .int .i64 V, .slice Al nl cl, .int .i64 k, .bool s, .slice A m c, .slice A' m' c', .slice Am ml cm]
 rw [<- hW]
 clear hW
 obtain ⟨p0, p1, p2, p3, p4, p5, p6, p7⟩ := an P0.o
 go_cut [35] (fun t wc => t = .bool ts /\ Hd (Below W.heap.size W wc))
 case first =>
  go_wp2_with fail
  refine (HTN.o W PB.o).mono ?_
  rintro e w1 ⟨rfl, hb1⟩
  rw [HTB.o]
  have BB1 := aH hb1
  clear hb1
  have HTT := HTS.o
  cases tb with
  | false =>
   go_wp2_with fail
   go_meet
   exact ⟨by rw [<- HTT]; rfl, BB1⟩
  | true =>
   obtain ⟨x1, h1⟩ : ∃ b, decide ((6 : Int) < (na : Int)) = b := ⟨_, rfl⟩
   obtain ⟨x2, h2⟩ : ∃ b, decide ((na : Int) <= 500) = b := ⟨_, rfl⟩
   obtain ⟨y1, h3⟩ : ∃ b, decide ((6 : Int) < (nb : Int)) = b := ⟨_, rfl⟩
   obtain ⟨y2, h4⟩ : ∃ b, decide ((nb : Int) <= 500) = b := ⟨_, rfl⟩
   have g1 : decide (6 < na) = x1 := by rw [<- h1]; exact decide_eq_decide.2 (by omega)
   have g2 : decide (na <= 500) = x2 := by rw [<- h2]; exact decide_eq_decide.2 (by omega)
   have g3 : decide (6 < nb) = y1 := by rw [<- h3]; exact decide_eq_decide.2 (by omega)
   have g4 : decide (nb <= 500) = y2 := by rw [<- h4]; exact decide_eq_decide.2 (by omega)
   rw [h1, h2, h3, h4] at HTT
   have HT2 := aH HTT
   clear HTT
   cases x1 <;> cases x2 <;> cases y1 <;> cases y2 <;> (go_wp2_with fail; go_meet; exact ⟨by rw [<- HT2.o]; rfl, BB1⟩)
 obtain ⟨rfl, hcc⟩ := hcut
 have hb1 := hcc.o
 obtain ⟨w1, rfl⟩ : ∃ x, x = wc := ⟨_, rfl⟩
 have P1 := aH (P0.o.below' hb1)
 have B1 := aH (PB.o.trans (hb1.mono PB.o.size))
 clear p0 p1 p2 p3 p4 p5 p6 p7 hb1 hcc P0 PB
 obtain ⟨p0, p1, p2, p3, p4, p5, p6, p7⟩ := an P1.o
 cases ts with
 | true =>
  go_wp2_with fail
  refine (HK.o _).mono ?_
  rintro e wK ⟨rfl, hbK⟩
  have BK := aH (B1.o.trans (hbK.mono B1.o.size))
  clear hbK
  go_wp2_with fail
  go_ret
  exact ⟨rfl, BK.o⟩
 | false =>
  have HTT := HTS.o
  simp only [Bool.or_eq_false_iff, Bool.not_eq_false', Bool.and_eq_false_iff, decide_eq_false_iff_not] at HTT
  obtain ⟨⟨rfl, hla⟩, hlb⟩ := HTT
  have HLA6 : Hd (al.length <= 6 ∨ 500 < al.length) := aH (by rw [HNA.o]; omega)
  have HLB6 : Hd (bl.length <= 6 ∨ 500 < bl.length) := aH (by rw [HNB.o]; omega)
  have LA := aH (HLA.o HTB.o)
  have SM := aH (rE (iZ HTB.o).1)
  obtain ⟨a, hqa⟩ : ∃ q, am.q = q := ⟨_, rfl⟩
  obtain ⟨mix, hmix⟩ : ∃ l, rs.map Raw.q = l := ⟨_, rfl⟩
  rw [hqa, hmix] at LA
  clear hqa hmix hla hlb HTS
  obtain ⟨ce, hce⟩ : ∃ z, aJ O V gs k a mix = z := ⟨_, rfl⟩
  have HCE := aH hce
  obtain ⟨eo, heo⟩ : ∃ z, spokeE V [al] = z := ⟨_, rfl⟩
  obtain ⟨eb, heb⟩ : ∃ z, spokeE V [al, bl] = z := ⟨_, rfl⟩
  obtain ⟨e1, he1⟩ : ∃ z, eX O V gs k a mix [al] = z := ⟨_, rfl⟩
  obtain ⟨e2, he2⟩ : ∃ z, eX O V gs k a mix [al, bl] = z := ⟨_, rfl⟩
  obtain ⟨qx, hqx⟩ : ∃ q, (if e1 = 0 then oj (fA k O.toNat gs V.toNat a mix) (O.toNat - 1) al else 0) = q := ⟨_, rfl⟩
  obtain ⟨un, hun⟩ : ∃ q, (if e2 = 0 then usualI (fA k O.toNat gs V.toNat a mix) (O.toNat - 1) al bl else 0) = q := ⟨_, rfl⟩
  obtain ⟨x1, hx1⟩ : ∃ b, (eo != 5 && ce != 0) = b := ⟨_, rfl⟩
  obtain ⟨x2, hx2⟩ : ∃ b, (eb != 5 && ce != 0) = b := ⟨_, rfl⟩
  have HONE := aH heo
  have HBOTH := aH heb
  have HE1 := aH he1
  have HE2 := aH he2
  have HQX := aH hqx
  have HUN := aH hun
  have HX1 := aH hx1
  have HX2 := aH hx2
  have HE1X : Hd (e1 = if x1 = true then ce else eo) := aH (by rw [<- he1, xO _ SM.o.1, heo, hce, hx1])
  have HE2X : Hd (e2 = if x2 = true then ce else eb) := aH (by rw [<- he2, xO _ SM.o.1, heb, hce, hx2])
  have HQ0 : Hd (e1 ≠ 0 -> qx = 0) := aH (fun h => by rw [<- hqx, if_neg h])
  have HU0 : Hd (e2 ≠ 0 -> un = 0) := aH (fun h => by rw [<- hun, if_neg h])
  have HSA : Hd (e1 = 0 -> ∀ w', Below w.heap.size w w' -> Calls Tryz.prog 56 #[aG O V (.slice Al nl cl) k s A A' m c m' c' (.slice Am ml cm), .slice Aa na ca] w' fun e w2 => ∃ u, e = .returned u /\ CanAt w2 u qx /\ Below w'.heap.size w' w2) := aH (fun h0 w' hb => by
   rw [h0] at he1
   obtain ⟨o, v, rfl, rfl⟩ := xI he1
   rw [<- hqx, if_pos h0]
   exact yW w' o v _ gs k s A A' m c m' c' _ a mix _ al (LA.o w' hb) (HA1.o w' hb) he1 (by have := SM.o.2; omega) SM.o.1 (by have := ((oW he1).2 al (by simp)).1; have := HLA6.o; omega))
  have HUS : Hd (e2 = 0 -> ∀ w', Below w.heap.size w w' -> Calls Tryz.prog 57 #[aG O V (.slice Al nl cl) k s A A' m c m' c' (.slice Am ml cm), .slice Aa na ca, .slice Ab nb cb] w' fun e w2 => e = .returned (.int .i64 un) /\ Below w'.heap.size w' w2) := aH (fun h0 w' hb => by
   rw [h0] at he2
   obtain ⟨o, v, rfl, rfl⟩ := xI he2
   rw [<- hun, if_pos h0]
   have h1 := (oW he2).2
   exact za w' o v _ gs k s A A' m c m' c' _ a mix _ _ al bl (LA.o w' hb) (HA1.o w' hb) (HB1.o w' hb) he2 (by have := SM.o.2; omega) SM.o.1 (by have := (h1 al (by simp)).1; have := HLA6.o; omega) (by have := (h1 bl (by simp)).1; have := HLB6.o; omega))
  unfold aG at HSA HUS
  clear hce heo heb he1 he2 hqx hun hx1 hx2
  go_wp2_with fail
  refine (yV w1 O V (.slice Al nl cl) gs k s A A' m c m' c' (.slice Am ml cm) a mix _ al e1 qx (LA.o w1 B1.o) (HA1.o w1 B1.o) HE1.o HQX.o SM.o.2).mono ?_
  rintro e w2 ⟨u, rfl, hu, hb2⟩
  obtain ⟨Ax, mx, cx, Ax', mx', cx', rfl⟩ := hu.open_
  have U2 := aH hu
  clear hu
  clear p0 p1 p2 p3 p4 p5 p6 p7
  have B2 := aH (B1.o.trans (hb2.mono B1.o.size))
  have P2 := aH (P1.o.below' hb2)
  clear B1 P1
  clear hb2
  obtain ⟨p0, p1, p2, p3, p4, p5, p6, p7⟩ := an P2.o
  go_upto_region 4 with fail
  obtain ⟨w3, hw3, X0, XB, Xhs⟩ := aA w2 40 [.bool (ae qx), .slice Ax mx cx, .slice Ax' mx' cx']
  rw [<- hw3]
  clear hw3
  clear p0 p1 p2 p3 p4 p5 p6 p7
  have B3 := aH (B2.o.trans (XB.o.mono B2.o.size))
  have P3 := aH (P2.o.below' XB.o)
  have U3 := aH (U2.o.below XB.o)
  clear B2 P2 U2
  have X3 := X0
  clear X0 XB Xhs
  obtain ⟨p0, p1, p2, p3, p4, p5, p6, p7⟩ := an P3.o
  go_wp2_with fail
  refine (yE w3 O V (.slice Al nl cl) gs k s A A' m c m' c' (.slice Am ml cm) a mix _ _ al bl e2 un (LA.o w3 B3.o) (HA1.o w3 B3.o) (HB1.o w3 B3.o) HE2.o HUN.o SM.o.2 HLA6.o HLB6.o).mono ?_
  rintro e w4 ⟨rfl, hb4⟩
  clear p0 p1 p2 p3 p4 p5 p6 p7
  have B4 := aH (B3.o.trans (hb4.mono B3.o.size))
  have P4 := aH (P3.o.below' hb4)
  have U4 := aH (U3.o.below hb4)
  have X4 := aH (X3.o.below' hb4)
  clear B3 P3 U3 X3
  clear hb4
  obtain ⟨p0, p1, p2, p3, p4, p5, p6, p7⟩ := an P4.o
  go_upto_region 5 with fail
  go_cut [11, 12] (fun s1 s2 wc => s1 = .int .i64 eo /\ s2 = .int .i64 eb /\ Hd (Below w4.heap.size w4 wc))
  case first =>
   have sL := P4.o.lt
   refine wp_region_held_drew (S := (fun w' => w'.cell? ⟨w.heap.size, 1, none⟩ = some (.int .i64 V))) (by kernel_rfl) (show w4.drew.cell? ⟨w.heap.size, 1, none⟩ = some (.int .i64 V) from p1) (fun hHeld => ?_)
   refine tjj 0 ?_ rfl (by kernel_rfl) rfl ‹_› ?_ (fun _ _ _ h => h) (tjj 1 ?_ rfl (by kernel_rfl) rfl ‹_› ?_ (fun _ _ _ h => h) (tjj 2 ?_ rfl (by kernel_rfl) rfl ‹_› ?_ (fun _ _ _ h => h) (tjj 3 ?_ rfl (by kernel_rfl) rfl ‹_› ?_ (fun _ _ _ h => h) (tjj 6 ?_ rfl (by kernel_rfl) rfl ‹_› ?_ (fun _ _ _ h => h) (tjj 7 ?_ rfl (by kernel_rfl) rfl ‹_› ?_ (fun _ _ _ h => h) (tjj 8 ?_ rfl (by kernel_rfl) rfl ‹_› ?_ (fun _ _ _ h => h) (tjj 9 ?_ rfl (by kernel_rfl) rfl ‹_› ?_ (fun _ _ _ h => h) (tjj 10 ?_ rfl (by kernel_rfl) rfl ‹_› ?_ (fun _ _ _ h => h) ?_))))))))
   iterate 9 (rotate_left; · (intro w' hSw; (try dsimp only at hSw); (try go_frame); go_simp <;> with_reducible rfl))
   go_frame
   refine wpAnyH_ready (rs := [4, 11]) (by kernel_rfl) (by simp) ?_
   refine AllReadyH.cons rfl (fun K hK => ?_) (AllReadyH.cons rfl (fun K hK => ?_) AllReadyH.nil)
   ·go_simp
    refine hK.out _ _ (au hHeld _) (fun hHeld => ?_)
    clear hK K
    try go_frame
    try go_simp
    obtain ⟨Wa, hWa, Y0, YB, Yhs⟩ := aA w4 44 [.slice Aa na ca]
    replace hHeld : Wa.cell? ⟨w.heap.size, 1, none⟩ = some (.int .i64 V) := by rw [hWa]; exact hHeld
    rw [<- hWa]
    clear hWa
    refine wpAnyH_ready (rs := [5, 11]) (by kernel_rfl) (by simp) ?_
    refine AllReadyH.cons rfl (fun K hK => ?_) (AllReadyH.cons rfl (fun K hK => ?_) AllReadyH.nil)
    ·go_simp
     refine (spokenG _ V _ [al] (xW Y0.o.drew (HA1.o _ (B4.o.trans ((((Below.refl w4.heap.size w4).trans (YB.o.mono (by first | exact nR _ | (show w4.heap.size <= _; omega)))).trans (bS Wa)).mono B4.o.size))))).mono ?_
     rintro e wb ⟨rfl, hbwb'⟩
     have hbwb := bO hbwb'
     have zwb : Wa.heap.size <= wb.heap.size := hbwb.size
     rw [HONE.o]
     have hS := (hbwb.cell (p := ⟨w.heap.size, 1, none⟩) (by show w.heap.size < _; omega)).trans hHeld
     clear hHeld
     try go_simp
     refine hK.out _ _ hS (fun hHeld => ?_)
     clear hK K hS
     try go_frame
     refine wpAnyH_ready (rs := [11]) (by kernel_rfl) (by simp) ?_
     refine AllReadyH.cons rfl (fun K hK => ?_) AllReadyH.nil
     go_simp
     refine hK.out _ _ (au hHeld _) (fun hHeld => ?_)
     clear hK K
     try go_frame
     try go_simp
     obtain ⟨Wc, hWc, Z0, ZB, Zhs⟩ := aA wb 44 [.slice Aa na ca, .slice Ab nb cb]
     replace hHeld : Wc.cell? ⟨w.heap.size, 1, none⟩ = some (.int .i64 V) := by rw [hWc]; exact hHeld
     rw [<- hWc]
     clear hWc
     refine wpAnyH_ready (rs := [12]) (by kernel_rfl) (by simp) ?_
     refine AllReadyH.cons rfl (fun K hK => ?_) AllReadyH.nil
     go_simp
     refine (spokenG _ V _ [al, bl] (xJ Z0.o (HA1.o _ (B4.o.trans (((((Below.refl w4.heap.size w4).trans (YB.o.mono (by first | exact nR _ | (show w4.heap.size <= _; omega)))).trans (hbwb.mono (by first | exact nR _ | (show w4.heap.size <= _; omega)))).trans (ZB.o.mono (by first | exact nR _ | (show w4.heap.size <= _; omega)))).mono B4.o.size))) (HB1.o _ (B4.o.trans (((((Below.refl w4.heap.size w4).trans (YB.o.mono (by first | exact nR _ | (show w4.heap.size <= _; omega)))).trans (hbwb.mono (by first | exact nR _ | (show w4.heap.size <= _; omega)))).trans (ZB.o.mono (by first | exact nR _ | (show w4.heap.size <= _; omega)))).mono B4.o.size))))).mono ?_
     rintro e wd ⟨rfl, hbwd⟩
     skip
     have zwd : Wc.heap.size <= wd.heap.size := hbwd.size
     rw [HBOTH.o]
     have hS := (hbwd.cell (p := ⟨w.heap.size, 1, none⟩) (by show w.heap.size < _; omega)).trans hHeld
     clear hHeld
     try go_simp
     refine hK.out _ _ hS (fun hHeld => ?_)
     clear hK K hS
     try go_frame
     refine tjj 13 ?_ rfl (by kernel_rfl) rfl ‹_› ?_ (fun _ _ _ h => h) (tjj 14 ?_ rfl (by kernel_rfl) rfl ‹_› ?_ (fun _ _ _ h => h) ?_)
     iterate 2 (rotate_left; · (intro w' hSw; (try dsimp only at hSw); (try go_frame); go_simp <;> with_reducible rfl))
     go_frame
     refine wpAnyH_done (by kernel_rfl) ?_ _
     go_wp2_with fail
     go_meet
     exact ⟨rfl, rfl, aH ((((((Below.refl w4.heap.size w4).trans (YB.o.mono (by first | exact nR _ | (show w4.heap.size <= _; omega)))).trans (hbwb.mono (by first | exact nR _ | (show w4.heap.size <= _; omega)))).trans (ZB.o.mono (by first | exact nR _ | (show w4.heap.size <= _; omega)))).trans (hbwd.mono (by first | exact nR _ | (show w4.heap.size <= _; omega)))))⟩
    go_simp
    refine hK.out _ _ (au hHeld _) (fun hHeld => ?_)
    clear hK K
    try go_frame
    try go_simp
    obtain ⟨Wc, hWc, Z0, ZB, Zhs⟩ := aA Wa 44 [.slice Aa na ca, .slice Ab nb cb]
    replace hHeld : Wc.cell? ⟨w.heap.size, 1, none⟩ = some (.int .i64 V) := by rw [hWc]; exact hHeld
    rw [<- hWc]
    clear hWc
    refine wpAnyH_ready (rs := [5]) (by kernel_rfl) (by simp) ?_
    refine AllReadyH.cons rfl (fun K hK => ?_) AllReadyH.nil
    go_simp
    refine (spokenG _ V _ [al] (xW (Y0.o.below' ZB.o).drew (HA1.o _ (B4.o.trans (((((Below.refl w4.heap.size w4).trans (YB.o.mono (by first | exact nR _ | (show w4.heap.size <= _; omega)))).trans (ZB.o.mono (by first | exact nR _ | (show w4.heap.size <= _; omega)))).trans (bS Wc)).mono B4.o.size))))).mono ?_
    rintro e wb ⟨rfl, hbwb'⟩
    have hbwb := bO hbwb'
    have zwb : Wc.heap.size <= wb.heap.size := hbwb.size
    rw [HONE.o]
    have hS := (hbwb.cell (p := ⟨w.heap.size, 1, none⟩) (by show w.heap.size < _; omega)).trans hHeld
    clear hHeld
    try go_simp
    refine hK.out _ _ hS (fun hHeld => ?_)
    clear hK K hS
    try go_frame
    refine wpAnyH_ready (rs := [12]) (by kernel_rfl) (by simp) ?_
    refine AllReadyH.cons rfl (fun K hK => ?_) AllReadyH.nil
    go_simp
    refine (spokenG _ V _ [al, bl] (xJ (Z0.o.below' hbwb) (HA1.o _ (B4.o.trans (((((Below.refl w4.heap.size w4).trans (YB.o.mono (by first | exact nR _ | (show w4.heap.size <= _; omega)))).trans (ZB.o.mono (by first | exact nR _ | (show w4.heap.size <= _; omega)))).trans (hbwb.mono (by first | exact nR _ | (show w4.heap.size <= _; omega)))).mono B4.o.size))) (HB1.o _ (B4.o.trans (((((Below.refl w4.heap.size w4).trans (YB.o.mono (by first | exact nR _ | (show w4.heap.size <= _; omega)))).trans (ZB.o.mono (by first | exact nR _ | (show w4.heap.size <= _; omega)))).trans (hbwb.mono (by first | exact nR _ | (show w4.heap.size <= _; omega)))).mono B4.o.size))))).mono ?_
    rintro e wd ⟨rfl, hbwd⟩
    skip
    have zwd : wb.heap.size <= wd.heap.size := hbwd.size
    rw [HBOTH.o]
    have hS := (hbwd.cell (p := ⟨w.heap.size, 1, none⟩) (by show w.heap.size < _; omega)).trans hHeld
    clear hHeld
    try go_simp
    refine hK.out _ _ hS (fun hHeld => ?_)
    clear hK K hS
    try go_frame
    refine tjj 13 ?_ rfl (by kernel_rfl) rfl ‹_› ?_ (fun _ _ _ h => h) (tjj 14 ?_ rfl (by kernel_rfl) rfl ‹_› ?_ (fun _ _ _ h => h) ?_)
    iterate 2 (rotate_left; · (intro w' hSw; (try dsimp only at hSw); (try go_frame); go_simp <;> with_reducible rfl))
    go_frame
    refine wpAnyH_done (by kernel_rfl) ?_ _
    go_wp2_with fail
    go_meet
    exact ⟨rfl, rfl, aH ((((((Below.refl w4.heap.size w4).trans (YB.o.mono (by first | exact nR _ | (show w4.heap.size <= _; omega)))).trans (ZB.o.mono (by first | exact nR _ | (show w4.heap.size <= _; omega)))).trans (hbwb.mono (by first | exact nR _ | (show w4.heap.size <= _; omega)))).trans (hbwd.mono (by first | exact nR _ | (show w4.heap.size <= _; omega)))))⟩
   go_simp
   refine hK.out _ _ (au hHeld _) (fun hHeld => ?_)
   clear hK K
   try go_frame
   try go_simp
   obtain ⟨Wc, hWc, Z0, ZB, Zhs⟩ := aA w4 44 [.slice Aa na ca, .slice Ab nb cb]
   replace hHeld : Wc.cell? ⟨w.heap.size, 1, none⟩ = some (.int .i64 V) := by rw [hWc]; exact hHeld
   rw [<- hWc]
   clear hWc
   refine wpAnyH_ready (rs := [4]) (by kernel_rfl) (by simp) ?_
   refine AllReadyH.cons rfl (fun K hK => ?_) AllReadyH.nil
   go_simp
   refine hK.out _ _ (au hHeld _) (fun hHeld => ?_)
   clear hK K
   try go_frame
   try go_simp
   obtain ⟨Wa, hWa, Y0, YB, Yhs⟩ := aA Wc 44 [.slice Aa na ca]
   replace hHeld : Wa.cell? ⟨w.heap.size, 1, none⟩ = some (.int .i64 V) := by rw [hWa]; exact hHeld
   rw [<- hWa]
   clear hWa
   refine wpAnyH_ready (rs := [5]) (by kernel_rfl) (by simp) ?_
   refine AllReadyH.cons rfl (fun K hK => ?_) AllReadyH.nil
   go_simp
   refine (spokenG _ V _ [al] (xW Y0.o.drew (HA1.o _ (B4.o.trans (((((Below.refl w4.heap.size w4).trans (ZB.o.mono (by first | exact nR _ | (show w4.heap.size <= _; omega)))).trans (YB.o.mono (by first | exact nR _ | (show w4.heap.size <= _; omega)))).trans (bS Wa)).mono B4.o.size))))).mono ?_
   rintro e wb ⟨rfl, hbwb'⟩
   have hbwb := bO hbwb'
   have zwb : Wa.heap.size <= wb.heap.size := hbwb.size
   rw [HONE.o]
   have hS := (hbwb.cell (p := ⟨w.heap.size, 1, none⟩) (by show w.heap.size < _; omega)).trans hHeld
   clear hHeld
   try go_simp
   refine hK.out _ _ hS (fun hHeld => ?_)
   clear hK K hS
   try go_frame
   refine wpAnyH_ready (rs := [12]) (by kernel_rfl) (by simp) ?_
   refine AllReadyH.cons rfl (fun K hK => ?_) AllReadyH.nil
   go_simp
   refine (spokenG _ V _ [al, bl] (xJ ((Z0.o.below' YB.o).below' hbwb) (HA1.o _ (B4.o.trans (((((Below.refl w4.heap.size w4).trans (ZB.o.mono (by first | exact nR _ | (show w4.heap.size <= _; omega)))).trans (YB.o.mono (by first | exact nR _ | (show w4.heap.size <= _; omega)))).trans (hbwb.mono (by first | exact nR _ | (show w4.heap.size <= _; omega)))).mono B4.o.size))) (HB1.o _ (B4.o.trans (((((Below.refl w4.heap.size w4).trans (ZB.o.mono (by first | exact nR _ | (show w4.heap.size <= _; omega)))).trans (YB.o.mono (by first | exact nR _ | (show w4.heap.size <= _; omega)))).trans (hbwb.mono (by first | exact nR _ | (show w4.heap.size <= _; omega)))).mono B4.o.size))))).mono ?_
   rintro e wd ⟨rfl, hbwd⟩
   skip
   have zwd : wb.heap.size <= wd.heap.size := hbwd.size
   rw [HBOTH.o]
   have hS := (hbwd.cell (p := ⟨w.heap.size, 1, none⟩) (by show w.heap.size < _; omega)).trans hHeld
   clear hHeld
   try go_simp
   refine hK.out _ _ hS (fun hHeld => ?_)
   clear hK K hS
   try go_frame
   refine tjj 13 ?_ rfl (by kernel_rfl) rfl ‹_› ?_ (fun _ _ _ h => h) (tjj 14 ?_ rfl (by kernel_rfl) rfl ‹_› ?_ (fun _ _ _ h => h) ?_)
   iterate 2 (rotate_left; · (intro w' hSw; (try dsimp only at hSw); (try go_frame); go_simp <;> with_reducible rfl))
   go_frame
   refine wpAnyH_done (by kernel_rfl) ?_ _
   go_wp2_with fail
   go_meet
   exact ⟨rfl, rfl, aH ((((((Below.refl w4.heap.size w4).trans (ZB.o.mono (by first | exact nR _ | (show w4.heap.size <= _; omega)))).trans (YB.o.mono (by first | exact nR _ | (show w4.heap.size <= _; omega)))).trans (hbwb.mono (by first | exact nR _ | (show w4.heap.size <= _; omega)))).trans (hbwd.mono (by first | exact nR _ | (show w4.heap.size <= _; omega)))))⟩
  obtain ⟨rfl, rfl, hcc⟩ := hcut
  have hbc := hcc.o
  obtain ⟨w5, rfl⟩ : ∃ x, x = wc := ⟨_, rfl⟩
  clear hcc
  clear p0 p1 p2 p3 p4 p5 p6 p7
  have B5 := aH (B4.o.trans (hbc.mono B4.o.size))
  have P5 := aH (P4.o.below' hbc)
  have U5 := aH (U4.o.below hbc)
  have X5 := aH (X4.o.below' hbc)
  clear B4 P4 U4 X4
  clear hbc
  obtain ⟨p0, p1, p2, p3, p4, p5, p6, p7⟩ := an P5.o
  go_upto_region 6 with fail
  go_cut [69] (fun t wc => t = .bool x1 /\ Hd (Below w5.heap.size w5 wc))
  case first =>
   by_cases h5 : eo = 5
   ·subst h5
    have HXX : Hd (false = x1) := aH (by rw [<- HX1.o]; rfl)
    go_wp2_with fail
    go_meet
    exact ⟨by rw [<- HXX.o], aH (Below.refl _ _)⟩
   have n5 : (eo != 5) = true := by simpa using h5
   have HXX : Hd ((ce != 0) = x1) := aH (by rw [<- HX1.o, n5, Bool.true_and])
   clear h5
   go_wp2_with fail
   refine (pV w5 O V (.slice Al nl cl) gs k s A A' m c m' c' (.slice Am ml cm) a mix (LA.o w5 B5.o)).mono ?_
   rw [HCE.o]
   rintro e wb ⟨rfl, hbb⟩
   have BBB := aH hbb
   clear hbb
   go_wp2_with fail
   go_meet
   exact ⟨by rw [<- HXX.o], BBB⟩
  obtain ⟨rfl, hcc⟩ := hcut
  have hbc := hcc.o
  obtain ⟨w6, rfl⟩ : ∃ x, x = wc := ⟨_, rfl⟩
  clear hcc
  clear p0 p1 p2 p3 p4 p5 p6 p7
  have B6 := aH (B5.o.trans (hbc.mono B5.o.size))
  have P6 := aH (P5.o.below' hbc)
  have U6 := aH (U5.o.below hbc)
  have X6 := aH (X5.o.below' hbc)
  clear B5 P5 U5 X5
  clear hbc
  obtain ⟨p0, p1, p2, p3, p4, p5, p6, p7⟩ := an P6.o
  go_upto_if 69 with fail
  go_cut [11] (fun t wc => t = .int .i64 e1 /\ Hd (Below w6.heap.size w6 wc))
  case first =>
   cases x1 with
   | false =>
    go_wp2_with fail
    go_meet
    exact ⟨by rw [HE1X.o]; rfl, aH (Below.refl _ _)⟩
   | true =>
    go_wp2_with fail
    refine (pV w6 O V (.slice Al nl cl) gs k s A A' m c m' c' (.slice Am ml cm) a mix (LA.o w6 B6.o)).mono ?_
    rw [HCE.o]
    rintro e wb ⟨rfl, hbb⟩
    have BBB := aH hbb
    clear hbb
    go_wp2_with fail
    go_meet
    exact ⟨by rw [HE1X.o]; rfl, BBB⟩
  obtain ⟨rfl, hcc⟩ := hcut
  have hbc := hcc.o
  obtain ⟨w7, rfl⟩ : ∃ x, x = wc := ⟨_, rfl⟩
  clear hcc
  clear p0 p1 p2 p3 p4 p5 p6 p7
  have B7 := aH (B6.o.trans (hbc.mono B6.o.size))
  have P7 := aH (P6.o.below' hbc)
  have U7 := aH (U6.o.below hbc)
  have X7 := aH (X6.o.below' hbc)
  clear B6 P6 U6 X6
  clear hbc
  obtain ⟨p0, p1, p2, p3, p4, p5, p6, p7⟩ := an P7.o
  go_upto_region 8 with fail
  go_cut [78] (fun t wc => t = .bool x2 /\ Hd (Below w7.heap.size w7 wc))
  case first =>
   by_cases h5 : eb = 5
   ·subst h5
    have HXX : Hd (false = x2) := aH (by rw [<- HX2.o]; rfl)
    go_wp2_with fail
    go_meet
    exact ⟨by rw [<- HXX.o], aH (Below.refl _ _)⟩
   have n5 : (eb != 5) = true := by simpa using h5
   have HXX : Hd ((ce != 0) = x2) := aH (by rw [<- HX2.o, n5, Bool.true_and])
   clear h5
   go_wp2_with fail
   refine (pV w7 O V (.slice Al nl cl) gs k s A A' m c m' c' (.slice Am ml cm) a mix (LA.o w7 B7.o)).mono ?_
   rw [HCE.o]
   rintro e wb ⟨rfl, hbb⟩
   have BBB := aH hbb
   clear hbb
   go_wp2_with fail
   go_meet
   exact ⟨by rw [<- HXX.o], BBB⟩
  obtain ⟨rfl, hcc⟩ := hcut
  have hbc := hcc.o
  obtain ⟨w8, rfl⟩ : ∃ x, x = wc := ⟨_, rfl⟩
  clear hcc
  clear p0 p1 p2 p3 p4 p5 p6 p7
  have B8 := aH (B7.o.trans (hbc.mono B7.o.size))
  have P8 := aH (P7.o.below' hbc)
  have U8 := aH (U7.o.below hbc)
  have X8 := aH (X7.o.below' hbc)
  clear B7 P7 U7 X7
  clear hbc
  obtain ⟨p0, p1, p2, p3, p4, p5, p6, p7⟩ := an P8.o
  go_upto_if 78 with fail
  go_cut [12] (fun t wc => t = .int .i64 e2 /\ Hd (Below w8.heap.size w8 wc))
  case first =>
   cases x2 with
   | false =>
    go_wp2_with fail
    go_meet
    exact ⟨by rw [HE2X.o]; rfl, aH (Below.refl _ _)⟩
   | true =>
    go_wp2_with fail
    refine (pV w8 O V (.slice Al nl cl) gs k s A A' m c m' c' (.slice Am ml cm) a mix (LA.o w8 B8.o)).mono ?_
    rw [HCE.o]
    rintro e wb ⟨rfl, hbb⟩
    have BBB := aH hbb
    clear hbb
    go_wp2_with fail
    go_meet
    exact ⟨by rw [HE2X.o]; rfl, BBB⟩
  obtain ⟨rfl, hcc⟩ := hcut
  have hbc := hcc.o
  obtain ⟨w9, rfl⟩ : ∃ x, x = wc := ⟨_, rfl⟩
  clear hcc
  clear p0 p1 p2 p3 p4 p5 p6 p7
  have B9 := aH (B8.o.trans (hbc.mono B8.o.size))
  have P9 := aH (P8.o.below' hbc)
  have U9 := aH (U8.o.below hbc)
  have X9 := aH (X8.o.below' hbc)
  clear B8 P8 U8 X8
  clear hbc
  obtain ⟨p0, p1, p2, p3, p4, p5, p6, p7⟩ := an P9.o
  have c1 : (e1 != e1) = false := by simp
  have c2 : (e2 != e2) = false := by simp
  obtain ⟨x0, x1, x2, _, _, _⟩ := X9.o.three
  have sX := X9.o.lt
  have sL := P9.o.lt
  have HSET : Hd (∀ w', Below w9.heap.size w9 w' -> (fun w' => w'.cell? ⟨w2.heap.size, 0, none⟩ = some (.bool (ae qx)) /\ w'.cell? ⟨w2.heap.size, 1, none⟩ = some (.slice Ax mx cx) /\ w'.cell? ⟨w2.heap.size, 2, none⟩ = some (.slice Ax' mx' cx') /\ w'.cell? ⟨w.heap.size, 0, none⟩ = some (.int .i64 O) /\ w'.cell? ⟨w.heap.size, 1, none⟩ = some (.int .i64 V) /\ w'.cell? ⟨w.heap.size, 2, none⟩ = some (.slice Al nl cl) /\ w'.cell? ⟨w.heap.size, 3, none⟩ = some (.int .i64 k) /\ w'.cell? ⟨w.heap.size, 4, none⟩ = some (.bool s) /\ w'.cell? ⟨w.heap.size, 5, none⟩ = some (.slice A m c) /\ w'.cell? ⟨w.heap.size, 6, none⟩ = some (.slice A' m' c') /\ w'.cell? ⟨w.heap.size, 7, none⟩ = some (.slice Am ml cm)) w') := aH (fun w' hb => ⟨(hb.cell (p := ⟨w2.heap.size, 0, none⟩) sX).trans x0, (hb.cell (p := ⟨w2.heap.size, 1, none⟩) sX).trans x1, (hb.cell (p := ⟨w2.heap.size, 2, none⟩) sX).trans x2, (hb.cell (p := ⟨w.heap.size, 0, none⟩) sL).trans p0, (hb.cell (p := ⟨w.heap.size, 1, none⟩) sL).trans p1, (hb.cell (p := ⟨w.heap.size, 2, none⟩) sL).trans p2, (hb.cell (p := ⟨w.heap.size, 3, none⟩) sL).trans p3, (hb.cell (p := ⟨w.heap.size, 4, none⟩) sL).trans p4, (hb.cell (p := ⟨w.heap.size, 5, none⟩) sL).trans p5, (hb.cell (p := ⟨w.heap.size, 6, none⟩) sL).trans p6, (hb.cell (p := ⟨w.heap.size, 7, none⟩) sL).trans p7⟩)
  go_upto_region 12 with fail
  go_cut [107] (fun t wc => t = .bool false /\ Hd (Below w9.heap.size w9 wc))
  case first =>
   clear p0 p1 p2 p3 p4 p5 p6 p7 x0 x1 x2
   by_cases h1 : e1 = 0
   ·subst h1
    refine wp_region_held_drew (S := (fun w' => w'.cell? ⟨w2.heap.size, 0, none⟩ = some (.bool (ae qx)) /\ w'.cell? ⟨w2.heap.size, 1, none⟩ = some (.slice Ax mx cx) /\ w'.cell? ⟨w2.heap.size, 2, none⟩ = some (.slice Ax' mx' cx') /\ w'.cell? ⟨w.heap.size, 0, none⟩ = some (.int .i64 O) /\ w'.cell? ⟨w.heap.size, 1, none⟩ = some (.int .i64 V) /\ w'.cell? ⟨w.heap.size, 2, none⟩ = some (.slice Al nl cl) /\ w'.cell? ⟨w.heap.size, 3, none⟩ = some (.int .i64 k) /\ w'.cell? ⟨w.heap.size, 4, none⟩ = some (.bool s) /\ w'.cell? ⟨w.heap.size, 5, none⟩ = some (.slice A m c) /\ w'.cell? ⟨w.heap.size, 6, none⟩ = some (.slice A' m' c') /\ w'.cell? ⟨w.heap.size, 7, none⟩ = some (.slice Am ml cm))) (by kernel_rfl) (HSET.o _ (bS w9)) (fun hHeld => ?_)
    refine tjj 0 ?_ rfl (by kernel_rfl) rfl ‹_› ?_ (fun _ _ _ h => h) (tjj 1 ?_ rfl (by kernel_rfl) rfl ‹_› ?_ (fun _ _ _ h => h) (tjj 2 ?_ rfl (by kernel_rfl) rfl ‹_› ?_ (fun _ _ _ h => h) ?_))
    iterate 3 (rotate_left; · (intro w' hSw; (try dsimp only at hSw); (try go_frame); go_simp <;> with_reducible rfl))
    go_frame
    refine tjj 3 ?_ rfl (by kernel_rfl) rfl ‹_› ?_ (fun _ _ _ h => h) (tjj 4 ?_ rfl (by kernel_rfl) rfl ‹_› ?_ (fun _ _ _ h => h) (tjj 5 ?_ rfl (by kernel_rfl) rfl ‹_› ?_ (fun _ _ _ h => h) ?_))
    iterate 3 (rotate_left; · (intro w' hSw; (try dsimp only at hSw); (try go_frame); go_simp <;> with_reducible rfl))
    go_frame
    refine wpAnyH_ready (rs := [6]) (by kernel_rfl) (by simp) ?_
    refine AllReadyH.cons rfl (fun K hK => ?_) AllReadyH.nil
    go_simp
    clear hHeld
    refine (HSA.o rfl _ (B9.o.trans ((bS w9).mono B9.o.size))).mono ?_
    rintro e wl ⟨u2, rfl, t2, hb'⟩
    have hb := bO hb'
    obtain ⟨Ay, my, cy, Ay', my', cy', rfl⟩ := t2.open_
    have T2 := aH t2
    clear t2 hb'
    have hS := HSET.o wl hb
    try go_simp
    refine hK.out _ _ hS (fun hHeld => ?_)
    clear hK K hS
    try go_frame
    refine wpAnyH_ready (rs := [7]) (by kernel_rfl) (by simp) ?_
    refine AllReadyH.cons rfl (fun K hK => ?_) AllReadyH.nil
    go_simp
    clear hHeld
    refine (gW _ _ _ qx qx (U9.o.below hb) T2.o).mono ?_
    rintro e wl2 ⟨rfl, hb2⟩
    rw [show decide (qx = qx) = true from dT rfl]
    have BB := aH (hb.trans (hb2.mono hb.size))
    have hS := HSET.o wl2 BB.o
    try go_simp
    refine hK.out _ _ hS (fun hHeld => ?_)
    clear hK K hS hb hb2
    try go_frame
    refine tjj 8 ?_ rfl (by kernel_rfl) rfl ‹_› ?_ (fun _ _ _ h => h) (tjj 9 ?_ rfl (by kernel_rfl) rfl ‹_› ?_ (fun _ _ _ h => h) (tjj 10 ?_ rfl (by kernel_rfl) rfl ‹_› ?_ (fun _ _ _ h => h) ?_))
    iterate 3 (rotate_left; · (intro w' hSw; (try dsimp only at hSw); (try go_frame); go_simp <;> with_reducible rfl))
    go_frame
    refine tjj 11 ?_ rfl (by kernel_rfl) rfl ‹_› ?_ (fun _ _ _ h => h) (tjj 12 ?_ rfl (by kernel_rfl) rfl ‹_› ?_ (fun _ _ _ h => h) (tjj 13 ?_ rfl (by kernel_rfl) rfl ‹_› ?_ (fun _ _ _ h => h) ?_))
    iterate 3 (rotate_left; · (intro w' hSw; (try dsimp only at hSw); (try go_frame); go_simp <;> with_reducible rfl))
    go_frame
    refine sjj 14 rfl (by kernel_rfl) rfl ‹_› (fun _ _ _ h => h) ?_
    go_frame
    refine sjj 15 rfl (by kernel_rfl) rfl ‹_› (fun _ _ _ h => h) ?_
    go_frame
    refine sjj 16 rfl (by kernel_rfl) rfl ‹_› (fun _ _ _ h => h) ?_
    go_frame
    refine tjj 17 ?_ rfl (by kernel_rfl) rfl ‹_› ?_ (fun _ _ _ h => h) (tjj 18 ?_ rfl (by kernel_rfl) rfl ‹_› ?_ (fun _ _ _ h => h) ?_)
    iterate 2 (rotate_left; · (intro w' hSw; (try dsimp only at hSw); (try go_frame); go_simp <;> with_reducible rfl))
    go_frame
    refine wpAnyH_done (by kernel_rfl) ?_ _
    go_wp2_with fail
    go_meet
    exact ⟨rfl, BB⟩
   have n1 : (e1 == 0) = false := by simpa using h1
   have n2 : (e1 != 0) = true := by simpa using h1
   obtain rfl : qx = 0 := HQ0.o h1
   refine wp_region_held_drew (S := (fun w' => w'.cell? ⟨w2.heap.size, 0, none⟩ = some (.bool (ae 0)) /\ w'.cell? ⟨w2.heap.size, 1, none⟩ = some (.slice Ax mx cx) /\ w'.cell? ⟨w2.heap.size, 2, none⟩ = some (.slice Ax' mx' cx') /\ w'.cell? ⟨w.heap.size, 0, none⟩ = some (.int .i64 O) /\ w'.cell? ⟨w.heap.size, 1, none⟩ = some (.int .i64 V) /\ w'.cell? ⟨w.heap.size, 2, none⟩ = some (.slice Al nl cl) /\ w'.cell? ⟨w.heap.size, 3, none⟩ = some (.int .i64 k) /\ w'.cell? ⟨w.heap.size, 4, none⟩ = some (.bool s) /\ w'.cell? ⟨w.heap.size, 5, none⟩ = some (.slice A m c) /\ w'.cell? ⟨w.heap.size, 6, none⟩ = some (.slice A' m' c') /\ w'.cell? ⟨w.heap.size, 7, none⟩ = some (.slice Am ml cm))) (by kernel_rfl) (HSET.o _ (bS w9)) (fun hHeld => ?_)
   refine tjj 0 ?_ rfl (by kernel_rfl) rfl ‹_› ?_ (fun _ _ _ h => h) (tjj 1 ?_ rfl (by kernel_rfl) rfl ‹_› ?_ (fun _ _ _ h => h) (tjj 2 ?_ rfl (by kernel_rfl) rfl ‹_› ?_ (fun _ _ _ h => h) ?_))
   iterate 3 (rotate_left; · (intro w' hSw; (try dsimp only at hSw); (try go_frame); go_simp <;> with_reducible rfl))
   go_frame
   refine sjj 3 rfl (by kernel_rfl) rfl ‹_› (fun _ _ _ h => h) ?_
   go_frame
   refine sjj 4 rfl (by kernel_rfl) rfl ‹_› (fun _ _ _ h => h) ?_
   go_frame
   refine sjj 5 rfl (by kernel_rfl) rfl ‹_› (fun _ _ _ h => h) ?_
   go_frame
   refine sjj 6 rfl (by kernel_rfl) rfl ‹_› (fun _ _ _ h => h) ?_
   go_frame
   refine sjj 7 rfl (by kernel_rfl) rfl ‹_› (fun _ _ _ h => h) ?_
   go_frame
   refine sjj 8 rfl (by kernel_rfl) rfl ‹_› (fun _ _ _ h => h) ?_
   go_frame
   refine tjj 9 ?_ rfl (by kernel_rfl) rfl ‹_› ?_ (fun _ _ _ h => h) (tjj 10 ?_ rfl (by kernel_rfl) rfl ‹_› ?_ (fun _ _ _ h => h) ?_)
   iterate 2 (rotate_left; · (intro w' hSw; (try dsimp only at hSw); (try go_frame); go_simp <;> with_reducible rfl))
   go_frame
   refine tjj 11 ?_ rfl (by kernel_rfl) rfl ‹_› ?_ (fun _ _ _ h => h) (tjj 12 ?_ rfl (by kernel_rfl) rfl ‹_› ?_ (fun _ _ _ h => h) (tjj 13 ?_ rfl (by kernel_rfl) rfl ‹_› ?_ (fun _ _ _ h => h) ?_))
   iterate 3 (rotate_left; · (intro w' hSw; (try dsimp only at hSw); (try go_frame); go_simp <;> with_reducible rfl))
   go_frame
   refine tjj 14 ?_ rfl (by kernel_rfl) rfl ‹_› ?_ (fun _ _ _ h => h) ?_
   rotate_left
   ·(intro w' hSw; (try dsimp only at hSw); (try go_frame); go_simp <;> with_reducible rfl)
   go_frame
   refine wpAnyH_ready (rs := [15]) (by kernel_rfl) (by simp) ?_
   refine AllReadyH.cons rfl (fun K hK => ?_) AllReadyH.nil
   go_simp
   clear hHeld
   refine (ez _ _ 0 64 ((U9.o.below (bS _)).frac (cB 64 (by omega)) (by omega)) (by omega)).mono ?_
   rintro e wl ⟨rfl, hb'⟩
   rw [show aU 0 = 0 from rfl]
   have hb := bO hb'
   have BB := aH hb
   have hS := HSET.o wl hb
   try go_simp
   refine hK.out _ _ hS (fun hHeld => ?_)
   clear hK K hS hb hb'
   try go_frame
   refine tjj 16 ?_ rfl (by kernel_rfl) rfl ‹_› ?_ (fun _ _ _ h => h) (tjj 17 ?_ rfl (by kernel_rfl) rfl ‹_› ?_ (fun _ _ _ h => h) (tjj 18 ?_ rfl (by kernel_rfl) rfl ‹_› ?_ (fun _ _ _ h => h) ?_))
   iterate 3 (rotate_left; · (intro w' hSw; (try dsimp only at hSw); (try go_frame); go_simp <;> with_reducible rfl))
   go_frame
   refine wpAnyH_done (by kernel_rfl) ?_ _
   go_wp2_with fail
   go_meet
   exact ⟨rfl, BB⟩
  obtain ⟨rfl, hcc⟩ := hcut
  have hbc := hcc.o
  obtain ⟨w10, rfl⟩ : ∃ x, x = wc := ⟨_, rfl⟩
  clear hcc HSET x0 x1 x2
  clear p0 p1 p2 p3 p4 p5 p6 p7
  have B10 := aH (B9.o.trans (hbc.mono B9.o.size))
  have P10 := aH (P9.o.below' hbc)
  clear B9 P9 U9 X9
  clear hbc
  obtain ⟨p0, p1, p2, p3, p4, p5, p6, p7⟩ := an P10.o
  by_cases h2 : e2 = 0
  ·subst h2
   go_wp2_with fail
   refine (HUS.o (by first | exact rfl | trivial) w10 B10.o).mono ?_
   rintro e w11 ⟨rfl, hb11⟩
   clear p0 p1 p2 p3 p4 p5 p6 p7
   have B11 := aH (B10.o.trans (hb11.mono B10.o.size))
   have P11 := aH (P10.o.below' hb11)
   clear B10 P10
   clear hb11
   obtain ⟨p0, p1, p2, p3, p4, p5, p6, p7⟩ := an P11.o
   have c3 : (un == un) = true := by simp
   go_wp2_with fail
   refine (HK.o _).mono ?_
   rintro e wK ⟨rfl, hbK⟩
   have BK := aH (B11.o.trans (hbK.mono B11.o.size))
   clear hbK
   go_wp2_with fail
   go_ret
   exact ⟨rfl, BK.o⟩
  have n3 : (e2 != 0) = true := by simpa using h2
  obtain rfl : un = 0 := HU0.o h2
  go_wp2_with fail
  refine (HK.o _).mono ?_
  rintro e wK ⟨rfl, hbK⟩
  have BK := aH (B10.o.trans (hbK.mono B10.o.size))
  clear hbK
  go_wp2_with fail
  go_ret
  exact ⟨rfl, BK.o⟩
end Go.Proofs.YtjebfdfkjlkifaaGreat
