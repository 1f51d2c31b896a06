/- Lemmas. -/
import Derived.Test.YtjebfdfkjlkifaaGreatS50
set_option linter.all false
set_option maxRecDepth 1000000
set_option maxHeartbeats 32000000
namespace Go.Proofs.YtjebfdfkjlkifaaGreat
open Go.RowKit
theorem set_same (l:List Rat) (i:Nat):l.set i (l.getD i 0) = l:=by
 by_cases h:i < l.length
 ·rw [gD,eG h,Option.getD_some]
  exact List.set_getElem_self h
 exact List.set_eq_of_length_le (by omega)
theorem rowStep_add (sl:List Int) (rest:List Rat) (t:Nat) (out:List Rat) (r:bP):dZ (· + ·) sl rest t out r = out.set r.f.toNat (out.getD r.f.toNat 0 + (eM sl rest t r).getD 0):=by
 unfold dZ
 cases eM sl rest t r with
 | none=>rw [Option.getD_none,Rat.add_zero,set_same]
 | some q=>rfl
theorem rowStep_pick (sl:List Int) (rest:List Rat) (t:Nat) (out:List Rat) (r:bP)(h:0 <= out.getD r.f.toNat 0):dZ pickJ sl rest t out r = out.set r.f.toNat (pickJ (out.getD r.f.toNat 0) ((eM sl rest t r).getD 0)):=by
 unfold dZ
 cases eM sl rest t r with
 | none =>
  rw [Option.getD_none]
  unfold pickJ
  rw [if_pos (dT h),set_same]
 | some q=>rfl
def partT (join:Rat->Rat->Rat) (Ln:Nat) (rs:List bP) (sl:List Int) (t k:Nat):List Rat:=eP join Ln (rs.take k) sl (nxtT join Ln rs sl t) t
theorem partT_length (join:Rat->Rat->Rat) (Ln:Nat) (rs:List bP) (sl:List Int) (t k:Nat):(partT join Ln rs sl t k).length = Ln:=eY _ _ _ _ _ _
theorem partT_all (join:Rat->Rat->Rat) (Ln:Nat) (rs:List bP) (sl:List Int) {t:Nat} (ht:t <= sl.length):partT join Ln rs sl t rs.length = rowT join Ln rs sl t:=by
 unfold partT
 rw [tL (nR _),rowT_eq join Ln rs sl ht]
theorem partT_step (join:Rat->Rat->Rat) (Ln:Nat) {rs:List bP} (sl:List Int) (t:Nat) {k:Nat} {r:bP} (h:rs[k]? = some r):partT join Ln rs sl t (k + 1) = dZ join sl (nxtT join Ln rs sl t) t (partT join Ln rs sl t k) r:=by
 unfold partT
 rw [List.take_add_one,h,Option.toList_some,f9]
theorem nxt_rel {Ln:Nat} {rs:List bP} (hq:∀ r ∈ rs,0 <= r.q) (sl:List Int) (t:Nat):RelR (nxtT pickJ Ln rs sl t) (nxtT (· + ·) Ln rs sl t):=by
 unfold nxtT
 split
 ·exact zR hq _
 exact RelR.nil_ 0
theorem part_nonneg {Ln:Nat} {rs:List bP} (hq:∀ r ∈ rs,0 <= r.q) (sl:List Int) (t k j:Nat):0 <= (partT pickJ Ln rs sl t k).getD j 0 :=
 ((zF (Ln:=Ln) (sl:=sl) (nxt_rel (Ln:=Ln) hq sl t) (t:=t) (rs:=rs.take k) (fun r hr=>hq r (List.mem_of_mem_take hr))).2 j).1
theorem part_qb {join:Rat->Rat->Rat} (hj:ke join) {Ln:Nat} {rs:List bP} {sl:List Int} (hq:∀ r ∈ rs,QB 64 r.q)(hn:rs.length <= 20)(hs:sl.length <= 9) {t:Nat} (ht:t <= sl.length) (k:Nat):∀ x ∈ partT join Ln rs sl t k,QB 20000 x:=by
 have h1:=(uv (Ln:=Ln) hj hq hn hs (sl.length - t) (by omega)).1 k
 rw [show sl.length - (sl.length - t) = t by omega] at h1
 intro x hx
 refine h1 x ?_
 unfold partT nxtT at hx
 split at hx
 ·next hlt =>
  obtain ⟨g,hg⟩:∃ g,sl.length - t = g + 1:=⟨sl.length - t - 1,by omega⟩
  unfold rowT at hx
  rw [show sl.length - (t + 1) = g by omega] at hx
  rw [hg]
  exact hx
 next hlt =>
 rw [show sl.length - t = 0 by omega]
 exact hx
theorem step_qb {join:Rat->Rat->Rat} (hj:ke join) {Ln:Nat} {rs:List bP} {sl:List Int} (hq:∀ r ∈ rs,QB 64 r.q)(hn:rs.length <= 20)(hs:sl.length <= 9) {t:Nat} (ht:t <= sl.length) {r:bP} (hr:r ∈ rs) {q:Rat} (h:eM sl (nxtT join Ln rs sl t) t r = some q):QB 20000 q:=by
 have h1:=(uv (Ln:=Ln) hj hq hn hs (sl.length - t) (by omega)).2.1 r hr q
 rw [show sl.length - (sl.length - t) = t by omega] at h1
 refine h1 ?_
 unfold nxtT at h
 split at h
 ·next hlt =>
  obtain ⟨g,hg⟩:∃ g,sl.length - t = g + 1:=⟨sl.length - t - 1,by omega⟩
  unfold rowT at h
  rw [hg]
  rw [show sl.length - (t + 1) = g by omega] at h
  exact h
 next hlt =>
 rw [show sl.length - t = 0 by omega]
 exact h
theorem row_qb {join:Rat->Rat->Rat} (hj:ke join) {Ln:Nat} {rs:List bP} {sl:List Int} (hq:∀ r ∈ rs,QB 64 r.q)(hn:rs.length <= 20)(hs:sl.length <= 9) {t:Nat} (ht:t <= sl.length):∀ x ∈ rowT join Ln rs sl t,QB 20000 x:=by
 have:=part_qb (Ln:=Ln) hj hq hn hs ht rs.length
 rwa [partT_all join Ln rs sl ht] at this
def moreT (join:Rat->Rat->Rat) (Ln:Nat) (rs:List bP) (sl:List Int) (t:Nat) (r:bP):Rat:=(eM sl (nxtT join Ln rs sl t) t r).getD 0
theorem add_qb {join:Rat->Rat->Rat} (hj:ke join) {Ln:Nat} {rs:List bP} {sl:List Int} (hq:∀ r ∈ rs,QB 64 r.q)(hn:rs.length <= 20)(hs:sl.length <= 9) {t:Nat} (ht:t <= sl.length) {r:bP} (hr:r ∈ rs):QB 20000 (moreT join Ln rs sl t r):=by
 unfold moreT
 cases h:eM sl (nxtT join Ln rs sl t) t r with
 | none=>exact cB 20000 (by omega)
 | some q=>exact step_qb hj hq hn hs ht hr h
theorem part_add (Ln:Nat) {rs:List bP} (sl:List Int) (t:Nat) {k:Nat} {r:bP} (h:rs[k]? = some r):partT (· + ·) Ln rs sl t (k + 1) = (partT (· + ·) Ln rs sl t k).set r.f.toNat ((partT (· + ·) Ln rs sl t k).getD r.f.toNat 0 + moreT (· + ·) Ln rs sl t r):=by
 rw [partT_step _ Ln sl t h,rowStep_add]
 rfl
theorem part_pick (Ln:Nat) {rs:List bP} (hq:∀ r ∈ rs,0 <= r.q) (sl:List Int) (t:Nat) {k:Nat} {r:bP} (h:rs[k]? = some r):partT pickJ Ln rs sl t (k + 1) = (partT pickJ Ln rs sl t k).set r.f.toNat (pickJ ((partT pickJ Ln rs sl t k).getD r.f.toNat 0) (moreT pickJ Ln rs sl t r)):=by
 rw [partT_step _ Ln sl t h,rowStep_pick _ _ _ _ _ (part_nonneg hq sl t k _)]
 rfl
theorem moreT_end {join:Rat->Rat->Rat} {Ln:Nat} {rs:List bP} {sl:List Int} {r:bP}:moreT join Ln rs sl sl.length r = if r.w = 0 then r.q else 0:=by
 unfold moreT eM
 split
 ·rw [if_pos rfl]; rfl
 rw [if_neg (by simp)]; rfl
theorem moreT_in {join:Rat->Rat->Rat} {Ln:Nat} {rs:List bP} {sl:List Int} {t:Nat} {x:Int} {r:bP} (hx:sl[t]? = some x)(h0:1 <= x):moreT join Ln rs sl t r = if r.w = x then r.q * (rowT join Ln rs sl (t + 1)).getD r.t.toNat 0 else 0:=by
 have ht:=(sI.1 hx).1
 unfold moreT eM nxtT
 rw [if_pos ht]
 by_cases h:r.w = x
 ·rw [if_pos h,if_neg (by omega),hx,if_pos (by rw [h])]
  rfl
 rw [if_neg h]
 split
 ·rw [if_neg (by omega)]; rfl
 rw [hx,if_neg (by rintro ⟨⟩; exact h rfl)]; rfl
section
theorem run_make_fracs (w:World) (n:Nat)(hn:n <= 1000000):∃ w',(Instr.makeSlice 41 (.int .i64 (n:Int)) (.int .i64 (n:Int))).run Tryz.prog w = .ok (.slice (some ⟨w.heap.size,0,none⟩) n n) w'/\FArc w' w.heap.size (List.replicate n (0:Rat))/\Below w.heap.size w w':=by
 obtain ⟨i0,h2,h3,h4,h5⟩:=info_parts sS
 obtain ⟨w',hrun,hown,hgr⟩:=run_make_full (P:=Tryz.prog) w w.heap.size 41 40 i0 _ 3 Tryz.underlying41 h2 h3 h4 .i64 .i64 n (by rw [h5]; omega) (by unfold maxLen; omega) (nR _)
 refine ⟨w',hrun,FArr.arc (base:=w.heap.size + 1) ?_,(Below.refl _ w).grown hgr (nR _) (by simp)⟩
 obtain ⟨hl0,h | ⟨g,cap,cur,hv,_,hh,hn',_,hsz,ht⟩⟩:=hown
 ·cases h.1
 injection hv with hv1 hv2 hv3
 injection hv1 with hv1
 injection hv1 with hv1
 subst hv1
 subst hv3
 refine ⟨by omega,cur.toList,hh,?_,?_⟩
 ·rw [List.length_replicate]
  simpa using hsz
 intro i q hq
 have hi:i < n:=by have:=(sI.1 hq).1; simpa using this
 have hq0:q = 0:=by rw [List.getElem?_replicate_of_lt hi] at hq; exact (Option.some.inj hq).symm
 subst hq0
 have hm:=wV (.bool false) (.slice none 0 0) (.slice none 0 0) n i hi
 have hcl:(Value.agg #[.bool false,.slice none 0 0,.slice none 0 0]).cells = #[.bool false,.slice none 0 0,.slice none 0 0]:=rfl
 rw [hcl] at ht
 rw [tL (by simp at hsz ⊢; omega)] at ht
 rw [ht]
 exact ⟨none,0,0,none,0,0,by rw [hm.1]; rfl,hm.2.1,hm.2.2,CanNew.zero_ _ _⟩

def BoxK (w:World) (b:Nat) (q:Rat):Prop:=FArk 20000 w b [q]
section
variable {w w':World} {b:Nat} {q:Rat}
theorem BoxK.below (h:BoxK w b q)(hb:Below w.heap.size w w'):BoxK w' b q:=FArk.below h hb
theorem BoxK.drew (h:BoxK w b q):BoxK w.drew b q:=FArk.drew h
theorem FArc.drew {qs:List Rat} (h:FArc w b qs):FArc w.drew b qs:=h
theorem BoxK.lt (h:BoxK w b q):b < w.heap.size:=FArk.lt h
theorem BoxK.get (h:BoxK w b q):∃ s A m c A' m' c',w.cell? ⟨b,0,none⟩ = some (.bool s)/\w.cell? ⟨b,1,none⟩ = some (.slice A m c)/\w.cell? ⟨b,2,none⟩ = some (.slice A' m' c') /\
  w.frozen? ⟨b,0,none⟩ = false/\w.frozen? ⟨b,1,none⟩ = false/\w.frozen? ⟨b,2,none⟩ = false/\FracAt 20000 w (.agg #[.bool s,.slice A m c,.slice A' m' c']) q:=by
 obtain ⟨s,A,m,c,A',m',c',h⟩:=FArk.get h (i:=0) rfl
 simp only [Nat.zero_mul,Nat.zero_add] at h
 exact ⟨s,A,m,c,A',m',c',h⟩
theorem BoxK.put (h:BoxK w b q) {r:Rat} {s:Bool} {A A':Option Addr} {m c m' c':Nat} (hr:FracAt 20000 w (.agg #[.bool s,.slice A m c,.slice A' m' c']) r) :
  BoxK (((w.setCell ⟨b,0,none⟩ (.bool s)).setCell ⟨b,1,none⟩ (.slice A m c)).setCell ⟨b,2,none⟩ (.slice A' m' c')) b r:=by
 have:=FArk.put h (i:=0) (by simp) hr
 unfold BoxK
 simpa using this
theorem BoxK.far (h:BoxK w b q) {g:Nat} {r:Rat} (hg:BoxK w g r)(hne:b ≠ g) (s:Bool) (A A':Option Addr) (m c m' c':Nat) :
  BoxK (((w.setCell ⟨g,0,none⟩ (.bool s)).setCell ⟨g,1,none⟩ (.slice A m c)).setCell ⟨g,2,none⟩ (.slice A' m' c')) b q:=by
 have:=FArk.put_other h hg hne 0 s A A' m c m' c'
 unfold BoxK
 simpa using this
theorem BoxK.keepsF (h:BoxK w b q) {n:Nat} {x y z:Value} {r:Rat} (hv:FracAt n w (.agg #[x,y,z]) r) (s:Bool) (A A':Option Addr) (m c m' c':Nat) :
  FracAt n (((w.setCell ⟨b,0,none⟩ (.bool s)).setCell ⟨b,1,none⟩ (.slice A m c)).setCell ⟨b,2,none⟩ (.slice A' m' c')) (.agg #[x,y,z]) r:=by
 obtain ⟨xs,h1,_,hx,_⟩:=h
 have:=hv.put3 h1 hx 0 s A A' m c m' c'
 simpa using this
theorem BoxK.farC (h:BoxK w b q) {g:Nat} {qs:List Rat} (hg:FArc w g qs)(hne:b ≠ g) (i:Nat) (s:Bool) (A A':Option Addr) (m c m' c':Nat) :
  BoxK (((w.setCell ⟨g,i * 3,none⟩ (.bool s)).setCell ⟨g,i * 3 + 1,none⟩ (.slice A m c)).setCell ⟨g,i * 3 + 2,none⟩ (.slice A' m' c')) b q:=by
 obtain ⟨xs,h1,hx⟩:=hg.blk
 obtain ⟨ys,g1,g2,gx,g3⟩:=h
 refine ⟨ys,((g1.far (p:=⟨g,i * 3,none⟩) hne _).far (p:=⟨g,i * 3 + 1,none⟩) hne _).far (p:=⟨g,i * 3 + 2,none⟩) hne _,g2,gx,fun j r hr=>?_⟩
 obtain ⟨s1,A1,m1,c1,A1',m1',c1',e0,e1,e2,e3⟩:=g3 j r hr
 exact ⟨s1,A1,m1,c1,A1',m1',c1',e0,e1,e2,e3.put3 h1 hx _ _ _ _ _ _ _ _⟩
theorem BoxK.of {s:Bool} {A A':Option Addr} {m c m' c':Nat} (h:Blk w b 40 [.bool s,.slice A m c,.slice A' m' c'])(hq:FracAt 20000 w (.agg #[.bool s,.slice A m c,.slice A' m' c']) q):BoxK w b q:=by
 refine ⟨_,h,rfl,fun x hx=>?_,fun i r hr=>?_⟩
 ·simp only [List.mem_cons,List.not_mem_nil,or_false] at hx
  rcases hx with rfl | rfl | rfl <;> trivial
 cases i with
 | zero =>
  simp only [List.getElem?_cons_zero,Option.some.injEq] at hr
  subst hr
  exact ⟨s,A,m,c,A',m',c',rfl,rfl,rfl,hq⟩
 | succ i=>simp at hr
end

theorem box_two {W:World} {g1 g2:Nat} {x y q1 q2:Rat} {s s2:Bool} {A A' D D':Option Addr} {m c m' c' n d n' d':Nat} (Z1:BoxK W g1 x) (Z2:BoxK W g2 y)(hne:g1 ≠ g2)(h1:FracAt 20000 W (.agg #[.bool s,.slice A m c,.slice A' m' c']) q1)(h2:FracAt 20000 W (.agg #[.bool s2,.slice D n d,.slice D' n' d']) q2) :
  BoxK ((((((W.setCell ⟨g1,0,none⟩ (.bool s)).setCell ⟨g1,1,none⟩ (.slice A m c)).setCell ⟨g1,2,none⟩ (.slice A' m' c')).setCell ⟨g2,0,none⟩ (.bool s2)).setCell ⟨g2,1,none⟩ (.slice D n d)).setCell ⟨g2,2,none⟩ (.slice D' n' d')) g1 q1 /\
  BoxK ((((((W.setCell ⟨g1,0,none⟩ (.bool s)).setCell ⟨g1,1,none⟩ (.slice A m c)).setCell ⟨g1,2,none⟩ (.slice A' m' c')).setCell ⟨g2,0,none⟩ (.bool s2)).setCell ⟨g2,1,none⟩ (.slice D n d)).setCell ⟨g2,2,none⟩ (.slice D' n' d')) g2 q2 :=
 ⟨(Z1.put h1).far (Z2.far Z1 hne.symm _ _ _ _ _ _ _) hne _ _ _ _ _ _ _,(Z2.far Z1 hne.symm _ _ _ _ _ _ _).put (Z1.keepsF h2 _ _ _ _ _ _ _)⟩
def FromP (w:World) (Ln:Nat) (rs:List bP) (sl:List Int) (t:Nat) (e:Ending) (w':World):Prop:=∃ b1 b2,e = .returned (.tuple #[.slice (some ⟨b1,0,none⟩) Ln Ln,.slice (some ⟨b2,0,none⟩) Ln Ln])/\b1 ≠ b2/\w.heap.size <= b1/\w.heap.size <= b2/\FArc w' b1 (rowT (· + ·) Ln rs sl t)/\FArc w' b2 (rowT pickJ Ln rs sl t)/\Below w.heap.size w w'
end
theorem fromR (Ln:Nat) (V:Int) (v sv:Value) (rs:List bP) (sl:List Int)(hL1:1 <= Ln)(hL2:Ln <= 60)(hro:RulesOk Ln rs)(hn20:rs.length <= 20)(hp9:sl.length <= 9)(hw1:∀ x ∈ sl,1 <= x):∀ (g:Nat) (w:World) (t:Nat),sl.length - t = g->t <= sl.length->RulesAt 64 w v rs->IntsAt w sv sl ->
  Calls Tryz.prog 125 #[.agg #[.int .i64 Ln,.int .i64 V,v],sv,.int .i64 t] w (FromP w Ln rs sl t):=by
 intro g
 induction g using Nat.strongRecOn with
 | _ g ih =>
 intro w t hg ht h hs
 have HIH:Hd (∀ (w:World),t < sl.length->RulesAt 64 w v rs->IntsAt w sv sl->Calls Tryz.prog 125 #[.agg #[.int .i64 Ln,.int .i64 V,v],sv,.int .i64 ((t:Int) + 1)] w (FromP w Ln rs sl (t + 1))):=aH (fun w h1 h2 h3=>ih (sl.length - (t + 1)) (by omega) w (t + 1) rfl (by omega) h2 h3)
 clear ih hg
 have hqb:=h.qb (by omega)
 have HRA:=aH h
 have HIA:=aH hs
 obtain ⟨A,c,rfl,hlc,hcm,hat⟩:=h.open_
 obtain ⟨SA,sc,rfl,hsc,hscm,hst⟩:=hs.open_
 have HAT:=aH hat
 have HST:=aH hst
 have HQ64:=aH hqb
 have HRO:=aH hro
 have HW1:=aH hw1
 have HQ0:Hd (∀ r ∈ rs,0 <= r.q):=aH (fun r hr=>(hro r hr).2.2.2.2.2)
 obtain ⟨n,hn⟩:=nm (rs.length)
 obtain ⟨p,hp⟩:=nm (sl.length)
 have HN:=aH hn
 have HP:=aH hp
 rw [hn] at hlc hn20 ⊢
 rw [hp] at hsc hp9 ht ⊢
 rw [hn,hp] at HIH
 rw [hn] at HRA
 rw [hp] at HIA
 clear h hs hat hst hqb hro hw1 hn hp
 obtain ⟨tb,htb⟩:=nm (decide ((t:Int) < (p:Int)))
 have htb':decide (t < p) = tb:=by rw [<- htb]; exact decide_eq_decide.2 (by omega)
 have HTB:Hd (tb = decide (t < p)):=aH (by rw [<- htb]; exact decide_eq_decide.2 (by omega))
 have i1:IntKind.i64.wrap ((t:Int) + 1) = (t:Int) + 1:=iI _ (by omega)
 go_enter Tryz.func125,Tryz.ntmps125
 go_upto_region 1 with fail
 obtain ⟨W,hW,P0,PB,Phs⟩:=aA w 73 [.int .i64 (Ln:Int),.int .i64 V,.slice A n c]
 rw [<- hW]
 clear hW
 obtain ⟨p0,p1,p2,_,_,_⟩:=P0.o.three
 obtain ⟨W1,hm1,hf1,hb1⟩:=run_make_fracs W.drew Ln (by omega)
 obtain ⟨W2,hm2,hf2,hb2⟩:=run_make_fracs W1 Ln (by omega)
 have B1:Hd (Below W.heap.size W W1):=aH (bO hb1)
 have B2:Hd (Below W.heap.size W W2):=aH (B1.o.trans (hb2.mono B1.o.size))
 have F1:Hd (FArc W2 W.heap.size (List.replicate Ln 0)):=aH (FArc.below hf1 hb2)
 have F2:Hd (FArc W2 W1.heap.size (List.replicate Ln 0)):=aH hf2
 have sne:W.heap.size < W1.heap.size:=FArc.lt hf1
 have q0:=(P0.o.below' B1.o).cell 0
 have q0':=(P0.o.below' B2.o).cell 0
 simp only [List.getElem?_cons_zero] at q0 q0'
 have hm1':(Instr.makeSlice 41 (.int .i64 (Ln:Int)) (.int .i64 (Ln:Int))).run Tryz.prog W.drew = .ok (.slice (some ⟨W.heap.size,0,none⟩) Ln Ln) W1:=hm1
 clear hf1 hf2 hb1 hb2 hm1
 go_cut [8,9] (fun s8 s9 wc=>∃ b1 b2,s8 = .slice (some ⟨b1,0,none⟩) Ln Ln/\s9 = .slice (some ⟨b2,0,none⟩) Ln Ln/\b1 ≠ b2/\W.heap.size <= b1/\W.heap.size <= b2/\Hd (FArc wc b1 (List.replicate Ln 0))/\Hd (FArc wc b2 (List.replicate Ln 0))/\Hd (Below W.heap.size W wc))
 case first =>
  go_region
  all_goals
   go_wp2_with fail
   go_meet
   first
    | exact ⟨W.heap.size,W1.heap.size,rfl,rfl,by omega,nR _,by omega,F1,F2,B2⟩
    | exact ⟨W1.heap.size,W.heap.size,rfl,rfl,by omega,by omega,nR _,F2,F1,B2⟩
 case rest =>
 obtain ⟨b1,b2,rfl,rfl,hne,hb1,hb2,X1,X2,hcc⟩:=hcut
 obtain ⟨w3,rfl⟩:∃ x,x = wc:=⟨_,rfl⟩
 have P3:=aH (P0.o.below' hcc.o)
 have B3:=aH (PB.o.trans (hcc.o.mono PB.o.size))
 have hwb1:w.heap.size < b1:=by omega
 have hwb2:w.heap.size < b2:=by omega
 clear hcc hm1' hm2 B1 B2 F1 F2 sne q0 q0' p0 p1 p2 P0 PB Phs hb1 hb2
 obtain ⟨p0,p1,p2,_,_,_⟩:=P3.o.three
 go_upto_if 25 with fail
 go_cut [10,11] (fun s10 s11 wc=>∃ (A10 A11:Option Addr) (m:Nat) (a1 a2:Nat),s10 = .slice A10 m m/\s11 = .slice A11 m m/\Hd (tb = true->A10 = some ⟨a1,0,none⟩/\A11 = some ⟨a2,0,none⟩/\m = Ln/\a1 ≠ b1/\a1 ≠ b2/\a2 ≠ b1/\a2 ≠ b2/\FArc wc a1 (rowT (· + ·) Ln rs sl (t + 1))/\FArc wc a2 (rowT pickJ Ln rs sl (t + 1)))/\Hd (Below w3.heap.size w3 wc))
 case first =>
  cases tb with
  | false =>
   go_wp2_with fail
   go_meet
   exact ⟨none,none,0,0,0,rfl,rfl,aH (fun h=>by cases h),aH (Below.refl _ _)⟩
  | true =>
   have hlt:t < p:=of_decide_eq_true HTB.o.symm
   have l1:=X1.o.lt
   have l2:=X2.o.lt
   go_wp2_with fail
   refine (HIH.o w3 hlt (HRA.o.below B3.o) (HIA.o.below B3.o)).mono ?_
   rintro e w4 ⟨a1,a2,rfl,_,hn1,hn2,hf1,hf2,hb4⟩
   have F1:=aH hf1
   have F2:=aH hf2
   have B4:=aH hb4
   clear hf1 hf2 hb4
   go_wp2_with fail
   go_meet
   exact ⟨_,_,Ln,a1,a2,rfl,rfl,aH (fun _=>⟨rfl,rfl,rfl,by omega,by omega,by omega,by omega,F1.o,F2.o⟩),B4⟩
 case rest =>
 obtain ⟨A10,A11,m,a1,a2,rfl,rfl,HAB,hcc⟩:=hcut
 obtain ⟨w4,rfl⟩:∃ x,x = wc:=⟨_,rfl⟩
 have P4:=aH (P3.o.below' hcc.o)
 have B4:=aH (B3.o.trans (hcc.o.mono B3.o.size))
 have X14:=aH (X1.o.below hcc.o)
 have X24:=aH (X2.o.below hcc.o)
 have HAB2:Hd (tb = true->A10 = some ⟨a1,0,none⟩/\A11 = some ⟨a2,0,none⟩/\m = Ln/\a1 ≠ b1/\a1 ≠ b2/\a2 ≠ b1/\a2 ≠ b2):=aH (fun h=>by
  obtain ⟨x1,x2,x3,x4,x5,x6,x7,_⟩:=HAB.o h
  exact ⟨x1,x2,x3,x4,x5,x6,x7⟩)
 have HROW:Hd (tb = true->FArc w4 a1 (rowT (· + ·) Ln rs sl (t + 1))/\FArc w4 a2 (rowT pickJ Ln rs sl (t + 1))):=aH (fun h=>(HAB.o h).2.2.2.2.2.2.2)
 have hw4:w.heap.size < w4.heap.size:=P4.o.lt
 clear hcc HAB P3 B3 X1 X2 p0 p1 p2
 go_wp2_with fail
 go_loopg [12,13,14,15] n (fun gh s12 _ _ _ wr=>∃ (k:Nat),s12 = .int .i64 k/\k + gh = n/\Hd (FArc wr b1 (partT (· + ·) Ln rs sl t k))/\Hd (FArc wr b2 (partT pickJ Ln rs sl t k))/\Hd (tb = true->FArc wr a1 (rowT (· + ·) Ln rs sl (t + 1))/\FArc wr a2 (rowT pickJ Ln rs sl (t + 1)))/\Hd (Blk wr w.heap.size 73 [.int .i64 Ln,.int .i64 V,.slice A n c])/\Hd (Below w.heap.size w wr))
 case atStart=>exact ⟨0,rfl,by omega,X14,X24,HROW,P4,B4⟩
 clear X14 X24 HROW P4 B4
 obtain ⟨w5,rfl⟩:∃ x,x = wr:=⟨_,rfl⟩
 obtain ⟨k,rfl,hk,X1,X2,HROW,P5,B5⟩:=hrel
 obtain ⟨p0,p1,p2,_,_,_⟩:=P5.o.three
 rcases zP gk with h | h
 ·subst h
  obtain rfl:k = n:=by omega
  have Y1:Hd (FArc w5 b1 (rowT (· + ·) Ln rs sl t)):=aH (by
   rw [<- partT_all (· + ·) Ln rs sl (show t <= sl.length by rw [HP.o]; exact ht),HN.o]
   exact X1.o)
  have Y2:Hd (FArc w5 b2 (rowT pickJ Ln rs sl t)):=aH (by
   rw [<- partT_all pickJ Ln rs sl (show t <= sl.length by rw [HP.o]; exact ht),HN.o]
   exact X2.o)
  go_wp2_with fail
  exact bodyPost_ret (v:=.tuple #[.slice (some ⟨b1,0,none⟩) Ln Ln,.slice (some ⟨b2,0,none⟩) Ln Ln]) (by simp [results,Tryz.results125,go_sem,List.mapM_cons]) rfl ⟨b1,b2,rfl,hne,by omega,by omega,Y1.o,Y2.o,B5.o⟩
 obtain ⟨gh,rfl⟩:∃ g,gk = g + 1:=⟨gk - 1,by omega⟩
 obtain ⟨r,hr⟩:∃ r,rs[k]? = some r:=⟨_,eG (by rw [HN.o]; omega)⟩
 obtain ⟨ba,oa,s,An,nn,cn,Ad,nd,cd,rfl,hba,e0,e1,e2,e3,e4,e5,hfr⟩:=HAT.o k r hr
 have c0:=(B5.o.cell (p:=⟨ba,oa + k * 6,none⟩) hba).trans e0
 have c1:=(B5.o.cell (p:=⟨ba,oa + k * 6 + 1,none⟩) hba).trans e1
 have c2:=(B5.o.cell (p:=⟨ba,oa + k * 6 + 2,none⟩) hba).trans e2
 have c3:=(B5.o.cell (p:=⟨ba,oa + k * 6 + 3,none⟩) hba).trans e3
 have c4:=(B5.o.cell (p:=⟨ba,oa + k * 6 + 4,none⟩) hba).trans e4
 have c5:=(B5.o.cell (p:=⟨ba,oa + k * 6 + 5,none⟩) hba).trans e5
 have FR:=aH (hfr.mono (show 64 <= 20000 by omega))
 have HX:=aH hr
 have HMR:=aH (mG hr)
 have HRK:=aH (HRO.o r (mG hr))
 have k0:(0:Int) <= (k:Int):=by omega
 have k1:(k:Int) < (n:Int):=by omega
 have k9:IntKind.i64.wrap ((k:Int) + 1) = (k:Int) + 1:=iI _ (by omega)
 obtain ⟨F,hF⟩:∃ F:Nat,r.f = F:=⟨r.f.toNat,by have:=HRK.o.1; omega⟩
 have HFL:F < Ln:=by have:=HRK.o.2.1; omega
 obtain ⟨T,hT⟩:∃ T:Nat,r.t = T:=⟨r.t.toNat,by have:=HRK.o.2.2.1; omega⟩
 have HTL:T < Ln:=by have:=HRK.o.2.2.2.1; omega
 have HFF:=aH hF
 have HTT:=aH hT
 rw [hF] at c0
 rw [hT] at c2
 obtain ⟨rw_,hrw⟩:=nm (r.w)
 have HWW:=aH hrw
 rw [hrw] at c1
 obtain ⟨rq,hrq⟩:=nm (r.q)
 have HQQ:=aH hrq
 rw [hrq] at FR
 obtain ⟨q1,hq1⟩:=nm (moreT (· + ·) Ln rs sl t r)
 obtain ⟨q2,hq2⟩:=nm (moreT pickJ Ln rs sl t r)
 have HQ1:=aH hq1
 have HQ2:=aH hq2
 have QB1:Hd (QB 20000 q1):=aH (by rw [<- hq1]; exact add_qb r8 HQ64.o (by rw [HN.o]; exact hn20) (by rw [HP.o]; exact hp9) (by rw [HP.o]; exact ht) HMR.o)
 have QB2:Hd (QB 20000 q2):=aH (by rw [<- hq2]; exact add_qb nice_pickJ HQ64.o (by rw [HN.o]; exact hn20) (by rw [HP.o]; exact hp9) (by rw [HP.o]; exact ht) HMR.o)
 have hb15:=X1.o.lt
 have hb25:=X2.o.lt
 clear hr e0 e1 e2 e3 e4 e5 hfr hF hT hrw hrq hq1 hq2
 go_upto_region 10 with fail
 obtain ⟨W8,hW8,G0,G1,G2,GB,Ghs⟩:=box3 w5 111 [.int .i64 F,.int .i64 rw_,.int .i64 T,.bool s,.slice An nn cn,.slice Ad nd cd] 40 [.bool false,.slice none 0 0,.slice none 0 0] 40 [.bool false,.slice none 0 0,.slice none 0 0]
 rw [<- hW8]
 clear hW8
 obtain ⟨g1,hg1⟩:=nm (w5.heap.size + 1)
 obtain ⟨g2,hg2⟩:=nm (g1 + 1)
 have Z1:Hd (BoxK W8 g1 0):=aH (by rw [<- hg1]; exact BoxK.of G1.o ((uX W8).frac (cB 20000 (by omega)) (by omega)))
 have Z2:Hd (BoxK W8 g2 0):=aH (by rw [<- hg2,<- hg1]; exact BoxK.of G2.o ((uX W8).frac (cB 20000 (by omega)) (by omega)))
 have hw5:w.heap.size < w5.heap.size:=P5.o.lt
 have B58:=GB
 have hg12:g1 ≠ g2:=by omega
 have hg15:w5.heap.size < g1:=by omega
 have hg25:w5.heap.size < g2:=by omega
 rw [hg1,hg2]
 clear p0 p1 p2 c0 c1 c2 c3 c4 c5 GB G1 G2 hg1 hg2
 obtain ⟨r0,r1,r2,r3,r4,r5⟩:=six_at G0.o
 obtain ⟨zb,hzb⟩:=nm ((rw_ == 0))
 obtain ⟨te,hte⟩:=nm (((t:Int) == (p:Int)))
 have HTE:Hd (te = !tb):=aH (by
  rw [<- hte,HTB.o,Bool.eq_iff_iff]
  simp only [beq_iff_eq,Bool.not_eq_true',decide_eq_false_iff_not]
  omega)
 obtain ⟨za,hza⟩:=nm ((te && zb))
 have HZA:=aH hza
 have HZB:=aH hzb
 obtain ⟨qa,hqa⟩:=nm ((if za = true then rq else 0))
 have HQA:=aH hqa
 obtain ⟨cb,hcb⟩:=nm (decide (t < p/\sl[t]? = some rw_))
 have HCB:=aH hcb
 clear hza hqa hcb
 go_cut [56] (fun s56 wc=>s56 = .bool za/\wc = W8)
 case first =>
  cases te <;> cases zb <;> (go_wp2_with fail; go_meet; exact ⟨by rw [<- HZA.o]; rfl,rfl⟩)
 case rest =>
 obtain ⟨rfl,hwc⟩:=hcut
 rw [hwc]
 clear hwc wc hte hzb
 have FR8:=aH (FR.o.below (B5.o.trans (B58.o.mono B5.o.size)))
 go_upto_if 56 with fail
 go_cut [14,15] (fun s14 s15 wc=>s14 = .pointer (some ⟨g1,0,none⟩)/\s15 = .pointer (some ⟨g2,0,none⟩)/\Hd (BoxK wc g1 qa)/\Hd (BoxK wc g2 qa)/\Hd (Blk wc w5.heap.size 111 [.int .i64 F,.int .i64 rw_,.int .i64 T,.bool s,.slice An nn cn,.slice Ad nd cd])/\Hd (Below w5.heap.size w5 wc))
 case first =>
  cases za with
  | true =>
   obtain rfl:rq = qa:=by rw [<- HQA.o,if_pos rfl]
   obtain ⟨_,_,_,_,_,_,_,_,_,_,x0,x1,x2,_⟩:=Z1.o.get
   obtain ⟨_,_,_,_,_,_,_,_,_,_,y0,y1,y2,_⟩:=Z2.o.get
   go_upto_region 11 with fail
   go_region
   all_goals
    go_wp2_with fail
    go_meet
    have HB:=box_two Z1.o Z2.o hg12 FR8.o FR8.o
    exact ⟨rfl,rfl,aH HB.1.drew,aH HB.2.drew,aH (Blk.drew ((G0.o.far3 (show w5.heap.size ≠ g1 by omega) 0 1 2 _ _ _).far3 (show w5.heap.size ≠ g2 by omega) 0 1 2 _ _ _)),aH (aL (aL B58.o (show w5.heap.size <= g1 by omega) _ _ _ _ _ _) (show w5.heap.size <= g2 by omega) _ _ _ _ _ _).drew⟩
  | false =>
   obtain rfl:0 = qa:=by rw [<- HQA.o,if_neg (by simp)]
   go_wp2_with fail
   go_meet
   exact ⟨rfl,rfl,Z1,Z2,G0,B58⟩
 case rest =>
 obtain ⟨rfl,rfl,K1,K2,G9,B59⟩:=hcut
 obtain ⟨w9,rfl⟩:∃ x,x = wc:=⟨_,rfl⟩
 have B9:=aH (B5.o.trans (B59.o.mono B5.o.size))
 have sG9:=G9.o.lt
 clear G0 r0 r1 r2 r3 r4 r5 Z1 Z2 FR8 B58 Ghs
 obtain ⟨r0,r1,r2,r3,r4,r5⟩:=six_at G9.o
 go_upto_region 12 with fail
 go_cut [73] (fun s73 wc=>s73 = .bool cb/\Hd (Below w9.heap.size w9 wc))
 case first =>
  cases tb with
  | false =>
   obtain rfl:cb = false:=by
    rw [<- HCB.o]
    exact dF (fun h=>of_decide_eq_false HTB.o.symm h.1)
   go_quiet (fail)
   go_wp2_with fail
   go_meet
   exact ⟨rfl,aH (ak (Below.refl _ w9) nq)⟩
  | true =>
   have hlt:t < p:=of_decide_eq_true HTB.o.symm
   obtain ⟨x,hx⟩:∃ x,sl[t]? = some x:=⟨_,eG (by rw [HP.o]; exact hlt)⟩
   obtain ⟨bs,os,rfl,hbs,f0⟩:=HST.o t x hx
   have c7:=(B9.o.cell (p:=⟨bs,os + t,none⟩) hbs).trans f0
   obtain ⟨eb,heb⟩:=nm ((rw_ == x))
   have HEB:Hd (eb = cb):=aH (by
    rw [<- HCB.o,<- heb,hx,Bool.eq_iff_iff,beq_iff_eq,decide_eq_true_eq,Option.some.injEq]
    exact ⟨fun h=>⟨hlt,h.symm⟩,fun h=>h.2.symm⟩)
   have t0:(0:Int) <= (t:Int):=by omega
   have t1:(t:Int) < (p:Int):=by omega
   clear hx f0
   go_quiet (fail)
   go_wp2_with fail
   go_meet
   exact ⟨by rw [HEB.o],aH (ak (Below.refl _ w9) nq)⟩
 case rest =>
 obtain ⟨rfl,hcc⟩:=hcut
 obtain ⟨wa,rfl⟩:∃ x,x = wc:=⟨_,rfl⟩
 have Ka1:=aH (K1.o.below hcc.o)
 have Ka2:=aH (K2.o.below hcc.o)
 have Ga:=aH (G9.o.below' hcc.o)
 have B5a:=aH (B59.o.trans (hcc.o.mono B59.o.size))
 have Ba:=aH (B5.o.trans (B5a.o.mono B5.o.size))
 clear hcc K1 K2 G9 B59 B9 r0 r1 r2 r3 r4 r5 sG9
 obtain ⟨r0,r1,r2,r3,r4,r5⟩:=six_at Ga.o
 have FRa:=aH (FR.o.below Ba.o)
 have HNO:Hd (cb = false->q1 = qa/\q2 = qa):=aH (fun h=>by
  rw [h] at HCB
  have hno:=of_decide_eq_false HCB.o
  by_cases hlt:t < p
  ·obtain ⟨x,hx⟩:∃ x,sl[t]? = some x:=⟨_,eG (by rw [HP.o]; exact hlt)⟩
   have h0:=HW1.o x (mG hx)
   have hne':¬ rw_ = x:=fun e=>hno ⟨hlt,by rw [hx,e]⟩
   have:qa = 0:=by
    rw [<- HQA.o,if_neg]
    rw [<- HZA.o,HTE.o,HTB.o,dT hlt]
    simp
   rw [<- HQ1.o,<- HQ2.o,moreT_in hx h0,moreT_in hx h0,HWW.o,if_neg hne',if_neg hne',this]
   exact ⟨rfl,rfl⟩
  have htp:sl.length = t:=by rw [HP.o]; omega
  have e1:=moreT_end (join:=(· + ·)) (Ln:=Ln) (rs:=rs) (sl:=sl) (r:=r)
  have e2:=moreT_end (join:=pickJ) (Ln:=Ln) (rs:=rs) (sl:=sl) (r:=r)
  rw [htp] at e1 e2
  rw [<- HQ1.o,<- HQ2.o,e1,e2,HWW.o,HQQ.o,<- HQA.o,<- HZA.o,HTE.o,HTB.o,dF hlt,<- HZB.o]
  simp)
 have HYES:Hd (cb = true->tb = true/\q1 = rq * (rowT (· + ·) Ln rs sl (t + 1)).getD T 0/\q2 = rq * (rowT pickJ Ln rs sl (t + 1)).getD T 0):=aH (fun h=>by
  rw [h] at HCB
  obtain ⟨hlt,hx⟩:=of_decide_eq_true HCB.o
  have h0:=HW1.o rw_ (mG hx)
  rw [<- HQ1.o,<- HQ2.o,moreT_in hx h0,moreT_in hx h0,HWW.o,if_pos rfl,if_pos rfl,HQQ.o,HTT.o,Int.toNat_natCast,HTB.o,dT hlt]
  exact ⟨rfl,rfl,rfl⟩)
 clear HZA HZB HQA HCB
 go_upto_if 73 with fail
 go_cut [14,15] (fun s14 s15 wc=>s14 = .pointer (some ⟨g1,0,none⟩)/\s15 = .pointer (some ⟨g2,0,none⟩)/\Hd (BoxK wc g1 q1)/\Hd (BoxK wc g2 q2)/\Hd (Blk wc w5.heap.size 111 [.int .i64 F,.int .i64 rw_,.int .i64 T,.bool s,.slice An nn cn,.slice Ad nd cd])/\Hd (Below w5.heap.size w5 wc))
 case first =>
  cases cb with
  | false =>
   obtain ⟨v1,v2⟩:=HNO.o rfl
   go_wp2_with fail
   go_meet
   exact ⟨rfl,rfl,aH (by rw [v1]; exact Ka1.o),aH (by rw [v2]; exact Ka2.o),Ga,B5a⟩
  | true =>
   obtain ⟨v0,v1,v2⟩:=HYES.o rfl
   obtain ⟨rfl,rfl,rfl,n1,n2,n3,n4⟩:=HAB2.o v0
   obtain ⟨R1,R2⟩:=HROW.o v0
   have R1a:=aH (R1.below B5a.o)
   have R2a:=aH (R2.below B5a.o)
   have la1:=R1.lt
   have la2:=R2.lt
   obtain ⟨y1,hy1⟩:∃ y,(rowT (· + ·) m rs sl (t + 1))[T]? = some y:=⟨_,eG (by rw [rowT_length]; exact HTL)⟩
   obtain ⟨y2,hy2⟩:∃ y,(rowT pickJ m rs sl (t + 1))[T]? = some y:=⟨_,eG (by rw [rowT_length]; exact HTL)⟩
   have HV1:Hd (rq * y1 = q1):=aH (by rw [v1,gD,hy1]; rfl)
   have HV2:Hd (rq * y2 = q2):=aH (by rw [v2,gD,hy2]; rfl)
   have QY1:Hd (QB 20000 y1):=aH (row_qb r8 HQ64.o (by rw [HN.o]; exact hn20) (by rw [HP.o]; exact hp9) (t:=t + 1) (by rw [HP.o]; have:=of_decide_eq_true (HTB.o.symm.trans v0); omega) y1 (mG hy1))
   have QY2:Hd (QB 20000 y2):=aH (row_qb nice_pickJ HQ64.o (by rw [HN.o]; exact hn20) (by rw [HP.o]; exact hp9) (t:=t + 1) (by rw [HP.o]; have:=of_decide_eq_true (HTB.o.symm.trans v0); omega) y2 (mG hy2))
   obtain ⟨D1,m1,d1,D1',m1',d1',x0,x1,x2,_,_,_,ty1⟩:=R1a.o.get hy1
   obtain ⟨D2,m2,d2,D2',m2',d2',z0,z1,z2,_,_,_,ty2⟩:=R2a.o.get hy2
   have TY1:=aH (ty1.frac QY1.o (by omega))
   have TY2:=aH (ty2.frac QY2.o (by omega))
   have l1:a1 < wa.heap.size:=R1a.o.lt
   have l2:a2 < wa.heap.size:=R2a.o.lt
   have lG:=Ga.o.lt
   have T0:(0:Int) <= (T:Int):=by omega
   have T1:(T:Int) < (m:Int):=by omega
   have BB:=aH (Below.refl wa.heap.size wa)
   have HSET:Hd (∀ w',Below wa.heap.size wa w'->(fun w'=>w'.cell? ⟨w5.heap.size,2,none⟩ = some (.int .i64 T)/\w'.cell? ⟨w5.heap.size,3,none⟩ = some (.bool s)/\w'.cell? ⟨w5.heap.size,4,none⟩ = some (.slice An nn cn)/\w'.cell? ⟨w5.heap.size,5,none⟩ = some (.slice Ad nd cd)/\w'.cell? ⟨a1,T * 3,none⟩ = some (.bool (ae y1))/\w'.cell? ⟨a1,T * 3 + 1,none⟩ = some (.slice D1 m1 d1)/\w'.cell? ⟨a1,T * 3 + 2,none⟩ = some (.slice D1' m1' d1')/\w'.cell? ⟨a2,T * 3,none⟩ = some (.bool (ae y2))/\w'.cell? ⟨a2,T * 3 + 1,none⟩ = some (.slice D2 m2 d2)/\w'.cell? ⟨a2,T * 3 + 2,none⟩ = some (.slice D2' m2' d2')) w'):=aH (fun w' hb=>⟨(hb.cell (p:=⟨w5.heap.size,2,none⟩) lG).trans r2,(hb.cell (p:=⟨w5.heap.size,3,none⟩) lG).trans r3,(hb.cell (p:=⟨w5.heap.size,4,none⟩) lG).trans r4,(hb.cell (p:=⟨w5.heap.size,5,none⟩) lG).trans r5,(hb.cell (p:=⟨a1,T * 3,none⟩) l1).trans x0,(hb.cell (p:=⟨a1,T * 3 + 1,none⟩) l1).trans x1,(hb.cell (p:=⟨a1,T * 3 + 2,none⟩) l1).trans x2,(hb.cell (p:=⟨a2,T * 3,none⟩) l2).trans z0,(hb.cell (p:=⟨a2,T * 3 + 1,none⟩) l2).trans z1,(hb.cell (p:=⟨a2,T * 3 + 2,none⟩) l2).trans z2⟩)
   have hS:=HSET.o wa BB.o
   clear r0 r1 r2 r3 r4 r5 x0 x1 x2 z0 z1 z2 hy1 hy2 ty1 ty2 v0 v1 v2 R1 R2
   go_upto_region 13 with fail
   refine wp_region_held_drew (S:=(fun w'=>w'.cell? ⟨w5.heap.size,2,none⟩ = some (.int .i64 T)/\w'.cell? ⟨w5.heap.size,3,none⟩ = some (.bool s)/\w'.cell? ⟨w5.heap.size,4,none⟩ = some (.slice An nn cn)/\w'.cell? ⟨w5.heap.size,5,none⟩ = some (.slice Ad nd cd)/\w'.cell? ⟨a1,T * 3,none⟩ = some (.bool (ae y1))/\w'.cell? ⟨a1,T * 3 + 1,none⟩ = some (.slice D1 m1 d1)/\w'.cell? ⟨a1,T * 3 + 2,none⟩ = some (.slice D1' m1' d1')/\w'.cell? ⟨a2,T * 3,none⟩ = some (.bool (ae y2))/\w'.cell? ⟨a2,T * 3 + 1,none⟩ = some (.slice D2 m2 d2)/\w'.cell? ⟨a2,T * 3 + 2,none⟩ = some (.slice D2' m2' d2'))) (by kernel_rfl) (HSET.o _ (bS wa)) (fun hHeld=>?_)
   refine tjj 0 ?_ rfl (by kernel_rfl) rfl ‹_› ?_ (fun _ _ _ h=>h) (tjj 1 ?_ rfl (by kernel_rfl) rfl ‹_› ?_ (fun _ _ _ h=>h) (tjj 2 ?_ rfl (by kernel_rfl) rfl ‹_› ?_ (fun _ _ _ h=>h) (tjj 3 ?_ rfl (by kernel_rfl) rfl ‹_› ?_ (fun _ _ _ h=>h) (tjj 4 ?_ rfl (by kernel_rfl) rfl ‹_› ?_ (fun _ _ _ h=>h) (tjj 5 ?_ rfl (by kernel_rfl) rfl ‹_› ?_ (fun _ _ _ h=>h) (tjj 6 ?_ rfl (by kernel_rfl) rfl ‹_› ?_ (fun _ _ _ h=>h) (tjj 8 ?_ rfl (by kernel_rfl) rfl ‹_› ?_ (fun _ _ _ h=>h) (tjj 9 ?_ rfl (by kernel_rfl) rfl ‹_› ?_ (fun _ _ _ h=>h) (tjj 10 ?_ rfl (by kernel_rfl) rfl ‹_› ?_ (fun _ _ _ h=>h) (tjj 11 ?_ rfl (by kernel_rfl) rfl ‹_› ?_ (fun _ _ _ h=>h) (tjj 12 ?_ rfl (by kernel_rfl) rfl ‹_› ?_ (fun _ _ _ h=>h) (tjj 13 ?_ rfl (by kernel_rfl) rfl ‹_› ?_ (fun _ _ _ h=>h) (tjj 14 ?_ rfl (by kernel_rfl) rfl ‹_› ?_ (fun _ _ _ h=>h) ?_)))))))))))))
   iterate 14 (rotate_left; · (intro w' hSw; (try dsimp only at hSw); (try go_frame); go_simp <;> with_reducible rfl))
   go_frame
   refine wpAnyH_ready (rs:=[7]) (by kernel_rfl) (by simp) ?_
   refine AllReadyH.cons rfl (fun K hK=>?_) AllReadyH.nil
   go_simp
   clear hHeld
   refine (mV _ _ _ rq y1 20000 (FRa.o.below (bS _)) (TY1.o.below (bS _)) (by omega) (by omega)).mono ?_
   rintro e wl ⟨u,rfl,t1,hb'⟩
   have hb:=bO hb'
   replace BB:=aH hb
   obtain ⟨As,ms,cs2,As',ms',cs',rfl⟩:=t1.at_.open_
   have U1:=aH t1.at_
   clear t1 hb hb'
   have hS:=HSET.o wl BB.o
   try go_simp
   refine hK.out _ _ hS (fun hHeld=>?_)
   clear hK K hS
   try go_frame
   refine wpAnyH_ready (rs:=[15]) (by kernel_rfl) (by simp) ?_
   refine AllReadyH.cons rfl (fun K hK=>?_) AllReadyH.nil
   go_simp
   clear hHeld
   refine (mV _ _ _ rq y2 20000 (FRa.o.below BB.o) (TY2.o.below BB.o) (by omega) (by omega)).mono ?_
   rintro e wm ⟨u,rfl,t2,hb⟩
   replace BB:=aH (BB.o.trans (hb.mono BB.o.size))
   replace U1:=aH (U1.o.below hb)
   obtain ⟨At,mt,ct2,At',mt',ct',rfl⟩:=t2.at_.open_
   have U2:=aH t2.at_
   clear t2 hb
   have hS:=HSET.o wm BB.o
   try go_simp
   refine hK.out _ _ hS (fun hHeld=>?_)
   clear hK K hS
   try go_frame
   have Km1:=aH (Ka1.o.below BB.o)
   have Km2:=aH (Ka2.o.below BB.o)
   have Gm:=aH (Ga.o.below' BB.o)
   have B5m:=aH (B5a.o.trans (BB.o.mono B5a.o.size))
   obtain ⟨_,_,_,_,_,_,_,_,_,_,u0,u1,u2,_⟩:=Km1.o.get
   obtain ⟨_,_,_,_,_,_,_,_,_,_,y0',y1',y2',_⟩:=Km2.o.get
   refine wpAnyH_ready (rs:=[16]) (by kernel_rfl) (by simp) ?_
   refine AllReadyH.cons rfl (fun K hK=>?_) AllReadyH.nil
   go_simp
   refine hK.out _ _ ⟨aj hHeld.1 (by omega) _ _ _ _ _ _,aj hHeld.2.1 (by omega) _ _ _ _ _ _,aj hHeld.2.2.1 (by omega) _ _ _ _ _ _,aj hHeld.2.2.2.1 (by omega) _ _ _ _ _ _,aj hHeld.2.2.2.2.1 (by omega) _ _ _ _ _ _,aj hHeld.2.2.2.2.2.1 (by omega) _ _ _ _ _ _,aj hHeld.2.2.2.2.2.2.1 (by omega) _ _ _ _ _ _,aj hHeld.2.2.2.2.2.2.2.1 (by omega) _ _ _ _ _ _,aj hHeld.2.2.2.2.2.2.2.2.1 (by omega) _ _ _ _ _ _,aj hHeld.2.2.2.2.2.2.2.2.2 (by omega) _ _ _ _ _ _⟩ (fun hH2=>?_)
   clear hK K hHeld
   try go_frame
   refine wpAnyH_ready (rs:=[17]) (by kernel_rfl) (by simp) ?_
   refine AllReadyH.cons rfl (fun K hK=>?_) AllReadyH.nil
   go_simp
   refine hK.out _ _ ⟨aj hH2.1 (by omega) _ _ _ _ _ _,aj hH2.2.1 (by omega) _ _ _ _ _ _,aj hH2.2.2.1 (by omega) _ _ _ _ _ _,aj hH2.2.2.2.1 (by omega) _ _ _ _ _ _,aj hH2.2.2.2.2.1 (by omega) _ _ _ _ _ _,aj hH2.2.2.2.2.2.1 (by omega) _ _ _ _ _ _,aj hH2.2.2.2.2.2.2.1 (by omega) _ _ _ _ _ _,aj hH2.2.2.2.2.2.2.2.1 (by omega) _ _ _ _ _ _,aj hH2.2.2.2.2.2.2.2.2.1 (by omega) _ _ _ _ _ _,aj hH2.2.2.2.2.2.2.2.2.2 (by omega) _ _ _ _ _ _⟩ (fun _=>?_)
   clear hK K hH2
   try go_frame
   refine wpAnyH_done (by kernel_rfl) ?_ _
   have UU1:=aH (U1.o.frac (by rw [HV1.o]; exact QB1.o) (show 20000 <= 17592186044416 by omega))
   have UU2:=aH (U2.o.frac (by rw [HV2.o]; exact QB2.o) (show 20000 <= 17592186044416 by omega))
   go_wp2_with fail
   go_meet
   have HB:=box_two Km1.o Km2.o hg12 UU1.o UU2.o
   exact ⟨rfl,rfl,aH (by rw [<- HV1.o]; exact HB.1),aH (by rw [<- HV2.o]; exact HB.2),aH ((Gm.o.far3 (show w5.heap.size ≠ g1 by omega) 0 1 2 _ _ _).far3 (show w5.heap.size ≠ g2 by omega) 0 1 2 _ _ _),aH (aL (aL B5m.o (show w5.heap.size <= g1 by omega) _ _ _ _ _ _) (show w5.heap.size <= g2 by omega) _ _ _ _ _ _)⟩
 case rest =>
 obtain ⟨rfl,rfl,K1,K2,Gb,B5b⟩:=hcut
 obtain ⟨wb,rfl⟩:∃ x,x = wc:=⟨_,rfl⟩
 have Bb:=aH (B5.o.trans (B5b.o.mono B5.o.size))
 have Y1:=aH (X1.o.below B5b.o)
 have Y2:=aH (X2.o.below B5b.o)
 have HRb:Hd (tb = true->FArc wb a1 (rowT (· + ·) Ln rs sl (t + 1))/\FArc wb a2 (rowT pickJ Ln rs sl (t + 1))):=aH (fun h=>⟨(HROW.o h).1.below B5b.o,(HROW.o h).2.below B5b.o⟩)
 have Pb:=aH (P5.o.below' B5b.o)
 obtain ⟨old,hold⟩:∃ old,(partT (· + ·) Ln rs sl t k)[F]? = some old:=⟨_,eG (by rw [partT_length]; exact HFL)⟩
 obtain ⟨old2,hold2⟩:∃ old,(partT pickJ Ln rs sl t k)[F]? = some old:=⟨_,eG (by rw [partT_length]; exact HFL)⟩
 have HOLD:=aH hold
 have HOLD2:=aH hold2
 have QO:=aH (part_qb r8 HQ64.o (by rw [HN.o]; exact hn20) (by rw [HP.o]; exact hp9) (by rw [HP.o]; exact ht) k old (mG hold))
 have QO2:=aH (part_qb nice_pickJ HQ64.o (by rw [HN.o]; exact hn20) (by rw [HP.o]; exact hp9) (by rw [HP.o]; exact ht) k old2 (mG hold2))
 have HS1:Hd (partT (· + ·) Ln rs sl t (k + 1) = (partT (· + ·) Ln rs sl t k).set F (old + q1)):=aH (by
  rw [part_add Ln sl t HX.o,HFF.o,Int.toNat_natCast,gD,hold,HQ1.o]
  rfl)
 have HS2:Hd (partT pickJ Ln rs sl t (k + 1) = (partT pickJ Ln rs sl t k).set F (pickJ old2 q2)):=aH (by
  rw [part_pick Ln HQ0.o sl t HX.o,HFF.o,Int.toNat_natCast,gD,hold2,HQ2.o]
  rfl)
 have HFL1:Hd (F < (partT (· + ·) Ln rs sl t k).length):=aH (by rw [partT_length]; exact HFL)
 have HFL2:Hd (F < (partT pickJ Ln rs sl t k).length):=aH (by rw [partT_length]; exact HFL)
 obtain ⟨r0,r1,r2,r3,r4,r5⟩:=six_at Gb.o
 obtain ⟨s1,Aq,mq,cq,Aq',mq',cq',k0',k1',k2',_,_,_,tq1⟩:=K1.o.get
 have TQ1:=aH tq1
 have F0:(0:Int) <= (F:Int):=by omega
 have F1:(F:Int) < (Ln:Int):=by omega
 have lGb:w5.heap.size < wb.heap.size:=Gb.o.lt
 have lK1:=K1.o.lt
 have lK2:=K2.o.lt
 have nG1:w5.heap.size ≠ b1:=by omega
 have nG2:w5.heap.size ≠ b2:=by omega
 have nK1:g1 ≠ b1:=by omega
 have nK12:g1 ≠ b2:=by omega
 have nK2:g2 ≠ b1:=by omega
 have nK22:g2 ≠ b2:=by omega
 have hne':b2 ≠ b1:=fun e=>hne e.symm
 have HAR:Hd (tb = true->a1 ≠ b1/\a1 ≠ b2/\a2 ≠ b1/\a2 ≠ b2):=aH (fun h=>(HAB2.o h).2.2.2)
 have HSET:Hd (∀ w',Below wb.heap.size wb w'->(fun w'=>w'.cell? ⟨w5.heap.size,0,none⟩ = some (.int .i64 F)/\w'.cell? ⟨g1,0,none⟩ = some (.bool s1)/\w'.cell? ⟨g1,1,none⟩ = some (.slice Aq mq cq)/\w'.cell? ⟨g1,2,none⟩ = some (.slice Aq' mq' cq')) w'):=aH (fun w' hb=>⟨(hb.cell (p:=⟨w5.heap.size,0,none⟩) lGb).trans r0,(hb.cell (p:=⟨g1,0,none⟩) lK1).trans k0',(hb.cell (p:=⟨g1,1,none⟩) lK1).trans k1',(hb.cell (p:=⟨g1,2,none⟩) lK1).trans k2'⟩)
 clear hold hold2 tq1 k0' k1' k2' r0 r1 r2 r3 r4 r5 X1 X2 HROW Ka1 Ka2 Ga B5a Ba FRa P5 B5b
 go_upto_region 14 with fail
 refine wp_region_held_drew (S:=(fun w'=>w'.cell? ⟨w5.heap.size,0,none⟩ = some (.int .i64 F)/\w'.cell? ⟨g1,0,none⟩ = some (.bool s1)/\w'.cell? ⟨g1,1,none⟩ = some (.slice Aq mq cq)/\w'.cell? ⟨g1,2,none⟩ = some (.slice Aq' mq' cq'))) (by kernel_rfl) (HSET.o _ (bS wb)) (fun hHeld=>?_)
 refine tjj 0 ?_ rfl (by kernel_rfl) rfl ‹_› ?_ (fun _ _ _ h=>h) (tjj 1 ?_ rfl (by kernel_rfl) rfl ‹_› ?_ (fun _ _ _ h=>h) (tjj 2 ?_ rfl (by kernel_rfl) rfl ‹_› ?_ (fun _ _ _ h=>h) (tjj 3 ?_ rfl (by kernel_rfl) rfl ‹_› ?_ (fun _ _ _ h=>h) (tjj 4 ?_ rfl (by kernel_rfl) rfl ‹_› ?_ (fun _ _ _ h=>h) (tjj 5 ?_ rfl (by kernel_rfl) rfl ‹_› ?_ (fun _ _ _ h=>h) (tjj 6 ?_ rfl (by kernel_rfl) rfl ‹_› ?_ (fun _ _ _ h=>h) (tjj 8 ?_ rfl (by kernel_rfl) rfl ‹_› ?_ (fun _ _ _ h=>h) ?_)))))))
 iterate 8 (rotate_left; · (intro w' hSw; (try dsimp only at hSw); (try go_frame); go_simp <;> with_reducible rfl))
 go_frame
 obtain ⟨Ao,mo,co',Ao',mo',co'',x0,x1,x2,_,_,_,tO⟩:=Y1.o.get HOLD.o
 have TO:=aH (tO.frac (k:=20000) QO.o (by omega))
 clear tO
 refine wpAnyH_ready (rs:=[7]) (by kernel_rfl) (by simp) ?_
 refine AllReadyH.cons rfl (fun K hK=>?_) AllReadyH.nil
 go_simp
 refine hK.out _ _ hHeld (fun _=>?_)
 clear hK K x0 x1 x2
 try go_frame
 refine wpAnyH_ready (rs:=[9]) (by kernel_rfl) (by simp) ?_
 refine AllReadyH.cons rfl (fun K hK=>?_) AllReadyH.nil
 go_simp
 clear hHeld
 refine (nO _ _ _ old q1 20000 (TO.o.below (bS _)) (TQ1.o.below (bS _)) (by omega) (by omega)).mono ?_
 rintro e wl ⟨u,rfl,t1,hb'⟩
 have BB:=aH (bO hb')
 obtain ⟨As,ms,cs2,As',ms',cs',rfl⟩:=t1.at_.open_
 have T2:=aH t1.at_
 clear t1 hb'
 have hS:=HSET.o wl BB.o
 try go_simp
 refine hK.out _ _ hS (fun hHeld=>?_)
 clear hK K hS
 try go_frame
 refine tjj 10 ?_ rfl (by kernel_rfl) rfl ‹_› ?_ (fun _ _ _ h=>h) ?_
 rotate_left
 ·(intro w' hSw; (try dsimp only at hSw); (try go_frame); go_simp <;> with_reducible rfl)
 go_frame
 have Yl1:=aH (Y1.o.below BB.o)
 have Yl2:=aH (Y2.o.below BB.o)
 obtain ⟨_,_,_,_,_,_,u0,u1,u2,y0,y1,y2,_⟩:=Yl1.o.get HOLD.o
 refine wpAnyH_ready (rs:=[11]) (by kernel_rfl) (by simp) ?_
 refine AllReadyH.cons rfl (fun K hK=>?_) AllReadyH.nil
 go_simp
 refine hK.out _ _ ⟨aj hHeld.1 nG1 _ _ _ _ _ _,aj hHeld.2.1 nK1 _ _ _ _ _ _,aj hHeld.2.2.1 nK1 _ _ _ _ _ _,aj hHeld.2.2.2 nK1 _ _ _ _ _ _⟩ (fun _=>?_)
 clear hK K hHeld
 try go_frame
 refine wpAnyH_done (by kernel_rfl) ?_ _
 obtain ⟨w6,hw6⟩:∃ x,x = ((wl.setCell ⟨b1,F * 3,none⟩ (.bool (ae (old + q1)))).setCell ⟨b1,F * 3 + 1,none⟩ (.slice As ms cs2)).setCell ⟨b1,F * 3 + 2,none⟩ (.slice As' ms' cs'):=⟨_,rfl⟩
 have Z1:Hd (FArc w6 b1 (partT (· + ·) Ln rs sl t (k + 1))):=aH (by rw [hw6,HS1.o]; exact Yl1.o.put HFL1.o rfl T2.o)
 have Z2:Hd (FArc w6 b2 (partT pickJ Ln rs sl t k)):=aH (by rw [hw6]; exact Yl2.o.far Yl1.o hne' _ _ _ _ _ _ _ _ _ _)
 have ZR:Hd (tb = true->FArc w6 a1 (rowT (· + ·) Ln rs sl (t + 1))/\FArc w6 a2 (rowT pickJ Ln rs sl (t + 1))):=aH (fun h=>by
  rw [hw6]
  exact ⟨((HRb.o h).1.below BB.o).far Yl1.o (HAR.o h).1 _ _ _ _ _ _ _ _ _ _,((HRb.o h).2.below BB.o).far Yl1.o (HAR.o h).2.2.1 _ _ _ _ _ _ _ _ _ _⟩)
 have ZK:Hd (BoxK w6 g2 q2):=aH (by rw [hw6]; exact (K2.o.below BB.o).farC Yl1.o nK2 _ _ _ _ _ _ _ _)
 have ZP:Hd (Blk w6 w.heap.size 73 [.int .i64 Ln,.int .i64 V,.slice (some ⟨ba,oa,none⟩) n c]):=aH (by rw [hw6]; exact (Pb.o.below' BB.o).far3 (show w.heap.size ≠ b1 by omega) _ _ _ _ _ _)
 have ZG:Hd (Blk w6 w5.heap.size 111 [.int .i64 F,.int .i64 rw_,.int .i64 T,.bool s,.slice An nn cn,.slice Ad nd cd]):=aH (by rw [hw6]; exact (Gb.o.below' BB.o).far3 nG1 _ _ _ _ _ _)
 have ZB:Hd (Below w.heap.size w w6):=aH (by rw [hw6]; exact aL (Bb.o.trans (BB.o.mono Bb.o.size)) (show w.heap.size <= b1 by omega) _ _ _ _ _ _)
 rw [<- hw6]
 clear hw6 u0 u1 u2 y0 y1 y2 Yl1 Yl2 BB T2 TO Y1 Y2 HRb K1 K2 Pb Gb Bb HSET TQ1
 obtain ⟨s2,Av,mv,cv,Av',mv',cv',k0',k1',k2',_,_,_,tq2⟩:=ZK.o.get
 have TQ2:=aH tq2
 obtain ⟨Ao2,mo2,co2,Ao2',mo2',co2',x0,x1,x2,_,_,_,tO2⟩:=Z2.o.get HOLD2.o
 have TO2:=aH (tO2.frac (k:=20000) QO2.o (by omega))
 have r0:=ZG.o.cell 0
 simp only [List.getElem?_cons_zero] at r0
 obtain ⟨sg,hsg⟩:=nm (aU (q2 - old2))
 have HSG:=aH hsg
 obtain ⟨gt,hgt⟩:=nm (decide (0 < sg))
 have HPK:Hd (pickJ old2 q2 = if gt = true then q2 else old2):=aH (by
  unfold pickJ
  rw [<- hgt,<- hsg,sgn_pick]
  cases decide (q2 <= old2) <;> rfl)
 have lG6:w5.heap.size < w6.heap.size:=ZG.o.lt
 have lK6:g2 < w6.heap.size:=ZK.o.lt
 have lb6:b2 < w6.heap.size:=Z2.o.lt
 have BB:=aH (Below.refl w6.heap.size w6)
 have HSET:Hd (∀ w',Below w6.heap.size w6 w'->(fun w'=>w'.cell? ⟨w5.heap.size,0,none⟩ = some (.int .i64 F)/\w'.cell? ⟨g2,0,none⟩ = some (.bool s2)/\w'.cell? ⟨g2,1,none⟩ = some (.slice Av mv cv)/\w'.cell? ⟨g2,2,none⟩ = some (.slice Av' mv' cv')/\w'.cell? ⟨b2,F * 3,none⟩ = some (.bool (ae old2))/\w'.cell? ⟨b2,F * 3 + 1,none⟩ = some (.slice Ao2 mo2 co2)/\w'.cell? ⟨b2,F * 3 + 2,none⟩ = some (.slice Ao2' mo2' co2')) w'):=aH (fun w' hb=>⟨(hb.cell (p:=⟨w5.heap.size,0,none⟩) lG6).trans r0,(hb.cell (p:=⟨g2,0,none⟩) lK6).trans k0',(hb.cell (p:=⟨g2,1,none⟩) lK6).trans k1',(hb.cell (p:=⟨g2,2,none⟩) lK6).trans k2',(hb.cell (p:=⟨b2,F * 3,none⟩) lb6).trans x0,(hb.cell (p:=⟨b2,F * 3 + 1,none⟩) lb6).trans x1,(hb.cell (p:=⟨b2,F * 3 + 2,none⟩) lb6).trans x2⟩)
 have hS:=HSET.o w6 BB.o
 clear tq2 tO2 hsg r0 k0' k1' k2' x0 x1 x2
 go_upto_region 15 with fail
 go_cut [108] (fun s108 wc=>s108 = .bool gt/\Hd (Below w6.heap.size w6 wc))
 case first =>
  go_region_held3 (fun w'=>w'.cell? ⟨w5.heap.size,0,none⟩ = some (.int .i64 F)/\w'.cell? ⟨g2,0,none⟩ = some (.bool s2)/\w'.cell? ⟨g2,1,none⟩ = some (.slice Av mv cv)/\w'.cell? ⟨g2,2,none⟩ = some (.slice Av' mv' cv')/\w'.cell? ⟨b2,F * 3,none⟩ = some (.bool (ae old2))/\w'.cell? ⟨b2,F * 3 + 1,none⟩ = some (.slice Ao2 mo2 co2)/\w'.cell? ⟨b2,F * 3 + 2,none⟩ = some (.slice Ao2' mo2' co2'))
   (first | assumption | exact hS | go_keep)
   (first
    | (go_at_call 30; refine (vW _ _ _ q2 old2 20000 (TQ2.o.below (bS _)) (TO2.o.below (bS _)) (by omega) (by omega)).mono ?_; rintro e wl ⟨rfl,hb⟩; rw [HSG.o]; replace BB:=aH (bO hb); have hS:=HSET.o _ BB.o; clear hb))
  all_goals
   go_wp2_with fail
   go_meet
   exact ⟨by simp only [hgt],BB⟩
 case rest =>
 obtain ⟨rfl,hcc⟩:=hcut
 obtain ⟨w7,rfl⟩:∃ x,x = wc:=⟨_,rfl⟩
 have Y1:=aH (Z1.o.below hcc.o)
 have Y2:=aH (Z2.o.below hcc.o)
 have YR:Hd (tb = true->FArc w7 a1 (rowT (· + ·) Ln rs sl (t + 1))/\FArc w7 a2 (rowT pickJ Ln rs sl (t + 1))):=aH (fun h=>⟨(ZR.o h).1.below hcc.o,(ZR.o h).2.below hcc.o⟩)
 have YK:=aH (ZK.o.below hcc.o)
 have YP:=aH (ZP.o.below' hcc.o)
 have YG:=aH (ZG.o.below' hcc.o)
 have YB:=aH (ZB.o.trans (hcc.o.mono ZB.o.size))
 have TQ7:=aH (TQ2.o.below hcc.o)
 have hS7:=HSET.o w7 hcc.o
 clear hcc Z1 Z2 ZR ZK ZP ZG ZB TQ2 TO2 BB HSET hS hgt HSG
 cases gt with
 | false =>
  have HS3:Hd (partT pickJ Ln rs sl t (k + 1) = partT pickJ Ln rs sl t k):=aH (by
   rw [HS2.o,HPK.o,if_neg (by simp)]
   have:=set_same (partT pickJ Ln rs sl t k) F
   rwa [gD,HOLD2.o] at this)
  go_wp2_with fail
  go_roundg gh
  case measure=>omega
  case rel=>exact ⟨k + 1,rfl,by omega,Y1,aH (by rw [HS3.o]; exact Y2.o),YR,YP,YB⟩
 | true =>
  have HS3:Hd (partT pickJ Ln rs sl t (k + 1) = (partT pickJ Ln rs sl t k).set F q2):=aH (by rw [HS2.o,HPK.o,if_pos rfl])
  have lG7:w5.heap.size < w7.heap.size:=YG.o.lt
  have lK7:g2 < w7.heap.size:=YK.o.lt
  have HSET:Hd (∀ w',Below w7.heap.size w7 w'->(fun w'=>w'.cell? ⟨w5.heap.size,0,none⟩ = some (.int .i64 F)/\w'.cell? ⟨g2,0,none⟩ = some (.bool s2)/\w'.cell? ⟨g2,1,none⟩ = some (.slice Av mv cv)/\w'.cell? ⟨g2,2,none⟩ = some (.slice Av' mv' cv')) w'):=aH (fun w' hb=>⟨(hb.cell (p:=⟨w5.heap.size,0,none⟩) lG7).trans hS7.1,(hb.cell (p:=⟨g2,0,none⟩) lK7).trans hS7.2.1,(hb.cell (p:=⟨g2,1,none⟩) lK7).trans hS7.2.2.1,(hb.cell (p:=⟨g2,2,none⟩) lK7).trans hS7.2.2.2.1⟩)
  clear hS7
  go_upto_region 16 with fail
  refine wp_region_held_drew (S:=(fun w'=>w'.cell? ⟨w5.heap.size,0,none⟩ = some (.int .i64 F)/\w'.cell? ⟨g2,0,none⟩ = some (.bool s2)/\w'.cell? ⟨g2,1,none⟩ = some (.slice Av mv cv)/\w'.cell? ⟨g2,2,none⟩ = some (.slice Av' mv' cv'))) (by kernel_rfl) (HSET.o _ (bS w7)) (fun hHeld=>?_)
  refine tjj 0 ?_ rfl (by kernel_rfl) rfl ‹_› ?_ (fun _ _ _ h=>h) (tjj 1 ?_ rfl (by kernel_rfl) rfl ‹_› ?_ (fun _ _ _ h=>h) (tjj 2 ?_ rfl (by kernel_rfl) rfl ‹_› ?_ (fun _ _ _ h=>h) (tjj 3 ?_ rfl (by kernel_rfl) rfl ‹_› ?_ (fun _ _ _ h=>h) ?_)))
  iterate 4 (rotate_left; · (intro w' hSw; (try dsimp only at hSw); (try go_frame); go_simp <;> with_reducible rfl))
  go_frame
  refine wpAnyH_ready (rs:=[4]) (by kernel_rfl) (by simp) ?_
  refine AllReadyH.cons rfl (fun K hK=>?_) AllReadyH.nil
  go_simp
  clear hHeld
  refine (canonR _ _ q2 20000 (TQ7.o.below (bS _)) (by omega) (by omega)).mono ?_
  rintro e wl ⟨u,rfl,t1,hb'⟩
  have BB:=aH (bO hb')
  obtain ⟨As,ms,cs2,As',ms',cs',rfl⟩:=t1.at_.open_
  have T2:=aH t1.at_
  clear t1 hb'
  have hS:=HSET.o wl BB.o
  try go_simp
  refine hK.out _ _ hS (fun hHeld=>?_)
  clear hK K hS
  try go_frame
  refine tjj 5 ?_ rfl (by kernel_rfl) rfl ‹_› ?_ (fun _ _ _ h=>h) ?_
  rotate_left
  ·(intro w' hSw; (try dsimp only at hSw); (try go_frame); go_simp <;> with_reducible rfl)
  go_frame
  have Yl1:=aH (Y1.o.below BB.o)
  have Yl2:=aH (Y2.o.below BB.o)
  obtain ⟨_,_,_,_,_,_,u0,u1,u2,y0,y1,y2,_⟩:=Yl2.o.get HOLD2.o
  refine wpAnyH_ready (rs:=[6]) (by kernel_rfl) (by simp) ?_
  refine AllReadyH.cons rfl (fun K hK=>?_) AllReadyH.nil
  go_simp
  refine hK.out _ _ ⟨aj hHeld.1 nG2 _ _ _ _ _ _,aj hHeld.2.1 nK22 _ _ _ _ _ _,aj hHeld.2.2.1 nK22 _ _ _ _ _ _,aj hHeld.2.2.2 nK22 _ _ _ _ _ _⟩ (fun _=>?_)
  clear hK K hHeld
  try go_frame
  refine wpAnyH_done (by kernel_rfl) ?_ _
  obtain ⟨w8,hw8⟩:∃ x,x = ((wl.setCell ⟨b2,F * 3,none⟩ (.bool (ae q2))).setCell ⟨b2,F * 3 + 1,none⟩ (.slice As ms cs2)).setCell ⟨b2,F * 3 + 2,none⟩ (.slice As' ms' cs'):=⟨_,rfl⟩
  have Z2:Hd (FArc w8 b2 (partT pickJ Ln rs sl t (k + 1))):=aH (by rw [hw8,HS3.o]; exact Yl2.o.put HFL2.o rfl T2.o)
  have Z1:Hd (FArc w8 b1 (partT (· + ·) Ln rs sl t (k + 1))):=aH (by rw [hw8]; exact Yl1.o.far Yl2.o hne _ _ _ _ _ _ _ _ _ _)
  have ZR:Hd (tb = true->FArc w8 a1 (rowT (· + ·) Ln rs sl (t + 1))/\FArc w8 a2 (rowT pickJ Ln rs sl (t + 1))):=aH (fun h=>by
   rw [hw8]
   exact ⟨((YR.o h).1.below BB.o).far Yl2.o (HAR.o h).2.1 _ _ _ _ _ _ _ _ _ _,((YR.o h).2.below BB.o).far Yl2.o (HAR.o h).2.2.2 _ _ _ _ _ _ _ _ _ _⟩)
  have ZP:Hd (Blk w8 w.heap.size 73 [.int .i64 Ln,.int .i64 V,.slice (some ⟨ba,oa,none⟩) n c]):=aH (by rw [hw8]; exact (YP.o.below' BB.o).far3 (show w.heap.size ≠ b2 by omega) _ _ _ _ _ _)
  have ZB:Hd (Below w.heap.size w w8):=aH (by rw [hw8]; exact aL (YB.o.trans (BB.o.mono YB.o.size)) (show w.heap.size <= b2 by omega) _ _ _ _ _ _)
  rw [<- hw8]
  clear hw8 u0 u1 u2 y0 y1 y2 Yl1 Yl2 BB T2
  go_wp2_with fail
  go_roundg gh
  case measure=>omega
  case rel=>exact ⟨k + 1,rfl,by omega,Z1,Z2,ZR,ZP,ZB⟩
end Go.Proofs.YtjebfdfkjlkifaaGreat
