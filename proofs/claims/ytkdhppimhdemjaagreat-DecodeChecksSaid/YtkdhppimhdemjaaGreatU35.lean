/- Lemmas on the way: FArc, Va1, Ad1, Ty1, Di1. -/
import Derived.Test.YtkdhppimhdemjaaGreatU34
set_option linter.all false
set_option maxRecDepth 1000000
set_option maxHeartbeats 32000000
namespace Go.Proofs.YtkdhppimhdemjaaGreat
open Go.RowKit
section
theorem ab.offBlk {w:World} {v:Value} {n b:Nat} {e:TypeId} {xs:List Value} (h:ab w v n)(hb:bw w b e xs)(hx:∀ x ∈ xs,dD x):rZ v b:=by
 obtain ⟨l,h1,_⟩:=h
 exact h1.offBlk hb hx
theorem cJ.putBlk {w:World} {v:Value} {q:Rat} {g:Nat} {e:TypeId} {xs:List Value} (h:cJ w v q)(hb:bw w g e xs)(hx:∀ x ∈ xs,dD x) (i:Nat) (u:Value):cJ (w.setCell ⟨g,i,none⟩ u) v q:=by
 obtain ⟨vn,vd,e,h1,h2⟩:=h
 exact ⟨vn,vd,e,h1.setOff (p:=⟨g,i,none⟩) (h1.offBlk hb hx) u,h2.setOff (p:=⟨g,i,none⟩) (h2.offBlk hb hx) u⟩
theorem cJ.put3 {w:World} {v:Value} {q:Rat} {b:Nat} {e:TypeId} {xs:List Value} (h:cJ w v q)(hb:bw w b e xs)(hx:∀ x ∈ xs,dD x) (i j k:Nat) (s:Bool) (A A':Option Addr) (m c m' c':Nat) :
  cJ (((w.setCell ⟨b,i,none⟩ (.bool s)).setCell ⟨b,j,none⟩ (.slice A m c)).setCell ⟨b,k,none⟩ (.slice A' m' c')) v q :=
 ((h.putBlk hb hx i _).putBlk (hb.set_ _ _) (cM hx _ (show dD (.bool s) from trivial)) j _).putBlk ((hb.set_ _ _).set_ _ _) (cM (cM hx _ (show dD (.bool s) from trivial)) _ (show dD (.slice A m c) from trivial)) k _
theorem cJ.open_ {w:World} {v:Value} {q:Rat} (h:cJ w v q):∃ A m c A' m' c',v = .agg #[.bool (ap q),.slice A m c,.slice A' m' c']:=by
 obtain ⟨vn,vd,rfl,h1,h2⟩:=h
 obtain ⟨_,⟨⟨_,A,c,rfl,_⟩,_⟩,_⟩:=h1
 obtain ⟨_,⟨⟨_,A',c',rfl,_⟩,_⟩,_⟩:=h2
 exact ⟨_,_,_,_,_,_,rfl⟩

def eA (w:World) (b:Nat) (qs:List Rat):Prop:=∃ xs,bw w b 30 xs/\xs.length = qs.length * 3/\(∀ x ∈ xs,dD x) /\
 ∀ (i:Nat) (q:Rat),qs[i]? = some q->∃ A m c A' m' c',xs[i * 3]? = some (.bool (ap q))/\xs[i * 3 + 1]? = some (.slice A m c)/\xs[i * 3 + 2]? = some (.slice A' m' c')/\cJ w (.agg #[.bool (ap q),.slice A m c,.slice A' m' c']) q
section
variable {w w':World} {b:Nat} {qs:List Rat}
theorem GS.arc {base:Nat} (h:GS base w b qs):eA w b qs:=by
 obtain ⟨_,xs,h1,h2,h3⟩:=h
 refine ⟨xs,h1,h2,fun x hx=>?_,fun i q hq=>?_⟩
 ·obtain ⟨j,hj⟩:=List.mem_iff_getElem?.1 hx
  have hjl:=(List.getElem?_eq_some_iff.1 hj).1
  obtain ⟨q,hq⟩:∃ q,qs[j / 3]? = some q:=⟨_,List.getElem?_eq_getElem (by omega)⟩
  obtain ⟨A,m,c,A',m',c',e0,e1,e2,_⟩:=h3 _ q hq
  have hm:j = j / 3 * 3 ∨ j = j / 3 * 3 + 1 ∨ j = j / 3 * 3 + 2:=by omega
  rcases hm with e | e | e
  ·rw [e,e0] at hj; cases hj; trivial
  ·rw [e,e1] at hj; cases hj; trivial
  rw [e,e2] at hj; cases hj; trivial
 obtain ⟨A,m,c,A',m',c',e0,e1,e2,e3⟩:=h3 i q hq
 exact ⟨A,m,c,A',m',c',e0,e1,e2,e3.at_⟩
theorem eA.lt (h:eA w b qs):b < w.heap.size:=by
 obtain ⟨xs,hb,_⟩:=h
 exact hb.lt
theorem eA.below (h:eA w b qs)(hb:Below w.heap.size w w'):eA w' b qs:=by
 obtain ⟨xs,h1,h2,hx,h3⟩:=h
 refine ⟨xs,h1.below' hb,h2,hx,fun i q hq=>?_⟩
 obtain ⟨A,m,c,A',m',c',e0,e1,e2,e3⟩:=h3 i q hq
 exact ⟨A,m,c,A',m',c',e0,e1,e2,e3.below hb⟩
theorem eA.get (h:eA w b qs) {i:Nat} {q:Rat} (hq:qs[i]? = some q):∃ A m c A' m' c',w.cell? ⟨b,i * 3,none⟩ = some (.bool (ap q))/\w.cell? ⟨b,i * 3 + 1,none⟩ = some (.slice A m c)/\w.cell? ⟨b,i * 3 + 2,none⟩ = some (.slice A' m' c') /\
  w.frozen? ⟨b,i * 3,none⟩ = false/\w.frozen? ⟨b,i * 3 + 1,none⟩ = false/\w.frozen? ⟨b,i * 3 + 2,none⟩ = false/\cJ w (.agg #[.bool (ap q),.slice A m c,.slice A' m' c']) q:=by
 obtain ⟨xs,h1,_,_,h3⟩:=h
 obtain ⟨A,m,c,A',m',c',e0,e1,e2,e3⟩:=h3 i q hq
 exact ⟨A,m,c,A',m',c',(h1.cell _).trans e0,(h1.cell _).trans e1,(h1.cell _).trans e2,h1.frozen _,h1.frozen _,h1.frozen _,e3⟩
theorem eA.blk (h:eA w b qs):∃ xs,bw w b 30 xs/\∀ x ∈ xs,dD x:=by
 obtain ⟨xs,h1,_,hx,_⟩:=h
 exact ⟨xs,h1,hx⟩
theorem eA.far1 (h:eA w b qs) {g:Nat} {e:TypeId} {xs:List Value} (hb:bw w g e xs)(hx:∀ x ∈ xs,dD x)(hne:b ≠ g) (i:Nat) (u:Value):eA (w.setCell ⟨g,i,none⟩ u) b qs:=by
 obtain ⟨ys,g1,g2,gx,g3⟩:=h
 refine ⟨ys,g1.far (p:=⟨g,i,none⟩) hne u,g2,gx,fun j r hr=>?_⟩
 obtain ⟨A1,m1,c1,A1',m1',c1',e0,e1,e2,e3⟩:=g3 j r hr
 exact ⟨A1,m1,c1,A1',m1',c1',e0,e1,e2,e3.putBlk hb hx _ _⟩
theorem eA.far {g:Nat} {rs:List Rat} (h:eA w b qs)(hg:eA w g rs)(hne:b ≠ g) (i j k:Nat) (s:Bool) (A A':Option Addr) (m c m' c':Nat) :
  eA (((w.setCell ⟨g,i,none⟩ (.bool s)).setCell ⟨g,j,none⟩ (.slice A m c)).setCell ⟨g,k,none⟩ (.slice A' m' c')) b qs:=by
 obtain ⟨xs,h1,hx⟩:=hg.blk
 exact ((h.far1 h1 hx hne i _).far1 (h1.set_ _ _) (cM hx _ (show dD (.bool s) from trivial)) hne j _).far1 ((h1.set_ _ _).set_ _ _) (cM (cM hx _ (show dD (.bool s) from trivial)) _ (show dD (.slice A m c) from trivial)) hne k _
theorem eA.put (h:eA w b qs) {i:Nat} (hi:i < qs.length) {q:Rat} {s:Bool} {A A':Option Addr} {m c m' c':Nat} (hs:s = ap q)(hq:cJ w (.agg #[.bool s,.slice A m c,.slice A' m' c']) q) :
  eA (((w.setCell ⟨b,i * 3,none⟩ (.bool s)).setCell ⟨b,i * 3 + 1,none⟩ (.slice A m c)).setCell ⟨b,i * 3 + 2,none⟩ (.slice A' m' c')) b (qs.set i q):=by
 subst hs
 obtain ⟨xs,h1,h2,hx,h3⟩:=h
 have sh:=((h1.set_ (i * 3) (.bool (ap q))).set_ (i * 3 + 1) (.slice A m c)).set_ (i * 3 + 2) (.slice A' m' c')
 have nd:=cM (cM (cM hx (i * 3) (show dD (.bool (ap q)) from trivial)) (i * 3 + 1) (show dD (.slice A m c) from trivial)) (i * 3 + 2) (show dD (.slice A' m' c') from trivial)
 have keep:∀ {v r},cJ w v r->cJ (((w.setCell ⟨b,i * 3,none⟩ (.bool (ap q))).setCell ⟨b,i * 3 + 1,none⟩ (.slice A m c)).setCell ⟨b,i * 3 + 2,none⟩ (.slice A' m' c')) v r:=fun h=>h.put3 h1 hx _ _ _ _ _ _ _ _ _ _
 refine ⟨_,sh,by simpa using h2,nd,fun j r hr=>?_⟩
 by_cases hj:i = j
 ·subst hj
  rw [List.getElem?_set_self hi] at hr
  cases hr
  refine ⟨A,m,c,A',m',c',?_,?_,?_,keep hq⟩
  ·rw [List.getElem?_set_ne (by omega),List.getElem?_set_ne (by omega),List.getElem?_set_self (by omega)]
  ·rw [List.getElem?_set_ne (by omega),List.getElem?_set_self (by simp; omega)]
  rw [List.getElem?_set_self (by simp; omega)]
 rw [List.getElem?_set_ne hj] at hr
 obtain ⟨A1,m1,c1,A1',m1',c1',e0,e1,e2,e3⟩:=h3 j r hr
 refine ⟨A1,m1,c1,A1',m1',c1',?_,?_,?_,keep e3⟩
 ·rw [List.getElem?_set_ne (by omega),List.getElem?_set_ne (by omega),List.getElem?_set_ne (by omega)]; exact e0
 ·rw [List.getElem?_set_ne (by omega),List.getElem?_set_ne (by omega),List.getElem?_set_ne (by omega)]; exact e1
 rw [List.getElem?_set_ne (by omega),List.getElem?_set_ne (by omega),List.getElem?_set_ne (by omega)]; exact e2
end

def dR (w:World) (b:Nat) (q:Rat):Prop:=eA w b [q]
section
variable {w w':World} {b:Nat} {q:Rat}
theorem dR.below (h:dR w b q)(hb:Below w.heap.size w w'):dR w' b q:=eA.below h hb
theorem dR.lt (h:dR w b q):b < w.heap.size:=eA.lt h
theorem dR.get (h:dR w b q):∃ A m c A' m' c',w.cell? ⟨b,0,none⟩ = some (.bool (ap q))/\w.cell? ⟨b,1,none⟩ = some (.slice A m c)/\w.cell? ⟨b,2,none⟩ = some (.slice A' m' c') /\
  w.frozen? ⟨b,0,none⟩ = false/\w.frozen? ⟨b,1,none⟩ = false/\w.frozen? ⟨b,2,none⟩ = false/\cJ w (.agg #[.bool (ap q),.slice A m c,.slice A' m' c']) q:=by
 have:=eA.get h (i:=0) (q:=q) rfl
 simpa using this
theorem dR.put (h:dR w b q) {r:Rat} {s:Bool} {A A':Option Addr} {m c m' c':Nat} (hs:s = ap r)(hr:cJ w (.agg #[.bool s,.slice A m c,.slice A' m' c']) r) :
  dR (((w.setCell ⟨b,0,none⟩ (.bool s)).setCell ⟨b,1,none⟩ (.slice A m c)).setCell ⟨b,2,none⟩ (.slice A' m' c')) b r:=by
 have:=eA.put h (i:=0) (by simp) hs hr
 unfold dR
 simpa using this
theorem dR.of {A A':Option Addr} {m c m' c':Nat} (h:bw w b 30 [.bool (ap q),.slice A m c,.slice A' m' c'])(hq:cJ w (.agg #[.bool (ap q),.slice A m c,.slice A' m' c']) q):dR w b q:=by
 refine ⟨_,h,rfl,?_,fun i r hr=>?_⟩
 ·intro x hx
  simp only [List.mem_cons,List.not_mem_nil,or_false] at hx
  rcases hx with rfl | rfl | rfl <;> trivial
 cases i with
 | succ i=>simp at hr
 | zero =>
  cases hr
  exact ⟨A,m,c,A',m',c',rfl,rfl,rfl,hq⟩
theorem dR.new {A A':Option Addr} {m c m' c':Nat} (hq:cJ w (.agg #[.bool (ap q),.slice A m c,.slice A' m' c']) q):dR (w.alloc (.cells #[.bool (ap q),.slice A m c,.slice A' m' c'] 30)) w.heap.size q:=by
 refine ⟨_,bw.new w 30 [.bool (ap q),.slice A m c,.slice A' m' c'],rfl,?_,fun i r hr=>?_⟩
 ·intro x hx
  simp only [List.mem_cons,List.not_mem_nil,or_false] at hx
  rcases hx with rfl | rfl | rfl <;> trivial
 cases i with
 | succ i=>simp at hr
 | zero =>
  cases hr
  exact ⟨A,m,c,A',m',c',rfl,rfl,rfl,hq.below ((Below.refl _ w).alloc (Nat.le_refl _) _)⟩
theorem dR.zero (w:World):dR (w.alloc (.cells #[.bool false,.slice none 0 0,.slice none 0 0] 30)) w.heap.size 0:=dR.new (w:=w) (q:=0) ((ay.zero_ 0 w).at_)
end
theorem ue {w:World} {B g o:Nat} {x:Value} (h:w.cell? ⟨g,o,none⟩ = some x)(hp:g ≠ B) (i j k:Nat) (u0 u1 u2:Value):(((w.setCell ⟨B,i,none⟩ u0).setCell ⟨B,j,none⟩ u1).setCell ⟨B,k,none⟩ u2).cell? ⟨g,o,none⟩ = some x:=by
 have e:∀ (w:World) (i:Nat) (u:Value),(w.setCell ⟨B,i,none⟩ u).cell? ⟨g,o,none⟩ = w.cell? ⟨g,o,none⟩:=fun w i u=>by
  unfold World.cell?
  rw [show (w.setCell ⟨B,i,none⟩ u).heap[(⟨g,o,none⟩:Addr).block]? = w.heap[(⟨g,o,none⟩:Addr).block]? from Below.heap_setCell w ⟨B,i,none⟩ u g hp]
 rw [e,e,e,h]
theorem EC (f:Nat->Rat) (j g:Nat) {x:Rat} (hx:x = f j):((List.range j).map f ++ List.replicate (g + 1) 0).set j x = (List.range (j + 1)).map f ++ List.replicate g 0:=by
 subst hx
 rw [List.set_append_right _ _ (by simp),List.length_map,List.length_range,Nat.sub_self,List.replicate_succ,List.set_cons_zero,List.range_succ,List.map_append,List.append_assoc]
 rfl
theorem KS (f:Nat->Rat) (j g:Nat):((List.range j).map f ++ List.replicate (g + 1) (0:Rat))[j]? = some 0:=by
 rw [List.getElem?_append_right (by simp),List.length_map,List.length_range,Nat.sub_self]
 rfl
theorem Gl {w w':World} {B0 B:Nat} (h:Below B0 w w')(hb:B0 <= B) (i j k:Nat) (u0 u1 u2:Value):Below B0 w (((w'.setCell ⟨B,i,none⟩ u0).setCell ⟨B,j,none⟩ u1).setCell ⟨B,k,none⟩ u2) :=
 ((h.setCell (p:=⟨B,i,none⟩) hb _).setCell (p:=⟨B,j,none⟩) hb _).setCell (p:=⟨B,k,none⟩) hb _
theorem eA.keepsF {w:World} {b:Nat} {qs:List Rat} (h:eA w b qs) {n:Nat} {x y z:Value} {q:Rat} (hv:az n w (.agg #[x,y,z]) q) (i j k:Nat) (s:Bool) (A A':Option Addr) (m c m' c':Nat) :
  az n (((w.setCell ⟨b,i,none⟩ (.bool s)).setCell ⟨b,j,none⟩ (.slice A m c)).setCell ⟨b,k,none⟩ (.slice A' m' c')) (.agg #[x,y,z]) q:=by
 obtain ⟨xs,h1,hx⟩:=h.blk
 exact ((hv.setBlk h1 hx i _).setBlk (h1.set_ _ _) (cM hx _ (show dD (.bool s) from trivial)) j _).setBlk ((h1.set_ _ _).set_ _ _) (cM (cM hx _ (show dD (.bool s) from trivial)) _ (show dD (.slice A m c) from trivial)) k _
theorem d9.far3 {w:World} {g:Nat} {rs:List Rat} {mv:Value} {L:List (Int × Int)} (h:d9 w mv L)(hg:eA w g rs) (i j k:Nat) (u0 u1 u2:Value):d9 (((w.setCell ⟨g,i,none⟩ u0).setCell ⟨g,j,none⟩ u1).setCell ⟨g,k,none⟩ u2) mv L:=by
 obtain ⟨xs,h1,hx⟩:=hg.blk
 rcases h with ⟨e1,e2⟩ | ⟨b,e1,hm⟩
 ·exact .inl ⟨e1,e2⟩
 have hne:b ≠ g:=by
  intro e
  subst e
  have h2:=hm.1
  unfold bw at h1
  rw [h1] at h2
  cases h2
 exact .inr ⟨b,e1,((hm.far (p:=⟨g,i,none⟩) hne _).far (p:=⟨g,j,none⟩) hne _).far (p:=⟨g,k,none⟩) hne _⟩
theorem bw.far3 {w:World} {g B:Nat} {e:TypeId} {xs:List Value} (h:bw w g e xs)(hne:g ≠ B) (i j k:Nat) (u0 u1 u2:Value):bw (((w.setCell ⟨B,i,none⟩ u0).setCell ⟨B,j,none⟩ u1).setCell ⟨B,k,none⟩ u2) g e xs :=
 ((h.far (p:=⟨B,i,none⟩) hne _).far (p:=⟨B,j,none⟩) hne _).far (p:=⟨B,k,none⟩) hne _
end
def aM (k:Int) (a:Rat) (mix:List Rat) (O:Int):Bool :=
 if k = 1 then decide (0 < ce a) && ((mix.length:Int) == 0)
 else if k = 2 then (ce a == 0) && ((mix.length:Int) == O + 1) && cG mix && decide (0 < ce (mix.getD 0 0))
 else if k = 3 then !decide (0 <= ce (a - 1)) && (decide (0 < ce a) && ((mix.length:Int) == 0))
 else if k = 4 then (ce a == 0) && ((mix.length:Int) == 0) else false

theorem dq {w:World} {g:Nat} {e:TypeId} {a0 a1 a2 a3 a4 a5 a6 a7:Value} (h:bw w g e [a0,a1,a2,a3,a4,a5,a6,a7]) :
  w.cell? ⟨g,0,none⟩ = some a0/\w.cell? ⟨g,1,none⟩ = some a1/\w.cell? ⟨g,2,none⟩ = some a2/\w.cell? ⟨g,3,none⟩ = some a3/\w.cell? ⟨g,4,none⟩ = some a4/\w.cell? ⟨g,5,none⟩ = some a5/\w.cell? ⟨g,6,none⟩ = some a6/\w.cell? ⟨g,7,none⟩ = some a7 :=
 ⟨h.cell 0,h.cell 1,h.cell 2,h.cell 3,h.cell 4,h.cell 5,h.cell 6,h.cell 7⟩

def gL (O V:Int) (lv:Value) (k:Int) (s:Bool) (A A':Option Addr) (m c m' c':Nat) (mv:Value):Value:=.agg #[.int .i64 O,.int .i64 V,lv,.int .i64 k,.bool s,.slice A m c,.slice A' m' c',mv]

theorem bz.open_ {k:Nat} {w:World} {v:Value} {qs:List Rat} (h:bz k w v qs):∃ A c,v = .slice A qs.length c/\qs.length <= c/\c <= 9223372036854775807 /\
  ∀ j q,qs[j]? = some q->∃ b off c0 c1 c2,A = some ⟨b,off,none⟩/\b < w.heap.size/\w.cell? ⟨b,off + j * 3,none⟩ = some c0/\w.cell? ⟨b,off + j * 3 + 1,none⟩ = some c1/\w.cell? ⟨b,off + j * 3 + 2,none⟩ = some c2/\az k w (.agg #[c0,c1,c2]) q:=by
 obtain ⟨cells,h1,h2⟩:=h
 obtain ⟨h0,A,c,rfl,hc,hm,h5⟩:=h1
 refine ⟨A,c,rfl,hc,by unfold maxLen at hm; omega,fun j x hx=>?_⟩
 have hj:=(List.getElem?_eq_some_iff.1 hx).1
 obtain ⟨b,off,e,hlt,hcell⟩:=h5 (by omega)
 obtain ⟨c0,c1,c2,e0,e1,e2,hf⟩:=h2 j x hx
 exact ⟨b,off,c0,c1,c2,e,hlt,hcell _ _ e0,by have:=hcell _ _ e1; rwa [<- Nat.add_assoc] at this,by have:=hcell _ _ e2; rwa [<- Nat.add_assoc] at this,hf⟩

theorem KK (w:World) (O V:Int) (lv:Value) (k:Int) (s:Bool) (A A':Option Addr) (m c m' c':Nat) (mv:Value) (a:Rat) (mix:List Rat)(ha:az 64 w (.agg #[.bool s,.slice A m c,.slice A' m' c']) a)(hm:bz 64 w mv mix)(hl:mix.length <= 1000000)(hO:1 <= O/\O <= 4) (Al:Option Addr) (nl cl:Nat)(hlv:lv = .slice Al nl cl) :
  Calls Tryz.prog 169 #[gL O V lv k s A A' m c m' c' mv] w fun e w'=>e = .returned (.bool (aM k a mix O))/\Below w.heap.size w w':=by
 subst hlv
 obtain ⟨Am,cm,rfl,hmc,hcm,hat⟩:=hm.open_
 have HM:=Lib.hid hm
 have HA:=Lib.hid ha
 have HAT:=Lib.hid hat
 have QA:=Lib.hid (ha.qb (by omega))
 clear hm ha hat
 obtain ⟨ml,hml⟩:∃ n,mix.length = n:=⟨_,rfl⟩
 have HMF:Hid (bz 64 w (.slice Am ml cm) mix):=Lib.hid (by rw [<- hml]; exact HM.out)
 rw [hml] at hmc hl ⊢
 have HML:=Lib.hid hml
 clear hml HM
 unfold gL
 go_enter Tryz.func169,Tryz.ntmps169
 go_wp2_with fail
 obtain ⟨W,hW,P0,PB,Phs⟩:=eU w 33 [.int .i64 O,.int .i64 V,.slice Al nl cl,.int .i64 k,.bool s,.slice A m c,.slice A' m' c',.slice Am ml cm]
 rw [<- hW]
 clear hW
 obtain ⟨p0,p1,p2,p3,p4,p5,p6,p7⟩:=dq P0.out
 refine (NX W 1 (by omega) (by omega)).mono ?_
 rintro e w1 ⟨u1,rfl,t1,hb1⟩
 obtain ⟨un,hun⟩:∃ x:Rat,((1:Int):Rat) = x:=⟨_,rfl⟩
 rw [hun] at t1
 have HUN:Hid (un = 1):=Lib.hid (by rw [<- hun]; rfl)
 clear hun
 obtain ⟨Ao,mo,co,Ao',mo',co',rfl⟩:=t1.at_.open_
 have T1:=Lib.hid t1
 have P1:=Lib.hid (P0.out.below' hb1)
 have B1:=Lib.hid (PB.out.trans (hb1.mono PB.out.size))
 clear p0 p1 p2 p3 p4 p5 p6 p7 t1 hb1 P0 PB
 obtain ⟨p0,p1,p2,p3,p4,p5,p6,p7⟩:=dq P1.out
 have s1:w.heap.size < w1.heap.size:=P1.out.lt
 go_wp2_with fail
 obtain ⟨W2,hW2,G0,GB,Ghs⟩:=eU w1 30 [.bool (ap un),.slice Ao mo co,.slice Ao' mo' co']
 rw [<- hW2]
 clear hW2
 refine (Av W2 _ a 64 ((HA.out.below B1.out).below GB.out) (by omega) (by omega)).mono ?_
 rintro e w3 ⟨rfl,hb3⟩
 have G3:Hid (dR w3 w1.heap.size un):=Lib.hid ((dR.of G0.out (T1.out.at_.below GB.out)).below hb3)
 have P3:=Lib.hid ((P1.out.below' GB.out).below' hb3)
 have B3:=Lib.hid ((B1.out.trans (GB.out.mono B1.out.size)).trans (hb3.mono (by have:=B1.out.size; omega)))
 obtain ⟨sg,hsg⟩:∃ z,ce a = z:=⟨_,rfl⟩
 rw [hsg]
 have HSG:=Lib.hid hsg
 clear p0 p1 p2 p3 p4 p5 p6 p7 hb3 G0 GB B1 P1 hsg
 obtain ⟨p0,p1,p2,p3,p4,p5,p6,p7⟩:=dq P3.out
 by_cases h1:k = 1
 ·subst h1
  obtain ⟨b1,hb1⟩:∃ b,decide (0 < sg) = b:=⟨_,rfl⟩
  obtain ⟨b2,hb2⟩:∃ b,((ml:Int) == 0) = b:=⟨_,rfl⟩
  have HE:Hid (aM 1 a mix O = (b1 && b2)):=Lib.hid (by
   unfold aM
   rw [if_pos rfl,HSG.out,HML.out,hb1,hb2])
  cases b1 <;> cases b2
  all_goals
   go_wp2_with fail
   go_ret
   exact ⟨aD HE.out.symm,B3.out⟩
 have n1:(k == 1) = false:=by simpa using h1
 by_cases h2:k = 2
 ·subst h2
  clear n1 h1
  obtain ⟨b1,hb1⟩:∃ b,(sg == 0) = b:=⟨_,rfl⟩
  obtain ⟨b2,hb2⟩:∃ b,((ml:Int) == O + 1) = b:=⟨_,rfl⟩
  obtain ⟨b3,hb3⟩:∃ b,cG mix = b:=⟨_,rfl⟩
  obtain ⟨s0,hs0⟩:∃ z,ce (mix.getD 0 0) = z:=⟨_,rfl⟩
  have HE:Hid (aM 2 a mix O = (b1 && b2 && b3 && decide (0 < s0))):=Lib.hid (by
   unfold aM
   rw [if_neg (by decide),if_pos rfl,HSG.out,HML.out,hb1,hb2,hb3,hs0])
  have HB3:=Lib.hid hb3
  have HS0:=Lib.hid hs0
  clear hb3 hs0
  cases b1
  ·simp only [Bool.false_and] at HE
   go_wp2_with fail
   go_ret
   exact ⟨aD HE.out.symm,B3.out⟩
  cases b2
  ·simp only [Bool.false_and,Bool.and_false] at HE
   go_wp2_with fail
   go_ret
   exact ⟨aD HE.out.symm,B3.out⟩
  have hpos:0 < ml:=by
   have:(ml:Int) = O + 1:=by simpa using hb2
   omega
  obtain ⟨x,hx⟩:∃ x,mix[0]? = some x:=⟨_,List.getElem?_eq_getElem (by rw [HML.out]; exact hpos)⟩
  obtain ⟨bm,om,c0,c1,c2,rfl,hbm,e0,e1,e2,hf⟩:=HAT.out 0 x hx
  have HX:Hid (ce x = s0):=Lib.hid (by rw [<- HS0.out,List.getD_eq_getElem?_getD,hx]; rfl)
  have HF:=Lib.hid hf
  clear hx hf
  rw [Nat.zero_mul,Nat.add_zero] at e0 e1 e2
  rw [Nat.add_zero] at e1 e2
  obtain ⟨sx,A1,n1,k1,A2,n2,k2,rfl,rfl,rfl⟩:=HF.out.cells3
  go_wp2_with fail
  refine (lX w3 64 _ mix (HMF.out.below B3.out) (by omega) (by rw [HML.out]; omega)).mono ?_
  rintro e w4 ⟨rfl,hb4⟩
  rw [HB3.out]
  have P4:=Lib.hid (P3.out.below' hb4)
  have B4:=Lib.hid (B3.out.trans (hb4.mono B3.out.size))
  have f0:=(B4.out.cell (p:=⟨bm,om,none⟩) hbm).trans e0
  have f1:=(B4.out.cell (p:=⟨bm,om + 1,none⟩) hbm).trans e1
  have f2:=(B4.out.cell (p:=⟨bm,om + 2,none⟩) hbm).trans e2
  clear p0 p1 p2 p3 p4 p5 p6 p7 hb4 P3 e0 e1 e2
  obtain ⟨p0,p1,p2,p3,p4,p5,p6,p7⟩:=dq P4.out
  cases b3
  ·simp only [Bool.false_and,Bool.and_false] at HE
   go_wp2_with fail
   go_ret
   exact ⟨aD HE.out.symm,B4.out⟩
  simp only [Bool.true_and] at HE
  go_wp2_with fail
  refine (Av w4 _ x 64 (HF.out.below B4.out) (by omega) (by omega)).mono ?_
  rintro e w5 ⟨rfl,hb5⟩
  rw [HX.out]
  have B5:=Lib.hid (B4.out.trans (hb5.mono B4.out.size))
  clear hb5
  go_wp2_with fail
  go_ret
  exact ⟨aD HE.out.symm,B5.out⟩
 have n2:(k == 2) = false:=by simpa using h2
 by_cases h3:k = 3
 ·subst h3
  clear n1 n2 h1 h2
  obtain ⟨Ax,mx,cx,Ax',mx',cx',x0,x1,x2,_,_,_,tx⟩:=G3.out.get
  have TX:=Lib.hid (tx.frac (k:=64) ((by rw [HUN.out]; exact eX (n:=1) (k:=64) (by omega) (by omega))) (by omega))
  clear tx
  obtain ⟨cv,hcv⟩:∃ z,ce (a - un) = z:=⟨_,rfl⟩
  obtain ⟨b0,hb0⟩:∃ b,decide (0 <= cv) = b:=⟨_,rfl⟩
  obtain ⟨b1,hb1⟩:∃ b,decide (0 < sg) = b:=⟨_,rfl⟩
  obtain ⟨b2,hb2⟩:∃ b,((ml:Int) == 0) = b:=⟨_,rfl⟩
  have HE:Hid (aM 3 a mix O = (!b0 && (b1 && b2))):=Lib.hid (by
   unfold aM
   rw [if_neg (by decide),if_neg (by decide),if_pos rfl,HSG.out,HML.out,<- HUN.out,hcv,hb0,hb1,hb2])
  have HCV:=Lib.hid hcv
  clear hcv
  go_wp2_with fail
  refine (LH w3 _ _ a un 64 (HA.out.below B3.out) TX.out (by omega) (by omega)).mono ?_
  rintro e w4 ⟨rfl,hb4⟩
  rw [HCV.out]
  have P4:=Lib.hid (P3.out.below' hb4)
  have B4:=Lib.hid (B3.out.trans (hb4.mono B3.out.size))
  clear p0 p1 p2 p3 p4 p5 p6 p7 x0 x1 x2 hb4 P3
  obtain ⟨p0,p1,p2,p3,p4,p5,p6,p7⟩:=dq P4.out
  cases b0
  ·cases b1 <;> cases b2
   all_goals
    go_wp2_with fail
    go_ret
    exact ⟨aD HE.out.symm,B4.out⟩
  simp only [Bool.not_true,Bool.false_and] at HE
  go_wp2_with fail
  go_ret
  exact ⟨aD HE.out.symm,B4.out⟩
 have n3:(k == 3) = false:=by simpa using h3
 by_cases h4:k = 4
 ·subst h4
  clear n1 n2 n3 h1 h2 h3
  obtain ⟨b1,hb1⟩:∃ b,(sg == 0) = b:=⟨_,rfl⟩
  obtain ⟨b2,hb2⟩:∃ b,((ml:Int) == 0) = b:=⟨_,rfl⟩
  have HE:Hid (aM 4 a mix O = (b1 && b2)):=Lib.hid (by
   unfold aM
   rw [if_neg (by decide),if_neg (by decide),if_neg (by decide),if_pos rfl,HSG.out,HML.out,hb1,hb2])
  cases b1 <;> cases b2
  all_goals
   go_wp2_with fail
   go_ret
   exact ⟨aD HE.out.symm,B3.out⟩
 have n4:(k == 4) = false:=by simpa using h4
 have HE:Hid (aM k a mix O = false):=Lib.hid (by
  unfold aM
  rw [if_neg h1,if_neg h2,if_neg h3,if_neg h4])
 clear h1 h2 h3 h4
 go_wp2_with fail
 go_ret
 exact ⟨aD HE.out.symm,B3.out⟩
theorem ru {w:World} {g:Nat} {e:TypeId} {a b c d f:Value} (h:bw w g e [a,b,c,d,f]) :
  w.cell? ⟨g,0,none⟩ = some a/\w.cell? ⟨g,1,none⟩ = some b/\w.cell? ⟨g,2,none⟩ = some c/\w.cell? ⟨g,3,none⟩ = some d/\w.cell? ⟨g,4,none⟩ = some f :=
 ⟨h.cell 0,h.cell 1,h.cell 2,h.cell 3,h.cell 4⟩
theorem CY {w:World} {g B:Nat} {a b c d f:Value}
  (h:w.cell? ⟨g,0,none⟩ = some a/\w.cell? ⟨g,1,none⟩ = some b/\w.cell? ⟨g,2,none⟩ = some c/\w.cell? ⟨g,3,none⟩ = some d/\w.cell? ⟨g,4,none⟩ = some f)(hg:g ≠ B) (u0 u1 u2:Value) :
  (((w.setCell ⟨B,0,none⟩ u0).setCell ⟨B,1,none⟩ u1).setCell ⟨B,2,none⟩ u2).cell? ⟨g,0,none⟩ = some a/\(((w.setCell ⟨B,0,none⟩ u0).setCell ⟨B,1,none⟩ u1).setCell ⟨B,2,none⟩ u2).cell? ⟨g,1,none⟩ = some b/\(((w.setCell ⟨B,0,none⟩ u0).setCell ⟨B,1,none⟩ u1).setCell ⟨B,2,none⟩ u2).cell? ⟨g,2,none⟩ = some c/\(((w.setCell ⟨B,0,none⟩ u0).setCell ⟨B,1,none⟩ u1).setCell ⟨B,2,none⟩ u2).cell? ⟨g,3,none⟩ = some d/\(((w.setCell ⟨B,0,none⟩ u0).setCell ⟨B,1,none⟩ u1).setCell ⟨B,2,none⟩ u2).cell? ⟨g,4,none⟩ = some f :=
 ⟨cz h.1 hg _ _ _,cz h.2.1 hg _ _ _,cz h.2.2.1 hg _ _ _,cz h.2.2.2.1 hg _ _ _,cz h.2.2.2.2 hg _ _ _⟩

theorem gR {w:World} {p:Addr} {x:Value} (h:w.cell? p = some x) (o:Obj):(w.alloc o).cell? p = some x:=by
 have hlt:p.block < w.heap.size:=by
  unfold World.cell? at h
  split at h
  ·next he=>exact (Array.getElem?_eq_some_iff.1 he).1
  cases h
 exact ((bh w o).cell hlt).trans h
theorem zh {w:World} {g:Nat} {a b c d f:Value}
  (h:w.cell? ⟨g,0,none⟩ = some a/\w.cell? ⟨g,1,none⟩ = some b/\w.cell? ⟨g,2,none⟩ = some c/\w.cell? ⟨g,3,none⟩ = some d/\w.cell? ⟨g,4,none⟩ = some f) (o:Obj) :
  (w.alloc o).cell? ⟨g,0,none⟩ = some a/\(w.alloc o).cell? ⟨g,1,none⟩ = some b/\(w.alloc o).cell? ⟨g,2,none⟩ = some c/\(w.alloc o).cell? ⟨g,3,none⟩ = some d/\(w.alloc o).cell? ⟨g,4,none⟩ = some f :=
 ⟨gR h.1 o,gR h.2.1 o,gR h.2.2.1 o,gR h.2.2.2.1 o,gR h.2.2.2.2 o⟩
def rR (C:Int->Int) (v:Nat) (a:Rat):List Rat:=(List.range (v + 1)).map fun (x:Nat)=>((C x:Rat) + a) / ((pI C v:Rat) + a * ((v + 1:Nat):Rat))

theorem Ma (w:World) (O n:Nat) (b v:Nat)(hv:Value) (gs:List Gr)(h:List Int) (s:Bool) (A A':Option Addr) (m c m' c':Nat) (a:Rat)(hL:gc w b O 0 gs)(hn:1 <= n/\n <= O)(hO:O <= 4)(hi:aU w hv h)(hl:h.length = n - 1)(hk:fC h)(ha:az 64 w (.agg #[.bool s,.slice A m c,.slice A' m' c']) a)(ha0:0 < a) (hv':v <= 8)
  (hg:∀ g ∈ gs,0 < g.2/\g.2 <= 1073741824)(hgl:gs.length <= 20000)(hw:∀ g ∈ gs,∀ x ∈ g.1,x <= (v:Int)) :
  Calls Tryz.prog 343 #[.agg #[.slice (some ⟨b,0,none⟩) (O + 1) (O + 1),.int .i64 ((v + 1:Nat):Int),.bool s,.slice A m c,.slice A' m' c'],.int .i64 n,hv] w fun e w'=>∃ b',e = .returned (.slice (some ⟨b',0,none⟩) (v + 1) (v + 1))/\w.heap.size <= b'/\eA w' b' (rR (fun x=>tot (O - n) gs (h ++ [x])) v a)/\Below w.heap.size w w':=by
 have HL:=Lib.hid hL
 have HI:=Lib.hid hi
 have HA:=Lib.hid ha
 have MC:=Lib.hid (Eh hg hgl (O - n) h)
 have KL:=Lib.hid (fun L=>Ls (L:=L) (d:=O - n) (h:=h) (fun g hh=>(hg g hh).1) hw)
 have QA:=Lib.hid (ha.qb (by omega))
 have PA:=Lib.hid ha0
 clear hL hi ha hg hgl hw ha0
 go_enter Tryz.func343,Tryz.ntmps343
 go_wp2_with fail
 obtain ⟨W,hW,P0,PB,Phs⟩:=eU w 360 [.slice (some ⟨b,0,none⟩) (O + 1) (O + 1),.int .i64 ((v:Int) + 1),.bool s,.slice A m c,.slice A' m' c']
 rw [<- hW]
 clear hW
 obtain ⟨p0,p1,p2,p3,p4⟩:=ru P0.out
 refine (MV W O n b _ hv gs h (HL.out.below PB.out) hn hO (HI.out.below PB.out) hl hk).mono ?_
 rintro e w1 ⟨mv,L,rfl,hsn,hcnt,hbd,hb1⟩
 have SN:=Lib.hid hsn
 have CN:=Lib.hid hcnt
 have P1:=Lib.hid (P0.out.below' hb1)
 have B1:=Lib.hid (PB.out.trans (hb1.mono (by omega)))
 have s1:w.heap.size + 1 <= w1.heap.size:=Nat.le_trans Phs hb1.size
 obtain ⟨N,hN⟩:∃ N:Int,iT L = N:=⟨_,rfl⟩
 have HN:=Lib.hid ((Hl hcnt (KL.out L hcnt)).symm.trans hN)
 rw [hN]
 have hbs:=Aj MC.out v
 rw [HN.out] at hbs
 have hN0:0 <= N:=hbs.1
 have hN1:N < 9223372036854775808:=by omega
 have QS:=Lib.hid (MC.out.qbsum hv')
 rw [HN.out] at QS
 have QW:Hid (QB 64 (((v:Int) + 1:Int):Rat)):=Lib.hid (yS (by omega) (by omega))
 obtain ⟨X3,hX3⟩:∃ x,a * (((v:Int) + 1:Int):Rat) = x:=⟨_,rfl⟩
 obtain ⟨X4,hX4⟩:∃ x,(N:Rat) + X3 = x:=⟨_,rfl⟩
 have Q3:Hid (QB 128 X3):=Lib.hid (by rw [<- hX3]; exact QA.out.mul QW.out)
 have Q4:Hid (QB 193 X4):=Lib.hid (by rw [<- hX4]; exact QS.out.add Q3.out)
 have P4:Hid (X4 ≠ 0):=Lib.hid (by
  have h1:0 < X3:=by rw [<- hX3]; exact Rat.mul_pos PA.out (by exact_mod_cast (show (0:Int) < (v:Int) + 1 by omega))
  have h2:(0:Rat) <= (N:Rat):=by exact_mod_cast hN0
  have h3:=(Rat.add_lt_add_left (c:=(N:Rat))).2 h1
  rw [Rat.add_zero,hX4] at h3
  exact fun e=>by rw [e] at h3; exact absurd (Std.lt_of_le_of_lt h2 h3) Rat.lt_irrefl)
 have HX3:=Lib.hid hX3
 have HX4:=Lib.hid hX4
 clear hX3 hX4
 clear p0 p1 p2 p3 p4 hsn hcnt hb1 hN hbd hbs
 obtain ⟨p0,p1,p2,p3,p4⟩:=ru P1.out
 go_wp2_with (at_make; refine mM rfl _ _ rfl ((v:Int) + 1) (v + 1) rfl rfl (by omega) (by omega) ?_)
 intro w2 hf2 hb2
 have F2:=Lib.hid hf2.arc
 have P2:=Lib.hid (P1.out.below' hb2)
 have B2:=Lib.hid (B1.out.trans (hb2.mono (by omega)))
 have SN2:=Lib.hid (SN.out.below hb2)
 have HA2:=Lib.hid ((HA.out.below B2.out).mono (show 64 <= 1000 by omega))
 have s2:w1.heap.size < w2.heap.size:=F2.out.lt
 clear p0 p1 p2 p3 p4 hf2 hb2 SN P1 P0 PB Phs HL HI HA
 have hS:=ru P2.out
 go_upto_region 3 with fail
 go_cut [10] (fun p wc=>∃ bp,p = .pointer (some ⟨bp,0,none⟩)/\Hid (w2.heap.size <= bp)/\Hid (dR wc bp X4)/\Hid (Below w2.heap.size w2 wc))
 case first =>
  have BB:=Lib.hid (Below.refl w2.heap.size w2)
  go_region_held3 (fun w'=>w'.cell? ⟨w.heap.size,0,none⟩ = some (.slice (some ⟨b,0,none⟩) (O + 1) (O + 1))/\w'.cell? ⟨w.heap.size,1,none⟩ = some (.int .i64 ((v:Int) + 1))/\w'.cell? ⟨w.heap.size,2,none⟩ = some (.bool s)/\w'.cell? ⟨w.heap.size,3,none⟩ = some (.slice A m c)/\w'.cell? ⟨w.heap.size,4,none⟩ = some (.slice A' m' c'))
   (first | assumption | exact zh hS _ | (refine CY hS ?_ _ _ _ <;> omega) | go_keep)
   (first
    | (go_at_call_of 40 (Value.int .i64 N); refine (NX _ N hN0 hN1).mono ?_; rintro e wl ⟨u1,rfl,t,hb⟩; have hb0:=hb; (first | replace hb:=aX hb | replace hb:=ci hb | replace hb:=ah hb | skip); (try (first | replace AB:=Lib.hid (AB.out.below' hb) | replace AB:=Lib.hid (AB.out.below hb))); (first | have AB:=Lib.hid ((dR.zero _).below hb0) | have AB:=Lib.hid ((dR.zero _).below (ah hb0)) | skip); replace BB:=Lib.hid (BB.out.trans (hb.mono BB.out.size)); have hs:=BB.out.size; clear hb0; have T1:=Lib.hid (t.at_.frac (k:=1000) (QS.out.mono (by omega)) (by omega)); have hS:=ru (P2.out.below' BB.out); clear t hb)
    | (go_at_call 40; (refine (NX _ ((v:Int) + 1) (by omega) (by omega)).mono ?_; rintro e wl ⟨u2,rfl,t,hb⟩; have hb0:=hb; (first | replace hb:=aX hb | replace hb:=ci hb | replace hb:=ah hb | skip); (try (first | replace AB:=Lib.hid (AB.out.below' hb) | replace AB:=Lib.hid (AB.out.below hb))); (try (first | replace T1:=Lib.hid (T1.out.below' hb) | replace T1:=Lib.hid (T1.out.below hb))); (first | have AB:=Lib.hid ((dR.zero _).below hb0) | have AB:=Lib.hid ((dR.zero _).below (ah hb0)) | skip); replace BB:=Lib.hid (BB.out.trans (hb.mono BB.out.size)); have hs:=BB.out.size; clear hb0; have T2:=Lib.hid (t.at_.frac (k:=1000) (QW.out.mono (by omega)) (by omega)); have hS:=ru (P2.out.below' BB.out); have HA3:=Lib.hid (HA2.out.below BB.out); clear t hb))
    | (go_at_call 42; refine (Nf _ _ _ a (((v:Int) + 1:Int):Rat) 1000 ?_ ?_ (by omega) (by omega)).mono ?_; (first | exact HA3.out | exact HA3.out.below (ak _) | exact HA3.out.below (bh _ _) | exact HA3.out.below (below_alloc_drew _ _)); (first | exact T2.out | exact T2.out.below (ak _) | exact T2.out.below (bh _ _) | exact T2.out.below (below_alloc_drew _ _)); rintro e wl ⟨u3,rfl,t,hb⟩; rw [HX3.out] at t; have hb0:=hb; (first | replace hb:=aX hb | replace hb:=ci hb | replace hb:=ah hb | skip); (try (first | replace AB:=Lib.hid (AB.out.below' hb) | replace AB:=Lib.hid (AB.out.below hb))); (try (first | replace T1:=Lib.hid (T1.out.below' hb) | replace T1:=Lib.hid (T1.out.below hb))); (first | have AB:=Lib.hid ((dR.zero _).below hb0) | have AB:=Lib.hid ((dR.zero _).below (ah hb0)) | skip); replace BB:=Lib.hid (BB.out.trans (hb.mono BB.out.size)); have hs:=BB.out.size; clear hb0; have T3:=Lib.hid (t.at_.frac (k:=1000) (Q3.out.mono (by omega)) (by omega)); have hS:=ru (P2.out.below' BB.out); clear t hb)
    | (go_at_call 48; refine (Md _ _ _ (N:Rat) X3 1000 ?_ ?_ (by omega) (by omega)).mono ?_; (first | exact T1.out | exact T1.out.below (ak _) | exact T1.out.below (bh _ _) | exact T1.out.below (below_alloc_drew _ _)); (first | exact T3.out | exact T3.out.below (ak _) | exact T3.out.below (bh _ _) | exact T3.out.below (below_alloc_drew _ _)); rintro e wl ⟨u4,rfl,t,hb⟩; rw [HX4.out] at t; have hb0:=hb; (first | replace hb:=aX hb | replace hb:=ci hb | replace hb:=ah hb | skip); (try (first | replace AB:=Lib.hid (AB.out.below' hb) | replace AB:=Lib.hid (AB.out.below hb))); (first | have AB:=Lib.hid ((dR.zero _).below hb0) | have AB:=Lib.hid ((dR.zero _).below (ah hb0)) | skip); replace BB:=Lib.hid (BB.out.trans (hb.mono BB.out.size)); have hs:=BB.out.size; clear hb0; obtain ⟨Ar,mr,cr,Ar',mr',cr',rfl⟩:=t.at_.open_; have T4:=Lib.hid t.at_; (try (obtain ⟨_,_,_,_,_,_,ab0,ab1,ab2,az0,az1,az2,_⟩:=AB.out.get)); have hS:=ru (P2.out.below' BB.out); clear t hb))
  all_goals
   go_wp2_with fail
   go_meet
   first
    | exact ⟨_,rfl,Lib.hid (by omega),Lib.hid (dR.new T4.out),Lib.hid (BB.out.alloc BB.out.size _)⟩
    | exact ⟨_,rfl,Lib.hid (by omega),Lib.hid (AB.out.put rfl T4.out),Lib.hid (Gl BB.out (by omega) _ _ _ _ _ _)⟩
 obtain ⟨bp,rfl,hbp,BX,B3⟩:=hcut
 have s3:=hbp.out
 have P3:=Lib.hid (P2.out.below' B3.out)
 have F3:=Lib.hid (F2.out.below B3.out)
 have SN3:=Lib.hid (SN2.out.below B3.out)
 have HA3:=Lib.hid (HA2.out.below B3.out)
 have BL3:=Lib.hid (B2.out.trans (B3.out.mono (by omega)))
 obtain ⟨cw,hcw⟩:∃ C:Nat->Rat,C = fun (x:Nat)=>(((tot (O - n) gs (h ++ [(x:Int)]):Int):Rat) + a) / X4:=⟨_,rfl⟩
 have CW:=Lib.hid hcw
 clear hS hcw hbp P2 F2 SN2 HA2 B2 B3
 go_wp2_with fail
 go_loopg [11,36] (v + 1) (fun gh _ i wz=>∃ (j:Nat),i = .int .i64 j/\j + gh = v + 1/\Hid (eA wz w1.heap.size ((List.range j).map cw ++ List.replicate gh 0))/\Hid (bw wz w.heap.size 360 [.slice (some ⟨b,0,none⟩) (O + 1) (O + 1),.int .i64 ((v:Int) + 1),.bool s,.slice A m c,.slice A' m' c'])/\Hid (d9 wz mv L)/\Hid (az 1000 wz (.agg #[.bool s,.slice A m c,.slice A' m' c']) a)/\Hid (dR wz bp X4)/\Hid (Below w.heap.size w wz))
 case atStart=>exact ⟨0,rfl,by omega,Lib.hid (by simpa using F3.out),P3,SN3,HA3,BX,BL3⟩
 clear P3 F3 SN3 HA3 BX BL3
 obtain ⟨j,rfl,hj,F3,P3,SN3,HA3,BX,BL3⟩:=hrel
 rcases Nat.eq_zero_or_pos gk with hh | hh
 ·subst hh
  obtain rfl:j = v + 1:=by omega
  go_wp2_with fail
  go_ret
  exact ⟨_,rfl,by omega,by
   have h1:=F3.out
   have h2:(N:Rat) + a * ((v + 1:Nat):Rat) = X4:=by
    rw [<- HX4.out,<- HX3.out,show ((v + 1:Nat):Rat) = (((v:Int) + 1:Int):Rat) from (Rat.intCast_natCast (v + 1)).symm]
   rw [List.replicate_zero,List.append_nil,CW.out] at h1
   unfold rR
   rw [HN.out,h2]
   exact h1,BL3.out⟩
 obtain ⟨gh,rfl⟩:∃ g,gk = g + 1:=⟨gk - 1,by omega⟩
 obtain ⟨cj,hcj⟩:∃ c,tot (O - n) gs (h ++ [(j:Int)]) = c:=⟨_,rfl⟩
 have hm:=MC.out (j:Int)
 have QC:=Lib.hid (MC.out.qb (j:Int))
 have hlk:=SN3.out.look CN.out (x:=(j:Int)) (by omega)
 simp only [hcj] at hm QC hlk
 have HCJ:=Lib.hid hcj
 clear hcj
 obtain ⟨X5,hX5⟩:∃ x,(cj:Rat) + a = x:=⟨_,rfl⟩
 have Q5:Hid (QB 129 X5):=Lib.hid (by rw [<- hX5]; exact QC.out.add QA.out)
 have HX5:=Lib.hid hX5
 clear hX5
 obtain ⟨Ax,mx,cx,Ax',mx',cx',x0,x1,x2,_,_,_,tx⟩:=BX.out.get
 have TX:=Lib.hid (tx.frac (k:=1000) (Q4.out.mono (by omega)) (by omega))
 have LK:Hid (∀ w',d9 w' mv L->(Instr.lookup 402 mv (.int .i64 (j:Int)) false).run Tryz.prog w' = .ok (.int .i64 cj) w'):=Lib.hid (fun w' hw'=>by
  have:=hw'.look CN.out (x:=(j:Int)) (by omega)
  simp only [HCJ.out] at this
  exact this)
 have hbx:=BX.out.lt
 have hwl:w1.heap.size < wr.heap.size:=F3.out.lt
 have BB:=Lib.hid (Below.refl wr.heap.size wr)
 have X0:=Lib.hid x0
 have X1:=Lib.hid x1
 have X2:=Lib.hid x2
 clear x0 x1 x2 tx hlk
 have q5:=ru P3.out
 have hS:=And.intro q5.2.2.1 (And.intro q5.2.2.2.1 (And.intro q5.2.2.2.2 (And.intro X0.out (And.intro X1.out (And.intro X2.out (LK.out wr SN3.out))))))
 clear q5
 have j1:(0:Int) <= (j:Int):=by omega
 have j2:(j:Int) < (v:Int) + 1:=by omega
 go_wp2_with fail
 go_region_held3 (fun w'=>w'.cell? ⟨w.heap.size,2,none⟩ = some (.bool s)/\w'.cell? ⟨w.heap.size,3,none⟩ = some (.slice A m c)/\w'.cell? ⟨w.heap.size,4,none⟩ = some (.slice A' m' c')/\w'.cell? ⟨bp,0,none⟩ = some (.bool (ap X4))/\w'.cell? ⟨bp,1,none⟩ = some (.slice Ax mx cx)/\w'.cell? ⟨bp,2,none⟩ = some (.slice Ax' mx' cx')/\(Instr.lookup 402 mv (.int .i64 (j:Int)) false).run Tryz.prog w' = .ok (.int .i64 cj) w')
  (first | assumption | exact ⟨ue hS.1 (show w.heap.size ≠ w1.heap.size by omega) _ _ _ _ _ _,ue hS.2.1 (show w.heap.size ≠ w1.heap.size by omega) _ _ _ _ _ _,ue hS.2.2.1 (show w.heap.size ≠ w1.heap.size by omega) _ _ _ _ _ _,ue hS.2.2.2.1 (show bp ≠ w1.heap.size by omega) _ _ _ _ _ _,ue hS.2.2.2.2.1 (show bp ≠ w1.heap.size by omega) _ _ _ _ _ _,ue hS.2.2.2.2.2.1 (show bp ≠ w1.heap.size by omega) _ _ _ _ _ _,LK.out _ ((SN3.out.below BB.out).far3 (F3.out.below BB.out) _ _ _ _ _ _)⟩ | (refine ⟨?_,?_,?_,?_,?_,?_,?_⟩ <;> first | assumption | exact LK.out _ (d9.drew SN3.out) | go_keep))
  (first
   | (go_at_call 40; refine (NX _ cj (by omega) (by omega)).mono ?_; rintro e wl ⟨u1,rfl,t,hb⟩; have hb0:=hb; (first | replace hb:=aX hb | replace hb:=ci hb | replace hb:=ah hb | skip); (try (first | replace AB:=Lib.hid (AB.out.below' hb) | replace AB:=Lib.hid (AB.out.below hb))); (first | have AB:=Lib.hid ((dR.zero _).below hb0) | have AB:=Lib.hid ((dR.zero _).below (ah hb0)) | skip); replace BB:=Lib.hid (BB.out.trans (hb.mono BB.out.size)); have hs:=BB.out.size; clear hb0; have T1:=Lib.hid (t.at_.frac (k:=1000) (QC.out.mono (by omega)) (by omega)); have q5:=ru (P3.out.below' BB.out); have hS:=And.intro q5.2.2.1 (And.intro q5.2.2.2.1 (And.intro q5.2.2.2.2 (And.intro ((BB.out.cell (p:=⟨bp,0,none⟩) hbx).trans X0.out) (And.intro ((BB.out.cell (p:=⟨bp,1,none⟩) hbx).trans X1.out) (And.intro ((BB.out.cell (p:=⟨bp,2,none⟩) hbx).trans X2.out) (LK.out _ (SN3.out.below BB.out))))))); clear t hb q5)
   | (go_at_call 48; refine (Md _ _ _ (cj:Rat) a 1000 ?_ ?_ (by omega) (by omega)).mono ?_; (first | exact T1.out | exact T1.out.below (ak _) | exact T1.out.below (bh _ _) | exact T1.out.below (below_alloc_drew _ _)); (exact HA3.out.below BB.out); rintro e wl ⟨u2,rfl,t,hb⟩; rw [HX5.out] at t; have hb0:=hb; (first | replace hb:=aX hb | replace hb:=ci hb | replace hb:=ah hb | skip); (try (first | replace AB:=Lib.hid (AB.out.below' hb) | replace AB:=Lib.hid (AB.out.below hb))); (first | have AB:=Lib.hid ((dR.zero _).below hb0) | have AB:=Lib.hid ((dR.zero _).below (ah hb0)) | skip); replace BB:=Lib.hid (BB.out.trans (hb.mono BB.out.size)); have hs:=BB.out.size; clear hb0; have T2:=Lib.hid (t.at_.frac (k:=1000) (Q5.out.mono (by omega)) (by omega)); have q5:=ru (P3.out.below' BB.out); have hS:=And.intro q5.2.2.1 (And.intro q5.2.2.2.1 (And.intro q5.2.2.2.2 (And.intro ((BB.out.cell (p:=⟨bp,0,none⟩) hbx).trans X0.out) (And.intro ((BB.out.cell (p:=⟨bp,1,none⟩) hbx).trans X1.out) (And.intro ((BB.out.cell (p:=⟨bp,2,none⟩) hbx).trans X2.out) (LK.out _ (SN3.out.below BB.out))))))); clear t hb q5)
   | (go_at_call 341; refine (M8 _ _ _ X5 X4 1000 ?_ ?_ (by omega) (by omega) P4.out).mono ?_; (first | exact T2.out | exact T2.out.below (ak _) | exact T2.out.below (bh _ _) | exact T2.out.below (below_alloc_drew _ _)); (exact TX.out.below BB.out); rintro e wl ⟨u3,rfl,t,hb⟩; have hb0:=hb; (first | replace hb:=aX hb | replace hb:=ci hb | replace hb:=ah hb | skip); (try (first | replace AB:=Lib.hid (AB.out.below' hb) | replace AB:=Lib.hid (AB.out.below hb))); (first | have AB:=Lib.hid ((dR.zero _).below hb0) | have AB:=Lib.hid ((dR.zero _).below (ah hb0)) | skip); replace BB:=Lib.hid (BB.out.trans (hb.mono BB.out.size)); have hs:=BB.out.size; clear hb0; obtain ⟨Ar,mr,cr,Ar',mr',cr',rfl⟩:=t.at_.open_; have T3:=Lib.hid t.at_; have q5:=ru (P3.out.below' BB.out); have hS:=And.intro q5.2.2.1 (And.intro q5.2.2.2.1 (And.intro q5.2.2.2.2 (And.intro ((BB.out.cell (p:=⟨bp,0,none⟩) hbx).trans X0.out) (And.intro ((BB.out.cell (p:=⟨bp,1,none⟩) hbx).trans X1.out) (And.intro ((BB.out.cell (p:=⟨bp,2,none⟩) hbx).trans X2.out) (LK.out _ (SN3.out.below BB.out))))))); obtain ⟨_,_,_,_,_,_,f0,f1,f2,y0,y1,y2,_⟩:=(F3.out.below BB.out).get (KS cw j gh); clear t hb q5))
 go_wp2_with fail
 go_roundg gh
 case measure=>omega
 case rel =>
  have F4:=F3.out.below BB.out
  exact ⟨j + 1,rfl,by omega,Lib.hid (by
   have:=F4.put (i:=j) (by simp) rfl T3.out
   rwa [EC cw j gh (by rw [CW.out]; simp only [HCJ.out,HX5.out])] at this),Lib.hid ((P3.out.below' BB.out).far3 (by omega) _ _ _ _ _ _),Lib.hid ((SN3.out.below BB.out).far3 F4 _ _ _ _ _ _),Lib.hid (F4.keepsF (HA3.out.below BB.out) _ _ _ _ _ _ _ _ _ _),Lib.hid (eA.far (BX.out.below BB.out) F4 (by omega) _ _ _ _ _ _ _ _ _ _),Lib.hid (Gl (BL3.out.trans (BB.out.mono BL3.out.size)) (by omega) _ _ _ _ _ _)⟩
def MJ (O:Nat) (gs:List Gr) (n:Nat)(h:List Int) (x:Int):Int:=tot (O - n) gs (h ++ [x])
def Mf (gs:List Gr) (v:Nat):Prop:=(∀ g ∈ gs,0 < g.2/\g.2 <= 1073741824)/\gs.length <= 20000/\(∀ g ∈ gs,∀ x ∈ g.1,x <= (v:Int))/\v <= 8
end Go.Proofs.YtkdhppimhdemjaaGreat

