/- Lemmas on the way: FArc, Va1. -/
import Derived.Test.YtdehimgccmbfkaaGreatT39
set_option linter.all false
set_option maxRecDepth 1000000
set_option maxHeartbeats 32000000
namespace Go.Proofs.YtdehimgccmbfkaaGreat
open Go.RowKit
section
theorem NatAt.offBlk {w:World} {v:Value} {n b:Nat} {e:TypeId} {xs:List Value} (h:NatAt w v n)(hb:Blk w b e xs)(hx:∀ x ∈ xs,NoDig x):Off v b:=by
 obtain ⟨l,h1,_⟩:=h
 exact h1.offBlk hb hx
theorem CanAt.putBlk {w:World} {v:Value} {q:Rat} {g:Nat} {e:TypeId} {xs:List Value} (h:CanAt w v q)(hb:Blk w g e xs)(hx:∀ x ∈ xs,NoDig x) (i:Nat) (u:Value):CanAt (w.setCell ⟨g,i,none⟩ u) v q:=by
 obtain ⟨vn,vd,e,h1,h2⟩:=h
 exact ⟨vn,vd,e,h1.setOff (p:=⟨g,i,none⟩) (h1.offBlk hb hx) u,h2.setOff (p:=⟨g,i,none⟩) (h2.offBlk hb hx) u⟩
theorem CanAt.put3 {w:World} {v:Value} {q:Rat} {b:Nat} {e:TypeId} {xs:List Value} (h:CanAt w v q)(hb:Blk w b e xs)(hx:∀ x ∈ xs,NoDig x) (i j k:Nat) (s:Bool) (A A':Option Addr) (m c m' c':Nat) :
  CanAt (((w.setCell ⟨b,i,none⟩ (.bool s)).setCell ⟨b,j,none⟩ (.slice A m c)).setCell ⟨b,k,none⟩ (.slice A' m' c')) v q :=
 ((h.putBlk hb hx i _).putBlk (hb.set_ _ _) (noDig_set hx _ (show NoDig (.bool s) from trivial)) j _).putBlk ((hb.set_ _ _).set_ _ _) (noDig_set (noDig_set hx _ (show NoDig (.bool s) from trivial)) _ (show NoDig (.slice A m c) from trivial)) k _
theorem CanAt.open_ {w:World} {v:Value} {q:Rat} (h:CanAt w v q):∃ A m c A' m' c',v = .agg #[.bool (isNeg q),.slice A m c,.slice A' m' c']:=by
 obtain ⟨vn,vd,rfl,h1,h2⟩:=h
 obtain ⟨_,⟨⟨_,A,c,rfl,_⟩,_⟩,_⟩:=h1
 obtain ⟨_,⟨⟨_,A',c',rfl,_⟩,_⟩,_⟩:=h2
 exact ⟨_,_,_,_,_,_,rfl⟩

def FArc (w:World) (b:Nat) (qs:List Rat):Prop:=∃ xs,Blk w b 31 xs/\xs.length = qs.length * 3/\(∀ x ∈ xs,NoDig x) /\
 ∀ (i:Nat) (q:Rat),qs[i]? = some q->∃ A m c A' m' c',xs[i * 3]? = some (.bool (isNeg q))/\xs[i * 3 + 1]? = some (.slice A m c)/\xs[i * 3 + 2]? = some (.slice A' m' c')/\CanAt w (.agg #[.bool (isNeg q),.slice A m c,.slice A' m' c']) q
section
variable {w w':World} {b:Nat} {qs:List Rat}
theorem FArr.arc {base:Nat} (h:FArr base w b qs):FArc w b qs:=by
 obtain ⟨_,xs,h1,h2,h3⟩:=h
 refine ⟨xs,h1,h2,fun x hx=>?_,fun i q hq=>?_⟩
 ·obtain ⟨j,hj⟩:=List.mem_iff_getElem?.1 hx
  have hjl:=(List.getElem?_eq_some_iff.1 hj).1
  obtain ⟨q,hq⟩:∃ q,qs[j / 3]? = some q:=⟨_,List.getElem?_eq_getElem (by omega)⟩
  obtain ⟨A,m,c,A',m',c',e0,e1,e2,_⟩:=h3 _ q hq
  have hm:j = j / 3 * 3 ∨ j = j / 3 * 3 + 1 ∨ j = j / 3 * 3 + 2:=by omega
  rcases hm with e | e | e
  ·rw [e,e0] at hj; cases hj; trivial
  ·rw [e,e1] at hj; cases hj; trivial
  rw [e,e2] at hj; cases hj; trivial
 obtain ⟨A,m,c,A',m',c',e0,e1,e2,e3⟩:=h3 i q hq
 exact ⟨A,m,c,A',m',c',e0,e1,e2,e3.at_⟩
theorem FArc.lt (h:FArc w b qs):b < w.heap.size:=by
 obtain ⟨xs,hb,_⟩:=h
 exact hb.lt
theorem FArc.below (h:FArc w b qs)(hb:Below w.heap.size w w'):FArc w' b qs:=by
 obtain ⟨xs,h1,h2,hx,h3⟩:=h
 refine ⟨xs,h1.below' hb,h2,hx,fun i q hq=>?_⟩
 obtain ⟨A,m,c,A',m',c',e0,e1,e2,e3⟩:=h3 i q hq
 exact ⟨A,m,c,A',m',c',e0,e1,e2,e3.below hb⟩
theorem FArc.get (h:FArc w b qs) {i:Nat} {q:Rat} (hq:qs[i]? = some q):∃ A m c A' m' c',w.cell? ⟨b,i * 3,none⟩ = some (.bool (isNeg q))/\w.cell? ⟨b,i * 3 + 1,none⟩ = some (.slice A m c)/\w.cell? ⟨b,i * 3 + 2,none⟩ = some (.slice A' m' c') /\
  w.frozen? ⟨b,i * 3,none⟩ = false/\w.frozen? ⟨b,i * 3 + 1,none⟩ = false/\w.frozen? ⟨b,i * 3 + 2,none⟩ = false/\CanAt w (.agg #[.bool (isNeg q),.slice A m c,.slice A' m' c']) q:=by
 obtain ⟨xs,h1,_,_,h3⟩:=h
 obtain ⟨A,m,c,A',m',c',e0,e1,e2,e3⟩:=h3 i q hq
 exact ⟨A,m,c,A',m',c',(h1.cell _).trans e0,(h1.cell _).trans e1,(h1.cell _).trans e2,h1.frozen _,h1.frozen _,h1.frozen _,e3⟩
theorem FArc.keeps (h:FArc w b qs) {v:Value} {q:Rat} (hv:CanAt w v q) (i j k:Nat) (s:Bool) (A A':Option Addr) (m c m' c':Nat) :
  CanAt (((w.setCell ⟨b,i,none⟩ (.bool s)).setCell ⟨b,j,none⟩ (.slice A m c)).setCell ⟨b,k,none⟩ (.slice A' m' c')) v q:=by
 obtain ⟨xs,h1,_,hx,_⟩:=h
 exact hv.put3 h1 hx i j k s A A' m c m' c'
theorem FArc.blk (h:FArc w b qs):∃ xs,Blk w b 31 xs/\∀ x ∈ xs,NoDig x:=by
 obtain ⟨xs,h1,_,hx,_⟩:=h
 exact ⟨xs,h1,hx⟩
theorem FArc.far1 (h:FArc w b qs) {g:Nat} {e:TypeId} {xs:List Value} (hb:Blk w g e xs)(hx:∀ x ∈ xs,NoDig x)(hne:b ≠ g) (i:Nat) (u:Value):FArc (w.setCell ⟨g,i,none⟩ u) b qs:=by
 obtain ⟨ys,g1,g2,gx,g3⟩:=h
 refine ⟨ys,g1.far (p:=⟨g,i,none⟩) hne u,g2,gx,fun j r hr=>?_⟩
 obtain ⟨A1,m1,c1,A1',m1',c1',e0,e1,e2,e3⟩:=g3 j r hr
 exact ⟨A1,m1,c1,A1',m1',c1',e0,e1,e2,e3.putBlk hb hx _ _⟩
theorem FArc.far {g:Nat} {rs:List Rat} (h:FArc w b qs)(hg:FArc w g rs)(hne:b ≠ g) (i j k:Nat) (s:Bool) (A A':Option Addr) (m c m' c':Nat) :
  FArc (((w.setCell ⟨g,i,none⟩ (.bool s)).setCell ⟨g,j,none⟩ (.slice A m c)).setCell ⟨g,k,none⟩ (.slice A' m' c')) b qs:=by
 obtain ⟨xs,h1,hx⟩:=hg.blk
 exact ((h.far1 h1 hx hne i _).far1 (h1.set_ _ _) (noDig_set hx _ (show NoDig (.bool s) from trivial)) hne j _).far1 ((h1.set_ _ _).set_ _ _) (noDig_set (noDig_set hx _ (show NoDig (.bool s) from trivial)) _ (show NoDig (.slice A m c) from trivial)) hne k _
theorem FArc.put (h:FArc w b qs) {i:Nat} (hi:i < qs.length) {q:Rat} {s:Bool} {A A':Option Addr} {m c m' c':Nat} (hs:s = isNeg q)(hq:CanAt w (.agg #[.bool s,.slice A m c,.slice A' m' c']) q) :
  FArc (((w.setCell ⟨b,i * 3,none⟩ (.bool s)).setCell ⟨b,i * 3 + 1,none⟩ (.slice A m c)).setCell ⟨b,i * 3 + 2,none⟩ (.slice A' m' c')) b (qs.set i q):=by
 subst hs
 obtain ⟨xs,h1,h2,hx,h3⟩:=h
 have hset:=((h1.set_ (i * 3) (.bool (isNeg q))).set_ (i * 3 + 1) (.slice A m c)).set_ (i * 3 + 2) (.slice A' m' c')
 have nd:=noDig_set (noDig_set (noDig_set hx (i * 3) (show NoDig (.bool (isNeg q)) from trivial)) (i * 3 + 1) (show NoDig (.slice A m c) from trivial)) (i * 3 + 2) (show NoDig (.slice A' m' c') from trivial)
 have keep:∀ {v r},CanAt w v r->CanAt (((w.setCell ⟨b,i * 3,none⟩ (.bool (isNeg q))).setCell ⟨b,i * 3 + 1,none⟩ (.slice A m c)).setCell ⟨b,i * 3 + 2,none⟩ (.slice A' m' c')) v r:=fun h=>h.put3 h1 hx _ _ _ _ _ _ _ _ _ _
 refine ⟨_,hset,by simpa using h2,nd,fun j r hr=>?_⟩
 by_cases hj:i = j
 ·subst hj
  rw [List.getElem?_set_self hi] at hr
  cases hr
  refine ⟨A,m,c,A',m',c',?_,?_,?_,keep hq⟩
  ·rw [List.getElem?_set_ne (by omega),List.getElem?_set_ne (by omega),List.getElem?_set_self (by omega)]
  ·rw [List.getElem?_set_ne (by omega),List.getElem?_set_self (by simp; omega)]
  rw [List.getElem?_set_self (by simp; omega)]
 rw [List.getElem?_set_ne hj] at hr
 obtain ⟨A1,m1,c1,A1',m1',c1',e0,e1,e2,e3⟩:=h3 j r hr
 refine ⟨A1,m1,c1,A1',m1',c1',?_,?_,?_,keep e3⟩
 ·rw [List.getElem?_set_ne (by omega),List.getElem?_set_ne (by omega),List.getElem?_set_ne (by omega)]; exact e0
 ·rw [List.getElem?_set_ne (by omega),List.getElem?_set_ne (by omega),List.getElem?_set_ne (by omega)]; exact e1
 rw [List.getElem?_set_ne (by omega),List.getElem?_set_ne (by omega),List.getElem?_set_ne (by omega)]; exact e2
end

def BoxC (w:World) (b:Nat) (q:Rat):Prop:=FArc w b [q]
section
variable {w w':World} {b:Nat} {q:Rat}
theorem BoxC.below (h:BoxC w b q)(hb:Below w.heap.size w w'):BoxC w' b q:=FArc.below h hb
theorem BoxC.lt (h:BoxC w b q):b < w.heap.size:=FArc.lt h
theorem BoxC.get (h:BoxC w b q):∃ A m c A' m' c',w.cell? ⟨b,0,none⟩ = some (.bool (isNeg q))/\w.cell? ⟨b,1,none⟩ = some (.slice A m c)/\w.cell? ⟨b,2,none⟩ = some (.slice A' m' c') /\
  w.frozen? ⟨b,0,none⟩ = false/\w.frozen? ⟨b,1,none⟩ = false/\w.frozen? ⟨b,2,none⟩ = false/\CanAt w (.agg #[.bool (isNeg q),.slice A m c,.slice A' m' c']) q:=by
 have:=FArc.get h (i:=0) (q:=q) rfl
 simpa using this
theorem BoxC.put (h:BoxC w b q) {r:Rat} {s:Bool} {A A':Option Addr} {m c m' c':Nat} (hs:s = isNeg r)(hr:CanAt w (.agg #[.bool s,.slice A m c,.slice A' m' c']) r) :
  BoxC (((w.setCell ⟨b,0,none⟩ (.bool s)).setCell ⟨b,1,none⟩ (.slice A m c)).setCell ⟨b,2,none⟩ (.slice A' m' c')) b r:=by
 have:=FArc.put h (i:=0) (by simp) hs hr
 unfold BoxC
 simpa using this
theorem BoxC.of {A A':Option Addr} {m c m' c':Nat} (h:Blk w b 31 [.bool (isNeg q),.slice A m c,.slice A' m' c'])(hq:CanAt w (.agg #[.bool (isNeg q),.slice A m c,.slice A' m' c']) q):BoxC w b q:=by
 refine ⟨_,h,rfl,?_,fun i r hr=>?_⟩
 ·intro x hx
  simp only [List.mem_cons,List.not_mem_nil,or_false] at hx
  rcases hx with rfl | rfl | rfl <;> trivial
 cases i with
 | succ i=>simp at hr
 | zero =>
  cases hr
  exact ⟨A,m,c,A',m',c',rfl,rfl,rfl,hq⟩
theorem BoxC.new {A A':Option Addr} {m c m' c':Nat} (hq:CanAt w (.agg #[.bool (isNeg q),.slice A m c,.slice A' m' c']) q):BoxC (w.alloc (.cells #[.bool (isNeg q),.slice A m c,.slice A' m' c'] 31)) w.heap.size q:=by
 refine ⟨_,Blk.new w 31 [.bool (isNeg q),.slice A m c,.slice A' m' c'],rfl,?_,fun i r hr=>?_⟩
 ·intro x hx
  simp only [List.mem_cons,List.not_mem_nil,or_false] at hx
  rcases hx with rfl | rfl | rfl <;> trivial
 cases i with
 | succ i=>simp at hr
 | zero =>
  cases hr
  exact ⟨A,m,c,A',m',c',rfl,rfl,rfl,hq.below ((Below.refl _ w).alloc (Nat.le_refl _) _)⟩
theorem BoxC.zero (w:World):BoxC (w.alloc (.cells #[.bool false,.slice none 0 0,.slice none 0 0] 31)) w.heap.size 0:=BoxC.new (w:=w) (q:=0) ((CanNew.zero_ 0 w).at_)
end
theorem cell3 {w:World} {B g o:Nat} {x:Value} (h:w.cell? ⟨g,o,none⟩ = some x)(hp:g ≠ B) (i j k:Nat) (u0 u1 u2:Value):(((w.setCell ⟨B,i,none⟩ u0).setCell ⟨B,j,none⟩ u1).setCell ⟨B,k,none⟩ u2).cell? ⟨g,o,none⟩ = some x:=by
 have e:∀ (w:World) (i:Nat) (u:Value),(w.setCell ⟨B,i,none⟩ u).cell? ⟨g,o,none⟩ = w.cell? ⟨g,o,none⟩:=fun w i u=>by
  unfold World.cell?
  rw [show (w.setCell ⟨B,i,none⟩ u).heap[(⟨g,o,none⟩:Addr).block]? = w.heap[(⟨g,o,none⟩:Addr).block]? from Below.heap_setCell w ⟨B,i,none⟩ u g hp]
 rw [e,e,e,h]
theorem row_step (f:Nat->Rat) (j g:Nat) {x:Rat} (hx:x = f j):((List.range j).map f ++ List.replicate (g + 1) 0).set j x = (List.range (j + 1)).map f ++ List.replicate g 0:=by
 subst hx
 rw [List.set_append_right _ _ (by simp),List.length_map,List.length_range,Nat.sub_self,List.replicate_succ,List.set_cons_zero,List.range_succ,List.map_append,List.append_assoc]
 rfl
theorem row_at (f:Nat->Rat) (j g:Nat):((List.range j).map f ++ List.replicate (g + 1) (0:Rat))[j]? = some 0:=by
 rw [List.getElem?_append_right (by simp),List.length_map,List.length_range,Nat.sub_self]
 rfl
theorem below3 {w w':World} {B0 B:Nat} (h:Below B0 w w')(hb:B0 <= B) (i j k:Nat) (u0 u1 u2:Value):Below B0 w (((w'.setCell ⟨B,i,none⟩ u0).setCell ⟨B,j,none⟩ u1).setCell ⟨B,k,none⟩ u2) :=
 ((h.setCell (p:=⟨B,i,none⟩) hb _).setCell (p:=⟨B,j,none⟩) hb _).setCell (p:=⟨B,k,none⟩) hb _
theorem FArc.keepsF {w:World} {b:Nat} {qs:List Rat} (h:FArc w b qs) {n:Nat} {x y z:Value} {q:Rat} (hv:FracAt n w (.agg #[x,y,z]) q) (i j k:Nat) (s:Bool) (A A':Option Addr) (m c m' c':Nat) :
  FracAt n (((w.setCell ⟨b,i,none⟩ (.bool s)).setCell ⟨b,j,none⟩ (.slice A m c)).setCell ⟨b,k,none⟩ (.slice A' m' c')) (.agg #[x,y,z]) q:=by
 obtain ⟨xs,h1,hx⟩:=h.blk
 exact ((hv.setBlk h1 hx i _).setBlk (h1.set_ _ _) (noDig_set hx _ (show NoDig (.bool s) from trivial)) j _).setBlk ((h1.set_ _ _).set_ _ _) (noDig_set (noDig_set hx _ (show NoDig (.bool s) from trivial)) _ (show NoDig (.slice A m c) from trivial)) k _
theorem SeenAt.far3 {w:World} {g:Nat} {rs:List Rat} {mv:Value} {L:List (Int × Int)} (h:SeenAt w mv L)(hg:FArc w g rs) (i j k:Nat) (u0 u1 u2:Value):SeenAt (((w.setCell ⟨g,i,none⟩ u0).setCell ⟨g,j,none⟩ u1).setCell ⟨g,k,none⟩ u2) mv L:=by
 obtain ⟨xs,h1,hx⟩:=hg.blk
 rcases h with ⟨e1,e2⟩ | ⟨b,e1,hm⟩
 ·exact .inl ⟨e1,e2⟩
 have hne:b ≠ g:=by
  intro e
  subst e
  have h2:=hm.1
  unfold Blk at h1
  rw [h1] at h2
  cases h2
 exact .inr ⟨b,e1,((hm.far (p:=⟨g,i,none⟩) hne _).far (p:=⟨g,j,none⟩) hne _).far (p:=⟨g,k,none⟩) hne _⟩
theorem Blk.far3 {w:World} {g B:Nat} {e:TypeId} {xs:List Value} (h:Blk w g e xs)(hne:g ≠ B) (i j k:Nat) (u0 u1 u2:Value):Blk (((w.setCell ⟨B,i,none⟩ u0).setCell ⟨B,j,none⟩ u1).setCell ⟨B,k,none⟩ u2) g e xs :=
 ((h.far (p:=⟨B,i,none⟩) hne _).far (p:=⟨B,j,none⟩) hne _).far (p:=⟨B,k,none⟩) hne _
end
def validB (k:Int) (a:Rat) (mix:List Rat) (O:Int):Bool :=
 if k = 1 then decide (0 < sgnI a) && ((mix.length:Int) == 0)
 else if k = 2 then (sgnI a == 0) && ((mix.length:Int) == O + 1) && distr mix && decide (0 < sgnI (mix.getD 0 0))
 else if k = 3 then !decide (0 <= sgnI (a - 1)) && (decide (0 < sgnI a) && ((mix.length:Int) == 0))
 else if k = 4 then (sgnI a == 0) && ((mix.length:Int) == 0) else false

theorem eight {w:World} {g:Nat} {e:TypeId} {a0 a1 a2 a3 a4 a5 a6 a7:Value} (h:Blk w g e [a0,a1,a2,a3,a4,a5,a6,a7]) :
  w.cell? ⟨g,0,none⟩ = some a0/\w.cell? ⟨g,1,none⟩ = some a1/\w.cell? ⟨g,2,none⟩ = some a2/\w.cell? ⟨g,3,none⟩ = some a3/\w.cell? ⟨g,4,none⟩ = some a4/\w.cell? ⟨g,5,none⟩ = some a5/\w.cell? ⟨g,6,none⟩ = some a6/\w.cell? ⟨g,7,none⟩ = some a7 :=
 ⟨h.cell 0,h.cell 1,h.cell 2,h.cell 3,h.cell 4,h.cell 5,h.cell 6,h.cell 7⟩

def langV (O V:Int) (lv:Value) (k:Int) (s:Bool) (A A':Option Addr) (m c m' c':Nat) (mv:Value):Value:=.agg #[.int .i64 O,.int .i64 V,lv,.int .i64 k,.bool s,.slice A m c,.slice A' m' c',mv]

theorem FracsAt.open_ {k:Nat} {w:World} {v:Value} {qs:List Rat} (h:FracsAt k w v qs):∃ A c,v = .slice A qs.length c/\qs.length <= c/\c <= 9223372036854775807 /\
  ∀ j q,qs[j]? = some q->∃ b off c0 c1 c2,A = some ⟨b,off,none⟩/\b < w.heap.size/\w.cell? ⟨b,off + j * 3,none⟩ = some c0/\w.cell? ⟨b,off + j * 3 + 1,none⟩ = some c1/\w.cell? ⟨b,off + j * 3 + 2,none⟩ = some c2/\FracAt k w (.agg #[c0,c1,c2]) q:=by
 obtain ⟨cells,h1,h2⟩:=h
 obtain ⟨h0,A,c,rfl,hc,hm,h5⟩:=h1
 refine ⟨A,c,rfl,hc,by unfold maxLen at hm; omega,fun j x hx=>?_⟩
 have hj:=(List.getElem?_eq_some_iff.1 hx).1
 obtain ⟨b,off,e,hlt,hcell⟩:=h5 (by omega)
 obtain ⟨c0,c1,c2,e0,e1,e2,hf⟩:=h2 j x hx
 exact ⟨b,off,c0,c1,c2,e,hlt,hcell _ _ e0,by have:=hcell _ _ e1; rwa [<- Nat.add_assoc] at this,by have:=hcell _ _ e2; rwa [<- Nat.add_assoc] at this,hf⟩

theorem validG (w:World) (O V:Int) (lv:Value) (k:Int) (s:Bool) (A A':Option Addr) (m c m' c':Nat) (mv:Value) (a:Rat) (mix:List Rat)(ha:FracAt 64 w (.agg #[.bool s,.slice A m c,.slice A' m' c']) a)(hm:FracsAt 64 w mv mix)(hl:mix.length <= 1000000)(hO:1 <= O/\O <= 4) (Al:Option Addr) (nl cl:Nat)(hlv:lv = .slice Al nl cl) :
  Calls Tryz.prog 173 #[langV O V lv k s A A' m c m' c' mv] w fun e w'=>e = .returned (.bool (validB k a mix O))/\Below w.heap.size w w':=by
 subst hlv
 obtain ⟨Am,cm,rfl,hmc,hcm,hat⟩:=hm.open_
 have HM:=Lib.hid hm
 have HA:=Lib.hid ha
 have HAT:=Lib.hid hat
 have QA:=Lib.hid (ha.qb (by omega))
 clear hm ha hat
 obtain ⟨ml,hml⟩:∃ n,mix.length = n:=⟨_,rfl⟩
 have HMF:Hid (FracsAt 64 w (.slice Am ml cm) mix):=Lib.hid (by rw [<- hml]; exact HM.out)
 rw [hml] at hmc hl ⊢
 have HML:=Lib.hid hml
 clear hml HM
 unfold langV
 go_enter Tryz.func173,Tryz.ntmps173
 go_wp2_with fail
 obtain ⟨W,hW,P0,PB,Phs⟩:=box1 w 34 [.int .i64 O,.int .i64 V,.slice Al nl cl,.int .i64 k,.bool s,.slice A m c,.slice A' m' c',.slice Am ml cm]
 rw [<- hW]
 clear hW
 obtain ⟨p0,p1,p2,p3,p4,p5,p6,p7⟩:=eight P0.out
 refine (ofI W 1 (by omega) (by omega)).mono ?_
 rintro e w1 ⟨u1,rfl,t1,hb1⟩
 obtain ⟨un,hun⟩:∃ x:Rat,((1:Int):Rat) = x:=⟨_,rfl⟩
 rw [hun] at t1
 have HUN:Hid (un = 1):=Lib.hid (by rw [<- hun]; rfl)
 clear hun
 obtain ⟨Ao,mo,co,Ao',mo',co',rfl⟩:=t1.at_.open_
 have T1:=Lib.hid t1
 have P1:=Lib.hid (P0.out.below' hb1)
 have B1:=Lib.hid (PB.out.trans (hb1.mono PB.out.size))
 clear p0 p1 p2 p3 p4 p5 p6 p7 t1 hb1 P0 PB
 obtain ⟨p0,p1,p2,p3,p4,p5,p6,p7⟩:=eight P1.out
 have s1:w.heap.size < w1.heap.size:=P1.out.lt
 go_wp2_with fail
 obtain ⟨W2,hW2,G0,GB,Ghs⟩:=box1 w1 31 [.bool (isNeg un),.slice Ao mo co,.slice Ao' mo' co']
 rw [<- hW2]
 clear hW2
 refine (signF W2 _ a 64 ((HA.out.below B1.out).below GB.out) (by omega) (by omega)).mono ?_
 rintro e w3 ⟨rfl,hb3⟩
 have G3:Hid (BoxC w3 w1.heap.size un):=Lib.hid ((BoxC.of G0.out (T1.out.at_.below GB.out)).below hb3)
 have P3:=Lib.hid ((P1.out.below' GB.out).below' hb3)
 have B3:=Lib.hid ((B1.out.trans (GB.out.mono B1.out.size)).trans (hb3.mono (by have:=B1.out.size; omega)))
 obtain ⟨sg,hsg⟩:∃ z,sgnI a = z:=⟨_,rfl⟩
 rw [hsg]
 have HSG:=Lib.hid hsg
 clear p0 p1 p2 p3 p4 p5 p6 p7 hb3 G0 GB B1 P1 hsg
 obtain ⟨p0,p1,p2,p3,p4,p5,p6,p7⟩:=eight P3.out
 by_cases h1:k = 1
 ·subst h1
  obtain ⟨b1,hb1⟩:∃ b,decide (0 < sg) = b:=⟨_,rfl⟩
  obtain ⟨b2,hb2⟩:∃ b,((ml:Int) == 0) = b:=⟨_,rfl⟩
  have HE:Hid (validB 1 a mix O = (b1 && b2)):=Lib.hid (by
   unfold validB
   rw [if_pos rfl,HSG.out,HML.out,hb1,hb2])
  cases b1 <;> cases b2
  all_goals
   go_wp2_with fail
   go_ret
   exact ⟨ret_bool HE.out.symm,B3.out⟩
 have n1:(k == 1) = false:=by simpa using h1
 by_cases h2:k = 2
 ·subst h2
  clear n1 h1
  obtain ⟨b1,hb1⟩:∃ b,(sg == 0) = b:=⟨_,rfl⟩
  obtain ⟨b2,hb2⟩:∃ b,((ml:Int) == O + 1) = b:=⟨_,rfl⟩
  obtain ⟨b3,hb3⟩:∃ b,distr mix = b:=⟨_,rfl⟩
  obtain ⟨s0,hs0⟩:∃ z,sgnI (mix.getD 0 0) = z:=⟨_,rfl⟩
  have HE:Hid (validB 2 a mix O = (b1 && b2 && b3 && decide (0 < s0))):=Lib.hid (by
   unfold validB
   rw [if_neg (by decide),if_pos rfl,HSG.out,HML.out,hb1,hb2,hb3,hs0])
  have HB3:=Lib.hid hb3
  have HS0:=Lib.hid hs0
  clear hb3 hs0
  cases b1
  ·simp only [Bool.false_and] at HE
   go_wp2_with fail
   go_ret
   exact ⟨ret_bool HE.out.symm,B3.out⟩
  cases b2
  ·simp only [Bool.false_and,Bool.and_false] at HE
   go_wp2_with fail
   go_ret
   exact ⟨ret_bool HE.out.symm,B3.out⟩
  have hpos:0 < ml:=by
   have:(ml:Int) = O + 1:=by simpa using hb2
   omega
  obtain ⟨x,hx⟩:∃ x,mix[0]? = some x:=⟨_,List.getElem?_eq_getElem (by rw [HML.out]; exact hpos)⟩
  obtain ⟨bm,om,c0,c1,c2,rfl,hbm,e0,e1,e2,hf⟩:=HAT.out 0 x hx
  have HX:Hid (sgnI x = s0):=Lib.hid (by rw [<- HS0.out,List.getD_eq_getElem?_getD,hx]; rfl)
  have HF:=Lib.hid hf
  clear hx hf
  rw [Nat.zero_mul,Nat.add_zero] at e0 e1 e2
  rw [Nat.add_zero] at e1 e2
  obtain ⟨sx,A1,n1,k1,A2,n2,k2,rfl,rfl,rfl⟩:=HF.out.cells3
  go_wp2_with fail
  refine (distributionF w3 64 _ mix (HMF.out.below B3.out) (by omega) (by rw [HML.out]; omega)).mono ?_
  rintro e w4 ⟨rfl,hb4⟩
  rw [HB3.out]
  have P4:=Lib.hid (P3.out.below' hb4)
  have B4:=Lib.hid (B3.out.trans (hb4.mono B3.out.size))
  have f0:=(B4.out.cell (p:=⟨bm,om,none⟩) hbm).trans e0
  have f1:=(B4.out.cell (p:=⟨bm,om + 1,none⟩) hbm).trans e1
  have f2:=(B4.out.cell (p:=⟨bm,om + 2,none⟩) hbm).trans e2
  clear p0 p1 p2 p3 p4 p5 p6 p7 hb4 P3 e0 e1 e2
  obtain ⟨p0,p1,p2,p3,p4,p5,p6,p7⟩:=eight P4.out
  cases b3
  ·simp only [Bool.false_and,Bool.and_false] at HE
   go_wp2_with fail
   go_ret
   exact ⟨ret_bool HE.out.symm,B4.out⟩
  simp only [Bool.true_and] at HE
  go_wp2_with fail
  refine (signF w4 _ x 64 (HF.out.below B4.out) (by omega) (by omega)).mono ?_
  rintro e w5 ⟨rfl,hb5⟩
  rw [HX.out]
  have B5:=Lib.hid (B4.out.trans (hb5.mono B4.out.size))
  clear hb5
  go_wp2_with fail
  go_ret
  exact ⟨ret_bool HE.out.symm,B5.out⟩
 have n2:(k == 2) = false:=by simpa using h2
 by_cases h3:k = 3
 ·subst h3
  clear n1 n2 h1 h2
  obtain ⟨Ax,mx,cx,Ax',mx',cx',x0,x1,x2,_,_,_,tx⟩:=G3.out.get
  have TX:=Lib.hid (tx.frac (k:=64) ((by rw [HUN.out]; exact qb_nat (n:=1) (k:=64) (by omega) (by omega))) (by omega))
  clear tx
  obtain ⟨cv,hcv⟩:∃ z,sgnI (a - un) = z:=⟨_,rfl⟩
  obtain ⟨b0,hb0⟩:∃ b,decide (0 <= cv) = b:=⟨_,rfl⟩
  obtain ⟨b1,hb1⟩:∃ b,decide (0 < sg) = b:=⟨_,rfl⟩
  obtain ⟨b2,hb2⟩:∃ b,((ml:Int) == 0) = b:=⟨_,rfl⟩
  have HE:Hid (validB 3 a mix O = (!b0 && (b1 && b2))):=Lib.hid (by
   unfold validB
   rw [if_neg (by decide),if_neg (by decide),if_pos rfl,HSG.out,HML.out,<- HUN.out,hcv,hb0,hb1,hb2])
  have HCV:=Lib.hid hcv
  clear hcv
  go_wp2_with fail
  refine (cmpF w3 _ _ a un 64 (HA.out.below B3.out) TX.out (by omega) (by omega)).mono ?_
  rintro e w4 ⟨rfl,hb4⟩
  rw [HCV.out]
  have P4:=Lib.hid (P3.out.below' hb4)
  have B4:=Lib.hid (B3.out.trans (hb4.mono B3.out.size))
  clear p0 p1 p2 p3 p4 p5 p6 p7 x0 x1 x2 hb4 P3
  obtain ⟨p0,p1,p2,p3,p4,p5,p6,p7⟩:=eight P4.out
  cases b0
  ·cases b1 <;> cases b2
   all_goals
    go_wp2_with fail
    go_ret
    exact ⟨ret_bool HE.out.symm,B4.out⟩
  simp only [Bool.not_true,Bool.false_and] at HE
  go_wp2_with fail
  go_ret
  exact ⟨ret_bool HE.out.symm,B4.out⟩
 have n3:(k == 3) = false:=by simpa using h3
 by_cases h4:k = 4
 ·subst h4
  clear n1 n2 n3 h1 h2 h3
  obtain ⟨b1,hb1⟩:∃ b,(sg == 0) = b:=⟨_,rfl⟩
  obtain ⟨b2,hb2⟩:∃ b,((ml:Int) == 0) = b:=⟨_,rfl⟩
  have HE:Hid (validB 4 a mix O = (b1 && b2)):=Lib.hid (by
   unfold validB
   rw [if_neg (by decide),if_neg (by decide),if_neg (by decide),if_pos rfl,HSG.out,HML.out,hb1,hb2])
  cases b1 <;> cases b2
  all_goals
   go_wp2_with fail
   go_ret
   exact ⟨ret_bool HE.out.symm,B3.out⟩
 have n4:(k == 4) = false:=by simpa using h4
 have HE:Hid (validB k a mix O = false):=Lib.hid (by
  unfold validB
  rw [if_neg h1,if_neg h2,if_neg h3,if_neg h4])
 clear h1 h2 h3 h4
 go_wp2_with fail
 go_ret
 exact ⟨ret_bool HE.out.symm,B3.out⟩
end Go.Proofs.YtdehimgccmbfkaaGreat
