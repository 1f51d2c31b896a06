/- Lemmas on the way: Gm7, Gm8, MapK, MapR. -/
import Derived.Test.YtkdhppimhdemjaaGreatU29
import Derived.Maps.RangeRun
set_option linter.all false
set_option maxRecDepth 1000000
set_option maxHeartbeats 32000000
namespace Go.Proofs.YtkdhppimhdemjaaGreat
open Go.RowKit
def fh {α:Type} (P:α->Bool):List α->Nat->Int
 | [],_=>-1
 | x :: l,j=>if P x then (j:Int) else fh P l (j + 1)
theorem zi {α:Type} (P:α->Bool) (l:List α) (j:Nat):decide (0 <= fh P l j) = l.any P:=by
 induction l generalizing j with
 | nil=>simp [fh]
 | cons x l ih =>
  unfold fh
  cases h:P x
  ·simp [h,ih (j + 1)]
  simp [h]
theorem xD {α:Type} (P:α->Bool) {l:List α} {j:Nat} {x:α} (h:l[j]? = some x):fh P (l.drop j) j = if P x then (j:Int) else fh P (l.drop (j + 1)) (j + 1):=by
 have hj:j < l.length:=(List.getElem?_eq_some_iff.1 h).1
 rw [List.drop_eq_getElem_cons hj]
 have:l[j] = x:=by rw [List.getElem?_eq_getElem hj] at h; injection h
 rw [this]; rfl

theorem Fk (w:World) (v:Value) (l:List (Int)) (F:Nat) (caps:Array Value) (P:Int->Bool)(h:aU w v l)(hn:l.length <= 9223372036854775807)(hF:∀ (W:World) (args:Array Value),(callFunc F args).run Tryz.prog W = .ok (.enter F args) W)
  (hf:∀ W x a,Below w.heap.size w W->x ∈ l->a = Value.int .i64 x->Calls Tryz.prog F (#[a] ++ caps) W fun e w'=>e = .returned (.bool (P x))/\Below W.heap.size W w') :
  Calls Tryz.prog 154 #[v,.func (.func F) #[] caps] w fun e w'=>e = .returned (.int .i64 (fh P l 0))/\Below w.heap.size w w':=by
 obtain ⟨A,c,rfl,hlc,hcm,hat⟩:=h.open_
 have HAT:=Lib.hid hat
 have HF:=Lib.hid hf
 clear h hat hf
 obtain ⟨n,hn'⟩:∃ n,l.length = n:=⟨_,rfl⟩
 have HLN:=Lib.hid hn'
 rw [hn'] at hlc hn ⊢
 clear hn'
 go_enter Tryz.func154,Tryz.ntmps154
 go_wp2_with fail
 go_loopg [5,8] n (fun g _ i wr=>∃ (j:Nat),i = .int .i64 j/\j + g = n/\Hid (fh P l 0 = fh P (l.drop j) j)/\Hid (Below w.heap.size w wr))
 case atStart=>exact ⟨0,rfl,by omega,Lib.hid rfl,Lib.hid (Below.refl _ _)⟩
 obtain ⟨j,rfl,hj,HQ,BEL⟩:=hrel
 have hsz:w.heap.size <= wr.heap.size:=BEL.out.size
 rcases Nat.eq_zero_or_pos gk with h | h
 ·obtain rfl:j = n:=by omega
  have HR:Hid (fh P l 0 = -1):=Lib.hid (by rw [HQ.out,List.drop_eq_nil_of_le (by rw [HLN.out]; exact Nat.le_refl _)]; rfl)
  go_wp2_with fail
  go_ret
  exact ⟨aq HR.out.symm,BEL.out⟩
 obtain ⟨g,rfl⟩:∃ g,gk = g + 1:=⟨gk - 1,by omega⟩
 obtain ⟨x,hx⟩:∃ x,l[j]? = some x:=⟨_,List.getElem?_eq_getElem (by rw [HLN.out]; omega)⟩
 obtain ⟨ba,oa,rfl,hba,e0⟩:=HAT.out j x hx
 have d0:=(BEL.out.cell (p:=⟨ba,oa + j,none⟩) hba).trans e0
 clear e0
 have DR:=Lib.hid (xD P hx)
 have HX:=Lib.hid hx
 clear hx
 have hlt:(j:Int) < (n:Int):=by omega
 have NC:=HF.out wr x _ BEL.out (List.mem_of_getElem? HX.out) rfl
 cases hd:P x with
 | true =>
  rw [hd] at NC
  have HR:Hid (fh P l 0 = j):=Lib.hid (by rw [HQ.out,DR.out,hd,if_pos rfl])
  clear hd
  go_wp2_with fail
  refine NC.mono ?_
  rintro e w1 ⟨rfl,hb1⟩
  have B1:=Lib.hid hb1
  clear hb1
  go_wp2_with fail
  go_ret
  exact ⟨aq HR.out.symm,BEL.out.trans (B1.out.mono hsz)⟩
 | false =>
  rw [hd] at NC
  have HR:Hid (fh P l 0 = fh P (l.drop (j + 1)) (j + 1)):=Lib.hid (by rw [HQ.out,DR.out,hd]; rfl)
  clear hd
  go_wp2_with fail
  refine NC.mono ?_
  rintro e w1 ⟨rfl,hb1⟩
  have B1:=Lib.hid hb1
  clear hb1
  go_wp2_with fail
  go_roundg g
  case measure=>omega
  case rel=>exact ⟨j + 1,rfl,by omega,HR,Lib.hid (BEL.out.trans (B1.out.mono hsz))⟩

theorem xR (w:World) (v:Value) (l:List (Int)) (F:Nat) (caps:Array Value) (P:Int->Bool)(h:aU w v l)(hn:l.length <= 9223372036854775807)(hF:∀ (W:World) (args:Array Value),(callFunc F args).run Tryz.prog W = .ok (.enter F args) W)
  (hf:∀ W x a,Below w.heap.size w W->x ∈ l->a = Value.int .i64 x->Calls Tryz.prog F (#[a] ++ caps) W fun e w'=>e = .returned (.bool (P x))/\Below W.heap.size W w') :
  Calls Tryz.prog 79 #[v,.func (.func F) #[] caps] w fun e w'=>e = .returned (.bool (l.any P))/\Below w.heap.size w w':=by
 have IC:=Lib.hid (Fk w v l F caps P h hn hF hf)
 have HA:=Lib.hid (zi P l 0)
 obtain ⟨A,c,rfl,hlc,hcm,_⟩:=h.open_
 clear h hf
 generalize fh P l 0 = r at *
 go_enter Tryz.func79,Tryz.ntmps79
 go_wp2_with fail
 refine IC.out.mono ?_
 rintro e w1 ⟨rfl,hb1⟩
 have B1:=Lib.hid hb1
 clear hb1
 go_wp2_with fail
 go_ret
 exact ⟨aD (by rw [<- HA.out]),B1.out⟩

theorem KP (w:World) (o v:Int) :
  Calls Tryz.prog 245 #[.int .i64 o,.int .i64 v] w fun e w'=>e = .returned (.bool (cK o v))/\Below w.heap.size w w':=by
 have HT:Hid (cK o v = (decide (1 <= o) && decide (o <= 4) && decide (1 <= v) && decide (v <= 2000))):=Lib.hid rfl
 by_cases h1:1 <= o
 ·have d1:=decide_eq_true h1
  by_cases h2:o <= 4
  ·have d2:=decide_eq_true h2
   by_cases h3:1 <= v
   ·have d3:=decide_eq_true h3
    by_cases h4:v <= 2000
    ·have d4:=decide_eq_true h4
     have HB:Hid (cK o v = true):=Lib.hid (by rw [HT.out,d1,d2,d3,d4]; rfl)
     clear h1 h2 h3 h4
     go_enter Tryz.func245,Tryz.ntmps245
     go_wp2_with fail
     go_ret
     exact ⟨aD HB.out.symm,Below.refl _ _⟩
    have d4:=decide_eq_false h4
    have HB:Hid (cK o v = false):=Lib.hid (by rw [HT.out,d1,d2,d3,d4]; rfl)
    clear h1 h2 h3 h4
    go_enter Tryz.func245,Tryz.ntmps245
    go_wp2_with fail
    go_ret
    exact ⟨aD HB.out.symm,Below.refl _ _⟩
   have d3:=decide_eq_false h3
   have HB:Hid (cK o v = false):=Lib.hid (by rw [HT.out,d1,d2,d3]; rfl)
   clear h1 h2 h3
   go_enter Tryz.func245,Tryz.ntmps245
   go_wp2_with fail
   go_ret
   exact ⟨aD HB.out.symm,Below.refl _ _⟩
  have d2:=decide_eq_false h2
  have HB:Hid (cK o v = false):=Lib.hid (by rw [HT.out,d1,d2]; rfl)
  clear h1 h2
  go_enter Tryz.func245,Tryz.ntmps245
  go_wp2_with fail
  go_ret
  exact ⟨aD HB.out.symm,Below.refl _ _⟩
 have d1:=decide_eq_false h1
 have HB:Hid (cK o v = false):=Lib.hid (by rw [HT.out,d1]; rfl)
 clear h1
 go_enter Tryz.func245,Tryz.ntmps245
 go_wp2_with fail
 go_ret
 exact ⟨aD HB.out.symm,Below.refl _ _⟩

theorem GY (w:World) (x lo hi:Int) (b1 b2:Nat)(h1:w.cell? ⟨b1,0,none⟩ = some (.int .i64 lo))(h2:w.cell? ⟨b2,0,none⟩ = some (.int .i64 hi)) :
  Calls Tryz.prog 286 #[.int .i64 x,.pointer (some ⟨b1,0,none⟩),.pointer (some ⟨b2,0,none⟩)] w fun e w'=>e = .returned (.bool (!(decide (lo <= x) && decide (x <= hi))))/\Below w.heap.size w w':=by
 by_cases d:lo <= x
 ·have HL:=Lib.hid (decide_eq_true d)
  have dl:decide (x < lo) = false:=decide_eq_false (by omega)
  by_cases d2:x <= hi
  ·have HH:=Lib.hid (decide_eq_true d2)
   have dh:decide (hi < x) = false:=decide_eq_false (by omega)
   clear d d2
   go_enter Tryz.func286,Tryz.ntmps286
   go_wp2_with fail
   go_ret
   exact ⟨aD (by rw [HL.out,HH.out]; rfl),Below.refl _ _⟩
  have HH:=Lib.hid (decide_eq_false d2)
  have dh:decide (hi < x) = true:=decide_eq_true (by omega)
  clear d d2
  go_enter Tryz.func286,Tryz.ntmps286
  go_wp2_with fail
  go_ret
  exact ⟨aD (by rw [HL.out,HH.out]; rfl),Below.refl _ _⟩
 have HL:=Lib.hid (decide_eq_false d)
 have dl:decide (x < lo) = true:=decide_eq_true (by omega)
 clear d
 go_enter Tryz.func286,Tryz.ntmps286
 go_wp2_with fail
 go_ret
 exact ⟨aD (by rw [HL.out]; rfl),Below.refl _ _⟩

theorem JD (lo hi:Int) (l:List Int):(!l.any fun x=>!(decide (lo <= x) && decide (x <= hi))) = pM lo hi l:=by
 induction l with
 | nil=>rfl
 | cons x l ih =>
  simp only [List.any_cons,pM,List.all_cons] at ih ⊢
  rw [Bool.not_or,Bool.not_not,ih]

theorem z7 (w:World) (v:Value) (l:List Int) (lo hi:Int)(h:aU w v l) :
  Calls Tryz.prog 246 #[v,.int .i64 lo,.int .i64 hi] w fun e w'=>e = .returned (.bool (pM lo hi l))/\Below w.heap.size w w':=by
 have HI:=Lib.hid h
 have HA:=Lib.hid (JD lo hi l)
 obtain ⟨A,c,rfl,hlc,hcm,_⟩:=h.open_
 clear h
 go_enter Tryz.func246,Tryz.ntmps246
 go_wp2_with fail
 obtain ⟨W,hW,P0,P1,PB,Phs⟩:=jz w 3 [.int .i64 lo] 3 [.int .i64 hi]
 rw [<- hW]
 clear hW
 have CI:=Lib.hid (xR W _ l 286 #[.pointer (some ⟨w.heap.size,0,none⟩),.pointer (some ⟨w.heap.size + 1,0,none⟩)] (fun x=>!(decide (lo <= x) && decide (x <= hi))) (HI.out.below PB.out) (by have:=HI.out.le; unfold maxLen at this; omega) (fun _ _=>by kernel_rfl) (fun U x a hb hx e=>by
  subst e
  exact GY U x lo hi _ _ ((P0.out.below' hb).cell 0) ((P1.out.below' hb).cell 0)))
 go_wp2_with fail
 refine CI.out.mono ?_
 rintro e w1 ⟨rfl,hb1⟩
 have B1:=Lib.hid (PB.out.trans (hb1.mono (by omega)))
 clear hb1
 go_wp2_with fail
 go_ret
 exact ⟨aD (by have:=HA.out; simpa using this),B1.out⟩
def eT (l:List Int):List Int:=l.map (· + 1) ++ List.replicate (4 - l.length) 0
def dA (l:List Int):Value:=.agg ((eT l).map (Value.int .i64)).toArray
theorem dp {l:List Int} (h:l.length <= 4):(eT l).length = 4:=by simp [eT]; omega
theorem s7 {l:List Int} {j:Nat} {x:Int} (h:l.length <= 4)(hx:l[j]? = some x):(eT (l.take j)).set j (x + 1) = eT (l.take (j + 1)):=by
 have hj:=(List.getElem?_eq_some_iff.1 hx).1
 have e1:(l.take j).length = j:=by rw [List.length_take]; omega
 have e2:(l.take (j + 1)).length = j + 1:=by rw [List.length_take]; omega
 unfold eT
 rw [e1,e2,aG l hx,List.set_append_right _ _ (by simp; omega),List.map_append,List.append_assoc]
 congr 1
 rw [List.length_map,e1,Nat.sub_self,show 4 - j = (4 - (j + 1)) + 1 by omega,List.replicate_succ]
 rfl
theorem Fx {l:List Int} (h:l.length = 4):∃ a b c d,l = [a,b,c,d]:=by
 match l,h with
 | [a,b,c,d],_=>exact ⟨a,b,c,d,rfl⟩

theorem Fb (w:World) (v:Value) (l:List Int)(h:aU w v l)(hl:l.length <= 4)(hb:∀ x ∈ l,-1000000 <= x/\x <= 1000000) :
  Calls Tryz.prog 293 #[v] w fun e w'=>e = .returned (dA l)/\Below w.heap.size w w':=by
 obtain ⟨A,c,rfl,hlc,hcm,hat⟩:=h.open_
 have HAT:=Lib.hid hat
 have HB:=Lib.hid hb
 have HL:=Lib.hid hl
 clear h hat hb
 obtain ⟨n,hn⟩:∃ n,l.length = n:=⟨_,rfl⟩
 rw [hn] at hlc hl ⊢
 have HN:=Lib.hid hn
 clear hn
 obtain ⟨k0,k1,k2,k3,hk⟩:=Fx (dp HL.out)
 have HK:=Lib.hid hk
 clear hk
 go_enter Tryz.func293,Tryz.ntmps293
 go_wp2_with fail
 obtain ⟨W,hW,P0,P1,PB,Phs⟩:=jz w 398 [.int .i64 0,.int .i64 0,.int .i64 0,.int .i64 0] 398 [.int .i64 0,.int .i64 0,.int .i64 0,.int .i64 0]
 rw [<- hW]
 clear hW
 go_loopg [4,5,8] n (fun gh _ _ i wr=>∃ (j:Nat),i = .int .i64 j/\j + gh = n/\Hid (bw wr (w.heap.size + 1) 398 ((eT (l.take j)).map (Value.int .i64)))/\Hid (bw wr w.heap.size 398 [.int .i64 0,.int .i64 0,.int .i64 0,.int .i64 0])/\Hid (Below w.heap.size w wr))
 case atStart=>exact ⟨0,rfl,by omega,P1,P0,PB⟩
 obtain ⟨j,rfl,hj,BK,R0,BEL⟩:=hrel
 rcases Nat.eq_zero_or_pos gk with h | h
 ·obtain rfl:j = n:=by omega
  have HE:Hid ((eT (l.take j)).map (Value.int .i64) = [.int .i64 k0,.int .i64 k1,.int .i64 k2,.int .i64 k3]):=Lib.hid (by
   rw [List.take_of_length_le (by rw [HN.out]; exact Nat.le_refl _),HK.out]; rfl)
  have BK2:Hid (bw wr (w.heap.size + 1) 398 [.int .i64 k0,.int .i64 k1,.int .i64 k2,.int .i64 k3]):=Lib.hid (by rw [<- HE.out]; exact BK.out)
  have b0:=BK2.out.cell 0
  have b1:=BK2.out.cell 1
  have b2:=BK2.out.cell 2
  have b3:=BK2.out.cell 3
  have r0:=R0.out.cell 0
  have r1:=R0.out.cell 1
  have r2:=R0.out.cell 2
  have r3:=R0.out.cell 3
  have z0:=R0.out.frozen 0
  have z1:=R0.out.frozen 1
  have z2:=R0.out.frozen 2
  have z3:=R0.out.frozen 3
  simp only [List.getElem?_cons_zero,List.getElem?_cons_succ] at b0 b1 b2 b3 r0 r1 r2 r3
  go_wp2_with fail
  refine bodyPost_ret (v:=.agg #[.int .i64 k0,.int .i64 k1,.int .i64 k2,.int .i64 k3]) (by simp [results,Tryz.results293,go_sem,r0,r1,r2,r3]) rfl ⟨by unfold dA; rw [HK.out]; rfl,?_⟩
  exact (((BEL.out.setCell (p:=⟨w.heap.size,0,none⟩) (Nat.le_refl _) _).setCell (p:=⟨w.heap.size,1,none⟩) (Nat.le_refl _) _).setCell (p:=⟨w.heap.size,2,none⟩) (Nat.le_refl _) _).setCell (p:=⟨w.heap.size,3,none⟩) (Nat.le_refl _) _
 obtain ⟨g,rfl⟩:∃ g,gk = g + 1:=⟨gk - 1,by omega⟩
 obtain ⟨x,hx⟩:∃ x,l[j]? = some x:=⟨_,List.getElem?_eq_getElem (by rw [HN.out]; omega)⟩
 obtain ⟨ba,oa,rfl,hba,e0⟩:=HAT.out j x hx
 have d0:=(BEL.out.cell (p:=⟨ba,oa + j,none⟩) hba).trans e0
 have hxb:=HB.out x (List.mem_of_getElem? hx)
 have ST:=Lib.hid (s7 HL.out hx)
 have hlt4:j < ((eT (l.take j)).map (Value.int .i64)).length:=by rw [List.length_map,dp (by rw [List.length_take]; omega)]; omega
 obtain ⟨u,hu⟩:∃ u,((eT (l.take j)).map (Value.int .i64))[j]? = some u:=⟨_,List.getElem?_eq_getElem hlt4⟩
 have b0:wr.cell? ⟨w.heap.size + 1,j,none⟩ = some u:=(BK.out.cell j).trans hu
 have z0:=BK.out.frozen j
 clear hx e0 hlt4 hu
 go_wp2_with fail
 go_roundg g
 case measure=>omega
 case rel=>exact ⟨j + 1,rfl,by omega,Lib.hid (by have:=BK.out.set_ j (.int .i64 (x + 1)); rw [<- List.map_set,ST.out] at this; exact this),Lib.hid (R0.out.far (p:=⟨w.heap.size + 1,j,none⟩) (by show w.heap.size ≠ w.heap.size + 1; omega) _),Lib.hid (BEL.out.setCell (p:=⟨w.heap.size + 1,j,none⟩) (by show w.heap.size <= w.heap.size + 1; omega) _)⟩
section
open Go.Maps (Keyed)
open Go.ChangeMaps (setBlock)
open Go.MapKept

def dC (es:List (Value × Value)):List MapEntry:=es.mapIdx fun i e=>⟨e.1,e.2,i⟩
def aQ (P:Program) (w:World) (k:TypeId) (b:Nat) (es:List (Value × Value)):Prop :=
 w.heap[b]? = some (.map (dC es).toArray es.length)/\(∀ e ∈ es,∃ l,keyOf P k e.1 = some l)/\(es.map Prod.fst).Nodup
theorem cE (es:List (Value × Value)) (i:Nat):(dC es)[i]? = (es[i]?).map fun e=>⟨e.1,e.2,i⟩:=by
 unfold dC
 rw [List.getElem?_mapIdx]
theorem rD {es:List (Value × Value)} {e:MapEntry} (h:e ∈ dC es):∃ i x,es[i]? = some x/\e = ⟨x.1,x.2,i⟩:=by
 obtain ⟨i,hi⟩:=List.mem_iff_getElem?.1 h
 rw [cE] at hi
 cases hx:es[i]? with
 | none=>rw [hx] at hi; cases hi
 | some x=>rw [hx] at hi; cases hi; exact ⟨i,x,hx,rfl⟩
theorem bV (es:List (Value × Value)):(dC es).length = es.length:=by simp [dC]
theorem tN (es:List (Value × Value)) (x:Value × Value):dC (es ++ [x]) = dC es ++ [⟨x.1,x.2,es.length⟩]:=by
 apply List.ext_getElem?
 intro i
 rw [cE]
 rcases Nat.lt_trichotomy i es.length with h | h | h
 ·rw [List.getElem?_append_left h,List.getElem?_append_left (by rw [bV]; exact h),cE]
 ·subst h
  rw [List.getElem?_append_right (Nat.le_refl _),List.getElem?_append_right (by rw [bV]; exact Nat.le_refl _)]
  simp [bV]
 rw [List.getElem?_append_right (by omega),List.getElem?_append_right (by rw [bV]; omega),List.getElem?_eq_none_iff.2 (by simp; omega),List.getElem?_eq_none_iff.2 (by simp [bV]; omega)]
 rfl

section
variable {P:Program} {k e t:TypeId} {w:World} {b:Nat} {es:List (Value × Value)}
theorem aQ.lt (h:aQ P w k b es):b < w.heap.size:=(Array.getElem?_eq_some_iff.1 h.1).1
theorem aQ.kept {w':World} {row:Option Nat} (h:aQ P w k b es)(hg:w.grownBy w' row)(hne:some b ≠ row):aQ P w' k b es:=⟨(hg.block b h.lt hne).trans h.1,h.2⟩
theorem aQ.below {w':World} (h:aQ P w k b es)(hb:Below w.heap.size w w'):aQ P w' k b es:=⟨(hb.block b h.lt).trans h.1,h.2⟩
theorem aQ.alloc (h:aQ P w k b es) (o:Obj):aQ P (w.alloc o) k b es:=h.below ((Below.refl _ w).alloc (Nat.le_refl _) o)
theorem aQ.far (h:aQ P w k b es) {p:Addr} (hp:b ≠ p.block) (u:Value):aQ P (w.setCell p u) k b es:=⟨(Below.heap_setCell w p u b hp).trans h.1,h.2⟩
theorem aQ.made (P:Program) (w:World) (k:TypeId):aQ P (w.alloc (.map #[] 0)) k w.heap.size []:=⟨heap_alloc_new w _,by simp,by simp⟩

theorem aQ.find (h:aQ P w k b es) (K:Keyed P k) {key:Value} (hkey:∃ l,keyOf P k key = some l) :
  (∃ (j:Nat) (v:Value),es[j]? = some (key,v)/\(Instr.findKey k key (dC es)).run P w = .ok (some (j,v)) w) ∨ ((∀ x ∈ es,x.1 ≠ key)/\(Instr.findKey k key (dC es)).run P w = .ok none w):=by
 obtain ⟨l,hl⟩:=hkey
 rcases K.find w hl (dC es) (fun x hx=>by
  obtain ⟨i,y,hy,rfl⟩:=rD hx
  exact h.2.1 y (List.mem_of_getElem? hy)) with ⟨h1,h2⟩ | ⟨j,e0,h1,h2,h3⟩
 ·refine .inr ⟨fun x hx=>?_,h1⟩
  obtain ⟨i,hi⟩:=List.mem_iff_getElem?.1 hx
  exact h2 ⟨x.1,x.2,i⟩ (List.mem_of_getElem? (i:=i) (by rw [cE,hi]; rfl))
 rw [cE] at h2
 cases hx:es[j]? with
 | none=>rw [hx] at h2; cases h2
 | some x =>
  rw [hx] at h2
  cases h2
  simp only at h3 h1
  refine .inl ⟨j,x.2,?_,h1⟩
  rw [hx,<- h3]

theorem aQ.look (h:aQ P w k b es) (K:Keyed P k)(ht:P.underlying t = some (.map k e)) {z:Value} (hz:(zeroValue e).run P w = .ok z w) {key:Value} (hkey:∃ l,keyOf P k key = some l) (c:Bool) :
  (∃ (j:Nat) (v:Value),es[j]? = some (key,v)/\(Instr.lookup t (.map (some b)) key c).run P w = .ok (if c then .tuple #[v,.bool true] else v) w) ∨ ((∀ x ∈ es,x.1 ≠ key)/\(Instr.lookup t (.map (some b)) key c).run P w = .ok (if c then .tuple #[z,.bool false] else z) w):=by
 obtain ⟨l,hl⟩:=id hkey
 rcases h.find K hkey with ⟨j,v,h1,h2⟩ | ⟨h1,h2⟩
 ·exact .inl ⟨j,v,h1,by simp [Instr.lookup,run_underlying ht,MapKept.run_getObj_map h.1,K.check w _ hl,h2,Result.andThen]⟩
 exact .inr ⟨h1,by simp [Instr.lookup,run_underlying ht,MapKept.run_getObj_map h.1,K.check w _ hl,h2,hz,Result.andThen]⟩

theorem sh {o0:Obj} (h:w.heap[b]? = some o0) (o:Obj):(setBlock w b o).heap[b]? = some o:=by
 have:=(Array.getElem?_eq_some_iff.1 h).1
 simp [setBlock,this]
theorem mq (w:World) {b i:Nat} (hi:i ≠ b) (o:Obj):(setBlock w b o).heap[i]? = w.heap[i]?:=by
 simp only [setBlock]
 rw [Array.getElem?_setIfInBounds_ne (by omega)]
theorem dc (w:World) (b:Nat) (o:Obj):w.grownBy (setBlock w b o) (some b):=⟨rfl,rfl,rfl,by simp [setBlock],fun i _ hi=>mq w (fun e=>hi (by rw [e])) _⟩

theorem aQ.entry (h:aQ P w k b es) (K:Keyed P k)(ht:P.underlying t = some (.map k e)) {z:Value} (hz:(zeroValue e).run P w = .ok z w) {key:Value} (hkey:∃ l,keyOf P k key = some l) :
  (∃ (j:Nat) (v:Value) (w':World),es[j]? = some (key,v)/\(Instr.mapEntry t (.map (some b)) key).run P w = .ok (.tuple #[v,.int .i64 j]) w'/\aQ P w' k b es/\w.grownBy w' (some b)) ∨
  ((∀ x ∈ es,x.1 ≠ key)/\∃ w',(Instr.mapEntry t (.map (some b)) key).run P w = .ok (.tuple #[z,.int .i64 es.length]) w'/\aQ P w' k b (es ++ [(key,z)])/\w.grownBy w' (some b)):=by
 obtain ⟨l,hl⟩:=id hkey
 rcases h.find K hkey with ⟨j,v,h1,h2⟩ | ⟨h1,h2⟩
 ·refine .inl ⟨j,v,setBlock w b (.map (dC es).toArray es.length),h1,?_,⟨sh h.1 _,h.2⟩,dc _ _ _⟩
  have hj:(dC es)[j]? = some ⟨key,v,j⟩:=by rw [cE,h1]; rfl
  have hmod:(dC es).toArray.modify j (fun x=>{ x with key:=key }) = (dC es).toArray:=by
   apply Array.ext_getElem?
   intro i
   rw [Array.getElem?_modify]
   split
   ·next hi=>subst hi; simp [hj]
   rfl
  simp only [Instr.mapEntry,run_underlying ht,Sem.run_bind,Sem.run_pure,Result.andThen_ok,MapKept.run_getObj_map h.1,K.check w _ hl,h2]
  have e1:((((dC es).toArray[j]?).map (·.key)).getD key) = key:=by simp [hj]
  have e2:(((dC es).toArray[j]?).map (fun x=>(x.born:Int))).getD 0 = (j:Int):=by simp [hj]
  rw [e1,e2]
  simp only [K.stays w hl,Result.andThen_ok,hmod,MapKept.run_setObj_map _ h.1]
  rfl
 refine .inr ⟨h1,setBlock w b (.map ((dC es).toArray.push ⟨key,z,es.length⟩) (es.length + 1)),?_,⟨?_,?_,?_⟩,dc _ _ _⟩
 ·simp only [Instr.mapEntry,run_underlying ht,Sem.run_bind,Sem.run_pure,Result.andThen_ok,MapKept.run_getObj_map h.1,K.check w _ hl,h2,hz,MapKept.run_setObj_map _ h.1]
  rfl
 ·rw [sh h.1]
  rw [tN,List.length_append,List.length_singleton]
  simp
 ·intro x hx
  rcases List.mem_append.1 hx with hx | hx
  ·exact h.2.1 x hx
  obtain rfl:=List.mem_singleton.1 hx
  exact ⟨l,hl⟩
 rw [List.map_append,List.map_singleton]
 refine List.nodup_append.2 ⟨h.2.2,by simp,?_⟩
 intro x hx y hy
 obtain rfl:=List.mem_singleton.1 hy
 obtain ⟨p,hp,rfl⟩:=List.mem_map.1 hx
 exact h1 p hp

theorem FJ (es:List (Value × Value)) (j:Nat) (x:Value × Value):dC (es.set j x) = (dC es).set j ⟨x.1,x.2,j⟩:=by
 apply List.ext_getElem?
 intro i
 rw [cE,List.getElem?_set,List.getElem?_set,cE,bV]
 split
 ·next h=>subst h; split <;> rfl
 rfl
theorem aQ.setVal (h:aQ P w k b es) {j:Nat} {key v0:Value} (hj:es[j]? = some (key,v0)) (val:Value) :
  aQ P (setBlock w b (.map ((dC es).set j ⟨key,val,j⟩).toArray es.length)) k b (es.set j (key,val)):=by
 refine ⟨?_,?_,?_⟩
 ·rw [sh h.1,FJ,List.length_set]
 ·intro x hx
  rcases List.mem_or_eq_of_mem_set hx with hx | rfl
  ·exact h.2.1 x hx
  exact h.2.1 (key,v0) (List.mem_of_getElem? hj)
 have e:(es.set j (key,val)).map Prod.fst = es.map Prod.fst:=by
  rw [List.map_set]
  apply List.ext_getElem?
  intro i
  rw [List.getElem?_set]
  split
  ·next hi=>subst hi; simp [hj]; exact (List.getElem?_eq_some_iff.1 hj).1
  rfl
 rw [e]
 exact h.2.2
theorem aQ.store (h:aQ P w k b es) {j:Nat} {key v0:Value} (hj:es[j]? = some (key,v0)) (val:Value) :
  ∃ w',(Instr.entryStore t (.map (some b)) (.int .i64 j) val).run P w = .ok () w'/\aQ P w' k b (es.set j (key,val))/\w.grownBy w' (some b):=by
 refine ⟨_,?_,h.setVal hj val,dc _ _ _⟩
 have hjl:=(List.getElem?_eq_some_iff.1 hj).1
 have hf:(dC es).toArray.findIdx? (fun e=>(e.born:Int) == (j:Int)) = some j:=by
  rw [List.findIdx?_toArray,List.findIdx?_eq_some_iff_getElem]
  refine ⟨by rw [bV]; exact hjl,?_,?_⟩
  ·have:(dC es)[j]? = some ⟨key,v0,j⟩:=by rw [cE,hj]; rfl
   rw [List.getElem?_eq_getElem (by rw [bV]; exact hjl)] at this
   injection this with this
   rw [this]
   simp
  intro i hi
  have hil:i < es.length:=by omega
  have:(dC es)[i]? = some ⟨es[i].1,es[i].2,i⟩:=by rw [cE,List.getElem?_eq_getElem hil]; rfl
  rw [List.getElem?_eq_getElem (by rw [bV]; exact hil)] at this
  injection this with this
  rw [this]
  simp
  omega
 have hmod:(dC es).toArray.modify j (fun x=>{ x with val:=val }) = ((dC es).set j ⟨key,val,j⟩).toArray:=by
  apply Array.ext_getElem?
  intro i
  rw [Array.getElem?_modify]
  simp only [List.getElem?_toArray]
  rw [List.getElem?_set,cE,bV]
  split
  ·next hi=>subst hi; simp [hjl]; exact congrArg Prod.fst (Option.some.inj ((List.getElem?_eq_getElem hjl).symm.trans hj))
  rfl
 simp only [Instr.entryStore,Sem.run_bind,Sem.run_pure,Result.andThen_ok,MapKept.run_getObj_map h.1,asInt,asIntOf,hf,hmod,MapKept.run_setObj_map _ h.1]
 rfl
theorem aQ.update (h:aQ P w k b es) (K:Keyed P k)(ht:P.underlying t = some (.map k e)) {key:Value} (hkey:∃ l,keyOf P k key = some l) (val:Value) :
  (∃ (j:Nat) (v:Value) (w':World),es[j]? = some (key,v)/\(Instr.mapUpdate t (.map (some b)) key val).run P w = .ok () w'/\aQ P w' k b (es.set j (key,val))/\w.grownBy w' (some b)) ∨
  ((∀ x ∈ es,x.1 ≠ key)/\∃ w',(Instr.mapUpdate t (.map (some b)) key val).run P w = .ok () w'/\aQ P w' k b (es ++ [(key,val)])/\w.grownBy w' (some b)):=by
 obtain ⟨l,hl⟩:=id hkey
 rcases h.find K hkey with ⟨j,v,h1,h2⟩ | ⟨h1,h2⟩
 ·refine .inl ⟨j,v,_,h1,?_,h.setVal h1 val,dc _ _ _⟩
  have hj:(dC es)[j]? = some ⟨key,v,j⟩:=by rw [cE,h1]; rfl
  have hjl:=(List.getElem?_eq_some_iff.1 h1).1
  have hmod:(dC es).toArray.modify j (fun x=>{ x with key:=key,val:=val }) = ((dC es).set j ⟨key,val,j⟩).toArray:=by
   apply Array.ext_getElem?
   intro i
   rw [Array.getElem?_modify]
   simp only [List.getElem?_toArray]
   rw [List.getElem?_set,cE,bV]
   split
   ·next hi=>subst hi; simp [hjl]
   rfl
  simp only [Instr.mapUpdate,run_underlying ht,Sem.run_bind,Result.andThen_ok,MapKept.run_getObj_map h.1,K.check w _ hl,h2]
  have e1:((((dC es).toArray[j]?).map (·.key)).getD key) = key:=by simp [hj]
  rw [e1]
  simp only [K.stays w hl,Result.andThen_ok,hmod,MapKept.run_setObj_map _ h.1]
  rfl
 refine .inr ⟨h1,setBlock w b (.map ((dC es).toArray.push ⟨key,val,es.length⟩) (es.length + 1)),?_,⟨?_,?_,?_⟩,dc _ _ _⟩
 ·simp only [Instr.mapUpdate,run_underlying ht,Sem.run_bind,Result.andThen_ok,MapKept.run_getObj_map h.1,K.check w _ hl,h2,MapKept.run_setObj_map _ h.1]
  rfl
 ·rw [sh h.1]
  rw [tN,List.length_append,List.length_singleton]
  simp
 ·intro x hx
  rcases List.mem_append.1 hx with hx | hx
  ·exact h.2.1 x hx
  obtain rfl:=List.mem_singleton.1 hx
  exact ⟨l,hl⟩
 rw [List.map_append,List.map_singleton]
 refine List.nodup_append.2 ⟨h.2.2,by simp,?_⟩
 intro x hx y hy
 obtain rfl:=List.mem_singleton.1 hy
 obtain ⟨p,hp,rfl⟩:=List.mem_map.1 hx
 exact h1 p hp
theorem aQ.len (h:aQ P w k b es)(ht:P.underlying t = some (.map k e)) (ty:TypeId):(Builtin.len_ #[t] ty #[.map (some b)]).run P w = .ok (.int .i64 es.length) w:=by
 simp [Builtin.len_,run_underlying ht,MapKept.run_getObj_map h.1,bV,goInt]
end
end
section
open Go.Maps (Keyed)
open Go.ChangeMaps (setBlock)
open Go.MapKept

def b8 (w:World) (r b n:Nat) (vis:List Nat):Prop:=w.heap[r]? = some (.mapIter (some b) n vis.toArray n)

section
variable {P:Program} {k e t:TypeId} {w:World} {b r:Nat} {es:List (Value × Value)} {vis:List Nat}
theorem b8.lt {n:Nat} (h:b8 w r b n vis):r < w.heap.size:=(Array.getElem?_eq_some_iff.1 h).1
theorem b8.kept {n:Nat} {w':World} {row:Option Nat} (h:b8 w r b n vis)(hg:w.grownBy w' row)(hne:some r ≠ row):b8 w' r b n vis:=(hg.block r h.lt hne).trans h
theorem b8.below {n:Nat} {w':World} (h:b8 w r b n vis)(hb:Below w.heap.size w w'):b8 w' r b n vis:=(hb.block r h.lt).trans h
theorem b8.ne {n:Nat} (h:b8 w r b n vis)(hm:aQ P w k b es):r ≠ b:=by
 intro e
 subst e
 have:=h.symm.trans hm.1
 simp at this

theorem aQ.range (h:aQ P w k b es)(ht:P.underlying t = some (.map k e)) :
  ∃ w',(Instr.range t (.map (some b))).run P w = .ok (.pointer (some ⟨w.heap.size,0,none⟩)) w'/\aQ P w' k b es/\b8 w' w.heap.size b es.length []/\Below w.heap.size w w'/\w'.heap.size = w.heap.size + 1:=by
 exact ⟨_,run_range_map w t k e b _ _ ht h.1,h.alloc _,heap_alloc_new w _,(Below.refl _ w).alloc (Nat.le_refl _) _,by simp⟩

theorem C3 (es:List (Value × Value)):(dC es).map (·.born) = List.range es.length:=by
 apply List.ext_getElem?
 intro i
 rw [List.getElem?_map,cE]
 rcases Nat.lt_or_ge i es.length with h | h
 ·rw [List.getElem?_eq_getElem h,List.getElem?_range h]; rfl
 rw [List.getElem?_eq_none_iff.2 h,List.getElem?_eq_none_iff.2 (by simpa using h)]; rfl

theorem aQ.next (h:aQ P w k b es)(hr:b8 w r b es.length vis) (ty:TypeId) :
  ((∀ j,j < es.length->j ∈ vis)/\(Instr.next (.pointer (some ⟨r,0,none⟩)) false ty).run P w = .ok (.tuple #[.bool false]) w) ∨
  ∃ (j:Nat) (x:Value × Value) (w':World),es[j]? = some x/\j ∉ vis/\(Instr.next (.pointer (some ⟨r,0,none⟩)) false ty).run P w = .ok (.tuple #[.bool true,x.1,x.2]) w'/\aQ P w' k b es/\b8 w' r b es.length (vis ++ [j]) /\
   (Instr.entry (.pointer (some ⟨r,0,none⟩))).run P w' = .ok (.tuple #[x.1,x.2]) w'/\w.grownBy w' (some r)/\w'.heap.size = w.heap.size:=by
 have hne:=hr.ne h
 rcases run_next_at (P:=P) w ty r b es.length es.length vis.toArray (dC es).toArray es.length hr h.1 (fun x hx=>by
  obtain ⟨i,y,hy,rfl⟩:=rD (by simpa using hx)
  exact (List.getElem?_eq_some_iff.1 hy).1) (Nat.le_refl _) with ⟨h0,hrun⟩ | ⟨x,hx,w1,hw1,hrun⟩
 ·refine .inl ⟨fun j hj=>?_,hrun⟩
  have hm:(⟨es[j].1,es[j].2,j⟩:MapEntry) ∈ dC es:=List.mem_of_getElem? (i:=j) (by rw [cE,List.getElem?_eq_getElem hj]; rfl)
  by_cases hv:j ∈ vis
  ·exact hv
  exfalso
  have:(⟨es[j].1,es[j].2,j⟩:MapEntry) ∈ leftOf (dC es).toArray vis.toArray:=by
   unfold leftOf
   simp [hm,hv]
  rw [Array.eq_empty_of_size_eq_zero h0] at this
  simp at this
 unfold leftOf at hx
 simp only [Array.toList_filter,List.mem_filter,Bool.not_eq_true',List.contains_toArray] at hx
 obtain ⟨hx1,hx2⟩:=hx
 obtain ⟨j,y,hy,rfl⟩:=rD (by simpa using hx1)
 have hjv:j ∉ vis:=by simpa using hx2
 have hheap:w1.heap = w.heap:=by rcases hw1 with rfl | rfl <;> rfl
 have hb1:w1.heap[b]? = some (.map (dC es).toArray es.length):=by rw [hheap]; exact h.1
 have hr1:w1.heap[r]? = some (.mapIter (some b) es.length vis.toArray es.length):=by rw [hheap]; exact hr
 have hb2:(setBlock w1 r (.mapIter (some b) es.length (vis.toArray.push j) es.length)).heap[b]? = some (.map (dC es).toArray es.length):=(mq w1 (fun e=>hne e.symm) _).trans hb1
 have hr2:(setBlock w1 r (.mapIter (some b) es.length (vis.toArray.push j) es.length)).heap[r]? = some (.mapIter (some b) es.length (vis.toArray.push j) es.length):=sh hr1 _
 refine .inr ⟨j,y,_,hy,hjv,hrun,⟨hb2,h.2⟩,?_,?_,?_,?_⟩
 ·unfold b8
  rw [hr2]
  simp
 ·exact run_entry_at _ r b es.length vis.toArray (dC es).toArray es.length ⟨y.1,y.2,j⟩ hr2 hb2 (by simpa using hx1) (by
   have:=C3 es
   simp only [List.toList_toArray]
   rw [this]
   exact List.nodup_range)
 ·rcases hw1 with rfl | rfl
  ·exact dc _ _ _
  exact ⟨rfl,rfl,rfl,by simp [setBlock],fun i _ hi=>mq w.drew (fun e=>hi (by rw [e])) _⟩
 rcases hw1 with rfl | rfl <;> simp [setBlock]

theorem jP {ops:Array Oper} {rest:List Oper} {o:Oper} {a:Act} {Q:Exit->Act->World->Prop} (hg:o.guard = none) (m:Operand) (t:TypeId)(hop:o.op = Op.range t m) (k e:TypeId)(ht:P.underlying t = some (.map k e)) (b:Nat) (es:List (Value × Value))
  (hm:a.eval m = .map (some b))(h:aQ P w k b es)
  (hK:∀ w',aQ P w' k b es->b8 w' w.heap.size b es.length []->Below w.heap.size w w'->w'.heap.size = w.heap.size + 1->wpList P ops Q rest (a.put o.dst (.pointer (some ⟨w.heap.size,0,none⟩))) w') :
  wpList P ops Q (o :: rest) a w:=by
 refine wpList_plain hg fun K' hK'=>?_
 obtain ⟨w',hrun,r1,r2,r3,r4⟩:=h.range ht
 unfold Oper.wp
 simp [execOp,hop,hm,hrun,Result.andThen]
 exact hK' _ _ (hK w' r1 r2 r3 r4)
theorem lJ {ops:Array Oper} {rest:List Oper} {o:Oper} {a:Act} {Q:Exit->Act->World->Prop} (hg:o.guard = none) (it:Operand)(hop:o.op = Op.next it false) (k:TypeId) (b r:Nat) (es:List (Value × Value)) (vis:List Nat)
  (hit:a.eval it = .pointer (some ⟨r,0,none⟩))(h:aQ P w k b es)(hr:b8 w r b es.length vis)
  (hDone:(∀ j,j < es.length->j ∈ vis)->wpList P ops Q rest (a.put o.dst (.tuple #[.bool false])) w)
  (hMore:∀ (j:Nat) (x:Value × Value) (w':World),es[j]? = some x->j ∉ vis->aQ P w' k b es->b8 w' r b es.length (vis ++ [j])->(Instr.entry (.pointer (some ⟨r,0,none⟩))).run P w' = .ok (.tuple #[x.1,x.2]) w'->w.grownBy w' (some r)->w'.heap.size = w.heap.size ->
   wpList P ops Q rest (a.put o.dst (.tuple #[.bool true,x.1,x.2])) w') :
  wpList P ops Q (o :: rest) a w:=by
 refine wpList_plain hg fun K' hK'=>?_
 unfold Oper.wp
 rcases h.next hr o.type with ⟨h0,hrun⟩ | ⟨j,x,w',h1,h2,hrun,h3,h4,h5,h6,h7⟩
 ·simp [execOp,hop,hit,hrun,Result.andThen]
  exact hK' _ _ (hDone h0)
 simp [execOp,hop,hit,hrun,Result.andThen]
 exact hK' _ _ (hMore j x w' h1 h2 h3 h4 h5 h6 h7)
end
end
end Go.Proofs.YtkdhppimhdemjaaGreat
