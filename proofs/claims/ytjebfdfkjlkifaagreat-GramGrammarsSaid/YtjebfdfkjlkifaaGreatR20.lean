/- Lemmas. -/
import Derived.Test.YtjebfdfkjlkifaaGreatR19
import Derived.Maps.RangeRun
set_option linter.all false
set_option maxRecDepth 1000000
set_option maxHeartbeats 32000000
namespace Go.Proofs.YtjebfdfkjlkifaaGreat
open Go.RowKit
def aT {α:Type} (P:α->Bool):List α->Nat->Int
 | [],_=>-1
 | x :: l,j=>if P x then (j:Int) else aT P l (j + 1)
theorem gP {α:Type} (P:α->Bool) (l:List α) (j:Nat):decide (0 <= aT P l j) = l.any P:=by
 induction l generalizing j with
 | nil=>simp [aT]
 | cons x l ih =>
  unfold aT
  cases h:P x
  ·simp [h,ih (j + 1)]
  simp [h]
theorem fR {α:Type} (P:α->Bool) {l:List α} {j:Nat} {x:α} (h:l[j]? = some x):aT P (l.drop j) j = if P x then (j:Int) else aT P (l.drop (j + 1)) (j + 1):=by
 have hj:j < l.length:=(sI.1 h).1
 rw [List.drop_eq_getElem_cons hj]
 have:l[j] = x:=by rw [eG hj] at h; injection h
 rw [this]; rfl

theorem sV (w:World) (v:Value) (l:List (Int)) (F:Nat) (caps:Array Value) (P:Int->Bool)(h:IntsAt w v l)(hn:l.length <= 9223372036854775807)(hF:∀ (W:World) (args:Array Value),(callFunc F args).run Tryz.prog W = .ok (.enter F args) W)
  (hf:∀ W x a,Below w.heap.size w W->x ∈ l->a = Value.int .i64 x->Calls Tryz.prog F (#[a] ++ caps) W fun e w'=>e = .returned (.bool (P x))/\Below W.heap.size W w') :
  Calls Tryz.prog 160 #[v,.func (.func F) #[] caps] w fun e w'=>e = .returned (.int .i64 (aT P l 0))/\Below w.heap.size w w':=by
 obtain ⟨A,c,rfl,hlc,hcm,hat⟩:=h.open_
 have HAT:=aH hat
 have HF:=aH hf
 clear h hat hf
 obtain ⟨n,hn'⟩:=nm (l.length)
 have HLN:=aH hn'
 rw [hn'] at hlc hn ⊢
 clear hn'
 go_enter Tryz.func160,Tryz.ntmps160
 go_wp2_with fail
 go_loopg [5,8] n (fun g _ i wr=>∃ (j:Nat),i = .int .i64 j/\j + g = n/\Hd (aT P l 0 = aT P (l.drop j) j)/\Hd (Below w.heap.size w wr))
 case atStart=>exact ⟨0,rfl,by omega,aH rfl,aH (Below.refl _ _)⟩
 obtain ⟨j,rfl,hj,HQ,BEL⟩:=hrel
 have hsz:w.heap.size <= wr.heap.size:=BEL.o.size
 rcases zP gk with h | h
 ·obtain rfl:j = n:=by omega
  have HR:Hd (aT P l 0 = -1):=aH (by rw [HQ.o,dN (by rw [HLN.o]; exact nR _)]; rfl)
  go_wp2_with fail
  go_ret
  exact ⟨ag HR.o.symm,BEL.o⟩
 obtain ⟨g,rfl⟩:∃ g,gk = g + 1:=⟨gk - 1,by omega⟩
 obtain ⟨x,hx⟩:∃ x,l[j]? = some x:=⟨_,eG (by rw [HLN.o]; omega)⟩
 obtain ⟨ba,oa,rfl,hba,e0⟩:=HAT.o j x hx
 have d0:=(BEL.o.cell (p:=⟨ba,oa + j,none⟩) hba).trans e0
 clear e0
 have DR:=aH (fR P hx)
 have HX:=aH hx
 clear hx
 have hlt:(j:Int) < (n:Int):=by omega
 have NC:=HF.o wr x _ BEL.o (mG HX.o) rfl
 cases hd:P x with
 | true =>
  rw [hd] at NC
  have HR:Hd (aT P l 0 = j):=aH (by rw [HQ.o,DR.o,hd,if_pos rfl])
  clear hd
  go_wp2_with fail
  refine NC.mono ?_
  rintro e w1 ⟨rfl,hb1⟩
  have B1:=aH hb1
  clear hb1
  go_wp2_with fail
  go_ret
  exact ⟨ag HR.o.symm,BEL.o.trans (B1.o.mono hsz)⟩
 | false =>
  rw [hd] at NC
  have HR:Hd (aT P l 0 = aT P (l.drop (j + 1)) (j + 1)):=aH (by rw [HQ.o,DR.o,hd]; rfl)
  clear hd
  go_wp2_with fail
  refine NC.mono ?_
  rintro e w1 ⟨rfl,hb1⟩
  have B1:=aH hb1
  clear hb1
  go_wp2_with fail
  go_roundg g
  case measure=>omega
  case rel=>exact ⟨j + 1,rfl,by omega,HR,aH (BEL.o.trans (B1.o.mono hsz))⟩

theorem nB (w:World) (v:Value) (l:List (Int)) (F:Nat) (caps:Array Value) (P:Int->Bool)(h:IntsAt w v l)(hn:l.length <= 9223372036854775807)(hF:∀ (W:World) (args:Array Value),(callFunc F args).run Tryz.prog W = .ok (.enter F args) W)
  (hf:∀ W x a,Below w.heap.size w W->x ∈ l->a = Value.int .i64 x->Calls Tryz.prog F (#[a] ++ caps) W fun e w'=>e = .returned (.bool (P x))/\Below W.heap.size W w') :
  Calls Tryz.prog 133 #[v,.func (.func F) #[] caps] w fun e w'=>e = .returned (.bool (l.any P))/\Below w.heap.size w w':=by
 have IC:=aH (sV w v l F caps P h hn hF hf)
 have HA:=aH (gP P l 0)
 obtain ⟨A,c,rfl,hlc,hcm,_⟩:=h.open_
 clear h hf
 generalize aT P l 0 = r at *
 go_enter Tryz.func133,Tryz.ntmps133
 go_wp2_with fail
 refine IC.o.mono ?_
 rintro e w1 ⟨rfl,hb1⟩
 have B1:=aH hb1
 clear hb1
 go_wp2_with fail
 go_ret
 exact ⟨ai (by rw [<- HA.o]),B1.o⟩

theorem qB (w:World) (v:Value) (l:List (List Int)) (F:Nat) (caps:Array Value) (P:List Int->Bool)(h:ListsAt w v l)(hn:l.length <= 9223372036854775807)(hF:∀ (W:World) (args:Array Value),(callFunc F args).run Tryz.prog W = .ok (.enter F args) W)
  (hf:∀ W x a,Below w.heap.size w W->x ∈ l->IntsAt W a x->Calls Tryz.prog F (#[a] ++ caps) W fun e w'=>e = .returned (.bool (P x))/\Below W.heap.size W w') :
  Calls Tryz.prog 132 #[v,.func (.func F) #[] caps] w fun e w'=>e = .returned (.int .i64 (aT P l 0))/\Below w.heap.size w w':=by
 obtain ⟨A,c,rfl,hlc,hcm,hat⟩:=h.open_
 have HAT:=aH hat
 have HF:=aH hf
 clear h hat hf
 obtain ⟨n,hn'⟩:=nm (l.length)
 have HLN:=aH hn'
 rw [hn'] at hlc hn ⊢
 clear hn'
 go_enter Tryz.func132,Tryz.ntmps132
 go_wp2_with fail
 go_loopg [5,8] n (fun g _ i wr=>∃ (j:Nat),i = .int .i64 j/\j + g = n/\Hd (aT P l 0 = aT P (l.drop j) j)/\Hd (Below w.heap.size w wr))
 case atStart=>exact ⟨0,rfl,by omega,aH rfl,aH (Below.refl _ _)⟩
 obtain ⟨j,rfl,hj,HQ,BEL⟩:=hrel
 have hsz:w.heap.size <= wr.heap.size:=BEL.o.size
 rcases zP gk with h | h
 ·obtain rfl:j = n:=by omega
  have HR:Hd (aT P l 0 = -1):=aH (by rw [HQ.o,dN (by rw [HLN.o]; exact nR _)]; rfl)
  go_wp2_with fail
  go_ret
  exact ⟨ag HR.o.symm,BEL.o⟩
 obtain ⟨g,rfl⟩:∃ g,gk = g + 1:=⟨gk - 1,by omega⟩
 obtain ⟨x,hx⟩:∃ x,l[j]? = some x:=⟨_,eG (by rw [HLN.o]; omega)⟩
 obtain ⟨ba,oa,c0,rfl,hba,e0,hi⟩:=HAT.o j x hx
 have d0:=(BEL.o.cell (p:=⟨ba,oa + j,none⟩) hba).trans e0
 have HI:=aH (hi.below BEL.o)
 clear e0 hi
 have DR:=aH (fR P hx)
 have HX:=aH hx
 clear hx
 have hlt:(j:Int) < (n:Int):=by omega
 have NC:=HF.o wr x c0 BEL.o (mG HX.o) HI.o
 cases hd:P x with
 | true =>
  rw [hd] at NC
  have HR:Hd (aT P l 0 = j):=aH (by rw [HQ.o,DR.o,hd,if_pos rfl])
  clear hd
  go_wp2_with fail
  refine NC.mono ?_
  rintro e w1 ⟨rfl,hb1⟩
  have B1:=aH hb1
  clear hb1
  go_wp2_with fail
  go_ret
  exact ⟨ag HR.o.symm,BEL.o.trans (B1.o.mono hsz)⟩
 | false =>
  rw [hd] at NC
  have HR:Hd (aT P l 0 = aT P (l.drop (j + 1)) (j + 1)):=aH (by rw [HQ.o,DR.o,hd]; rfl)
  clear hd
  go_wp2_with fail
  refine NC.mono ?_
  rintro e w1 ⟨rfl,hb1⟩
  have B1:=aH hb1
  clear hb1
  go_wp2_with fail
  go_roundg g
  case measure=>omega
  case rel=>exact ⟨j + 1,rfl,by omega,HR,aH (BEL.o.trans (B1.o.mono hsz))⟩

theorem eF (w:World) (v:Value) (l:List (List Int)) (F:Nat) (caps:Array Value) (P:List Int->Bool)(h:ListsAt w v l)(hn:l.length <= 9223372036854775807)(hF:∀ (W:World) (args:Array Value),(callFunc F args).run Tryz.prog W = .ok (.enter F args) W)
  (hf:∀ W x a,Below w.heap.size w W->x ∈ l->IntsAt W a x->Calls Tryz.prog F (#[a] ++ caps) W fun e w'=>e = .returned (.bool (P x))/\Below W.heap.size W w') :
  Calls Tryz.prog 75 #[v,.func (.func F) #[] caps] w fun e w'=>e = .returned (.bool (l.any P))/\Below w.heap.size w w':=by
 have IC:=aH (qB w v l F caps P h hn hF hf)
 have HA:=aH (gP P l 0)
 obtain ⟨A,c,rfl,hlc,hcm,_⟩:=h.open_
 clear h hf
 generalize aT P l 0 = r at *
 go_enter Tryz.func75,Tryz.ntmps75
 go_wp2_with fail
 refine IC.o.mono ?_
 rintro e w1 ⟨rfl,hb1⟩
 have B1:=aH hb1
 clear hb1
 go_wp2_with fail
 go_ret
 exact ⟨ai (by rw [<- HA.o]),B1.o⟩

theorem rF (w:World) (o v:Int) :
  Calls Tryz.prog 77 #[.int .i64 o,.int .i64 v] w fun e w'=>e = .returned (.bool (bu o v))/\Below w.heap.size w w':=by
 have HT:Hd (bu o v = (decide (1 <= o) && decide (o <= 4) && decide (1 <= v) && decide (v <= 2000))):=aH rfl
 by_cases h1:1 <= o
 ·have d1:=dT h1
  by_cases h2:o <= 4
  ·have d2:=dT h2
   by_cases h3:1 <= v
   ·have d3:=dT h3
    by_cases h4:v <= 2000
    ·have d4:=dT h4
     have HB:Hd (bu o v = true):=aH (by rw [HT.o,d1,d2,d3,d4]; rfl)
     clear h1 h2 h3 h4
     go_enter Tryz.func77,Tryz.ntmps77
     go_wp2_with fail
     go_ret
     exact ⟨ai HB.o.symm,Below.refl _ _⟩
    have d4:=dF h4
    have HB:Hd (bu o v = false):=aH (by rw [HT.o,d1,d2,d3,d4]; rfl)
    clear h1 h2 h3 h4
    go_enter Tryz.func77,Tryz.ntmps77
    go_wp2_with fail
    go_ret
    exact ⟨ai HB.o.symm,Below.refl _ _⟩
   have d3:=dF h3
   have HB:Hd (bu o v = false):=aH (by rw [HT.o,d1,d2,d3]; rfl)
   clear h1 h2 h3
   go_enter Tryz.func77,Tryz.ntmps77
   go_wp2_with fail
   go_ret
   exact ⟨ai HB.o.symm,Below.refl _ _⟩
  have d2:=dF h2
  have HB:Hd (bu o v = false):=aH (by rw [HT.o,d1,d2]; rfl)
  clear h1 h2
  go_enter Tryz.func77,Tryz.ntmps77
  go_wp2_with fail
  go_ret
  exact ⟨ai HB.o.symm,Below.refl _ _⟩
 have d1:=dF h1
 have HB:Hd (bu o v = false):=aH (by rw [HT.o,d1]; rfl)
 clear h1
 go_enter Tryz.func77,Tryz.ntmps77
 go_wp2_with fail
 go_ret
 exact ⟨ai HB.o.symm,Below.refl _ _⟩

theorem fl (w:World) (v:Value) (l:List Int)(h:IntsAt w v l) :
  Calls Tryz.prog 76 #[v] w fun e w'=>e = .returned (.bool (decide (500 < l.length)))/\Below w.heap.size w w':=by
 obtain ⟨A,c,rfl,hlc,hcm,_⟩:=h.open_
 clear h
 generalize l.length = n at *
 by_cases hd:500 < n
 ·have HD:=aH (dT hd)
  have hi:decide ((500:Int) < (n:Int)) = true:=dT (by omega)
  clear hd
  go_enter Tryz.func76,Tryz.ntmps76
  go_wp2_with fail
  go_ret
  exact ⟨ai HD.o.symm,Below.refl _ _⟩
 have HD:=aH (dF hd)
 have hi:decide ((500:Int) < (n:Int)) = false:=dF (by omega)
 clear hd
 go_enter Tryz.func76,Tryz.ntmps76
 go_wp2_with fail
 go_ret
 exact ⟨ai HD.o.symm,Below.refl _ _⟩

theorem ud (w:World) (x lo hi:Int) (b1 b2:Nat)(h1:w.cell? ⟨b1,0,none⟩ = some (.int .i64 lo))(h2:w.cell? ⟨b2,0,none⟩ = some (.int .i64 hi)) :
  Calls Tryz.prog 134 #[.int .i64 x,.pointer (some ⟨b1,0,none⟩),.pointer (some ⟨b2,0,none⟩)] w fun e w'=>e = .returned (.bool (!(decide (lo <= x) && decide (x <= hi))))/\Below w.heap.size w w':=by
 by_cases d:lo <= x
 ·have HL:=aH (dT d)
  have dl:decide (x < lo) = false:=dF (by omega)
  by_cases d2:x <= hi
  ·have HH:=aH (dT d2)
   have dh:decide (hi < x) = false:=dF (by omega)
   clear d d2
   go_enter Tryz.func134,Tryz.ntmps134
   go_wp2_with fail
   go_ret
   exact ⟨ai (by rw [HL.o,HH.o]; rfl),Below.refl _ _⟩
  have HH:=aH (dF d2)
  have dh:decide (hi < x) = true:=dT (by omega)
  clear d d2
  go_enter Tryz.func134,Tryz.ntmps134
  go_wp2_with fail
  go_ret
  exact ⟨ai (by rw [HL.o,HH.o]; rfl),Below.refl _ _⟩
 have HL:=aH (dF d)
 have dl:decide (x < lo) = true:=dT (by omega)
 clear d
 go_enter Tryz.func134,Tryz.ntmps134
 go_wp2_with fail
 go_ret
 exact ⟨ai (by rw [HL.o]; rfl),Below.refl _ _⟩

theorem u7 (lo hi:Int) (l:List Int):(!l.any fun x=>!(decide (lo <= x) && decide (x <= hi))) = inR lo hi l:=by
 induction l with
 | nil=>rfl
 | cons x l ih =>
  simp only [List.any_cons,inR,List.all_cons] at ih ⊢
  rw [Bool.not_or,Bool.not_not,ih]

theorem gU (w:World) (v:Value) (l:List Int) (lo hi:Int)(h:IntsAt w v l) :
  Calls Tryz.prog 79 #[v,.int .i64 lo,.int .i64 hi] w fun e w'=>e = .returned (.bool (inR lo hi l))/\Below w.heap.size w w':=by
 have HI:=aH h
 have HA:=aH (u7 lo hi l)
 obtain ⟨A,c,rfl,hlc,hcm,_⟩:=h.open_
 clear h
 go_enter Tryz.func79,Tryz.ntmps79
 go_wp2_with fail
 obtain ⟨W,hW,P0,P1,PB,Phs⟩:=cP w 3 [.int .i64 lo] 3 [.int .i64 hi]
 rw [<- hW]
 clear hW
 have CI:=aH (nB W _ l 134 #[.pointer (some ⟨w.heap.size,0,none⟩),.pointer (some ⟨w.heap.size + 1,0,none⟩)] (fun x=>!(decide (lo <= x) && decide (x <= hi))) (HI.o.below PB.o) (by have:=HI.o.le; unfold maxLen at this; omega) (fun _ _=>by kernel_rfl) (fun U x a hb hx e=>by
  subst e
  exact ud U x lo hi _ _ ((P0.o.below' hb).cell 0) ((P1.o.below' hb).cell 0)))
 go_wp2_with fail
 refine CI.o.mono ?_
 rintro e w1 ⟨rfl,hb1⟩
 have B1:=aH (PB.o.trans (hb1.mono (by omega)))
 clear hb1
 go_wp2_with fail
 go_ret
 exact ⟨ai (by have:=HA.o; simpa using this),B1.o⟩
def dG (l:List Int):List Int:=l.map (· + 1) ++ List.replicate (4 - l.length) 0
def aV (l:List Int):Value:=.agg ((dG l).map (Value.int .i64)).toArray
theorem bD {l:List Int} (h:l.length <= 4):(dG l).length = 4:=by simp [dG]; omega
theorem kP {l:List Int} {j:Nat} {x:Int} (h:l.length <= 4)(hx:l[j]? = some x):(dG (l.take j)).set j (x + 1) = dG (l.take (j + 1)):=by
 have hj:=(sI.1 hx).1
 have e1:(l.take j).length = j:=by rw [List.length_take]; omega
 have e2:(l.take (j + 1)).length = j + 1:=by rw [List.length_take]; omega
 unfold dG
 rw [e1,e2,ah l hx,List.set_append_right _ _ (by simp; omega),List.map_append,List.append_assoc]
 congr 1
 rw [List.length_map,e1,Nat.sub_self,show 4 - j = (4 - (j + 1)) + 1 by omega,List.replicate_succ]
 rfl
theorem oK {l:List Int} (h:l.length = 4):∃ a b c d,l = [a,b,c,d]:=by
 match l,h with
 | [a,b,c,d],_=>exact ⟨a,b,c,d,rfl⟩

theorem lS (w:World) (v:Value) (l:List Int)(h:IntsAt w v l)(hl:l.length <= 4)(hb:∀ x ∈ l,-1000000 <= x/\x <= 1000000) :
  Calls Tryz.prog 81 #[v] w fun e w'=>e = .returned (aV l)/\Below w.heap.size w w':=by
 obtain ⟨A,c,rfl,hlc,hcm,hat⟩:=h.open_
 have HAT:=aH hat
 have HB:=aH hb
 have HL:=aH hl
 clear h hat hb
 obtain ⟨n,hn⟩:=nm (l.length)
 rw [hn] at hlc hl ⊢
 have HN:=aH hn
 clear hn
 obtain ⟨k0,k1,k2,k3,hk⟩:=oK (bD HL.o)
 have HK:=aH hk
 clear hk
 go_enter Tryz.func81,Tryz.ntmps81
 go_wp2_with fail
 obtain ⟨W,hW,P0,P1,PB,Phs⟩:=cP w 120 [.int .i64 0,.int .i64 0,.int .i64 0,.int .i64 0] 120 [.int .i64 0,.int .i64 0,.int .i64 0,.int .i64 0]
 rw [<- hW]
 clear hW
 go_loopg [4,5,8] n (fun gh _ _ i wr=>∃ (j:Nat),i = .int .i64 j/\j + gh = n/\Hd (Blk wr (w.heap.size + 1) 120 ((dG (l.take j)).map (Value.int .i64)))/\Hd (Blk wr w.heap.size 120 [.int .i64 0,.int .i64 0,.int .i64 0,.int .i64 0])/\Hd (Below w.heap.size w wr))
 case atStart=>exact ⟨0,rfl,by omega,P1,P0,PB⟩
 obtain ⟨j,rfl,hj,BK,R0,BEL⟩:=hrel
 rcases zP gk with h | h
 ·obtain rfl:j = n:=by omega
  have HE:Hd ((dG (l.take j)).map (Value.int .i64) = [.int .i64 k0,.int .i64 k1,.int .i64 k2,.int .i64 k3]):=aH (by
   rw [tL (by rw [HN.o]; exact nR _),HK.o]; rfl)
  have BK2:Hd (Blk wr (w.heap.size + 1) 120 [.int .i64 k0,.int .i64 k1,.int .i64 k2,.int .i64 k3]):=aH (by rw [<- HE.o]; exact BK.o)
  have b0:=BK2.o.cell 0
  have b1:=BK2.o.cell 1
  have b2:=BK2.o.cell 2
  have b3:=BK2.o.cell 3
  have r0:=R0.o.cell 0
  have r1:=R0.o.cell 1
  have r2:=R0.o.cell 2
  have r3:=R0.o.cell 3
  have z0:=R0.o.frozen 0
  have z1:=R0.o.frozen 1
  have z2:=R0.o.frozen 2
  have z3:=R0.o.frozen 3
  simp only [List.getElem?_cons_zero,List.getElem?_cons_succ] at b0 b1 b2 b3 r0 r1 r2 r3
  go_wp2_with fail
  refine bodyPost_ret (v:=.agg #[.int .i64 k0,.int .i64 k1,.int .i64 k2,.int .i64 k3]) (by simp [results,Tryz.results81,go_sem,r0,r1,r2,r3]) rfl ⟨by unfold aV; rw [HK.o]; rfl,?_⟩
  exact (((BEL.o.setCell (p:=⟨w.heap.size,0,none⟩) (nR _) _).setCell (p:=⟨w.heap.size,1,none⟩) (nR _) _).setCell (p:=⟨w.heap.size,2,none⟩) (nR _) _).setCell (p:=⟨w.heap.size,3,none⟩) (nR _) _
 obtain ⟨g,rfl⟩:∃ g,gk = g + 1:=⟨gk - 1,by omega⟩
 obtain ⟨x,hx⟩:∃ x,l[j]? = some x:=⟨_,eG (by rw [HN.o]; omega)⟩
 obtain ⟨ba,oa,rfl,hba,e0⟩:=HAT.o j x hx
 have d0:=(BEL.o.cell (p:=⟨ba,oa + j,none⟩) hba).trans e0
 have hxb:=HB.o x (mG hx)
 have ST:=aH (kP HL.o hx)
 have hlt4:j < ((dG (l.take j)).map (Value.int .i64)).length:=by rw [List.length_map,bD (by rw [List.length_take]; omega)]; omega
 obtain ⟨u,hu⟩:∃ u,((dG (l.take j)).map (Value.int .i64))[j]? = some u:=⟨_,eG hlt4⟩
 have b0:wr.cell? ⟨w.heap.size + 1,j,none⟩ = some u:=(BK.o.cell j).trans hu
 have z0:=BK.o.frozen j
 clear hx e0 hlt4 hu
 go_wp2_with fail
 go_roundg g
 case measure=>omega
 case rel=>exact ⟨j + 1,rfl,by omega,aH (by have:=BK.o.set_ j (.int .i64 (x + 1)); rw [<- List.map_set,ST.o] at this; exact this),aH (R0.o.far (p:=⟨w.heap.size + 1,j,none⟩) (by show w.heap.size ≠ w.heap.size + 1; omega) _),aH (BEL.o.setCell (p:=⟨w.heap.size + 1,j,none⟩) (by show w.heap.size <= w.heap.size + 1; omega) _)⟩
section
open Go.Maps (Keyed)
open Go.ChangeMaps (setBlock)
open Go.MapKept

def cH (es:List (Value × Value)):List MapEntry:=es.mapIdx fun i e=>⟨e.1,e.2,i⟩
def MapAt (P:Program) (w:World) (k:TypeId) (b:Nat) (es:List (Value × Value)):Prop :=
 w.heap[b]? = some (.map (cH es).toArray es.length)/\(∀ e ∈ es,∃ l,keyOf P k e.1 = some l)/\(es.map Prod.fst).Nodup
theorem bG (es:List (Value × Value)) (i:Nat):(cH es)[i]? = (es[i]?).map fun e=>⟨e.1,e.2,i⟩:=by
 unfold cH
 rw [List.getElem?_mapIdx]
theorem jQ {es:List (Value × Value)} {e:MapEntry} (h:e ∈ cH es):∃ i x,es[i]? = some x/\e = ⟨x.1,x.2,i⟩:=by
 obtain ⟨i,hi⟩:=List.mem_iff_getElem?.1 h
 rw [bG] at hi
 cases hx:es[i]? with
 | none=>rw [hx] at hi; cases hi
 | some x=>rw [hx] at hi; cases hi; exact ⟨i,x,hx,rfl⟩
theorem aZ (es:List (Value × Value)):(cH es).length = es.length:=by simp [cH]
theorem kX (es:List (Value × Value)) (x:Value × Value):cH (es ++ [x]) = cH es ++ [⟨x.1,x.2,es.length⟩]:=by
 apply List.ext_getElem?
 intro i
 rw [bG]
 rcases Nat.lt_trichotomy i es.length with h | h | h
 ·rw [List.getElem?_append_left h,List.getElem?_append_left (by rw [aZ]; exact h),bG]
 ·subst h
  rw [List.getElem?_append_right (nR _),List.getElem?_append_right (by rw [aZ]; exact nR _)]
  simp [aZ]
 rw [List.getElem?_append_right (by omega),List.getElem?_append_right (by rw [aZ]; omega),nI.2 (by simp; omega),nI.2 (by simp [aZ]; omega)]
 rfl

section
variable {P:Program} {k e t:TypeId} {w:World} {b:Nat} {es:List (Value × Value)}
theorem MapAt.lt (h:MapAt P w k b es):b < w.heap.size:=(Array.getElem?_eq_some_iff.1 h.1).1
theorem MapAt.kept {w':World} {row:Option Nat} (h:MapAt P w k b es)(hg:w.grownBy w' row)(hne:some b ≠ row):MapAt P w' k b es:=⟨(hg.block b h.lt hne).trans h.1,h.2⟩
theorem MapAt.below {w':World} (h:MapAt P w k b es)(hb:Below w.heap.size w w'):MapAt P w' k b es:=⟨(hb.block b h.lt).trans h.1,h.2⟩
theorem MapAt.drew (h:MapAt P w k b es):MapAt P w.drew k b es:=h
theorem MapAt.alloc (h:MapAt P w k b es) (o:Obj):MapAt P (w.alloc o) k b es:=h.below ((Below.refl _ w).alloc (nR _) o)
theorem MapAt.far (h:MapAt P w k b es) {p:Addr} (hp:b ≠ p.block) (u:Value):MapAt P (w.setCell p u) k b es:=⟨(Below.heap_setCell w p u b hp).trans h.1,h.2⟩
theorem MapAt.made (P:Program) (w:World) (k:TypeId):MapAt P (w.alloc (.map #[] 0)) k w.heap.size []:=⟨heap_alloc_new w _,by simp,by simp⟩

theorem MapAt.find (h:MapAt P w k b es) (K:Keyed P k) {key:Value} (hkey:∃ l,keyOf P k key = some l) :
  (∃ (j:Nat) (v:Value),es[j]? = some (key,v)/\(Instr.findKey k key (cH es)).run P w = .ok (some (j,v)) w) ∨ ((∀ x ∈ es,x.1 ≠ key)/\(Instr.findKey k key (cH es)).run P w = .ok none w):=by
 obtain ⟨l,hl⟩:=hkey
 rcases K.find w hl (cH es) (fun x hx=>by
  obtain ⟨i,y,hy,rfl⟩:=jQ hx
  exact h.2.1 y (mG hy)) with ⟨h1,h2⟩ | ⟨j,e0,h1,h2,h3⟩
 ·refine .inr ⟨fun x hx=>?_,h1⟩
  obtain ⟨i,hi⟩:=List.mem_iff_getElem?.1 hx
  exact h2 ⟨x.1,x.2,i⟩ (mG (i:=i) (by rw [bG,hi]; rfl))
 rw [bG] at h2
 cases hx:es[j]? with
 | none=>rw [hx] at h2; cases h2
 | some x =>
  rw [hx] at h2
  cases h2
  simp only at h3 h1
  refine .inl ⟨j,x.2,?_,h1⟩
  rw [hx,<- h3]

theorem MapAt.look (h:MapAt P w k b es) (K:Keyed P k)(ht:P.underlying t = some (.map k e)) {z:Value} (hz:(zeroValue e).run P w = .ok z w) {key:Value} (hkey:∃ l,keyOf P k key = some l) (c:Bool) :
  (∃ (j:Nat) (v:Value),es[j]? = some (key,v)/\(Instr.lookup t (.map (some b)) key c).run P w = .ok (if c then .tuple #[v,.bool true] else v) w) ∨ ((∀ x ∈ es,x.1 ≠ key)/\(Instr.lookup t (.map (some b)) key c).run P w = .ok (if c then .tuple #[z,.bool false] else z) w):=by
 obtain ⟨l,hl⟩:=id hkey
 rcases h.find K hkey with ⟨j,v,h1,h2⟩ | ⟨h1,h2⟩
 ·exact .inl ⟨j,v,h1,by simp [Instr.lookup,run_underlying ht,MapKept.run_getObj_map h.1,K.check w _ hl,h2,Result.andThen]⟩
 exact .inr ⟨h1,by simp [Instr.lookup,run_underlying ht,MapKept.run_getObj_map h.1,K.check w _ hl,h2,hz,Result.andThen]⟩

theorem jH {o0:Obj} (h:w.heap[b]? = some o0) (o:Obj):(setBlock w b o).heap[b]? = some o:=by
 have:=(Array.getElem?_eq_some_iff.1 h).1
 simp [setBlock,this]
theorem gM (w:World) {b i:Nat} (hi:i ≠ b) (o:Obj):(setBlock w b o).heap[i]? = w.heap[i]?:=by
 simp only [setBlock]
 rw [Array.getElem?_setIfInBounds_ne (by omega)]
theorem bW (w:World) (b:Nat) (o:Obj):w.grownBy (setBlock w b o) (some b):=⟨rfl,rfl,rfl,by simp [setBlock],fun i _ hi=>gM w (fun e=>hi (by rw [e])) _⟩

theorem MapAt.entry (h:MapAt P w k b es) (K:Keyed P k)(ht:P.underlying t = some (.map k e)) {z:Value} (hz:(zeroValue e).run P w = .ok z w) {key:Value} (hkey:∃ l,keyOf P k key = some l) :
  (∃ (j:Nat) (v:Value) (w':World),es[j]? = some (key,v)/\(Instr.mapEntry t (.map (some b)) key).run P w = .ok (.tuple #[v,.int .i64 j]) w'/\MapAt P w' k b es/\w.grownBy w' (some b)) ∨
  ((∀ x ∈ es,x.1 ≠ key)/\∃ w',(Instr.mapEntry t (.map (some b)) key).run P w = .ok (.tuple #[z,.int .i64 es.length]) w'/\MapAt P w' k b (es ++ [(key,z)])/\w.grownBy w' (some b)):=by
 obtain ⟨l,hl⟩:=id hkey
 rcases h.find K hkey with ⟨j,v,h1,h2⟩ | ⟨h1,h2⟩
 ·refine .inl ⟨j,v,setBlock w b (.map (cH es).toArray es.length),h1,?_,⟨jH h.1 _,h.2⟩,bW _ _ _⟩
  have hj:(cH es)[j]? = some ⟨key,v,j⟩:=by rw [bG,h1]; rfl
  have hmod:(cH es).toArray.modify j (fun x=>{ x with key:=key }) = (cH es).toArray:=by
   apply Array.ext_getElem?
   intro i
   rw [Array.getElem?_modify]
   split
   ·next hi=>subst hi; simp [hj]
   rfl
  simp only [Instr.mapEntry,run_underlying ht,Sem.run_bind,Sem.run_pure,Result.andThen_ok,MapKept.run_getObj_map h.1,K.check w _ hl,h2]
  have e1:((((cH es).toArray[j]?).map (·.key)).getD key) = key:=by simp [hj]
  have e2:(((cH es).toArray[j]?).map (fun x=>(x.born:Int))).getD 0 = (j:Int):=by simp [hj]
  rw [e1,e2]
  simp only [K.stays w hl,Result.andThen_ok,hmod,MapKept.run_setObj_map _ h.1]
  rfl
 refine .inr ⟨h1,setBlock w b (.map ((cH es).toArray.push ⟨key,z,es.length⟩) (es.length + 1)),?_,⟨?_,?_,?_⟩,bW _ _ _⟩
 ·simp only [Instr.mapEntry,run_underlying ht,Sem.run_bind,Sem.run_pure,Result.andThen_ok,MapKept.run_getObj_map h.1,K.check w _ hl,h2,hz,MapKept.run_setObj_map _ h.1]
  rfl
 ·rw [jH h.1]
  rw [kX,List.length_append,List.length_singleton]
  simp
 ·intro x hx
  rcases List.mem_append.1 hx with hx | hx
  ·exact h.2.1 x hx
  obtain rfl:=List.mem_singleton.1 hx
  exact ⟨l,hl⟩
 rw [List.map_append,List.map_singleton]
 refine List.nodup_append.2 ⟨h.2.2,by simp,?_⟩
 intro x hx y hy
 obtain rfl:=List.mem_singleton.1 hy
 obtain ⟨p,hp,rfl⟩:=List.mem_map.1 hx
 exact h1 p hp

theorem tB (es:List (Value × Value)) (j:Nat) (x:Value × Value):cH (es.set j x) = (cH es).set j ⟨x.1,x.2,j⟩:=by
 apply List.ext_getElem?
 intro i
 rw [bG,List.getElem?_set,List.getElem?_set,bG,aZ]
 split
 ·next h=>subst h; split <;> rfl
 rfl
theorem MapAt.setVal (h:MapAt P w k b es) {j:Nat} {key v0:Value} (hj:es[j]? = some (key,v0)) (val:Value) :
  MapAt P (setBlock w b (.map ((cH es).set j ⟨key,val,j⟩).toArray es.length)) k b (es.set j (key,val)):=by
 refine ⟨?_,?_,?_⟩
 ·rw [jH h.1,tB,List.length_set]
 ·intro x hx
  rcases List.mem_or_eq_of_mem_set hx with hx | rfl
  ·exact h.2.1 x hx
  exact h.2.1 (key,v0) (mG hj)
 have e:(es.set j (key,val)).map Prod.fst = es.map Prod.fst:=by
  rw [List.map_set]
  apply List.ext_getElem?
  intro i
  rw [List.getElem?_set]
  split
  ·next hi=>subst hi; simp [hj]; exact (sI.1 hj).1
  rfl
 rw [e]
 exact h.2.2
theorem MapAt.store (h:MapAt P w k b es) {j:Nat} {key v0:Value} (hj:es[j]? = some (key,v0)) (val:Value) :
  ∃ w',(Instr.entryStore t (.map (some b)) (.int .i64 j) val).run P w = .ok () w'/\MapAt P w' k b (es.set j (key,val))/\w.grownBy w' (some b):=by
 refine ⟨_,?_,h.setVal hj val,bW _ _ _⟩
 have hjl:=(sI.1 hj).1
 have hf:(cH es).toArray.findIdx? (fun e=>(e.born:Int) == (j:Int)) = some j:=by
  rw [List.findIdx?_toArray,List.findIdx?_eq_some_iff_getElem]
  refine ⟨by rw [aZ]; exact hjl,?_,?_⟩
  ·have:(cH es)[j]? = some ⟨key,v0,j⟩:=by rw [bG,hj]; rfl
   rw [eG (by rw [aZ]; exact hjl)] at this
   injection this with this
   rw [this]
   simp
  intro i hi
  have hil:i < es.length:=by omega
  have:(cH es)[i]? = some ⟨es[i].1,es[i].2,i⟩:=by rw [bG,eG hil]; rfl
  rw [eG (by rw [aZ]; exact hil)] at this
  injection this with this
  rw [this]
  simp
  omega
 have hmod:(cH es).toArray.modify j (fun x=>{ x with val:=val }) = ((cH es).set j ⟨key,val,j⟩).toArray:=by
  apply Array.ext_getElem?
  intro i
  rw [Array.getElem?_modify]
  simp only [List.getElem?_toArray]
  rw [List.getElem?_set,bG,aZ]
  split
  ·next hi=>subst hi; simp [hjl]; exact congrArg Prod.fst (Option.some.inj ((eG hjl).symm.trans hj))
  rfl
 simp only [Instr.entryStore,Sem.run_bind,Sem.run_pure,Result.andThen_ok,MapKept.run_getObj_map h.1,asInt,asIntOf,hf,hmod,MapKept.run_setObj_map _ h.1]
 rfl
theorem MapAt.update (h:MapAt P w k b es) (K:Keyed P k)(ht:P.underlying t = some (.map k e)) {key:Value} (hkey:∃ l,keyOf P k key = some l) (val:Value) :
  (∃ (j:Nat) (v:Value) (w':World),es[j]? = some (key,v)/\(Instr.mapUpdate t (.map (some b)) key val).run P w = .ok () w'/\MapAt P w' k b (es.set j (key,val))/\w.grownBy w' (some b)) ∨
  ((∀ x ∈ es,x.1 ≠ key)/\∃ w',(Instr.mapUpdate t (.map (some b)) key val).run P w = .ok () w'/\MapAt P w' k b (es ++ [(key,val)])/\w.grownBy w' (some b)):=by
 obtain ⟨l,hl⟩:=id hkey
 rcases h.find K hkey with ⟨j,v,h1,h2⟩ | ⟨h1,h2⟩
 ·refine .inl ⟨j,v,_,h1,?_,h.setVal h1 val,bW _ _ _⟩
  have hj:(cH es)[j]? = some ⟨key,v,j⟩:=by rw [bG,h1]; rfl
  have hjl:=(sI.1 h1).1
  have hmod:(cH es).toArray.modify j (fun x=>{ x with key:=key,val:=val }) = ((cH es).set j ⟨key,val,j⟩).toArray:=by
   apply Array.ext_getElem?
   intro i
   rw [Array.getElem?_modify]
   simp only [List.getElem?_toArray]
   rw [List.getElem?_set,bG,aZ]
   split
   ·next hi=>subst hi; simp [hjl]
   rfl
  simp only [Instr.mapUpdate,run_underlying ht,Sem.run_bind,Result.andThen_ok,MapKept.run_getObj_map h.1,K.check w _ hl,h2]
  have e1:((((cH es).toArray[j]?).map (·.key)).getD key) = key:=by simp [hj]
  rw [e1]
  simp only [K.stays w hl,Result.andThen_ok,hmod,MapKept.run_setObj_map _ h.1]
  rfl
 refine .inr ⟨h1,setBlock w b (.map ((cH es).toArray.push ⟨key,val,es.length⟩) (es.length + 1)),?_,⟨?_,?_,?_⟩,bW _ _ _⟩
 ·simp only [Instr.mapUpdate,run_underlying ht,Sem.run_bind,Result.andThen_ok,MapKept.run_getObj_map h.1,K.check w _ hl,h2,MapKept.run_setObj_map _ h.1]
  rfl
 ·rw [jH h.1]
  rw [kX,List.length_append,List.length_singleton]
  simp
 ·intro x hx
  rcases List.mem_append.1 hx with hx | hx
  ·exact h.2.1 x hx
  obtain rfl:=List.mem_singleton.1 hx
  exact ⟨l,hl⟩
 rw [List.map_append,List.map_singleton]
 refine List.nodup_append.2 ⟨h.2.2,by simp,?_⟩
 intro x hx y hy
 obtain rfl:=List.mem_singleton.1 hy
 obtain ⟨p,hp,rfl⟩:=List.mem_map.1 hx
 exact h1 p hp
theorem MapAt.len (h:MapAt P w k b es)(ht:P.underlying t = some (.map k e)) (ty:TypeId):(Builtin.len_ #[t] ty #[.map (some b)]).run P w = .ok (.int .i64 es.length) w:=by
 simp [Builtin.len_,run_underlying ht,MapKept.run_getObj_map h.1,aZ,goInt]
end
end
section
open Go.Maps (Keyed)
open Go.ChangeMaps (setBlock)
open Go.MapKept

def IterAt (w:World) (r b n:Nat) (vis:List Nat):Prop:=w.heap[r]? = some (.mapIter (some b) n vis.toArray n)

section
variable {P:Program} {k e t:TypeId} {w:World} {b r:Nat} {es:List (Value × Value)} {vis:List Nat}
theorem IterAt.lt {n:Nat} (h:IterAt w r b n vis):r < w.heap.size:=(Array.getElem?_eq_some_iff.1 h).1
theorem IterAt.kept {n:Nat} {w':World} {row:Option Nat} (h:IterAt w r b n vis)(hg:w.grownBy w' row)(hne:some r ≠ row):IterAt w' r b n vis:=(hg.block r h.lt hne).trans h
theorem IterAt.below {n:Nat} {w':World} (h:IterAt w r b n vis)(hb:Below w.heap.size w w'):IterAt w' r b n vis:=(hb.block r h.lt).trans h
theorem IterAt.far {n:Nat} (h:IterAt w r b n vis) {p:Addr} (hp:r ≠ p.block) (u:Value):IterAt (w.setCell p u) r b n vis:=(Below.heap_setCell w p u r hp).trans h
theorem IterAt.ne {n:Nat} (h:IterAt w r b n vis)(hm:MapAt P w k b es):r ≠ b:=by
 intro e
 subst e
 have:=h.symm.trans hm.1
 simp at this

theorem MapAt.range (h:MapAt P w k b es)(ht:P.underlying t = some (.map k e)) :
  ∃ w',(Instr.range t (.map (some b))).run P w = .ok (.pointer (some ⟨w.heap.size,0,none⟩)) w'/\MapAt P w' k b es/\IterAt w' w.heap.size b es.length []/\Below w.heap.size w w'/\w'.heap.size = w.heap.size + 1:=by
 exact ⟨_,run_range_map w t k e b _ _ ht h.1,h.alloc _,heap_alloc_new w _,(Below.refl _ w).alloc (nR _) _,by simp⟩

theorem qK (es:List (Value × Value)):(cH es).map (·.born) = List.range es.length:=by
 apply List.ext_getElem?
 intro i
 rw [List.getElem?_map,bG]
 rcases Nat.lt_or_ge i es.length with h | h
 ·rw [eG h,List.getElem?_range h]; rfl
 rw [nI.2 h,nI.2 (by simpa using h)]; rfl

theorem MapAt.next (h:MapAt P w k b es)(hr:IterAt w r b es.length vis) (ty:TypeId) :
  ((∀ j,j < es.length->j ∈ vis)/\(Instr.next (.pointer (some ⟨r,0,none⟩)) false ty).run P w = .ok (.tuple #[.bool false]) w) ∨
  ∃ (j:Nat) (x:Value × Value) (w':World),es[j]? = some x/\j ∉ vis/\(Instr.next (.pointer (some ⟨r,0,none⟩)) false ty).run P w = .ok (.tuple #[.bool true,x.1,x.2]) w'/\MapAt P w' k b es/\IterAt w' r b es.length (vis ++ [j]) /\
   (Instr.entry (.pointer (some ⟨r,0,none⟩))).run P w' = .ok (.tuple #[x.1,x.2]) w'/\w.grownBy w' (some r)/\w'.heap.size = w.heap.size:=by
 have hne:=hr.ne h
 rcases run_next_at (P:=P) w ty r b es.length es.length vis.toArray (cH es).toArray es.length hr h.1 (fun x hx=>by
  obtain ⟨i,y,hy,rfl⟩:=jQ (by simpa using hx)
  exact (sI.1 hy).1) (nR _) with ⟨h0,hrun⟩ | ⟨x,hx,w1,hw1,hrun⟩
 ·refine .inl ⟨fun j hj=>?_,hrun⟩
  have hm:(⟨es[j].1,es[j].2,j⟩:MapEntry) ∈ cH es:=mG (i:=j) (by rw [bG,eG hj]; rfl)
  by_cases hv:j ∈ vis
  ·exact hv
  exfalso
  have:(⟨es[j].1,es[j].2,j⟩:MapEntry) ∈ leftOf (cH es).toArray vis.toArray:=by
   unfold leftOf
   simp [hm,hv]
  rw [Array.eq_empty_of_size_eq_zero h0] at this
  simp at this
 unfold leftOf at hx
 simp only [Array.toList_filter,List.mem_filter,Bool.not_eq_true',List.contains_toArray] at hx
 obtain ⟨hx1,hx2⟩:=hx
 obtain ⟨j,y,hy,rfl⟩:=jQ (by simpa using hx1)
 have hjv:j ∉ vis:=by simpa using hx2
 have hheap:w1.heap = w.heap:=by rcases hw1 with rfl | rfl <;> rfl
 have hb1:w1.heap[b]? = some (.map (cH es).toArray es.length):=by rw [hheap]; exact h.1
 have hr1:w1.heap[r]? = some (.mapIter (some b) es.length vis.toArray es.length):=by rw [hheap]; exact hr
 have hb2:(setBlock w1 r (.mapIter (some b) es.length (vis.toArray.push j) es.length)).heap[b]? = some (.map (cH es).toArray es.length):=(gM w1 (fun e=>hne e.symm) _).trans hb1
 have hr2:(setBlock w1 r (.mapIter (some b) es.length (vis.toArray.push j) es.length)).heap[r]? = some (.mapIter (some b) es.length (vis.toArray.push j) es.length):=jH hr1 _
 refine .inr ⟨j,y,_,hy,hjv,hrun,⟨hb2,h.2⟩,?_,?_,?_,?_⟩
 ·unfold IterAt
  rw [hr2]
  simp
 ·exact run_entry_at _ r b es.length vis.toArray (cH es).toArray es.length ⟨y.1,y.2,j⟩ hr2 hb2 (by simpa using hx1) (by
   have:=qK es
   simp only [List.toList_toArray]
   rw [this]
   exact List.nodup_range)
 ·rcases hw1 with rfl | rfl
  ·exact bW _ _ _
  exact ⟨rfl,rfl,rfl,by simp [setBlock],fun i _ hi=>gM w.drew (fun e=>hi (by rw [e])) _⟩
 rcases hw1 with rfl | rfl <;> simp [setBlock]

theorem eJ {ops:Array Oper} {rest:List Oper} {o:Oper} {a:Act} {Q:Exit->Act->World->Prop} (hg:o.guard = none) (m:Operand) (t:TypeId)(hop:o.op = Op.range t m) (k e:TypeId)(ht:P.underlying t = some (.map k e)) (b:Nat) (es:List (Value × Value))
  (hm:a.eval m = .map (some b))(h:MapAt P w k b es)
  (hK:∀ w',MapAt P w' k b es->IterAt w' w.heap.size b es.length []->Below w.heap.size w w'->w'.heap.size = w.heap.size + 1->wpList P ops Q rest (a.put o.dst (.pointer (some ⟨w.heap.size,0,none⟩))) w') :
  wpList P ops Q (o :: rest) a w:=by
 refine wpList_plain hg fun K' hK'=>?_
 obtain ⟨w',hrun,r1,r2,r3,r4⟩:=h.range ht
 unfold Oper.wp
 simp [execOp,hop,hm,hrun,Result.andThen]
 exact hK' _ _ (hK w' r1 r2 r3 r4)
theorem fe {ops:Array Oper} {rest:List Oper} {o:Oper} {a:Act} {Q:Exit->Act->World->Prop} (hg:o.guard = none) (it:Operand)(hop:o.op = Op.next it false) (k:TypeId) (b r:Nat) (es:List (Value × Value)) (vis:List Nat)
  (hit:a.eval it = .pointer (some ⟨r,0,none⟩))(h:MapAt P w k b es)(hr:IterAt w r b es.length vis)
  (hDone:(∀ j,j < es.length->j ∈ vis)->wpList P ops Q rest (a.put o.dst (.tuple #[.bool false])) w)
  (hMore:∀ (j:Nat) (x:Value × Value) (w':World),es[j]? = some x->j ∉ vis->MapAt P w' k b es->IterAt w' r b es.length (vis ++ [j])->(Instr.entry (.pointer (some ⟨r,0,none⟩))).run P w' = .ok (.tuple #[x.1,x.2]) w'->w.grownBy w' (some r)->w'.heap.size = w.heap.size ->
   wpList P ops Q rest (a.put o.dst (.tuple #[.bool true,x.1,x.2])) w') :
  wpList P ops Q (o :: rest) a w:=by
 refine wpList_plain hg fun K' hK'=>?_
 unfold Oper.wp
 rcases h.next hr o.type with ⟨h0,hrun⟩ | ⟨j,x,w',h1,h2,hrun,h3,h4,h5,h6,h7⟩
 ·simp [execOp,hop,hit,hrun,Result.andThen]
  exact hK' _ _ (hDone h0)
 simp [execOp,hop,hit,hrun,Result.andThen]
 exact hK' _ _ (hMore j x w' h1 h2 h3 h4 h5 h6 h7)
end
end
end Go.Proofs.YtjebfdfkjlkifaaGreat
