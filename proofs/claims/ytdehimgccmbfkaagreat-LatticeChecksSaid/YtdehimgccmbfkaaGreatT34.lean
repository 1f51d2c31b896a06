/- Lemmas on the way: Gm4, Gm5, Gm6, Gm7, Gm8, MapK. -/
import Derived.Test.YtdehimgccmbfkaaGreatT33
import Derived.Maps.RangeRun
set_option linter.all false
set_option maxRecDepth 1000000
set_option maxHeartbeats 32000000
namespace Go.Proofs.YtdehimgccmbfkaaGreat
open Go.RowKit
def ListsAt (w:World) (v:Value) (ls:List (List Int)):Prop:=∃ cells,Sl w 1 v ls.length cells/\∀ (i:Nat) (l:List Int),ls[i]? = some l->∃ c0,cells[i]? = some c0/\IntsAt w c0 l
theorem ListsAt.below {w w':World} {v:Value} {ls:List (List Int)} (h:ListsAt w v ls)(hb:Below w.heap.size w w'):ListsAt w' v ls:=by
 obtain ⟨cells,h1,h2⟩:=h
 refine ⟨cells,h1.below hb,fun i l hl=>?_⟩
 obtain ⟨c0,e0,e1⟩:=h2 i l hl
 exact ⟨c0,e0,e1.below hb⟩
theorem ListsAt.open_ {w:World} {v:Value} {ls:List (List Int)} (h:ListsAt w v ls):∃ A c,v = .slice A ls.length c/\ls.length <= c/\c <= 9223372036854775807 /\
  ∀ j l,ls[j]? = some l->∃ b off c0,A = some ⟨b,off,none⟩/\b < w.heap.size/\w.cell? ⟨b,off + j,none⟩ = some c0/\IntsAt w c0 l:=by
 obtain ⟨cells,h1,h2⟩:=h
 obtain ⟨h0,A,c,rfl,hc,hm,h5⟩:=h1
 refine ⟨A,c,rfl,hc,by unfold maxLen at hm; omega,fun j x hx=>?_⟩
 have hj:=(List.getElem?_eq_some_iff.1 hx).1
 obtain ⟨b,off,e,hlt,hcell⟩:=h5 (by omega)
 obtain ⟨c0,e0,hf⟩:=h2 j x hx
 exact ⟨b,off,c0,e,hlt,hcell _ _ e0,hf⟩

def ListsNew (F:Nat) (w:World) (v:Value) (ls:List (List Int)):Prop:=∃ cells,Sl w 1 v ls.length cells/\From v F/\∀ (i:Nat) (l:List Int),ls[i]? = some l->∃ c0,cells[i]? = some c0/\IntsAt w c0 l/\From c0 F
theorem ListsNew.at_ {F:Nat} {w:World} {v:Value} {ls:List (List Int)} (h:ListsNew F w v ls):ListsAt w v ls:=by
 obtain ⟨cells,h1,_,h2⟩:=h
 exact ⟨cells,h1,fun i l hl=>by
  obtain ⟨c0,e0,e1,_⟩:=h2 i l hl
  exact ⟨c0,e0,e1⟩⟩
def Same (F:Nat) (w w':World):Prop:=w.heap.size <= w'.heap.size/\∀ b,F <= b->b < w.heap.size->w'.heap[b]? = w.heap[b]?
theorem cell_of_heap {w w':World} {b:Nat} (h:w'.heap[b]? = w.heap[b]?) (o:Nat):w'.cell? ⟨b,o,none⟩ = w.cell? ⟨b,o,none⟩:=by
 simp only [World.cell?,h]
theorem Sl.same {F:Nat} {w w':World} {sz:Nat} {v:Value} {n:Nat} {xs:List Value} (h:Sl w sz v n xs)(hf:From v F)(hs:Same F w w'):Sl w' sz v n xs:=by
 obtain ⟨h0,A,c,rfl,h2,h3,h5⟩:=h
 refine ⟨h0,A,c,rfl,h2,h3,fun hn=>?_⟩
 obtain ⟨b,off,e,hlt,hc⟩:=h5 hn
 subst e
 exact ⟨b,off,rfl,Nat.lt_of_lt_of_le hlt hs.1,fun j u hu=>(cell_of_heap (hs.2 b (hf _ _ _ rfl) hlt) _).trans (hc j u hu)⟩
theorem ListsNew.same {F:Nat} {w w':World} {v:Value} {ls:List (List Int)} (h:ListsNew F w v ls)(hs:Same F w w'):ListsNew F w' v ls:=by
 obtain ⟨cells,h1,hf,h2⟩:=h
 refine ⟨cells,h1.same hf hs,hf,fun i l hl=>?_⟩
 obtain ⟨c0,e0,e1,e2⟩:=h2 i l hl
 exact ⟨c0,e0,Sl.same e1 e2 hs,e2⟩
def GoodL (m:Nat) (K:Nat) (gs:List Gr):Prop:=gs.length <= K/\∀ g ∈ gs,g.1.length = m + 1/\0 <= g.2/\g.2 <= K
theorem GoodL.nil_ (m:Nat):GoodL m 0 []:=⟨by simp,by simp⟩
theorem putL_mem {gs:List Gr} {ws:List Int} {n:Int} {g:Gr} (h:g ∈ putL gs ws n):g ∈ gs ∨ g = (ws,n) ∨ ∃ x ∈ gs,g = (x.1,x.2 + n):=by
 induction gs with
 | nil=>simp [putL] at h; exact .inr (.inl h)
 | cons x gs ih =>
  unfold putL at h
  split at h
  ·rcases List.mem_cons.1 h with rfl | h
   ·exact .inl (by simp)
   rcases ih h with h | h | ⟨y,hy,e⟩
   ·exact .inl (by simp [h])
   ·exact .inr (.inl h)
   exact .inr (.inr ⟨y,by simp [hy],e⟩)
  split at h
  ·rcases List.mem_cons.1 h with rfl | h
   ·exact .inr (.inr ⟨x,by simp,rfl⟩)
   exact .inl (by simp [h])
  rcases List.mem_cons.1 h with rfl | h
  ·exact .inr (.inl rfl)
  exact .inl h
theorem putL_length (gs:List Gr) (ws:List Int) (n:Int):(putL gs ws n).length <= gs.length + 1:=by
 induction gs with
 | nil=>simp [putL]
 | cons x gs ih =>
  unfold putL
  split
  ·simp; omega
  split <;> simp
theorem GoodL.put {m K:Nat} {gs:List Gr} {ws:List Int} {n:Nat} (h:GoodL m K gs)(hw:ws.length = m + 1)(hn:1 <= n):GoodL m (K + n) (putL gs ws n):=by
 refine ⟨by have:=putL_length gs ws n; have:=h.1; omega,fun g hg=>?_⟩
 rcases putL_mem hg with h' | rfl | ⟨x,hx,rfl⟩
 ·have:=h.2 g h'; omega
 ·simp only; omega
 have:=h.2 x hx; simp only; omega
theorem GoodL.mono {m K K':Nat} {gs:List Gr} (h:GoodL m K gs)(hk:K <= K'):GoodL m K' gs:=⟨Nat.le_trans h.1 hk,fun g hg=>by have:=h.2 g hg; omega⟩

theorem own_setFar {w:World} {base:Nat} {e:TypeId} {sz:Nat} {v:Value} {n:Nat} {xs:List Value} (h:w.ownsRow base e sz v n xs) {p:Addr} (hp:p.block < base) (u:Value):(w.setCell p u).ownsRow base e sz v n xs:=by
 obtain ⟨h0,h1 | ⟨g,cap,cur,hv,hg,hh,hr⟩⟩:=h
 ·exact ⟨h0,.inl h1⟩
 exact ⟨h0,.inr ⟨g,cap,cur,hv,hg,(Below.heap_setCell w p u g (by omega)).trans hh,hr⟩⟩
theorem GOwn.setFar {base:Nat} {w:World} {v:Value} {gs:List Gr} (h:GOwn base w v gs) {p:Addr} (hp:p.block < base) (u:Value):GOwn base (w.setCell p u) v gs:=by
 obtain ⟨cells,h1,h2⟩:=h
 refine ⟨cells,own_setFar h1 hp u,fun i g hg=>?_⟩
 obtain ⟨c0,e0,e1,e2,e3,e4⟩:=h2 i g hg
 exact ⟨c0,e0,e1,Sl.setFar e2 e3 hp u,e3,e4⟩
theorem GOwn.mono {base base':Nat} {w:World} {v:Value} {gs:List Gr} (h:GOwn base w v gs)(hb:base' <= base):GOwn base' w v gs:=by
 obtain ⟨cells,h1,h2⟩:=h
 refine ⟨cells,own_mono h1 hb,fun i g hg=>?_⟩
 obtain ⟨c0,e0,e1,e2,e3,e4⟩:=h2 i g hg
 exact ⟨c0,e0,e1,e2,e3.mono hb,e4⟩
theorem GOwn.len {base:Nat} {w:World} {v:Value} {gs:List Gr} (h:GOwn base w v gs):∃ A c,v = .slice A gs.length c:=by
 obtain ⟨A,c,e,_⟩:=h.at_.open_
 exact ⟨A,c,e⟩
section
open Go.RowKit
end
def firstI {α:Type} (P:α->Bool):List α->Nat->Int
 | [],_=>-1
 | x :: l,j=>if P x then (j:Int) else firstI P l (j + 1)
theorem firstI_any {α:Type} (P:α->Bool) (l:List α) (j:Nat):decide (0 <= firstI P l j) = l.any P:=by
 induction l generalizing j with
 | nil=>simp [firstI]
 | cons x l ih =>
  unfold firstI
  cases h:P x
  ·simp [h,ih (j + 1)]
  simp [h]
theorem firstI_drop {α:Type} (P:α->Bool) {l:List α} {j:Nat} {x:α} (h:l[j]? = some x):firstI P (l.drop j) j = if P x then (j:Int) else firstI P (l.drop (j + 1)) (j + 1):=by
 have hj:j < l.length:=(List.getElem?_eq_some_iff.1 h).1
 rw [List.drop_eq_getElem_cons hj]
 have:l[j] = x:=by rw [List.getElem?_eq_getElem hj] at h; injection h
 rw [this]; rfl

theorem indexInt (w:World) (v:Value) (l:List (Int)) (F:Nat) (caps:Array Value) (P:Int->Bool)(h:IntsAt w v l)(hn:l.length <= 9223372036854775807)(hF:∀ (W:World) (args:Array Value),(callFunc F args).run Tryz.prog W = .ok (.enter F args) W)
  (hf:∀ W x a,Below w.heap.size w W->x ∈ l->a = Value.int .i64 x->Calls Tryz.prog F (#[a] ++ caps) W fun e w'=>e = .returned (.bool (P x))/\Below W.heap.size W w') :
  Calls Tryz.prog 180 #[v,.func (.func F) #[] caps] w fun e w'=>e = .returned (.int .i64 (firstI P l 0))/\Below w.heap.size w w':=by
 obtain ⟨A,c,rfl,hlc,hcm,hat⟩:=h.open_
 have HAT:=Lib.hid hat
 have HF:=Lib.hid hf
 clear h hat hf
 obtain ⟨n,hn'⟩:∃ n,l.length = n:=⟨_,rfl⟩
 have HLN:=Lib.hid hn'
 rw [hn'] at hlc hn ⊢
 clear hn'
 go_enter Tryz.func180,Tryz.ntmps180
 go_wp2_with fail
 go_loopg [5,8] n (fun g _ i wr=>∃ (j:Nat),i = .int .i64 j/\j + g = n/\Hid (firstI P l 0 = firstI P (l.drop j) j)/\Hid (Below w.heap.size w wr))
 case atStart=>exact ⟨0,rfl,by omega,Lib.hid rfl,Lib.hid (Below.refl _ _)⟩
 obtain ⟨j,rfl,hj,HQ,BEL⟩:=hrel
 have hsz:w.heap.size <= wr.heap.size:=BEL.out.size
 rcases Nat.eq_zero_or_pos gk with h | h
 ·obtain rfl:j = n:=by omega
  have HR:Hid (firstI P l 0 = -1):=Lib.hid (by rw [HQ.out,List.drop_eq_nil_of_le (by rw [HLN.out]; exact Nat.le_refl _)]; rfl)
  go_wp2_with fail
  go_ret
  exact ⟨ret_i64 HR.out.symm,BEL.out⟩
 obtain ⟨g,rfl⟩:∃ g,gk = g + 1:=⟨gk - 1,by omega⟩
 obtain ⟨x,hx⟩:∃ x,l[j]? = some x:=⟨_,List.getElem?_eq_getElem (by rw [HLN.out]; omega)⟩
 obtain ⟨ba,oa,rfl,hba,e0⟩:=HAT.out j x hx
 have d0:=(BEL.out.cell (p:=⟨ba,oa + j,none⟩) hba).trans e0
 clear e0
 have DR:=Lib.hid (firstI_drop P hx)
 have HX:=Lib.hid hx
 clear hx
 have hlt:(j:Int) < (n:Int):=by omega
 have NC:=HF.out wr x _ BEL.out (List.mem_of_getElem? HX.out) rfl
 cases hd:P x with
 | true =>
  rw [hd] at NC
  have HR:Hid (firstI P l 0 = j):=Lib.hid (by rw [HQ.out,DR.out,hd,if_pos rfl])
  clear hd
  go_wp2_with fail
  refine NC.mono ?_
  rintro e w1 ⟨rfl,hb1⟩
  have B1:=Lib.hid hb1
  clear hb1
  go_wp2_with fail
  go_ret
  exact ⟨ret_i64 HR.out.symm,BEL.out.trans (B1.out.mono hsz)⟩
 | false =>
  rw [hd] at NC
  have HR:Hid (firstI P l 0 = firstI P (l.drop (j + 1)) (j + 1)):=Lib.hid (by rw [HQ.out,DR.out,hd]; rfl)
  clear hd
  go_wp2_with fail
  refine NC.mono ?_
  rintro e w1 ⟨rfl,hb1⟩
  have B1:=Lib.hid hb1
  clear hb1
  go_wp2_with fail
  go_roundg g
  case measure=>omega
  case rel=>exact ⟨j + 1,rfl,by omega,HR,Lib.hid (BEL.out.trans (B1.out.mono hsz))⟩

theorem containsInt (w:World) (v:Value) (l:List (Int)) (F:Nat) (caps:Array Value) (P:Int->Bool)(h:IntsAt w v l)(hn:l.length <= 9223372036854775807)(hF:∀ (W:World) (args:Array Value),(callFunc F args).run Tryz.prog W = .ok (.enter F args) W)
  (hf:∀ W x a,Below w.heap.size w W->x ∈ l->a = Value.int .i64 x->Calls Tryz.prog F (#[a] ++ caps) W fun e w'=>e = .returned (.bool (P x))/\Below W.heap.size W w') :
  Calls Tryz.prog 137 #[v,.func (.func F) #[] caps] w fun e w'=>e = .returned (.bool (l.any P))/\Below w.heap.size w w':=by
 have IC:=Lib.hid (indexInt w v l F caps P h hn hF hf)
 have HA:=Lib.hid (firstI_any P l 0)
 obtain ⟨A,c,rfl,hlc,hcm,_⟩:=h.open_
 clear h hf
 generalize firstI P l 0 = r at *
 go_enter Tryz.func137,Tryz.ntmps137
 go_wp2_with fail
 refine IC.out.mono ?_
 rintro e w1 ⟨rfl,hb1⟩
 have B1:=Lib.hid hb1
 clear hb1
 go_wp2_with fail
 go_ret
 exact ⟨ret_bool (by rw [<- HA.out]),B1.out⟩

theorem sizedG (w:World) (o v:Int) :
  Calls Tryz.prog 211 #[.int .i64 o,.int .i64 v] w fun e w'=>e = .returned (.bool (sizesB o v))/\Below w.heap.size w w':=by
 have HT:Hid (sizesB o v = (decide (1 <= o) && decide (o <= 4) && decide (1 <= v) && decide (v <= 2000))):=Lib.hid rfl
 by_cases h1:1 <= o
 ·have d1:=decide_eq_true h1
  by_cases h2:o <= 4
  ·have d2:=decide_eq_true h2
   by_cases h3:1 <= v
   ·have d3:=decide_eq_true h3
    by_cases h4:v <= 2000
    ·have d4:=decide_eq_true h4
     have HB:Hid (sizesB o v = true):=Lib.hid (by rw [HT.out,d1,d2,d3,d4]; rfl)
     clear h1 h2 h3 h4
     go_enter Tryz.func211,Tryz.ntmps211
     go_wp2_with fail
     go_ret
     exact ⟨ret_bool HB.out.symm,Below.refl _ _⟩
    have d4:=decide_eq_false h4
    have HB:Hid (sizesB o v = false):=Lib.hid (by rw [HT.out,d1,d2,d3,d4]; rfl)
    clear h1 h2 h3 h4
    go_enter Tryz.func211,Tryz.ntmps211
    go_wp2_with fail
    go_ret
    exact ⟨ret_bool HB.out.symm,Below.refl _ _⟩
   have d3:=decide_eq_false h3
   have HB:Hid (sizesB o v = false):=Lib.hid (by rw [HT.out,d1,d2,d3]; rfl)
   clear h1 h2 h3
   go_enter Tryz.func211,Tryz.ntmps211
   go_wp2_with fail
   go_ret
   exact ⟨ret_bool HB.out.symm,Below.refl _ _⟩
  have d2:=decide_eq_false h2
  have HB:Hid (sizesB o v = false):=Lib.hid (by rw [HT.out,d1,d2]; rfl)
  clear h1 h2
  go_enter Tryz.func211,Tryz.ntmps211
  go_wp2_with fail
  go_ret
  exact ⟨ret_bool HB.out.symm,Below.refl _ _⟩
 have d1:=decide_eq_false h1
 have HB:Hid (sizesB o v = false):=Lib.hid (by rw [HT.out,d1]; rfl)
 clear h1
 go_enter Tryz.func211,Tryz.ntmps211
 go_wp2_with fail
 go_ret
 exact ⟨ret_bool HB.out.symm,Below.refl _ _⟩

theorem within1 (w:World) (x lo hi:Int) (b1 b2:Nat)(h1:w.cell? ⟨b1,0,none⟩ = some (.int .i64 lo))(h2:w.cell? ⟨b2,0,none⟩ = some (.int .i64 hi)) :
  Calls Tryz.prog 223 #[.int .i64 x,.pointer (some ⟨b1,0,none⟩),.pointer (some ⟨b2,0,none⟩)] w fun e w'=>e = .returned (.bool (!(decide (lo <= x) && decide (x <= hi))))/\Below w.heap.size w w':=by
 by_cases d:lo <= x
 ·have HL:=Lib.hid (decide_eq_true d)
  have dl:decide (x < lo) = false:=decide_eq_false (by omega)
  by_cases d2:x <= hi
  ·have HH:=Lib.hid (decide_eq_true d2)
   have dh:decide (hi < x) = false:=decide_eq_false (by omega)
   clear d d2
   go_enter Tryz.func223,Tryz.ntmps223
   go_wp2_with fail
   go_ret
   exact ⟨ret_bool (by rw [HL.out,HH.out]; rfl),Below.refl _ _⟩
  have HH:=Lib.hid (decide_eq_false d2)
  have dh:decide (hi < x) = true:=decide_eq_true (by omega)
  clear d d2
  go_enter Tryz.func223,Tryz.ntmps223
  go_wp2_with fail
  go_ret
  exact ⟨ret_bool (by rw [HL.out,HH.out]; rfl),Below.refl _ _⟩
 have HL:=Lib.hid (decide_eq_false d)
 have dl:decide (x < lo) = true:=decide_eq_true (by omega)
 clear d
 go_enter Tryz.func223,Tryz.ntmps223
 go_wp2_with fail
 go_ret
 exact ⟨ret_bool (by rw [HL.out]; rfl),Below.refl _ _⟩

theorem any_out (lo hi:Int) (l:List Int):(!l.any fun x=>!(decide (lo <= x) && decide (x <= hi))) = inR lo hi l:=by
 induction l with
 | nil=>rfl
 | cons x l ih =>
  simp only [List.any_cons,inR,List.all_cons] at ih ⊢
  rw [Bool.not_or,Bool.not_not,ih]

theorem withinG (w:World) (v:Value) (l:List Int) (lo hi:Int)(h:IntsAt w v l) :
  Calls Tryz.prog 212 #[v,.int .i64 lo,.int .i64 hi] w fun e w'=>e = .returned (.bool (inR lo hi l))/\Below w.heap.size w w':=by
 have HI:=Lib.hid h
 have HA:=Lib.hid (any_out lo hi l)
 obtain ⟨A,c,rfl,hlc,hcm,_⟩:=h.open_
 clear h
 go_enter Tryz.func212,Tryz.ntmps212
 go_wp2_with fail
 obtain ⟨W,hW,P0,P1,PB,Phs⟩:=box2 w 3 [.int .i64 lo] 3 [.int .i64 hi]
 rw [<- hW]
 clear hW
 have CI:=Lib.hid (containsInt W _ l 223 #[.pointer (some ⟨w.heap.size,0,none⟩),.pointer (some ⟨w.heap.size + 1,0,none⟩)] (fun x=>!(decide (lo <= x) && decide (x <= hi))) (HI.out.below PB.out) (by have:=HI.out.le; unfold maxLen at this; omega) (fun _ _=>by kernel_rfl) (fun U x a hb hx e=>by
  subst e
  exact within1 U x lo hi _ _ ((P0.out.below' hb).cell 0) ((P1.out.below' hb).cell 0)))
 go_wp2_with fail
 refine CI.out.mono ?_
 rintro e w1 ⟨rfl,hb1⟩
 have B1:=Lib.hid (PB.out.trans (hb1.mono (by omega)))
 clear hb1
 go_wp2_with fail
 go_ret
 exact ⟨ret_bool (by have:=HA.out; simpa using this),B1.out⟩
def keyL (l:List Int):List Int:=l.map (· + 1) ++ List.replicate (4 - l.length) 0
def keyV (l:List Int):Value:=.agg ((keyL l).map (Value.int .i64)).toArray
theorem keyL_length {l:List Int} (h:l.length <= 4):(keyL l).length = 4:=by simp [keyL]; omega
theorem keyL_step {l:List Int} {j:Nat} {x:Int} (h:l.length <= 4)(hx:l[j]? = some x):(keyL (l.take j)).set j (x + 1) = keyL (l.take (j + 1)):=by
 have hj:=(List.getElem?_eq_some_iff.1 hx).1
 have e1:(l.take j).length = j:=by rw [List.length_take]; omega
 have e2:(l.take (j + 1)).length = j + 1:=by rw [List.length_take]; omega
 unfold keyL
 rw [e1,e2,take_succ_get l hx,List.set_append_right _ _ (by simp; omega),List.map_append,List.append_assoc]
 congr 1
 rw [List.length_map,e1,Nat.sub_self,show 4 - j = (4 - (j + 1)) + 1 by omega,List.replicate_succ]
 rfl
theorem four {l:List Int} (h:l.length = 4):∃ a b c d,l = [a,b,c,d]:=by
 match l,h with
 | [a,b,c,d],_=>exact ⟨a,b,c,d,rfl⟩

theorem keyedG (w:World) (v:Value) (l:List Int)(h:IntsAt w v l)(hl:l.length <= 4)(hb:∀ x ∈ l,-1000000 <= x/\x <= 1000000) :
  Calls Tryz.prog 230 #[v] w fun e w'=>e = .returned (keyV l)/\Below w.heap.size w w':=by
 obtain ⟨A,c,rfl,hlc,hcm,hat⟩:=h.open_
 have HAT:=Lib.hid hat
 have HB:=Lib.hid hb
 have HL:=Lib.hid hl
 clear h hat hb
 obtain ⟨n,hn⟩:∃ n,l.length = n:=⟨_,rfl⟩
 rw [hn] at hlc hl ⊢
 have HN:=Lib.hid hn
 clear hn
 obtain ⟨k0,k1,k2,k3,hk⟩:=four (keyL_length HL.out)
 have HK:=Lib.hid hk
 clear hk
 go_enter Tryz.func230,Tryz.ntmps230
 go_wp2_with fail
 obtain ⟨W,hW,P0,P1,PB,Phs⟩:=box2 w 299 [.int .i64 0,.int .i64 0,.int .i64 0,.int .i64 0] 299 [.int .i64 0,.int .i64 0,.int .i64 0,.int .i64 0]
 rw [<- hW]
 clear hW
 go_loopg [4,5,8] n (fun gh _ _ i wr=>∃ (j:Nat),i = .int .i64 j/\j + gh = n/\Hid (Blk wr (w.heap.size + 1) 299 ((keyL (l.take j)).map (Value.int .i64)))/\Hid (Blk wr w.heap.size 299 [.int .i64 0,.int .i64 0,.int .i64 0,.int .i64 0])/\Hid (Below w.heap.size w wr))
 case atStart=>exact ⟨0,rfl,by omega,P1,P0,PB⟩
 obtain ⟨j,rfl,hj,BK,R0,BEL⟩:=hrel
 rcases Nat.eq_zero_or_pos gk with h | h
 ·obtain rfl:j = n:=by omega
  have HE:Hid ((keyL (l.take j)).map (Value.int .i64) = [.int .i64 k0,.int .i64 k1,.int .i64 k2,.int .i64 k3]):=Lib.hid (by
   rw [List.take_of_length_le (by rw [HN.out]; exact Nat.le_refl _),HK.out]; rfl)
  have BK2:Hid (Blk wr (w.heap.size + 1) 299 [.int .i64 k0,.int .i64 k1,.int .i64 k2,.int .i64 k3]):=Lib.hid (by rw [<- HE.out]; exact BK.out)
  have b0:=BK2.out.cell 0
  have b1:=BK2.out.cell 1
  have b2:=BK2.out.cell 2
  have b3:=BK2.out.cell 3
  have r0:=R0.out.cell 0
  have r1:=R0.out.cell 1
  have r2:=R0.out.cell 2
  have r3:=R0.out.cell 3
  have z0:=R0.out.frozen 0
  have z1:=R0.out.frozen 1
  have z2:=R0.out.frozen 2
  have z3:=R0.out.frozen 3
  simp only [List.getElem?_cons_zero,List.getElem?_cons_succ] at b0 b1 b2 b3 r0 r1 r2 r3
  go_wp2_with fail
  refine bodyPost_ret (v:=.agg #[.int .i64 k0,.int .i64 k1,.int .i64 k2,.int .i64 k3]) (by simp [results,Tryz.results230,go_sem,r0,r1,r2,r3]) rfl ⟨by unfold keyV; rw [HK.out]; rfl,?_⟩
  exact (((BEL.out.setCell (p:=⟨w.heap.size,0,none⟩) (Nat.le_refl _) _).setCell (p:=⟨w.heap.size,1,none⟩) (Nat.le_refl _) _).setCell (p:=⟨w.heap.size,2,none⟩) (Nat.le_refl _) _).setCell (p:=⟨w.heap.size,3,none⟩) (Nat.le_refl _) _
 obtain ⟨g,rfl⟩:∃ g,gk = g + 1:=⟨gk - 1,by omega⟩
 obtain ⟨x,hx⟩:∃ x,l[j]? = some x:=⟨_,List.getElem?_eq_getElem (by rw [HN.out]; omega)⟩
 obtain ⟨ba,oa,rfl,hba,e0⟩:=HAT.out j x hx
 have d0:=(BEL.out.cell (p:=⟨ba,oa + j,none⟩) hba).trans e0
 have hxb:=HB.out x (List.mem_of_getElem? hx)
 have ST:=Lib.hid (keyL_step HL.out hx)
 have hlt4:j < ((keyL (l.take j)).map (Value.int .i64)).length:=by rw [List.length_map,keyL_length (by rw [List.length_take]; omega)]; omega
 obtain ⟨u,hu⟩:∃ u,((keyL (l.take j)).map (Value.int .i64))[j]? = some u:=⟨_,List.getElem?_eq_getElem hlt4⟩
 have b0:wr.cell? ⟨w.heap.size + 1,j,none⟩ = some u:=(BK.out.cell j).trans hu
 have z0:=BK.out.frozen j
 clear hx e0 hlt4 hu
 go_wp2_with fail
 go_roundg g
 case measure=>omega
 case rel=>exact ⟨j + 1,rfl,by omega,Lib.hid (by have:=BK.out.set_ j (.int .i64 (x + 1)); rw [<- List.map_set,ST.out] at this; exact this),Lib.hid (R0.out.far (p:=⟨w.heap.size + 1,j,none⟩) (by show w.heap.size ≠ w.heap.size + 1; omega) _),Lib.hid (BEL.out.setCell (p:=⟨w.heap.size + 1,j,none⟩) (by show w.heap.size <= w.heap.size + 1; omega) _)⟩
section
open Go.Maps (Keyed)
open Go.ChangeMaps (setBlock)
open Go.MapKept

def ents (es:List (Value × Value)):List MapEntry:=es.mapIdx fun i e=>⟨e.1,e.2,i⟩
def MapAt (P:Program) (w:World) (k:TypeId) (b:Nat) (es:List (Value × Value)):Prop :=
 w.heap[b]? = some (.map (ents es).toArray es.length)/\(∀ e ∈ es,∃ l,keyOf P k e.1 = some l)/\(es.map Prod.fst).Nodup
theorem ents_get (es:List (Value × Value)) (i:Nat):(ents es)[i]? = (es[i]?).map fun e=>⟨e.1,e.2,i⟩:=by
 unfold ents
 rw [List.getElem?_mapIdx]
theorem ents_mem {es:List (Value × Value)} {e:MapEntry} (h:e ∈ ents es):∃ i x,es[i]? = some x/\e = ⟨x.1,x.2,i⟩:=by
 obtain ⟨i,hi⟩:=List.mem_iff_getElem?.1 h
 rw [ents_get] at hi
 cases hx:es[i]? with
 | none=>rw [hx] at hi; cases hi
 | some x=>rw [hx] at hi; cases hi; exact ⟨i,x,hx,rfl⟩
theorem ents_length (es:List (Value × Value)):(ents es).length = es.length:=by simp [ents]
theorem ents_snoc (es:List (Value × Value)) (x:Value × Value):ents (es ++ [x]) = ents es ++ [⟨x.1,x.2,es.length⟩]:=by
 apply List.ext_getElem?
 intro i
 rw [ents_get]
 rcases Nat.lt_trichotomy i es.length with h | h | h
 ·rw [List.getElem?_append_left h,List.getElem?_append_left (by rw [ents_length]; exact h),ents_get]
 ·subst h
  rw [List.getElem?_append_right (Nat.le_refl _),List.getElem?_append_right (by rw [ents_length]; exact Nat.le_refl _)]
  simp [ents_length]
 rw [List.getElem?_append_right (by omega),List.getElem?_append_right (by rw [ents_length]; omega),List.getElem?_eq_none_iff.2 (by simp; omega),List.getElem?_eq_none_iff.2 (by simp [ents_length]; omega)]
 rfl

section
variable {P:Program} {k e t:TypeId} {w:World} {b:Nat} {es:List (Value × Value)}
theorem MapAt.lt (h:MapAt P w k b es):b < w.heap.size:=(Array.getElem?_eq_some_iff.1 h.1).1
theorem MapAt.kept {w':World} {row:Option Nat} (h:MapAt P w k b es)(hg:w.grownBy w' row)(hne:some b ≠ row):MapAt P w' k b es:=⟨(hg.block b h.lt hne).trans h.1,h.2⟩
theorem MapAt.below {w':World} (h:MapAt P w k b es)(hb:Below w.heap.size w w'):MapAt P w' k b es:=⟨(hb.block b h.lt).trans h.1,h.2⟩
theorem MapAt.drew (h:MapAt P w k b es):MapAt P w.drew k b es:=h
theorem MapAt.alloc (h:MapAt P w k b es) (o:Obj):MapAt P (w.alloc o) k b es:=h.below ((Below.refl _ w).alloc (Nat.le_refl _) o)
theorem MapAt.far (h:MapAt P w k b es) {p:Addr} (hp:b ≠ p.block) (u:Value):MapAt P (w.setCell p u) k b es:=⟨(Below.heap_setCell w p u b hp).trans h.1,h.2⟩
theorem MapAt.made (P:Program) (w:World) (k:TypeId):MapAt P (w.alloc (.map #[] 0)) k w.heap.size []:=⟨heap_alloc_new w _,by simp,by simp⟩

theorem MapAt.find (h:MapAt P w k b es) (K:Keyed P k) {key:Value} (hkey:∃ l,keyOf P k key = some l) :
  (∃ (j:Nat) (v:Value),es[j]? = some (key,v)/\(Instr.findKey k key (ents es)).run P w = .ok (some (j,v)) w) ∨ ((∀ x ∈ es,x.1 ≠ key)/\(Instr.findKey k key (ents es)).run P w = .ok none w):=by
 obtain ⟨l,hl⟩:=hkey
 rcases K.find w hl (ents es) (fun x hx=>by
  obtain ⟨i,y,hy,rfl⟩:=ents_mem hx
  exact h.2.1 y (List.mem_of_getElem? hy)) with ⟨h1,h2⟩ | ⟨j,e0,h1,h2,h3⟩
 ·refine .inr ⟨fun x hx=>?_,h1⟩
  obtain ⟨i,hi⟩:=List.mem_iff_getElem?.1 hx
  exact h2 ⟨x.1,x.2,i⟩ (List.mem_of_getElem? (i:=i) (by rw [ents_get,hi]; rfl))
 rw [ents_get] at h2
 cases hx:es[j]? with
 | none=>rw [hx] at h2; cases h2
 | some x =>
  rw [hx] at h2
  cases h2
  simp only at h3 h1
  refine .inl ⟨j,x.2,?_,h1⟩
  rw [hx,<- h3]

theorem MapAt.look (h:MapAt P w k b es) (K:Keyed P k)(ht:P.underlying t = some (.map k e)) {z:Value} (hz:(zeroValue e).run P w = .ok z w) {key:Value} (hkey:∃ l,keyOf P k key = some l) (c:Bool) :
  (∃ (j:Nat) (v:Value),es[j]? = some (key,v)/\(Instr.lookup t (.map (some b)) key c).run P w = .ok (if c then .tuple #[v,.bool true] else v) w) ∨ ((∀ x ∈ es,x.1 ≠ key)/\(Instr.lookup t (.map (some b)) key c).run P w = .ok (if c then .tuple #[z,.bool false] else z) w):=by
 obtain ⟨l,hl⟩:=id hkey
 rcases h.find K hkey with ⟨j,v,h1,h2⟩ | ⟨h1,h2⟩
 ·exact .inl ⟨j,v,h1,by simp [Instr.lookup,run_underlying ht,MapKept.run_getObj_map h.1,K.check w _ hl,h2,Result.andThen]⟩
 exact .inr ⟨h1,by simp [Instr.lookup,run_underlying ht,MapKept.run_getObj_map h.1,K.check w _ hl,h2,hz,Result.andThen]⟩

theorem hset {o0:Obj} (h:w.heap[b]? = some o0) (o:Obj):(setBlock w b o).heap[b]? = some o:=by
 have:=(Array.getElem?_eq_some_iff.1 h).1
 simp [setBlock,this]
theorem hset_other (w:World) {b i:Nat} (hi:i ≠ b) (o:Obj):(setBlock w b o).heap[i]? = w.heap[i]?:=by
 simp only [setBlock]
 rw [Array.getElem?_setIfInBounds_ne (by omega)]
theorem grown_setBlock (w:World) (b:Nat) (o:Obj):w.grownBy (setBlock w b o) (some b):=⟨rfl,rfl,rfl,by simp [setBlock],fun i _ hi=>hset_other w (fun e=>hi (by rw [e])) _⟩

theorem MapAt.entry (h:MapAt P w k b es) (K:Keyed P k)(ht:P.underlying t = some (.map k e)) {z:Value} (hz:(zeroValue e).run P w = .ok z w) {key:Value} (hkey:∃ l,keyOf P k key = some l) :
  (∃ (j:Nat) (v:Value) (w':World),es[j]? = some (key,v)/\(Instr.mapEntry t (.map (some b)) key).run P w = .ok (.tuple #[v,.int .i64 j]) w'/\MapAt P w' k b es/\w.grownBy w' (some b)) ∨
  ((∀ x ∈ es,x.1 ≠ key)/\∃ w',(Instr.mapEntry t (.map (some b)) key).run P w = .ok (.tuple #[z,.int .i64 es.length]) w'/\MapAt P w' k b (es ++ [(key,z)])/\w.grownBy w' (some b)):=by
 obtain ⟨l,hl⟩:=id hkey
 rcases h.find K hkey with ⟨j,v,h1,h2⟩ | ⟨h1,h2⟩
 ·refine .inl ⟨j,v,setBlock w b (.map (ents es).toArray es.length),h1,?_,⟨hset h.1 _,h.2⟩,grown_setBlock _ _ _⟩
  have hj:(ents es)[j]? = some ⟨key,v,j⟩:=by rw [ents_get,h1]; rfl
  have hmod:(ents es).toArray.modify j (fun x=>{ x with key:=key }) = (ents es).toArray:=by
   apply Array.ext_getElem?
   intro i
   rw [Array.getElem?_modify]
   split
   ·next hi=>subst hi; simp [hj]
   rfl
  simp only [Instr.mapEntry,run_underlying ht,Sem.run_bind,Sem.run_pure,Result.andThen_ok,MapKept.run_getObj_map h.1,K.check w _ hl,h2]
  have e1:((((ents es).toArray[j]?).map (·.key)).getD key) = key:=by simp [hj]
  have e2:(((ents es).toArray[j]?).map (fun x=>(x.born:Int))).getD 0 = (j:Int):=by simp [hj]
  rw [e1,e2]
  simp only [K.stays w hl,Result.andThen_ok,hmod,MapKept.run_setObj_map _ h.1]
  rfl
 refine .inr ⟨h1,setBlock w b (.map ((ents es).toArray.push ⟨key,z,es.length⟩) (es.length + 1)),?_,⟨?_,?_,?_⟩,grown_setBlock _ _ _⟩
 ·simp only [Instr.mapEntry,run_underlying ht,Sem.run_bind,Sem.run_pure,Result.andThen_ok,MapKept.run_getObj_map h.1,K.check w _ hl,h2,hz,MapKept.run_setObj_map _ h.1]
  rfl
 ·rw [hset h.1]
  rw [ents_snoc,List.length_append,List.length_singleton]
  simp
 ·intro x hx
  rcases List.mem_append.1 hx with hx | hx
  ·exact h.2.1 x hx
  obtain rfl:=List.mem_singleton.1 hx
  exact ⟨l,hl⟩
 rw [List.map_append,List.map_singleton]
 refine List.nodup_append.2 ⟨h.2.2,by simp,?_⟩
 intro x hx y hy
 obtain rfl:=List.mem_singleton.1 hy
 obtain ⟨p,hp,rfl⟩:=List.mem_map.1 hx
 exact h1 p hp

theorem ents_set (es:List (Value × Value)) (j:Nat) (x:Value × Value):ents (es.set j x) = (ents es).set j ⟨x.1,x.2,j⟩:=by
 apply List.ext_getElem?
 intro i
 rw [ents_get,List.getElem?_set,List.getElem?_set,ents_get,ents_length]
 split
 ·next h=>subst h; split <;> rfl
 rfl
theorem MapAt.setVal (h:MapAt P w k b es) {j:Nat} {key v0:Value} (hj:es[j]? = some (key,v0)) (val:Value) :
  MapAt P (setBlock w b (.map ((ents es).set j ⟨key,val,j⟩).toArray es.length)) k b (es.set j (key,val)):=by
 refine ⟨?_,?_,?_⟩
 ·rw [hset h.1,ents_set,List.length_set]
 ·intro x hx
  rcases List.mem_or_eq_of_mem_set hx with hx | rfl
  ·exact h.2.1 x hx
  exact h.2.1 (key,v0) (List.mem_of_getElem? hj)
 have e:(es.set j (key,val)).map Prod.fst = es.map Prod.fst:=by
  rw [List.map_set]
  apply List.ext_getElem?
  intro i
  rw [List.getElem?_set]
  split
  ·next hi=>subst hi; simp [hj]; exact (List.getElem?_eq_some_iff.1 hj).1
  rfl
 rw [e]
 exact h.2.2
theorem MapAt.store (h:MapAt P w k b es) {j:Nat} {key v0:Value} (hj:es[j]? = some (key,v0)) (val:Value) :
  ∃ w',(Instr.entryStore t (.map (some b)) (.int .i64 j) val).run P w = .ok () w'/\MapAt P w' k b (es.set j (key,val))/\w.grownBy w' (some b):=by
 refine ⟨_,?_,h.setVal hj val,grown_setBlock _ _ _⟩
 have hjl:=(List.getElem?_eq_some_iff.1 hj).1
 have hf:(ents es).toArray.findIdx? (fun e=>(e.born:Int) == (j:Int)) = some j:=by
  rw [List.findIdx?_toArray,List.findIdx?_eq_some_iff_getElem]
  refine ⟨by rw [ents_length]; exact hjl,?_,?_⟩
  ·have:(ents es)[j]? = some ⟨key,v0,j⟩:=by rw [ents_get,hj]; rfl
   rw [List.getElem?_eq_getElem (by rw [ents_length]; exact hjl)] at this
   injection this with this
   rw [this]
   simp
  intro i hi
  have hil:i < es.length:=by omega
  have:(ents es)[i]? = some ⟨es[i].1,es[i].2,i⟩:=by rw [ents_get,List.getElem?_eq_getElem hil]; rfl
  rw [List.getElem?_eq_getElem (by rw [ents_length]; exact hil)] at this
  injection this with this
  rw [this]
  simp
  omega
 have hmod:(ents es).toArray.modify j (fun x=>{ x with val:=val }) = ((ents es).set j ⟨key,val,j⟩).toArray:=by
  apply Array.ext_getElem?
  intro i
  rw [Array.getElem?_modify]
  simp only [List.getElem?_toArray]
  rw [List.getElem?_set,ents_get,ents_length]
  split
  ·next hi=>subst hi; simp [hjl]; exact congrArg Prod.fst (Option.some.inj ((List.getElem?_eq_getElem hjl).symm.trans hj))
  rfl
 simp only [Instr.entryStore,Sem.run_bind,Sem.run_pure,Result.andThen_ok,MapKept.run_getObj_map h.1,asInt,asIntOf,hf,hmod,MapKept.run_setObj_map _ h.1]
 rfl
theorem MapAt.update (h:MapAt P w k b es) (K:Keyed P k)(ht:P.underlying t = some (.map k e)) {key:Value} (hkey:∃ l,keyOf P k key = some l) (val:Value) :
  (∃ (j:Nat) (v:Value) (w':World),es[j]? = some (key,v)/\(Instr.mapUpdate t (.map (some b)) key val).run P w = .ok () w'/\MapAt P w' k b (es.set j (key,val))/\w.grownBy w' (some b)) ∨
  ((∀ x ∈ es,x.1 ≠ key)/\∃ w',(Instr.mapUpdate t (.map (some b)) key val).run P w = .ok () w'/\MapAt P w' k b (es ++ [(key,val)])/\w.grownBy w' (some b)):=by
 obtain ⟨l,hl⟩:=id hkey
 rcases h.find K hkey with ⟨j,v,h1,h2⟩ | ⟨h1,h2⟩
 ·refine .inl ⟨j,v,_,h1,?_,h.setVal h1 val,grown_setBlock _ _ _⟩
  have hj:(ents es)[j]? = some ⟨key,v,j⟩:=by rw [ents_get,h1]; rfl
  have hjl:=(List.getElem?_eq_some_iff.1 h1).1
  have hmod:(ents es).toArray.modify j (fun x=>{ x with key:=key,val:=val }) = ((ents es).set j ⟨key,val,j⟩).toArray:=by
   apply Array.ext_getElem?
   intro i
   rw [Array.getElem?_modify]
   simp only [List.getElem?_toArray]
   rw [List.getElem?_set,ents_get,ents_length]
   split
   ·next hi=>subst hi; simp [hjl]
   rfl
  simp only [Instr.mapUpdate,run_underlying ht,Sem.run_bind,Result.andThen_ok,MapKept.run_getObj_map h.1,K.check w _ hl,h2]
  have e1:((((ents es).toArray[j]?).map (·.key)).getD key) = key:=by simp [hj]
  rw [e1]
  simp only [K.stays w hl,Result.andThen_ok,hmod,MapKept.run_setObj_map _ h.1]
  rfl
 refine .inr ⟨h1,setBlock w b (.map ((ents es).toArray.push ⟨key,val,es.length⟩) (es.length + 1)),?_,⟨?_,?_,?_⟩,grown_setBlock _ _ _⟩
 ·simp only [Instr.mapUpdate,run_underlying ht,Sem.run_bind,Result.andThen_ok,MapKept.run_getObj_map h.1,K.check w _ hl,h2,MapKept.run_setObj_map _ h.1]
  rfl
 ·rw [hset h.1]
  rw [ents_snoc,List.length_append,List.length_singleton]
  simp
 ·intro x hx
  rcases List.mem_append.1 hx with hx | hx
  ·exact h.2.1 x hx
  obtain rfl:=List.mem_singleton.1 hx
  exact ⟨l,hl⟩
 rw [List.map_append,List.map_singleton]
 refine List.nodup_append.2 ⟨h.2.2,by simp,?_⟩
 intro x hx y hy
 obtain rfl:=List.mem_singleton.1 hy
 obtain ⟨p,hp,rfl⟩:=List.mem_map.1 hx
 exact h1 p hp
theorem MapAt.len (h:MapAt P w k b es)(ht:P.underlying t = some (.map k e)) (ty:TypeId):(Builtin.len_ #[t] ty #[.map (some b)]).run P w = .ok (.int .i64 es.length) w:=by
 simp [Builtin.len_,run_underlying ht,MapKept.run_getObj_map h.1,ents_length,goInt]
end
end
end Go.Proofs.YtdehimgccmbfkaaGreat
