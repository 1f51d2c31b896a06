/- Lemmas. -/
import Derived.Test.YtjebfdfkjlkifaaGreatR21
set_option linter.all false
set_option maxRecDepth 1000000
set_option maxHeartbeats 32000000
namespace Go.Proofs.YtjebfdfkjlkifaaGreat
open Go.RowKit
section
open Go.Maps (Keyed)

section
variable {K V:Type} [DecidableEq K] {ek:K->Value} {ev:V->Value} {w w':World} {kt e t:TypeId} {b:Nat} {m:List (K × V)} {k:K}
theorem TMap.below (h:TMap ek ev w kt b m)(hb:Below w.heap.size w w'):TMap ek ev w' kt b m:=MapAt.below h hb
theorem TMap.drew (h:TMap ek ev w kt b m):TMap ek ev w.drew kt b m:=h
theorem TMap.drewN (h:TMap ek ev w kt b m) (n:Nat):TMap ek ev (w.drewN n) kt b m:=h
theorem TMap.lt (h:TMap ek ev w kt b m):b < w.heap.size:=MapAt.lt h
theorem TMap.kept {row:Option Nat} (h:TMap ek ev w kt b m)(hg:w.grownBy w' row)(hne:some b ≠ row):TMap ek ev w' kt b m:=MapAt.kept h hg hne
theorem TMap.far (h:TMap ek ev w kt b m) {p:Addr} (hp:b ≠ p.block) (u:Value):TMap ek ev (w.setCell p u) kt b m:=MapAt.far h hp u
theorem TMap.ne (h:TMap ek ev w kt b m) {p:Addr} {u0:Value} (hp:w.cell? p = some u0):b ≠ p.block:=by
 intro e
 have h1:=h.1
 subst e
 unfold World.cell? at hp
 rw [h1] at hp
 simp at hp
theorem TMap.made (w:World) (ek:K->Value) (ev:V->Value) (kt:TypeId):TMap ek ev (w.alloc (.map #[] 0)) kt w.heap.size ([]:List (K × V)):=MapAt.made Tryz.prog w kt
theorem TMap.low (h:TMap ek ev w kt b m) {B:Nat} (hB:b < B)(hb:Below B w w'):TMap ek ev w' kt b m:=⟨(hb.block b hB).trans h.1,h.2⟩
theorem TMap.update (h:TMap ek ev w kt b m) (L:Keyed Tryz.prog kt)(ht:Tryz.prog.underlying t = some (.map kt e))(hk:∃ kl,keyOf Tryz.prog kt (ek k) = some kl) (inj:∀ x ∈ m,ek x.1 = ek k->x.1 = k) (v:V) :
  ∃ w',(Instr.mapUpdate t (.map (some b)) (ek k) (ev v)).run Tryz.prog w = .ok () w'/\TMap ek ev w' kt b (dJ m k v)/\w.grownBy w' (some b):=by
 rcases MapAt.update h L ht hk (ev v) with ⟨j,v0,w',h1,h2,h3,h4⟩ | ⟨h1,w',h2,h3,h4⟩
 ·refine ⟨w',h2,?_,h4⟩
  rw [fq] at h1
  cases hx:m[j]? with
  | none=>rw [hx] at h1; cases h1
  | some x =>
   rw [hx] at h1
   simp only [Option.map_some,Option.some.injEq,Prod.mk.injEq] at h1
   have hxk:=inj x (mG hx) h1.1
   have hm:m[j]? = some (k,x.2):=by rw [hx,<- hxk]
   unfold TMap
   rw [mK h.nodup hm]
   unfold cR at h3 ⊢
   rw [List.map_set]
   exact h3
 refine ⟨w',h2,?_,h4⟩
 unfold TMap
 rw [gY (fun x hx he=>h1 (ek x.1,ev x.2) (List.mem_map.2 ⟨x,hx,rfl⟩) (by rw [he]))]
 unfold cR at h3 ⊢
 rw [List.map_append]
 exact h3
end

theorem nT (w:World):(zeroValue 206).run Tryz.prog w = .ok (.map none) w:=by kernel_rfl
def tV (b:Nat):Value:=.map (some b)
def bT (n:Nat) (S:List (List Int × Int))(h:List Int):List (Int × Int):=(S.filter (fun e=>decide (e.1.take (n - 1) = h))).map fun e=>(e.1.getD (n - 1) 0,e.2)
def NiceS (n:Nat) (S:List (List Int × Int)):Prop:=(S.map Prod.fst).Nodup/\∀ e ∈ S,e.1.length = n/\NiceK e.1/\0 < e.2/\e.2 <= 21474836480000
def LevO (w:World) (b base n:Nat) (S:List (List Int × Int)) (outer:List (List Int × Nat)):Prop :=
 TMap aV tV w 120 b outer/\(outer.map Prod.snd).Nodup/\b < base/\(∀ e ∈ outer,base <= e.2)/\(∀ e ∈ outer,TMap (Value.int .i64) (Value.int .i64) w 3 e.2 (bT n S e.1))/\(∀ e ∈ S,e.1.take (n - 1) ∈ outer.map Prod.fst)/\∀ e ∈ outer,NiceK e.1
def LevAt (w:World) (b base n:Nat) (S:List (List Int × Int)):Prop:=∃ outer,LevO w b base n S outer

section
variable {w w':World} {b base n:Nat} {S:List (List Int × Int)} {outer:List (List Int × Nat)}
theorem LevO.below (h:LevO w b base n S outer)(hb:Below w.heap.size w w'):LevO w' b base n S outer :=
 ⟨h.1.below hb,h.2.1,h.2.2.1,h.2.2.2.1,fun e he=>(h.2.2.2.2.1 e he).below hb,h.2.2.2.2.2⟩
theorem LevAt.below (h:LevAt w b base n S)(hb:Below w.heap.size w w'):LevAt w' b base n S:=by
 obtain ⟨outer,ho⟩:=h
 exact ⟨outer,ho.below hb⟩
theorem LevO.kept {r:Nat} (h:LevO w b base n S outer)(hg:w.grownBy w' (some r))(h1:r ≠ b)(h2:r < base):LevO w' b base n S outer :=
 ⟨h.1.kept hg (fun e=>by cases e; exact h1 rfl),h.2.1,h.2.2.1,h.2.2.2.1,fun e he=>(h.2.2.2.2.1 e he).kept hg (fun e'=>by cases e'; have:=h.2.2.2.1 e he; omega),h.2.2.2.2.2⟩
theorem LevAt.kept {r:Nat} (h:LevAt w b base n S)(hg:w.grownBy w' (some r))(h1:r ≠ b)(h2:r < base):LevAt w' b base n S:=by
 obtain ⟨outer,ho⟩:=h
 exact ⟨outer,ho.kept hg h1 h2⟩
theorem LevAt.lt (h:LevAt w b base n S):b < w.heap.size:=by
 obtain ⟨outer,ho⟩:=h
 exact ho.1.lt
theorem LevAt.far (h:LevAt w b base n S) {p:Addr} {u0:Value} (hp:w.cell? p = some u0) (u:Value):LevAt (w.setCell p u) b base n S:=by
 obtain ⟨outer,ho⟩:=h
 exact ⟨outer,ho.1.far (ho.1.ne hp) u,ho.2.1,ho.2.2.1,ho.2.2.2.1,fun e he=>(ho.2.2.2.2.1 e he).far ((ho.2.2.2.2.1 e he).ne hp) u,ho.2.2.2.2.2⟩
theorem LevO.start (w:World) (n base:Nat)(h:w.heap.size < base):LevO (w.alloc (.map #[] 0)) w.heap.size base n [] [] :=
 ⟨TMap.made w _ _ _,List.nodup_nil,h,(fun e he=>by cases he),(fun e he=>by cases he),(fun e he=>by cases he),(fun e he=>by cases he)⟩
theorem LevO.look (ho:LevO w b base n S outer) {h:List Int} (hk:NiceK h):(Instr.lookup 205 (.map (some b)) (aV h) false).run Tryz.prog w = .ok ((aC outer h).elim (.map none) tV) w :=
 ho.1.look dW Tryz.underlying205 (nT w) hk.good (fun x hx he=>(ho.2.2.2.2.2.2 x hx).inj hk he)
theorem LevO.insert (ho:LevO w b base n S outer) {h:List Int} (hk:NiceK h)(hl:aC outer h = none) {nb:Nat} (hm:TMap (Value.int .i64) (Value.int .i64) w 3 nb ([]:List (Int × Int)))(hnb:base <= nb)(hfr:∀ e ∈ outer,e.2 ≠ nb) :
  ∃ w',(Instr.mapUpdate 205 (.map (some b)) (aV h) (.map (some nb))).run Tryz.prog w = .ok () w'/\LevO w' b base n S (outer ++ [(h,nb)])/\w.grownBy w' (some b):=by
 have hnew:∀ e ∈ outer,e.1 ≠ h:=by
  intro e he e1
  have:=dK ho.1.nodup he
  rw [e1,hl] at this
  cases this
 obtain ⟨w',h1,h2,h3⟩:=ho.1.update (t:=205) dW Tryz.underlying205 hk.good (fun x hx he=>(ho.2.2.2.2.2.2 x hx).inj hk he) nb
 rw [gY hnew] at h2
 have hb:b < base:=ho.2.2.1
 refine ⟨w',h1,⟨h2,?_,hb,?_,?_,?_,?_⟩,h3⟩
 ·rw [List.map_append,List.nodup_append]
  refine ⟨ho.2.1,by simp,?_⟩
  intro x hx y hy
  simp at hy
  obtain ⟨e,he,rfl⟩:=List.mem_map.1 hx
  rw [hy]
  exact hfr e he
 ·intro e he
  rcases List.mem_append.1 he with he | he
  ·exact ho.2.2.2.1 e he
  rw [List.mem_singleton.1 he]; exact hnb
 ·intro e he
  rcases List.mem_append.1 he with he | he
  ·exact (ho.2.2.2.2.1 e he).kept h3 (fun e'=>by cases e'; have:=ho.2.2.2.1 e he; omega)
  rw [List.mem_singleton.1 he]
  have:bT n S h = []:=by
   unfold bT
   rw [List.filter_eq_nil_iff.2,List.map_nil]
   intro e he' hd
   have:=ho.2.2.2.2.2.1 e he'
   rw [of_decide_eq_true hd] at this
   obtain ⟨x,hx,hx2⟩:=List.mem_map.1 this
   exact hnew x hx hx2
  simp only
  rw [this]
  exact hm.kept h3 (fun e'=>by cases e'; omega)
 ·intro e he
  rw [List.map_append]
  exact List.mem_append_left _ (ho.2.2.2.2.2.1 e he)
 intro e he
 rcases List.mem_append.1 he with he | he
 ·exact ho.2.2.2.2.2.2 e he
 rw [List.mem_singleton.1 he]; exact hk
theorem m7 (n:Nat) (S:List (List Int × Int)) (e:List Int × Int)(h:List Int):bT n (S ++ [e]) h = if e.1.take (n - 1) = h then bT n S h ++ [(e.1.getD (n - 1) 0,e.2)] else bT n S h:=by
 unfold bT
 rw [List.filter_append,List.map_append]
 by_cases hh:e.1.take (n - 1) = h
 ·rw [if_pos hh,List.filter_cons_of_pos (by simpa using hh)]; rfl
 rw [if_neg hh,List.filter_cons_of_neg (by simpa using hh)]; simp
theorem LevO.put (ho:LevO w b base n S outer) {e:List Int × Int} {bi:Nat} (hn:0 < n)(hl:e.1.length = n)(hk:NiceK e.1)(hS:∀ x ∈ S,x.1.length = n/\x.1 ≠ e.1)(hlook:aC outer (e.1.take (n - 1)) = some bi) :
  ∃ w',(Instr.mapUpdate 206 (.map (some bi)) (.int .i64 (e.1.getD (n - 1) 0)) (.int .i64 e.2)).run Tryz.prog w = .ok () w'/\LevO w' b base n (S ++ [e]) outer/\w.grownBy w' (some bi):=by
 have hm:=br hlook
 have hT:=ho.2.2.2.2.1 _ hm
 have hx0:∀ l:List Int,l.length = n->l = l.take (n - 1) ++ [l.getD (n - 1) 0]:=by
  intro l hl
  have e1:l.drop (n - 1) = [l.getD (n - 1) 0]:=by
   rw [List.drop_eq_getElem_cons (by omega),dN (by omega),gD,eG (by omega)]
   rfl
  rw [<- e1,List.take_append_drop]
 have hnew:∀ x ∈ bT n S (e.1.take (n - 1)),x.1 ≠ e.1.getD (n - 1) 0:=by
  intro x hx he
  unfold bT at hx
  obtain ⟨y,hy,rfl⟩:=List.mem_map.1 hx
  obtain ⟨hy1,hy2⟩:=List.mem_filter.1 hy
  have:=hS y hy1
  refine this.2 ?_
  rw [hx0 y.1 this.1,hx0 e.1 hl,of_decide_eq_true hy2,show y.1.getD (n - 1) 0 = e.1.getD (n - 1) 0 from he]
 have hg:∃ kl,keyOf Tryz.prog 3 (.int .i64 (e.1.getD (n - 1) 0)) = some kl:=by
  have hb:0 <= e.1.getD (n - 1) 0/\e.1.getD (n - 1) 0 <= 1000000:=by
   rw [gD,eG (by omega)]
   exact hk.2 _ (List.getElem_mem _)
  exact m5 (by omega) (by omega)
 obtain ⟨w',h1,h2,h3⟩:=hT.update (t:=206) oG Tryz.underlying206 hg (fun x hx he=>by injection he) e.2
 simp only at h1 h2 h3
 rw [gY hnew] at h2
 have hb:b < base:=ho.2.2.1
 have hbi:base <= bi:=ho.2.2.2.1 _ hm
 refine ⟨w',h1,⟨ho.1.kept h3 (fun e'=>by cases e'; omega),ho.2.1,hb,ho.2.2.2.1,?_,?_,ho.2.2.2.2.2.2⟩,h3⟩
 ·intro x hx
  rw [m7]
  by_cases hh:e.1.take (n - 1) = x.1
  ·rw [if_pos hh]
   have:x.2 = bi:=by
    have h5:=dK ho.1.nodup hx
    rw [<- hh,hlook] at h5
    exact (Option.some.inj h5).symm
   rw [this,<- hh]
   exact h2
  rw [if_neg hh]
  refine (ho.2.2.2.2.1 x hx).kept h3 (fun e'=>hh ?_)
  cases e'
  have hi:=List.getElem_of_mem hx
  have hj:=List.getElem_of_mem hm
  obtain ⟨i,hi,ei⟩:=hi
  obtain ⟨j,hj,ej⟩:=hj
  have:i = j:=(List.getElem?_inj (l:=outer.map Prod.snd) (by simpa using hi) ho.2.1).1 (by rw [List.getElem?_map,List.getElem?_map,eG hi,eG hj,ei,ej]; rfl)
  subst this
  rw [ei] at ej
  rw [ej]
 intro x hx
 rcases List.mem_append.1 hx with hx | hx
 ·exact ho.2.2.2.2.2.1 x hx
 rw [List.mem_singleton.1 hx]
 exact List.mem_map.2 ⟨_,hm,rfl⟩
end
end
theorem uJ (w:World):(binOp BinOp.eql 206 (Value.map none) (Value.map none)).run Tryz.prog w = .ok (.bool true) w:=by kernel_rfl
theorem uI (b:Nat) (w:World):(binOp BinOp.eql 206 (Value.map (some b)) (Value.map none)).run Tryz.prog w = .ok (.bool false) w:=by kernel_rfl

def cS (m:List (List Int × Int)) (vis:List Nat):List (List Int × Int):=vis.map fun i=>m.getD i ([],0)
theorem kz (m:List (List Int × Int)) (vis:List Nat) {j:Nat} {e:List Int × Int} (h:m[j]? = some e):cS m (vis ++ [j]) = cS m vis ++ [e]:=by
 unfold cS
 rw [List.map_append,List.map_singleton,gD,h]
 rfl
theorem rm {m:List (List Int × Int)} {vis:List Nat} (hv:∀ i ∈ vis,i < m.length):∀ x ∈ cS m vis,x ∈ m:=by
 intro x hx
 obtain ⟨i,hi,rfl⟩:=List.mem_map.1 hx
 rw [gD,eG (hv i hi)]
 exact List.getElem_mem _
theorem kA {m:List (List Int × Int)} {vis:List Nat} (hn:vis.Nodup)(hv:∀ i ∈ vis,i < m.length)(hall:∀ j,j < m.length->j ∈ vis):(cS m vis).Perm m:=by
 have hp:vis.Perm (List.range m.length):=(List.perm_ext_iff_of_nodup hn List.nodup_range).2 (fun a=>⟨fun h=>List.mem_range.2 (hv a h),fun h=>hall a (List.mem_range.1 h)⟩)
 have h1:=hp.map (fun i=>m.getD i ([],0))
 have h2:(List.range m.length).map (fun i=>m.getD i ([],0)) = m:=by
  apply List.ext_getElem?
  intro i
  rw [List.getElem?_map]
  by_cases hi:i < m.length
  ·rw [List.getElem?_range hi,eG hi]
   simp [gD,hi]
  rw [nI.2 (by simpa using hi),nI.2 (by omega)]
  rfl
 rw [h2] at h1
 exact h1
theorem nW {m:List (List Int × Int)} {vis:List Nat} (hm:(m.map Prod.fst).Nodup)(hv:∀ i ∈ vis,i < m.length) {j:Nat} (hj:j ∉ vis) {e:List Int × Int} (he:m[j]? = some e):∀ x ∈ cS m vis,x.1 ≠ e.1:=by
 intro x hx h
 obtain ⟨i,hi,rfl⟩:=List.mem_map.1 hx
 have hil:=hv i hi
 have h1:(m.map Prod.fst)[i]? = some e.1:=by
  rw [List.getElem?_map,eG hil,<- h,gD,eG hil]
  rfl
 have h2:(m.map Prod.fst)[j]? = some e.1:=by rw [List.getElem?_map,he]; rfl
 have:=(List.getElem?_inj (l:=m.map Prod.fst) (by rw [List.length_map]; exact hil) hm).1 (h1.trans h2.symm)
 exact hj (this ▸ hi)
theorem pJ {p:List Int->Bool} {a b:List (List Int × Int)} (h:a.Perm b):cA p a = cA p b:=by
 induction h with
 | nil=>rfl
 | cons x _ ih=>rw [aK,aK,ih]
 | swap x y l=>rw [aK,aK,aK,aK]; omega
 | trans _ _ ih1 ih2=>exact ih1.trans ih2
theorem Cnt.of_perm {m m':List (List Int × Int)} {T:List Int->Int} (h:Cnt m T)(hp:m'.Perm m):Cnt m' T:=h.perm ((hp.map Prod.fst).nodup_iff.2 h.1) (fun e=>hp.mem_iff)
theorem NiceS.of_perm {n:Nat} {m m':List (List Int × Int)} (h:NiceS n m)(hp:m'.Perm m):NiceS n m':=⟨(hp.map Prod.fst).nodup_iff.2 h.1,fun e he=>h.2 e (hp.mem_iff.1 he)⟩
theorem sB {l:List Int} {d:Nat} (hl:l.length = d + 1)(h4:l.length <= 4):(dG l).set d 0 = dG (l.take d):=by
 obtain ⟨x,hx⟩:∃ x,l[d]? = some x:=⟨_,eG (by omega)⟩
 have h1:(dG (l.take d)).set d (x + 1) = dG l:=by
  have h2:=kP h4 hx
  have h3:l.take (d + 1) = l:=tL (by omega)
  rwa [h3] at h2
 rw [<- h1,List.set_set]
 have e1:(l.take d).length = d:=by rw [List.length_take]; omega
 apply List.ext_getElem?
 intro i
 rw [List.getElem?_set]
 split
 ·next hi =>
  subst hi
  split
  ·unfold dG
   rw [e1,List.getElem?_append_right (by simp; omega),List.length_map,e1,Nat.sub_self,List.getElem?_replicate_of_lt (by omega)]
  next h=>rw [bD (by omega)] at h; omega
 rfl
theorem pf {l:List Int} {d:Nat} (h:d < l.length):(dG l)[d]? = some (l.getD d 0 + 1):=by
 unfold dG
 rw [List.getElem?_append_left (by simpa using h),List.getElem?_map,eG h,gD,eG h]
 rfl
theorem su {l:List Int} {d:Nat} (hl:l.length = d + 1)(h4:d <= 3):((dG l).drop 1).take d ++ List.replicate (4 - d) 0 = dG (l.drop 1):=by
 have e:(l.drop 1).length = d:=by rw [List.length_drop]; omega
 unfold dG
 rw [e]
 congr 1
 rw [List.drop_append_of_le_length (by rw [List.length_map]; omega),List.take_append_of_le_length (by rw [List.length_drop,List.length_map]; omega),<- List.map_drop,tL (by rw [List.length_map,e]; exact nR _)]

def NxS (d nv:Nat) (nx:List (List Int × Int)):Prop:=nx.length <= nv/\∀ e ∈ nx,e.1.length = d/\NiceK e.1/\0 < e.2/\e.2 <= nv * 21474836480000
theorem nN {K:Type} [DecidableEq K] (m:List (K × Int)) (e:K × Int):(fF m e).length <= m.length + 1:=by
 unfold fF dJ
 split
 ·rw [List.length_map]; omega
 rw [List.length_append]; exact nR _
theorem NxS.add {d nv:Nat} {nx:List (List Int × Int)} (h:NxS d nv nx) {k:List Int} (hk:k.length = d)(hn:NiceK k) {c:Int} (hc:0 < c/\c <= 21474836480000):NxS d (nv + 1) (fF nx (k,c)):=by
 refine ⟨Nat.le_trans (nN _ _) (by have:=h.1; omega),fun e he=>?_⟩
 have h0:0 <= (aC nx k).getD 0/\(aC nx k).getD 0 <= nv * 21474836480000:=by
  cases hl:aC nx k with
  | none=>exact ⟨Int.le_refl _,by show (0:Int) <= _; omega⟩
  | some v=>have:=h.2 _ (br hl); exact ⟨Int.le_of_lt this.2.2.1,this.2.2.2⟩
 rcases fm he with he | rfl
 ·have:=h.2 e he
  exact ⟨this.1,this.2.1,this.2.2.1,by have:=this.2.2.2; omega⟩
 exact ⟨hk,hn,by simp only; omega,by simp only; omega⟩
theorem uC {m nx:List (List Int × Int)} {vis:List Nat} {i:Nat} {ks:List Int} {c v:Int} (h:Cnt nx (fun k=>cA (fun x=>x.drop 1 == k) (cS m vis)))(hS:cS m (vis ++ [i]) = cS m vis ++ [(ks,c)])(hc:0 < c)(hv:(aC nx (ks.drop 1)).getD 0 = v) :
  Cnt (dJ nx (ks.drop 1) (v + c)) (fun k=>cA (fun x=>x.drop 1 == k) (cS m (vis ++ [i]))):=by
 have h1:=h.add (k:=ks.drop 1) hc
 unfold fF at h1
 simp only at h1
 rw [hv] at h1
 refine h1.congr (fun k=>?_)
 rw [hS,iC]
 by_cases e:k = ks.drop 1
 ·subst e
  simp
 rw [if_neg e,if_neg]
 simp only [beq_iff_eq]
 exact fun h=>e h.symm
theorem jB {n:Nat}:∀ {l:List Nat},l.Nodup->(∀ i ∈ l,i < n)->l.length <= n:=by
 induction n with
 | zero =>
  intro l _ h
  cases l with
  | nil=>exact nR _
  | cons a l=>have:=h a List.mem_cons_self; omega
 | succ n ih =>
  intro l hn h
  by_cases hm:n ∈ l
  ·have h1:=ih (hn.erase n) (fun i hi=>by
    have h2:=(hn.mem_erase_iff).1 hi
    have h3:=h i h2.2
    have h4:=h2.1
    omega)
   rw [List.length_erase_of_mem hm] at h1
   omega
  have h1:=ih hn (fun i hi=>by
   have h3:=h i hi
   have h4:i ≠ n:=fun e=>hm (e ▸ hi)
   omega)
  omega
def ix (L:List (Int × Int)) (C:Int->Int):Prop:=(L.map Prod.fst).Nodup/\(∀ x,(aC L x).getD 0 = C x)/\∀ e ∈ L,0 < e.2/\0 <= e.1/\e.1 <= 1000000
theorem iD {l:List Int} {n:Nat} (h:l.length = n)(hn:0 < n):l = l.take (n - 1) ++ [l.getD (n - 1) 0]:=by
 have e1:l.drop (n - 1) = [l.getD (n - 1) 0]:=by
  rw [List.drop_eq_getElem_cons (by omega),dN (by omega),gD,eG (by omega)]
  rfl
 rw [<- e1,List.take_append_drop]
theorem gL {n:Nat} {S:List (List Int × Int)} {h:List Int} (hS:NiceS n S)(hn:0 < n) {x c:Int} (hm:(x,c) ∈ bT n S h):(h ++ [x],c) ∈ S:=by
 unfold bT at hm
 obtain ⟨e,he,hx⟩:=List.mem_map.1 hm
 obtain ⟨he1,he2⟩:=List.mem_filter.1 he
 injection hx with hx1 hx2
 have:=iD (hS.2 e he1).1 hn
 rw [of_decide_eq_true he2,hx1] at this
 rw [<- this,<- hx2]
 exact he1
theorem qt {n:Nat} {S:List (List Int × Int)} {h:List Int} (hl:h.length = n - 1) {x c:Int} (hm:(h ++ [x],c) ∈ S):(x,c) ∈ bT n S h:=by
 unfold bT
 refine List.mem_map.2 ⟨(h ++ [x],c),List.mem_filter.2 ⟨hm,dT ?_⟩,?_⟩
 ·simp only
  rw [<- hl,List.take_left]
 simp only
 rw [<- hl,gD,List.getElem?_append_right (nR _),Nat.sub_self]
 rfl
theorem ik {n:Nat} {S:List (List Int × Int)} {h:List Int} (hS:NiceS n S)(hn:0 < n):((bT n S h).map Prod.fst).Nodup:=by
 unfold bT
 rw [List.map_map]
 have hp:S.Pairwise (fun a b=>a.1 ≠ b.1):=List.pairwise_map.1 hS.1
 have hp2:=hp.filter (fun e=>decide (e.1.take (n - 1) = h))
 refine List.pairwise_map.2 (hp2.imp_of_mem ?_)
 intro a b ha hb hne he
 simp only [Function.comp] at he
 obtain ⟨ha1,ha2⟩:=List.mem_filter.1 ha
 obtain ⟨hb1,hb2⟩:=List.mem_filter.1 hb
 refine hne ?_
 rw [iD (hS.2 a ha1).1 hn,iD (hS.2 b hb1).1 hn,of_decide_eq_true ha2,of_decide_eq_true hb2,he]
theorem oH {n:Nat} {S:List (List Int × Int)} {T:List Int->Int} {h:List Int} (hS:NiceS n S)(hT:Cnt S T)(hn:0 < n)(hl:h.length = n - 1):ix (bT n S h) (fun x=>T (h ++ [x])):=by
 refine ⟨ik hS hn,fun x=>?_,fun e he=>?_⟩
 ·cases hx:aC (bT n S h) x with
  | some c =>
   have:=hT.of_mem (gL hS hn (br hx))
   exact this.symm
  | none =>
   by_cases h0:T (h ++ [x]) = 0
   ·exact h0.symm
   have h1:=dK (ik hS hn) (qt (n:=n) hl (hT.mem h0))
   simp only at h1
   rw [hx] at h1
   cases h1
 have h1:=gL hS hn (x:=e.1) (c:=e.2) he
 have h2:=hS.2 _ h1
 have h3:=h2.2.1.2 e.1 (by simp)
 exact ⟨h2.2.2.1,h3.1,h3.2⟩
theorem tM {C:Int->Int} (h:∀ x,C x = 0):ix [] C:=⟨List.nodup_nil,fun x=>by rw [h x]; rfl,fun e he=>by cases he⟩
def el (L:List (Int × Int)):Int:=(L.map Prod.snd).sum
def aM (C:Int->Int) (v:Nat):Int:=((List.range (v + 1)).map fun (x:Nat)=>C x).sum
def tC (C:Int->Int) (v:Nat):List (Int × Int):=((List.range (v + 1)).map fun (x:Nat)=>((x:Int),C x)).filter fun e=>decide (e.2 ≠ 0)
theorem kY {L:List (Int × Int)} {C:Int->Int} {v:Nat} (h:ix L C)(hv:∀ e ∈ L,e.1 <= v):L.Perm (tC C v):=by
 have hn1:L.Nodup:=(List.pairwise_map.1 h.1).imp (fun hne e=>hne (by rw [e]))
 have hn2:(tC C v).Nodup:=by
  unfold tC
  refine List.Pairwise.filter _ ?_
  refine List.pairwise_map.2 (List.nodup_range.imp ?_)
  intro a b hne e
  injection e with e1
  exact hne (by omega)
 refine (List.perm_ext_iff_of_nodup hn1 hn2).2 (fun e=>⟨fun he=>?_,fun he=>?_⟩)
 ·have h1:=h.2.2 e he
  have h2:=hv e he
  have h3:=dK h.1 he
  have h4:=h.2.1 e.1
  rw [h3] at h4
  have h5:C e.1 = e.2:=h4.symm
  refine List.mem_filter.2 ⟨List.mem_map.2 ⟨e.1.toNat,List.mem_range.2 (by omega),?_⟩,dT (by omega)⟩
  have e1:((e.1.toNat:Nat):Int) = e.1:=by omega
  rw [e1,h5]
 obtain ⟨he1,he2⟩:=List.mem_filter.1 he
 obtain ⟨x,hx,rfl⟩:=List.mem_map.1 he1
 have h1:C (x:Int) ≠ 0:=of_decide_eq_true he2
 have h2:=h.2.1 (x:Int)
 cases hl:aC L (x:Int) with
 | none=>rw [hl] at h2; exact absurd h2.symm h1
 | some c=>rw [hl] at h2; have h3:=br hl; rwa [show c = C (x:Int) from h2] at h3
theorem mA {a b:List Int} (h:a.Perm b):a.sum = b.sum:=by
 induction h with
 | nil=>rfl
 | cons x _ ih=>rw [List.sum_cons,List.sum_cons,ih]
 | swap x y l=>rw [List.sum_cons,List.sum_cons,List.sum_cons,List.sum_cons]; omega
 | trans _ _ ih1 ih2=>exact ih1.trans ih2
theorem pL (l:List (Int × Int)):((l.filter fun e=>decide (e.2 ≠ 0)).map Prod.snd).sum = (l.map Prod.snd).sum:=by
 induction l with
 | nil=>rfl
 | cons e l ih =>
  by_cases h:e.2 = 0
  ·rw [List.filter_cons_of_neg (by simpa using h),ih,List.map_cons,List.sum_cons,h,Int.zero_add]
  rw [List.filter_cons_of_pos (by simpa using h),List.map_cons,List.map_cons,List.sum_cons,List.sum_cons,ih]
theorem gV {L:List (Int × Int)} {C:Int->Int} {v:Nat} (h:ix L C)(hv:∀ e ∈ L,e.1 <= v):el L = aM C v:=by
 unfold el aM
 rw [mA ((kY h hv).map Prod.snd)]
 unfold tC
 rw [pL,List.map_map]
 rfl
def aF (C:Int->Int) (v:Nat):Nat:=((List.range (v + 1)).filter fun (x:Nat)=>decide (C x ≠ 0)).length
theorem length_eq {L:List (Int × Int)} {C:Int->Int} {v:Nat} (h:ix L C)(hv:∀ e ∈ L,e.1 <= v):L.length = aF C v:=by
 rw [(kY h hv).length_eq]
 unfold tC aF
 rw [List.filter_map,List.length_map]
 rfl
def Mild (C:Int->Int):Prop:=∀ x,0 <= C x/\C x <= 21474836480000
theorem dC (C:Int->Int) (v:Nat):aM C (v + 1) = aM C v + C ((v + 1:Nat):Int):=by
 unfold aM
 rw [List.range_succ,List.map_append,List.sum_append]
 simp
theorem dB (C:Int->Int):aM C 0 = C 0:=by
 unfold aM
 simp
theorem bH {C:Int->Int} (h:Mild C) (v:Nat):0 <= aM C v/\aM C v <= ((v + 1:Nat):Int) * 21474836480000:=by
 induction v with
 | zero=>rw [dB]; have:=h 0; omega
 | succ v ih=>rw [dC]; have:=h ((v + 1:Nat):Int); omega
theorem dV (C:Int->Int) (v:Nat):aF C v <= v + 1:=by
 unfold aF
 exact Nat.le_trans (List.length_filter_le _ _) (by simp)
theorem er (C:Int->Int) (v:Nat):aF C (v + 1) = aF C v + if C ((v + 1:Nat):Int) = 0 then 0 else 1:=by
 unfold aF
 rw [List.range_succ,List.filter_append,List.length_append]
 congr 1
 by_cases h:C ((v + 1:Nat):Int) = 0
 ·rw [if_pos h,List.filter_cons_of_neg (by simpa using h)]; rfl
 rw [if_neg h,List.filter_cons_of_pos (by simpa using h)]; rfl
theorem ep (C:Int->Int):aF C 0 = if C 0 = 0 then 0 else 1:=by
 unfold aF
 by_cases h:C 0 = 0 <;> simp [h]
theorem dU {C:Int->Int} (h:Mild C) (v:Nat):0 < aM C v ↔ 0 < aF C v:=by
 induction v with
 | zero=>rw [dB,ep]; have:=h 0; split <;> omega
 | succ v ih =>
  rw [dC,er]
  have h1:=h ((v + 1:Nat):Int)
  have h2:=bH h v
  split <;> omega
theorem lF {C:Int->Int} {v:Nat} (h:aF C v ≠ v + 1):∃ x,x <= v/\C (x:Int) = 0:=by
 induction v with
 | zero =>
  rw [ep] at h
  exact ⟨0,nR _,by
   by_cases hc:C 0 = 0
   ·exact hc
   rw [if_neg hc] at h; exact absurd rfl h⟩
 | succ v ih =>
  rw [er] at h
  by_cases hc:C ((v + 1:Nat):Int) = 0
  ·exact ⟨v + 1,nR _,hc⟩
  rw [if_neg hc] at h
  obtain ⟨x,hx,h0⟩:=ih (by omega)
  exact ⟨x,by omega,h0⟩

theorem dA {k:Nat} {z:Int} (h:z.natAbs < 2 ^ k)(hk:0 < k):QB k (z:Rat):=⟨by simpa using h,by simpa using Nat.one_lt_two_pow (n:=k) (by omega)⟩
theorem QB.div {j k:Nat} {a b:Rat} (ha:QB j a)(hb:QB k b)(hk:0 < k):QB (j + k) (a / b):=by
 rw [Rat.div_def]
 exact ha.mul (hb.inv hk)
theorem cB (k:Nat)(hk:0 < k):QB k 0:=bv (n:=0) (Nat.pow_pos (by omega)) hk
theorem Mild.qb {C:Int->Int} (h:Mild C) (x:Int):QB 64 (C x:Rat):=dA (by have:=h x; omega) (by omega)
theorem Mild.qbsum {C:Int->Int} (h:Mild C) {v:Nat} (hv:v <= 8):QB 64 (aM C v:Rat):=dA (by have:=bH h v; omega) (by omega)

def bq (n:Nat):Nat:=300 * 11 ^ n
theorem po {n:Nat} (h:n <= 4):bq n <= 4392300:=by
 have:11 ^ n <= 11 ^ 4:=Nat.pow_le_pow_right (by omega) h
 unfold bq
 omega
theorem lE (n:Nat):300 <= bq n:=by
 have:1 <= 11 ^ n:=Nat.pow_pos (by omega)
 unfold bq
 omega
theorem pn (n:Nat):bq (n + 1) = 11 * bq n:=by unfold bq; rw [Nat.pow_succ]; omega

def dO (v:Nat):List Rat:=List.replicate (v + 1) ((1:Rat) / ((v + 1:Nat):Rat))
def bQ (C:Int->Int) (v:Nat):List Rat:=(List.range (v + 1)).map fun (x:Nat)=>(C x:Rat) / (aM C v:Rat)
def aY (C:Int->Int) (ps:List Rat):Nat->Rat
 | 0=>0
 | j + 1=>if C (j:Int) = 0 then aY C ps j + ps.getD j 0 else aY C ps j
def iA (C:Int->Int) (v:Nat) (p:Rat) (x:Nat):Rat:=((C x:Rat) + (aF C v:Rat) * p) / ((aM C v + aF C v:Int):Rat)
def fU (C:Int->Int) (v:Nat) (a rest p:Rat) (x:Nat):Rat :=
 if 0 < C x then ((C x:Rat) - a) / (aM C v:Rat) else a * (aF C v:Rat) / (aM C v:Rat) * p / rest
def bw (T:Nat->List Int->Int->Int) (v:Nat):Nat->List Int->List Rat
 | 0,_=>dO v
 | n + 1,h=>if aM (T (n + 1) h) v = 0 then bw T v n (h.drop 1) else (List.range (v + 1)).map fun x=>iA (T (n + 1) h) v ((bw T v n (h.drop 1)).getD x 0) x
def bJ (T:Nat->List Int->Int->Int) (v:Nat) (a:Rat):Nat->List Int->List Rat
 | 0,_=>dO v
 | n + 1,h=>if aF (T (n + 1) h) v = v + 1 then bQ (T (n + 1) h) v else
  if aM (T (n + 1) h) v = 0 then bJ T v a n (h.drop 1) else
   (List.range (v + 1)).map fun x=>fU (T (n + 1) h) v a (aY (T (n + 1) h) (bJ T v a n (h.drop 1)) (v + 1)) ((bJ T v a n (h.drop 1)).getD x 0) x
def cG (T:Nat->List Int->Int->Int) (v:Nat)(h:List Int):Nat->List Rat
 | 0=>dO v
 | j + 1=>if 0 < aM (T (j + 1) (h.drop (h.length - j))) v then bQ (T (j + 1) (h.drop (h.length - j))) v else cG T v h j
def jD (T:Nat->List Int->Int->Int) (v:Nat) (mix:List Rat)(h:List Int) (x:Nat):Nat->Rat
 | 0=>0
 | j + 1=>jD T v mix h x j + mix.getD j 0 * (cG T v h j).getD x 0
def dR (T:Nat->List Int->Int->Int) (v:Nat) (mix:List Rat) (n:Nat)(h:List Int):List Rat:=(List.range (v + 1)).map fun x=>jD T v mix h x (n + 1)

theorem eE (v:Nat):(dO v).length = v + 1:=by simp [dO]
theorem gA (C:Int->Int) (v:Nat):(bQ C v).length = v + 1:=by simp [bQ]
theorem cL (T:Nat->List Int->Int->Int) (v n:Nat)(h:List Int):(bw T v n h).length = v + 1:=by
 induction n generalizing h with
 | zero=>exact eE v
 | succ n ih=>unfold bw; split; exact ih _; simp
theorem bN (T:Nat->List Int->Int->Int) (v:Nat) (a:Rat) (n:Nat)(h:List Int):(bJ T v a n h).length = v + 1:=by
 induction n generalizing h with
 | zero=>exact eE v
 | succ n ih =>
  unfold bJ
  split
  ·exact gA _ _
  split
  ·exact ih _
  simp
theorem dD (T:Nat->List Int->Int->Int) (v:Nat)(h:List Int) (j:Nat):(cG T v h j).length = v + 1:=by
 induction j with
 | zero=>exact eE v
 | succ n ih=>unfold cG; split; exact gA _ _; exact ih
theorem gF (T:Nat->List Int->Int->Int) (v:Nat) (mix:List Rat) (n:Nat)(h:List Int):(dR T v mix n h).length = v + 1:=by simp [dR]

theorem cF {l:List Rat} {i:Nat} {P:Rat->Prop} (h0:P 0)(h:∀ q ∈ l,P q):P (l.getD i 0):=by
 rw [gD]
 cases hx:l[i]? with
 | none=>exact h0
 | some q=>exact h q (mG hx)
theorem jO {v:Nat} (hv:v <= 8):∀ q ∈ dO v,QB 128 q:=by
 intro q hq
 rw [List.eq_of_mem_replicate hq]
 exact (bv (n:=1) (k:=64) (by omega) (by omega)).div (bv (n:=v + 1) (k:=64) (by omega) (by omega)) (by omega)
theorem kG {C:Int->Int} (h:Mild C) {v:Nat} (hv:v <= 8):∀ q ∈ bQ C v,QB 128 q:=by
 intro q hq
 obtain ⟨x,_,rfl⟩:=List.mem_map.1 hq
 exact (h.qb x).div (h.qbsum hv) (by omega)
theorem jq (C:Int->Int) {ps:List Rat} {B:Nat} (hB:0 < B)(h:∀ q ∈ ps,QB B q) (j:Nat):QB (1 + j * (B + 1)) (aY C ps j):=by
 induction j with
 | zero=>exact cB _ (by omega)
 | succ j ih =>
  unfold aY
  split
  ·refine (ih.add (cF (i:=j) (cB B hB) h)).mono ?_
   rw [Nat.add_mul]
   omega
  exact ih.mono (by rw [Nat.add_mul]; omega)
theorem pC {C:Int->Int} (h:Mild C) {v:Nat} (hv:v <= 8) {B:Nat} {p:Rat} (hp:QB B p) (x:Nat):QB (B + 193) (iA C v p x):=by
 have h1:QB 64 (aF C v:Rat):=bv (by have:=dV C v; omega) (by omega)
 have h2:QB 64 ((aM C v + aF C v:Int):Rat):=dA (by have:=bH h v; have:=dV C v; omega) (by omega)
 exact (((h.qb x).add (h1.mul hp)).div h2 (by omega)).mono (by omega)
theorem tH {C:Int->Int} (h:Mild C) {v:Nat} (hv:v <= 8) {B R:Nat} {a rest p:Rat} (ha:QB 64 a)(hp:QB B p)(hr:QB R rest)(hR:0 < R) (x:Nat):QB (193 + B + R) (fU C v a rest p x):=by
 have h1:QB 64 (aF C v:Rat):=bv (by have:=dV C v; omega) (by omega)
 unfold fU
 split
 ·have h3:QB (64 + 64 + 1) ((C x:Rat) - a):=by rw [Rat.sub_eq_add_neg]; exact (h.qb x).add ha.neg
  exact (h3.div (h.qbsum hv) (by omega)).mono (by omega)
 exact ((((ha.mul h1).div (h.qbsum hv) (by omega)).mul hp).div hr hR).mono (by omega)
theorem iB {T:Nat->List Int->Int->Int} (hT:∀ n h,Mild (T n h)) {v:Nat} (hv:v <= 8) (n:Nat)(h:List Int):∀ q ∈ bw T v n h,QB (bq n) q:=by
 induction n generalizing h with
 | zero=>exact fun q hq=>(jO hv q hq).mono (by have:=lE 0; omega)
 | succ n ih =>
  have hb:=pn n
  have hg:=lE n
  unfold bw
  split
  ·exact fun q hq=>(ih _ q hq).mono (by omega)
  intro q hq
  obtain ⟨x,_,rfl⟩:=List.mem_map.1 hq
  exact (pC (hT _ _) hv (cF (i:=x) (cB (bq n) (by omega)) (ih _)) x).mono (by omega)
theorem jS {T:Nat->List Int->Int->Int} (hT:∀ n h,Mild (T n h)) {v:Nat} (hv:v <= 8) {a:Rat} (ha:QB 64 a) (n:Nat)(h:List Int):∀ q ∈ bJ T v a n h,QB (bq n) q:=by
 induction n generalizing h with
 | zero=>exact fun q hq=>(jO hv q hq).mono (by have:=lE 0; omega)
 | succ n ih =>
  have hb:=pn n
  have hg:=lE n
  unfold bJ
  split
  ·exact fun q hq=>(kG (hT _ _) hv q hq).mono (by omega)
  split
  ·exact fun q hq=>(ih _ q hq).mono (by omega)
  intro q hq
  obtain ⟨x,_,rfl⟩:=List.mem_map.1 hq
  have hr:=jq (T (n + 1) h) (by omega) (ih (h.drop 1)) (v + 1)
  have hl:1 + (v + 1) * (bq n + 1) <= 1 + 9 * (bq n + 1):=Nat.add_le_add_left (Nat.mul_le_mul_right _ (by omega)) 1
  exact (tH (hT _ _) hv ha (cF (i:=x) (cB (bq n) (by omega)) (ih _)) (hr.mono hl) (by omega) x).mono (by omega)
theorem ja {T:Nat->List Int->Int->Int} (hT:∀ n h,Mild (T n h)) {v:Nat} (hv:v <= 8)(h:List Int) (j:Nat):∀ q ∈ cG T v h j,QB 128 q:=by
 induction j with
 | zero=>exact jO hv
 | succ n ih=>unfold cG; split; exact kG (hT _ _) hv; exact ih
theorem lQ {T:Nat->List Int->Int->Int} (hT:∀ n h,Mild (T n h)) {v:Nat} (hv:v <= 8) {mix:List Rat} (hm:∀ q ∈ mix,QB 64 q)(h:List Int) (x j:Nat):QB (1 + j * 193) (jD T v mix h x j):=by
 induction j with
 | zero=>exact cB _ (by omega)
 | succ j ih =>
  unfold jD
  exact (ih.add ((cF (i:=j) (cB 64 (by omega)) hm).mul (cF (i:=x) (cB 128 (by omega)) (ja hT hv h j)))).mono (by omega)
theorem qk {T:Nat->List Int->Int->Int} (hT:∀ n h,Mild (T n h)) {v:Nat} (hv:v <= 8) {mix:List Rat} (hm:∀ q ∈ mix,QB 64 q) {n:Nat} (hn:n <= 4)(h:List Int):∀ q ∈ dR T v mix n h,QB 966 q:=by
 intro q hq
 obtain ⟨x,_,rfl⟩:=List.mem_map.1 hq
 exact (lQ hT hv hm h x (n + 1)).mono (by omega)

theorem gm (v:Nat):∀ q ∈ dO v,0 < q:=by
 intro q hq
 rw [List.eq_of_mem_replicate hq,Rat.div_def,Rat.one_mul]
 exact Rat.inv_pos.2 (by exact_mod_cast Nat.succ_pos v)
theorem oe {C:Int->Int} (h:Mild C) {v:Nat} (hk:aF C v = v + 1):∀ q ∈ bQ C v,0 < q:=by
 have hs:0 < aM C v:=(dU h v).2 (by omega)
 have hall:∀ (v:Nat),aF C v = v + 1->∀ x ≤ v,C (x:Int) ≠ 0:=by
  intro v
  induction v with
  | zero =>
   intro hk x hx e; rw [ep] at hk; obtain rfl:x = 0:=by omega
   rw [if_pos (show C 0 = 0 from e)] at hk; omega
  | succ v ih =>
   intro hk x hx e
   rw [er] at hk
   have:=dV C v
   by_cases hx2:x = v + 1
   ·subst hx2
    rw [if_pos e] at hk
    omega
   split at hk
   ·omega
   exact ih (by omega) x (by omega) e
 intro q hq
 obtain ⟨x,hx,rfl⟩:=List.mem_map.1 hq
 have h1:=hall v hk x (by have:=List.mem_range.1 hx; omega)
 have h2:=h x
 rw [Rat.div_def]
 exact Rat.mul_pos (by exact_mod_cast (show 0 < C x by omega)) (Rat.inv_pos.2 (by exact_mod_cast hs))
theorem lM (C:Int->Int) {ps:List Rat} (h:∀ q ∈ ps,0 < q) (j:Nat):0 <= aY C ps j:=by
 induction j with
 | zero=>exact Rat.le_refl
 | succ j ih =>
  unfold aY
  split
  ·exact Rat.add_nonneg ih (cF (i:=j) (P:=fun q=>0 <= q) Rat.le_refl (fun q hq=>Rat.le_of_lt (h q hq)))
  exact ih
theorem gc {C:Int->Int} {ps:List Rat} (h:∀ q ∈ ps,0 < q) {j x:Nat} (hx:x < j)(hl:j <= ps.length)(hc:C (x:Int) = 0):0 < aY C ps j:=by
 induction j with
 | zero=>omega
 | succ j ih =>
  have hp:0 < ps.getD j 0:=by
   rw [gD,eG (by omega)]
   exact h _ (List.getElem_mem _)
  unfold aY
  by_cases e:x = j
  ·subst e
   rw [if_pos hc]
   have h1:=lM C h x
   have h2:=(Rat.add_lt_add_left (c:=aY C ps x)).2 hp
   rw [Rat.add_zero] at h2
   exact Std.lt_of_le_of_lt h1 h2
  have h3:=ih (by omega) (by omega)
  split
  ·have h2:=(Rat.add_lt_add_left (c:=aY C ps j)).2 hp
   rw [Rat.add_zero] at h2
   exact Std.lt_trans h3 h2
  exact h3
theorem fT {a b:Rat} (ha:0 < a)(hb:0 < b):0 < a / b:=by
 rw [Rat.div_def]
 exact Rat.mul_pos ha (Rat.inv_pos.2 hb)
theorem qN {C:Int->Int} {v:Nat} {a rest p:Rat} (ha:0 < a)(ha1:a < 1)(hp:0 < p)(hr:0 < rest)(hs:0 < aM C v)(hk:0 < aF C v) (x:Nat):0 < fU C v a rest p x:=by
 have hs':(0:Rat) < (aM C v:Rat):=by exact_mod_cast hs
 have hk':(0:Rat) < (aF C v:Rat):=by exact_mod_cast hk
 unfold fU
 split
 ·next h =>
  refine fT ?_ hs'
  have h1:(1:Rat) <= (C x:Rat):=by exact_mod_cast (show (1:Int) <= C x by omega)
  have h2:a < (C x:Rat):=Std.lt_of_lt_of_le ha1 h1
  exact (Rat.lt_iff_sub_pos _ _).1 h2
 exact fT (Rat.mul_pos (fT (Rat.mul_pos ha hk') hs') hp) hr
theorem gn {T:Nat->List Int->Int->Int} (hT:∀ n h,Mild (T n h)) {v:Nat} {a:Rat} (ha:0 < a)(ha1:a < 1) (n:Nat)(h:List Int):∀ q ∈ bJ T v a n h,0 < q:=by
 induction n generalizing h with
 | zero=>exact gm v
 | succ n ih =>
  unfold bJ
  split
  ·next hk=>exact oe (hT _ _) hk
  next hk =>
  split
  ·exact ih _
  next hs =>
  intro q hq
  obtain ⟨x,hx,rfl⟩:=List.mem_map.1 hq
  have hxl:=List.mem_range.1 hx
  have hs0:0 < aM (T (n + 1) h) v:=by have:=bH (hT (n + 1) h) v; omega
  obtain ⟨y,hy,hy0⟩:=lF hk
  have hr:0 < aY (T (n + 1) h) (bJ T v a n (h.drop 1)) (v + 1):=gc (ih _) (x:=y) (by omega) (by rw [bN]; exact nR _) hy0
  have hp:0 < (bJ T v a n (h.drop 1)).getD x 0:=by
   rw [gD,eG (by rw [bN]; exact hxl)]
   exact ih _ _ (List.getElem_mem _)
  exact qN ha ha1 hp hr hs0 ((dU (hT _ _) v).1 hs0) x
theorem jd {gs:List (List Int × Int)} (hg:∀ g ∈ gs,0 < g.2/\g.2 <= 1073741824)(hl:gs.length <= 20000) (d:Nat)(h:List Int):Mild (fun x=>tot d gs (h ++ [x])):=by
 intro x
 have h1:=fJ (p:=fun y=>y.drop d == h ++ [x]) (gs:=gs) (fun g hh=>Int.le_of_lt (hg g hh).1)
 have h2:=oV (p:=fun y=>y.drop d == h ++ [x]) (gs:=gs) (M:=1073741824) (fun g hh=>⟨Int.le_of_lt (hg g hh).1,(hg g hh).2⟩)
 simp only [tot]
 omega
end Go.Proofs.YtjebfdfkjlkifaaGreat
