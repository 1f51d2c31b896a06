/- Lemmas on the way: Lev, Vis, Seen, Sn0. -/
import Derived.Test.YtdehimgccmbfkaaGreatT35
set_option linter.all false
set_option maxRecDepth 1000000
set_option maxHeartbeats 32000000
namespace Go.Proofs.YtdehimgccmbfkaaGreat
open Go.RowKit
section
open Go.Maps (Keyed)

section
variable {K V:Type} [DecidableEq K] {ek:K->Value} {ev:V->Value} {w w':World} {kt e t:TypeId} {b:Nat} {m:List (K × V)} {k:K}
theorem TMap.below (h:TMap ek ev w kt b m)(hb:Below w.heap.size w w'):TMap ek ev w' kt b m:=MapAt.below h hb
theorem TMap.drew (h:TMap ek ev w kt b m):TMap ek ev w.drew kt b m:=h
theorem TMap.drewN (h:TMap ek ev w kt b m) (n:Nat):TMap ek ev (w.drewN n) kt b m:=h
theorem TMap.lt (h:TMap ek ev w kt b m):b < w.heap.size:=MapAt.lt h
theorem TMap.kept {row:Option Nat} (h:TMap ek ev w kt b m)(hg:w.grownBy w' row)(hne:some b ≠ row):TMap ek ev w' kt b m:=MapAt.kept h hg hne
theorem TMap.far (h:TMap ek ev w kt b m) {p:Addr} (hp:b ≠ p.block) (u:Value):TMap ek ev (w.setCell p u) kt b m:=MapAt.far h hp u
theorem TMap.ne (h:TMap ek ev w kt b m) {p:Addr} {u0:Value} (hp:w.cell? p = some u0):b ≠ p.block:=by
 intro e
 have h1:=h.1
 subst e
 unfold World.cell? at hp
 rw [h1] at hp
 simp at hp
theorem TMap.made (w:World) (ek:K->Value) (ev:V->Value) (kt:TypeId):TMap ek ev (w.alloc (.map #[] 0)) kt w.heap.size ([]:List (K × V)):=MapAt.made Tryz.prog w kt
theorem TMap.low (h:TMap ek ev w kt b m) {B:Nat} (hB:b < B)(hb:Below B w w'):TMap ek ev w' kt b m:=⟨(hb.block b hB).trans h.1,h.2⟩
theorem TMap.update (h:TMap ek ev w kt b m) (L:Keyed Tryz.prog kt)(ht:Tryz.prog.underlying t = some (.map kt e))(hk:∃ kl,keyOf Tryz.prog kt (ek k) = some kl) (inj:∀ x ∈ m,ek x.1 = ek k->x.1 = k) (v:V) :
  ∃ w',(Instr.mapUpdate t (.map (some b)) (ek k) (ev v)).run Tryz.prog w = .ok () w'/\TMap ek ev w' kt b (putT m k v)/\w.grownBy w' (some b):=by
 rcases MapAt.update h L ht hk (ev v) with ⟨j,v0,w',h1,h2,h3,h4⟩ | ⟨h1,w',h2,h3,h4⟩
 ·refine ⟨w',h2,?_,h4⟩
  rw [encM_get] at h1
  cases hx:m[j]? with
  | none=>rw [hx] at h1; cases h1
  | some x =>
   rw [hx] at h1
   simp only [Option.map_some,Option.some.injEq,Prod.mk.injEq] at h1
   have hxk:=inj x (List.mem_of_getElem? hx) h1.1
   have hm:m[j]? = some (k,x.2):=by rw [hx,<- hxk]
   unfold TMap
   rw [putT_old h.nodup hm]
   unfold encM at h3 ⊢
   rw [List.map_set]
   exact h3
 refine ⟨w',h2,?_,h4⟩
 unfold TMap
 rw [putT_new (fun x hx he=>h1 (ek x.1,ev x.2) (List.mem_map.2 ⟨x,hx,rfl⟩) (by rw [he]))]
 unfold encM at h3 ⊢
 rw [List.map_append]
 exact h3
end

theorem zeroMapInt (w:World):(zeroValue 303).run Tryz.prog w = .ok (.map none) w:=by kernel_rfl
def bmap (b:Nat):Value:=.map (some b)
def innerL (n:Nat) (S:List (List Int × Int))(h:List Int):List (Int × Int):=(S.filter (fun e=>decide (e.1.take (n - 1) = h))).map fun e=>(e.1.getD (n - 1) 0,e.2)
def NiceS (n:Nat) (S:List (List Int × Int)):Prop:=(S.map Prod.fst).Nodup/\∀ e ∈ S,e.1.length = n/\NiceK e.1/\0 < e.2/\e.2 <= 21474836480000
def LevO (w:World) (b base n:Nat) (S:List (List Int × Int)) (outer:List (List Int × Nat)):Prop :=
 TMap keyV bmap w 299 b outer/\(outer.map Prod.snd).Nodup/\b < base/\(∀ e ∈ outer,base <= e.2)/\(∀ e ∈ outer,TMap (Value.int .i64) (Value.int .i64) w 3 e.2 (innerL n S e.1))/\(∀ e ∈ S,e.1.take (n - 1) ∈ outer.map Prod.fst)/\∀ e ∈ outer,NiceK e.1
def LevAt (w:World) (b base n:Nat) (S:List (List Int × Int)):Prop:=∃ outer,LevO w b base n S outer

section
variable {w w':World} {b base n:Nat} {S:List (List Int × Int)} {outer:List (List Int × Nat)}
theorem LevO.below (h:LevO w b base n S outer)(hb:Below w.heap.size w w'):LevO w' b base n S outer :=
 ⟨h.1.below hb,h.2.1,h.2.2.1,h.2.2.2.1,fun e he=>(h.2.2.2.2.1 e he).below hb,h.2.2.2.2.2⟩
theorem LevAt.below (h:LevAt w b base n S)(hb:Below w.heap.size w w'):LevAt w' b base n S:=by
 obtain ⟨outer,ho⟩:=h
 exact ⟨outer,ho.below hb⟩
theorem LevO.kept {r:Nat} (h:LevO w b base n S outer)(hg:w.grownBy w' (some r))(h1:r ≠ b)(h2:r < base):LevO w' b base n S outer :=
 ⟨h.1.kept hg (fun e=>by cases e; exact h1 rfl),h.2.1,h.2.2.1,h.2.2.2.1,fun e he=>(h.2.2.2.2.1 e he).kept hg (fun e'=>by cases e'; have:=h.2.2.2.1 e he; omega),h.2.2.2.2.2⟩
theorem LevAt.kept {r:Nat} (h:LevAt w b base n S)(hg:w.grownBy w' (some r))(h1:r ≠ b)(h2:r < base):LevAt w' b base n S:=by
 obtain ⟨outer,ho⟩:=h
 exact ⟨outer,ho.kept hg h1 h2⟩
theorem LevAt.lt (h:LevAt w b base n S):b < w.heap.size:=by
 obtain ⟨outer,ho⟩:=h
 exact ho.1.lt
theorem LevAt.far (h:LevAt w b base n S) {p:Addr} {u0:Value} (hp:w.cell? p = some u0) (u:Value):LevAt (w.setCell p u) b base n S:=by
 obtain ⟨outer,ho⟩:=h
 exact ⟨outer,ho.1.far (ho.1.ne hp) u,ho.2.1,ho.2.2.1,ho.2.2.2.1,fun e he=>(ho.2.2.2.2.1 e he).far ((ho.2.2.2.2.1 e he).ne hp) u,ho.2.2.2.2.2⟩
theorem LevO.start (w:World) (n base:Nat)(h:w.heap.size < base):LevO (w.alloc (.map #[] 0)) w.heap.size base n [] [] :=
 ⟨TMap.made w _ _ _,List.nodup_nil,h,(fun e he=>by cases he),(fun e he=>by cases he),(fun e he=>by cases he),(fun e he=>by cases he)⟩
theorem LevO.look (ho:LevO w b base n S outer) {h:List Int} (hk:NiceK h):(Instr.lookup 302 (.map (some b)) (keyV h) false).run Tryz.prog w = .ok ((lookT outer h).elim (.map none) bmap) w :=
 ho.1.look keyLaw Tryz.underlying302 (zeroMapInt w) hk.good (fun x hx he=>(ho.2.2.2.2.2.2 x hx).inj hk he)
theorem LevO.insert (ho:LevO w b base n S outer) {h:List Int} (hk:NiceK h)(hl:lookT outer h = none) {nb:Nat} (hm:TMap (Value.int .i64) (Value.int .i64) w 3 nb ([]:List (Int × Int)))(hnb:base <= nb)(hfr:∀ e ∈ outer,e.2 ≠ nb) :
  ∃ w',(Instr.mapUpdate 302 (.map (some b)) (keyV h) (.map (some nb))).run Tryz.prog w = .ok () w'/\LevO w' b base n S (outer ++ [(h,nb)])/\w.grownBy w' (some b):=by
 have hnew:∀ e ∈ outer,e.1 ≠ h:=by
  intro e he e1
  have:=nodup_at ho.1.nodup he
  rw [e1,hl] at this
  cases this
 obtain ⟨w',h1,h2,h3⟩:=ho.1.update (t:=302) keyLaw Tryz.underlying302 hk.good (fun x hx he=>(ho.2.2.2.2.2.2 x hx).inj hk he) nb
 rw [putT_new hnew] at h2
 have hb:b < base:=ho.2.2.1
 refine ⟨w',h1,⟨h2,?_,hb,?_,?_,?_,?_⟩,h3⟩
 ·rw [List.map_append,List.nodup_append]
  refine ⟨ho.2.1,by simp,?_⟩
  intro x hx y hy
  simp at hy
  obtain ⟨e,he,rfl⟩:=List.mem_map.1 hx
  rw [hy]
  exact hfr e he
 ·intro e he
  rcases List.mem_append.1 he with he | he
  ·exact ho.2.2.2.1 e he
  rw [List.mem_singleton.1 he]; exact hnb
 ·intro e he
  rcases List.mem_append.1 he with he | he
  ·exact (ho.2.2.2.2.1 e he).kept h3 (fun e'=>by cases e'; have:=ho.2.2.2.1 e he; omega)
  rw [List.mem_singleton.1 he]
  have:innerL n S h = []:=by
   unfold innerL
   rw [List.filter_eq_nil_iff.2,List.map_nil]
   intro e he' hd
   have:=ho.2.2.2.2.2.1 e he'
   rw [of_decide_eq_true hd] at this
   obtain ⟨x,hx,hx2⟩:=List.mem_map.1 this
   exact hnew x hx hx2
  simp only
  rw [this]
  exact hm.kept h3 (fun e'=>by cases e'; omega)
 ·intro e he
  rw [List.map_append]
  exact List.mem_append_left _ (ho.2.2.2.2.2.1 e he)
 intro e he
 rcases List.mem_append.1 he with he | he
 ·exact ho.2.2.2.2.2.2 e he
 rw [List.mem_singleton.1 he]; exact hk
theorem innerL_snoc (n:Nat) (S:List (List Int × Int)) (e:List Int × Int)(h:List Int):innerL n (S ++ [e]) h = if e.1.take (n - 1) = h then innerL n S h ++ [(e.1.getD (n - 1) 0,e.2)] else innerL n S h:=by
 unfold innerL
 rw [List.filter_append,List.map_append]
 by_cases hh:e.1.take (n - 1) = h
 ·rw [if_pos hh,List.filter_cons_of_pos (by simpa using hh)]; rfl
 rw [if_neg hh,List.filter_cons_of_neg (by simpa using hh)]; simp
theorem LevO.put (ho:LevO w b base n S outer) {e:List Int × Int} {bi:Nat} (hn:0 < n)(hl:e.1.length = n)(hk:NiceK e.1)(hS:∀ x ∈ S,x.1.length = n/\x.1 ≠ e.1)(hlook:lookT outer (e.1.take (n - 1)) = some bi) :
  ∃ w',(Instr.mapUpdate 303 (.map (some bi)) (.int .i64 (e.1.getD (n - 1) 0)) (.int .i64 e.2)).run Tryz.prog w = .ok () w'/\LevO w' b base n (S ++ [e]) outer/\w.grownBy w' (some bi):=by
 have hm:=lookT_mem hlook
 have hT:=ho.2.2.2.2.1 _ hm
 have hx0:∀ l:List Int,l.length = n->l = l.take (n - 1) ++ [l.getD (n - 1) 0]:=by
  intro l hl
  have e1:l.drop (n - 1) = [l.getD (n - 1) 0]:=by
   rw [List.drop_eq_getElem_cons (by omega),List.drop_eq_nil_of_le (by omega),List.getD_eq_getElem?_getD,List.getElem?_eq_getElem (by omega)]
   rfl
  rw [<- e1,List.take_append_drop]
 have hnew:∀ x ∈ innerL n S (e.1.take (n - 1)),x.1 ≠ e.1.getD (n - 1) 0:=by
  intro x hx he
  unfold innerL at hx
  obtain ⟨y,hy,rfl⟩:=List.mem_map.1 hx
  obtain ⟨hy1,hy2⟩:=List.mem_filter.1 hy
  have:=hS y hy1
  refine this.2 ?_
  rw [hx0 y.1 this.1,hx0 e.1 hl,of_decide_eq_true hy2,show y.1.getD (n - 1) 0 = e.1.getD (n - 1) 0 from he]
 have hg:∃ kl,keyOf Tryz.prog 3 (.int .i64 (e.1.getD (n - 1) 0)) = some kl:=by
  have hb:0 <= e.1.getD (n - 1) 0/\e.1.getD (n - 1) 0 <= 1000000:=by
   rw [List.getD_eq_getElem?_getD,List.getElem?_eq_getElem (by omega)]
   exact hk.2 _ (List.getElem_mem _)
  exact int_good (by omega) (by omega)
 obtain ⟨w',h1,h2,h3⟩:=hT.update (t:=303) intLaw Tryz.underlying303 hg (fun x hx he=>by injection he) e.2
 simp only at h1 h2 h3
 rw [putT_new hnew] at h2
 have hb:b < base:=ho.2.2.1
 have hbi:base <= bi:=ho.2.2.2.1 _ hm
 refine ⟨w',h1,⟨ho.1.kept h3 (fun e'=>by cases e'; omega),ho.2.1,hb,ho.2.2.2.1,?_,?_,ho.2.2.2.2.2.2⟩,h3⟩
 ·intro x hx
  rw [innerL_snoc]
  by_cases hh:e.1.take (n - 1) = x.1
  ·rw [if_pos hh]
   have:x.2 = bi:=by
    have h5:=nodup_at ho.1.nodup hx
    rw [<- hh,hlook] at h5
    exact (Option.some.inj h5).symm
   rw [this,<- hh]
   exact h2
  rw [if_neg hh]
  refine (ho.2.2.2.2.1 x hx).kept h3 (fun e'=>hh ?_)
  cases e'
  have hi:=List.getElem_of_mem hx
  have hj:=List.getElem_of_mem hm
  obtain ⟨i,hi,ei⟩:=hi
  obtain ⟨j,hj,ej⟩:=hj
  have:i = j:=(List.getElem?_inj (l:=outer.map Prod.snd) (by simpa using hi) ho.2.1).1 (by rw [List.getElem?_map,List.getElem?_map,List.getElem?_eq_getElem hi,List.getElem?_eq_getElem hj,ei,ej]; rfl)
  subst this
  rw [ei] at ej
  rw [ej]
 intro x hx
 rcases List.mem_append.1 hx with hx | hx
 ·exact ho.2.2.2.2.2.1 x hx
 rw [List.mem_singleton.1 hx]
 exact List.mem_map.2 ⟨_,hm,rfl⟩
end
end
theorem mapNil1 (w:World):(binOp BinOp.eql 303 (Value.map none) (Value.map none)).run Tryz.prog w = .ok (.bool true) w:=by kernel_rfl
theorem mapNil2 (b:Nat) (w:World):(binOp BinOp.eql 303 (Value.map (some b)) (Value.map none)).run Tryz.prog w = .ok (.bool false) w:=by kernel_rfl

def visS (m:List (List Int × Int)) (vis:List Nat):List (List Int × Int):=vis.map fun i=>m.getD i ([],0)
theorem visS_snoc (m:List (List Int × Int)) (vis:List Nat) {j:Nat} {e:List Int × Int} (h:m[j]? = some e):visS m (vis ++ [j]) = visS m vis ++ [e]:=by
 unfold visS
 rw [List.map_append,List.map_singleton,List.getD_eq_getElem?_getD,h]
 rfl
theorem visS_mem {m:List (List Int × Int)} {vis:List Nat} (hv:∀ i ∈ vis,i < m.length):∀ x ∈ visS m vis,x ∈ m:=by
 intro x hx
 obtain ⟨i,hi,rfl⟩:=List.mem_map.1 hx
 rw [List.getD_eq_getElem?_getD,List.getElem?_eq_getElem (hv i hi)]
 exact List.getElem_mem _
theorem visS_perm {m:List (List Int × Int)} {vis:List Nat} (hn:vis.Nodup)(hv:∀ i ∈ vis,i < m.length)(hall:∀ j,j < m.length->j ∈ vis):(visS m vis).Perm m:=by
 have hp:vis.Perm (List.range m.length):=(List.perm_ext_iff_of_nodup hn List.nodup_range).2 (fun a=>⟨fun h=>List.mem_range.2 (hv a h),fun h=>hall a (List.mem_range.1 h)⟩)
 have h1:=hp.map (fun i=>m.getD i ([],0))
 have h2:(List.range m.length).map (fun i=>m.getD i ([],0)) = m:=by
  apply List.ext_getElem?
  intro i
  rw [List.getElem?_map]
  by_cases hi:i < m.length
  ·rw [List.getElem?_range hi,List.getElem?_eq_getElem hi]
   simp [List.getD_eq_getElem?_getD,hi]
  rw [List.getElem?_eq_none_iff.2 (by simpa using hi),List.getElem?_eq_none_iff.2 (by omega)]
  rfl
 rw [h2] at h1
 exact h1
theorem visS_fresh {m:List (List Int × Int)} {vis:List Nat} (hm:(m.map Prod.fst).Nodup)(hv:∀ i ∈ vis,i < m.length) {j:Nat} (hj:j ∉ vis) {e:List Int × Int} (he:m[j]? = some e):∀ x ∈ visS m vis,x.1 ≠ e.1:=by
 intro x hx h
 obtain ⟨i,hi,rfl⟩:=List.mem_map.1 hx
 have hil:=hv i hi
 have h1:(m.map Prod.fst)[i]? = some e.1:=by
  rw [List.getElem?_map,List.getElem?_eq_getElem hil,<- h,List.getD_eq_getElem?_getD,List.getElem?_eq_getElem hil]
  rfl
 have h2:(m.map Prod.fst)[j]? = some e.1:=by rw [List.getElem?_map,he]; rfl
 have:=(List.getElem?_inj (l:=m.map Prod.fst) (by rw [List.length_map]; exact hil) hm).1 (h1.trans h2.symm)
 exact hj (this ▸ hi)
theorem totP_perm {p:List Int->Bool} {a b:List (List Int × Int)} (h:a.Perm b):totP p a = totP p b:=by
 induction h with
 | nil=>rfl
 | cons x _ ih=>rw [totP_cons,totP_cons,ih]
 | swap x y l=>rw [totP_cons,totP_cons,totP_cons,totP_cons]; omega
 | trans _ _ ih1 ih2=>exact ih1.trans ih2
theorem Cnt.of_perm {m m':List (List Int × Int)} {T:List Int->Int} (h:Cnt m T)(hp:m'.Perm m):Cnt m' T:=h.perm ((hp.map Prod.fst).nodup_iff.2 h.1) (fun e=>hp.mem_iff)
theorem NiceS.of_perm {n:Nat} {m m':List (List Int × Int)} (h:NiceS n m)(hp:m'.Perm m):NiceS n m':=⟨(hp.map Prod.fst).nodup_iff.2 h.1,fun e he=>h.2 e (hp.mem_iff.1 he)⟩
theorem keyL_cut {l:List Int} {d:Nat} (hl:l.length = d + 1)(h4:l.length <= 4):(keyL l).set d 0 = keyL (l.take d):=by
 obtain ⟨x,hx⟩:∃ x,l[d]? = some x:=⟨_,List.getElem?_eq_getElem (by omega)⟩
 have h1:(keyL (l.take d)).set d (x + 1) = keyL l:=by
  have h2:=keyL_step h4 hx
  have h3:l.take (d + 1) = l:=List.take_of_length_le (by omega)
  rwa [h3] at h2
 rw [<- h1,List.set_set]
 have e1:(l.take d).length = d:=by rw [List.length_take]; omega
 apply List.ext_getElem?
 intro i
 rw [List.getElem?_set]
 split
 ·next hi =>
  subst hi
  split
  ·unfold keyL
   rw [e1,List.getElem?_append_right (by simp; omega),List.length_map,e1,Nat.sub_self,List.getElem?_replicate_of_lt (by omega)]
  next h=>rw [keyL_length (by omega)] at h; omega
 rfl
theorem keyL_at {l:List Int} {d:Nat} (h:d < l.length):(keyL l)[d]? = some (l.getD d 0 + 1):=by
 unfold keyL
 rw [List.getElem?_append_left (by simpa using h),List.getElem?_map,List.getElem?_eq_getElem h,List.getD_eq_getElem?_getD,List.getElem?_eq_getElem h]
 rfl
theorem keyL_low {l:List Int} {d:Nat} (hl:l.length = d + 1)(h4:d <= 3):((keyL l).drop 1).take d ++ List.replicate (4 - d) 0 = keyL (l.drop 1):=by
 have e:(l.drop 1).length = d:=by rw [List.length_drop]; omega
 unfold keyL
 rw [e]
 congr 1
 rw [List.drop_append_of_le_length (by rw [List.length_map]; omega),List.take_append_of_le_length (by rw [List.length_drop,List.length_map]; omega),<- List.map_drop,List.take_of_length_le (by rw [List.length_map,e]; exact Nat.le_refl _)]

def NxS (d nv:Nat) (nx:List (List Int × Int)):Prop:=nx.length <= nv/\∀ e ∈ nx,e.1.length = d/\NiceK e.1/\0 < e.2/\e.2 <= nv * 21474836480000
theorem addT_length {K:Type} [DecidableEq K] (m:List (K × Int)) (e:K × Int):(addT m e).length <= m.length + 1:=by
 unfold addT putT
 split
 ·rw [List.length_map]; omega
 rw [List.length_append]; exact Nat.le_refl _
theorem NxS.add {d nv:Nat} {nx:List (List Int × Int)} (h:NxS d nv nx) {k:List Int} (hk:k.length = d)(hn:NiceK k) {c:Int} (hc:0 < c/\c <= 21474836480000):NxS d (nv + 1) (addT nx (k,c)):=by
 refine ⟨Nat.le_trans (addT_length _ _) (by have:=h.1; omega),fun e he=>?_⟩
 have h0:0 <= (lookT nx k).getD 0/\(lookT nx k).getD 0 <= nv * 21474836480000:=by
  cases hl:lookT nx k with
  | none=>exact ⟨Int.le_refl _,by show (0:Int) <= _; omega⟩
  | some v=>have:=h.2 _ (lookT_mem hl); exact ⟨Int.le_of_lt this.2.2.1,this.2.2.2⟩
 rcases putT_mem he with he | rfl
 ·have:=h.2 e he
  exact ⟨this.1,this.2.1,this.2.2.1,by have:=this.2.2.2; omega⟩
 exact ⟨hk,hn,by simp only; omega,by simp only; omega⟩
theorem nx_step {m nx:List (List Int × Int)} {vis:List Nat} {i:Nat} {ks:List Int} {c v:Int} (h:Cnt nx (fun k=>totP (fun x=>x.drop 1 == k) (visS m vis)))(hS:visS m (vis ++ [i]) = visS m vis ++ [(ks,c)])(hc:0 < c)(hv:(lookT nx (ks.drop 1)).getD 0 = v) :
  Cnt (putT nx (ks.drop 1) (v + c)) (fun k=>totP (fun x=>x.drop 1 == k) (visS m (vis ++ [i]))):=by
 have h1:=h.add (k:=ks.drop 1) hc
 unfold addT at h1
 simp only at h1
 rw [hv] at h1
 refine h1.congr (fun k=>?_)
 rw [hS,totP_snoc]
 by_cases e:k = ks.drop 1
 ·subst e
  simp
 rw [if_neg e,if_neg]
 simp only [beq_iff_eq]
 exact fun h=>e h.symm
theorem nodup_lt {n:Nat}:∀ {l:List Nat},l.Nodup->(∀ i ∈ l,i < n)->l.length <= n:=by
 induction n with
 | zero =>
  intro l _ h
  cases l with
  | nil=>exact Nat.le_refl _
  | cons a l=>have:=h a List.mem_cons_self; omega
 | succ n ih =>
  intro l hn h
  by_cases hm:n ∈ l
  ·have h1:=ih (hn.erase n) (fun i hi=>by
    have h2:=(hn.mem_erase_iff).1 hi
    have h3:=h i h2.2
    have h4:=h2.1
    omega)
   rw [List.length_erase_of_mem hm] at h1
   omega
  have h1:=ih hn (fun i hi=>by
   have h3:=h i hi
   have h4:i ≠ n:=fun e=>hm (e ▸ hi)
   omega)
  omega
def CntI (L:List (Int × Int)) (C:Int->Int):Prop:=(L.map Prod.fst).Nodup/\(∀ x,(lookT L x).getD 0 = C x)/\∀ e ∈ L,0 < e.2/\0 <= e.1/\e.1 <= 1000000
theorem take_last {l:List Int} {n:Nat} (h:l.length = n)(hn:0 < n):l = l.take (n - 1) ++ [l.getD (n - 1) 0]:=by
 have e1:l.drop (n - 1) = [l.getD (n - 1) 0]:=by
  rw [List.drop_eq_getElem_cons (by omega),List.drop_eq_nil_of_le (by omega),List.getD_eq_getElem?_getD,List.getElem?_eq_getElem (by omega)]
  rfl
 rw [<- e1,List.take_append_drop]
theorem innerL_mem {n:Nat} {S:List (List Int × Int)} {h:List Int} (hS:NiceS n S)(hn:0 < n) {x c:Int} (hm:(x,c) ∈ innerL n S h):(h ++ [x],c) ∈ S:=by
 unfold innerL at hm
 obtain ⟨e,he,hx⟩:=List.mem_map.1 hm
 obtain ⟨he1,he2⟩:=List.mem_filter.1 he
 injection hx with hx1 hx2
 have:=take_last (hS.2 e he1).1 hn
 rw [of_decide_eq_true he2,hx1] at this
 rw [<- this,<- hx2]
 exact he1
theorem innerL_of {n:Nat} {S:List (List Int × Int)} {h:List Int} (hl:h.length = n - 1) {x c:Int} (hm:(h ++ [x],c) ∈ S):(x,c) ∈ innerL n S h:=by
 unfold innerL
 refine List.mem_map.2 ⟨(h ++ [x],c),List.mem_filter.2 ⟨hm,decide_eq_true ?_⟩,?_⟩
 ·simp only
  rw [<- hl,List.take_left]
 simp only
 rw [<- hl,List.getD_eq_getElem?_getD,List.getElem?_append_right (Nat.le_refl _),Nat.sub_self]
 rfl
theorem innerL_nodup {n:Nat} {S:List (List Int × Int)} {h:List Int} (hS:NiceS n S)(hn:0 < n):((innerL n S h).map Prod.fst).Nodup:=by
 unfold innerL
 rw [List.map_map]
 have hp:S.Pairwise (fun a b=>a.1 ≠ b.1):=List.pairwise_map.1 hS.1
 have hp2:=hp.filter (fun e=>decide (e.1.take (n - 1) = h))
 refine List.pairwise_map.2 (hp2.imp_of_mem ?_)
 intro a b ha hb hne he
 simp only [Function.comp] at he
 obtain ⟨ha1,ha2⟩:=List.mem_filter.1 ha
 obtain ⟨hb1,hb2⟩:=List.mem_filter.1 hb
 refine hne ?_
 rw [take_last (hS.2 a ha1).1 hn,take_last (hS.2 b hb1).1 hn,of_decide_eq_true ha2,of_decide_eq_true hb2,he]
theorem innerL_cnt {n:Nat} {S:List (List Int × Int)} {T:List Int->Int} {h:List Int} (hS:NiceS n S)(hT:Cnt S T)(hn:0 < n)(hl:h.length = n - 1):CntI (innerL n S h) (fun x=>T (h ++ [x])):=by
 refine ⟨innerL_nodup hS hn,fun x=>?_,fun e he=>?_⟩
 ·cases hx:lookT (innerL n S h) x with
  | some c =>
   have:=hT.of_mem (innerL_mem hS hn (lookT_mem hx))
   exact this.symm
  | none =>
   by_cases h0:T (h ++ [x]) = 0
   ·exact h0.symm
   have h1:=nodup_at (innerL_nodup hS hn) (innerL_of (n:=n) hl (hT.mem h0))
   simp only at h1
   rw [hx] at h1
   cases h1
 have h1:=innerL_mem hS hn (x:=e.1) (c:=e.2) he
 have h2:=hS.2 _ h1
 have h3:=h2.2.1.2 e.1 (by simp)
 exact ⟨h2.2.2.1,h3.1,h3.2⟩
theorem cntI_nil {C:Int->Int} (h:∀ x,C x = 0):CntI [] C:=⟨List.nodup_nil,fun x=>by rw [h x]; rfl,fun e he=>by cases he⟩
def sumI (L:List (Int × Int)):Int:=(L.map Prod.snd).sum
def sumC (C:Int->Int) (v:Nat):Int:=((List.range (v + 1)).map fun (x:Nat)=>C x).sum
def entC (C:Int->Int) (v:Nat):List (Int × Int):=((List.range (v + 1)).map fun (x:Nat)=>((x:Int),C x)).filter fun e=>decide (e.2 ≠ 0)
theorem entC_perm {L:List (Int × Int)} {C:Int->Int} {v:Nat} (h:CntI L C)(hv:∀ e ∈ L,e.1 <= v):L.Perm (entC C v):=by
 have hn1:L.Nodup:=(List.pairwise_map.1 h.1).imp (fun hne e=>hne (by rw [e]))
 have hn2:(entC C v).Nodup:=by
  unfold entC
  refine List.Pairwise.filter _ ?_
  refine List.pairwise_map.2 (List.nodup_range.imp ?_)
  intro a b hne e
  injection e with e1
  exact hne (by omega)
 refine (List.perm_ext_iff_of_nodup hn1 hn2).2 (fun e=>⟨fun he=>?_,fun he=>?_⟩)
 ·have h1:=h.2.2 e he
  have h2:=hv e he
  have h3:=nodup_at h.1 he
  have h4:=h.2.1 e.1
  rw [h3] at h4
  have h5:C e.1 = e.2:=h4.symm
  refine List.mem_filter.2 ⟨List.mem_map.2 ⟨e.1.toNat,List.mem_range.2 (by omega),?_⟩,decide_eq_true (by omega)⟩
  have e1:((e.1.toNat:Nat):Int) = e.1:=by omega
  rw [e1,h5]
 obtain ⟨he1,he2⟩:=List.mem_filter.1 he
 obtain ⟨x,hx,rfl⟩:=List.mem_map.1 he1
 have h1:C (x:Int) ≠ 0:=of_decide_eq_true he2
 have h2:=h.2.1 (x:Int)
 cases hl:lookT L (x:Int) with
 | none=>rw [hl] at h2; exact absurd h2.symm h1
 | some c=>rw [hl] at h2; have h3:=lookT_mem hl; rwa [show c = C (x:Int) from h2] at h3
theorem sum_perm {a b:List Int} (h:a.Perm b):a.sum = b.sum:=by
 induction h with
 | nil=>rfl
 | cons x _ ih=>rw [List.sum_cons,List.sum_cons,ih]
 | swap x y l=>rw [List.sum_cons,List.sum_cons,List.sum_cons,List.sum_cons]; omega
 | trans _ _ ih1 ih2=>exact ih1.trans ih2
theorem sum_drop0 (l:List (Int × Int)):((l.filter fun e=>decide (e.2 ≠ 0)).map Prod.snd).sum = (l.map Prod.snd).sum:=by
 induction l with
 | nil=>rfl
 | cons e l ih =>
  by_cases h:e.2 = 0
  ·rw [List.filter_cons_of_neg (by simpa using h),ih,List.map_cons,List.sum_cons,h,Int.zero_add]
  rw [List.filter_cons_of_pos (by simpa using h),List.map_cons,List.map_cons,List.sum_cons,List.sum_cons,ih]
theorem sumI_eq {L:List (Int × Int)} {C:Int->Int} {v:Nat} (h:CntI L C)(hv:∀ e ∈ L,e.1 <= v):sumI L = sumC C v:=by
 unfold sumI sumC
 rw [sum_perm ((entC_perm h hv).map Prod.snd)]
 unfold entC
 rw [sum_drop0,List.map_map]
 rfl
def kindsC (C:Int->Int) (v:Nat):Nat:=((List.range (v + 1)).filter fun (x:Nat)=>decide (C x ≠ 0)).length
theorem length_eq {L:List (Int × Int)} {C:Int->Int} {v:Nat} (h:CntI L C)(hv:∀ e ∈ L,e.1 <= v):L.length = kindsC C v:=by
 rw [(entC_perm h hv).length_eq]
 unfold entC kindsC
 rw [List.filter_map,List.length_map]
 rfl
section
open Go.MapKept

theorem run_range_nil {P:Program} (w:World) (t k e:TypeId)(ht:P.underlying t = some (.map k e)):(Instr.range t (.map none)).run P w = .ok (.pointer (some ⟨w.heap.size,0,none⟩)) (w.alloc (.mapIter none 0 #[] 0)):=by
 simp only [Instr.range,run_underlying ht,Sem.run_bind,Result.andThen_ok]
 rfl
theorem run_next_nil {P:Program} {w:World} {r:Nat} (ty:TypeId)(hr:w.heap[r]? = some (.mapIter none 0 #[] 0)):(Instr.next (.pointer (some ⟨r,0,none⟩)) false ty).run P w = .ok (.tuple #[.bool false]) w:=by
 simp [Instr.next,getObj,Sem.run_bind,Sem.run,hr,Result.andThen]
end
end Go.Proofs.YtdehimgccmbfkaaGreat
