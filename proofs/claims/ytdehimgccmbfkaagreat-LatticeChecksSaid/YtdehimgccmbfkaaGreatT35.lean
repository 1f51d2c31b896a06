/- Lemmas on the way: MapR, MapT, Gm9, Cnt. -/
import Derived.Test.YtdehimgccmbfkaaGreatT34
set_option linter.all false
set_option maxRecDepth 1000000
set_option maxHeartbeats 32000000
namespace Go.Proofs.YtdehimgccmbfkaaGreat
open Go.RowKit
section
open Go.Maps (Keyed)
open Go.ChangeMaps (setBlock)
open Go.MapKept

def IterAt (w:World) (r b n:Nat) (vis:List Nat):Prop:=w.heap[r]? = some (.mapIter (some b) n vis.toArray n)

section
variable {P:Program} {k e t:TypeId} {w:World} {b r:Nat} {es:List (Value × Value)} {vis:List Nat}
theorem IterAt.lt {n:Nat} (h:IterAt w r b n vis):r < w.heap.size:=(Array.getElem?_eq_some_iff.1 h).1
theorem IterAt.kept {n:Nat} {w':World} {row:Option Nat} (h:IterAt w r b n vis)(hg:w.grownBy w' row)(hne:some r ≠ row):IterAt w' r b n vis:=(hg.block r h.lt hne).trans h
theorem IterAt.below {n:Nat} {w':World} (h:IterAt w r b n vis)(hb:Below w.heap.size w w'):IterAt w' r b n vis:=(hb.block r h.lt).trans h
theorem IterAt.far {n:Nat} (h:IterAt w r b n vis) {p:Addr} (hp:r ≠ p.block) (u:Value):IterAt (w.setCell p u) r b n vis:=(Below.heap_setCell w p u r hp).trans h
theorem IterAt.ne {n:Nat} (h:IterAt w r b n vis)(hm:MapAt P w k b es):r ≠ b:=by
 intro e
 subst e
 have:=h.symm.trans hm.1
 simp at this

theorem MapAt.range (h:MapAt P w k b es)(ht:P.underlying t = some (.map k e)) :
  ∃ w',(Instr.range t (.map (some b))).run P w = .ok (.pointer (some ⟨w.heap.size,0,none⟩)) w'/\MapAt P w' k b es/\IterAt w' w.heap.size b es.length []/\Below w.heap.size w w'/\w'.heap.size = w.heap.size + 1:=by
 exact ⟨_,run_range_map w t k e b _ _ ht h.1,h.alloc _,heap_alloc_new w _,(Below.refl _ w).alloc (Nat.le_refl _) _,by simp⟩

theorem ents_born (es:List (Value × Value)):(ents es).map (·.born) = List.range es.length:=by
 apply List.ext_getElem?
 intro i
 rw [List.getElem?_map,ents_get]
 rcases Nat.lt_or_ge i es.length with h | h
 ·rw [List.getElem?_eq_getElem h,List.getElem?_range h]; rfl
 rw [List.getElem?_eq_none_iff.2 h,List.getElem?_eq_none_iff.2 (by simpa using h)]; rfl

theorem MapAt.next (h:MapAt P w k b es)(hr:IterAt w r b es.length vis) (ty:TypeId) :
  ((∀ j,j < es.length->j ∈ vis)/\(Instr.next (.pointer (some ⟨r,0,none⟩)) false ty).run P w = .ok (.tuple #[.bool false]) w) ∨
  ∃ (j:Nat) (x:Value × Value) (w':World),es[j]? = some x/\j ∉ vis/\(Instr.next (.pointer (some ⟨r,0,none⟩)) false ty).run P w = .ok (.tuple #[.bool true,x.1,x.2]) w'/\MapAt P w' k b es/\IterAt w' r b es.length (vis ++ [j]) /\
   (Instr.entry (.pointer (some ⟨r,0,none⟩))).run P w' = .ok (.tuple #[x.1,x.2]) w'/\w.grownBy w' (some r)/\w'.heap.size = w.heap.size:=by
 have hne:=hr.ne h
 rcases run_next_at (P:=P) w ty r b es.length es.length vis.toArray (ents es).toArray es.length hr h.1 (fun x hx=>by
  obtain ⟨i,y,hy,rfl⟩:=ents_mem (by simpa using hx)
  exact (List.getElem?_eq_some_iff.1 hy).1) (Nat.le_refl _) with ⟨h0,hrun⟩ | ⟨x,hx,w1,hw1,hrun⟩
 ·refine .inl ⟨fun j hj=>?_,hrun⟩
  have hm:(⟨es[j].1,es[j].2,j⟩:MapEntry) ∈ ents es:=List.mem_of_getElem? (i:=j) (by rw [ents_get,List.getElem?_eq_getElem hj]; rfl)
  by_cases hv:j ∈ vis
  ·exact hv
  exfalso
  have:(⟨es[j].1,es[j].2,j⟩:MapEntry) ∈ leftOf (ents es).toArray vis.toArray:=by
   unfold leftOf
   simp [hm,hv]
  rw [Array.eq_empty_of_size_eq_zero h0] at this
  simp at this
 unfold leftOf at hx
 simp only [Array.toList_filter,List.mem_filter,Bool.not_eq_true',List.contains_toArray] at hx
 obtain ⟨hx1,hx2⟩:=hx
 obtain ⟨j,y,hy,rfl⟩:=ents_mem (by simpa using hx1)
 have hjv:j ∉ vis:=by simpa using hx2
 have hheap:w1.heap = w.heap:=by rcases hw1 with rfl | rfl <;> rfl
 have hb1:w1.heap[b]? = some (.map (ents es).toArray es.length):=by rw [hheap]; exact h.1
 have hr1:w1.heap[r]? = some (.mapIter (some b) es.length vis.toArray es.length):=by rw [hheap]; exact hr
 have hb2:(setBlock w1 r (.mapIter (some b) es.length (vis.toArray.push j) es.length)).heap[b]? = some (.map (ents es).toArray es.length):=(hset_other w1 (fun e=>hne e.symm) _).trans hb1
 have hr2:(setBlock w1 r (.mapIter (some b) es.length (vis.toArray.push j) es.length)).heap[r]? = some (.mapIter (some b) es.length (vis.toArray.push j) es.length):=hset hr1 _
 refine .inr ⟨j,y,_,hy,hjv,hrun,⟨hb2,h.2⟩,?_,?_,?_,?_⟩
 ·unfold IterAt
  rw [hr2]
  simp
 ·exact run_entry_at _ r b es.length vis.toArray (ents es).toArray es.length ⟨y.1,y.2,j⟩ hr2 hb2 (by simpa using hx1) (by
   have:=ents_born es
   simp only [List.toList_toArray]
   rw [this]
   exact List.nodup_range)
 ·rcases hw1 with rfl | rfl
  ·exact grown_setBlock _ _ _
  exact ⟨rfl,rfl,rfl,by simp [setBlock],fun i _ hi=>hset_other w.drew (fun e=>hi (by rw [e])) _⟩
 rcases hw1 with rfl | rfl <;> simp [setBlock]

theorem wpList_range_k {ops:Array Oper} {rest:List Oper} {o:Oper} {a:Act} {Q:Exit->Act->World->Prop} (hg:o.guard = none) (m:Operand) (t:TypeId)(hop:o.op = Op.range t m) (k e:TypeId)(ht:P.underlying t = some (.map k e)) (b:Nat) (es:List (Value × Value))
  (hm:a.eval m = .map (some b))(h:MapAt P w k b es)
  (hK:∀ w',MapAt P w' k b es->IterAt w' w.heap.size b es.length []->Below w.heap.size w w'->w'.heap.size = w.heap.size + 1->wpList P ops Q rest (a.put o.dst (.pointer (some ⟨w.heap.size,0,none⟩))) w') :
  wpList P ops Q (o :: rest) a w:=by
 refine wpList_plain hg fun K' hK'=>?_
 obtain ⟨w',hrun,r1,r2,r3,r4⟩:=h.range ht
 unfold Oper.wp
 simp [execOp,hop,hm,hrun,Result.andThen]
 exact hK' _ _ (hK w' r1 r2 r3 r4)
theorem wpList_next_k {ops:Array Oper} {rest:List Oper} {o:Oper} {a:Act} {Q:Exit->Act->World->Prop} (hg:o.guard = none) (it:Operand)(hop:o.op = Op.next it false) (k:TypeId) (b r:Nat) (es:List (Value × Value)) (vis:List Nat)
  (hit:a.eval it = .pointer (some ⟨r,0,none⟩))(h:MapAt P w k b es)(hr:IterAt w r b es.length vis)
  (hDone:(∀ j,j < es.length->j ∈ vis)->wpList P ops Q rest (a.put o.dst (.tuple #[.bool false])) w)
  (hMore:∀ (j:Nat) (x:Value × Value) (w':World),es[j]? = some x->j ∉ vis->MapAt P w' k b es->IterAt w' r b es.length (vis ++ [j])->(Instr.entry (.pointer (some ⟨r,0,none⟩))).run P w' = .ok (.tuple #[x.1,x.2]) w'->w.grownBy w' (some r)->w'.heap.size = w.heap.size ->
   wpList P ops Q rest (a.put o.dst (.tuple #[.bool true,x.1,x.2])) w') :
  wpList P ops Q (o :: rest) a w:=by
 refine wpList_plain hg fun K' hK'=>?_
 unfold Oper.wp
 rcases h.next hr o.type with ⟨h0,hrun⟩ | ⟨j,x,w',h1,h2,hrun,h3,h4,h5,h6,h7⟩
 ·simp [execOp,hop,hit,hrun,Result.andThen]
  exact hK' _ _ (hDone h0)
 simp [execOp,hop,hit,hrun,Result.andThen]
 exact hK' _ _ (hMore j x w' h1 h2 h3 h4 h5 h6 h7)
end
end
section
open Go.Maps (Keyed)

theorem keyLaw:Keyed Tryz.prog 299:=Keyed.of_law (deep_law_laid (by kernel_rfl) (m:=100) (by omega) (of_decide_eq_true (by kernel_rfl)) (by kernel_rfl) (by kernel_rfl))
theorem intLaw:Keyed Tryz.prog 3:=Go.Maps.int_keyed Tryz.underlying3
theorem wf_small {x:Int} (h1:-9223372036854775808 <= x)(h2:x <= 9223372036854775807):(Lit.int .i64 x).wf = true:=WalkArith.wf_i64 ⟨h1,h2⟩
theorem klit1 (d:Nat) {x:Int} (hx:(Lit.int .i64 x).wf = true):Tryz.prog.keyLits (d + 1) 3 [.int .i64 x] = some [.int .i64 x]:=by
 unfold Program.keyLits
 rw [show Tryz.prog.underlying 3 = some (.int .i64) from Tryz.underlying3]
 simp [hx]
theorem klit4 (d:Nat) {a b c e:Int} (ha:(Lit.int .i64 a).wf = true)(hb:(Lit.int .i64 b).wf = true)(hc:(Lit.int .i64 c).wf = true)(he:(Lit.int .i64 e).wf = true) :
  Tryz.prog.keyLits (d + 2) 299 [.int .i64 a,.int .i64 b,.int .i64 c,.int .i64 e] = some [.int .i64 a,.int .i64 b,.int .i64 c,.int .i64 e]:=by
 have e1:Tryz.prog.cellsOf 299 = 4:=by kernel_rfl
 have e2:Tryz.prog.cellsOf 3 = 1:=by kernel_rfl
 unfold Program.keyLits
 rw [show Tryz.prog.underlying 299 = some (.array 4 3) from Tryz.underlying299]
 simp only [e1,e2]
 simp [List.range_succ,klit1 d ha,klit1 d hb,klit1 d hc,klit1 d he]
theorem key_good {l:List Int} (hl:l.length <= 4)(hb:∀ x ∈ l,-1000000 <= x/\x <= 1000000):∃ kl,keyOf Tryz.prog 299 (keyV l) = some kl:=by
 obtain ⟨a,b,c,d,hk⟩:=four (keyL_length hl)
 have hm:∀ y ∈ keyL l,-1000000 <= y/\y <= 1000001:=by
  intro y hy
  unfold keyL at hy
  rcases List.mem_append.1 hy with h | h
  ·obtain ⟨x,hx,rfl⟩:=List.mem_map.1 h
   have:=hb x hx
   omega
  have:=List.eq_of_mem_replicate h
  omega
 rw [hk] at hm
 have ha:=hm a (by simp)
 have hb':=hm b (by simp)
 have hc:=hm c (by simp)
 have hd:=hm d (by simp)
 have wa:=wf_small (x:=a) (by omega) (by omega)
 have wb:=wf_small (x:=b) (by omega) (by omega)
 have wc:=wf_small (x:=c) (by omega) (by omega)
 have wd:=wf_small (x:=d) (by omega) (by omega)
 unfold keyV
 rw [hk]
 unfold keyOf
 rw [show Tryz.prog.underlying 299 = some (.array 4 3) from Tryz.underlying299]
 have e1:Tryz.prog.keyType 299 = true:=by kernel_rfl
 have e4:Tryz.prog.cellsOf 299 = 4:=by kernel_rfl
 have e2:(Value.agg #[.int .i64 a,.int .i64 b,.int .i64 c,.int .i64 d]).formed Tryz.prog 299 = true:=by
  unfold Value.formed
  rw [show Tryz.prog.underlying 299 = some (.array 4 3) from Tryz.underlying299]
  simp [e4]
 have hT:=of_decide_eq_true (show decide (1 <= Tryz.prog.types.size) = true by kernel_rfl)
 obtain ⟨D,hD⟩:∃ D,Tryz.prog.types.size + 1 = D + 2:=⟨Tryz.prog.types.size - 1,by omega⟩
 refine ⟨.string (keyBytes [.int .i64 a,.int .i64 b,.int .i64 c,.int .i64 d]),?_⟩
 show (if (Tryz.prog.keyType 299 && Value.formed Tryz.prog 299 (Value.agg #[.int .i64 a,.int .i64 b,.int .i64 c,.int .i64 d])) = true then
  Option.map (fun ls=>Lit.string (keyBytes ls)) (Tryz.prog.keyLits (Tryz.prog.types.size + 1) 299 [.int .i64 a,.int .i64 b,.int .i64 c,.int .i64 d]) else none) = _
 rw [e1,e2,hD,klit4 D wa wb wc wd]
 rfl
theorem int_good {x:Int} (h1:-9223372036854775808 <= x)(h2:x <= 9223372036854775807):∃ kl,keyOf Tryz.prog 3 (.int .i64 x) = some kl:=⟨_,Go.Maps.keyOf_int_mk Tryz.underlying3 (wf_small h1 h2)⟩

def unKey (k:List Int):List Int:=(k.filter (fun x=>decide (0 < x))).map (· - 1)
theorem unKey_keyL {l:List Int} (h:∀ x ∈ l,0 <= x):unKey (keyL l) = l:=by
 unfold unKey keyL
 rw [List.filter_append,List.map_append]
 have e1:(List.replicate (4 - l.length) (0:Int)).filter (fun x=>decide (0 < x)) = []:=by
  rw [List.filter_eq_nil_iff]
  intro x hx
  rw [List.eq_of_mem_replicate hx]
  simp
 rw [e1,List.map_nil,List.append_nil]
 clear e1
 induction l with
 | nil=>rfl
 | cons x l ih =>
  have hx:=h x (by simp)
  rw [List.map_cons,List.filter_cons,if_pos (by simpa using (show 0 < x + 1 by omega)),List.map_cons,ih (fun y hy=>h y (by simp [hy]))]
  congr 1
  omega
def NiceK (l:List Int):Prop:=l.length <= 4/\∀ x ∈ l,0 <= x/\x <= 1000000
theorem NiceK.inj {l m:List Int} (hl:NiceK l)(hm:NiceK m)(h:keyV l = keyV m):l = m:=by
 unfold keyV at h
 injection h with h
 have h':(keyL l).map (Value.int .i64) = (keyL m).map (Value.int .i64):=congrArg Array.toList h
 have h2:keyL l = keyL m:=(List.map_inj_right (fun a b e=>by injection e)).1 h'
 rw [<- unKey_keyL (fun x hx=>(hl.2 x hx).1),h2,unKey_keyL (fun x hx=>(hm.2 x hx).1)]
theorem NiceK.good {l:List Int} (hl:NiceK l):∃ kl,keyOf Tryz.prog 299 (keyV l) = some kl:=key_good hl.1 (fun x hx=>by have:=hl.2 x hx; omega)

section
variable {K V:Type} [DecidableEq K]
def lookT (m:List (K × V)) (k:K):Option V:=(m.find? (fun e=>decide (e.1 = k))).map (·.2)
def putT (m:List (K × V)) (k:K) (v:V):List (K × V):=if k ∈ m.map Prod.fst then m.map (fun e=>if e.1 = k then (e.1,v) else e) else m ++ [(k,v)]
def encM (ek:K->Value) (ev:V->Value) (m:List (K × V)):List (Value × Value):=m.map fun e=>(ek e.1,ev e.2)
theorem lookT_at {m:List (K × V)} (hn:(m.map Prod.fst).Nodup) {j:Nat} {k:K} {v:V} (h:m[j]? = some (k,v)):lookT m k = some v:=by
 induction m generalizing j with
 | nil=>simp at h
 | cons e m ih =>
  rw [List.map_cons,List.nodup_cons] at hn
  unfold lookT
  rw [List.find?_cons]
  cases j with
  | zero =>
   simp at h
   subst h
   simp
  | succ j =>
   simp at h
   have hne:e.1 ≠ k:=fun he=>hn.1 (by rw [he]; exact List.mem_map.2 ⟨(k,v),List.mem_of_getElem? h,rfl⟩)
   simp only [hne,decide_false]
   exact ih hn.2 h
theorem lookT_none {m:List (K × V)} {k:K} (h:∀ e ∈ m,e.1 ≠ k):lookT m k = none:=by
 unfold lookT
 rw [List.find?_eq_none.2 (fun e he=>by simpa using h e he)]
 rfl
theorem putT_new {m:List (K × V)} {k:K} {v:V} (h:∀ e ∈ m,e.1 ≠ k):putT m k v = m ++ [(k,v)]:=by
 unfold putT
 rw [if_neg]
 intro hk
 obtain ⟨e,he,rfl⟩:=List.mem_map.1 hk
 exact h e he rfl
theorem putT_old {m:List (K × V)} (hn:(m.map Prod.fst).Nodup) {j:Nat} {k:K} {v0 v:V} (h:m[j]? = some (k,v0)):putT m k v = m.set j (k,v):=by
 unfold putT
 rw [if_pos (List.mem_map.2 ⟨(k,v0),List.mem_of_getElem? h,rfl⟩)]
 apply List.ext_getElem?
 intro i
 rw [List.getElem?_map,List.getElem?_set]
 have hj:=(List.getElem?_eq_some_iff.1 h).1
 split
 ·next hi=>subst hi; rw [h]; simp [hj]
 next hi =>
 cases hx:m[i]? with
 | none=>rfl
 | some e =>
  have hil:=(List.getElem?_eq_some_iff.1 hx).1
  have hne:e.1 ≠ k:=by
   intro he
   have h1:(m.map Prod.fst)[i]? = some k:=by rw [List.getElem?_map,hx]; simp [he]
   have h2:(m.map Prod.fst)[j]? = some k:=by rw [List.getElem?_map,h]; rfl
   exact hi ((List.getElem?_inj (by simpa using hj) hn).1 (h2.trans h1.symm))
  simp [hne]

def TMap (ek:K->Value) (ev:V->Value) (w:World) (kt:TypeId) (b:Nat) (m:List (K × V)):Prop:=MapAt Tryz.prog w kt b (encM ek ev m)
def TMid (ek:K->Value) (ev:V->Value) (w:World) (kt:TypeId) (b:Nat) (m:List (K × V)) (k:K) (j:Nat):Prop :=
 ∃ es v0,MapAt Tryz.prog w kt b es/\es[j]? = some (ek k,v0)/\∀ v,es.set j (ek k,ev v) = encM ek ev (putT m k v)
variable {ek:K->Value} {ev:V->Value} {w:World} {kt e t:TypeId} {b:Nat} {m:List (K × V)} {k:K}
theorem TMap.nodup (h:TMap ek ev w kt b m):(m.map Prod.fst).Nodup:=by
 have:=h.2.2
 unfold encM at this
 rw [List.map_map] at this
 have e:(Prod.fst ∘ fun e:K × V=>(ek e.1,ev e.2)) = ek ∘ Prod.fst:=rfl
 rw [e,<- List.map_map] at this
 exact (List.pairwise_map.1 this).imp (fun h e=>h (by rw [e]))
theorem encM_get (ek:K->Value) (ev:V->Value) (m:List (K × V)) (j:Nat):(encM ek ev m)[j]? = (m[j]?).map fun e=>(ek e.1,ev e.2):=by simp [encM]
theorem TMap.look (h:TMap ek ev w kt b m) (L:Keyed Tryz.prog kt)(ht:Tryz.prog.underlying t = some (.map kt e)) {z:Value} (hz:(zeroValue e).run Tryz.prog w = .ok z w)(hk:∃ kl,keyOf Tryz.prog kt (ek k) = some kl) (inj:∀ x ∈ m,ek x.1 = ek k->x.1 = k) :
  (Instr.lookup t (.map (some b)) (ek k) false).run Tryz.prog w = .ok ((lookT m k).elim z ev) w:=by
 rcases MapAt.look h L ht hz hk false with ⟨j,v,h1,h2⟩ | ⟨h1,h2⟩
 ·rw [encM_get] at h1
  cases hx:m[j]? with
  | none=>rw [hx] at h1; cases h1
  | some x =>
   rw [hx] at h1
   simp only [Option.map_some,Option.some.injEq,Prod.mk.injEq] at h1
   have hxk:=inj x (List.mem_of_getElem? hx) h1.1
   rw [h2,lookT_at h.nodup (j:=j) (v:=x.2) (by rw [hx,<- hxk]),<- h1.2]
   rfl
 rw [h2,lookT_none (fun x hx he=>h1 (ek x.1,ev x.2) (List.mem_map.2 ⟨x,hx,rfl⟩) (by rw [he]))]
 rfl
theorem TMap.entry (h:TMap ek ev w kt b m) (L:Keyed Tryz.prog kt)(ht:Tryz.prog.underlying t = some (.map kt e)) {z:Value} (hz:∀ w,(zeroValue e).run Tryz.prog w = .ok z w)(hk:∃ kl,keyOf Tryz.prog kt (ek k) = some kl) (inj:∀ x ∈ m,ek x.1 = ek k->x.1 = k) :
  ∃ (j:Nat) (w':World),(Instr.mapEntry t (.map (some b)) (ek k)).run Tryz.prog w = .ok (.tuple #[(lookT m k).elim z ev,.int .i64 j]) w'/\TMid ek ev w' kt b m k j/\w.grownBy w' (some b)/\(Instr.lookup t (.map (some b)) (ek k) false).run Tryz.prog w' = .ok ((lookT m k).elim z ev) w':=by
 have hn:=h.nodup
 rcases MapAt.entry h L ht (hz w) hk with ⟨j,v,w',h1,h2,h3,h4⟩ | ⟨h1,w',h2,h3,h4⟩
 ·have h1':=h1
  rw [encM_get] at h1
  cases hx:m[j]? with
  | none=>rw [hx] at h1; cases h1
  | some x =>
   rw [hx] at h1
   simp only [Option.map_some,Option.some.injEq,Prod.mk.injEq] at h1
   have hxk:=inj x (List.mem_of_getElem? hx) h1.1
   have hm:m[j]? = some (k,x.2):=by rw [hx,<- hxk]
   have hl:lookT m k = some x.2:=lookT_at hn hm
   refine ⟨j,w',by rw [h2,hl,<- h1.2]; rfl,⟨_,v,h3,h1',fun v'=>?_⟩,h4,TMap.look h3 L ht (hz w') hk inj⟩
   rw [putT_old hn hm]
   unfold encM
   rw [List.map_set]
 have hnew:∀ x ∈ m,x.1 ≠ k:=fun x hx he=>h1 (ek x.1,ev x.2) (List.mem_map.2 ⟨x,hx,rfl⟩) (by rw [he])
 have hl:lookT m k = none:=lookT_none hnew
 have hlast:(encM ek ev m ++ [(ek k,z)])[(encM ek ev m).length]? = some (ek k,z):=by rw [List.getElem?_append_right (Nat.le_refl _),Nat.sub_self]; rfl
 refine ⟨_,w',by rw [h2,hl]; rfl,⟨_,z,h3,hlast,fun v=>?_⟩,h4,?_⟩
 ·rw [putT_new hnew,List.set_append_right _ _ (Nat.le_refl _),Nat.sub_self]
  simp [encM]
 rw [hl]
 rcases h3.look L ht (hz w') hk false with ⟨j,v,h5,h6⟩ | ⟨h5,_⟩
 ·have hj:j = (encM ek ev m).length:=by
   have h7:((encM ek ev m ++ [(ek k,z)]).map Prod.fst)[j]? = some (ek k):=by rw [List.getElem?_map,h5]; rfl
   have h8:((encM ek ev m ++ [(ek k,z)]).map Prod.fst)[(encM ek ev m).length]? = some (ek k):=by rw [List.getElem?_map,hlast]; rfl
   exact (List.getElem?_inj (by have:=(List.getElem?_eq_some_iff.1 h5).1; simpa using this) h3.2.2).1 (h7.trans h8.symm)
  subst hj
  rw [hlast] at h5
  cases h5
  rw [h6]
  rfl
 exact absurd rfl (h5 (ek k,z) (by simp))
theorem TMid.store {j:Nat} (h:TMid ek ev w kt b m k j) (v:V):∃ w',(Instr.entryStore t (.map (some b)) (.int .i64 j) (ev v)).run Tryz.prog w = .ok () w'/\TMap ek ev w' kt b (putT m k v)/\w.grownBy w' (some b):=by
 obtain ⟨es,v0,h1,h2,h3⟩:=h
 obtain ⟨w',r1,r2,r3⟩:=h1.store (t:=t) h2 (ev v)
 exact ⟨w',r1,by rw [h3 v] at r2; exact r2,r3⟩
end
end
theorem zeroInt (w:World):(zeroValue 3).run Tryz.prog w = .ok (.int .i64 0) w:=by kernel_rfl

def addT {K:Type} [DecidableEq K] (m:List (K × Int)) (e:K × Int):List (K × Int):=putT m e.1 ((lookT m e.1).getD 0 + e.2)
theorem lookT_mem {K V:Type} [DecidableEq K] {m:List (K × V)} {k:K} {v:V} (h:lookT m k = some v):(k,v) ∈ m:=by
 unfold lookT at h
 cases hf:m.find? (fun e=>decide (e.1 = k)) with
 | none=>rw [hf] at h; cases h
 | some e =>
  rw [hf] at h
  have h1:=List.mem_of_find?_eq_some hf
  have h2:=List.find?_some hf
  simp at h h2
  rw [<- h,<- h2]
  exact h1
theorem putT_mem {K V:Type} [DecidableEq K] {m:List (K × V)} {k:K} {v:V} {e:K × V} (h:e ∈ putT m k v):e ∈ m ∨ e = (k,v):=by
 unfold putT at h
 split at h
 ·obtain ⟨x,hx,rfl⟩:=List.mem_map.1 h
  split
  ·next hk=>exact .inr (by rw [hk])
  exact .inl hx
 rcases List.mem_append.1 h with h | h
 ·exact .inl h
 exact .inr (List.mem_singleton.1 h)
def NiceM (M:Int) (m:List (List Int × Int)):Prop:=∀ e ∈ m,NiceK e.1/\0 <= e.2/\e.2 <= M
theorem NiceM.look {M:Int} {m:List (List Int × Int)} (h:NiceM M m)(hM:0 <= M) (k:List Int):0 <= (lookT m k).getD 0/\(lookT m k).getD 0 <= M:=by
 cases hl:lookT m k with
 | none=>simpa using hM
 | some v=>exact (h _ (lookT_mem hl)).2
theorem NiceM.add {M a:Int} {m:List (List Int × Int)} (h:NiceM M m)(hM:0 <= M) {k:List Int} (hk:NiceK k) {c:Int} (hc:0 <= c/\c <= a):NiceM (M + a) (addT m (k,c)):=by
 intro e he
 rcases putT_mem he with he | rfl
 ·have:=h e he
  exact ⟨this.1,by omega,by omega⟩
 have:=h.look hM k
 exact ⟨hk,by simp only; omega,by simp only; omega⟩
theorem elim_getD (o:Option Int):o.elim (Value.int .i64 0) (Value.int .i64) = .int .i64 (o.getD 0):=by cases o <;> rfl

theorem Blk.grown {w w':World} {g:Nat} {e:TypeId} {xs:List Value} {row:Option Nat} (h:Blk w g e xs)(hg:w.grownBy w' row)(hne:some g ≠ row):Blk w' g e xs:=(hg.block g h.lt hne).trans h
def totP (p:List Int->Bool) (gs:List (List Int × Int)):Int:=gs.foldl (fun s g=>if p g.1 then s + g.2 else s) 0
theorem totP_snoc (p:List Int->Bool) (gs:List (List Int × Int)) (g:List Int × Int):totP p (gs ++ [g]) = totP p gs + (if p g.1 then g.2 else 0):=by
 unfold totP
 rw [List.foldl_append]
 simp only [List.foldl_cons,List.foldl_nil]
 split <;> omega
theorem totP_nil (p:List Int->Bool):totP p [] = 0:=rfl
theorem totP_cons (p:List Int->Bool) (g:List Int × Int) (gs:List (List Int × Int)):totP p (g :: gs) = (if p g.1 then g.2 else 0) + totP p gs:=by
 unfold totP
 rw [List.foldl_cons]
 have key:∀ (l:List (List Int × Int)) (a:Int),l.foldl (fun s g=>if p g.1 then s + g.2 else s) a = a + l.foldl (fun s g=>if p g.1 then s + g.2 else s) 0:=by
  intro l
  induction l with
  | nil=>intro a; simp
  | cons x l ih=>intro a; rw [List.foldl_cons,ih,List.foldl_cons,ih (if p x.1 then 0 + x.2 else 0)]; split <;> omega
 rw [key]
 split <;> omega
theorem totP_nonneg {p:List Int->Bool} {gs:List (List Int × Int)} (h:∀ g ∈ gs,0 <= g.2):0 <= totP p gs:=by
 induction gs with
 | nil=>exact Int.le_refl _
 | cons g gs ih =>
  rw [totP_cons]
  have:=ih (fun x hx=>h x (List.mem_cons_of_mem _ hx))
  have h1:=h g List.mem_cons_self
  split <;> omega
theorem totP_le {p:List Int->Bool} {gs:List (List Int × Int)} {M:Int} (h:∀ g ∈ gs,0 <= g.2/\g.2 <= M):totP p gs <= gs.length * M:=by
 induction gs with
 | nil=>simp [totP_nil]
 | cons g gs ih =>
  rw [totP_cons,List.length_cons]
  have:=ih (fun x hx=>h x (List.mem_cons_of_mem _ hx))
  have h1:=h g List.mem_cons_self
  have e:((gs.length + 1:Nat):Int) * M = gs.length * M + M:=by rw [Int.natCast_add,Int.add_mul]; simp
  rw [e]
  split <;> omega
theorem totP_pos {p:List Int->Bool} {gs:List (List Int × Int)} (h:∀ g ∈ gs,0 < g.2):0 < totP p gs ↔ ∃ g ∈ gs,p g.1 = true:=by
 induction gs with
 | nil=>simp [totP_nil]
 | cons g gs ih =>
  rw [totP_cons]
  have h0:=totP_nonneg (p:=p) (gs:=gs) (fun x hx=>Int.le_of_lt (h x (List.mem_cons_of_mem _ hx)))
  have h1:=h g List.mem_cons_self
  have ih':=ih (fun x hx=>h x (List.mem_cons_of_mem _ hx))
  constructor
  ·intro hp
   by_cases hg:p g.1 = true
   ·exact ⟨g,List.mem_cons_self,hg⟩
   rw [if_neg hg] at hp
   obtain ⟨x,hx,hx2⟩:=ih'.1 (by omega)
   exact ⟨x,List.mem_cons_of_mem _ hx,hx2⟩
  rintro ⟨x,hx,hx2⟩
  rcases List.mem_cons.1 hx with rfl | hx
  ·rw [if_pos hx2]; omega
  have:=ih'.2 ⟨x,hx,hx2⟩
  split <;> omega
theorem totP_congr {p q:List Int->Bool} {gs:List (List Int × Int)} (h:∀ g ∈ gs,p g.1 = q g.1):totP p gs = totP q gs:=by
 induction gs with
 | nil=>rfl
 | cons g gs ih=>rw [totP_cons,totP_cons,h g List.mem_cons_self,ih (fun x hx=>h x (List.mem_cons_of_mem _ hx))]
theorem totP_false (l:List (List Int × Int)):totP (fun _=>false) l = 0:=by
 induction l with
 | nil=>rfl
 | cons x l ih=>rw [totP_cons,ih]; rfl
def tot (d:Nat) (gs:List (List Int × Int)) (k:List Int):Int:=totP (fun x=>x.drop d == k) gs

def Cnt (m:List (List Int × Int)) (T:List Int->Int):Prop:=(m.map Prod.fst).Nodup/\(∀ k,(lookT m k).getD 0 = T k)/\∀ e ∈ m,0 < e.2
theorem Cnt.nil:Cnt [] (fun _=>0):=⟨List.nodup_nil,fun k=>by simp [lookT],fun e he=>by cases he⟩
theorem nodup_at {K V:Type} {m:List (K × V)} (hn:(m.map Prod.fst).Nodup) {e:K × V} (he:e ∈ m) [DecidableEq K]:lookT m e.1 = some e.2:=by
 obtain ⟨j,hj,e'⟩:=List.getElem_of_mem he
 exact lookT_at hn (j:=j) (by rw [List.getElem?_eq_getElem hj,e'])
theorem Cnt.of_mem {m:List (List Int × Int)} {T:List Int->Int} (h:Cnt m T) {e:List Int × Int} (he:e ∈ m):T e.1 = e.2:=by
 rw [<- h.2.1,nodup_at h.1 he]; rfl
theorem Cnt.mem {m:List (List Int × Int)} {T:List Int->Int} (h:Cnt m T) {k:List Int} (hk:T k ≠ 0):(k,T k) ∈ m:=by
 have h1:=h.2.1 k
 cases hl:lookT m k with
 | none=>rw [hl] at h1; exact absurd h1.symm hk
 | some v=>rw [hl] at h1; have:=lookT_mem hl; rwa [show v = T k from h1] at this
theorem Cnt.congr {m:List (List Int × Int)} {T T':List Int->Int} (h:Cnt m T) (e:∀ k,T k = T' k):Cnt m T':=⟨h.1,fun k=>(h.2.1 k).trans (e k),h.2.2⟩
theorem lookT_append {K V:Type} [DecidableEq K] (m l:List (K × V)) (k:K):lookT (m ++ l) k = (lookT m k).or (lookT l k):=by
 unfold lookT
 rw [List.find?_append]
 cases List.find? (fun e=>decide (e.1 = k)) m <;> simp
theorem lookT_put {K V:Type} [DecidableEq K] (m:List (K × V)) (k:K) (v:V) (k':K):lookT (putT m k v) k' = if k' = k then some v else lookT m k':=by
 unfold putT
 split
 ·next hk =>
  unfold lookT
  rw [List.find?_map]
  have ef:((fun e:K × V=>decide (e.1 = k')) ∘ fun e:K × V=>if e.1 = k then (e.1,v) else e) = fun e:K × V=>decide (e.1 = k'):=by
   funext e
   simp only [Function.comp]
   split <;> rfl
  rw [ef]
  cases hf:m.find? (fun e=>decide (e.1 = k')) with
  | none =>
   rw [if_neg]
   ·rfl
   intro e
   subst e
   obtain ⟨x,hx,hx2⟩:=List.mem_map.1 hk
   have:=List.find?_eq_none.1 hf x hx
   simp [hx2] at this
  | some e =>
   have h2:=List.find?_some hf
   simp at h2
   simp only [Option.map_some,h2]
   split <;> rfl
 next hk =>
 rw [lookT_append]
 by_cases e:k' = k
 ·subst e
  rw [if_pos rfl,lookT_none (fun x hx he=>hk (List.mem_map.2 ⟨x,hx,he⟩))]
  simp [lookT]
 rw [if_neg e]
 have:lookT [(k,v)] k' = none:=lookT_none (by intro x hx; rw [List.mem_singleton.1 hx]; exact fun h=>e h.symm)
 rw [this]
 cases lookT m k' <;> rfl
theorem putT_nodup {K V:Type} [DecidableEq K] {m:List (K × V)} (hn:(m.map Prod.fst).Nodup) (k:K) (v:V):((putT m k v).map Prod.fst).Nodup:=by
 unfold putT
 split
 ·rw [List.map_map]
  have e:(Prod.fst ∘ fun e:K × V=>if e.1 = k then (e.1,v) else e) = Prod.fst:=by
   funext e
   simp only [Function.comp]
   split <;> rfl
  rw [e]
  exact hn
 next hk =>
 rw [List.map_append,List.nodup_append]
 refine ⟨hn,by simp,?_⟩
 intro a ha b hb e
 simp at hb
 rw [e,hb] at ha
 exact hk ha
theorem Cnt.add {m:List (List Int × Int)} {T:List Int->Int} (h:Cnt m T) {k:List Int} {c:Int} (hc:0 < c):Cnt (addT m (k,c)) (fun x=>T x + if x = k then c else 0):=by
 have h0:0 <= (lookT m k).getD 0:=by
  cases hl:lookT m k with
  | none=>exact Int.le_refl _
  | some v=>exact Int.le_of_lt (h.2.2 _ (lookT_mem hl))
 refine ⟨putT_nodup h.1 _ _,fun x=>?_,fun e he=>?_⟩
 ·unfold addT
  rw [lookT_put]
  simp only
  by_cases e:x = k
  ·subst e
   rw [if_pos rfl,if_pos rfl,<- h.2.1 x]
   rfl
  rw [if_neg e,if_neg e,h.2.1]
  omega
 rcases putT_mem he with he | rfl
 ·exact h.2.2 e he
 simp only; omega
theorem Cnt.new {m:List (List Int × Int)} {T:List Int->Int} (h:Cnt m T) {k:List Int} (hk:T k = 0) {c:Int} (hc:0 < c):Cnt (putT m k c) (fun x=>T x + if x = k then c else 0):=by
 have:=h.add (k:=k) hc
 unfold addT at this
 simp only at this
 rw [h.2.1,hk,Int.zero_add] at this
 exact this
theorem Cnt.perm {m m':List (List Int × Int)} {T:List Int->Int} (h:Cnt m T)(hn:(m'.map Prod.fst).Nodup)(he:∀ e,e ∈ m' ↔ e ∈ m):Cnt m' T:=by
 refine ⟨hn,fun k=>?_,fun e h'=>h.2.2 e ((he e).1 h')⟩
 rw [<- h.2.1]
 cases hl:lookT m' k with
 | none =>
  cases hl2:lookT m k with
  | none=>rfl
  | some v =>
   have:=nodup_at hn ((he _).2 (lookT_mem hl2))
   simp only at this
   rw [hl] at this
   cases this
 | some v =>
  have:=nodup_at h.1 ((he _).1 (lookT_mem hl))
  simp only at this
  rw [this]
theorem tot_below {m:List (List Int × Int)} {d:Nat} {gs:List (List Int × Int)} (h:Cnt m (tot d gs))(hg:∀ g ∈ gs,0 < g.2) (k:List Int):totP (fun x=>x.drop 1 == k) m = tot (d + 1) gs k:=by
 -- the sum over the entries,each of which is a sum
 have key:∀ (m:List (List Int × Int)) ,(m.map Prod.fst).Nodup->(∀ e ∈ m,tot d gs e.1 = e.2)->(∀ g ∈ gs,g.1.drop d ∈ m.map Prod.fst ∨ (g.1.drop d).drop 1 ≠ k ∨ True)->True:=fun _ _ _ _=>trivial
 clear key
 suffices hs:∀ (m:List (List Int × Int)),(m.map Prod.fst).Nodup->(∀ e ∈ m,e.2 = tot d gs e.1)->totP (fun x=>x.drop 1 == k) m = totP (fun x=>decide (x.drop d ∈ m.map Prod.fst) && ((x.drop d).drop 1 == k)) gs by
  rw [hs m h.1 (fun e he=>(h.of_mem he).symm)]
  unfold tot
  refine totP_congr fun g hgm=>?_
  have hm:g.1.drop d ∈ m.map Prod.fst:=by
   have hp:0 < tot d gs (g.1.drop d):=(totP_pos hg).2 ⟨g,hgm,by simp⟩
   exact List.mem_map.2 ⟨_,h.mem (k:=g.1.drop d) (by omega),rfl⟩
  simp only [hm,decide_true,Bool.true_and,List.drop_drop]
 intro m
 induction m with
 | nil=>intro _ _; simp only [List.map_nil,List.not_mem_nil,decide_false,Bool.false_and]; rw [totP_nil,totP_false]
 | cons e m ih =>
  intro hn he
  rw [List.map_cons,List.nodup_cons] at hn
  rw [totP_cons,ih hn.2 (fun x hx=>he x (List.mem_cons_of_mem _ hx))]
  have h1:=he e List.mem_cons_self
  rw [h1]
  have hsplit:∀ (p q r:List Int->Bool) (l:List (List Int × Int)),(∀ x,r x = (p x || q x))->(∀ x,¬ (p x = true/\q x = true))->totP r l = totP p l + totP q l:=by
   intro p q r l hr hd
   induction l with
   | nil=>rfl
   | cons x l ih' =>
    rw [totP_cons,totP_cons,totP_cons,ih',hr]
    have:=hd x.1
    cases hp:p x.1 <;> cases hq:q x.1 <;> simp [hp,hq] at this ⊢ <;> omega
  have hr:totP (fun x=>decide (x.drop d ∈ (e :: m).map Prod.fst) && ((x.drop d).drop 1 == k)) gs = totP (fun x=>x.drop d == e.1 && (e.1.drop 1 == k)) gs + totP (fun x=>decide (x.drop d ∈ m.map Prod.fst) && ((x.drop d).drop 1 == k)) gs:=by
   refine hsplit _ _ _ gs (fun x=>?_) (fun x=>?_)
   ·by_cases hx:x.drop d = e.1
    ·have hne:¬ (e.1 ∈ m.map Prod.fst):=hn.1
     simp only [List.map_cons,hx,List.mem_cons,true_or,decide_true,Bool.true_and,beq_self_eq_true,hne,decide_false,Bool.false_and,Bool.or_false]
    have:(x.drop d == e.1) = false:=by simpa using hx
    simp only [this,List.map_cons,List.mem_cons,hx,false_or,Bool.false_and,Bool.false_or]
   rintro ⟨h2,h3⟩
   simp only [Bool.and_eq_true,beq_iff_eq,decide_eq_true_eq] at h2 h3
   rw [h2.1] at h3
   exact hn.1 h3.1
  rw [hr]
  congr 1
  by_cases hk:(e.1.drop 1 == k) = true
  ·simp only [hk,if_true,Bool.and_true]
   rfl
  have hk':(e.1.drop 1 == k) = false:=by simpa using hk
  simp only [hk',Bool.and_false]
  rw [totP_false]
  rfl
theorem tot_zero {gs:List (List Int × Int)} {g:List Int × Int} (h:∀ x ∈ gs,x.1 ≠ g.1):tot 0 gs g.1 = 0:=by
 unfold tot
 induction gs with
 | nil=>rfl
 | cons x gs ih =>
  rw [totP_cons,ih (fun y hy=>h y (List.mem_cons_of_mem _ hy))]
  have:=h x List.mem_cons_self
  simp [this]
theorem tot_snoc (d:Nat) (gs:List (List Int × Int)) (g:List Int × Int) (k:List Int):tot d (gs ++ [g]) k = tot d gs k + if g.1.drop d = k then g.2 else 0:=by
 unfold tot
 rw [totP_snoc]
 by_cases h:g.1.drop d = k <;> simp [h]
end Go.Proofs.YtdehimgccmbfkaaGreat
