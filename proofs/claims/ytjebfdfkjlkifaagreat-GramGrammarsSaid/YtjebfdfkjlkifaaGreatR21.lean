/- Lemmas. -/
import Derived.Test.YtjebfdfkjlkifaaGreatR20
import Derived.DeepKeys4
set_option linter.all false
set_option maxRecDepth 1000000
set_option maxHeartbeats 32000000
namespace Go.Proofs.YtjebfdfkjlkifaaGreat
open Go.RowKit
section
open Go.Maps (Keyed)

theorem dW:Keyed Tryz.prog 120:=Keyed.of_law (deep_law_laid (by kernel_rfl) (m:=100) (by omega) (of_decide_eq_true (by kernel_rfl)) (by kernel_rfl) (by kernel_rfl))
theorem oG:Keyed Tryz.prog 3:=Go.Maps.int_keyed Tryz.underlying3
theorem fG {x:Int} (h1:-9223372036854775808 <= x)(h2:x <= 9223372036854775807):(Lit.int .i64 x).wf = true:=WalkArith.wf_i64 ⟨h1,h2⟩
theorem pd (d:Nat) {x:Int} (hx:(Lit.int .i64 x).wf = true):Tryz.prog.keyLits (d + 1) 3 [.int .i64 x] = some [.int .i64 x]:=by
 unfold Program.keyLits
 rw [show Tryz.prog.underlying 3 = some (.int .i64) from Tryz.underlying3]
 simp [hx]
theorem wX (d:Nat) {a b c e:Int} (ha:(Lit.int .i64 a).wf = true)(hb:(Lit.int .i64 b).wf = true)(hc:(Lit.int .i64 c).wf = true)(he:(Lit.int .i64 e).wf = true) :
  Tryz.prog.keyLits (d + 2) 120 [.int .i64 a,.int .i64 b,.int .i64 c,.int .i64 e] = some [.int .i64 a,.int .i64 b,.int .i64 c,.int .i64 e]:=by
 have e1:Tryz.prog.cellsOf 120 = 4:=by kernel_rfl
 have e2:Tryz.prog.cellsOf 3 = 1:=by kernel_rfl
 unfold Program.keyLits
 rw [show Tryz.prog.underlying 120 = some (.array 4 3) from Tryz.underlying120]
 simp only [e1,e2]
 simp [List.range_succ,pd d ha,pd d hb,pd d hc,pd d he]
theorem ss {l:List Int} (hl:l.length <= 4)(hb:∀ x ∈ l,-1000000 <= x/\x <= 1000000):∃ kl,keyOf Tryz.prog 120 (aV l) = some kl:=by
 obtain ⟨a,b,c,d,hk⟩:=oK (bD hl)
 have hm:∀ y ∈ dG l,-1000000 <= y/\y <= 1000001:=by
  intro y hy
  unfold dG at hy
  rcases List.mem_append.1 hy with h | h
  ·obtain ⟨x,hx,rfl⟩:=List.mem_map.1 h
   have:=hb x hx
   omega
  have:=List.eq_of_mem_replicate h
  omega
 rw [hk] at hm
 have ha:=hm a (by simp)
 have hb':=hm b (by simp)
 have hc:=hm c (by simp)
 have hd:=hm d (by simp)
 have wa:=fG (x:=a) (by omega) (by omega)
 have wb:=fG (x:=b) (by omega) (by omega)
 have wc:=fG (x:=c) (by omega) (by omega)
 have wd:=fG (x:=d) (by omega) (by omega)
 unfold aV
 rw [hk]
 unfold keyOf
 rw [show Tryz.prog.underlying 120 = some (.array 4 3) from Tryz.underlying120]
 have e1:Tryz.prog.keyType 120 = true:=by kernel_rfl
 have e4:Tryz.prog.cellsOf 120 = 4:=by kernel_rfl
 have e2:(Value.agg #[.int .i64 a,.int .i64 b,.int .i64 c,.int .i64 d]).formed Tryz.prog 120 = true:=by
  unfold Value.formed
  rw [show Tryz.prog.underlying 120 = some (.array 4 3) from Tryz.underlying120]
  simp [e4]
 have hT:=of_decide_eq_true (show decide (1 <= Tryz.prog.types.size) = true by kernel_rfl)
 obtain ⟨D,hD⟩:∃ D,Tryz.prog.types.size + 1 = D + 2:=⟨Tryz.prog.types.size - 1,by omega⟩
 refine ⟨.string (keyBytes [.int .i64 a,.int .i64 b,.int .i64 c,.int .i64 d]),?_⟩
 show (if (Tryz.prog.keyType 120 && Value.formed Tryz.prog 120 (Value.agg #[.int .i64 a,.int .i64 b,.int .i64 c,.int .i64 d])) = true then
  Option.map (fun ls=>Lit.string (keyBytes ls)) (Tryz.prog.keyLits (Tryz.prog.types.size + 1) 120 [.int .i64 a,.int .i64 b,.int .i64 c,.int .i64 d]) else none) = _
 rw [e1,e2,hD,wX D wa wb wc wd]
 rfl
theorem m5 {x:Int} (h1:-9223372036854775808 <= x)(h2:x <= 9223372036854775807):∃ kl,keyOf Tryz.prog 3 (.int .i64 x) = some kl:=⟨_,Go.Maps.keyOf_int_mk Tryz.underlying3 (fG h1 h2)⟩

def u8 (k:List Int):List Int:=(k.filter (fun x=>decide (0 < x))).map (· - 1)
theorem jc {l:List Int} (h:∀ x ∈ l,0 <= x):u8 (dG l) = l:=by
 unfold u8 dG
 rw [List.filter_append,List.map_append]
 have e1:(List.replicate (4 - l.length) (0:Int)).filter (fun x=>decide (0 < x)) = []:=by
  rw [List.filter_eq_nil_iff]
  intro x hx
  rw [List.eq_of_mem_replicate hx]
  simp
 rw [e1,List.map_nil,List.append_nil]
 clear e1
 induction l with
 | nil=>rfl
 | cons x l ih =>
  have hx:=h x (by simp)
  rw [List.map_cons,List.filter_cons,if_pos (by simpa using (show 0 < x + 1 by omega)),List.map_cons,ih (fun y hy=>h y (by simp [hy]))]
  congr 1
  omega
def NiceK (l:List Int):Prop:=l.length <= 4/\∀ x ∈ l,0 <= x/\x <= 1000000
theorem NiceK.inj {l m:List Int} (hl:NiceK l)(hm:NiceK m)(h:aV l = aV m):l = m:=by
 unfold aV at h
 injection h with h
 have h':(dG l).map (Value.int .i64) = (dG m).map (Value.int .i64):=congrArg Array.toList h
 have h2:dG l = dG m:=(List.map_inj_right (fun a b e=>by injection e)).1 h'
 rw [<- jc (fun x hx=>(hl.2 x hx).1),h2,jc (fun x hx=>(hm.2 x hx).1)]
theorem NiceK.good {l:List Int} (hl:NiceK l):∃ kl,keyOf Tryz.prog 120 (aV l) = some kl:=ss hl.1 (fun x hx=>by have:=hl.2 x hx; omega)

section
variable {K V:Type} [DecidableEq K]
def aC (m:List (K × V)) (k:K):Option V:=(m.find? (fun e=>decide (e.1 = k))).map (·.2)
def dJ (m:List (K × V)) (k:K) (v:V):List (K × V):=if k ∈ m.map Prod.fst then m.map (fun e=>if e.1 = k then (e.1,v) else e) else m ++ [(k,v)]
def cR (ek:K->Value) (ev:V->Value) (m:List (K × V)):List (Value × Value):=m.map fun e=>(ek e.1,ev e.2)
theorem jF {m:List (K × V)} (hn:(m.map Prod.fst).Nodup) {j:Nat} {k:K} {v:V} (h:m[j]? = some (k,v)):aC m k = some v:=by
 induction m generalizing j with
 | nil=>simp at h
 | cons e m ih =>
  rw [List.map_cons,List.nodup_cons] at hn
  unfold aC
  rw [List.find?_cons]
  cases j with
  | zero =>
   simp at h
   subst h
   simp
  | succ j =>
   simp at h
   have hne:e.1 ≠ k:=fun he=>hn.1 (by rw [he]; exact List.mem_map.2 ⟨(k,v),mG h,rfl⟩)
   simp only [hne,decide_false]
   exact ih hn.2 h
theorem eT {m:List (K × V)} {k:K} (h:∀ e ∈ m,e.1 ≠ k):aC m k = none:=by
 unfold aC
 rw [List.find?_eq_none.2 (fun e he=>by simpa using h e he)]
 rfl
theorem gY {m:List (K × V)} {k:K} {v:V} (h:∀ e ∈ m,e.1 ≠ k):dJ m k v = m ++ [(k,v)]:=by
 unfold dJ
 rw [if_neg]
 intro hk
 obtain ⟨e,he,rfl⟩:=List.mem_map.1 hk
 exact h e he rfl
theorem mK {m:List (K × V)} (hn:(m.map Prod.fst).Nodup) {j:Nat} {k:K} {v0 v:V} (h:m[j]? = some (k,v0)):dJ m k v = m.set j (k,v):=by
 unfold dJ
 rw [if_pos (List.mem_map.2 ⟨(k,v0),mG h,rfl⟩)]
 apply List.ext_getElem?
 intro i
 rw [List.getElem?_map,List.getElem?_set]
 have hj:=(sI.1 h).1
 split
 ·next hi=>subst hi; rw [h]; simp [hj]
 next hi =>
 cases hx:m[i]? with
 | none=>rfl
 | some e =>
  have hil:=(sI.1 hx).1
  have hne:e.1 ≠ k:=by
   intro he
   have h1:(m.map Prod.fst)[i]? = some k:=by rw [List.getElem?_map,hx]; simp [he]
   have h2:(m.map Prod.fst)[j]? = some k:=by rw [List.getElem?_map,h]; rfl
   exact hi ((List.getElem?_inj (by simpa using hj) hn).1 (h2.trans h1.symm))
  simp [hne]

def TMap (ek:K->Value) (ev:V->Value) (w:World) (kt:TypeId) (b:Nat) (m:List (K × V)):Prop:=MapAt Tryz.prog w kt b (cR ek ev m)
def TMid (ek:K->Value) (ev:V->Value) (w:World) (kt:TypeId) (b:Nat) (m:List (K × V)) (k:K) (j:Nat):Prop :=
 ∃ es v0,MapAt Tryz.prog w kt b es/\es[j]? = some (ek k,v0)/\∀ v,es.set j (ek k,ev v) = cR ek ev (dJ m k v)
variable {ek:K->Value} {ev:V->Value} {w:World} {kt e t:TypeId} {b:Nat} {m:List (K × V)} {k:K}
theorem TMap.nodup (h:TMap ek ev w kt b m):(m.map Prod.fst).Nodup:=by
 have:=h.2.2
 unfold cR at this
 rw [List.map_map] at this
 have e:(Prod.fst ∘ fun e:K × V=>(ek e.1,ev e.2)) = ek ∘ Prod.fst:=rfl
 rw [e,<- List.map_map] at this
 exact (List.pairwise_map.1 this).imp (fun h e=>h (by rw [e]))
theorem fq (ek:K->Value) (ev:V->Value) (m:List (K × V)) (j:Nat):(cR ek ev m)[j]? = (m[j]?).map fun e=>(ek e.1,ev e.2):=by simp [cR]
theorem TMap.look (h:TMap ek ev w kt b m) (L:Keyed Tryz.prog kt)(ht:Tryz.prog.underlying t = some (.map kt e)) {z:Value} (hz:(zeroValue e).run Tryz.prog w = .ok z w)(hk:∃ kl,keyOf Tryz.prog kt (ek k) = some kl) (inj:∀ x ∈ m,ek x.1 = ek k->x.1 = k) :
  (Instr.lookup t (.map (some b)) (ek k) false).run Tryz.prog w = .ok ((aC m k).elim z ev) w:=by
 rcases MapAt.look h L ht hz hk false with ⟨j,v,h1,h2⟩ | ⟨h1,h2⟩
 ·rw [fq] at h1
  cases hx:m[j]? with
  | none=>rw [hx] at h1; cases h1
  | some x =>
   rw [hx] at h1
   simp only [Option.map_some,Option.some.injEq,Prod.mk.injEq] at h1
   have hxk:=inj x (mG hx) h1.1
   rw [h2,jF h.nodup (j:=j) (v:=x.2) (by rw [hx,<- hxk]),<- h1.2]
   rfl
 rw [h2,eT (fun x hx he=>h1 (ek x.1,ev x.2) (List.mem_map.2 ⟨x,hx,rfl⟩) (by rw [he]))]
 rfl
theorem TMap.entry (h:TMap ek ev w kt b m) (L:Keyed Tryz.prog kt)(ht:Tryz.prog.underlying t = some (.map kt e)) {z:Value} (hz:∀ w,(zeroValue e).run Tryz.prog w = .ok z w)(hk:∃ kl,keyOf Tryz.prog kt (ek k) = some kl) (inj:∀ x ∈ m,ek x.1 = ek k->x.1 = k) :
  ∃ (j:Nat) (w':World),(Instr.mapEntry t (.map (some b)) (ek k)).run Tryz.prog w = .ok (.tuple #[(aC m k).elim z ev,.int .i64 j]) w'/\TMid ek ev w' kt b m k j/\w.grownBy w' (some b)/\(Instr.lookup t (.map (some b)) (ek k) false).run Tryz.prog w' = .ok ((aC m k).elim z ev) w':=by
 have hn:=h.nodup
 rcases MapAt.entry h L ht (hz w) hk with ⟨j,v,w',h1,h2,h3,h4⟩ | ⟨h1,w',h2,h3,h4⟩
 ·have h1':=h1
  rw [fq] at h1
  cases hx:m[j]? with
  | none=>rw [hx] at h1; cases h1
  | some x =>
   rw [hx] at h1
   simp only [Option.map_some,Option.some.injEq,Prod.mk.injEq] at h1
   have hxk:=inj x (mG hx) h1.1
   have hm:m[j]? = some (k,x.2):=by rw [hx,<- hxk]
   have hl:aC m k = some x.2:=jF hn hm
   refine ⟨j,w',by rw [h2,hl,<- h1.2]; rfl,⟨_,v,h3,h1',fun v'=>?_⟩,h4,TMap.look h3 L ht (hz w') hk inj⟩
   rw [mK hn hm]
   unfold cR
   rw [List.map_set]
 have hnew:∀ x ∈ m,x.1 ≠ k:=fun x hx he=>h1 (ek x.1,ev x.2) (List.mem_map.2 ⟨x,hx,rfl⟩) (by rw [he])
 have hl:aC m k = none:=eT hnew
 have hlast:(cR ek ev m ++ [(ek k,z)])[(cR ek ev m).length]? = some (ek k,z):=by rw [List.getElem?_append_right (nR _),Nat.sub_self]; rfl
 refine ⟨_,w',by rw [h2,hl]; rfl,⟨_,z,h3,hlast,fun v=>?_⟩,h4,?_⟩
 ·rw [gY hnew,List.set_append_right _ _ (nR _),Nat.sub_self]
  simp [cR]
 rw [hl]
 rcases h3.look L ht (hz w') hk false with ⟨j,v,h5,h6⟩ | ⟨h5,_⟩
 ·have hj:j = (cR ek ev m).length:=by
   have h7:((cR ek ev m ++ [(ek k,z)]).map Prod.fst)[j]? = some (ek k):=by rw [List.getElem?_map,h5]; rfl
   have h8:((cR ek ev m ++ [(ek k,z)]).map Prod.fst)[(cR ek ev m).length]? = some (ek k):=by rw [List.getElem?_map,hlast]; rfl
   exact (List.getElem?_inj (by have:=(sI.1 h5).1; simpa using this) h3.2.2).1 (h7.trans h8.symm)
  subst hj
  rw [hlast] at h5
  cases h5
  rw [h6]
  rfl
 exact absurd rfl (h5 (ek k,z) (by simp))
theorem TMid.store {j:Nat} (h:TMid ek ev w kt b m k j) (v:V):∃ w',(Instr.entryStore t (.map (some b)) (.int .i64 j) (ev v)).run Tryz.prog w = .ok () w'/\TMap ek ev w' kt b (dJ m k v)/\w.grownBy w' (some b):=by
 obtain ⟨es,v0,h1,h2,h3⟩:=h
 obtain ⟨w',r1,r2,r3⟩:=h1.store (t:=t) h2 (ev v)
 exact ⟨w',r1,by rw [h3 v] at r2; exact r2,r3⟩
end
end
theorem fV (w:World):(zeroValue 3).run Tryz.prog w = .ok (.int .i64 0) w:=by kernel_rfl

def fF {K:Type} [DecidableEq K] (m:List (K × Int)) (e:K × Int):List (K × Int):=dJ m e.1 ((aC m e.1).getD 0 + e.2)
def l9 {K:Type} [DecidableEq K] (l:List (K × Int)):List (K × Int):=l.foldl fF []
theorem rd {K:Type} [DecidableEq K] (l:List (K × Int)) (e:K × Int):l9 (l ++ [e]) = fF (l9 l) e:=by simp [l9]
theorem br {K V:Type} [DecidableEq K] {m:List (K × V)} {k:K} {v:V} (h:aC m k = some v):(k,v) ∈ m:=by
 unfold aC at h
 cases hf:m.find? (fun e=>decide (e.1 = k)) with
 | none=>rw [hf] at h; cases h
 | some e =>
  rw [hf] at h
  have h1:=List.mem_of_find?_eq_some hf
  have h2:=List.find?_some hf
  simp at h h2
  rw [<- h,<- h2]
  exact h1
theorem fm {K V:Type} [DecidableEq K] {m:List (K × V)} {k:K} {v:V} {e:K × V} (h:e ∈ dJ m k v):e ∈ m ∨ e = (k,v):=by
 unfold dJ at h
 split at h
 ·obtain ⟨x,hx,rfl⟩:=List.mem_map.1 h
  split
  ·next hk=>exact .inr (by rw [hk])
  exact .inl hx
 rcases List.mem_append.1 h with h | h
 ·exact .inl h
 exact .inr (List.mem_singleton.1 h)
def NiceM (M:Int) (m:List (List Int × Int)):Prop:=∀ e ∈ m,NiceK e.1/\0 <= e.2/\e.2 <= M
theorem NiceM.look {M:Int} {m:List (List Int × Int)} (h:NiceM M m)(hM:0 <= M) (k:List Int):0 <= (aC m k).getD 0/\(aC m k).getD 0 <= M:=by
 cases hl:aC m k with
 | none=>simpa using hM
 | some v=>exact (h _ (br hl)).2
theorem NiceM.add {M a:Int} {m:List (List Int × Int)} (h:NiceM M m)(hM:0 <= M) {k:List Int} (hk:NiceK k) {c:Int} (hc:0 <= c/\c <= a):NiceM (M + a) (fF m (k,c)):=by
 intro e he
 rcases fm he with he | rfl
 ·have:=h e he
  exact ⟨this.1,by omega,by omega⟩
 have:=h.look hM k
 exact ⟨hk,by simp only; omega,by simp only; omega⟩
theorem kZ (o:Option Int):o.elim (Value.int .i64 0) (Value.int .i64) = .int .i64 (o.getD 0):=by cases o <;> rfl

theorem Blk.grown {w w':World} {g:Nat} {e:TypeId} {xs:List Value} {row:Option Nat} (h:Blk w g e xs)(hg:w.grownBy w' row)(hne:some g ≠ row):Blk w' g e xs:=(hg.block g h.lt hne).trans h
def cA (p:List Int->Bool) (gs:List (List Int × Int)):Int:=gs.foldl (fun s g=>if p g.1 then s + g.2 else s) 0
theorem iC (p:List Int->Bool) (gs:List (List Int × Int)) (g:List Int × Int):cA p (gs ++ [g]) = cA p gs + (if p g.1 then g.2 else 0):=by
 unfold cA
 rw [List.foldl_append]
 simp only [List.foldl_cons,List.foldl_nil]
 split <;> omega
theorem je (p:List Int->Bool):cA p [] = 0:=rfl
theorem aK (p:List Int->Bool) (g:List Int × Int) (gs:List (List Int × Int)):cA p (g :: gs) = (if p g.1 then g.2 else 0) + cA p gs:=by
 unfold cA
 rw [List.foldl_cons]
 have key:∀ (l:List (List Int × Int)) (a:Int),l.foldl (fun s g=>if p g.1 then s + g.2 else s) a = a + l.foldl (fun s g=>if p g.1 then s + g.2 else s) 0:=by
  intro l
  induction l with
  | nil=>intro a; simp
  | cons x l ih=>intro a; rw [List.foldl_cons,ih,List.foldl_cons,ih (if p x.1 then 0 + x.2 else 0)]; split <;> omega
 rw [key]
 split <;> omega
theorem fJ {p:List Int->Bool} {gs:List (List Int × Int)} (h:∀ g ∈ gs,0 <= g.2):0 <= cA p gs:=by
 induction gs with
 | nil=>exact Int.le_refl _
 | cons g gs ih =>
  rw [aK]
  have:=ih (fun x hx=>h x (List.mem_cons_of_mem _ hx))
  have h1:=h g List.mem_cons_self
  split <;> omega
theorem oV {p:List Int->Bool} {gs:List (List Int × Int)} {M:Int} (h:∀ g ∈ gs,0 <= g.2/\g.2 <= M):cA p gs <= gs.length * M:=by
 induction gs with
 | nil=>simp [je]
 | cons g gs ih =>
  rw [aK,List.length_cons]
  have:=ih (fun x hx=>h x (List.mem_cons_of_mem _ hx))
  have h1:=h g List.mem_cons_self
  have e:((gs.length + 1:Nat):Int) * M = gs.length * M + M:=by rw [Int.natCast_add,Int.add_mul]; simp
  rw [e]
  split <;> omega
theorem mi {p:List Int->Bool} {gs:List (List Int × Int)} (h:∀ g ∈ gs,0 < g.2):0 < cA p gs ↔ ∃ g ∈ gs,p g.1 = true:=by
 induction gs with
 | nil=>simp [je]
 | cons g gs ih =>
  rw [aK]
  have h0:=fJ (p:=p) (gs:=gs) (fun x hx=>Int.le_of_lt (h x (List.mem_cons_of_mem _ hx)))
  have h1:=h g List.mem_cons_self
  have ih':=ih (fun x hx=>h x (List.mem_cons_of_mem _ hx))
  constructor
  ·intro hp
   by_cases hg:p g.1 = true
   ·exact ⟨g,List.mem_cons_self,hg⟩
   rw [if_neg hg] at hp
   obtain ⟨x,hx,hx2⟩:=ih'.1 (by omega)
   exact ⟨x,List.mem_cons_of_mem _ hx,hx2⟩
  rintro ⟨x,hx,hx2⟩
  rcases List.mem_cons.1 hx with rfl | hx
  ·rw [if_pos hx2]; omega
  have:=ih'.2 ⟨x,hx,hx2⟩
  split <;> omega
theorem nY {p q:List Int->Bool} {gs:List (List Int × Int)} (h:∀ g ∈ gs,p g.1 = q g.1):cA p gs = cA q gs:=by
 induction gs with
 | nil=>rfl
 | cons g gs ih=>rw [aK,aK,h g List.mem_cons_self,ih (fun x hx=>h x (List.mem_cons_of_mem _ hx))]
theorem jf (l:List (List Int × Int)):cA (fun _=>false) l = 0:=by
 induction l with
 | nil=>rfl
 | cons x l ih=>rw [aK,ih]; rfl
def tot (d:Nat) (gs:List (List Int × Int)) (k:List Int):Int:=cA (fun x=>x.drop d == k) gs

def Cnt (m:List (List Int × Int)) (T:List Int->Int):Prop:=(m.map Prod.fst).Nodup/\(∀ k,(aC m k).getD 0 = T k)/\∀ e ∈ m,0 < e.2
theorem Cnt.nil:Cnt [] (fun _=>0):=⟨List.nodup_nil,fun k=>by simp [aC],fun e he=>by cases he⟩
theorem dK {K V:Type} {m:List (K × V)} (hn:(m.map Prod.fst).Nodup) {e:K × V} (he:e ∈ m) [DecidableEq K]:aC m e.1 = some e.2:=by
 obtain ⟨j,hj,e'⟩:=List.getElem_of_mem he
 exact jF hn (j:=j) (by rw [eG hj,e'])
theorem Cnt.of_mem {m:List (List Int × Int)} {T:List Int->Int} (h:Cnt m T) {e:List Int × Int} (he:e ∈ m):T e.1 = e.2:=by
 rw [<- h.2.1,dK h.1 he]; rfl
theorem Cnt.mem {m:List (List Int × Int)} {T:List Int->Int} (h:Cnt m T) {k:List Int} (hk:T k ≠ 0):(k,T k) ∈ m:=by
 have h1:=h.2.1 k
 cases hl:aC m k with
 | none=>rw [hl] at h1; exact absurd h1.symm hk
 | some v=>rw [hl] at h1; have:=br hl; rwa [show v = T k from h1] at this
theorem Cnt.congr {m:List (List Int × Int)} {T T':List Int->Int} (h:Cnt m T) (e:∀ k,T k = T' k):Cnt m T':=⟨h.1,fun k=>(h.2.1 k).trans (e k),h.2.2⟩
theorem ie {K V:Type} [DecidableEq K] (m l:List (K × V)) (k:K):aC (m ++ l) k = (aC m k).or (aC l k):=by
 unfold aC
 rw [List.find?_append]
 cases List.find? (fun e=>decide (e.1 = k)) m <;> simp
theorem kM {K V:Type} [DecidableEq K] (m:List (K × V)) (k:K) (v:V) (k':K):aC (dJ m k v) k' = if k' = k then some v else aC m k':=by
 unfold dJ
 split
 ·next hk =>
  unfold aC
  rw [List.find?_map]
  have ef:((fun e:K × V=>decide (e.1 = k')) ∘ fun e:K × V=>if e.1 = k then (e.1,v) else e) = fun e:K × V=>decide (e.1 = k'):=by
   funext e
   simp only [Function.comp]
   split <;> rfl
  rw [ef]
  cases hf:m.find? (fun e=>decide (e.1 = k')) with
  | none =>
   rw [if_neg]
   ·rfl
   intro e
   subst e
   obtain ⟨x,hx,hx2⟩:=List.mem_map.1 hk
   have:=List.find?_eq_none.1 hf x hx
   simp [hx2] at this
  | some e =>
   have h2:=List.find?_some hf
   simp at h2
   simp only [Option.map_some,h2]
   split <;> rfl
 next hk =>
 rw [ie]
 by_cases e:k' = k
 ·subst e
  rw [if_pos rfl,eT (fun x hx he=>hk (List.mem_map.2 ⟨x,hx,he⟩))]
  simp [aC]
 rw [if_neg e]
 have:aC [(k,v)] k' = none:=eT (by intro x hx; rw [List.mem_singleton.1 hx]; exact fun h=>e h.symm)
 rw [this]
 cases aC m k' <;> rfl
theorem jt {K V:Type} [DecidableEq K] {m:List (K × V)} (hn:(m.map Prod.fst).Nodup) (k:K) (v:V):((dJ m k v).map Prod.fst).Nodup:=by
 unfold dJ
 split
 ·rw [List.map_map]
  have e:(Prod.fst ∘ fun e:K × V=>if e.1 = k then (e.1,v) else e) = Prod.fst:=by
   funext e
   simp only [Function.comp]
   split <;> rfl
  rw [e]
  exact hn
 next hk =>
 rw [List.map_append,List.nodup_append]
 refine ⟨hn,by simp,?_⟩
 intro a ha b hb e
 simp at hb
 rw [e,hb] at ha
 exact hk ha
theorem Cnt.add {m:List (List Int × Int)} {T:List Int->Int} (h:Cnt m T) {k:List Int} {c:Int} (hc:0 < c):Cnt (fF m (k,c)) (fun x=>T x + if x = k then c else 0):=by
 have h0:0 <= (aC m k).getD 0:=by
  cases hl:aC m k with
  | none=>exact Int.le_refl _
  | some v=>exact Int.le_of_lt (h.2.2 _ (br hl))
 refine ⟨jt h.1 _ _,fun x=>?_,fun e he=>?_⟩
 ·unfold fF
  rw [kM]
  simp only
  by_cases e:x = k
  ·subst e
   rw [if_pos rfl,if_pos rfl,<- h.2.1 x]
   rfl
  rw [if_neg e,if_neg e,h.2.1]
  omega
 rcases fm he with he | rfl
 ·exact h.2.2 e he
 simp only; omega
theorem Cnt.new {m:List (List Int × Int)} {T:List Int->Int} (h:Cnt m T) {k:List Int} (hk:T k = 0) {c:Int} (hc:0 < c):Cnt (dJ m k c) (fun x=>T x + if x = k then c else 0):=by
 have:=h.add (k:=k) hc
 unfold fF at this
 simp only at this
 rw [h.2.1,hk,Int.zero_add] at this
 exact this
theorem Cnt.perm {m m':List (List Int × Int)} {T:List Int->Int} (h:Cnt m T)(hn:(m'.map Prod.fst).Nodup)(he:∀ e,e ∈ m' ↔ e ∈ m):Cnt m' T:=by
 refine ⟨hn,fun k=>?_,fun e h'=>h.2.2 e ((he e).1 h')⟩
 rw [<- h.2.1]
 cases hl:aC m' k with
 | none =>
  cases hl2:aC m k with
  | none=>rfl
  | some v =>
   have:=dK hn ((he _).2 (br hl2))
   simp only at this
   rw [hl] at this
   cases this
 | some v =>
  have:=dK h.1 ((he _).1 (br hl))
  simp only at this
  rw [this]
theorem pH {m:List (List Int × Int)} {d:Nat} {gs:List (List Int × Int)} (h:Cnt m (tot d gs))(hg:∀ g ∈ gs,0 < g.2) (k:List Int):cA (fun x=>x.drop 1 == k) m = tot (d + 1) gs k:=by
 -- the sum over the entries,each of which is a sum
 have key:∀ (m:List (List Int × Int)) ,(m.map Prod.fst).Nodup->(∀ e ∈ m,tot d gs e.1 = e.2)->(∀ g ∈ gs,g.1.drop d ∈ m.map Prod.fst ∨ (g.1.drop d).drop 1 ≠ k ∨ True)->True:=fun _ _ _ _=>trivial
 clear key
 suffices hs:∀ (m:List (List Int × Int)),(m.map Prod.fst).Nodup->(∀ e ∈ m,e.2 = tot d gs e.1)->cA (fun x=>x.drop 1 == k) m = cA (fun x=>decide (x.drop d ∈ m.map Prod.fst) && ((x.drop d).drop 1 == k)) gs by
  rw [hs m h.1 (fun e he=>(h.of_mem he).symm)]
  unfold tot
  refine nY fun g hgm=>?_
  have hm:g.1.drop d ∈ m.map Prod.fst:=by
   have hp:0 < tot d gs (g.1.drop d):=(mi hg).2 ⟨g,hgm,by simp⟩
   exact List.mem_map.2 ⟨_,h.mem (k:=g.1.drop d) (by omega),rfl⟩
  simp only [hm,decide_true,Bool.true_and,List.drop_drop]
 intro m
 induction m with
 | nil=>intro _ _; simp only [List.map_nil,List.not_mem_nil,decide_false,Bool.false_and]; rw [je,jf]
 | cons e m ih =>
  intro hn he
  rw [List.map_cons,List.nodup_cons] at hn
  rw [aK,ih hn.2 (fun x hx=>he x (List.mem_cons_of_mem _ hx))]
  have h1:=he e List.mem_cons_self
  rw [h1]
  have hsplit:∀ (p q r:List Int->Bool) (l:List (List Int × Int)),(∀ x,r x = (p x || q x))->(∀ x,¬ (p x = true/\q x = true))->cA r l = cA p l + cA q l:=by
   intro p q r l hr hd
   induction l with
   | nil=>rfl
   | cons x l ih' =>
    rw [aK,aK,aK,ih',hr]
    have:=hd x.1
    cases hp:p x.1 <;> cases hq:q x.1 <;> simp [hp,hq] at this ⊢ <;> omega
  have hr:cA (fun x=>decide (x.drop d ∈ (e :: m).map Prod.fst) && ((x.drop d).drop 1 == k)) gs = cA (fun x=>x.drop d == e.1 && (e.1.drop 1 == k)) gs + cA (fun x=>decide (x.drop d ∈ m.map Prod.fst) && ((x.drop d).drop 1 == k)) gs:=by
   refine hsplit _ _ _ gs (fun x=>?_) (fun x=>?_)
   ·by_cases hx:x.drop d = e.1
    ·have hne:¬ (e.1 ∈ m.map Prod.fst):=hn.1
     simp only [List.map_cons,hx,List.mem_cons,true_or,decide_true,Bool.true_and,beq_self_eq_true,hne,decide_false,Bool.false_and,Bool.or_false]
    have:(x.drop d == e.1) = false:=by simpa using hx
    simp only [this,List.map_cons,List.mem_cons,hx,false_or,Bool.false_and,Bool.false_or]
   rintro ⟨h2,h3⟩
   simp only [Bool.and_eq_true,beq_iff_eq,decide_eq_true_eq] at h2 h3
   rw [h2.1] at h3
   exact hn.1 h3.1
  rw [hr]
  congr 1
  by_cases hk:(e.1.drop 1 == k) = true
  ·simp only [hk,if_true,Bool.and_true]
   rfl
  have hk':(e.1.drop 1 == k) = false:=by simpa using hk
  simp only [hk',Bool.and_false]
  rw [jf]
  rfl
theorem rt {gs:List (List Int × Int)} {g:List Int × Int} (h:∀ x ∈ gs,x.1 ≠ g.1):tot 0 gs g.1 = 0:=by
 unfold tot
 induction gs with
 | nil=>rfl
 | cons x gs ih =>
  rw [aK,ih (fun y hy=>h y (List.mem_cons_of_mem _ hy))]
  have:=h x List.mem_cons_self
  simp [this]
theorem ru (d:Nat) (gs:List (List Int × Int)) (g:List Int × Int) (k:List Int):tot d (gs ++ [g]) k = tot d gs k + if g.1.drop d = k then g.2 else 0:=by
 unfold tot
 rw [iC]
 by_cases h:g.1.drop d = k <;> simp [h]
end Go.Proofs.YtjebfdfkjlkifaaGreat
