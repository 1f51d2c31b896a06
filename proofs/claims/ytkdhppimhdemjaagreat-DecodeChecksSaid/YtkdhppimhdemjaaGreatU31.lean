/- Lemmas on the way: MapT, Gm9, Cnt, Lev, Vis. -/
import Derived.Test.YtkdhppimhdemjaaGreatU30
set_option linter.all false
set_option maxRecDepth 1000000
set_option maxHeartbeats 32000000
namespace Go.Proofs.YtkdhppimhdemjaaGreat
open Go.RowKit
section
open Go.Maps (Keyed)

theorem re:Keyed Tryz.prog 398:=Keyed.of_law (deep_law_laid (by kernel_rfl) (m:=100) (by omega) (of_decide_eq_true (by kernel_rfl)) (by kernel_rfl) (by kernel_rfl))
theorem zd:Keyed Tryz.prog 3:=Go.Maps.int_keyed Tryz.underlying3
theorem jS {x:Int} (h1:-9223372036854775808 <= x)(h2:x <= 9223372036854775807):(Lit.int .i64 x).wf = true:=WalkArith.wf_i64 ⟨h1,h2⟩
theorem Bc (d:Nat) {x:Int} (hx:(Lit.int .i64 x).wf = true):Tryz.prog.keyLits (d + 1) 3 [.int .i64 x] = some [.int .i64 x]:=by
 unfold Program.keyLits
 rw [show Tryz.prog.underlying 3 = some (.int .i64) from Tryz.underlying3]
 simp [hx]
theorem Nm (d:Nat) {a b c e:Int} (ha:(Lit.int .i64 a).wf = true)(hb:(Lit.int .i64 b).wf = true)(hc:(Lit.int .i64 c).wf = true)(he:(Lit.int .i64 e).wf = true) :
  Tryz.prog.keyLits (d + 2) 398 [.int .i64 a,.int .i64 b,.int .i64 c,.int .i64 e] = some [.int .i64 a,.int .i64 b,.int .i64 c,.int .i64 e]:=by
 have e1:Tryz.prog.cellsOf 398 = 4:=by kernel_rfl
 have e2:Tryz.prog.cellsOf 3 = 1:=by kernel_rfl
 unfold Program.keyLits
 rw [show Tryz.prog.underlying 398 = some (.array 4 3) from Tryz.underlying398]
 simp only [e1,e2]
 simp [List.range_succ,Bc d ha,Bc d hb,Bc d hc,Bc d he]
theorem Fc {l:List Int} (hl:l.length <= 4)(hb:∀ x ∈ l,-1000000 <= x/\x <= 1000000):∃ kl,keyOf Tryz.prog 398 (dA l) = some kl:=by
 obtain ⟨a,b,c,d,hk⟩:=Fx (dp hl)
 have hm:∀ y ∈ eT l,-1000000 <= y/\y <= 1000001:=by
  intro y hy
  unfold eT at hy
  rcases List.mem_append.1 hy with h | h
  ·obtain ⟨x,hx,rfl⟩:=List.mem_map.1 h
   have:=hb x hx
   omega
  have:=List.eq_of_mem_replicate h
  omega
 rw [hk] at hm
 have ha:=hm a (by simp)
 have hb':=hm b (by simp)
 have hc:=hm c (by simp)
 have hd:=hm d (by simp)
 have wa:=jS (x:=a) (by omega) (by omega)
 have wb:=jS (x:=b) (by omega) (by omega)
 have wc:=jS (x:=c) (by omega) (by omega)
 have wd:=jS (x:=d) (by omega) (by omega)
 unfold dA
 rw [hk]
 unfold keyOf
 rw [show Tryz.prog.underlying 398 = some (.array 4 3) from Tryz.underlying398]
 have e1:Tryz.prog.keyType 398 = true:=by kernel_rfl
 have e4:Tryz.prog.cellsOf 398 = 4:=by kernel_rfl
 have e2:(Value.agg #[.int .i64 a,.int .i64 b,.int .i64 c,.int .i64 d]).formed Tryz.prog 398 = true:=by
  unfold Value.formed
  rw [show Tryz.prog.underlying 398 = some (.array 4 3) from Tryz.underlying398]
  simp [e4]
 have hT:=of_decide_eq_true (show decide (1 <= Tryz.prog.types.size) = true by kernel_rfl)
 obtain ⟨D,hD⟩:∃ D,Tryz.prog.types.size + 1 = D + 2:=⟨Tryz.prog.types.size - 1,by omega⟩
 refine ⟨.string (keyBytes [.int .i64 a,.int .i64 b,.int .i64 c,.int .i64 d]),?_⟩
 show (if (Tryz.prog.keyType 398 && Value.formed Tryz.prog 398 (Value.agg #[.int .i64 a,.int .i64 b,.int .i64 c,.int .i64 d])) = true then
  Option.map (fun ls=>Lit.string (keyBytes ls)) (Tryz.prog.keyLits (Tryz.prog.types.size + 1) 398 [.int .i64 a,.int .i64 b,.int .i64 c,.int .i64 d]) else none) = _
 rw [e1,e2,hD,Nm D wa wb wc wd]
 rfl
theorem xm {x:Int} (h1:-9223372036854775808 <= x)(h2:x <= 9223372036854775807):∃ kl,keyOf Tryz.prog 3 (.int .i64 x) = some kl:=⟨_,Go.Maps.keyOf_int_mk Tryz.underlying3 (jS h1 h2)⟩

def J4 (k:List Int):List Int:=(k.filter (fun x=>decide (0 < x))).map (· - 1)
theorem qw {l:List Int} (h:∀ x ∈ l,0 <= x):J4 (eT l) = l:=by
 unfold J4 eT
 rw [List.filter_append,List.map_append]
 have e1:(List.replicate (4 - l.length) (0:Int)).filter (fun x=>decide (0 < x)) = []:=by
  rw [List.filter_eq_nil_iff]
  intro x hx
  rw [List.eq_of_mem_replicate hx]
  simp
 rw [e1,List.map_nil,List.append_nil]
 clear e1
 induction l with
 | nil=>rfl
 | cons x l ih =>
  have hx:=h x (by simp)
  rw [List.map_cons,List.filter_cons,if_pos (by simpa using (show 0 < x + 1 by omega)),List.map_cons,ih (fun y hy=>h y (by simp [hy]))]
  congr 1
  omega
def fC (l:List Int):Prop:=l.length <= 4/\∀ x ∈ l,0 <= x/\x <= 1000000
theorem fC.inj {l m:List Int} (hl:fC l)(hm:fC m)(h:dA l = dA m):l = m:=by
 unfold dA at h
 injection h with h
 have h':(eT l).map (Value.int .i64) = (eT m).map (Value.int .i64):=congrArg Array.toList h
 have h2:eT l = eT m:=(List.map_inj_right (fun a b e=>by injection e)).1 h'
 rw [<- qw (fun x hx=>(hl.2 x hx).1),h2,qw (fun x hx=>(hm.2 x hx).1)]
theorem fC.good {l:List Int} (hl:fC l):∃ kl,keyOf Tryz.prog 398 (dA l) = some kl:=Fc hl.1 (fun x hx=>by have:=hl.2 x hx; omega)

section
variable {K V:Type} [DecidableEq K]
def bq (m:List (K × V)) (k:K):Option V:=(m.find? (fun e=>decide (e.1 = k))).map (·.2)
def gJ (m:List (K × V)) (k:K) (v:V):List (K × V):=if k ∈ m.map Prod.fst then m.map (fun e=>if e.1 = k then (e.1,v) else e) else m ++ [(k,v)]
def ft (ek:K->Value) (ev:V->Value) (m:List (K × V)):List (Value × Value):=m.map fun e=>(ek e.1,ev e.2)
theorem qZ {m:List (K × V)} (hn:(m.map Prod.fst).Nodup) {j:Nat} {k:K} {v:V} (h:m[j]? = some (k,v)):bq m k = some v:=by
 induction m generalizing j with
 | nil=>simp at h
 | cons e m ih =>
  rw [List.map_cons,List.nodup_cons] at hn
  unfold bq
  rw [List.find?_cons]
  cases j with
  | zero =>
   simp at h
   subst h
   simp
  | succ j =>
   simp at h
   have hne:e.1 ≠ k:=fun he=>hn.1 (by rw [he]; exact List.mem_map.2 ⟨(k,v),List.mem_of_getElem? h,rfl⟩)
   simp only [hne,decide_false]
   exact ih hn.2 h
theorem jx {m:List (K × V)} {k:K} (h:∀ e ∈ m,e.1 ≠ k):bq m k = none:=by
 unfold bq
 rw [List.find?_eq_none.2 (fun e he=>by simpa using h e he)]
 rfl
theorem m9 {m:List (K × V)} {k:K} {v:V} (h:∀ e ∈ m,e.1 ≠ k):gJ m k v = m ++ [(k,v)]:=by
 unfold gJ
 rw [if_neg]
 intro hk
 obtain ⟨e,he,rfl⟩:=List.mem_map.1 hk
 exact h e he rfl
theorem wA {m:List (K × V)} (hn:(m.map Prod.fst).Nodup) {j:Nat} {k:K} {v0 v:V} (h:m[j]? = some (k,v0)):gJ m k v = m.set j (k,v):=by
 unfold gJ
 rw [if_pos (List.mem_map.2 ⟨(k,v0),List.mem_of_getElem? h,rfl⟩)]
 apply List.ext_getElem?
 intro i
 rw [List.getElem?_map,List.getElem?_set]
 have hj:=(List.getElem?_eq_some_iff.1 h).1
 split
 ·next hi=>subst hi; rw [h]; simp [hj]
 next hi =>
 cases hx:m[i]? with
 | none=>rfl
 | some e =>
  have hil:=(List.getElem?_eq_some_iff.1 hx).1
  have hne:e.1 ≠ k:=by
   intro he
   have h1:(m.map Prod.fst)[i]? = some k:=by rw [List.getElem?_map,hx]; simp [he]
   have h2:(m.map Prod.fst)[j]? = some k:=by rw [List.getElem?_map,h]; rfl
   exact hi ((List.getElem?_inj (by simpa using hj) hn).1 (h2.trans h1.symm))
  simp [hne]

def bO (ek:K->Value) (ev:V->Value) (w:World) (kt:TypeId) (b:Nat) (m:List (K × V)):Prop:=aQ Tryz.prog w kt b (ft ek ev m)
def Me (ek:K->Value) (ev:V->Value) (w:World) (kt:TypeId) (b:Nat) (m:List (K × V)) (k:K) (j:Nat):Prop :=
 ∃ es v0,aQ Tryz.prog w kt b es/\es[j]? = some (ek k,v0)/\∀ v,es.set j (ek k,ev v) = ft ek ev (gJ m k v)
variable {ek:K->Value} {ev:V->Value} {w:World} {kt e t:TypeId} {b:Nat} {m:List (K × V)} {k:K}
theorem bO.nodup (h:bO ek ev w kt b m):(m.map Prod.fst).Nodup:=by
 have:=h.2.2
 unfold ft at this
 rw [List.map_map] at this
 have e:(Prod.fst ∘ fun e:K × V=>(ek e.1,ev e.2)) = ek ∘ Prod.fst:=rfl
 rw [e,<- List.map_map] at this
 exact (List.pairwise_map.1 this).imp (fun h e=>h (by rw [e]))
theorem kC (ek:K->Value) (ev:V->Value) (m:List (K × V)) (j:Nat):(ft ek ev m)[j]? = (m[j]?).map fun e=>(ek e.1,ev e.2):=by simp [ft]
theorem bO.look (h:bO ek ev w kt b m) (L:Keyed Tryz.prog kt)(ht:Tryz.prog.underlying t = some (.map kt e)) {z:Value} (hz:(zeroValue e).run Tryz.prog w = .ok z w)(hk:∃ kl,keyOf Tryz.prog kt (ek k) = some kl) (inj:∀ x ∈ m,ek x.1 = ek k->x.1 = k) :
  (Instr.lookup t (.map (some b)) (ek k) false).run Tryz.prog w = .ok ((bq m k).elim z ev) w:=by
 rcases aQ.look h L ht hz hk false with ⟨j,v,h1,h2⟩ | ⟨h1,h2⟩
 ·rw [kC] at h1
  cases hx:m[j]? with
  | none=>rw [hx] at h1; cases h1
  | some x =>
   rw [hx] at h1
   simp only [Option.map_some,Option.some.injEq,Prod.mk.injEq] at h1
   have hxk:=inj x (List.mem_of_getElem? hx) h1.1
   rw [h2,qZ h.nodup (j:=j) (v:=x.2) (by rw [hx,<- hxk]),<- h1.2]
   rfl
 rw [h2,jx (fun x hx he=>h1 (ek x.1,ev x.2) (List.mem_map.2 ⟨x,hx,rfl⟩) (by rw [he]))]
 rfl
theorem bO.entry (h:bO ek ev w kt b m) (L:Keyed Tryz.prog kt)(ht:Tryz.prog.underlying t = some (.map kt e)) {z:Value} (hz:∀ w,(zeroValue e).run Tryz.prog w = .ok z w)(hk:∃ kl,keyOf Tryz.prog kt (ek k) = some kl) (inj:∀ x ∈ m,ek x.1 = ek k->x.1 = k) :
  ∃ (j:Nat) (w':World),(Instr.mapEntry t (.map (some b)) (ek k)).run Tryz.prog w = .ok (.tuple #[(bq m k).elim z ev,.int .i64 j]) w'/\Me ek ev w' kt b m k j/\w.grownBy w' (some b)/\(Instr.lookup t (.map (some b)) (ek k) false).run Tryz.prog w' = .ok ((bq m k).elim z ev) w':=by
 have hn:=h.nodup
 rcases aQ.entry h L ht (hz w) hk with ⟨j,v,w',h1,h2,h3,h4⟩ | ⟨h1,w',h2,h3,h4⟩
 ·have h1':=h1
  rw [kC] at h1
  cases hx:m[j]? with
  | none=>rw [hx] at h1; cases h1
  | some x =>
   rw [hx] at h1
   simp only [Option.map_some,Option.some.injEq,Prod.mk.injEq] at h1
   have hxk:=inj x (List.mem_of_getElem? hx) h1.1
   have hm:m[j]? = some (k,x.2):=by rw [hx,<- hxk]
   have hl:bq m k = some x.2:=qZ hn hm
   refine ⟨j,w',by rw [h2,hl,<- h1.2]; rfl,⟨_,v,h3,h1',fun v'=>?_⟩,h4,bO.look h3 L ht (hz w') hk inj⟩
   rw [wA hn hm]
   unfold ft
   rw [List.map_set]
 have hnew:∀ x ∈ m,x.1 ≠ k:=fun x hx he=>h1 (ek x.1,ev x.2) (List.mem_map.2 ⟨x,hx,rfl⟩) (by rw [he])
 have hl:bq m k = none:=jx hnew
 have hlast:(ft ek ev m ++ [(ek k,z)])[(ft ek ev m).length]? = some (ek k,z):=by rw [List.getElem?_append_right (Nat.le_refl _),Nat.sub_self]; rfl
 refine ⟨_,w',by rw [h2,hl]; rfl,⟨_,z,h3,hlast,fun v=>?_⟩,h4,?_⟩
 ·rw [m9 hnew,List.set_append_right _ _ (Nat.le_refl _),Nat.sub_self]
  simp [ft]
 rw [hl]
 rcases h3.look L ht (hz w') hk false with ⟨j,v,h5,h6⟩ | ⟨h5,_⟩
 ·have hj:j = (ft ek ev m).length:=by
   have h7:((ft ek ev m ++ [(ek k,z)]).map Prod.fst)[j]? = some (ek k):=by rw [List.getElem?_map,h5]; rfl
   have h8:((ft ek ev m ++ [(ek k,z)]).map Prod.fst)[(ft ek ev m).length]? = some (ek k):=by rw [List.getElem?_map,hlast]; rfl
   exact (List.getElem?_inj (by have:=(List.getElem?_eq_some_iff.1 h5).1; simpa using this) h3.2.2).1 (h7.trans h8.symm)
  subst hj
  rw [hlast] at h5
  cases h5
  rw [h6]
  rfl
 exact absurd rfl (h5 (ek k,z) (by simp))
theorem Me.store {j:Nat} (h:Me ek ev w kt b m k j) (v:V):∃ w',(Instr.entryStore t (.map (some b)) (.int .i64 j) (ev v)).run Tryz.prog w = .ok () w'/\bO ek ev w' kt b (gJ m k v)/\w.grownBy w' (some b):=by
 obtain ⟨es,v0,h1,h2,h3⟩:=h
 obtain ⟨w',r1,r2,r3⟩:=h1.store (t:=t) h2 (ev v)
 exact ⟨w',r1,by rw [h3 v] at r2; exact r2,r3⟩
end
end
theorem pS (w:World):(zeroValue 3).run Tryz.prog w = .ok (.int .i64 0) w:=by kernel_rfl

def yi {K:Type} [DecidableEq K] (m:List (K × Int)) (e:K × Int):List (K × Int):=gJ m e.1 ((bq m e.1).getD 0 + e.2)
theorem cN {K V:Type} [DecidableEq K] {m:List (K × V)} {k:K} {v:V} (h:bq m k = some v):(k,v) ∈ m:=by
 unfold bq at h
 cases hf:m.find? (fun e=>decide (e.1 = k)) with
 | none=>rw [hf] at h; cases h
 | some e =>
  rw [hf] at h
  have h1:=List.mem_of_find?_eq_some hf
  have h2:=List.find?_some hf
  simp at h h2
  rw [<- h,<- h2]
  exact h1
theorem qQ {K V:Type} [DecidableEq K] {m:List (K × V)} {k:K} {v:V} {e:K × V} (h:e ∈ gJ m k v):e ∈ m ∨ e = (k,v):=by
 unfold gJ at h
 split at h
 ·obtain ⟨x,hx,rfl⟩:=List.mem_map.1 h
  split
  ·next hk=>exact .inr (by rw [hk])
  exact .inl hx
 rcases List.mem_append.1 h with h | h
 ·exact .inl h
 exact .inr (List.mem_singleton.1 h)
theorem C5 (o:Option Int):o.elim (Value.int .i64 0) (Value.int .i64) = .int .i64 (o.getD 0):=by cases o <;> rfl

theorem bw.grown {w w':World} {g:Nat} {e:TypeId} {xs:List Value} {row:Option Nat} (h:bw w g e xs)(hg:w.grownBy w' row)(hne:some g ≠ row):bw w' g e xs:=(hg.block g h.lt hne).trans h
def dK (p:List Int->Bool) (gs:List (List Int × Int)):Int:=gs.foldl (fun s g=>if p g.1 then s + g.2 else s) 0
theorem sO (p:List Int->Bool) (gs:List (List Int × Int)) (g:List Int × Int):dK p (gs ++ [g]) = dK p gs + (if p g.1 then g.2 else 0):=by
 unfold dK
 rw [List.foldl_append]
 simp only [List.foldl_cons,List.foldl_nil]
 split <;> omega
theorem qD (p:List Int->Bool):dK p [] = 0:=rfl
theorem bH (p:List Int->Bool) (g:List Int × Int) (gs:List (List Int × Int)):dK p (g :: gs) = (if p g.1 then g.2 else 0) + dK p gs:=by
 unfold dK
 rw [List.foldl_cons]
 have key:∀ (l:List (List Int × Int)) (a:Int),l.foldl (fun s g=>if p g.1 then s + g.2 else s) a = a + l.foldl (fun s g=>if p g.1 then s + g.2 else s) 0:=by
  intro l
  induction l with
  | nil=>intro a; simp
  | cons x l ih=>intro a; rw [List.foldl_cons,ih,List.foldl_cons,ih (if p x.1 then 0 + x.2 else 0)]; split <;> omega
 rw [key]
 split <;> omega
theorem o5 {p:List Int->Bool} {gs:List (List Int × Int)} (h:∀ g ∈ gs,0 <= g.2):0 <= dK p gs:=by
 induction gs with
 | nil=>exact Int.le_refl _
 | cons g gs ih =>
  rw [bH]
  have:=ih (fun x hx=>h x (List.mem_cons_of_mem _ hx))
  have h1:=h g List.mem_cons_self
  split <;> omega
theorem Ai {p:List Int->Bool} {gs:List (List Int × Int)} {M:Int} (h:∀ g ∈ gs,0 <= g.2/\g.2 <= M):dK p gs <= gs.length * M:=by
 induction gs with
 | nil=>simp [qD]
 | cons g gs ih =>
  rw [bH,List.length_cons]
  have:=ih (fun x hx=>h x (List.mem_cons_of_mem _ hx))
  have h1:=h g List.mem_cons_self
  have e:((gs.length + 1:Nat):Int) * M = gs.length * M + M:=by rw [Int.natCast_add,Int.add_mul]; simp
  rw [e]
  split <;> omega
theorem vR {p:List Int->Bool} {gs:List (List Int × Int)} (h:∀ g ∈ gs,0 < g.2):0 < dK p gs ↔ ∃ g ∈ gs,p g.1 = true:=by
 induction gs with
 | nil=>simp [qD]
 | cons g gs ih =>
  rw [bH]
  have h0:=o5 (p:=p) (gs:=gs) (fun x hx=>Int.le_of_lt (h x (List.mem_cons_of_mem _ hx)))
  have h1:=h g List.mem_cons_self
  have ih':=ih (fun x hx=>h x (List.mem_cons_of_mem _ hx))
  constructor
  ·intro hp
   by_cases hg:p g.1 = true
   ·exact ⟨g,List.mem_cons_self,hg⟩
   rw [if_neg hg] at hp
   obtain ⟨x,hx,hx2⟩:=ih'.1 (by omega)
   exact ⟨x,List.mem_cons_of_mem _ hx,hx2⟩
  rintro ⟨x,hx,hx2⟩
  rcases List.mem_cons.1 hx with rfl | hx
  ·rw [if_pos hx2]; omega
  have:=ih'.2 ⟨x,hx,hx2⟩
  split <;> omega
theorem yI {p q:List Int->Bool} {gs:List (List Int × Int)} (h:∀ g ∈ gs,p g.1 = q g.1):dK p gs = dK q gs:=by
 induction gs with
 | nil=>rfl
 | cons g gs ih=>rw [bH,bH,h g List.mem_cons_self,ih (fun x hx=>h x (List.mem_cons_of_mem _ hx))]
theorem qE (l:List (List Int × Int)):dK (fun _=>false) l = 0:=by
 induction l with
 | nil=>rfl
 | cons x l ih=>rw [bH,ih]; rfl
def tot (d:Nat) (gs:List (List Int × Int)) (k:List Int):Int:=dK (fun x=>x.drop d == k) gs

def g8 (m:List (List Int × Int)) (T:List Int->Int):Prop:=(m.map Prod.fst).Nodup/\(∀ k,(bq m k).getD 0 = T k)/\∀ e ∈ m,0 < e.2
theorem g8.nil:g8 [] (fun _=>0):=⟨List.nodup_nil,fun k=>by simp [bq],fun e he=>by cases he⟩
theorem e9 {K V:Type} {m:List (K × V)} (hn:(m.map Prod.fst).Nodup) {e:K × V} (he:e ∈ m) [DecidableEq K]:bq m e.1 = some e.2:=by
 obtain ⟨j,hj,e'⟩:=List.getElem_of_mem he
 exact qZ hn (j:=j) (by rw [List.getElem?_eq_getElem hj,e'])
theorem g8.of_mem {m:List (List Int × Int)} {T:List Int->Int} (h:g8 m T) {e:List Int × Int} (he:e ∈ m):T e.1 = e.2:=by
 rw [<- h.2.1,e9 h.1 he]; rfl
theorem g8.mem {m:List (List Int × Int)} {T:List Int->Int} (h:g8 m T) {k:List Int} (hk:T k ≠ 0):(k,T k) ∈ m:=by
 have h1:=h.2.1 k
 cases hl:bq m k with
 | none=>rw [hl] at h1; exact absurd h1.symm hk
 | some v=>rw [hl] at h1; have:=cN hl; rwa [show v = T k from h1] at this
theorem g8.congr {m:List (List Int × Int)} {T T':List Int->Int} (h:g8 m T) (e:∀ k,T k = T' k):g8 m T':=⟨h.1,fun k=>(h.2.1 k).trans (e k),h.2.2⟩
theorem nB {K V:Type} [DecidableEq K] (m l:List (K × V)) (k:K):bq (m ++ l) k = (bq m k).or (bq l k):=by
 unfold bq
 rw [List.find?_append]
 cases List.find? (fun e=>decide (e.1 = k)) m <;> simp
theorem CD {K V:Type} [DecidableEq K] (m:List (K × V)) (k:K) (v:V) (k':K):bq (gJ m k v) k' = if k' = k then some v else bq m k':=by
 unfold gJ
 split
 ·next hk =>
  unfold bq
  rw [List.find?_map]
  have ef:((fun e:K × V=>decide (e.1 = k')) ∘ fun e:K × V=>if e.1 = k then (e.1,v) else e) = fun e:K × V=>decide (e.1 = k'):=by
   funext e
   simp only [Function.comp]
   split <;> rfl
  rw [ef]
  cases hf:m.find? (fun e=>decide (e.1 = k')) with
  | none =>
   rw [if_neg]
   ·rfl
   intro e
   subst e
   obtain ⟨x,hx,hx2⟩:=List.mem_map.1 hk
   have:=List.find?_eq_none.1 hf x hx
   simp [hx2] at this
  | some e =>
   have h2:=List.find?_some hf
   simp at h2
   simp only [Option.map_some,h2]
   split <;> rfl
 next hk =>
 rw [nB]
 by_cases e:k' = k
 ·subst e
  rw [if_pos rfl,jx (fun x hx he=>hk (List.mem_map.2 ⟨x,hx,he⟩))]
  simp [bq]
 rw [if_neg e]
 have:bq [(k,v)] k' = none:=jx (by intro x hx; rw [List.mem_singleton.1 hx]; exact fun h=>e h.symm)
 rw [this]
 cases bq m k' <;> rfl
theorem qP {K V:Type} [DecidableEq K] {m:List (K × V)} (hn:(m.map Prod.fst).Nodup) (k:K) (v:V):((gJ m k v).map Prod.fst).Nodup:=by
 unfold gJ
 split
 ·rw [List.map_map]
  have e:(Prod.fst ∘ fun e:K × V=>if e.1 = k then (e.1,v) else e) = Prod.fst:=by
   funext e
   simp only [Function.comp]
   split <;> rfl
  rw [e]
  exact hn
 next hk =>
 rw [List.map_append,List.nodup_append]
 refine ⟨hn,by simp,?_⟩
 intro a ha b hb e
 simp at hb
 rw [e,hb] at ha
 exact hk ha
theorem g8.add {m:List (List Int × Int)} {T:List Int->Int} (h:g8 m T) {k:List Int} {c:Int} (hc:0 < c):g8 (yi m (k,c)) (fun x=>T x + if x = k then c else 0):=by
 have h0:0 <= (bq m k).getD 0:=by
  cases hl:bq m k with
  | none=>exact Int.le_refl _
  | some v=>exact Int.le_of_lt (h.2.2 _ (cN hl))
 refine ⟨qP h.1 _ _,fun x=>?_,fun e he=>?_⟩
 ·unfold yi
  rw [CD]
  simp only
  by_cases e:x = k
  ·subst e
   rw [if_pos rfl,if_pos rfl,<- h.2.1 x]
   rfl
  rw [if_neg e,if_neg e,h.2.1]
  omega
 rcases qQ he with he | rfl
 ·exact h.2.2 e he
 simp only; omega
theorem g8.new {m:List (List Int × Int)} {T:List Int->Int} (h:g8 m T) {k:List Int} (hk:T k = 0) {c:Int} (hc:0 < c):g8 (gJ m k c) (fun x=>T x + if x = k then c else 0):=by
 have:=h.add (k:=k) hc
 unfold yi at this
 simp only at this
 rw [h.2.1,hk,Int.zero_add] at this
 exact this
theorem g8.perm {m m':List (List Int × Int)} {T:List Int->Int} (h:g8 m T)(hn:(m'.map Prod.fst).Nodup)(he:∀ e,e ∈ m' ↔ e ∈ m):g8 m' T:=by
 refine ⟨hn,fun k=>?_,fun e h'=>h.2.2 e ((he e).1 h')⟩
 rw [<- h.2.1]
 cases hl:bq m' k with
 | none =>
  cases hl2:bq m k with
  | none=>rfl
  | some v =>
   have:=e9 hn ((he _).2 (cN hl2))
   simp only at this
   rw [hl] at this
   cases this
 | some v =>
  have:=e9 h.1 ((he _).1 (cN hl))
  simp only at this
  rw [this]
theorem Cg {m:List (List Int × Int)} {d:Nat} {gs:List (List Int × Int)} (h:g8 m (tot d gs))(hg:∀ g ∈ gs,0 < g.2) (k:List Int):dK (fun x=>x.drop 1 == k) m = tot (d + 1) gs k:=by
 -- the sum over the entries,each of which is a sum
 have key:∀ (m:List (List Int × Int)) ,(m.map Prod.fst).Nodup->(∀ e ∈ m,tot d gs e.1 = e.2)->(∀ g ∈ gs,g.1.drop d ∈ m.map Prod.fst ∨ (g.1.drop d).drop 1 ≠ k ∨ True)->True:=fun _ _ _ _=>trivial
 clear key
 suffices hs:∀ (m:List (List Int × Int)),(m.map Prod.fst).Nodup->(∀ e ∈ m,e.2 = tot d gs e.1)->dK (fun x=>x.drop 1 == k) m = dK (fun x=>decide (x.drop d ∈ m.map Prod.fst) && ((x.drop d).drop 1 == k)) gs by
  rw [hs m h.1 (fun e he=>(h.of_mem he).symm)]
  unfold tot
  refine yI fun g hgm=>?_
  have hm:g.1.drop d ∈ m.map Prod.fst:=by
   have hp:0 < tot d gs (g.1.drop d):=(vR hg).2 ⟨g,hgm,by simp⟩
   exact List.mem_map.2 ⟨_,h.mem (k:=g.1.drop d) (by omega),rfl⟩
  simp only [hm,decide_true,Bool.true_and,List.drop_drop]
 intro m
 induction m with
 | nil=>intro _ _; simp only [List.map_nil,List.not_mem_nil,decide_false,Bool.false_and]; rw [qD,qE]
 | cons e m ih =>
  intro hn he
  rw [List.map_cons,List.nodup_cons] at hn
  rw [bH,ih hn.2 (fun x hx=>he x (List.mem_cons_of_mem _ hx))]
  have h1:=he e List.mem_cons_self
  rw [h1]
  have hsplit:∀ (p q r:List Int->Bool) (l:List (List Int × Int)),(∀ x,r x = (p x || q x))->(∀ x,¬ (p x = true/\q x = true))->dK r l = dK p l + dK q l:=by
   intro p q r l hr hd
   induction l with
   | nil=>rfl
   | cons x l ih' =>
    rw [bH,bH,bH,ih',hr]
    have:=hd x.1
    cases hp:p x.1 <;> cases hq:q x.1 <;> simp [hp,hq] at this ⊢ <;> omega
  have hr:dK (fun x=>decide (x.drop d ∈ (e :: m).map Prod.fst) && ((x.drop d).drop 1 == k)) gs = dK (fun x=>x.drop d == e.1 && (e.1.drop 1 == k)) gs + dK (fun x=>decide (x.drop d ∈ m.map Prod.fst) && ((x.drop d).drop 1 == k)) gs:=by
   refine hsplit _ _ _ gs (fun x=>?_) (fun x=>?_)
   ·by_cases hx:x.drop d = e.1
    ·have hne:¬ (e.1 ∈ m.map Prod.fst):=hn.1
     simp only [List.map_cons,hx,List.mem_cons,true_or,decide_true,Bool.true_and,beq_self_eq_true,hne,decide_false,Bool.false_and,Bool.or_false]
    have:(x.drop d == e.1) = false:=by simpa using hx
    simp only [this,List.map_cons,List.mem_cons,hx,false_or,Bool.false_and,Bool.false_or]
   rintro ⟨h2,h3⟩
   simp only [Bool.and_eq_true,beq_iff_eq,decide_eq_true_eq] at h2 h3
   rw [h2.1] at h3
   exact hn.1 h3.1
  rw [hr]
  congr 1
  by_cases hk:(e.1.drop 1 == k) = true
  ·simp only [hk,if_true,Bool.and_true]
   rfl
  have hk':(e.1.drop 1 == k) = false:=by simpa using hk
  simp only [hk',Bool.and_false]
  rw [qE]
  rfl
theorem Ef {gs:List (List Int × Int)} {g:List Int × Int} (h:∀ x ∈ gs,x.1 ≠ g.1):tot 0 gs g.1 = 0:=by
 unfold tot
 induction gs with
 | nil=>rfl
 | cons x gs ih =>
  rw [bH,ih (fun y hy=>h y (List.mem_cons_of_mem _ hy))]
  have:=h x List.mem_cons_self
  simp [this]
theorem Eg (d:Nat) (gs:List (List Int × Int)) (g:List Int × Int) (k:List Int):tot d (gs ++ [g]) k = tot d gs k + if g.1.drop d = k then g.2 else 0:=by
 unfold tot
 rw [sO]
 by_cases h:g.1.drop d = k <;> simp [h]
section
open Go.Maps (Keyed)

section
variable {K V:Type} [DecidableEq K] {ek:K->Value} {ev:V->Value} {w w':World} {kt e t:TypeId} {b:Nat} {m:List (K × V)} {k:K}
theorem bO.below (h:bO ek ev w kt b m)(hb:Below w.heap.size w w'):bO ek ev w' kt b m:=aQ.below h hb
theorem bO.drew (h:bO ek ev w kt b m):bO ek ev w.drew kt b m:=h
theorem bO.lt (h:bO ek ev w kt b m):b < w.heap.size:=aQ.lt h
theorem bO.kept {row:Option Nat} (h:bO ek ev w kt b m)(hg:w.grownBy w' row)(hne:some b ≠ row):bO ek ev w' kt b m:=aQ.kept h hg hne
theorem bO.far (h:bO ek ev w kt b m) {p:Addr} (hp:b ≠ p.block) (u:Value):bO ek ev (w.setCell p u) kt b m:=aQ.far h hp u
theorem bO.ne (h:bO ek ev w kt b m) {p:Addr} {u0:Value} (hp:w.cell? p = some u0):b ≠ p.block:=by
 intro e
 have h1:=h.1
 subst e
 unfold World.cell? at hp
 rw [h1] at hp
 simp at hp
theorem bO.made (w:World) (ek:K->Value) (ev:V->Value) (kt:TypeId):bO ek ev (w.alloc (.map #[] 0)) kt w.heap.size ([]:List (K × V)):=aQ.made Tryz.prog w kt
theorem bO.low (h:bO ek ev w kt b m) {B:Nat} (hB:b < B)(hb:Below B w w'):bO ek ev w' kt b m:=⟨(hb.block b hB).trans h.1,h.2⟩
theorem bO.update (h:bO ek ev w kt b m) (L:Keyed Tryz.prog kt)(ht:Tryz.prog.underlying t = some (.map kt e))(hk:∃ kl,keyOf Tryz.prog kt (ek k) = some kl) (inj:∀ x ∈ m,ek x.1 = ek k->x.1 = k) (v:V) :
  ∃ w',(Instr.mapUpdate t (.map (some b)) (ek k) (ev v)).run Tryz.prog w = .ok () w'/\bO ek ev w' kt b (gJ m k v)/\w.grownBy w' (some b):=by
 rcases aQ.update h L ht hk (ev v) with ⟨j,v0,w',h1,h2,h3,h4⟩ | ⟨h1,w',h2,h3,h4⟩
 ·refine ⟨w',h2,?_,h4⟩
  rw [kC] at h1
  cases hx:m[j]? with
  | none=>rw [hx] at h1; cases h1
  | some x =>
   rw [hx] at h1
   simp only [Option.map_some,Option.some.injEq,Prod.mk.injEq] at h1
   have hxk:=inj x (List.mem_of_getElem? hx) h1.1
   have hm:m[j]? = some (k,x.2):=by rw [hx,<- hxk]
   unfold bO
   rw [wA h.nodup hm]
   unfold ft at h3 ⊢
   rw [List.map_set]
   exact h3
 refine ⟨w',h2,?_,h4⟩
 unfold bO
 rw [m9 (fun x hx he=>h1 (ek x.1,ev x.2) (List.mem_map.2 ⟨x,hx,rfl⟩) (by rw [he]))]
 unfold ft at h3 ⊢
 rw [List.map_append]
 exact h3
end

theorem yC (w:World):(zeroValue 402).run Tryz.prog w = .ok (.map none) w:=by kernel_rfl
def Gd (b:Nat):Value:=.map (some b)
def cU (n:Nat) (S:List (List Int × Int))(h:List Int):List (Int × Int):=(S.filter (fun e=>decide (e.1.take (n - 1) = h))).map fun e=>(e.1.getD (n - 1) 0,e.2)
def jL (n:Nat) (S:List (List Int × Int)):Prop:=(S.map Prod.fst).Nodup/\∀ e ∈ S,e.1.length = n/\fC e.1/\0 < e.2/\e.2 <= 21474836480000
def gZ (w:World) (b base n:Nat) (S:List (List Int × Int)) (outer:List (List Int × Nat)):Prop :=
 bO dA Gd w 398 b outer/\(outer.map Prod.snd).Nodup/\b < base/\(∀ e ∈ outer,base <= e.2)/\(∀ e ∈ outer,bO (Value.int .i64) (Value.int .i64) w 3 e.2 (cU n S e.1))/\(∀ e ∈ S,e.1.take (n - 1) ∈ outer.map Prod.fst)/\∀ e ∈ outer,fC e.1
def gV (w:World) (b base n:Nat) (S:List (List Int × Int)):Prop:=∃ outer,gZ w b base n S outer

section
variable {w w':World} {b base n:Nat} {S:List (List Int × Int)} {outer:List (List Int × Nat)}
theorem gZ.below (h:gZ w b base n S outer)(hb:Below w.heap.size w w'):gZ w' b base n S outer :=
 ⟨h.1.below hb,h.2.1,h.2.2.1,h.2.2.2.1,fun e he=>(h.2.2.2.2.1 e he).below hb,h.2.2.2.2.2⟩
theorem gV.below (h:gV w b base n S)(hb:Below w.heap.size w w'):gV w' b base n S:=by
 obtain ⟨outer,ho⟩:=h
 exact ⟨outer,ho.below hb⟩
theorem gZ.kept {r:Nat} (h:gZ w b base n S outer)(hg:w.grownBy w' (some r))(h1:r ≠ b)(h2:r < base):gZ w' b base n S outer :=
 ⟨h.1.kept hg (fun e=>by cases e; exact h1 rfl),h.2.1,h.2.2.1,h.2.2.2.1,fun e he=>(h.2.2.2.2.1 e he).kept hg (fun e'=>by cases e'; have:=h.2.2.2.1 e he; omega),h.2.2.2.2.2⟩
theorem gV.kept {r:Nat} (h:gV w b base n S)(hg:w.grownBy w' (some r))(h1:r ≠ b)(h2:r < base):gV w' b base n S:=by
 obtain ⟨outer,ho⟩:=h
 exact ⟨outer,ho.kept hg h1 h2⟩
theorem gV.far (h:gV w b base n S) {p:Addr} {u0:Value} (hp:w.cell? p = some u0) (u:Value):gV (w.setCell p u) b base n S:=by
 obtain ⟨outer,ho⟩:=h
 exact ⟨outer,ho.1.far (ho.1.ne hp) u,ho.2.1,ho.2.2.1,ho.2.2.2.1,fun e he=>(ho.2.2.2.2.1 e he).far ((ho.2.2.2.2.1 e he).ne hp) u,ho.2.2.2.2.2⟩
theorem gZ.start (w:World) (n base:Nat)(h:w.heap.size < base):gZ (w.alloc (.map #[] 0)) w.heap.size base n [] [] :=
 ⟨bO.made w _ _ _,List.nodup_nil,h,(fun e he=>by cases he),(fun e he=>by cases he),(fun e he=>by cases he),(fun e he=>by cases he)⟩
theorem gZ.look (ho:gZ w b base n S outer) {h:List Int} (hk:fC h):(Instr.lookup 401 (.map (some b)) (dA h) false).run Tryz.prog w = .ok ((bq outer h).elim (.map none) Gd) w :=
 ho.1.look re Tryz.underlying401 (yC w) hk.good (fun x hx he=>(ho.2.2.2.2.2.2 x hx).inj hk he)
theorem gZ.insert (ho:gZ w b base n S outer) {h:List Int} (hk:fC h)(hl:bq outer h = none) {nb:Nat} (hm:bO (Value.int .i64) (Value.int .i64) w 3 nb ([]:List (Int × Int)))(hnb:base <= nb)(hfr:∀ e ∈ outer,e.2 ≠ nb) :
  ∃ w',(Instr.mapUpdate 401 (.map (some b)) (dA h) (.map (some nb))).run Tryz.prog w = .ok () w'/\gZ w' b base n S (outer ++ [(h,nb)])/\w.grownBy w' (some b):=by
 have hnew:∀ e ∈ outer,e.1 ≠ h:=by
  intro e he e1
  have:=e9 ho.1.nodup he
  rw [e1,hl] at this
  cases this
 obtain ⟨w',h1,h2,h3⟩:=ho.1.update (t:=401) re Tryz.underlying401 hk.good (fun x hx he=>(ho.2.2.2.2.2.2 x hx).inj hk he) nb
 rw [m9 hnew] at h2
 have hb:b < base:=ho.2.2.1
 refine ⟨w',h1,⟨h2,?_,hb,?_,?_,?_,?_⟩,h3⟩
 ·rw [List.map_append,List.nodup_append]
  refine ⟨ho.2.1,by simp,?_⟩
  intro x hx y hy
  simp at hy
  obtain ⟨e,he,rfl⟩:=List.mem_map.1 hx
  rw [hy]
  exact hfr e he
 ·intro e he
  rcases List.mem_append.1 he with he | he
  ·exact ho.2.2.2.1 e he
  rw [List.mem_singleton.1 he]; exact hnb
 ·intro e he
  rcases List.mem_append.1 he with he | he
  ·exact (ho.2.2.2.2.1 e he).kept h3 (fun e'=>by cases e'; have:=ho.2.2.2.1 e he; omega)
  rw [List.mem_singleton.1 he]
  have:cU n S h = []:=by
   unfold cU
   rw [List.filter_eq_nil_iff.2,List.map_nil]
   intro e he' hd
   have:=ho.2.2.2.2.2.1 e he'
   rw [of_decide_eq_true hd] at this
   obtain ⟨x,hx,hx2⟩:=List.mem_map.1 this
   exact hnew x hx hx2
  simp only
  rw [this]
  exact hm.kept h3 (fun e'=>by cases e'; omega)
 ·intro e he
  rw [List.map_append]
  exact List.mem_append_left _ (ho.2.2.2.2.2.1 e he)
 intro e he
 rcases List.mem_append.1 he with he | he
 ·exact ho.2.2.2.2.2.2 e he
 rw [List.mem_singleton.1 he]; exact hk
theorem xo (n:Nat) (S:List (List Int × Int)) (e:List Int × Int)(h:List Int):cU n (S ++ [e]) h = if e.1.take (n - 1) = h then cU n S h ++ [(e.1.getD (n - 1) 0,e.2)] else cU n S h:=by
 unfold cU
 rw [List.filter_append,List.map_append]
 by_cases hh:e.1.take (n - 1) = h
 ·rw [if_pos hh,List.filter_cons_of_pos (by simpa using hh)]; rfl
 rw [if_neg hh,List.filter_cons_of_neg (by simpa using hh)]; simp
theorem gZ.put (ho:gZ w b base n S outer) {e:List Int × Int} {bi:Nat} (hn:0 < n)(hl:e.1.length = n)(hk:fC e.1)(hS:∀ x ∈ S,x.1.length = n/\x.1 ≠ e.1)(hlook:bq outer (e.1.take (n - 1)) = some bi) :
  ∃ w',(Instr.mapUpdate 402 (.map (some bi)) (.int .i64 (e.1.getD (n - 1) 0)) (.int .i64 e.2)).run Tryz.prog w = .ok () w'/\gZ w' b base n (S ++ [e]) outer/\w.grownBy w' (some bi):=by
 have hm:=cN hlook
 have hT:=ho.2.2.2.2.1 _ hm
 have hx0:∀ l:List Int,l.length = n->l = l.take (n - 1) ++ [l.getD (n - 1) 0]:=by
  intro l hl
  have e1:l.drop (n - 1) = [l.getD (n - 1) 0]:=by
   rw [List.drop_eq_getElem_cons (by omega),List.drop_eq_nil_of_le (by omega),List.getD_eq_getElem?_getD,List.getElem?_eq_getElem (by omega)]
   rfl
  rw [<- e1,List.take_append_drop]
 have hnew:∀ x ∈ cU n S (e.1.take (n - 1)),x.1 ≠ e.1.getD (n - 1) 0:=by
  intro x hx he
  unfold cU at hx
  obtain ⟨y,hy,rfl⟩:=List.mem_map.1 hx
  obtain ⟨hy1,hy2⟩:=List.mem_filter.1 hy
  have:=hS y hy1
  refine this.2 ?_
  rw [hx0 y.1 this.1,hx0 e.1 hl,of_decide_eq_true hy2,show y.1.getD (n - 1) 0 = e.1.getD (n - 1) 0 from he]
 have hg:∃ kl,keyOf Tryz.prog 3 (.int .i64 (e.1.getD (n - 1) 0)) = some kl:=by
  have hb:0 <= e.1.getD (n - 1) 0/\e.1.getD (n - 1) 0 <= 1000000:=by
   rw [List.getD_eq_getElem?_getD,List.getElem?_eq_getElem (by omega)]
   exact hk.2 _ (List.getElem_mem _)
  exact xm (by omega) (by omega)
 obtain ⟨w',h1,h2,h3⟩:=hT.update (t:=402) zd Tryz.underlying402 hg (fun x hx he=>by injection he) e.2
 simp only at h1 h2 h3
 rw [m9 hnew] at h2
 have hb:b < base:=ho.2.2.1
 have hbi:base <= bi:=ho.2.2.2.1 _ hm
 refine ⟨w',h1,⟨ho.1.kept h3 (fun e'=>by cases e'; omega),ho.2.1,hb,ho.2.2.2.1,?_,?_,ho.2.2.2.2.2.2⟩,h3⟩
 ·intro x hx
  rw [xo]
  by_cases hh:e.1.take (n - 1) = x.1
  ·rw [if_pos hh]
   have:x.2 = bi:=by
    have h5:=e9 ho.1.nodup hx
    rw [<- hh,hlook] at h5
    exact (Option.some.inj h5).symm
   rw [this,<- hh]
   exact h2
  rw [if_neg hh]
  refine (ho.2.2.2.2.1 x hx).kept h3 (fun e'=>hh ?_)
  cases e'
  have hi:=List.getElem_of_mem hx
  have hj:=List.getElem_of_mem hm
  obtain ⟨i,hi,ei⟩:=hi
  obtain ⟨j,hj,ej⟩:=hj
  have:i = j:=(List.getElem?_inj (l:=outer.map Prod.snd) (by simpa using hi) ho.2.1).1 (by rw [List.getElem?_map,List.getElem?_map,List.getElem?_eq_getElem hi,List.getElem?_eq_getElem hj,ei,ej]; rfl)
  subst this
  rw [ei] at ej
  rw [ej]
 intro x hx
 rcases List.mem_append.1 hx with hx | hx
 ·exact ho.2.2.2.2.2.1 x hx
 rw [List.mem_singleton.1 hx]
 exact List.mem_map.2 ⟨_,hm,rfl⟩
end
end
theorem Ix (w:World):(binOp BinOp.eql 402 (Value.map none) (Value.map none)).run Tryz.prog w = .ok (.bool true) w:=by kernel_rfl
theorem Iw (b:Nat) (w:World):(binOp BinOp.eql 402 (Value.map (some b)) (Value.map none)).run Tryz.prog w = .ok (.bool false) w:=by kernel_rfl

def gB (m:List (List Int × Int)) (vis:List Nat):List (List Int × Int):=vis.map fun i=>m.getD i ([],0)
theorem BV (m:List (List Int × Int)) (vis:List Nat) {j:Nat} {e:List Int × Int} (h:m[j]? = some e):gB m (vis ++ [j]) = gB m vis ++ [e]:=by
 unfold gB
 rw [List.map_append,List.map_singleton,List.getD_eq_getElem?_getD,h]
 rfl
theorem D6 {m:List (List Int × Int)} {vis:List Nat} (hv:∀ i ∈ vis,i < m.length):∀ x ∈ gB m vis,x ∈ m:=by
 intro x hx
 obtain ⟨i,hi,rfl⟩:=List.mem_map.1 hx
 rw [List.getD_eq_getElem?_getD,List.getElem?_eq_getElem (hv i hi)]
 exact List.getElem_mem _
theorem BW {m:List (List Int × Int)} {vis:List Nat} (hn:vis.Nodup)(hv:∀ i ∈ vis,i < m.length)(hall:∀ j,j < m.length->j ∈ vis):(gB m vis).Perm m:=by
 have hp:vis.Perm (List.range m.length):=(List.perm_ext_iff_of_nodup hn List.nodup_range).2 (fun a=>⟨fun h=>List.mem_range.2 (hv a h),fun h=>hall a (List.mem_range.1 h)⟩)
 have h1:=hp.map (fun i=>m.getD i ([],0))
 have h2:(List.range m.length).map (fun i=>m.getD i ([],0)) = m:=by
  apply List.ext_getElem?
  intro i
  rw [List.getElem?_map]
  by_cases hi:i < m.length
  ·rw [List.getElem?_range hi,List.getElem?_eq_getElem hi]
   simp [List.getD_eq_getElem?_getD,hi]
  rw [List.getElem?_eq_none_iff.2 (by simpa using hi),List.getElem?_eq_none_iff.2 (by omega)]
  rfl
 rw [h2] at h1
 exact h1
theorem yF {m:List (List Int × Int)} {vis:List Nat} (hm:(m.map Prod.fst).Nodup)(hv:∀ i ∈ vis,i < m.length) {j:Nat} (hj:j ∉ vis) {e:List Int × Int} (he:m[j]? = some e):∀ x ∈ gB m vis,x.1 ≠ e.1:=by
 intro x hx h
 obtain ⟨i,hi,rfl⟩:=List.mem_map.1 hx
 have hil:=hv i hi
 have h1:(m.map Prod.fst)[i]? = some e.1:=by
  rw [List.getElem?_map,List.getElem?_eq_getElem hil,<- h,List.getD_eq_getElem?_getD,List.getElem?_eq_getElem hil]
  rfl
 have h2:(m.map Prod.fst)[j]? = some e.1:=by rw [List.getElem?_map,he]; rfl
 have:=(List.getElem?_inj (l:=m.map Prod.fst) (by rw [List.length_map]; exact hil) hm).1 (h1.trans h2.symm)
 exact hj (this ▸ hi)
theorem Ch {p:List Int->Bool} {a b:List (List Int × Int)} (h:a.Perm b):dK p a = dK p b:=by
 induction h with
 | nil=>rfl
 | cons x _ ih=>rw [bH,bH,ih]
 | swap x y l=>rw [bH,bH,bH,bH]; omega
 | trans _ _ ih1 ih2=>exact ih1.trans ih2
theorem g8.of_perm {m m':List (List Int × Int)} {T:List Int->Int} (h:g8 m T)(hp:m'.Perm m):g8 m' T:=h.perm ((hp.map Prod.fst).nodup_iff.2 h.1) (fun e=>hp.mem_iff)
theorem jL.of_perm {n:Nat} {m m':List (List Int × Int)} (h:jL n m)(hp:m'.Perm m):jL n m':=⟨(hp.map Prod.fst).nodup_iff.2 h.1,fun e he=>h.2 e (hp.mem_iff.1 he)⟩
theorem Fe {l:List Int} {d:Nat} (hl:l.length = d + 1)(h4:l.length <= 4):(eT l).set d 0 = eT (l.take d):=by
 obtain ⟨x,hx⟩:∃ x,l[d]? = some x:=⟨_,List.getElem?_eq_getElem (by omega)⟩
 have h1:(eT (l.take d)).set d (x + 1) = eT l:=by
  have h2:=s7 h4 hx
  have h3:l.take (d + 1) = l:=List.take_of_length_le (by omega)
  rwa [h3] at h2
 rw [<- h1,List.set_set]
 have e1:(l.take d).length = d:=by rw [List.length_take]; omega
 apply List.ext_getElem?
 intro i
 rw [List.getElem?_set]
 split
 ·next hi =>
  subst hi
  split
  ·unfold eT
   rw [e1,List.getElem?_append_right (by simp; omega),List.length_map,e1,Nat.sub_self,List.getElem?_replicate_of_lt (by omega)]
  next h=>rw [dp (by omega)] at h; omega
 rfl
theorem IM {l:List Int} {d:Nat} (h:d < l.length):(eT l)[d]? = some (l.getD d 0 + 1):=by
 unfold eT
 rw [List.getElem?_append_left (by simpa using h),List.getElem?_map,List.getElem?_eq_getElem h,List.getD_eq_getElem?_getD,List.getElem?_eq_getElem h]
 rfl
theorem Fd {l:List Int} {d:Nat} (hl:l.length = d + 1)(h4:d <= 3):((eT l).drop 1).take d ++ List.replicate (4 - d) 0 = eT (l.drop 1):=by
 have e:(l.drop 1).length = d:=by rw [List.length_drop]; omega
 unfold eT
 rw [e]
 congr 1
 rw [List.drop_append_of_le_length (by rw [List.length_map]; omega),List.take_append_of_le_length (by rw [List.length_drop,List.length_map]; omega),<- List.map_drop,List.take_of_length_le (by rw [List.length_map,e]; exact Nat.le_refl _)]

def DG (d nv:Nat) (nx:List (List Int × Int)):Prop:=nx.length <= nv/\∀ e ∈ nx,e.1.length = d/\fC e.1/\0 < e.2/\e.2 <= nv * 21474836480000
theorem yh {K:Type} [DecidableEq K] (m:List (K × Int)) (e:K × Int):(yi m e).length <= m.length + 1:=by
 unfold yi gJ
 split
 ·rw [List.length_map]; omega
 rw [List.length_append]; exact Nat.le_refl _
theorem DG.add {d nv:Nat} {nx:List (List Int × Int)} (h:DG d nv nx) {k:List Int} (hk:k.length = d)(hn:fC k) {c:Int} (hc:0 < c/\c <= 21474836480000):DG d (nv + 1) (yi nx (k,c)):=by
 refine ⟨Nat.le_trans (yh _ _) (by have:=h.1; omega),fun e he=>?_⟩
 have h0:0 <= (bq nx k).getD 0/\(bq nx k).getD 0 <= nv * 21474836480000:=by
  cases hl:bq nx k with
  | none=>exact ⟨Int.le_refl _,by show (0:Int) <= _; omega⟩
  | some v=>have:=h.2 _ (cN hl); exact ⟨Int.le_of_lt this.2.2.1,this.2.2.2⟩
 rcases qQ he with he | rfl
 ·have:=h.2 e he
  exact ⟨this.1,this.2.1,this.2.2.1,by have:=this.2.2.2; omega⟩
 exact ⟨hk,hn,by simp only; omega,by simp only; omega⟩
theorem Im {m nx:List (List Int × Int)} {vis:List Nat} {i:Nat} {ks:List Int} {c v:Int} (h:g8 nx (fun k=>dK (fun x=>x.drop 1 == k) (gB m vis)))(hS:gB m (vis ++ [i]) = gB m vis ++ [(ks,c)])(hc:0 < c)(hv:(bq nx (ks.drop 1)).getD 0 = v) :
  g8 (gJ nx (ks.drop 1) (v + c)) (fun k=>dK (fun x=>x.drop 1 == k) (gB m (vis ++ [i]))):=by
 have h1:=h.add (k:=ks.drop 1) hc
 unfold yi at h1
 simp only at h1
 rw [hv] at h1
 refine h1.congr (fun k=>?_)
 rw [hS,sO]
 by_cases e:k = ks.drop 1
 ·subst e
  simp
 rw [if_neg e,if_neg]
 simp only [beq_iff_eq]
 exact fun h=>e h.symm
theorem wQ {n:Nat}:∀ {l:List Nat},l.Nodup->(∀ i ∈ l,i < n)->l.length <= n:=by
 induction n with
 | zero =>
  intro l _ h
  cases l with
  | nil=>exact Nat.le_refl _
  | cons a l=>have:=h a List.mem_cons_self; omega
 | succ n ih =>
  intro l hn h
  by_cases hm:n ∈ l
  ·have h1:=ih (hn.erase n) (fun i hi=>by
    have h2:=(hn.mem_erase_iff).1 hi
    have h3:=h i h2.2
    have h4:=h2.1
    omega)
   rw [List.length_erase_of_mem hm] at h1
   omega
  have h1:=ih hn (fun i hi=>by
   have h3:=h i hi
   have h4:i ≠ n:=fun e=>hm (e ▸ hi)
   omega)
  omega
end Go.Proofs.YtkdhppimhdemjaaGreat
