/- Lemmas on the way: Ev16, Ev17. -/
import Derived.Test.YtdehimgccmbfkaaGreatT13
set_option linter.all false
set_option maxRecDepth 1000000
set_option maxHeartbeats 32000000
namespace Go.Proofs.YtdehimgccmbfkaaGreat
open Go.RowKit
section
def MB (M:Tr Nat) (i j:Nat):Prop:=∃ m,M.get i = some m/\m.testBit j = true

theorem maskOf_spec {M:Tr Nat} {i:Nat}:∀ (es:List Edge) (m0 m:Nat),es.foldlM (fun m e=>cond (Region.binds .any e) (cond (Nat.blt e.on i) ((M.get e.on).map fun x=>m ||| 2 ^ e.on ||| x) none) (some m)) m0 = some m ->
  (∀ e ∈ es,Region.binds .any e = true->e.on < i)/\∀ j,m.testBit j = true ↔ m0.testBit j = true ∨ ∃ e ∈ es,Region.binds .any e = true/\(j = e.on ∨ MB M e.on j)
 | [],m0,m,h=>by
  simp only [List.foldlM_nil,Option.pure_def,Option.some.injEq] at h
  subst h
  simp
 | e :: es,m0,m,h=>by
  rw [List.foldlM_cons] at h
  simp only [Option.bind_eq_bind,Option.bind_eq_some_iff] at h
  obtain ⟨m1,h1,h2⟩:=h
  obtain ⟨g1,g2⟩:=maskOf_spec es m1 m h2
  cases hb:Region.binds .any e with
  | false =>
   rw [hb] at h1
   cases h1
   refine ⟨fun e' he hb'=>?_,fun j=>?_⟩
   ·rcases List.mem_cons.1 he with rfl | he
    ·rw [hb] at hb'; cases hb'
    exact g1 e' he hb'
   rw [g2]
   constructor
   ·rintro (h | ⟨e',he,h⟩)
    ·exact .inl h
    exact .inr ⟨e',List.mem_cons_of_mem _ he,h⟩
   rintro (h | ⟨e',he,h⟩)
   ·exact .inl h
   rcases List.mem_cons.1 he with rfl | he
   ·rw [hb] at h; cases h.1
   exact .inr ⟨e',he,h⟩
  | true =>
   rw [hb] at h1
   simp only [cond_true] at h1
   obtain ⟨hlt,h1⟩:=cond_some h1
   rw [Nat.blt_eq] at hlt
   simp only [Option.map_eq_some_iff] at h1
   obtain ⟨x,hx,rfl⟩:=h1
   refine ⟨fun e' he hb'=>?_,fun j=>?_⟩
   ·rcases List.mem_cons.1 he with rfl | he
    ·exact hlt
    exact g1 e' he hb'
   rw [g2]
   have hbit:(m0 ||| 2 ^ e.on ||| x).testBit j = true ↔ m0.testBit j = true ∨ j = e.on ∨ x.testBit j = true:=by
    rw [Nat.testBit_or,Nat.testBit_or,Nat.testBit_two_pow]
    simp only [Bool.or_eq_true,decide_eq_true_eq]
    constructor
    ·rintro ((h | h) | h)
     ·exact .inl h
     ·exact .inr (.inl h.symm)
     exact .inr (.inr h)
    rintro (h | h | h)
    ·exact .inl (.inl h)
    ·exact .inl (.inr h.symm)
    exact .inr h
   rw [hbit]
   constructor
   ·rintro ((h | h | h) | ⟨e',he,h⟩)
    ·exact .inl h
    ·exact .inr ⟨e,List.mem_cons_self,hb,.inl h⟩
    ·exact .inr ⟨e,List.mem_cons_self,hb,.inr ⟨x,hx,h⟩⟩
    exact .inr ⟨e',List.mem_cons_of_mem _ he,h⟩
   rintro (h | ⟨e',he,h⟩)
   ·exact .inl (.inl h)
   rcases List.mem_cons.1 he with rfl | he
   ·rcases h.2 with h | ⟨x',hx',h⟩
    ·exact .inl (.inr (.inl h))
    rw [hx] at hx'; cases hx'; exact .inl (.inr (.inr h))
   exact .inr ⟨e',he,h⟩
theorem masks_keep:∀ (os:List Oper) (k:Nat) (M0 M:Tr Nat),masks os k M0 = some M->∀ j,j < k->M.get j = M0.get j
 | [],_,_,_,h,_,_=>by simp only [masks,Option.some.injEq] at h; rw [h]
 | o :: os,k,M0,M,h,j,hj=>by
  simp only [masks] at h
  split at h
  ·rw [masks_keep os (k + 1) _ M h j (by omega),Tr.get_set_ne _ _ (by omega)]
  cases h
theorem masks_spec:∀ (os:List Oper) (k:Nat) (M0 M:Tr Nat),masks os k M0 = some M->∀ i o,os[i]? = some o->M.get (k + i) ≠ none/\(∀ e ∈ o.after,Region.binds .any e = true->e.on < k + i) /\
  ∀ j,MB M (k + i) j ↔ ∃ e ∈ o.after,Region.binds .any e = true/\(j = e.on ∨ MB M e.on j)
 | [],_,_,_,_,i,o,ho=>by simp at ho
 | o1 :: os,k,M0,M,h,i,o,ho=>by
  simp only [masks] at h
  split at h
  ·next m hm =>
   cases i with
   | zero =>
    simp at ho
    subst ho
    have hk:=masks_keep os (k + 1) _ M h k (by omega)
    rw [Tr.get_set_same] at hk
    obtain ⟨g1,g2⟩:=maskOf_spec o1.after.toList 0 m hm
    simp only [Nat.add_zero]
    refine ⟨by rw [hk]; simp,fun e he hb=>g1 e (by simpa using he) hb,fun j=>?_⟩
    have e1:MB M k j ↔ m.testBit j = true:=⟨fun ⟨m',h1,h2⟩=>by rw [hk] at h1; cases h1; exact h2,fun h=>⟨m,hk,h⟩⟩
    rw [e1,g2]
    simp only [Nat.zero_testBit,Bool.false_eq_true,false_or]
    constructor
    ·rintro ⟨e,he,hb,h⟩
     refine ⟨e,by simpa using he,hb,?_⟩
     rcases h with h | ⟨x,hx,h⟩
     ·exact .inl h
     exact .inr ⟨x,by rw [masks_keep os (k + 1) _ M ‹_› _ (by have:=g1 e he hb; omega),Tr.get_set_ne _ _ (by have:=g1 e he hb; omega)]; exact hx,h⟩
    rintro ⟨e,he,hb,h⟩
    have he':e ∈ o1.after.toList:=by simpa using he
    refine ⟨e,he',hb,?_⟩
    rcases h with h | ⟨x,hx,h⟩
    ·exact .inl h
    rw [masks_keep os (k + 1) _ M ‹_› _ (by have:=g1 e he' hb; omega),Tr.get_set_ne _ _ (by have:=g1 e he' hb; omega)] at hx
    exact .inr ⟨x,hx,h⟩
   | succ i =>
    have:=masks_spec os (k + 1) _ M h i o (by simpa using ho)
    rw [show k + (i + 1) = k + 1 + i by omega]
    exact this
  cases h

structure Bits (L:List Oper) (M:Tr Nat):Prop where
 get:∀ i o,L[i]? = some o->M.get i ≠ none
 lt:∀ i o,L[i]? = some o->∀ e ∈ o.after,Region.binds .any e = true->e.on < i
 iff_:∀ i o,L[i]? = some o->∀ j,MB M i j ↔ ∃ e ∈ o.after,Region.binds .any e = true/\(j = e.on ∨ MB M e.on j)
theorem bits_of {L:List Oper} {M:Tr Nat} (h:masks L 0 .nil = some M):Bits L M :=
 ⟨fun i o ho=>by have:=(masks_spec L 0 _ M h i o ho).1; simpa using this,
  fun i o ho=>by have:=(masks_spec L 0 _ M h i o ho).2.1; simpa using this,
  fun i o ho=>by have:=(masks_spec L 0 _ M h i o ho).2.2; simpa using this⟩
section
variable {L:List Oper} {M:Tr Nat}
theorem Bits.below (B:Bits L M):∀ i,(∃ o,L[i]? = some o)->∀ j,MB M i j->j < i:=by
 intro i
 induction i using Nat.strongRecOn with
 | _ i ih =>
  rintro ⟨o,ho⟩ j h
  obtain ⟨e,he,hb,h⟩:=(B.iff_ i o ho j).1 h
  have hlt:=B.lt i o ho e he hb
  rcases h with rfl | h
  ·exact hlt
  have hi:=(List.getElem?_eq_some_iff.1 ho).1
  have:=ih e.on hlt ⟨_,List.getElem?_eq_getElem (by omega)⟩ j h
  omega
theorem Bits.trans (B:Bits L M):∀ i,(∃ o,L[i]? = some o)->∀ j k,MB M i j->MB M j k->MB M i k:=by
 intro i
 induction i using Nat.strongRecOn with
 | _ i ih =>
  rintro ⟨o,ho⟩ j k h h'
  obtain ⟨e,he,hb,h⟩:=(B.iff_ i o ho j).1 h
  have hlt:=B.lt i o ho e he hb
  refine (B.iff_ i o ho k).2 ⟨e,he,hb,.inr ?_⟩
  rcases h with rfl | h
  ·exact h'
  have hi:=(List.getElem?_eq_some_iff.1 ho).1
  exact ih e.on hlt ⟨_,List.getElem?_eq_getElem (by omega)⟩ j k h h'
theorem efs_head:∀ (os:List Oper) (k h:Nat) (l:List Nat),efsOf os k = h :: l->∃ i o,os[i]? = some o/\isEf o = true/\h = k + i/\∀ j o',os[j]? = some o'->isEf o' = true->i <= j
 | [],_,_,_,e=>by simp [efsOf] at e
 | o :: os,k,h,l,e=>by
  simp only [efsOf] at e
  cases hb:isEf o with
  | true =>
   rw [hb] at e
   simp only [cond_true,List.cons.injEq] at e
   exact ⟨0,o,rfl,hb,by rw [<- e.1,Nat.add_zero],fun _ _ _ _=>Nat.zero_le _⟩
  | false =>
   rw [hb] at e
   obtain ⟨i,o',h1,h2,h3,h4⟩:=efs_head os (k + 1) h l e
   refine ⟨i + 1,o',by simpa using h1,h2,by omega,fun j oj hj hej=>?_⟩
   cases j with
   | zero=>simp at hj; subst hj; rw [hb] at hej; cases hej
   | succ j=>have:=h4 j oj (by simpa using hj) hej; omega
theorem efs_nil:∀ (os:List Oper) (k:Nat),efsOf os k = []->∀ (i:Nat) (o:Oper),os[i]? = some o->isEf o = false
 | [],_,_,i,o,ho=>by simp at ho
 | o1 :: os,k,e,i,o,ho=>by
  simp only [efsOf] at e
  cases hb:isEf o1 with
  | true=>rw [hb] at e; cases e
  | false =>
   rw [hb] at e
   cases i with
   | zero=>simp at ho; subst ho; exact hb
   | succ i=>exact efs_nil os (k + 1) e i o (by simpa using ho)
theorem chain_spec (B:Bits L M):∀ (os:List Oper) (k:Nat),(∀ i o,os[i]? = some o->∃ o',L[k + i]? = some o')->chainOk M (efsOf os k) = true->∀ i j oi oj,os[i]? = some oi->os[j]? = some oj->isEf oi = true->isEf oj = true->i < j->MB M (k + j) (k + i)
 | [],_,_,_,i,_,_,_,hi,_,_,_,_=>by simp at hi
 | o :: os,k,hL,h,i,j,oi,oj,hi,hj,hei,hej,hlt=>by
  have hL':∀ i o,os[i]? = some o->∃ o',L[k + 1 + i]? = some o':=fun i o ho=>by
   have:=hL (i + 1) o (by simpa using ho)
   rw [show k + (i + 1) = k + 1 + i by omega] at this
   exact this
  have htail:chainOk M (efsOf os (k + 1)) = true:=by
   simp only [efsOf] at h
   cases hb:isEf o with
   | false=>rw [hb] at h; exact h
   | true =>
    rw [hb] at h
    simp only [cond_true] at h
    cases hc:efsOf os (k + 1) with
    | nil=>rfl
    | cons a l =>
     rw [hc] at h
     simp only [chainOk,Bool.and_eq_true] at h
     exact h.2
  cases j with
  | zero=>omega
  | succ j =>
   have hj':os[j]? = some oj:=by simpa using hj
   cases i with
   | succ i =>
    have:=chain_spec B os (k + 1) hL' htail i j oi oj (by simpa using hi) hj' hei hej (by omega)
    rw [show k + (j + 1) = k + 1 + j by omega,show k + (i + 1) = k + 1 + i by omega]
    exact this
   | zero =>
    simp at hi
    subst hi
    simp only [efsOf,hei,cond_true] at h
    cases hc:efsOf os (k + 1) with
    | nil=>have:=efs_nil os (k + 1) hc j oj hj'; rw [hej] at this; cases this
    | cons a l =>
     rw [hc] at h
     simp only [chainOk,Bool.and_eq_true] at h
     obtain ⟨i0,o0,g1,g2,g3,g4⟩:=efs_head os (k + 1) a l hc
     have hak:MB M a k:=by
      have h1:=h.1
      cases hm:M.get a with
      | none=>rw [hm] at h1; cases h1
      | some m=>rw [hm] at h1; exact ⟨m,hm,h1⟩
     have:=g4 j oj hj' hej
     simp only [Nat.add_zero]
     rcases Nat.lt_or_ge i0 j with hlt2 | hge
     ·have h2:=chain_spec B os (k + 1) hL' htail i0 j o0 oj g1 hj' g2 hej hlt2
      rw [show k + (j + 1) = k + 1 + j by omega]
      refine B.trans _ (hL' j oj hj') _ _ h2 ?_
      rw [<- g3]
      exact hak
     have:i0 = j:=by omega
     subst this
     rw [show k + (i0 + 1) = k + 1 + i0 by omega,<- g3]
     exact hak
theorem dsts_mem:∀ (os:List Oper) (k i:Nat) (t:Tmp),(i,t) ∈ dstsOf os k ↔ ∃ j o,i = k + j/\os[j]? = some o/\o.dst = some t
 | [],k,i,t=>by simp [dstsOf]
 | o :: os,k,i,t=>by
  have ih:=dsts_mem os (k + 1) i t
  have key:(∃ j o',i = k + j/\(o :: os)[j]? = some o'/\o'.dst = some t) ↔ (i = k/\o.dst = some t) ∨ ∃ j o',i = k + 1 + j/\os[j]? = some o'/\o'.dst = some t:=by
   constructor
   ·rintro ⟨j,o',h1,h2,h3⟩
    cases j with
    | zero=>simp at h2; subst h2; exact .inl ⟨by omega,h3⟩
    | succ j=>exact .inr ⟨j,o',by omega,by simpa using h2,h3⟩
   rintro (⟨h1,h2⟩ | ⟨j,o',h1,h2,h3⟩)
   ·exact ⟨0,o,by omega,rfl,h2⟩
   exact ⟨j + 1,o',by omega,by simpa using h2,h3⟩
  rw [key,<- ih]
  simp only [dstsOf]
  split
  ·next t' ht =>
   rw [List.mem_cons,Prod.mk.injEq,ht]
   constructor
   ·rintro (⟨h1,h2⟩ | h)
    ·exact .inl ⟨h1,by rw [h2]⟩
    exact .inr h
   rintro (⟨h1,h2⟩ | h)
   ·cases h2; exact .inl ⟨h1,rfl⟩
   exact .inr h
  next ht=>rw [ht]; simp
theorem opsOk_spec (all:List Oper) (D:List (Nat × Tmp)):∀ (os:List Oper) (k:Nat),opsOk all M D os k = true->∀ i o,os[i]? = some o->opOk all M D (k + i) o = true
 | [],_,_,i,o,ho=>by simp at ho
 | o1 :: os,k,h,i,o,ho=>by
  simp only [opsOk,Bool.and_eq_true] at h
  cases i with
  | zero=>simp at ho; subst ho; exact h.1
  | succ i=>rw [show k + (i + 1) = k + 1 + i by omega]; exact opsOk_spec all D os (k + 1) h.2 i o (by simpa using ho)

structure Stat (L:List Oper) (M:Tr Nat):Prop where
 bits:Bits L M
 chain:∀ (i j:Nat) (oi oj:Oper),L[i]? = some oi->L[j]? = some oj->isEf oi = true->isEf oj = true->i < j->MB M j i
 look:∀ (i j:Nat) (oi oj:Oper) (t:Tmp),L[i]? = some oi->L[j]? = some oj->oj.dst = some t->t ∈ looks L oi->MB M i j ∨ MB M j i
 one:∀ (i j:Nat) (oi oj:Oper) (t:Tmp),L[i]? = some oi->L[j]? = some oj->oi.dst = some t->oj.dst = some t->j = i
theorem static_spec (h:staticOk L = some M):Stat L M:=by
 unfold staticOk at h
 split at h
 ·next M' hM =>
  obtain ⟨hc,h⟩:=cond_some h
  cases h
  simp only [Bool.and_eq_true] at hc
  have B:=bits_of hM
  have ho:=opsOk_spec (M:=M) L (dstsOf L 0) L 0 hc.2
  refine ⟨B,fun i j oi oj hi hj hei hej hlt=>?_,fun i j oi oj t hi hj hd ht=>?_,fun i j oi oj t hi hj hdi hdj=>?_⟩
  ·have:=chain_spec B L 0 (fun i o ho=>⟨o,by simpa using ho⟩) hc.1 i j oi oj hi hj hei hej hlt
   simpa using this
  ·have h1:=ho i oi hi
   simp only [Nat.zero_add,opOk] at h1
   split at h1
   ·next m hm =>
    rw [List.all_eq_true] at h1
    have h2:=h1 (j,t) ((dsts_mem L 0 j t).2 ⟨j,oj,by simp,hj,hd⟩)
    simp only [Bool.and_eq_true,Bool.or_eq_true,Bool.not_eq_true',List.contains_eq_mem,decide_eq_false_iff_not] at h2
    rcases h2.1 with (h2 | h2) | h2
    ·exact absurd ht h2
    ·exact .inl ⟨m,hm,h2⟩
    split at h2
    ·next m' hm'=>exact .inr ⟨m',hm',h2⟩
    cases h2
   cases h1
  have h1:=ho i oi hi
  simp only [Nat.zero_add,opOk] at h1
  split at h1
  ·next m hm =>
   rw [List.all_eq_true] at h1
   have h2:=h1 (j,t) ((dsts_mem L 0 j t).2 ⟨j,oj,by simp,hj,hdj⟩)
   simp only [Bool.and_eq_true,Bool.or_eq_true,Bool.not_eq_true',hdi,beq_self_eq_true,Bool.true_eq_false,false_or,beq_iff_eq] at h2
   exact h2.2
  cases h1
 cases h
end
end
section
structure Run (P:Program) (X:Env) (E:Ev) (nt:Nat) (all L:List Oper) (V:Nat->Option AV) (TT:Nat->Tr AV) (SS:Nat->St):Prop where
 step:∀ i o,L[i]? = some o->(∃ v,V i = some v/\wantA all (TT i) o = some true/\opA P X E (opd (TT i)) (SS i) o.op = some (v,SS (i + 1))/\putV (TT i) nt o.dst v = some (TT (i + 1))) ∨
  (V i = none/\wantA all (TT i) o = some false/\SS (i + 1) = SS i/\putV (TT i) nt o.dst (.tup []) = some (TT (i + 1)))
def Run.shape (L:List Oper) (V:Nat->Option AV) (TT:Nat->Tr AV) (SS:Nat->St):List (Option AV × Tr AV × St):=(List.range L.length).map fun i=>(V i,TT i,SS i)
theorem shape_cons (o:Oper) (L:List Oper) (V:Nat->Option AV) (TT:Nat->Tr AV) (SS:Nat->St):Run.shape (o :: L) V TT SS = (V 0,TT 0,SS 0) :: Run.shape L (fun i=>V (i + 1)) (fun i=>TT (i + 1)) (fun i=>SS (i + 1)):=by
 unfold Run.shape
 rw [List.length_cons,List.range_succ_eq_map,List.map_cons,List.map_map]
 rfl
theorem trace_run {P:Program} {X:Env} {E:Ev} {nt:Nat} {all:List Oper}:∀ (os:List Oper) (T:Tr AV) (s:St) {tr:List (Option AV × Tr AV × St)} {T':Tr AV} {s':St},trace P X E nt all os T s = some (tr,T',s') ->
  ∃ V TT SS,TT 0 = T/\SS 0 = s/\TT os.length = T'/\SS os.length = s'/\tr = Run.shape os V TT SS/\Run P X E nt all os V TT SS
 | [],T,s,tr,T',s',h=>by
  simp only [trace,Option.some.injEq,Prod.mk.injEq] at h
  obtain ⟨rfl,rfl,rfl⟩:=h
  exact ⟨fun _=>none,fun _=>T,fun _=>s,rfl,rfl,rfl,rfl,rfl,⟨fun i o ho=>by simp at ho⟩⟩
 | o :: os,T,s,tr,T',s',h=>by
  have glue:∀ (v0:Option AV) (T1:Tr AV) (s1:St) {tr1:List (Option AV × Tr AV × St)},trace P X E nt all os T1 s1 = some (tr1,T',s')->tr = (v0,T,s) :: tr1 ->
    ((∃ v,v0 = some v/\wantA all T o = some true/\opA P X E (opd T) s o.op = some (v,s1)/\putV T nt o.dst v = some T1) ∨ (v0 = none/\wantA all T o = some false/\s1 = s/\putV T nt o.dst (.tup []) = some T1)) ->
    ∃ V TT SS,TT 0 = T/\SS 0 = s/\TT (o :: os).length = T'/\SS (o :: os).length = s'/\tr = Run.shape (o :: os) V TT SS/\Run P X E nt all (o :: os) V TT SS:=by
   intro v0 T1 s1 tr1 h1 htr hst
   obtain ⟨V,TT,SS,g1,g2,g3,g4,g5,g6⟩:=trace_run os T1 s1 h1
   refine ⟨fun i=>match i with | 0=>v0 | i + 1=>V i,fun i=>match i with | 0=>T | i + 1=>TT i,fun i=>match i with | 0=>s | i + 1=>SS i,rfl,rfl,g3,g4,?_,⟨fun i oi hi=>?_⟩⟩
   ·rw [shape_cons,htr,g5]
   cases i with
   | zero=>simp at hi; subst hi; simp only [g1,g2]; exact hst
   | succ i=>exact g6.step i oi (by simpa using hi)
  simp only [trace] at h
  split at h
  ·next hw =>
   split at h
   ·next v s1 hop =>
    split at h
    ·next T1 hput =>
     split at h
     ·next l r htr =>
      obtain ⟨Tr1,s2⟩:=r
      simp only [Option.some.injEq,Prod.mk.injEq] at h
      obtain ⟨rfl,rfl,rfl⟩:=h
      exact glue (some v) T1 s1 htr rfl (.inl ⟨v,rfl,hw,hop,hput⟩)
     cases h
    cases h
   cases h
  ·next hw =>
   split at h
   ·next T1 hput =>
    split at h
    ·next l r htr =>
     obtain ⟨Tr1,s2⟩:=r
     simp only [Option.some.injEq,Prod.mk.injEq] at h
     obtain ⟨rfl,rfl,rfl⟩:=h
     exact glue none T1 s htr rfl (.inr ⟨rfl,hw,rfl,hput⟩)
    cases h
   cases h
  cases h

def xv (V:Nat->Option AV) (i:Nat):AV:=(V i).getD (.tup [])

section
variable {P:Program} {X:Env} {E:Ev} {nt:Nat} {L:List Oper} {V:Nat->Option AV} {TT:Nat->Tr AV} {SS:Nat->St} {M:Tr Nat}

theorem Run.put (R:Run P X E nt L L V TT SS) {i:Nat} {o:Oper} (ho:L[i]? = some o):putV (TT i) nt o.dst (xv V i) = some (TT (i + 1)):=by
 rcases R.step i o ho with ⟨v,h1,_,_,h2⟩ | ⟨h1,_,_,h2⟩
 ·unfold xv; rw [h1]; exact h2
 unfold xv; rw [h1]; exact h2
theorem Run.grows (S:Sound P E) (R:Run P X E nt L L V TT SS) {i:Nat} {o:Oper} (ho:L[i]? = some o):Grows (SS i) (SS (i + 1)):=by
 rcases R.step i o ho with ⟨v,_,_,h,_⟩ | ⟨_,_,h,_⟩
 ·exact opA_grows S h
 rw [h]; exact Grows.refl _
theorem Run.grows_to (S:Sound P E) (R:Run P X E nt L L V TT SS) {i:Nat}:∀ {j:Nat},i <= j->j <= L.length->Grows (SS i) (SS j):=by
 intro j hij
 induction j with
 | zero=>intro _; rw [show i = 0 by omega]; exact Grows.refl _
 | succ j ih =>
  intro hj
  rcases Nat.lt_or_ge j i with h | h
  ·rw [show i = j + 1 by omega]; exact Grows.refl _
  exact (ih h (by omega)).trans (R.grows S (List.getElem?_eq_getElem (by omega)))
theorem Run.T_old (R:Run P X E nt L L V TT SS) {t:Tmp}:∀ {i:Nat},i <= L.length->(∀ j o,j < i->L[j]? = some o->o.dst ≠ some t)->(TT i).get t = (TT 0).get t:=by
 intro i
 induction i with
 | zero=>intro _ _; rfl
 | succ i ih =>
  intro hi hno
  have ho:L[i]? = some L[i]:=List.getElem?_eq_getElem (by omega)
  have hp:=R.put ho
  have:=hno i _ (Nat.lt_succ_self i) ho
  rw [<- ih (by omega) fun j o hj ho=>hno j o (by omega) ho]
  cases hd:L[i].dst with
  | none=>rw [hd] at hp; simp only [putV,Option.some.injEq] at hp; rw [hp]
  | some d =>
   rw [hd] at hp
   obtain ⟨_,hp⟩:=cond_some hp
   rw [<- Option.some.inj hp]
   exact Tr.get_set_ne _ _ (fun e=>by subst e; exact this hd)
theorem Run.T_new (R:Run P X E nt L L V TT SS)(hS:Stat L M) {t:Tmp} {j:Nat} {o:Oper} (ho:L[j]? = some o)(hd:o.dst = some t):∀ {i:Nat},j < i->i <= L.length->(TT i).get t = some (xv V j)/\t < nt:=by
 intro i hji
 induction i with
 | zero=>omega
 | succ i ih =>
  intro hi
  have hoi:L[i]? = some L[i]:=List.getElem?_eq_getElem (by omega)
  have hp:=R.put hoi
  rcases Nat.lt_or_ge j i with h | h
  ·obtain ⟨g1,g2⟩:=ih h (by omega)
   refine ⟨?_,g2⟩
   rw [<- g1]
   cases hdi:L[i].dst with
   | none=>rw [hdi] at hp; simp only [putV,Option.some.injEq] at hp; rw [hp]
   | some d =>
    rw [hdi] at hp
    obtain ⟨_,hp⟩:=cond_some hp
    rw [<- Option.some.inj hp]
    exact Tr.get_set_ne _ _ (fun e=>by subst e; have:=hS.one j i o _ t ho hoi hd hdi; omega)
  have:j = i:=by omega
  subst this
  rw [hoi] at ho
  cases ho
  rw [hd] at hp
  obtain ⟨hlt,hp⟩:=cond_some hp
  rw [<- Option.some.inj hp]
  exact ⟨Tr.get_set_same _ _ _,by simpa using hlt⟩

def Makes (L:List Oper) (V:Nat->Option AV) (i:Nat):Prop:=∃ o v,L[i]? = some o/\V i = some v/\(match kindA o.op with | .al=>True | _=>False)
theorem Run.makes (R:Run P X E nt L L V TT SS) {i:Nat} (h:Makes L V i):∃ o ob f,L[i]? = some o/\alA P (opd (TT i)) o.op = some (ob,f)/\V i = some (f (SS i).nx)/\SS (i + 1) = (SS i).new ob/\wantA L (TT i) o = some true:=by
 obtain ⟨o,v,ho,hv,hk⟩:=h
 rcases R.step i o ho with ⟨v',h1,hw,h2,_⟩ | ⟨h1,_⟩
 ·unfold opA at h2
  split at h2
  ·next e=>rw [e] at hk; exact hk.elim
  ·simp only [Option.map_eq_some_iff,Prod.mk.injEq] at h2
   obtain ⟨⟨ob,f⟩,h3,h4,h5⟩:=h2
   exact ⟨o,ob,f,ho,h3,by rw [h1,<- h4],h5.symm,hw⟩
  next e=>rw [e] at hk; exact hk.elim
 rw [h1] at hv; cases hv
def OV (L:List Oper) (V:Nat->Option AV) (TT:Nat->Tr AV) (SS:Nat->St) (f:Nat):Tr AO :=
 overlay (SS L.length) (SS f).h (L.drop f) ((Run.shape L V TT SS).drop f)
theorem shape_drop {f:Nat} {o:Oper} (ho:L[f]? = some o):L.drop f = o :: L.drop (f + 1)/\(Run.shape L V TT SS).drop f = (V f,TT f,SS f) :: (Run.shape L V TT SS).drop (f + 1):=by
 have hf:=(List.getElem?_eq_some_iff.1 ho).1
 refine ⟨?_,?_⟩
 ·rw [List.drop_eq_getElem_cons hf]
  congr 1
  exact (List.getElem?_eq_some_iff.1 ho).2
 have hl:f < (Run.shape L V TT SS).length:=by simp [Run.shape,hf]
 rw [List.drop_eq_getElem_cons hl]
 congr 1
 simp [Run.shape]
theorem overlay_get (h0:Tr AO) (R:Run P X E nt L L V TT SS) (S:Sound P E):∀ (k f:Nat)(h:Tr AO),f + k = L.length ->
  (∀ j,f <= j->Makes L V j->(overlay (SS L.length) h (L.drop f) ((Run.shape L V TT SS).drop f)).get (SS j).nx = (SS (j + 1)).h.get (SS j).nx) /\
  (∀ id,(∀ j,f <= j->Makes L V j->(SS j).nx ≠ id)->(overlay (SS L.length) h (L.drop f) ((Run.shape L V TT SS).drop f)).get id = h.get id)
 | 0,f,h,hf=>by
  have e:L.drop f = []:=List.drop_eq_nil_of_le (by omega)
  refine ⟨fun j hj hm=>?_,fun id _=>?_⟩
  ·obtain ⟨o,_,ho,_⟩:=hm
   have:=(List.getElem?_eq_some_iff.1 ho).1
   omega
  rw [e]; simp [overlay]
 | k + 1,f,h,hf=>by
  have ho:L[f]? = some L[f]:=List.getElem?_eq_getElem (by omega)
  obtain ⟨e1,e2⟩:=shape_drop (V:=V) (TT:=TT) (SS:=SS) ho
  have ih:=fun h=>overlay_get h0 R S k (f + 1) h (by omega)
  have hnext:∀ j,f + 1 <= j->j < L.length->(SS (f + 1)).nx <= (SS j).nx:=fun j hj hjl=>(R.grows_to S hj (by omega)).1
  have step:∀ (h:Tr AO),Makes L V f->overlay (SS L.length) h (L.drop f) ((Run.shape L V TT SS).drop f) = overlay (SS L.length) (h.set (SS f).nx ((SS (f + 1)).h.get (SS f).nx)) (L.drop (f + 1)) ((Run.shape L V TT SS).drop (f + 1)):=by
   intro h ⟨o,v,ho',hv,hk⟩
   rw [ho] at ho'
   cases ho'
   rw [e1,e2,hv]
   have hk':kindA L[f].op = .al:=by
    cases hkk:kindA L[f].op <;> rw [hkk] at hk <;> first | exact hk.elim | rfl
   rcases Nat.lt_or_ge (f + 1) L.length with hlt | hge
   ·have ho2:L[f + 1]? = some L[f + 1]:=List.getElem?_eq_getElem hlt
    obtain ⟨_,e4⟩:=shape_drop (V:=V) (TT:=TT) (SS:=SS) ho2
    rw [e4]
    simp only [overlay,hk']
   have e5:(Run.shape L V TT SS).drop (f + 1) = []:=List.drop_eq_nil_of_le (by simp [Run.shape]; omega)
   have e6:L.length = f + 1:=by omega
   rw [e5]
   simp only [overlay,hk',e6]
  have skip:∀ (h:Tr AO),¬ Makes L V f->overlay (SS L.length) h (L.drop f) ((Run.shape L V TT SS).drop f) = overlay (SS L.length) h (L.drop (f + 1)) ((Run.shape L V TT SS).drop (f + 1)):=by
   intro h hm
   rw [e1,e2]
   cases hv:V f with
   | none=>simp only [overlay]
   | some v =>
    cases hk:kindA L[f].op with
    | al=>exact absurd ⟨_,v,ho,hv,by rw [hk]; trivial⟩ hm
    | rd=>simp only [overlay,hk]
    | ef=>simp only [overlay,hk]
  by_cases hm:Makes L V f
  ·rw [step h hm]
   obtain ⟨i1,i2⟩:=ih (h.set (SS f).nx ((SS (f + 1)).h.get (SS f).nx))
   obtain ⟨o,ob,ff,_,_,_,hnew,_⟩:=R.makes hm
   have hnx:(SS (f + 1)).nx = (SS f).nx + 1:=by rw [hnew]; rfl
   refine ⟨fun j hj hmj=>?_,fun id hid=>?_⟩
   ·rcases Nat.lt_or_ge f j with hlt | hge
    ·exact i1 j hlt hmj
    have:j = f:=by omega
    subst this
    rw [i2 _ (fun j' hj' hmj' e=>?_),Tr.get_set_same]
    obtain ⟨o',_,ho',_⟩:=hmj'
    have:=hnext j' hj' (List.getElem?_eq_some_iff.1 ho').1
    omega
   rw [i2 id (fun j hj hmj=>hid j (by omega) hmj),Tr.get_set_ne _ _ (fun e=>hid f (Nat.le_refl _) hm e.symm)]
  rw [skip h hm]
  obtain ⟨i1,i2⟩:=ih h
  refine ⟨fun j hj hmj=>?_,fun id hid=>i2 id fun j hj hmj=>hid j (by omega) hmj⟩
  rcases Nat.lt_or_ge f j with hlt | hge
  ·exact i1 j hlt hmj
  have:j = f:=by omega
  subst this
  exact absurd hmj hm
theorem OV_new (R:Run P X E nt L L V TT SS) (S:Sound P E) {f j:Nat} (hf:f <= L.length)(hj:f <= j)(hm:Makes L V j):(OV L V TT SS f).get (SS j).nx = (SS (j + 1)).h.get (SS j).nx :=
 (overlay_get .nil R S (L.length - f) f (SS f).h (by omega)).1 j hj hm
theorem OV_old (R:Run P X E nt L L V TT SS) (S:Sound P E) {f id:Nat} (hf:f <= L.length)(h:∀ j,f <= j->Makes L V j->(SS j).nx ≠ id):(OV L V TT SS f).get id = (SS f).h.get id :=
 (overlay_get .nil R S (L.length - f) f (SS f).h (by omega)).2 id h
theorem OV_end:OV L V TT SS L.length = (SS L.length).h:=by
 unfold OV
 rw [List.drop_eq_nil_of_le (Nat.le_refl _)]
 simp [overlay]
theorem OV_step (R:Run P X E nt L L V TT SS) {f:Nat} {o:Oper} (ho:L[f]? = some o)(h:isEf o = false ∨ V f = none):OV L V TT SS f = OV L V TT SS (f + 1):=by
 obtain ⟨e1,e2⟩:=shape_drop (V:=V) (TT:=TT) (SS:=SS) ho
 unfold OV
 rcases R.step f o ho with ⟨v,hv,_,hop,_⟩ | ⟨hv,_,hs,_⟩
 ·have hne:isEf o = false:=by
   rcases h with h | h
   ·exact h
   rw [hv] at h; cases h
  rw [e1,e2,hv]
  unfold opA at hop
  split at hop
  ·next hk =>
   simp only [Option.map_eq_some_iff,Prod.mk.injEq] at hop
   obtain ⟨_,_,_,h5⟩:=hop
   simp only [overlay,hk]
   rw [h5]
  ·next hk =>
   simp only [Option.map_eq_some_iff,Prod.mk.injEq] at hop
   obtain ⟨⟨ob,ff⟩,_,_,h5⟩:=hop
   have hget:(SS (f + 1)).h.get (SS f).nx = some ob:=by rw [<- h5]; exact Tr.get_set_same _ _ _
   have hset:(SS f).h.set (SS f).nx (some ob) = (SS (f + 1)).h:=by rw [<- h5]; rfl
   have hf:=(List.getElem?_eq_some_iff.1 ho).1
   rcases Nat.lt_or_ge (f + 1) L.length with hlt | hge
   ·obtain ⟨_,e4⟩:=shape_drop (V:=V) (TT:=TT) (SS:=SS) (List.getElem?_eq_getElem hlt:L[f + 1]? = some L[f + 1])
    rw [e4]
    simp only [overlay,hk,hget,hset]
   have e5:(Run.shape L V TT SS).drop (f + 1) = []:=List.drop_eq_nil_of_le (by simp [Run.shape]; omega)
   have e6:L.length = f + 1:=by omega
   rw [e5]
   simp only [overlay,hk,e6,hget,hset]
  next hk=>unfold isEf at hne; rw [hk] at hne; cases hne
 rw [e1,e2,hv,hs]
 simp only [overlay]

theorem epochs_spec (M:Tr Nat):∀ (k f prev:Nat),f + k = L.length->∀ q,f <= q->q <= L.length->(q = L.length ∨ ∃ o,L[q]? = some o/\isEf o = true) ->
  ∃ p,(p,q,(⟨if q = L.length then (SS L.length).h else OV L V TT SS q,(SS L.length).nx⟩:St)) ∈ epochs M (SS L.length) prev (L.drop f) f ((Run.shape L V TT SS).drop f) /\
   (p = prev ∨ ∃ j o,f <= j/\j < q/\L[j]? = some o/\isEf o = true/\p = (M.get j).getD 0)
 | 0,f,prev,hf,q,h1,h2,h3=>by
  have e:L.drop f = []:=List.drop_eq_nil_of_le (by omega)
  have e2:(Run.shape L V TT SS).drop f = []:=List.drop_eq_nil_of_le (by simp [Run.shape]; omega)
  refine ⟨prev,?_,.inl rfl⟩
  rw [e,e2]
  have:q = L.length:=by omega
  subst this
  have hfl:f = L.length:=by omega
  rw [if_pos rfl]
  simp [epochs,hfl]
 | k + 1,f,prev,hf,q,h1,h2,h3=>by
  have ho:L[f]? = some L[f]:=List.getElem?_eq_getElem (by omega)
  obtain ⟨e1,e2⟩:=shape_drop (V:=V) (TT:=TT) (SS:=SS) ho
  cases hb:isEf L[f] with
  | true =>
   have hexp:epochs M (SS L.length) prev (L.drop f) f ((Run.shape L V TT SS).drop f) =
     (prev,f,⟨overlay (SS L.length) (SS f).h (L.drop (f + 1)) ((Run.shape L V TT SS).drop (f + 1)),(SS L.length).nx⟩) :: epochs M (SS L.length) ((M.get f).getD 0) (L.drop (f + 1)) (f + 1) ((Run.shape L V TT SS).drop (f + 1)):=by
    rw [e1,e2]
    simp only [epochs,hb,cond_true]
   have hov:OV L V TT SS f = overlay (SS L.length) (SS f).h (L.drop (f + 1)) ((Run.shape L V TT SS).drop (f + 1)):=by
    unfold OV
    rw [e1,e2]
    have hk:kindA L[f].op = .ef:=by
     unfold isEf at hb
     cases hkk:kindA L[f].op <;> rw [hkk] at hb <;> first | rfl | cases hb
    cases hv:V f with
    | none=>simp only [overlay]
    | some v=>simp only [overlay,hk]
   rcases Nat.lt_or_ge f q with hlt | hge
   ·obtain ⟨p,g1,g2⟩:=epochs_spec M k (f + 1) ((M.get f).getD 0) (by omega) q hlt h2 h3
    refine ⟨p,by rw [hexp]; exact List.mem_cons_of_mem _ g1,?_⟩
    rcases g2 with rfl | ⟨j,o,a,b,c,d,e⟩
    ·exact .inr ⟨f,_,Nat.le_refl _,hlt,ho,hb,rfl⟩
    exact .inr ⟨j,o,by omega,b,c,d,e⟩
   have:q = f:=by omega
   subst this
   refine ⟨prev,?_,.inl rfl⟩
   rw [hexp,if_neg (by omega),hov]
   exact List.mem_cons_self
  | false =>
   have hexp:epochs M (SS L.length) prev (L.drop f) f ((Run.shape L V TT SS).drop f) = epochs M (SS L.length) prev (L.drop (f + 1)) (f + 1) ((Run.shape L V TT SS).drop (f + 1)):=by
    rw [e1,e2]
    simp only [epochs,hb,cond_false]
   rcases Nat.lt_or_ge f q with hlt | hge
   ·obtain ⟨p,g1,g2⟩:=epochs_spec M k (f + 1) prev (by omega) q hlt h2 h3
    refine ⟨p,by rw [hexp]; exact g1,?_⟩
    rcases g2 with rfl | ⟨j,o,a,b,c,d,e⟩
    ·exact .inl rfl
    exact .inr ⟨j,o,by omega,b,c,d,e⟩
   have:q = f:=by omega
   subst this
   rcases h3 with h3 | ⟨o,h3,h4⟩
   ·omega
   rw [ho] at h3; cases h3; rw [hb] at h4; cases h4
theorem float_spec {ep:List (Nat × Nat × St)}:∀ (k f:Nat),f + k = L.length->floatOk P M ep (L.drop f) f ((Run.shape L V TT SS).drop f) = true->∀ i o v,f <= i->L[i]? = some o->V i = some v->(match kindA o.op with | .rd=>True | _=>False)->looksIn o.op = true ->
  ∃ m,M.get i = some m/\∀ p ∈ ep,p.1.testBit i = true ∨ m.testBit p.2.1 = true ∨ rdA P (opd (TT i)) p.2.2 o.op = some v
 | 0,f,hf,_,i,o,v,h1,ho,_,_,_=>by have:=(List.getElem?_eq_some_iff.1 ho).1; omega
 | k + 1,f,hf,h,i,o,v,h1,ho,hv,hk,hl=>by
  have hof:L[f]? = some L[f]:=List.getElem?_eq_getElem (by omega)
  obtain ⟨e1,e2⟩:=shape_drop (V:=V) (TT:=TT) (SS:=SS) hof
  rw [e1,e2] at h
  have htail:floatOk P M ep (L.drop (f + 1)) (f + 1) ((Run.shape L V TT SS).drop (f + 1)) = true:=by
   cases hvf:V f with
   | none=>rw [hvf] at h; simpa only [floatOk] using h
   | some v'=>rw [hvf] at h; simp only [floatOk,Bool.and_eq_true] at h; exact h.2
  rcases Nat.lt_or_ge f i with hlt | hge
  ·exact float_spec k (f + 1) (by omega) htail i o v hlt ho hv hk hl
  have:i = f:=by omega
  subst this
  rw [hof] at ho
  cases ho
  rw [hv] at h
  simp only [floatOk,Bool.and_eq_true] at h
  have hkk:kindA L[i].op = .rd:=by
   cases hkk:kindA L[i].op <;> rw [hkk] at hk <;> first | rfl | exact hk.elim
  have h2:=h.1
  rw [hkk] at h2
  simp only [hl,cond_true] at h2
  split at h2
  ·next m hm =>
   refine ⟨m,hm,fun p hp=>?_⟩
   rw [List.all_eq_true] at h2
   have h3:=h2 p hp
   simp only [Bool.or_eq_true] at h3
   rcases h3 with (h3 | h3) | h3
   ·exact .inl h3
   ·exact .inr (.inl h3)
   split at h3
   ·next v' hv'=>rw [hv',same_eq v' v h3]; exact .inr (.inr rfl)
   cases h3
  cases h2
end
end
end Go.Proofs.YtdehimgccmbfkaaGreat
