/- Lemmas on the way: Seen, Sn0. -/
import Derived.Test.YtkdhppimhdemjaaGreatU31
set_option linter.all false
set_option maxRecDepth 1000000
set_option maxHeartbeats 32000000
namespace Go.Proofs.YtkdhppimhdemjaaGreat
open Go.RowKit
def yv (L:List (Int × Int)) (C:Int->Int):Prop:=(L.map Prod.fst).Nodup/\(∀ x,(bq L x).getD 0 = C x)/\∀ e ∈ L,0 < e.2/\0 <= e.1/\e.1 <= 1000000
theorem n6 {l:List Int} {n:Nat} (h:l.length = n)(hn:0 < n):l = l.take (n - 1) ++ [l.getD (n - 1) 0]:=by
 have e1:l.drop (n - 1) = [l.getD (n - 1) 0]:=by
  rw [List.drop_eq_getElem_cons (by omega),List.drop_eq_nil_of_le (by omega),List.getD_eq_getElem?_getD,List.getElem?_eq_getElem (by omega)]
  rfl
 rw [<- e1,List.take_append_drop]
theorem mi {n:Nat} {S:List (List Int × Int)} {h:List Int} (hS:jL n S)(hn:0 < n) {x c:Int} (hm:(x,c) ∈ cU n S h):(h ++ [x],c) ∈ S:=by
 unfold cU at hm
 obtain ⟨e,he,hx⟩:=List.mem_map.1 hm
 obtain ⟨he1,he2⟩:=List.mem_filter.1 he
 injection hx with hx1 hx2
 have:=n6 (hS.2 e he1).1 hn
 rw [of_decide_eq_true he2,hx1] at this
 rw [<- this,<- hx2]
 exact he1
theorem CK {n:Nat} {S:List (List Int × Int)} {h:List Int} (hl:h.length = n - 1) {x c:Int} (hm:(h ++ [x],c) ∈ S):(x,c) ∈ cU n S h:=by
 unfold cU
 refine List.mem_map.2 ⟨(h ++ [x],c),List.mem_filter.2 ⟨hm,decide_eq_true ?_⟩,?_⟩
 ·simp only
  rw [<- hl,List.take_left]
 simp only
 rw [<- hl,List.getD_eq_getElem?_getD,List.getElem?_append_right (Nat.le_refl _),Nat.sub_self]
 rfl
theorem nF {n:Nat} {S:List (List Int × Int)} {h:List Int} (hS:jL n S)(hn:0 < n):((cU n S h).map Prod.fst).Nodup:=by
 unfold cU
 rw [List.map_map]
 have hp:S.Pairwise (fun a b=>a.1 ≠ b.1):=List.pairwise_map.1 hS.1
 have hp2:=hp.filter (fun e=>decide (e.1.take (n - 1) = h))
 refine List.pairwise_map.2 (hp2.imp_of_mem ?_)
 intro a b ha hb hne he
 simp only [Function.comp] at he
 obtain ⟨ha1,ha2⟩:=List.mem_filter.1 ha
 obtain ⟨hb1,hb2⟩:=List.mem_filter.1 hb
 refine hne ?_
 rw [n6 (hS.2 a ha1).1 hn,n6 (hS.2 b hb1).1 hn,of_decide_eq_true ha2,of_decide_eq_true hb2,he]
theorem ze {n:Nat} {S:List (List Int × Int)} {T:List Int->Int} {h:List Int} (hS:jL n S)(hT:g8 S T)(hn:0 < n)(hl:h.length = n - 1):yv (cU n S h) (fun x=>T (h ++ [x])):=by
 refine ⟨nF hS hn,fun x=>?_,fun e he=>?_⟩
 ·cases hx:bq (cU n S h) x with
  | some c =>
   have:=hT.of_mem (mi hS hn (cN hx))
   exact this.symm
  | none =>
   by_cases h0:T (h ++ [x]) = 0
   ·exact h0.symm
   have h1:=e9 (nF hS hn) (CK (n:=n) hl (hT.mem h0))
   simp only at h1
   rw [hx] at h1
   cases h1
 have h1:=mi hS hn (x:=e.1) (c:=e.2) he
 have h2:=hS.2 _ h1
 have h3:=h2.2.1.2 e.1 (by simp)
 exact ⟨h2.2.2.1,h3.1,h3.2⟩
theorem FV {C:Int->Int} (h:∀ x,C x = 0):yv [] C:=⟨List.nodup_nil,fun x=>by rw [h x]; rfl,fun e he=>by cases he⟩
def iT (L:List (Int × Int)):Int:=(L.map Prod.snd).sum
def pI (C:Int->Int) (v:Nat):Int:=((List.range (v + 1)).map fun (x:Nat)=>C x).sum
def Ji (C:Int->Int) (v:Nat):List (Int × Int):=((List.range (v + 1)).map fun (x:Nat)=>((x:Int),C x)).filter fun e=>decide (e.2 ≠ 0)
theorem C4 {L:List (Int × Int)} {C:Int->Int} {v:Nat} (h:yv L C)(hv:∀ e ∈ L,e.1 <= v):L.Perm (Ji C v):=by
 have hn1:L.Nodup:=(List.pairwise_map.1 h.1).imp (fun hne e=>hne (by rw [e]))
 have hn2:(Ji C v).Nodup:=by
  unfold Ji
  refine List.Pairwise.filter _ ?_
  refine List.pairwise_map.2 (List.nodup_range.imp ?_)
  intro a b hne e
  injection e with e1
  exact hne (by omega)
 refine (List.perm_ext_iff_of_nodup hn1 hn2).2 (fun e=>⟨fun he=>?_,fun he=>?_⟩)
 ·have h1:=h.2.2 e he
  have h2:=hv e he
  have h3:=e9 h.1 he
  have h4:=h.2.1 e.1
  rw [h3] at h4
  have h5:C e.1 = e.2:=h4.symm
  refine List.mem_filter.2 ⟨List.mem_map.2 ⟨e.1.toNat,List.mem_range.2 (by omega),?_⟩,decide_eq_true (by omega)⟩
  have e1:((e.1.toNat:Nat):Int) = e.1:=by omega
  rw [e1,h5]
 obtain ⟨he1,he2⟩:=List.mem_filter.1 he
 obtain ⟨x,hx,rfl⟩:=List.mem_map.1 he1
 have h1:C (x:Int) ≠ 0:=of_decide_eq_true he2
 have h2:=h.2.1 (x:Int)
 cases hl:bq L (x:Int) with
 | none=>rw [hl] at h2; exact absurd h2.symm h1
 | some c=>rw [hl] at h2; have h3:=cN hl; rwa [show c = C (x:Int) from h2] at h3
theorem vW {a b:List Int} (h:a.Perm b):a.sum = b.sum:=by
 induction h with
 | nil=>rfl
 | cons x _ ih=>rw [List.sum_cons,List.sum_cons,ih]
 | swap x y l=>rw [List.sum_cons,List.sum_cons,List.sum_cons,List.sum_cons]; omega
 | trans _ _ ih1 ih2=>exact ih1.trans ih2
theorem Ci (l:List (Int × Int)):((l.filter fun e=>decide (e.2 ≠ 0)).map Prod.snd).sum = (l.map Prod.snd).sum:=by
 induction l with
 | nil=>rfl
 | cons e l ih =>
  by_cases h:e.2 = 0
  ·rw [List.filter_cons_of_neg (by simpa using h),ih,List.map_cons,List.sum_cons,h,Int.zero_add]
  rw [List.filter_cons_of_pos (by simpa using h),List.map_cons,List.map_cons,List.sum_cons,List.sum_cons,ih]
theorem Hl {L:List (Int × Int)} {C:Int->Int} {v:Nat} (h:yv L C)(hv:∀ e ∈ L,e.1 <= v):iT L = pI C v:=by
 unfold iT pI
 rw [vW ((C4 h hv).map Prod.snd)]
 unfold Ji
 rw [Ci,List.map_map]
 rfl
def Fa (C:Int->Int) (v:Nat):Nat:=((List.range (v + 1)).filter fun (x:Nat)=>decide (C x ≠ 0)).length
section
open Go.MapKept

theorem r8 {P:Program} (w:World) (t k e:TypeId)(ht:P.underlying t = some (.map k e)):(Instr.range t (.map none)).run P w = .ok (.pointer (some ⟨w.heap.size,0,none⟩)) (w.alloc (.mapIter none 0 #[] 0)):=by
 simp only [Instr.range,run_underlying ht,Sem.run_bind,Result.andThen_ok]
 rfl
theorem uI {P:Program} {w:World} {r:Nat} (ty:TypeId)(hr:w.heap[r]? = some (.mapIter none 0 #[] 0)):(Instr.next (.pointer (some ⟨r,0,none⟩)) false ty).run P w = .ok (.tuple #[.bool false]) w:=by
 simp [Instr.next,getObj,Sem.run_bind,Sem.run,hr,Result.andThen]
end
end Go.Proofs.YtkdhppimhdemjaaGreat
