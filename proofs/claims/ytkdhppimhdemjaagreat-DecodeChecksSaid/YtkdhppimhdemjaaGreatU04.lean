/- Lemmas on the way: Ev1, Nat2, Nat4. -/
import Derived.Test.YtkdhppimhdemjaaGreatU02
import Derived.Test.YtkdhppimhdemjaaGreatU03
import Derived.Deep.QuietTactic
import Derived.BigQuiet
set_option linter.all false
set_option maxRecDepth 1000000
set_option maxHeartbeats 32000000
namespace Go.Proofs.YtkdhppimhdemjaaGreat
open Go.RowKit
section
theorem vl {a b:Nat}:Nat.beq a b = false ↔ a ≠ b:=by
 constructor
 ·exact Nat.ne_of_beq_eq_false
 intro h; cases e:Nat.beq a b with
 | false=>rfl
 | true=>exact absurd (Nat.eq_of_beq_eq_true e) h

theorem aj {α:Type} {b:Bool} {x:Option α} {y:α} (h:cond b x none = some y):b = true/\x = some y:=by
 cases b with
 | true=>exact ⟨rfl,h⟩
 | false=>cases h

namespace Tr
variable {α:Type}
theorem I7 (x:Option α):∀ (f:Nat) (t:Tr α) (k j:Nat),k < f->(put x f t k).get j = if j = k then x else t.get j:=by
 intro f
 induction f with
 | zero=>intro t k j h; omega
 | succ f ih =>
  intro t k j h
  rcases Nat.eq_zero_or_pos k with hk | hk
  ·subst hk
   cases t <;> (simp only [put,Nat.beq_refl,cond_true]; rcases Nat.eq_zero_or_pos j with hj | hj)
   ·subst hj; simp [get]
   ·simp [get,show Nat.beq j 0 = false from by rw [vl]; omega,show j ≠ 0 by omega]
   ·subst hj; simp [get]
   simp [get,show Nat.beq j 0 = false from by rw [vl]; omega,show j ≠ 0 by omega]
  have hk0:Nat.beq k 0 = false:=by rw [vl]; omega
  rcases Nat.mod_two_eq_zero_or_one k with h2 | h2
  ·have hb:Nat.beq (k % 2) 1 = false:=by rw [h2]; rfl
   have hlt:k / 2 - 1 < f:=by omega
   cases t <;> simp only [put,hk0,hb,cond_false,get] <;>
   ·rcases Nat.eq_zero_or_pos j with hj | hj
    ·subst hj; simp [show ¬ (0 = k) by omega,get]
    have hj0:Nat.beq j 0 = false:=by rw [vl]; omega
    simp only [hj0,cond_false]
    rcases Nat.mod_two_eq_zero_or_one j with h3 | h3
    ·rw [show Nat.beq (j % 2) 1 = false from by rw [h3]; rfl]
     simp only [cond_false]
     rw [ih _ _ _ hlt]
     by_cases e:j = k
     ·subst e; simp
     rw [if_neg e,if_neg (by omega)]; try rfl
    rw [show Nat.beq (j % 2) 1 = true from by rw [h3]; rfl]
    simp [show ¬ (j = k) by omega,get]
  have hb:Nat.beq (k % 2) 1 = true:=by rw [h2]; rfl
  have hlt:k / 2 < f:=by omega
  cases t <;> simp only [put,hk0,hb,cond_false,cond_true,get] <;>
  ·rcases Nat.eq_zero_or_pos j with hj | hj
   ·subst hj; simp [show ¬ (0 = k) by omega,get]
   have hj0:Nat.beq j 0 = false:=by rw [vl]; omega
   simp only [hj0,cond_false]
   rcases Nat.mod_two_eq_zero_or_one j with h3 | h3
   ·rw [show Nat.beq (j % 2) 1 = false from by rw [h3]; rfl]
    simp [show ¬ (j = k) by omega,get]
   rw [show Nat.beq (j % 2) 1 = true from by rw [h3]; rfl]
   simp only [cond_true]
   rw [ih _ _ _ hlt]
   by_cases e:j = k
   ·subst e; simp
   rw [if_neg e,if_neg (by omega)]; try rfl
theorem get_set (t:Tr α) (k j:Nat) (x:Option α):(t.set k x).get j = if j = k then x else t.get j:=I7 x (k + 1) t k j (Nat.lt_succ_self k)
theorem get_set_same (t:Tr α) (k:Nat) (x:Option α):(t.set k x).get k = x:=by rw [get_set,if_pos rfl]
theorem get_set_ne (t:Tr α) {k j:Nat} (x:Option α)(h:j ≠ k):(t.set k x).get j = t.get j:=by rw [get_set,if_neg h]
theorem Cz (l:List α):∀ (t:Tr α) (n:Nat),(∀ j,n <= j->t.get j = none) ->
  ∀ j,(l.foldl (fun (p:Tr α × Nat) x=>(p.1.set p.2 (some x),p.2 + 1)) (t,n)).1.get j = if j < n then t.get j else l[j - n]?:=by
 induction l with
 | nil =>
  intro t n h j
  simp only [List.foldl_nil]
  by_cases e:j < n
  ·rw [if_pos e]
  rw [if_neg e,h j (by omega)]; simp
 | cons x l ih =>
  intro t n h j
  rw [List.foldl_cons,ih]
  ·by_cases e:j < n
   ·rw [if_pos (by omega),if_pos e,get_set_ne _ _ (by omega)]
   rw [if_neg e]
   by_cases e2:j = n
   ·subst e2; rw [if_pos (by omega),get_set_same]; simp
   rw [if_neg (by omega),show j - n = (j - (n + 1)) + 1 by omega,List.getElem?_cons_succ]
  intro j hj
  rw [get_set_ne _ _ (by omega)]; exact h j (by omega)
theorem get_ofList (l:List α) (j:Nat):(ofList l).get j = l[j]?:=by
 unfold ofList
 rw [Cz l .nil 0 (fun _ _=>rfl) j]
 simp
end Tr

structure Pl where
 blk:Nat
 base:Nat
 tot:Nat
inductive Lc where
 | at_ (p:Pl)
 | val (A:Option Addr) (m c:Nat)
structure Mu where
 loc:Nat->Option Lc
 fz:Nat->Nat->Option Value
instance:CoeFun Mu fun _=>Nat->Option Lc:=⟨Mu.loc⟩
structure gY (μ μ':Mu):Prop where
 loc:∀ o l,μ o = some l->μ' o = some l
 fz:∀ b i v,μ.fz b i = some v->μ'.fz b i = some v
instance {μ μ':Mu}:CoeFun (gY μ μ') fun _=>∀ o l,μ o = some l->μ' o = some l:=⟨gY.loc⟩
theorem gY.refl (μ:Mu):gY μ μ:=⟨fun _ _ h=>h,fun _ _ _ h=>h⟩
theorem gY.trans {a b c:Mu} (h:gY a b) (k:gY b c):gY a c:=⟨fun o l e=>k o l (h o l e),fun o i v e=>k.fz o i v (h.fz o i v e)⟩
def Mu.blind (μ:Mu):Mu:=⟨fun _=>none,μ.fz⟩
theorem Mu.blind_sub (μ:Mu):gY μ.blind μ:=⟨fun _ _ h=>(by cases h),fun _ _ _ h=>h⟩
theorem gY.blind {μ μ':Mu} (h:gY μ μ'):gY μ.blind μ'.blind:=⟨fun _ _ h=>(by cases h),h.fz⟩
def Fz (μ:Mu) (b base:Nat) (cs:List Value):Prop:=∀ i v,cs[i]? = some v->μ.fz b (base + i) = some v
theorem Fz.mono {μ μ':Mu} (hs:gY μ μ') {b base:Nat} {cs:List Value} (h:Fz μ b base cs):Fz μ' b base cs:=fun i v e=>hs.fz _ _ _ (h i v e)
theorem Fz.drop {μ:Mu} {b base:Nat} {cs:List Value} (h:Fz μ b base cs) (k:Nat):Fz μ b (base + k) (cs.drop k):=fun i v e=>by
 rw [List.getElem?_drop] at e
 have:=h _ _ e
 rwa [<- Nat.add_assoc] at this
def Kw (μ:Mu) (n:Nat) (cs:List Value) (v:Value):Prop:=∃ A cap,v = .slice A n cap/\n <= cap/\cap <= maxLen/\(0 < n->∃ b base,A = some ⟨b,base,none⟩/\Fz μ b base cs)
theorem Kw.mono {μ μ':Mu} (hs:gY μ μ') {n:Nat} {cs:List Value} {v:Value} (h:Kw μ n cs v):Kw μ' n cs v:=by
 obtain ⟨A,cap,h1,h2,h3,h4⟩:=h
 exact ⟨A,cap,h1,h2,h3,fun hn=>let ⟨b,base,e,h5⟩:=h4 hn; ⟨b,base,e,h5.mono hs⟩⟩

def GW (l:List MapEntry) (clock:Nat):Value:=.func (.method "") (l.map fun e=>.tuple #[e.key,e.val,.int .i64 e.born]).toArray #[.int .i64 clock]
def yB:Value->Bool
 | .func (.method _) _ _=>true
 | _=>false
theorem IP (l:List MapEntry) (c:Nat):yB (GW l c) = true:=rfl
theorem Iu {l l':List MapEntry} {c c':Nat} (h:GW l c = GW l' c'):l = l'/\c = c':=by
 simp only [GW,Value.func.injEq,true_and] at h
 obtain ⟨h0,h2⟩:=h
 have h1:=congrArg Array.toList h0
 clear h0
 simp only at h1
 have h2:=congrArg Array.toList h2
 simp at h2
 refine ⟨?_,by omega⟩
 clear h2
 induction l generalizing l' with
 | nil=>cases l' with
  | nil=>rfl
  | cons=>simp at h1
 | cons e l ih=>cases l' with
  | nil=>simp at h1
  | cons e' l' =>
   simp only [List.map_cons,List.cons.injEq] at h1
   obtain ⟨h3,h4⟩:=h1
   rw [ih h4]
   congr 1
   simp only [Value.tuple.injEq] at h3
   have h3:=congrArg Array.toList h3
   obtain ⟨k,v,b⟩:=e
   obtain ⟨k',v',b'⟩:=e'
   simp at h3
   obtain ⟨rfl,rfl,h5⟩:=h3
   have:b = b':=by omega
   rw [this]
def de (w:World) (b i:Nat):Option Value:=match w.heap[b]? with
 | some (.map es clock)=>if i = 0 then some (GW es.toList clock) else none
 | _=>(w.cell? ⟨b,i,none⟩).bind fun v=>cond (yB v) none (some v)
theorem ij {w w':World} {b:Nat} (h:w'.heap[b]? = w.heap[b]?) (i:Nat):de w' b i = de w b i:=by
 unfold de World.cell?
 simp only [h]
theorem fI {w:World} {b i:Nat} {v:Value} (h:w.cell? ⟨b,i,none⟩ = some v)(hm:yB v = false):de w b i = some v:=by
 unfold de
 split
 ·next es c e=>simp [World.cell?,e] at h
 rw [h,Option.bind_some,hm,cond_false]
theorem d8 {w:World} {b i:Nat} {v:Value} (h:de w b i = some v)(hm:yB v = false):w.cell? ⟨b,i,none⟩ = some v:=by
 unfold de at h
 split at h
 ·split at h
  ·cases h; cases hm
  cases h
 rw [Option.bind_eq_some_iff] at h
 obtain ⟨u,h1,h2⟩:=h
 cases e:yB u with
 | true=>rw [e] at h2; cases h2
 | false=>rw [e] at h2; cases h2; exact h1
theorem CU {w:World} {b:Nat} {es:Array MapEntry} {c:Nat} (h:w.heap[b]? = some (.map es c)):de w b 0 = some (GW es.toList c):=by
 unfold de
 rw [h]
 rfl
theorem i4 {w:World} {b:Nat} {l:List MapEntry} {c:Nat} (h:de w b 0 = some (GW l c)):w.heap[b]? = some (.map l.toArray c):=by
 unfold de at h
 split at h
 ·next es c' e =>
  rw [if_pos rfl,Option.some.injEq] at h
  obtain ⟨h1,rfl⟩:=Iu h
  rw [e,<- h1]
 rw [Option.bind_eq_some_iff] at h
 obtain ⟨u,h1,h2⟩:=h
 cases e:yB u with
 | true=>rw [e] at h2; cases h2
 | false=>rw [e] at h2; cases h2; rw [IP] at e; cases e
theorem rm {w:World} {b i:Nat} {v:Value} (h:de w b i = some v):b < w.heap.size:=by
 unfold de at h
 cases e:w.heap[b]? with
 | none=>rw [e] at h; simp [World.cell?,e] at h
 | some x=>exact (Array.getElem?_eq_some_iff.1 e).1

mutual
def VR (μ:Mu):AV->Value->Prop
 | .b x,v=>v = .bool x
 | .i k n,v=>v = .int k n
 | .ptr o off,v=>∃ p,μ o = some (.at_ p)/\v = .pointer (some ⟨p.blk,p.base + off,none⟩)
 | .pnil,v=>v = .pointer none
 | .sl o off len cap,v=>∃ p c,μ o = some (.at_ p)/\v = .slice (some ⟨p.blk,p.base + off,none⟩) len c/\(cap < cW->c = cap)/\(¬ cap < cW->len <= c/\c < cW/\p.base + off + c * (cap - cW) = p.tot)
 | .snil,v=>v = .slice none 0 0
 | .nat o,v=>∃ A m c,μ o = some (.val A m c)/\v = .slice A m c
 | .num n,v=>∃ l:List Nat,cS l/\val l = n/\Ok l/\Kw μ l.length (l.map dg) v
 | .vw c n,v=>∃ cs,Kw μ n cs v/\ao μ.blind c cs
 | .vp c off,v=>∃ b base cs,v = .pointer (some ⟨b,base + off,none⟩)/\Fz μ b base cs/\ao μ.blind c cs
 | .fm ks vs,v=>∃ b l clock l',v = .map (some b)/\μ.fz b 0 = some (GW l clock)/\List.Perm l' l/\(l.map (·.born)).Nodup/\(∀ e ∈ l,e.born < clock)/\ao μ.blind ks (l'.map (·.key))/\ao μ.blind vs (l'.map (·.val))
 | .mp o,v=>∃ p,μ o = some (.at_ p)/\v = .map (some p.blk)
 | .mnil,v=>v = .map none
 | .fn f a c,v=>∃ a' c',v = .func (.func f) (List.toArray a') (List.toArray c')/\ao μ a a'/\ao μ c c'
 | .yl l,v=>∃ p,μ l = some (.at_ p)/\v = .func (.yield p.blk) #[] #[]
 | .fnil,v=>v = .nilFunc
 | .ifc t x,v=>∃ y,v = .iface t y/\VR μ x y
 | .inil,v=>v = .nilIface
 | .agg l,v=>∃ l',v = .agg (List.toArray l')/\ao μ l l'
 | .tup l,v=>∃ l',v = .tuple (List.toArray l')/\ao μ l l'
def ao (μ:Mu):List AV->List Value->Prop
 | [],l=>l = []
 | x :: xs,l=>∃ y ys,l = y :: ys/\VR μ x y/\ao μ xs ys
end

mutual
theorem VR.mono {μ μ':Mu} (h:gY μ μ'):∀ (x:AV) {v:Value},VR μ x v->VR μ' x v
 | .b _,_,e | .i _ _,_,e | .pnil,_,e | .snil,_,e | .mnil,_,e | .fnil,_,e | .inil,_,e=>by simpa only [VR] using e
 | .ptr o _,_,e=>by
  simp only [VR] at e ⊢
  obtain ⟨p,h1,h2⟩:=e
  exact ⟨p,h _ _ h1,h2⟩
 | .sl o _ _ _,_,e=>by
  simp only [VR] at e ⊢
  obtain ⟨p,c,h1,h2⟩:=e
  exact ⟨p,c,h _ _ h1,h2⟩
 | .nat o,_,e=>by
  simp only [VR] at e ⊢
  obtain ⟨A,m,c,h1,h2⟩:=e
  exact ⟨A,m,c,h _ _ h1,h2⟩
 | .num n,_,e=>by
  simp only [VR] at e ⊢
  obtain ⟨l,h1,h2,h3,h4⟩:=e
  exact ⟨l,h1,h2,h3,h4.mono h⟩
 | .vw c n,_,e=>by
  simp only [VR] at e ⊢
  obtain ⟨cs,h1,h2⟩:=e
  exact ⟨cs,h1.mono h,ao.mono h.blind c h2⟩
 | .vp c off,_,e=>by
  simp only [VR] at e ⊢
  obtain ⟨b,base,cs,h1,h2,h3⟩:=e
  exact ⟨b,base,cs,h1,h2.mono h,ao.mono h.blind c h3⟩
 | .fm ks vs,_,e=>by
  simp only [VR] at e ⊢
  obtain ⟨b,l,clock,l',h1,h2,h3,h4,h5,h6,h7⟩:=e
  exact ⟨b,l,clock,l',h1,h.fz _ _ _ h2,h3,h4,h5,ao.mono h.blind ks h6,ao.mono h.blind vs h7⟩
 | .mp o,_,e=>by
  simp only [VR] at e ⊢
  obtain ⟨p,h1,h2⟩:=e
  exact ⟨p,h _ _ h1,h2⟩
 | .yl o,_,e=>by
  simp only [VR] at e ⊢
  obtain ⟨p,h1,h2⟩:=e
  exact ⟨p,h _ _ h1,h2⟩
 | .fn f a c,_,e=>by
  simp only [VR] at e ⊢
  obtain ⟨a',c',h0,h1,h2⟩:=e
  exact ⟨a',c',h0,ao.mono h a h1,ao.mono h c h2⟩
 | .ifc t x,_,e=>by
  simp only [VR] at e ⊢
  obtain ⟨y,h0,h1⟩:=e
  exact ⟨y,h0,VR.mono h x h1⟩
 | .agg l,_,e=>by
  simp only [VR] at e ⊢
  obtain ⟨y,h0,h1⟩:=e
  exact ⟨y,h0,ao.mono h l h1⟩
 | .tup l,_,e=>by
  simp only [VR] at e ⊢
  obtain ⟨y,h0,h1⟩:=e
  exact ⟨y,h0,ao.mono h l h1⟩
theorem ao.mono {μ μ':Mu} (h:gY μ μ'):∀ (l:List AV) {m:List Value},ao μ l m->ao μ' l m
 | [],_,e=>by simpa only [ao] using e
 | x :: xs,_,e=>by
  simp only [ao] at e ⊢
  obtain ⟨y,ys,h0,h1,h2⟩:=e
  exact ⟨y,ys,h0,VR.mono h x h1,ao.mono h xs h2⟩
end

section
variable {μ:Mu}
theorem VR.noM {x:AV} {v:Value} (h:VR μ x v):yB v = false:=by
 cases x <;> simp only [VR] at h
 all_goals first
  | (subst h; rfl)
  | (obtain ⟨_,_,rfl⟩:=h; rfl)
  | (obtain ⟨_,_,_,rfl,_⟩:=h; rfl)
  | (obtain ⟨_,_,_,_,rfl⟩:=h; rfl)
  | (obtain ⟨_,_,rfl,_⟩:=h; rfl)
  | (obtain ⟨_,rfl,_⟩:=h; rfl)
  | (obtain ⟨_,_,_,_,_,_,rfl,_⟩:=h; rfl)
  | (obtain ⟨_,⟨_,_,rfl,_⟩,_⟩:=h; rfl)
  | (obtain ⟨_,_,_,rfl⟩:=h; rfl)
  | (obtain ⟨_,_,_,_,rfl,_⟩:=h; rfl)
  | (obtain ⟨_,_,_,_,⟨_,_,rfl,_⟩⟩:=h; rfl)
theorem ao.noM:∀ {l:List AV} {m:List Value},ao μ l m->∀ v ∈ m,yB v = false
 | [],_,h,v,hv=>by simp only [ao] at h; subst h; cases hv
 | x :: l,_,h,v,hv=>by
  simp only [ao] at h
  obtain ⟨y,ys,rfl,h1,h2⟩:=h
  rcases List.mem_cons.1 hv with rfl | hv
  ·exact h1.noM
  exact ao.noM h2 v hv
theorem ao.nil_:ao μ [] []:=by simp [ao]
theorem ao.cons {x:AV} {y:Value} {xs:List AV} {ys:List Value} (h:VR μ x y) (k:ao μ xs ys):ao μ (x :: xs) (y :: ys):=by
 simp only [ao]; exact ⟨y,ys,rfl,h,k⟩
theorem ao.length:∀ {l:List AV} {m:List Value},ao μ l m->l.length = m.length
 | [],_,e=>by simp only [ao] at e; subst e; rfl
 | x :: xs,_,e=>by
  simp only [ao] at e
  obtain ⟨y,ys,rfl,_,h⟩:=e
  simp [ao.length h]
theorem ao.get:∀ {l:List AV} {m:List Value},ao μ l m->∀ {i:Nat} {x:AV},l[i]? = some x->∃ y,m[i]? = some y/\VR μ x y
 | [],_,_,_,_,h=>by simp at h
 | x :: xs,_,e,i,z,h=>by
  simp only [ao] at e
  obtain ⟨y,ys,rfl,h1,h2⟩:=e
  cases i with
  | zero=>simp at h; subst h; exact ⟨y,by simp,h1⟩
  | succ i=>simp at h ⊢; exact ao.get h2 h
theorem ao.of_get:∀ {l:List AV} {m:List Value},l.length = m.length->(∀ (i:Nat) (x:AV),l[i]? = some x->∃ y,m[i]? = some y/\VR μ x y)->ao μ l m
 | [],[],_,_=>ao.nil_
 | [],_ :: _,h,_=>by simp at h
 | _ :: _,[],h,_=>by simp at h
 | x :: xs,y :: ys,h,k=>by
  obtain ⟨y',h1,h2⟩:=k 0 x (by simp)
  simp at h1
  subst h1
  exact ao.cons h2 (ao.of_get (by simpa using h) fun i z hz=>by simpa using k (i + 1) z (by simpa using hz))
theorem ao.append {l l':List AV} {m m':List Value} (h:ao μ l m) (k:ao μ l' m'):ao μ (l ++ l') (m ++ m'):=by
 have hl:=h.length
 refine ao.of_get (by simp [hl,k.length]) fun i x hx=>?_
 rw [List.getElem?_append] at hx ⊢
 split at hx
 ·next e=>rw [if_pos (by omega)]; exact h.get hx
 next e=>rw [if_neg (by omega)]; rw [<- hl]; exact k.get hx
theorem ao.take {l:List AV} {m:List Value} (h:ao μ l m) (n:Nat):ao μ (l.take n) (m.take n):=by
 refine ao.of_get (by simp [h.length]) fun i x hx=>?_
 rw [List.getElem?_take] at hx ⊢
 split at hx
 ·next e=>rw [if_pos e]; exact h.get hx
 simp at hx
theorem ao.drop {l:List AV} {m:List Value} (h:ao μ l m) (n:Nat):ao μ (l.drop n) (m.drop n):=by
 refine ao.of_get (by simp [h.length]) fun i x hx=>?_
 rw [List.getElem?_drop] at hx ⊢
 exact h.get hx
theorem ao.set {l:List AV} {m:List Value} (h:ao μ l m) (i:Nat) {x:AV} {y:Value} (hx:VR μ x y):ao μ (l.set i x) (m.set i y):=by
 have hl:=h.length
 refine ao.of_get (by simp [hl]) fun j z hz=>?_
 rw [List.getElem?_set] at hz ⊢
 split at hz
 ·next e =>
  subst e
  split at hz
  ·next e2=>rw [if_pos rfl,if_pos (by omega)]; cases hz; exact ⟨y,rfl,hx⟩
  simp at hz
 next e=>rw [if_neg e]; exact h.get hz
theorem VR.cells {x:AV} {v:Value} (h:VR μ x v):ao μ x.cells v.cells.toList:=by
 cases x <;> simp only [VR] at h
 case agg l=>obtain ⟨l',rfl,h⟩:=h; simpa [AV.cells,Value.cells] using h
 all_goals (simp only [AV.cells])
 case b=>subst h; exact ao.cons (by simp [VR]) ao.nil_
 case i=>subst h; exact ao.cons (by simp [VR]) ao.nil_
 case ptr=>obtain ⟨p,h1,rfl⟩:=h; exact ao.cons (by simp only [VR]; exact ⟨p,h1,rfl⟩) ao.nil_
 case pnil=>subst h; exact ao.cons (by simp [VR]) ao.nil_
 case sl=>obtain ⟨p,c,h1,rfl,h2⟩:=h; exact ao.cons (by simp only [VR]; exact ⟨p,c,h1,rfl,h2⟩) ao.nil_
 case snil=>subst h; exact ao.cons (by simp [VR]) ao.nil_
 case mp=>obtain ⟨p,h1,rfl⟩:=h; exact ao.cons (by simp only [VR]; exact ⟨p,h1,rfl⟩) ao.nil_
 case mnil=>subst h; exact ao.cons (by simp [VR]) ao.nil_
 case fn=>obtain ⟨a,c,rfl,h1,h2⟩:=h; exact ao.cons (by simp only [VR]; exact ⟨a,c,rfl,h1,h2⟩) ao.nil_
 case yl=>obtain ⟨p,h1,rfl⟩:=h; exact ao.cons (by simp only [VR]; exact ⟨p,h1,rfl⟩) ao.nil_
 case fnil=>subst h; exact ao.cons (by simp [VR]) ao.nil_
 case ifc=>obtain ⟨y,rfl,h1⟩:=h; exact ao.cons (by simp only [VR]; exact ⟨y,rfl,h1⟩) ao.nil_
 case inil=>subst h; exact ao.cons (by simp [VR]) ao.nil_
 case tup=>obtain ⟨y,rfl,h1⟩:=h; exact ao.cons (by simp only [VR]; exact ⟨y,rfl,h1⟩) ao.nil_
 case num=>obtain ⟨l,h1,h2,h3,A,cap,rfl,h4⟩:=h; exact ao.cons (by simp only [VR]; exact ⟨l,h1,h2,h3,A,cap,rfl,h4⟩) ao.nil_
 case vw=>obtain ⟨cs,⟨A,cap,rfl,h4⟩,h5⟩:=h; exact ao.cons (by simp only [VR]; exact ⟨cs,⟨A,cap,rfl,h4⟩,h5⟩) ao.nil_
 case vp=>obtain ⟨b,base,cs,rfl,h4⟩:=h; exact ao.cons (by simp only [VR]; exact ⟨b,base,cs,rfl,h4⟩) ao.nil_
 case fm=>obtain ⟨b,l,clock,l',rfl,h4⟩:=h; exact ao.cons (by simp only [VR]; exact ⟨b,l,clock,l',rfl,h4⟩) ao.nil_
 case nat=>obtain ⟨A,m,c,h1,rfl⟩:=h; exact ao.cons (by simp only [VR]; exact ⟨A,m,c,h1,rfl⟩) ao.nil_
end
end
theorem yO (w:World) (n:Nat)(hn:n < 18446744073709551616) :
  Calls Tryz.prog 178 #[.int .u64 (n:Int)] w fun e w'=>∃ v',e = .returned v'/\ab w' v' n/\Below w.heap.size w w'/\bf v' w.heap.size:=by
 go_enter Tryz.func178,Tryz.ntmps178
 go_wp2_with fail
 have hb:=(bw.new w 199 [Value.int .u32 ((n:Int) % 4294967296),Value.int .u32 ((n:Int) / 4294967296)]).sl (sz:=1) (n:=2) (c:=2) (by simp) (by omega) (by unfold maxLen; omega)
 have hv:val [n % 4294967296,n / 4294967296] = n:=by simp only [val]; omega
 have ho:Ok [n % 4294967296,n / 4294967296]:=by
  rw [Ok.cons,Ok.cons]
  exact ⟨by omega,by omega,Ok.nil⟩
 refine (jY _ _ [n % 4294967296,n / 4294967296] ⟨?_,ho⟩ (by simp)).mono ?_
 ·simpa [dg] using hb
 rintro e w1 ⟨v',rfl,h1,h2,hf⟩
 rw [hv] at h1
 clear hb hv ho
 go_wp2
 go_ret
 exact ⟨v',rfl,h1,((Below.refl _ w).alloc (Nat.le_refl _) _).trans (h2.mono (by simp)),hf.mono (by simp)⟩

theorem vX (w:World) (n:Nat)(hn:n < 18446744073709551616) :
  Calls Tryz.prog 178 #[.int .u64 (n:Int)] w fun e w'=>∃ v',e = .returned v'/\ab w' v' n/\Below w.heap.size w w' :=
 (yO w n hn).mono fun _ _ ⟨v',h1,h2,h3,_⟩=>⟨v',h1,h2,h3⟩

def fK (a b:Nat):Int:=if a < b then -1 else if a = b then 0 else 1

theorem fP {a b:Nat} (h:a < b):fK a b = -1:=by simp [fK,h]
theorem nP (a:Nat):fK a a = 0:=by simp [fK]
theorem ir {a b:Nat} (h:b < a):fK a b = 1:=by unfold fK; rw [if_neg (by omega),if_neg (by omega)]

theorem kL {l m:List Nat} {k x y:Nat} (hl:Ok l)(h:l.drop (k + 1) = m.drop (k + 1))(hx:l[k]? = some x)(hy:m[k]? = some y)(hxy:x < y):val l < val m:=by
 have kl:=(List.getElem?_eq_some_iff.1 hx).1
 have km:=(List.getElem?_eq_some_iff.1 hy).1
 rw [fM l (k + 1) (by omega),fM m (k + 1) (by omega),h,aG l hx,aG m hy,cO,cO]
 have h1:=eo _ (hl.take k)
 have e1:(l.take k).length = k:=by rw [List.length_take]; omega
 have e2:(m.take k).length = k:=by rw [List.length_take]; omega
 rw [e1] at h1
 rw [e1,e2]
 have h2:4294967296 ^ k * (x + 1) <= 4294967296 ^ k * y:=Nat.mul_le_mul_left _ hxy
 rw [Nat.mul_succ] at h2
 omega

theorem tP {l m:List Nat} {k x:Nat} (hx:l[k]? = some x)(hy:m[k]? = some x)(h:l.drop (k + 1) = m.drop (k + 1)):l.drop k = m.drop k:=by
 obtain ⟨kl,hx⟩:=List.getElem?_eq_some_iff.1 hx
 obtain ⟨km,hy⟩:=List.getElem?_eq_some_iff.1 hy
 rw [List.drop_eq_getElem_cons kl,List.drop_eq_getElem_cons km,h,hx,hy]

theorem aq {a b:Int} (h:a = b):Ending.returned (.int .i64 a) = .returned (.int .i64 b):=by rw [h]

theorem iq (w:World) (va vb:Value) (a b:Nat)(ha:ab w va a)(hb:ab w vb b) :
  Calls Tryz.prog 180 #[va,vb] w fun e w'=>e = .returned (.int .i64 (fK a b))/\∃ k,w' = w.drewN k:=by
 obtain ⟨l,dl,tl,rfl⟩:=ha
 obtain ⟨m,dm,tm,rfl⟩:=hb
 obtain ⟨okl,A,ca,rfl,hlc,hcm,hA⟩:=dl.open_
 obtain ⟨okm,B,cb,rfl,hmc,hcm',hB⟩:=dm.open_
 clear dl dm
 have HA:=Lib.hid hA
 have HB:=Lib.hid hB
 clear hA hB
 have HO:=Lib.hid okl
 have HP:=Lib.hid okm
 clear okl okm
 have HT:=Lib.hid tl
 have HU:=Lib.hid tm
 clear tl tm
 obtain ⟨n,hn⟩:∃ n,l.length = n:=⟨_,rfl⟩
 obtain ⟨p,hp⟩:∃ p,m.length = p:=⟨_,rfl⟩
 rw [hn] at hlc ⊢
 rw [hp] at hmc ⊢
 have HN:=Lib.hid hn
 have HQ:=Lib.hid hp
 clear hn hp
 by_cases hlt:n < p
 ·have hne:((n:Int) != (p:Int)) = true:=by simp; omega
  have hr:=fP (bZ HO.out HU.out (by rw [HN.out,HQ.out]; exact hlt))
  have HR:=Lib.hid hr
  clear hr
  go_enter Tryz.func180,Tryz.ntmps180
  go_wp2_with fail
  go_ret
  exact ⟨aq HR.out.symm,0,rfl⟩
 by_cases hgt:p < n
 ·have hne:((n:Int) != (p:Int)) = true:=by simp; omega
  have hr:=ir (bZ HP.out HT.out (by rw [HN.out,HQ.out]; exact hgt))
  have HR:=Lib.hid hr
  clear hr
  go_enter Tryz.func180,Tryz.ntmps180
  go_wp2_with fail
  go_ret
  exact ⟨aq HR.out.symm,0,rfl⟩
 obtain rfl:n = p:=by omega
 clear hlt hgt
 go_enter Tryz.func180,Tryz.ntmps180
 go_wp2_with fail
 go_loopw [5] (fun i wr=>∃ q:Int,(∃ d,wr = w.drewN d)/\i = .int .i64 q/\-1 <= q/\q < n/\l.drop (q + 1).toNat = m.drop (q + 1).toNat) (fun i _=>(intOf i + 1).toNat)
 case atStart =>
  refine ⟨_,⟨0,rfl⟩,rfl,by omega,by omega,?_⟩
  rw [List.drop_eq_nil_of_le (by rw [HN.out]; omega),List.drop_eq_nil_of_le (by rw [HQ.out]; omega)]
 obtain ⟨q,⟨nd,rfl⟩,rfl,hq,hqn,hd⟩:=hrel
 have HD:=Lib.hid hd
 clear hd
 by_cases h0:q = -1
 ·subst h0
  go_wp2_with fail
  go_ret
  have he:l = m:=by simpa using HD.out
  exact ⟨aq (by rw [he,nP]),nd,rfl⟩
 obtain ⟨k,rfl⟩:∃ k:Nat,q = k:=⟨q.toNat,by omega⟩
 clear h0 hq
 have hkl:k < l.length:=by rw [HN.out]; omega
 have hkm:k < m.length:=by rw [HQ.out]; omega
 obtain ⟨x,hx⟩:∃ x,l[k]? = some x:=⟨_,List.getElem?_eq_getElem hkl⟩
 obtain ⟨y,hy⟩:∃ y,m[k]? = some y:=⟨_,List.getElem?_eq_getElem hkm⟩
 obtain ⟨b,off,rfl,hc⟩:∃ b off,A = some ⟨b,off,none⟩/\w.cell? ⟨b,off + k,none⟩ = some (.int .u32 (x:Int)):=by
  rcases HA.out with h | ⟨b,off,h,_,hc⟩
  ·subst h; simp at hkl
  exact ⟨b,off,h,hc k x hx⟩
 obtain ⟨b',off',rfl,hc'⟩:∃ b off,B = some ⟨b,off,none⟩/\w.cell? ⟨b,off + k,none⟩ = some (.int .u32 (y:Int)):=by
  rcases HB.out with h | ⟨b,off,h,_,hc⟩
  ·subst h; simp at hkm
  exact ⟨b,off,h,hc k y hy⟩
 have HX:=Lib.hid hx
 have HY:=Lib.hid hy
 clear hx hy hkl hkm
 have hd1:l.drop (k + 1) = m.drop (k + 1):=by
  have:=HD.out
  rwa [show ((k:Int) + 1).toNat = k + 1 by omega] at this
 have HE:=Lib.hid hd1
 clear hd1
 rcases Nat.lt_trichotomy x y with h | h | h
 ·have hne:((x:Int) != (y:Int)) = true:=by simp; omega
  have hr:=fP (kL HO.out HE.out HX.out HY.out h)
  have HR:=Lib.hid hr
  clear hr
  go_wp2_with fail
  go_quiet (fail)
  go_wp2_with fail
  go_quiet (fail)
  go_wp2_with fail
  go_ret
  exact ⟨aq HR.out.symm,_,by simp only [World.drewN_drewN]; rfl⟩
 ·subst h
  have hne:((x:Int) != (x:Int)) = false:=by simp
  go_wp2_with fail
  go_quiet (fail)
  go_wp2_with fail
  refine ⟨⟨(k:Int) - 1,⟨_,rfl⟩,rfl,by omega,by omega,?_⟩,by simp [intOf]⟩
  rw [show ((k:Int) - 1 + 1).toNat = k by omega]
  exact tP HX.out HY.out HE.out
 have hne:((x:Int) != (y:Int)) = true:=by simp; omega
 have hr:=ir (kL HP.out HE.out.symm HY.out HX.out h)
 have HR:=Lib.hid hr
 clear hr
 go_wp2_with fail
 go_quiet (fail)
 go_wp2_with fail
 go_quiet (fail)
 go_wp2_with fail
 go_ret
 exact ⟨aq HR.out.symm,_,by simp only [World.drewN_drewN]; rfl⟩
def jK (l m o:List Nat) (k c:Nat):Prop:=Ok o/\o.length = l.length/\c <= 1/\o.drop k = l.drop k/\val (o.take k) + val (m.take k) = val (l.take k) + 4294967296 ^ k * c

theorem jK.start (l m:List Nat)(h:Ok l):jK l m l 0 0:=⟨h,rfl,by omega,rfl,by simp [val]⟩

theorem jK.at_ {l m o:List Nat} {k c:Nat} (h:jK l m o k c):o.getD k 0 = l.getD k 0:=by
 have:=congrArg (fun x=>x.getD 0 0) h.2.2.2.1
 simpa [List.getD_eq_getElem?_getD] using this

theorem jK.step {l m o:List Nat} {k c x y:Nat} (h:jK l m o k c)(hx:o.getD k 0 = x)(hy:m.getD k 0 = y) (xl:x < 4294967296) (yl:y < 4294967296)(hk:k < l.length) :
  jK l m (o.set k ((x + 4294967296 - (c + y)) % 4294967296)) (k + 1) (if x < c + y then 1 else 0):=by
 have hx':l.getD k 0 = x:=by rw [<- h.at_]; exact hx
 obtain ⟨h1,h2,h3,h4,h5⟩:=h
 refine ⟨h1.set _ _ (Nat.mod_lt _ (by omega)),by simpa using h2,by split <;> omega,?_,?_⟩
 ·rw [List.drop_set_of_lt (by omega),<- List.drop_drop,<- List.drop_drop,h4]
 rw [dG o (by omega),cO,aL,aL,hx',hy,List.length_take,Nat.min_eq_left (by omega),Nat.pow_succ]
 split
 ·next hlt =>
  rw [Nat.mod_eq_of_lt (by omega)]
  obtain ⟨r,hr⟩:∃ r,x + 4294967296 = c + y + r:=⟨x + 4294967296 - (c + y),by omega⟩
  rw [hr,Nat.add_sub_cancel_left]
  have e2:4294967296 ^ k * (x + 4294967296) = 4294967296 ^ k * (c + y + r):=by rw [hr]
  grind
 next hlt =>
 obtain ⟨r,hr⟩:∃ r,x = c + y + r:=⟨x - (c + y),by omega⟩
 have:(x + 4294967296 - (c + y)) % 4294967296 = r:=by omega
 rw [this]
 have e2:4294967296 ^ k * x = 4294967296 ^ k * (c + y + r):=by rw [hr]
 grind

theorem jK.done {l m o:List Nat} {k c:Nat} (h:jK l m o k c)(ho:l.length = k)(hm:m.length <= k)(hle:val m <= val l):val o = val l - val m:=by
 obtain ⟨h1,h2,_,_,h3⟩:=h
 rw [aO (by omega),aO (by omega),aO (by omega)] at h3
 have a1:=eo o h1
 rw [h2,ho] at a1
 rcases Nat.eq_zero_or_pos c with h | h
 ·subst h; omega
 have:4294967296 ^ k * 1 <= 4294967296 ^ k * c:=Nat.mul_le_mul_left _ h
 omega

theorem fF {l m:List Nat} (hl:Ok l) (tm:cS m)(h:val m <= val l):m.length <= l.length:=by
 rcases Nat.lt_or_ge l.length m.length with h' | h'
 ·have:=bZ hl tm h'; omega
 exact h'

theorem MN (w:World) (va vb:Value) (a b k:Nat)(ha:ab w va a)(hb:ab w vb b) (la:a < 2 ^ k)(hle:b <= a)(hk:k <= 70368744177664) :
  Calls Tryz.prog 191 #[va,vb] w fun e w'=>∃ v',e = .returned v'/\ab w' v' (a - b)/\Below w.heap.size w w'/\bf v' w.heap.size:=by
 obtain ⟨l,dl,tl,rfl⟩:=ha
 obtain ⟨m,dm,tm,rfl⟩:=hb
 have ll:=tl.length_le la
 have hlen:=fF dl.2 tm hle
 have HLE:=Lib.hid hle
 have DL:=Lib.hid dl
 clear la tl hle
 have HO:=Lib.hid dl.2
 clear dl
 obtain ⟨okm,B,cb,rfl,hmc,hcm',hB⟩:=dm.open_
 clear dm
 have HB:=Lib.hid hB
 clear hB
 have HP:=Lib.hid okm
 clear okm
 obtain ⟨n,hn⟩:∃ n,l.length = n:=⟨_,rfl⟩
 obtain ⟨p,hp⟩:∃ p,m.length = p:=⟨_,rfl⟩
 rw [hn] at ll hlen
 rw [hp] at hmc hlen ⊢
 have HN:=Lib.hid hn
 have HQ:=Lib.hid hp
 clear hn hp
 have cl:∀ W,W = w->Calls Tryz.prog 179 #[va] W fun e w'=>∃ v',e = .returned v'/\Sl w' 1 v' n (l.map dg)/\Below W.heap.size W w'/\∃ base,W.heap.size <= base/\w'.ownsRow base 199 1 v' n (l.map dg):=by
  intro W hW
  rw [hW]
  have:=fQ w va l.length (l.map dg) DL.out.1 (mD l) (by rw [HN.out]; omega)
  rwa [HN.out] at this
 have CL:=Lib.hid cl
 clear cl
 go_enter Tryz.func191,Tryz.ntmps191
 go_wp2_with (go_at_call 179; refine (CL.out _ rfl).mono ?_; rintro e w1 ⟨v1,rfl,hv1,hb1,base,hbase,hown⟩)
 obtain ⟨A,c,rfl,hnc,hcm,hln,hod⟩:=OD.of_own hown
 have HOD:=Lib.hid hod
 have HB1:=Lib.hid hb1
 clear hown hv1 hod hb1 hln
 go_wp2_with fail
 go_simp
 go_wp2_with fail
 go_loopw [6,14] (fun bo i wr=>∃ (k cc:Nat) (o:List Nat),i = .int .i64 k/\bo = .int .u64 cc/\k <= n/\jK l m o k cc/\OD wr base A o/\Below w.heap.size w wr)
   (fun _ i _=>n - (intOf i).toNat)
 case atStart=>exact ⟨0,0,l,rfl,rfl,by omega,jK.start l m HO.out,HOD.out,HB1.out⟩
 obtain ⟨k,cc,o,rfl,rfl,hk,hs,hod,hbel⟩:=hrel
 have hcc:=hs.2.2.1
 have HS:=Lib.hid hs
 have HOD:=Lib.hid hod
 have ho:=hs.2.1
 rw [HN.out] at ho
 have HL:=Lib.hid ho
 clear hs hod ho
 by_cases hlt:k < n
 ·obtain ⟨x,hx⟩:∃ x,o.getD k 0 = x:=⟨_,rfl⟩
  obtain ⟨y,hy⟩:∃ y,m.getD k 0 = y:=⟨_,rfl⟩
  have hx0:x < 4294967296:=by rw [<- hx]; exact HS.out.1.getD k
  have hy0:y < 4294967296:=by rw [<- hy]; exact HP.out.getD k
  obtain ⟨g,rfl,hg,hdb⟩:=HOD.out.at_ (k:=k) (by rw [HL.out]; exact hlt)
  have hz:=hdb.cell (k:=k) (by rw [HL.out]; exact hlt)
  rw [hx] at hz
  have hfz:=hdb.frozen k
  have step:=HS.out.step hx hy hx0 hy0 (by rw [HN.out]; exact hlt)
  have STEP:=Lib.hid step
  have HDB:=Lib.hid hdb
  have hcy:=bL HB.out HQ.out hbel k y hy
  have HB2:=Lib.hid hbel
  clear hx hy step hdb hbel
  have close:∀ E F:Int,E = ((x + 4294967296 - (cc + y)) % 4294967296:Nat)->F = ((if x < cc + y then 1 else 0:Nat):Int)->(∃ (k' cc':Nat) (o':List Nat),Value.int .i64 ((k:Int) + 1) = .int .i64 k'/\Value.int .u64 F = .int .u64 cc'/\k' <= n/\jK l m o' k' cc'/\OD (wr.setCell ⟨g,k,none⟩ (.int .u32 E)) base (some ⟨g,0,none⟩) o'/\Below w.heap.size w (wr.setCell ⟨g,k,none⟩ (.int .u32 E)))/\n - (intOf (Value.int .i64 ((k:Int) + 1))).toNat < n - (intOf (Value.int .i64 (k:Int))).toNat:=by
   intro E F hE hF
   exact ⟨⟨k + 1,_,_,rfl,ez hF,by omega,STEP.out,.inr ⟨g,rfl,hg,HDB.out.set (by rw [HL.out]; exact hlt) hE⟩,HB2.out.setCell (p:=⟨g,k,none⟩) (Nat.le_trans hbase hg) _⟩,by simp [intOf]; omega⟩
  have CLOSE:=Lib.hid close
  clear close
  rcases hcy with ⟨h2,b',off',rfl,hb',hc2⟩ | ⟨h2,hy⟩
  ·by_cases hxy:x < cc + y
   ·go_wp2_with fail
    exact CLOSE.out _ _ (by omega) (by rw [if_pos hxy]; rfl)
   go_wp2_with fail
   exact CLOSE.out _ _ (by omega) (by rw [if_neg hxy]; rfl)
  by_cases hxy:x < cc
  ·go_wp2_with fail
   exact CLOSE.out _ _ (by omega) (by rw [if_pos (by omega)]; rfl)
  go_wp2_with fail
  exact CLOSE.out _ _ (by omega) (by rw [if_neg (by omega)]; rfl)
 obtain rfl:k = n:=by omega
 have hd:=HOD.out.digAt HS.out.1 HL.out hnc hcm
 have hv:=HS.out.done HN.out (by rw [HQ.out]; omega) HLE.out
 have HD:=Lib.hid hd
 have HV:=Lib.hid hv
 have HB2:=Lib.hid hbel
 clear hd hv hbel
 go_wp2_with (go_at_call 185; refine (jY _ _ o HD.out (by rw [HL.out]; omega)).mono ?_; rintro e w' ⟨v',rfl,hv,hb,hf⟩)
 go_ret
 rw [HV.out] at hv
 exact ⟨v',rfl,hv,HB2.out.trans (hb.mono HB2.out.size),hf.mono HB2.out.size⟩
theorem sub (w:World) (va vb:Value) (a b k:Nat)(ha:ab w va a)(hb:ab w vb b) (la:a < 2 ^ k)(hle:b <= a)(hk:k <= 70368744177664) :
  Calls Tryz.prog 191 #[va,vb] w fun e w'=>∃ v',e = .returned v'/\ab w' v' (a - b)/\Below w.heap.size w w' :=
 (MN w va vb a b k ha hb la hle hk).mono fun _ _ ⟨v',h1,h2,h3,_⟩=>⟨v',h1,h2,h3⟩
end Go.Proofs.YtkdhppimhdemjaaGreat
