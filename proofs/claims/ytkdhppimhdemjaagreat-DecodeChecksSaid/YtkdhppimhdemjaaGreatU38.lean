/- Lemmas on the way: Jz1, Dc2, Dn1, Dn2, Jr0, Jr1, Jr2, Jr3, Jm1. -/
import Derived.Test.YtkdhppimhdemjaaGreatU37
import Derived.RangeFuncBound
import Derived.RangeFuncCalls
set_option linter.all false
set_option maxRecDepth 1000000
set_option maxHeartbeats 32000000
namespace Go.Proofs.YtkdhppimhdemjaaGreat
open Go.RowKit
section
theorem ax {a b:Prop} (h:a) (k:b):a/\b:=⟨h,k⟩
section
variable {bb:Nat} {P:Program} {X:dY} {E:Ev} {f:FuncId} {n:Nat} {T:Tr AV} {rd:Option Nat} {ms:List Nat} {s:St} {Q:Ex->Fr->St->Prop} {id:Nat} {ops:Array Oper}
theorem rg {A:Prop} (M:Mc P X E) (a:A) {b:Code} {T':Tr AV} {s':St} (h2:Jb bb P b ⟨f,n,T',rd,ms⟩ s' Q)(h1:A->∀ (K:Tr AV->St->Prop) (gl:List (Option Tmp)),ops.toList.map (·.dst) = gl->K T' s'->iH P X E n gl ops.toList T s K:=by (intro hA K gl hgl hK; simp only [Nq] at hgl; subst hgl; simp (maxSteps:=1000000) (disch:=omega) only [↓FG,↓FF,Ej,Nat.reduceEqDiff,↓reduceIte,Nat.reduceLT,Nat.reduceAdd,qy,qx,Bool.true_or,Bool.or_true,Nat.sub_zero,Int.toNat_natCast,hA]; exact hK)):Jb bb P (.seq (.region id ops false) b) ⟨f,n,T,rd,ms⟩ s Q:=Jd.regS M (h1 a) h2
theorem aZ (M:Mc P X E) {b:Code} {T':Tr AV} {s':St} (h2:Jb bb P b ⟨f,n,T',rd,ms⟩ s' Q)(h1:∀ (K:Tr AV->St->Prop) (gl:List (Option Tmp)),ops.toList.map (·.dst) = gl->K T' s'->iH P X E n gl ops.toList T s K:=by (intro K gl hgl hK; simp only [Nq] at hgl; subst hgl; simp (maxSteps:=1000000) (disch:=omega) only [↓FG,↓FF,Ej,Nat.reduceEqDiff,↓reduceIte,Nat.reduceLT,Nat.reduceAdd,qy,qx,Bool.true_or,Bool.or_true,Nat.sub_zero,Int.toNat_natCast]; exact hK)):Jb bb P (.seq (.region id ops false) b) ⟨f,n,T,rd,ms⟩ s Q:=Jd.regS M h1 h2
theorem rq {A:Prop} (M:Mc P X E) (a:A) {T':Tr AV} {s':St} (h2:Q .normal ⟨f,n,T',rd,ms⟩ s')(h1:A->∀ (K:Tr AV->St->Prop) (gl:List (Option Tmp)),ops.toList.map (·.dst) = gl->K T' s'->iH P X E n gl ops.toList T s K:=by (intro hA K gl hgl hK; simp only [Nq] at hgl; subst hgl; simp (maxSteps:=1000000) (disch:=omega) only [↓FG,↓FF,Ej,Nat.reduceEqDiff,↓reduceIte,Nat.reduceLT,Nat.reduceAdd,qy,qx,Bool.true_or,Bool.or_true,Nat.sub_zero,Int.toNat_natCast,hA]; exact hK)):Jb bb P (.region id ops false) ⟨f,n,T,rd,ms⟩ s Q:=Jd.regQ M (h1 a) h2
theorem nZ (M:Mc P X E) {T':Tr AV} {s':St} (h2:Q .normal ⟨f,n,T',rd,ms⟩ s')(h1:∀ (K:Tr AV->St->Prop) (gl:List (Option Tmp)),ops.toList.map (·.dst) = gl->K T' s'->iH P X E n gl ops.toList T s K:=by (intro K gl hgl hK; simp only [Nq] at hgl; subst hgl; simp (maxSteps:=1000000) (disch:=omega) only [↓FG,↓FF,Ej,Nat.reduceEqDiff,↓reduceIte,Nat.reduceLT,Nat.reduceAdd,qy,qx,Bool.true_or,Bool.or_true,Nat.sub_zero,Int.toNat_natCast]; exact hK)):Jb bb P (.region id ops false) ⟨f,n,T,rd,ms⟩ s Q:=Jd.regQ M h1 h2
theorem dr {A:Prop} (M:Mc P X E) (ex:List (Nat × Nat)) (a:A) {b:Code} {T':Tr AV} {s':St} (h2:Jb bb P b ⟨f,n,T',rd,ms⟩ s' Q)
  (hst:(match eW ops.toList with | some M=>ex.all (fun p=>match M.get p.1 with | some m=>m.testBit p.2 | none=>false) | none=>false) = true:=by kernel_rfl)
  (h1:A->∀ (K:Tr AV->St->Prop) (gl:List (Option Tmp)),ops.toList.map (·.dst) = gl->K T' s'->r5 P X E n gl ex 0 ops.toList T s [] [] K:=by (intro hA K gl hgl hK; simp only [Nq] at hgl; subst hgl; simp (maxSteps:=1000000) (disch:=omega) only [↓FG,↓FF,Ej,Nat.reduceEqDiff,↓reduceIte,Nat.reduceLT,Nat.reduceAdd,qy,qx,Bool.true_or,Bool.or_true,Nat.sub_zero,Int.toNat_natCast,hA]; exact hK)):Jb bb P (.seq (.region id ops true) b) ⟨f,n,T,rd,ms⟩ s Q:=Jd.drwS M ex hst (h1 a) h2
theorem cT {l:List (Nat × AV)} {a b:Code} {x:Operand} (hx:CT l x = some (.b true))(h:Jb bb P a ⟨f,n,Tr.of l,rd,ms⟩ s Q):Jb bb P (.cond x a b) ⟨f,n,Tr.of l,rd,ms⟩ s Q:=Jd.cnd hx (fun _=>h) (fun e=>by cases e)
theorem cF {l:List (Nat × AV)} {a b:Code} {x:Operand} (hx:CT l x = some (.b false))(h:Jb bb P b ⟨f,n,Tr.of l,rd,ms⟩ s Q):Jb bb P (.cond x a b) ⟨f,n,Tr.of l,rd,ms⟩ s Q:=Jd.cnd hx (fun e=>by cases e) (fun _=>h)
theorem lF {l:List (Nat × AV)} {a:Code} {x:Operand} {K:Fr->St->Prop} (hx:CT l x = some (.b false))(h:K ⟨f,n,Tr.of l,rd,ms⟩ s):Jb bb P (.cond x a .skip) ⟨f,n,Tr.of l,rd,ms⟩ s (iE K Q):=cF hx (Jd.skip h)
end
abbrev Oc:=List (FuncId × (List AV->St->Option (AV × St)))
theorem sU {P:Program} {L:Oc} {f:FuncId} {g:List AV->St->Option (AV × St)} (h:pick f L = some g) (a:List AV) (s:St):(Ev.at_ P (df L) 1).call f a s = g a s:=by
 have e:(Ev.at_ P (df L) 1).call = pC P (df L) (Ev.at_ P (df L) 0):=rfl
 rw [e]
 unfold pC
 rw [show (df L).orc f = some g from h]
def sD:Oc->Prop
 | []=>True
 | [p]=>ag Tryz.prog p.1 p.2
 | p :: q :: l=>ag Tryz.prog p.1 p.2/\sD (q :: l)
def vc:Oc->Bool
 | []=>true
 | p :: l=>(l.all fun q=>!Nat.beq q.1 p.1) && vc l
theorem sD.all:∀ {L:Oc},sD L->∀ p ∈ L,ag Tryz.prog p.1 p.2
 | [p],h,q,hq=>by rw [List.mem_singleton.1 hq]; exact h
 | p :: q :: l,h,r,hr=>by
  rcases List.mem_cons.1 hr with rfl | hr
  ·exact h.1
  exact sD.all h.2 r hr
theorem wF:∀ {L:Oc},vc L = true->∀ p ∈ L,pick p.1 L = some p.2
 | p :: l,h,q,hq=>by
  simp only [vc,Bool.and_eq_true,List.all_eq_true] at h
  unfold pick
  rcases List.mem_cons.1 hq with rfl | hq
  ·rw [jh]; rfl
  have:=h.1 q hq
  simp only [Bool.not_eq_true'] at this
  rw [this]
  exact wF h.2 q hq
theorem Nh (L:Oc)(hA:sD L)(hd:vc L = true):∃ E,Mc Tryz.prog (df L) E/\∀ p ∈ L,∀ a s,E.call p.1 a s = p.2 a s :=
 ⟨_,pn i6 ju hA.all,fun p hp=>sU (wF hd p hp)⟩
abbrev Ca:=List AV->St->Option (AV × St)
abbrev Cl (E:Ev) (f:FuncId) (g:Ca):Prop:=∀ a s,E.call f a s = g a s
theorem i3 {a:FuncId} (a':Ca)(hA:sD [(a,a')])(hd:vc [(a,a')] = true):∃ E,Mc Tryz.prog (df [(a,a')]) E/\Cl E a a':=by
 obtain ⟨E,M,h⟩:=Nh [(a,a')] (by exact hA) hd
 exact ⟨E,M,h _ (.head _)⟩
theorem y8 {a b:FuncId} (a' b':Ca)(hA:sD [(a,a'),(b,b')])(hd:vc [(a,a'),(b,b')] = true):∃ E,Mc Tryz.prog (df [(a,a'),(b,b')]) E/\Cl E a a'/\Cl E b b':=by
 obtain ⟨E,M,h⟩:=Nh [(a,a'),(b,b')] (by exact hA) hd
 exact ⟨E,M,h _ (.head _),h _ (.tail _ (.head _))⟩
theorem Lp {a b c:FuncId} (a' b' c':Ca)(hA:sD [(a,a'),(b,b'),(c,c')])(hd:vc [(a,a'),(b,b'),(c,c')] = true):∃ E,Mc Tryz.prog (df [(a,a'),(b,b'),(c,c')]) E/\Cl E a a'/\Cl E b b'/\Cl E c c':=by
 obtain ⟨E,M,h⟩:=Nh [(a,a'),(b,b'),(c,c')] (by exact hA) hd
 exact ⟨E,M,h _ (.head _),h _ (.tail _ (.head _)),h _ (.tail _ (.tail _ (.head _)))⟩
theorem Lo {a b c d:FuncId} (a' b' c' d':Ca)(hA:sD [(a,a'),(b,b'),(c,c'),(d,d')])(hd:vc [(a,a'),(b,b'),(c,c'),(d,d')] = true):∃ E,Mc Tryz.prog (df [(a,a'),(b,b'),(c,c'),(d,d')]) E/\Cl E a a'/\Cl E b b'/\Cl E c c'/\Cl E d d':=by
 obtain ⟨E,M,h⟩:=Nh [(a,a'),(b,b'),(c,c'),(d,d')] (by exact hA) hd
 exact ⟨E,M,h _ (.head _),h _ (.tail _ (.head _)),h _ (.tail _ (.tail _ (.head _))),h _ (.tail _ (.tail _ (.tail _ (.head _))))⟩
theorem Ox {a b c d e:FuncId} (a' b' c' d' e':Ca)(hA:sD [(a,a'),(b,b'),(c,c'),(d,d'),(e,e')])(hd:vc [(a,a'),(b,b'),(c,c'),(d,d'),(e,e')] = true):∃ E,Mc Tryz.prog (df [(a,a'),(b,b'),(c,c'),(d,d'),(e,e')]) E/\Cl E a a'/\Cl E b b'/\Cl E c c'/\Cl E d d'/\Cl E e e':=by
 obtain ⟨E,M,h⟩:=Nh [(a,a'),(b,b'),(c,c'),(d,d'),(e,e')] (by exact hA) hd
 exact ⟨E,M,h _ (.head _),h _ (.tail _ (.head _)),h _ (.tail _ (.tail _ (.head _))),h _ (.tail _ (.tail _ (.tail _ (.head _)))),h _ (.tail _ (.tail _ (.tail _ (.tail _ (.head _)))))⟩
theorem qX:∃ E,Mc Tryz.prog (df []) E:=⟨_,pn i6 ju (fun p hp=>by cases hp)⟩
end
section
def Kp (L:Oc) (cv:AV) (asn:List AV) (b:Bool):Prop:=match cv with
 | .fn f fs cs=>∃ g,pick f L = some g/\∀ s,g (fs ++ asn ++ cs) s = some (.b b,s)
 | _=>False
theorem gP {P:Program} {L:Oc} {cv:AV} {asn:List AV} {b:Bool} (h:Kp L cv asn b) (s:St):rL (Ev.at_ P (df L) 1) cv asn s = some (.b b,s):=by
 cases cv <;> simp only [Kp] at h
 obtain ⟨g,h1,h2⟩:=h
 show (Ev.at_ P (df L) 1).call _ _ s = _
 rw [sU h1,h2]
theorem Ny {L:Oc} {cv:AV} {asn:List AV} {b c:Bool} (h:Kp L cv asn b) (k:Kp L cv asn c):b = c:=by
 have h1:=(gP (P:=default) h ⟨.nil,0⟩).symm.trans (gP k ⟨.nil,0⟩)
 simpa using h1
section
variable {α:Type}
def ja (p:α->Bool):List α->Nat->Int
 | [],_=>-1
 | x :: l,i=>cond (p x) (i:Int) (ja p l (i + 1))
theorem fV (p:α->Bool):∀ (l:List α) (i:Nat),decide (ja p l i ≥ 0) = l.any p
 | [],_=>rfl
 | x :: l,i=>by
  unfold ja
  rw [List.any_cons]
  cases p x with
  | true=>simp
  | false=>exact fV p l (i + 1)
theorem rf {p q:α->Bool}:∀ {l:List α} (i:Nat),(∀ x ∈ l,p x = q x)->ja p l i = ja q l i
 | [],_,_=>rfl
 | x :: l,i,h=>by
  unfold ja
  rw [h x List.mem_cons_self,rf (i + 1) fun y hy=>h y (List.mem_cons_of_mem _ hy)]
theorem i9 {p:α->Bool} {l:List α} {i:Nat} {x:α} (hx:l[i]? = some x):ja p (l.drop i) i = cond (p x) (i:Int) (ja p (l.drop (i + 1)) (i + 1)):=by
 obtain ⟨hl,h⟩:=List.getElem?_eq_some_iff.1 hx
 rw [List.drop_eq_getElem_cons hl,h]
 rfl
def kw (p:α->Bool) (l:List α):AV:=.i .i64 (ja p l 0)
def pP (p:α->Bool) (l:List α):AV:=.b (l.any p)
def CV (L:Oc) (cell:α->List AV) (el:α->AV) (res:(α->Bool)->List α->AV) (args:List AV) (v:AV):Prop :=
 ∃ (l:List α) (cv:AV) (p:α->Bool),args = [.vw (l.flatMap cell) l.length,cv]/\bare cv = true/\l.length <= 9223372036854775807/\(∀ x ∈ l,Kp L cv [el x] (p x))/\v = res p l
variable {L:Oc} {cell:α->List AV} {el:α->AV} {z:Nat} {l:List α} {cv:AV} {p:α->Bool}
theorem Ko {res:(α->Bool)->List α->AV} (hz:∀ x,(cell x).length = z)(hi:∀ x y,cell x = cell y->x = y)(hres:∀ p q l,(∀ x ∈ l,p x = q x)->res p l = res q l)
  (hb:bare cv = true)(hl:l.length <= 9223372036854775807)(hp:∀ x ∈ l,Kp L cv [el x] (p x)):relV (CV L cell el res) [.vw (l.flatMap cell) l.length,cv] = some (res p l):=by
 refine Hx ?_ ⟨l,cv,p,rfl,hb,hl,hp,rfl⟩
 rintro v' ⟨l',cv',p',e,_,_,hp',rfl⟩
 simp only [List.cons.injEq,AV.vw.injEq,and_true] at e
 obtain ⟨⟨e1,e2⟩,rfl⟩:=e
 obtain rfl:=oH hz hi e2 e1
 exact hres _ _ _ fun x hx=>Ny (hp' x hx) (hp x hx)
theorem xp (hz:∀ x,(cell x).length = z)(hi:∀ x y,cell x = cell y->x = y)(hb:bare cv = true)(hl:l.length <= 9223372036854775807)(hp:∀ x ∈ l,Kp L cv [el x] (p x)) (s:St):ae (relV (CV L cell el kw)) [.vw (l.flatMap cell) l.length,cv] s = some (.i .i64 (ja p l 0),s) :=
 eY (Ko hz hi (fun p q l h=>by unfold kw; rw [rf 0 h]) hb hl hp) s
theorem pD (hz:∀ x,(cell x).length = z)(hi:∀ x y,cell x = cell y->x = y)(hb:bare cv = true)(hl:l.length <= 9223372036854775807)(hp:∀ x ∈ l,Kp L cv [el x] (p x)) (s:St):ae (relV (CV L cell el pP)) [.vw (l.flatMap cell) l.length,cv] s = some (.b (l.any p),s) :=
 eY (Ko hz hi (fun p q l h=>by unfold pP; rw [<- fV p l 0,<- fV q l 0,rf 0 h]) hb hl hp) s
end
end
def fY (x:Int):List AV:=[.i .i64 x]
theorem lq (x:Int):(fY x).length = 1:=rfl
theorem oQ (x y:Int)(h:fY x = fY y):x = y:=by simpa [fY] using h
noncomputable abbrev idxVI (L:Oc):=relV (CV L fY (fun x:Int=>.i .i64 x) kw)
noncomputable abbrev anyVI (L:Oc):=relV (CV L fY (fun x:Int=>.i .i64 x) pP)
theorem JN (L:Oc)(hL:∀ p ∈ L,ag Tryz.prog p.1 p.2):ag Tryz.prog 154 (ae (idxVI L)):=by
 refine ai (by kernel_rfl) Tryz.func154 Tryz.ntmps154 rfl ?_
 have M:Mc Tryz.prog (df L) (Ev.at_ Tryz.prog (df L) 1):=pn i6 ju hL
 intro args v h
 obtain ⟨l,cv,p,rfl,hb,hn,hp,rfl⟩:=dI h
 refine ⟨by simp only [aE,bare,hb]; rfl,rfl,Nat.le_of_ble_eq_true rfl,?_⟩
 rw [bS,St.of_nil]
 refine aZ M ?_
 refine Jd.seq ?_
 refine aZ M ?_
 refine Jd.loopB (fun k g s=>∃ i:Nat,i + k = l.length/\ja p l 0 = ja p (l.drop i) i/\g = ⟨154,19,Tr.of [(8,.i .i64 (i:Int)),(7,.i .i64 (l.length:Int)),(6,.vw (l.flatMap fY) l.length),(1,cv),(0,.vw (l.flatMap fY) l.length)],none,[]⟩/\s = St.of [] 0) l.length ?_ ?_
 ·exact ⟨_,_,(To.ofL (nx2:=0) [] [(8,.i .i64 ((0:Nat):Int)),(7,.i .i64 (l.length:Int)),(6,.vw (l.flatMap fY) l.length),(1,cv),(0,.vw (l.flatMap fY) l.length)] [] rfl (by decide) (by first | exact aY | exact base_one | exact base_two) (by repeat' first | exact trivial | refine ⟨⟨_,rfl,by first | exact Wk.bare hb | exact Wk.refl _ _ | exact Wk.bare rfl | exact Wk.zero _ | exact Wk.none _⟩,?_⟩) (trivial)),0,by omega,rfl,rfl,rfl⟩
 rintro k _ _ ⟨i,hi,hq,rfl,rfl⟩ Q' hex hret hgo
 refine aZ M ?_
 refine Jd.seq ?_
 refine Jd.cnd rfl (fun h1=>?_) (fun h1=>?_)
 rotate_left
 ·refine Jd.exitT (hex _ _ ?_)
  show Jb _ _ _ _ _ _
  have hi2:i = l.length:=by have:=of_decide_eq_false h1; omega
  subst hi2
  refine aZ M ?_
  refine Jd.ret (aA.one rfl rfl ?_)
  rw [kw,hq,List.drop_length]
  rfl
 have hil:i < l.length:=by have:=of_decide_eq_true h1; omega
 obtain ⟨x,hx⟩:∃ x,l[i]? = some x:=⟨_,List.getElem?_eq_getElem hil⟩
 rw [i9 hx] at hq
 have hw:=gP (P:=Tryz.prog) (hp x (List.mem_of_getElem? hx))
 dsimp only at hw
 have hg:(l.flatMap fY)[i]? = some (.i .i64 x):=by have:=rp lq hx (by omega); rwa [Nat.mul_one] at this
 refine Jd.skipT ?_
 refine Jd.seq (Jd.block ?_)
 clear hex
 refine aZ M ?_
 obtain ⟨e,he⟩:∃ e,p x = e:=⟨_,rfl⟩
 rw [he] at hw hq
 refine rg M (ax @Int.toNat_natCast (ax @hg @hw)) ?_
 cases e with
 | true =>
  refine cT rfl ?_
  refine aZ M ?_
  refine Jd.ret ?_
  refine hret _ _ ?_
  refine iE.r (aA.one rfl rfl ?_)
  rw [kw,hq]
  rfl
 | false =>
  refine cF rfl ?_
  refine Jd.skip ?_
  refine dX.norm ?_
  show Jb _ _ _ _ _ _
  refine nZ M ?_
  exact hgo _ _ ⟨k - 1,_,_,by omega,(To.ofL (nx2:=0) [] [(8,.i .i64 ((i + 1:Nat):Int)),(7,.i .i64 (l.length:Int)),(6,.vw (l.flatMap fY) l.length),(1,cv),(0,.vw (l.flatMap fY) l.length)] [] rfl (by decide) (by first | exact aY | exact base_one | exact base_two) (by repeat' first | exact trivial | refine ⟨⟨_,rfl,by first | exact Wk.bare hb | exact Wk.refl _ _ | exact Wk.bare rfl | exact Wk.zero _ | exact Wk.none _⟩,?_⟩) (trivial)),i + 1,by omega,hq,rfl,rfl⟩
theorem BH (L:Oc)(hL:∀ p ∈ L,ag Tryz.prog p.1 p.2):ag Tryz.prog 79 (ae (anyVI L)):=by
 obtain ⟨E,M,c1⟩:=i3 (ae (idxVI L)) (JN L hL) rfl
 refine ai (by kernel_rfl) Tryz.func79 Tryz.ntmps79 rfl ?_
 intro args v h
 obtain ⟨l,cv,p,rfl,hb,hn,hp,rfl⟩:=dI h
 refine ⟨by simp only [aE,bare,hb]; rfl,rfl,Nat.le_of_ble_eq_true rfl,?_⟩
 have hi:=xp lq oQ hb hn hp
 rw [bS,St.of_nil]
 refine aZ M ?_
 refine rg M (ax @c1 @hi) ?_
 exact Jd.ret (aA.one rfl rfl (by rw [pP,<- fV p l 0]))
def fX (x:MD):List AV:=mC x
theorem je (x:MD):(fX x).length = 4:=rfl
theorem lp (x y:MD)(h:fX x = fX y):x = y:=ox x y h
noncomputable abbrev idxVM (L:Oc):=relV (CV L fX (fun x:MD=>.agg (mC x)) kw)
noncomputable abbrev anyVM (L:Oc):=relV (CV L fX (fun x:MD=>.agg (mC x)) pP)
theorem JL (L:Oc)(hL:∀ p ∈ L,ag Tryz.prog p.1 p.2):ag Tryz.prog 164 (ae (idxVM L)):=by
 refine ai (by kernel_rfl) Tryz.func164 Tryz.ntmps164 rfl ?_
 have M:Mc Tryz.prog (df L) (Ev.at_ Tryz.prog (df L) 1):=pn i6 ju hL
 intro args v h
 obtain ⟨l,cv,p,rfl,hb,hn,hp,rfl⟩:=dI h
 refine ⟨by simp only [aE,bare,hb]; rfl,rfl,Nat.le_of_ble_eq_true rfl,?_⟩
 rw [bS,St.of_nil]
 refine aZ M ?_
 refine Jd.seq ?_
 refine aZ M ?_
 refine Jd.loopB (fun k g s=>∃ i:Nat,i + k = l.length/\ja p l 0 = ja p (l.drop i) i/\g = ⟨164,19,Tr.of [(8,.i .i64 (i:Int)),(7,.i .i64 (l.length:Int)),(6,.vw (l.flatMap fX) l.length),(1,cv),(0,.vw (l.flatMap fX) l.length)],none,[]⟩/\s = St.of [] 0) l.length ?_ ?_
 ·exact ⟨_,_,(To.ofL (nx2:=0) [] [(8,.i .i64 ((0:Nat):Int)),(7,.i .i64 (l.length:Int)),(6,.vw (l.flatMap fX) l.length),(1,cv),(0,.vw (l.flatMap fX) l.length)] [] rfl (by decide) (by first | exact aY | exact base_one | exact base_two) (by repeat' first | exact trivial | refine ⟨⟨_,rfl,by first | exact Wk.bare hb | exact Wk.refl _ _ | exact Wk.bare rfl | exact Wk.zero _ | exact Wk.none _⟩,?_⟩) (trivial)),0,by omega,rfl,rfl,rfl⟩
 rintro k _ _ ⟨i,hi,hq,rfl,rfl⟩ Q' hex hret hgo
 refine aZ M ?_
 refine Jd.seq ?_
 refine Jd.cnd rfl (fun h1=>?_) (fun h1=>?_)
 rotate_left
 ·refine Jd.exitT (hex _ _ ?_)
  show Jb _ _ _ _ _ _
  have hi2:i = l.length:=by have:=of_decide_eq_false h1; omega
  subst hi2
  refine aZ M ?_
  refine Jd.ret (aA.one rfl rfl ?_)
  rw [kw,hq,List.drop_length]
  rfl
 have hil:i < l.length:=by have:=of_decide_eq_true h1; omega
 obtain ⟨x,hx⟩:∃ x,l[i]? = some x:=⟨_,List.getElem?_eq_getElem hil⟩
 rw [i9 hx] at hq
 have hw:=gP (P:=Tryz.prog) (hp x (List.mem_of_getElem? hx))
 dsimp only at hw
 have hg:getR (l.flatMap fX) (i * 4) 4 = some (mC x):=fg je hx
 refine Jd.skipT ?_
 refine Jd.seq (Jd.block ?_)
 clear hex
 refine aZ M ?_
 obtain ⟨e,he⟩:∃ e,p x = e:=⟨_,rfl⟩
 rw [he] at hw hq
 refine rg M (ax @Int.toNat_natCast (ax @hg @hw)) ?_
 cases e with
 | true =>
  refine cT rfl ?_
  refine aZ M ?_
  refine Jd.ret ?_
  refine hret _ _ ?_
  refine iE.r (aA.one rfl rfl ?_)
  rw [kw,hq]
  rfl
 | false =>
  refine cF rfl ?_
  refine Jd.skip ?_
  refine dX.norm ?_
  show Jb _ _ _ _ _ _
  refine nZ M ?_
  exact hgo _ _ ⟨k - 1,_,_,by omega,(To.ofL (nx2:=0) [] [(8,.i .i64 ((i + 1:Nat):Int)),(7,.i .i64 (l.length:Int)),(6,.vw (l.flatMap fX) l.length),(1,cv),(0,.vw (l.flatMap fX) l.length)] [] rfl (by decide) (by first | exact aY | exact base_one | exact base_two) (by repeat' first | exact trivial | refine ⟨⟨_,rfl,by first | exact Wk.bare hb | exact Wk.refl _ _ | exact Wk.bare rfl | exact Wk.zero _ | exact Wk.none _⟩,?_⟩) (trivial)),i + 1,by omega,hq,rfl,rfl⟩
theorem BG (L:Oc)(hL:∀ p ∈ L,ag Tryz.prog p.1 p.2):ag Tryz.prog 89 (ae (anyVM L)):=by
 obtain ⟨E,M,c1⟩:=i3 (ae (idxVM L)) (JL L hL) rfl
 refine ai (by kernel_rfl) Tryz.func89 Tryz.ntmps89 rfl ?_
 intro args v h
 obtain ⟨l,cv,p,rfl,hb,hn,hp,rfl⟩:=dI h
 refine ⟨by simp only [aE,bare,hb]; rfl,rfl,Nat.le_of_ble_eq_true rfl,?_⟩
 have hi:=xp je lp hb hn hp
 rw [bS,St.of_nil]
 refine aZ M ?_
 refine rg M (ax @c1 @hi) ?_
 exact Jd.ret (aA.one rfl rfl (by rw [pP,<- fV p l 0]))
def jd (x:VD):List AV:=vC x
theorem oO (x:VD):(jd x).length = 4:=rfl
theorem uc (x y:VD)(h:jd x = jd y):x = y:=yH x y h
noncomputable abbrev idxVV (L:Oc):=relV (CV L jd (fun x:VD=>.agg (vC x)) kw)
noncomputable abbrev anyVV (L:Oc):=relV (CV L jd (fun x:VD=>.agg (vC x)) pP)
theorem JK (L:Oc)(hL:∀ p ∈ L,ag Tryz.prog p.1 p.2):ag Tryz.prog 167 (ae (idxVV L)):=by
 refine ai (by kernel_rfl) Tryz.func167 Tryz.ntmps167 rfl ?_
 have M:Mc Tryz.prog (df L) (Ev.at_ Tryz.prog (df L) 1):=pn i6 ju hL
 intro args v h
 obtain ⟨l,cv,p,rfl,hb,hn,hp,rfl⟩:=dI h
 refine ⟨by simp only [aE,bare,hb]; rfl,rfl,Nat.le_of_ble_eq_true rfl,?_⟩
 rw [bS,St.of_nil]
 refine aZ M ?_
 refine Jd.seq ?_
 refine aZ M ?_
 refine Jd.loopB (fun k g s=>∃ i:Nat,i + k = l.length/\ja p l 0 = ja p (l.drop i) i/\g = ⟨167,19,Tr.of [(8,.i .i64 (i:Int)),(7,.i .i64 (l.length:Int)),(6,.vw (l.flatMap jd) l.length),(1,cv),(0,.vw (l.flatMap jd) l.length)],none,[]⟩/\s = St.of [] 0) l.length ?_ ?_
 ·exact ⟨_,_,(To.ofL (nx2:=0) [] [(8,.i .i64 ((0:Nat):Int)),(7,.i .i64 (l.length:Int)),(6,.vw (l.flatMap jd) l.length),(1,cv),(0,.vw (l.flatMap jd) l.length)] [] rfl (by decide) (by first | exact aY | exact base_one | exact base_two) (by repeat' first | exact trivial | refine ⟨⟨_,rfl,by first | exact Wk.bare hb | exact Wk.refl _ _ | exact Wk.bare rfl | exact Wk.zero _ | exact Wk.none _⟩,?_⟩) (trivial)),0,by omega,rfl,rfl,rfl⟩
 rintro k _ _ ⟨i,hi,hq,rfl,rfl⟩ Q' hex hret hgo
 refine aZ M ?_
 refine Jd.seq ?_
 refine Jd.cnd rfl (fun h1=>?_) (fun h1=>?_)
 rotate_left
 ·refine Jd.exitT (hex _ _ ?_)
  show Jb _ _ _ _ _ _
  have hi2:i = l.length:=by have:=of_decide_eq_false h1; omega
  subst hi2
  refine aZ M ?_
  refine Jd.ret (aA.one rfl rfl ?_)
  rw [kw,hq,List.drop_length]
  rfl
 have hil:i < l.length:=by have:=of_decide_eq_true h1; omega
 obtain ⟨x,hx⟩:∃ x,l[i]? = some x:=⟨_,List.getElem?_eq_getElem hil⟩
 rw [i9 hx] at hq
 have hw:=gP (P:=Tryz.prog) (hp x (List.mem_of_getElem? hx))
 dsimp only at hw
 have hg:getR (l.flatMap jd) (i * 4) 4 = some (vC x):=fg oO hx
 refine Jd.skipT ?_
 refine Jd.seq (Jd.block ?_)
 clear hex
 refine aZ M ?_
 obtain ⟨e,he⟩:∃ e,p x = e:=⟨_,rfl⟩
 rw [he] at hw hq
 refine rg M (ax @Int.toNat_natCast (ax @hg @hw)) ?_
 cases e with
 | true =>
  refine cT rfl ?_
  refine aZ M ?_
  refine Jd.ret ?_
  refine hret _ _ ?_
  refine iE.r (aA.one rfl rfl ?_)
  rw [kw,hq]
  rfl
 | false =>
  refine cF rfl ?_
  refine Jd.skip ?_
  refine dX.norm ?_
  show Jb _ _ _ _ _ _
  refine nZ M ?_
  exact hgo _ _ ⟨k - 1,_,_,by omega,(To.ofL (nx2:=0) [] [(8,.i .i64 ((i + 1:Nat):Int)),(7,.i .i64 (l.length:Int)),(6,.vw (l.flatMap jd) l.length),(1,cv),(0,.vw (l.flatMap jd) l.length)] [] rfl (by decide) (by first | exact aY | exact base_one | exact base_two) (by repeat' first | exact trivial | refine ⟨⟨_,rfl,by first | exact Wk.bare hb | exact Wk.refl _ _ | exact Wk.bare rfl | exact Wk.zero _ | exact Wk.none _⟩,?_⟩) (trivial)),i + 1,by omega,hq,rfl,rfl⟩
theorem JR (L:Oc)(hL:∀ p ∈ L,ag Tryz.prog p.1 p.2):ag Tryz.prog 94 (ae (anyVV L)):=by
 obtain ⟨E,M,c1⟩:=i3 (ae (idxVV L)) (JK L hL) rfl
 refine ai (by kernel_rfl) Tryz.func94 Tryz.ntmps94 rfl ?_
 intro args v h
 obtain ⟨l,cv,p,rfl,hb,hn,hp,rfl⟩:=dI h
 refine ⟨by simp only [aE,bare,hb]; rfl,rfl,Nat.le_of_ble_eq_true rfl,?_⟩
 have hi:=xp oO uc hb hn hp
 rw [bS,St.of_nil]
 refine aZ M ?_
 refine rg M (ax @c1 @hi) ?_
 exact Jd.ret (aA.one rfl rfl (by rw [pP,<- fV p l 0]))
def jc (x:List VD):List AV:=[b9 x]
theorem oM (x:List VD):(jc x).length = 1:=rfl
theorem tZ (x y:List VD)(h:jc x = jc y):x = y:=by have h:[b9 x] = [b9 y]:=h; simp only [List.cons.injEq,and_true] at h; exact kK h
noncomputable abbrev idxVW (L:Oc):=relV (CV L jc (fun x:List VD=>b9 x) kw)
noncomputable abbrev anyVW (L:Oc):=relV (CV L jc (fun x:List VD=>b9 x) pP)
theorem JJ (L:Oc)(hL:∀ p ∈ L,ag Tryz.prog p.1 p.2):ag Tryz.prog 166 (ae (idxVW L)):=by
 refine ai (by kernel_rfl) Tryz.func166 Tryz.ntmps166 rfl ?_
 have M:Mc Tryz.prog (df L) (Ev.at_ Tryz.prog (df L) 1):=pn i6 ju hL
 intro args v h
 obtain ⟨l,cv,p,rfl,hb,hn,hp,rfl⟩:=dI h
 refine ⟨by simp only [aE,bare,hb]; rfl,rfl,Nat.le_of_ble_eq_true rfl,?_⟩
 rw [bS,St.of_nil]
 refine aZ M ?_
 refine Jd.seq ?_
 refine aZ M ?_
 refine Jd.loopB (fun k g s=>∃ i:Nat,i + k = l.length/\ja p l 0 = ja p (l.drop i) i/\g = ⟨166,19,Tr.of [(8,.i .i64 (i:Int)),(7,.i .i64 (l.length:Int)),(6,.vw (l.flatMap jc) l.length),(1,cv),(0,.vw (l.flatMap jc) l.length)],none,[]⟩/\s = St.of [] 0) l.length ?_ ?_
 ·exact ⟨_,_,(To.ofL (nx2:=0) [] [(8,.i .i64 ((0:Nat):Int)),(7,.i .i64 (l.length:Int)),(6,.vw (l.flatMap jc) l.length),(1,cv),(0,.vw (l.flatMap jc) l.length)] [] rfl (by decide) (by first | exact aY | exact base_one | exact base_two) (by repeat' first | exact trivial | refine ⟨⟨_,rfl,by first | exact Wk.bare hb | exact Wk.refl _ _ | exact Wk.bare rfl | exact Wk.zero _ | exact Wk.none _⟩,?_⟩) (trivial)),0,by omega,rfl,rfl,rfl⟩
 rintro k _ _ ⟨i,hi,hq,rfl,rfl⟩ Q' hex hret hgo
 refine aZ M ?_
 refine Jd.seq ?_
 refine Jd.cnd rfl (fun h1=>?_) (fun h1=>?_)
 rotate_left
 ·refine Jd.exitT (hex _ _ ?_)
  show Jb _ _ _ _ _ _
  have hi2:i = l.length:=by have:=of_decide_eq_false h1; omega
  subst hi2
  refine aZ M ?_
  refine Jd.ret (aA.one rfl rfl ?_)
  rw [kw,hq,List.drop_length]
  rfl
 have hil:i < l.length:=by have:=of_decide_eq_true h1; omega
 obtain ⟨x,hx⟩:∃ x,l[i]? = some x:=⟨_,List.getElem?_eq_getElem hil⟩
 rw [i9 hx] at hq
 have hw:=gP (P:=Tryz.prog) (hp x (List.mem_of_getElem? hx))
 dsimp only at hw
 have hg:(l.flatMap jc)[i]? = some (b9 x):=by have:=rp oM hx (by omega); rwa [Nat.mul_one] at this
 refine Jd.skipT ?_
 refine Jd.seq (Jd.block ?_)
 clear hex
 refine aZ M ?_
 obtain ⟨e,he⟩:∃ e,p x = e:=⟨_,rfl⟩
 rw [he] at hw hq
 refine rg M (ax @Int.toNat_natCast (ax @hg @hw)) ?_
 cases e with
 | true =>
  refine cT rfl ?_
  refine aZ M ?_
  refine Jd.ret ?_
  refine hret _ _ ?_
  refine iE.r (aA.one rfl rfl ?_)
  rw [kw,hq]
  rfl
 | false =>
  refine cF rfl ?_
  refine Jd.skip ?_
  refine dX.norm ?_
  show Jb _ _ _ _ _ _
  refine nZ M ?_
  exact hgo _ _ ⟨k - 1,_,_,by omega,(To.ofL (nx2:=0) [] [(8,.i .i64 ((i + 1:Nat):Int)),(7,.i .i64 (l.length:Int)),(6,.vw (l.flatMap jc) l.length),(1,cv),(0,.vw (l.flatMap jc) l.length)] [] rfl (by decide) (by first | exact aY | exact base_one | exact base_two) (by repeat' first | exact trivial | refine ⟨⟨_,rfl,by first | exact Wk.bare hb | exact Wk.refl _ _ | exact Wk.bare rfl | exact Wk.zero _ | exact Wk.none _⟩,?_⟩) (trivial)),i + 1,by omega,hq,rfl,rfl⟩
theorem JQ (L:Oc)(hL:∀ p ∈ L,ag Tryz.prog p.1 p.2):ag Tryz.prog 92 (ae (anyVW L)):=by
 obtain ⟨E,M,c1⟩:=i3 (ae (idxVW L)) (JJ L hL) rfl
 refine ai (by kernel_rfl) Tryz.func92 Tryz.ntmps92 rfl ?_
 intro args v h
 obtain ⟨l,cv,p,rfl,hb,hn,hp,rfl⟩:=dI h
 refine ⟨by simp only [aE,bare,hb]; rfl,rfl,Nat.le_of_ble_eq_true rfl,?_⟩
 have hi:=xp oM tZ hb hn hp
 rw [bS,St.of_nil]
 refine aZ M ?_
 refine rg M (ax @c1 @hi) ?_
 exact Jd.ret (aA.one rfl rfl (by rw [pP,<- fV p l 0]))
def jf (x:List Int):List AV:=[.vw (is x) x.length]
theorem oP (x:List Int):(jf x).length = 1:=rfl
theorem ud (x y:List Int)(h:jf x = jf y):x = y:=by have h:[AV.vw (is x) x.length] = [.vw (is y) y.length]:=h; simp only [List.cons.injEq,AV.vw.injEq,and_true] at h; exact oB h.1
noncomputable abbrev idxVL (L:Oc):=relV (CV L jf (fun x:List Int=>.vw (is x) x.length) kw)
noncomputable abbrev anyVL (L:Oc):=relV (CV L jf (fun x:List Int=>.vw (is x) x.length) pP)
theorem JM (L:Oc)(hL:∀ p ∈ L,ag Tryz.prog p.1 p.2):ag Tryz.prog 284 (ae (idxVL L)):=by
 refine ai (by kernel_rfl) Tryz.func284 Tryz.ntmps284 rfl ?_
 have M:Mc Tryz.prog (df L) (Ev.at_ Tryz.prog (df L) 1):=pn i6 ju hL
 intro args v h
 obtain ⟨l,cv,p,rfl,hb,hn,hp,rfl⟩:=dI h
 refine ⟨by simp only [aE,bare,hb]; rfl,rfl,Nat.le_of_ble_eq_true rfl,?_⟩
 rw [bS,St.of_nil]
 refine aZ M ?_
 refine Jd.seq ?_
 refine aZ M ?_
 refine Jd.loopB (fun k g s=>∃ i:Nat,i + k = l.length/\ja p l 0 = ja p (l.drop i) i/\g = ⟨284,19,Tr.of [(8,.i .i64 (i:Int)),(7,.i .i64 (l.length:Int)),(6,.vw (l.flatMap jf) l.length),(1,cv),(0,.vw (l.flatMap jf) l.length)],none,[]⟩/\s = St.of [] 0) l.length ?_ ?_
 ·exact ⟨_,_,(To.ofL (nx2:=0) [] [(8,.i .i64 ((0:Nat):Int)),(7,.i .i64 (l.length:Int)),(6,.vw (l.flatMap jf) l.length),(1,cv),(0,.vw (l.flatMap jf) l.length)] [] rfl (by decide) (by first | exact aY | exact base_one | exact base_two) (by repeat' first | exact trivial | refine ⟨⟨_,rfl,by first | exact Wk.bare hb | exact Wk.refl _ _ | exact Wk.bare rfl | exact Wk.zero _ | exact Wk.none _⟩,?_⟩) (trivial)),0,by omega,rfl,rfl,rfl⟩
 rintro k _ _ ⟨i,hi,hq,rfl,rfl⟩ Q' hex hret hgo
 refine aZ M ?_
 refine Jd.seq ?_
 refine Jd.cnd rfl (fun h1=>?_) (fun h1=>?_)
 rotate_left
 ·refine Jd.exitT (hex _ _ ?_)
  show Jb _ _ _ _ _ _
  have hi2:i = l.length:=by have:=of_decide_eq_false h1; omega
  subst hi2
  refine aZ M ?_
  refine Jd.ret (aA.one rfl rfl ?_)
  rw [kw,hq,List.drop_length]
  rfl
 have hil:i < l.length:=by have:=of_decide_eq_true h1; omega
 obtain ⟨x,hx⟩:∃ x,l[i]? = some x:=⟨_,List.getElem?_eq_getElem hil⟩
 rw [i9 hx] at hq
 have hw:=gP (P:=Tryz.prog) (hp x (List.mem_of_getElem? hx))
 dsimp only at hw
 have hg:(l.flatMap jf)[i]? = some (.vw (is x) x.length):=by have:=rp oP hx (by omega); rwa [Nat.mul_one] at this
 refine Jd.skipT ?_
 refine Jd.seq (Jd.block ?_)
 clear hex
 refine aZ M ?_
 obtain ⟨e,he⟩:∃ e,p x = e:=⟨_,rfl⟩
 rw [he] at hw hq
 refine rg M (ax @Int.toNat_natCast (ax @hg @hw)) ?_
 cases e with
 | true =>
  refine cT rfl ?_
  refine aZ M ?_
  refine Jd.ret ?_
  refine hret _ _ ?_
  refine iE.r (aA.one rfl rfl ?_)
  rw [kw,hq]
  rfl
 | false =>
  refine cF rfl ?_
  refine Jd.skip ?_
  refine dX.norm ?_
  show Jb _ _ _ _ _ _
  refine nZ M ?_
  exact hgo _ _ ⟨k - 1,_,_,by omega,(To.ofL (nx2:=0) [] [(8,.i .i64 ((i + 1:Nat):Int)),(7,.i .i64 (l.length:Int)),(6,.vw (l.flatMap jf) l.length),(1,cv),(0,.vw (l.flatMap jf) l.length)] [] rfl (by decide) (by first | exact aY | exact base_one | exact base_two) (by repeat' first | exact trivial | refine ⟨⟨_,rfl,by first | exact Wk.bare hb | exact Wk.refl _ _ | exact Wk.bare rfl | exact Wk.zero _ | exact Wk.none _⟩,?_⟩) (trivial)),i + 1,by omega,hq,rfl,rfl⟩
theorem JS (L:Oc)(hL:∀ p ∈ L,ag Tryz.prog p.1 p.2):ag Tryz.prog 240 (ae (anyVL L)):=by
 obtain ⟨E,M,c1⟩:=i3 (ae (idxVL L)) (JM L hL) rfl
 refine ai (by kernel_rfl) Tryz.func240 Tryz.ntmps240 rfl ?_
 intro args v h
 obtain ⟨l,cv,p,rfl,hb,hn,hp,rfl⟩:=dI h
 refine ⟨by simp only [aE,bare,hb]; rfl,rfl,Nat.le_of_ble_eq_true rfl,?_⟩
 have hi:=xp oP ud hb hn hp
 rw [bS,St.of_nil]
 refine aZ M ?_
 refine rg M (ax @c1 @hi) ?_
 exact Jd.ret (aA.one rfl rfl (by rw [pP,<- fV p l 0]))
section
def yV (μ:Mu) (s:St) (g:Nat):Prop:=∃ o x p,s.h.get o = some x/\μ o = some (.at_ p)/\p.blk = g
def KN (μ:Mu) (s:St) (g:Nat):Prop:=yV μ s g ∨ ∃ i v,μ.fz g i = some v
structure O5 (w w':World):Prop where
 os:w'.os = w.os
 tape:w'.tape = w.tape
 output:w'.output = w.output
 size:w.heap.size <= w'.heap.size
section
variable {μ μ':Mu} {s s':St} {w w':World}
theorem Cw (h:bA μ s w) {g:Nat} (ho:yV μ s g):¬ rh w g:=by
 obtain ⟨o,x,p,h1,h2,rfl⟩:=ho
 exact (h.obj o x h1 (by rw [h2]; simp)).nodig h2
theorem Fp.amb {bb:Nat} (f:Fp bb μ s w μ' s' w'):O5 w w':=⟨f.os,f.tape,f.output,f.size⟩
theorem Fp.ownG {bb:Nat} (f:Fp bb μ s w μ' s' w'):∀ g,yV μ' s' g->yV μ s g ∨ w.heap.size <= g:=by
 rintro g ⟨o,x,p,h1,h2,rfl⟩
 rcases f.own o x p h1 h2 with h | ⟨o0,x0,p0,g1,g2,g3⟩
 ·exact .inr h
 exact .inl ⟨o0,x0,p0,g1,g2,g3⟩
theorem Fp.terG {bb:Nat} (f:Fp bb μ s w μ' s' w')(hr:bA μ' s' w'):∀ g,KN μ' s' g->KN μ s g ∨ w.heap.size <= g ∨ rh w' g:=by
 rintro g (h | ⟨i,v,hv⟩)
 ·rcases f.ownG g h with h | h
  ·exact .inl (.inl h)
  exact .inr (.inl h)
 rcases f.fz g i v hv with h | h | ⟨o,x,p,h1,h2,h3⟩ | h
 ·exact .inl (.inr ⟨i,v,h⟩)
 ·exact .inr (.inl h)
 ·exact .inl (.inl ⟨o,x,p,h1,h2,h3⟩)
 exact .inr (.inr ⟨i,v,d8 (hr.fz g i v hv).2.1 (lj h),h⟩)
theorem Fp.blkG {bb:Nat} (f:Fp bb μ s w μ' s' w'):∀ g,g < w.heap.size->¬ yV μ s g->w'.heap[g]? = w.heap[g]?:=fun g hg hn=>f.blk g hg fun o x p h1 h2 h3=>hn ⟨o,x,p,h1,h2,h3⟩
end
structure Gs where
 inv:Option Nat->(Nat->Prop)->(Nat->Prop)->World->Prop
 stable:∀ {i:Option Nat} {Z Y Z' Y':Nat->Prop} {w w':World},inv i Z Y w->(∀ g,Z' g->Z g ∨ w.heap.size <= g)->(∀ g,Y' g->Y g ∨ w.heap.size <= g ∨ rh w' g)->(∀ g,Z' g->¬ rh w' g)->O5 w w'->(∀ g,g < w.heap.size->¬ Z g->w'.heap[g]? = w.heap[g]?)->inv i Z' Y' w'
end
end Go.Proofs.YtkdhppimhdemjaaGreat

namespace Go.Proofs.YtkdhppimhdemjaaGreat
open Go.RowKit
section
structure NQ (G:Gs) (lb:Nat) (ψ0:Nat->Nat->Option Value) (sz0:Nat) (i:Option Nat) (μ:Mu) (s:St) (w:World):Prop where
 yl:∃ p,μ 0 = some (.at_ p)/\p.blk = lb
 inv:G.inv i (yV μ s) (KN μ s) w
 fz0:∀ b j v,μ.fz b j = some v->ψ0 b j = some v ∨ sz0 <= b ∨ fy v = false
 own0:∀ g,yV μ s g->sz0 <= g
 size:sz0 <= w.heap.size
theorem NQ.step {G:Gs} {lb:Nat} {ψ0:Nat->Nat->Option Value} {sz0:Nat} {i:Option Nat} {μ μ':Mu} {s s':St} {w w':World} (h:NQ G lb ψ0 sz0 i μ s w) (f:Fp 1 μ s w μ' s' w')(hr:bA μ' s' w'):NQ G lb ψ0 sz0 i μ' s' w':=by
 obtain ⟨⟨p,h1,h2⟩,hi,hf,ho,hs⟩:=h
 refine ⟨⟨p,f.base 0 _ (by omega) h1,h2⟩,G.stable hi f.ownG (f.terG hr) (fun g hg=>Cw hr hg) f.amb f.blkG,fun b j v hv=>?_,fun g hg=>?_,Nat.le_trans hs f.size⟩
 ·rcases f.fz b j v hv with h | h | h | h
  ·exact hf b j v h
  ·exact .inr (.inl (Nat.le_trans hs h))
  ·exact .inr (.inl (ho b h))
  exact .inr (.inr h)
 rcases f.ownG g hg with h | h
 ·exact ho g h
 exact Nat.le_trans hs h
def Jg (G:Gs) (lb:Nat) (ψ0:Nat->Nat->Option Value) (sz0:Nat) (P:Program) (c:Code) (fr:Fr) (s:St) (i:Option Nat) (Q:Ex->Fr->St->Option Nat->Prop):Prop :=
 ∀ (n:Nat) (μ:Mu) (w:World) (a:Act) (ro:Option Nat) (R:Exit->Act->World->Prop),At μ fr s ro a w->NQ G lb ψ0 sz0 i μ s w ->
  (∀ ex fr' s' i' μ' w' a',Q ex fr' s' i'->At μ' fr' s' ro a' w'->NQ G lb ψ0 sz0 i' μ' s' w'->R (mz ex) a' w')->c.wpIn (Fw ro) n P R a w
def OJ (K:Fr->St->Option Nat->Prop) (Q:Ex->Fr->St->Option Nat->Prop):Ex->Fr->St->Option Nat->Prop
 | .normal,fr,s,i=>K fr s i
 | .exit id,fr,s,i=>Q (.exit id) fr s i
 | .ret,fr,s,i=>Q .ret fr s i
def NS (id:Nat) (Q:Ex->Fr->St->Option Nat->Prop):Ex->Fr->St->Option Nat->Prop
 | .normal,fr,s,i=>Q .normal fr s i
 | .exit id',fr,s,i=>if id' = id then Q .normal fr s i else Q (.exit id') fr s i
 | .ret,fr,s,i=>Q .ret fr s i
section
variable {G:Gs} {lb:Nat} {ψ0:Nat->Nat->Option Value} {sz0:Nat} {P:Program} {c a b:Code} {fr:Fr} {s:St} {i:Option Nat} {Q:Ex->Fr->St->Option Nat->Prop}
theorem Jg.lift {Q':Ex->Fr->St->Prop} (h:Jb 1 P c fr s Q')(hq:∀ ex fr s,Q' ex fr s->Q ex fr s i):Jg G lb ψ0 sz0 P c fr s i Q:=fun n μ w a ro R hA hI hR =>
 h n μ w a ro R hA fun ex fr' s' μ' w' a' q hA' hf=>hR ex fr' s' i μ' w' a' (hq _ _ _ q) hA' (hI.step hf hA'.rel)
theorem Jg.mono {Q':Ex->Fr->St->Option Nat->Prop} (h:Jg G lb ψ0 sz0 P c fr s i Q')(hq:∀ ex fr s i,Q' ex fr s i->Q ex fr s i):Jg G lb ψ0 sz0 P c fr s i Q:=fun n μ w a ro R hA hI hR =>
 h n μ w a ro R hA hI fun ex fr' s' i' μ' w' a' q hA' hI'=>hR ex fr' s' i' μ' w' a' (hq _ _ _ _ q) hA' hI'
theorem Jg.seq (h:Jg G lb ψ0 sz0 P a fr s i (OJ (fun fr s i=>Jg G lb ψ0 sz0 P b fr s i Q) Q)):Jg G lb ψ0 sz0 P (.seq a b) fr s i Q:=by
 intro n μ w x ro R hA hI hR
 refine wpIn_seq (h n μ w x ro _ hA hI ?_)
 intro ex fr1 s1 i1 μ1 w1 a1 hq hA1 hI1
 cases ex with
 | normal=>exact hq n μ1 w1 a1 ro R hA1 hI1 hR
 | exit id=>exact hR _ _ _ _ μ1 w1 a1 hq hA1 hI1
 | ret=>exact hR _ _ _ _ μ1 w1 a1 hq hA1 hI1
theorem Jg.cond {x:Operand} {t:Bool} (hx:fZ fr.T x = some (.b t))(h1:t = true->Jg G lb ψ0 sz0 P a fr s i Q)(h2:t = false->Jg G lb ψ0 sz0 P b fr s i Q):Jg G lb ψ0 sz0 P (.cond x a b) fr s i Q:=by
 intro n μ w y ro R hA hI hR
 have hv:=ko hA.tr x _ hx
 cases t with
 | true=>exact wpIn_cond_true (by simpa only [VR] using hv) (h1 rfl n μ w y ro R hA hI hR)
 | false=>exact wpIn_cond_false (by simpa only [VR] using hv) (h2 rfl n μ w y ro R hA hI hR)
theorem Jg.skip (h:Q .normal fr s i):Jg G lb ψ0 sz0 P .skip fr s i Q:=fun _ μ w a _ _ hA hI hR=>wpIn_skip (hR _ _ _ _ μ w a h hA hI)
theorem Jg.block {id:Nat} (h:Jg G lb ψ0 sz0 P c fr s i (NS id Q)):Jg G lb ψ0 sz0 P (.block id c) fr s i Q:=by
 intro n μ w x ro R hA hI hR
 refine wpIn_block (h n μ w x ro _ hA hI ?_)
 intro ex fr1 s1 i1 μ1 w1 a1 hq hA1 hI1
 cases ex with
 | normal=>exact hR _ _ _ _ μ1 w1 a1 hq hA1 hI1
 | exit id' =>
  simp only [NS] at hq
  split at hq
  ·next e=>subst e; simp only [mz,Exit.inBlock,if_true]; exact hR _ _ _ _ μ1 w1 a1 hq hA1 hI1
  next e=>simp only [mz,Exit.inBlock,if_neg e]; exact hR _ _ _ _ μ1 w1 a1 hq hA1 hI1
 | ret=>exact hR _ _ _ _ μ1 w1 a1 hq hA1 hI1
end
end
section
section
variable {P:Program} {X:dY} {E:Ev}
section
variable {G:Gs} {lb:Nat} {ψ0:Nat->Nat->Option Value} {sz0:Nat} {f:FuncId} {n:Nat} {T T':Tr AV} {s s':St} {i:Option Nat} {Q:Ex->Fr->St->Option Nat->Prop} {id:Nat} {ops:Array Oper}
theorem Jg.regQ (M:Mc P X E)(h1:∀ (K:Tr AV->St->Prop) (gl:List (Option Tmp)),ops.toList.map (·.dst) = gl->K T' s'->iH P X E n gl ops.toList T s K)(h2:Q .normal ⟨f,n,T',none,[]⟩ s' i):Jg G lb ψ0 sz0 P (.region id ops false) ⟨f,n,T,none,[]⟩ s i Q :=
 Jg.lift (Q':=fun ex fr s1=>ex = .normal/\fr = ⟨f,n,T',none,[]⟩/\s1 = s') (Jd.regQ M h1 ⟨rfl,rfl,rfl⟩) (fun ex fr s ⟨h,k,l⟩=>by subst h; subst k; subst l; exact h2)
theorem Jg.regS (M:Mc P X E) {b:Code} (h1:∀ (K:Tr AV->St->Prop) (gl:List (Option Tmp)),ops.toList.map (·.dst) = gl->K T' s'->iH P X E n gl ops.toList T s K)(h2:Jg G lb ψ0 sz0 P b ⟨f,n,T',none,[]⟩ s' i Q):Jg G lb ψ0 sz0 P (.seq (.region id ops false) b) ⟨f,n,T,none,[]⟩ s i Q :=
 Jg.seq (Jg.regQ M h1 h2)
theorem Jg.cnd {l:List (Nat × AV)} {a b:Code} {x:Operand} {t:Bool} (hx:CT l x = some (.b t))(h1:t = true->Jg G lb ψ0 sz0 P a ⟨f,n,Tr.of l,none,[]⟩ s i Q)(h2:t = false->Jg G lb ψ0 sz0 P b ⟨f,n,Tr.of l,none,[]⟩ s i Q):Jg G lb ψ0 sz0 P (.cond x a b) ⟨f,n,Tr.of l,none,[]⟩ s i Q :=
 Jg.cond ((wJ l x).trans hx) h1 h2
end
end
end
end Go.Proofs.YtkdhppimhdemjaaGreat

