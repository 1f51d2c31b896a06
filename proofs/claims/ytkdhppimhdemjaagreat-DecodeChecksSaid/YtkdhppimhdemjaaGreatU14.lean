/- Lemmas on the way: Ev17, Ev18. -/
import Derived.Test.YtkdhppimhdemjaaGreatU13
set_option linter.all false
set_option maxRecDepth 1000000
set_option maxHeartbeats 32000000
namespace Go.Proofs.YtkdhppimhdemjaaGreat
open Go.RowKit
section
structure dQ (P:Program) (X:dY) (E:Ev) (nt:Nat) (all L:List Oper) (V:Nat->Option AV) (TT:Nat->Tr AV) (SS:Nat->St):Prop where
 step:∀ i o,L[i]? = some o->(∃ v,V i = some v/\fu all (TT i) o = some true/\f5 P X E (fZ (TT i)) (SS i) o.op = some (v,SS (i + 1))/\jM (TT i) nt o.dst v = some (TT (i + 1))) ∨
  (V i = none/\fu all (TT i) o = some false/\SS (i + 1) = SS i/\jM (TT i) nt o.dst (.tup []) = some (TT (i + 1)))
def dQ.shape (L:List Oper) (V:Nat->Option AV) (TT:Nat->Tr AV) (SS:Nat->St):List (Option AV × Tr AV × St):=(List.range L.length).map fun i=>(V i,TT i,SS i)
theorem qJ (o:Oper) (L:List Oper) (V:Nat->Option AV) (TT:Nat->Tr AV) (SS:Nat->St):dQ.shape (o :: L) V TT SS = (V 0,TT 0,SS 0) :: dQ.shape L (fun i=>V (i + 1)) (fun i=>TT (i + 1)) (fun i=>SS (i + 1)):=by
 unfold dQ.shape
 rw [List.length_cons,List.range_succ_eq_map,List.map_cons,List.map_map]
 rfl
theorem sM {P:Program} {X:dY} {E:Ev} {nt:Nat} {all:List Oper}:∀ (os:List Oper) (T:Tr AV) (s:St) {tr:List (Option AV × Tr AV × St)} {T':Tr AV} {s':St},iP P X E nt all os T s = some (tr,T',s') ->
  ∃ V TT SS,TT 0 = T/\SS 0 = s/\TT os.length = T'/\SS os.length = s'/\tr = dQ.shape os V TT SS/\dQ P X E nt all os V TT SS
 | [],T,s,tr,T',s',h=>by
  simp only [iP,Option.some.injEq,Prod.mk.injEq] at h
  obtain ⟨rfl,rfl,rfl⟩:=h
  exact ⟨fun _=>none,fun _=>T,fun _=>s,rfl,rfl,rfl,rfl,rfl,⟨fun i o ho=>by simp at ho⟩⟩
 | o :: os,T,s,tr,T',s',h=>by
  have glue:∀ (v0:Option AV) (T1:Tr AV) (s1:St) {tr1:List (Option AV × Tr AV × St)},iP P X E nt all os T1 s1 = some (tr1,T',s')->tr = (v0,T,s) :: tr1 ->
    ((∃ v,v0 = some v/\fu all T o = some true/\f5 P X E (fZ T) s o.op = some (v,s1)/\jM T nt o.dst v = some T1) ∨ (v0 = none/\fu all T o = some false/\s1 = s/\jM T nt o.dst (.tup []) = some T1)) ->
    ∃ V TT SS,TT 0 = T/\SS 0 = s/\TT (o :: os).length = T'/\SS (o :: os).length = s'/\tr = dQ.shape (o :: os) V TT SS/\dQ P X E nt all (o :: os) V TT SS:=by
   intro v0 T1 s1 tr1 h1 htr hst
   obtain ⟨V,TT,SS,g1,g2,g3,g4,g5,g6⟩:=sM os T1 s1 h1
   refine ⟨fun i=>match i with | 0=>v0 | i + 1=>V i,fun i=>match i with | 0=>T | i + 1=>TT i,fun i=>match i with | 0=>s | i + 1=>SS i,rfl,rfl,g3,g4,?_,⟨fun i oi hi=>?_⟩⟩
   ·rw [qJ,htr,g5]
   cases i with
   | zero=>simp at hi; subst hi; simp only [g1,g2]; exact hst
   | succ i=>exact g6.step i oi (by simpa using hi)
  simp only [iP] at h
  split at h
  ·next hw =>
   split at h
   ·next v s1 hop =>
    split at h
    ·next T1 hput =>
     split at h
     ·next l r htr =>
      obtain ⟨Tr1,s2⟩:=r
      simp only [Option.some.injEq,Prod.mk.injEq] at h
      obtain ⟨rfl,rfl,rfl⟩:=h
      exact glue (some v) T1 s1 htr rfl (.inl ⟨v,rfl,hw,hop,hput⟩)
     cases h
    cases h
   cases h
  ·next hw =>
   split at h
   ·next T1 hput =>
    split at h
    ·next l r htr =>
     obtain ⟨Tr1,s2⟩:=r
     simp only [Option.some.injEq,Prod.mk.injEq] at h
     obtain ⟨rfl,rfl,rfl⟩:=h
     exact glue none T1 s htr rfl (.inr ⟨rfl,hw,rfl,hput⟩)
    cases h
   cases h
  cases h

def xv (V:Nat->Option AV) (i:Nat):AV:=(V i).getD (.tup [])

section
variable {P:Program} {X:dY} {E:Ev} {nt:Nat} {L:List Oper} {V:Nat->Option AV} {TT:Nat->Tr AV} {SS:Nat->St} {M:Tr Nat}

theorem dQ.put (R:dQ P X E nt L L V TT SS) {i:Nat} {o:Oper} (ho:L[i]? = some o):jM (TT i) nt o.dst (xv V i) = some (TT (i + 1)):=by
 rcases R.step i o ho with ⟨v,h1,_,_,h2⟩ | ⟨h1,_,_,h2⟩
 ·unfold xv; rw [h1]; exact h2
 unfold xv; rw [h1]; exact h2
theorem dQ.grows (S:cX P E) (R:dQ P X E nt L L V TT SS) {i:Nat} {o:Oper} (ho:L[i]? = some o):aK (SS i) (SS (i + 1)):=by
 rcases R.step i o ho with ⟨v,_,_,h,_⟩ | ⟨_,_,h,_⟩
 ·exact ou S h
 rw [h]; exact aK.refl _
theorem dQ.grows_to (S:cX P E) (R:dQ P X E nt L L V TT SS) {i:Nat}:∀ {j:Nat},i <= j->j <= L.length->aK (SS i) (SS j):=by
 intro j hij
 induction j with
 | zero=>intro _; rw [show i = 0 by omega]; exact aK.refl _
 | succ j ih =>
  intro hj
  rcases Nat.lt_or_ge j i with h | h
  ·rw [show i = j + 1 by omega]; exact aK.refl _
  exact (ih h (by omega)).trans (R.grows S (List.getElem?_eq_getElem (by omega)))
theorem dQ.T_old (R:dQ P X E nt L L V TT SS) {t:Tmp}:∀ {i:Nat},i <= L.length->(∀ j o,j < i->L[j]? = some o->o.dst ≠ some t)->(TT i).get t = (TT 0).get t:=by
 intro i
 induction i with
 | zero=>intro _ _; rfl
 | succ i ih =>
  intro hi hno
  have ho:L[i]? = some L[i]:=List.getElem?_eq_getElem (by omega)
  have hp:=R.put ho
  have:=hno i _ (Nat.lt_succ_self i) ho
  rw [<- ih (by omega) fun j o hj ho=>hno j o (by omega) ho]
  cases hd:L[i].dst with
  | none=>rw [hd] at hp; simp only [jM,Option.some.injEq] at hp; rw [hp]
  | some d =>
   rw [hd] at hp
   obtain ⟨_,hp⟩:=aj hp
   rw [<- Option.some.inj hp]
   exact Tr.get_set_ne _ _ (fun e=>by subst e; exact this hd)
theorem dQ.T_new (R:dQ P X E nt L L V TT SS)(hS:GM L M) {t:Tmp} {j:Nat} {o:Oper} (ho:L[j]? = some o)(hd:o.dst = some t):∀ {i:Nat},j < i->i <= L.length->(TT i).get t = some (xv V j)/\t < nt:=by
 intro i hji
 induction i with
 | zero=>omega
 | succ i ih =>
  intro hi
  have hoi:L[i]? = some L[i]:=List.getElem?_eq_getElem (by omega)
  have hp:=R.put hoi
  rcases Nat.lt_or_ge j i with h | h
  ·obtain ⟨g1,g2⟩:=ih h (by omega)
   refine ⟨?_,g2⟩
   rw [<- g1]
   cases hdi:L[i].dst with
   | none=>rw [hdi] at hp; simp only [jM,Option.some.injEq] at hp; rw [hp]
   | some d =>
    rw [hdi] at hp
    obtain ⟨_,hp⟩:=aj hp
    rw [<- Option.some.inj hp]
    exact Tr.get_set_ne _ _ (fun e=>by subst e; have:=hS.one j i o _ t ho hoi hd hdi; omega)
  have:j = i:=by omega
  subst this
  rw [hoi] at ho
  cases ho
  rw [hd] at hp
  obtain ⟨hlt,hp⟩:=aj hp
  rw [<- Option.some.inj hp]
  exact ⟨Tr.get_set_same _ _ _,by simpa using hlt⟩

def dE (L:List Oper) (V:Nat->Option AV) (i:Nat):Prop:=∃ o v,L[i]? = some o/\V i = some v/\(match bu o.op with | .al=>True | _=>False)
theorem dQ.makes (R:dQ P X E nt L L V TT SS) {i:Nat} (h:dE L V i):∃ o ob f,L[i]? = some o/\oT P (fZ (TT i)) o.op = some (ob,f)/\V i = some (f (SS i).nx)/\SS (i + 1) = (SS i).new ob/\fu L (TT i) o = some true:=by
 obtain ⟨o,v,ho,hv,hk⟩:=h
 rcases R.step i o ho with ⟨v',h1,hw,h2,_⟩ | ⟨h1,_⟩
 ·unfold f5 at h2
  split at h2
  ·next e=>rw [e] at hk; exact hk.elim
  ·simp only [Option.map_eq_some_iff,Prod.mk.injEq] at h2
   obtain ⟨⟨ob,f⟩,h3,h4,h5⟩:=h2
   exact ⟨o,ob,f,ho,h3,by rw [h1,<- h4],h5.symm,hw⟩
  next e=>rw [e] at hk; exact hk.elim
 rw [h1] at hv; cases hv
def OV (L:List Oper) (V:Nat->Option AV) (TT:Nat->Tr AV) (SS:Nat->St) (f:Nat):Tr AO :=
 be (SS L.length) (SS f).h (L.drop f) ((dQ.shape L V TT SS).drop f)
theorem d5 {f:Nat} {o:Oper} (ho:L[f]? = some o):L.drop f = o :: L.drop (f + 1)/\(dQ.shape L V TT SS).drop f = (V f,TT f,SS f) :: (dQ.shape L V TT SS).drop (f + 1):=by
 have hf:=(List.getElem?_eq_some_iff.1 ho).1
 refine ⟨?_,?_⟩
 ·rw [List.drop_eq_getElem_cons hf]
  congr 1
  exact (List.getElem?_eq_some_iff.1 ho).2
 have hl:f < (dQ.shape L V TT SS).length:=by simp [dQ.shape,hf]
 rw [List.drop_eq_getElem_cons hl]
 congr 1
 simp [dQ.shape]
theorem kj (h0:Tr AO) (R:dQ P X E nt L L V TT SS) (S:cX P E):∀ (k f:Nat)(h:Tr AO),f + k = L.length ->
  (∀ j,f <= j->dE L V j->(be (SS L.length) h (L.drop f) ((dQ.shape L V TT SS).drop f)).get (SS j).nx = (SS (j + 1)).h.get (SS j).nx) /\
  (∀ id,(∀ j,f <= j->dE L V j->(SS j).nx ≠ id)->(be (SS L.length) h (L.drop f) ((dQ.shape L V TT SS).drop f)).get id = h.get id)
 | 0,f,h,hf=>by
  have e:L.drop f = []:=List.drop_eq_nil_of_le (by omega)
  refine ⟨fun j hj hm=>?_,fun id _=>?_⟩
  ·obtain ⟨o,_,ho,_⟩:=hm
   have:=(List.getElem?_eq_some_iff.1 ho).1
   omega
  rw [e]; simp [be]
 | k + 1,f,h,hf=>by
  have ho:L[f]? = some L[f]:=List.getElem?_eq_getElem (by omega)
  obtain ⟨e1,e2⟩:=d5 (V:=V) (TT:=TT) (SS:=SS) ho
  have ih:=fun h=>kj h0 R S k (f + 1) h (by omega)
  have hnext:∀ j,f + 1 <= j->j < L.length->(SS (f + 1)).nx <= (SS j).nx:=fun j hj hjl=>(R.grows_to S hj (by omega)).1
  have step:∀ (h:Tr AO),dE L V f->be (SS L.length) h (L.drop f) ((dQ.shape L V TT SS).drop f) = be (SS L.length) (h.set (SS f).nx ((SS (f + 1)).h.get (SS f).nx)) (L.drop (f + 1)) ((dQ.shape L V TT SS).drop (f + 1)):=by
   intro h ⟨o,v,ho',hv,hk⟩
   rw [ho] at ho'
   cases ho'
   rw [e1,e2,hv]
   have hk':bu L[f].op = .al:=by
    cases hkk:bu L[f].op <;> rw [hkk] at hk <;> first | exact hk.elim | rfl
   rcases Nat.lt_or_ge (f + 1) L.length with hlt | hge
   ·have ho2:L[f + 1]? = some L[f + 1]:=List.getElem?_eq_getElem hlt
    obtain ⟨_,e4⟩:=d5 (V:=V) (TT:=TT) (SS:=SS) ho2
    rw [e4]
    simp only [be,hk']
   have e5:(dQ.shape L V TT SS).drop (f + 1) = []:=List.drop_eq_nil_of_le (by simp [dQ.shape]; omega)
   have e6:L.length = f + 1:=by omega
   rw [e5]
   simp only [be,hk',e6]
  have skip:∀ (h:Tr AO),¬ dE L V f->be (SS L.length) h (L.drop f) ((dQ.shape L V TT SS).drop f) = be (SS L.length) h (L.drop (f + 1)) ((dQ.shape L V TT SS).drop (f + 1)):=by
   intro h hm
   rw [e1,e2]
   cases hv:V f with
   | none=>simp only [be]
   | some v =>
    cases hk:bu L[f].op with
    | al=>exact absurd ⟨_,v,ho,hv,by rw [hk]; trivial⟩ hm
    | rd=>simp only [be,hk]
    | ef=>simp only [be,hk]
  by_cases hm:dE L V f
  ·rw [step h hm]
   obtain ⟨i1,i2⟩:=ih (h.set (SS f).nx ((SS (f + 1)).h.get (SS f).nx))
   obtain ⟨o,ob,ff,_,_,_,hnew,_⟩:=R.makes hm
   have hnx:(SS (f + 1)).nx = (SS f).nx + 1:=by rw [hnew]; rfl
   refine ⟨fun j hj hmj=>?_,fun id hid=>?_⟩
   ·rcases Nat.lt_or_ge f j with hlt | hge
    ·exact i1 j hlt hmj
    have:j = f:=by omega
    subst this
    rw [i2 _ (fun j' hj' hmj' e=>?_),Tr.get_set_same]
    obtain ⟨o',_,ho',_⟩:=hmj'
    have:=hnext j' hj' (List.getElem?_eq_some_iff.1 ho').1
    omega
   rw [i2 id (fun j hj hmj=>hid j (by omega) hmj),Tr.get_set_ne _ _ (fun e=>hid f (Nat.le_refl _) hm e.symm)]
  rw [skip h hm]
  obtain ⟨i1,i2⟩:=ih h
  refine ⟨fun j hj hmj=>?_,fun id hid=>i2 id fun j hj hmj=>hid j (by omega) hmj⟩
  rcases Nat.lt_or_ge f j with hlt | hge
  ·exact i1 j hlt hmj
  have:j = f:=by omega
  subst this
  exact absurd hmj hm
theorem rV (R:dQ P X E nt L L V TT SS) (S:cX P E) {f j:Nat} (hf:f <= L.length)(hj:f <= j)(hm:dE L V j):(OV L V TT SS f).get (SS j).nx = (SS (j + 1)).h.get (SS j).nx :=
 (kj .nil R S (L.length - f) f (SS f).h (by omega)).1 j hj hm
theorem f7 (R:dQ P X E nt L L V TT SS) (S:cX P E) {f id:Nat} (hf:f <= L.length)(h:∀ j,f <= j->dE L V j->(SS j).nx ≠ id):(OV L V TT SS f).get id = (SS f).h.get id :=
 (kj .nil R S (L.length - f) f (SS f).h (by omega)).2 id h
theorem zE:OV L V TT SS L.length = (SS L.length).h:=by
 unfold OV
 rw [List.drop_eq_nil_of_le (Nat.le_refl _)]
 simp [be]
theorem BR (R:dQ P X E nt L L V TT SS) {f:Nat} {o:Oper} (ho:L[f]? = some o)(h:bJ o = false ∨ V f = none):OV L V TT SS f = OV L V TT SS (f + 1):=by
 obtain ⟨e1,e2⟩:=d5 (V:=V) (TT:=TT) (SS:=SS) ho
 unfold OV
 rcases R.step f o ho with ⟨v,hv,_,hop,_⟩ | ⟨hv,_,hs,_⟩
 ·have hne:bJ o = false:=by
   rcases h with h | h
   ·exact h
   rw [hv] at h; cases h
  rw [e1,e2,hv]
  unfold f5 at hop
  split at hop
  ·next hk =>
   simp only [Option.map_eq_some_iff,Prod.mk.injEq] at hop
   obtain ⟨_,_,_,h5⟩:=hop
   simp only [be,hk]
   rw [h5]
  ·next hk =>
   simp only [Option.map_eq_some_iff,Prod.mk.injEq] at hop
   obtain ⟨⟨ob,ff⟩,_,_,h5⟩:=hop
   have hget:(SS (f + 1)).h.get (SS f).nx = some ob:=by rw [<- h5]; exact Tr.get_set_same _ _ _
   have sh:(SS f).h.set (SS f).nx (some ob) = (SS (f + 1)).h:=by rw [<- h5]; rfl
   have hf:=(List.getElem?_eq_some_iff.1 ho).1
   rcases Nat.lt_or_ge (f + 1) L.length with hlt | hge
   ·obtain ⟨_,e4⟩:=d5 (V:=V) (TT:=TT) (SS:=SS) (List.getElem?_eq_getElem hlt:L[f + 1]? = some L[f + 1])
    rw [e4]
    simp only [be,hk,hget,sh]
   have e5:(dQ.shape L V TT SS).drop (f + 1) = []:=List.drop_eq_nil_of_le (by simp [dQ.shape]; omega)
   have e6:L.length = f + 1:=by omega
   rw [e5]
   simp only [be,hk,e6,hget,sh]
  next hk=>unfold bJ at hne; rw [hk] at hne; cases hne
 rw [e1,e2,hv,hs]
 simp only [be]

theorem kB (M:Tr Nat):∀ (k f prev:Nat),f + k = L.length->∀ q,f <= q->q <= L.length->(q = L.length ∨ ∃ o,L[q]? = some o/\bJ o = true) ->
  ∃ p,(p,q,(⟨if q = L.length then (SS L.length).h else OV L V TT SS q,(SS L.length).nx⟩:St)) ∈ cL M (SS L.length) prev (L.drop f) f ((dQ.shape L V TT SS).drop f) /\
   (p = prev ∨ ∃ j o,f <= j/\j < q/\L[j]? = some o/\bJ o = true/\p = (M.get j).getD 0)
 | 0,f,prev,hf,q,h1,h2,h3=>by
  have e:L.drop f = []:=List.drop_eq_nil_of_le (by omega)
  have e2:(dQ.shape L V TT SS).drop f = []:=List.drop_eq_nil_of_le (by simp [dQ.shape]; omega)
  refine ⟨prev,?_,.inl rfl⟩
  rw [e,e2]
  have:q = L.length:=by omega
  subst this
  have hfl:f = L.length:=by omega
  rw [if_pos rfl]
  simp [cL,hfl]
 | k + 1,f,prev,hf,q,h1,h2,h3=>by
  have ho:L[f]? = some L[f]:=List.getElem?_eq_getElem (by omega)
  obtain ⟨e1,e2⟩:=d5 (V:=V) (TT:=TT) (SS:=SS) ho
  cases hb:bJ L[f] with
  | true =>
   have hexp:cL M (SS L.length) prev (L.drop f) f ((dQ.shape L V TT SS).drop f) =
     (prev,f,⟨be (SS L.length) (SS f).h (L.drop (f + 1)) ((dQ.shape L V TT SS).drop (f + 1)),(SS L.length).nx⟩) :: cL M (SS L.length) ((M.get f).getD 0) (L.drop (f + 1)) (f + 1) ((dQ.shape L V TT SS).drop (f + 1)):=by
    rw [e1,e2]
    simp only [cL,hb,cond_true]
   have hov:OV L V TT SS f = be (SS L.length) (SS f).h (L.drop (f + 1)) ((dQ.shape L V TT SS).drop (f + 1)):=by
    unfold OV
    rw [e1,e2]
    have hk:bu L[f].op = .ef:=by
     unfold bJ at hb
     cases hkk:bu L[f].op <;> rw [hkk] at hb <;> first | rfl | cases hb
    cases hv:V f with
    | none=>simp only [be]
    | some v=>simp only [be,hk]
   rcases Nat.lt_or_ge f q with hlt | hge
   ·obtain ⟨p,g1,g2⟩:=kB M k (f + 1) ((M.get f).getD 0) (by omega) q hlt h2 h3
    refine ⟨p,by rw [hexp]; exact List.mem_cons_of_mem _ g1,?_⟩
    rcases g2 with rfl | ⟨j,o,a,b,c,d,e⟩
    ·exact .inr ⟨f,_,Nat.le_refl _,hlt,ho,hb,rfl⟩
    exact .inr ⟨j,o,by omega,b,c,d,e⟩
   have:q = f:=by omega
   subst this
   refine ⟨prev,?_,.inl rfl⟩
   rw [hexp,if_neg (by omega),hov]
   exact List.mem_cons_self
  | false =>
   have hexp:cL M (SS L.length) prev (L.drop f) f ((dQ.shape L V TT SS).drop f) = cL M (SS L.length) prev (L.drop (f + 1)) (f + 1) ((dQ.shape L V TT SS).drop (f + 1)):=by
    rw [e1,e2]
    simp only [cL,hb,cond_false]
   rcases Nat.lt_or_ge f q with hlt | hge
   ·obtain ⟨p,g1,g2⟩:=kB M k (f + 1) prev (by omega) q hlt h2 h3
    refine ⟨p,by rw [hexp]; exact g1,?_⟩
    rcases g2 with rfl | ⟨j,o,a,b,c,d,e⟩
    ·exact .inl rfl
    exact .inr ⟨j,o,by omega,b,c,d,e⟩
   have:q = f:=by omega
   subst this
   rcases h3 with h3 | ⟨o,h3,h4⟩
   ·omega
   rw [ho] at h3; cases h3; rw [hb] at h4; cases h4
theorem rt {ep:List (Nat × Nat × St)}:∀ (k f:Nat),f + k = L.length->dS P M ep (L.drop f) f ((dQ.shape L V TT SS).drop f) = true->∀ i o v,f <= i->L[i]? = some o->V i = some v->(match bu o.op with | .rd=>True | _=>False)->bE o.op = true ->
  ∃ m,M.get i = some m/\∀ p ∈ ep,p.1.testBit i = true ∨ m.testBit p.2.1 = true ∨ dL P (fZ (TT i)) p.2.2 o.op = some v
 | 0,f,hf,_,i,o,v,h1,ho,_,_,_=>by have:=(List.getElem?_eq_some_iff.1 ho).1; omega
 | k + 1,f,hf,h,i,o,v,h1,ho,hv,hk,hl=>by
  have hof:L[f]? = some L[f]:=List.getElem?_eq_getElem (by omega)
  obtain ⟨e1,e2⟩:=d5 (V:=V) (TT:=TT) (SS:=SS) hof
  rw [e1,e2] at h
  have htail:dS P M ep (L.drop (f + 1)) (f + 1) ((dQ.shape L V TT SS).drop (f + 1)) = true:=by
   cases hvf:V f with
   | none=>rw [hvf] at h; simpa only [dS] using h
   | some v'=>rw [hvf] at h; simp only [dS,Bool.and_eq_true] at h; exact h.2
  rcases Nat.lt_or_ge f i with hlt | hge
  ·exact rt k (f + 1) (by omega) htail i o v hlt ho hv hk hl
  have:i = f:=by omega
  subst this
  rw [hof] at ho
  cases ho
  rw [hv] at h
  simp only [dS,Bool.and_eq_true] at h
  have hkk:bu L[i].op = .rd:=by
   cases hkk:bu L[i].op <;> rw [hkk] at hk <;> first | rfl | exact hk.elim
  have h2:=h.1
  rw [hkk] at h2
  simp only [hl,cond_true] at h2
  split at h2
  ·next m hm =>
   refine ⟨m,hm,fun p hp=>?_⟩
   rw [List.all_eq_true] at h2
   have h3:=h2 p hp
   simp only [Bool.or_eq_true] at h3
   rcases h3 with (h3 | h3) | h3
   ·exact .inl h3
   ·exact .inr (.inl h3)
   split at h3
   ·next v' hv'=>rw [hv',uH v' v h3]; exact .inr (.inr rfl)
   cases h3
  cases h2
end
end
section
def Ld (listed:Array Bool) (j:Nat):Prop:=listed.getD j false = true
theorem Ld.set_iff {listed:Array Bool} {i j:Nat} (hi:i < listed.size):Ld (listed.setIfInBounds i true) j ↔ j = i ∨ Ld listed j:=by
 unfold Ld
 by_cases h:i = j
 ·subst h; simp [hi]
 rw [getD_set_ne false h]
 constructor
 ·exact .inr
 rintro (e | e)
 ·exact absurd e.symm h
 exact e
theorem jk {listed:Array Bool} {j:Nat} (hj:j < listed.size):listed.getD j true = false ↔ ¬ Ld listed j:=by
 unfold Ld
 simp [hj]

def m5 (T:Tr AV):List Tmp->Tr AV
 | []=>.nil
 | t :: l=>(m5 T l).set t (T.get t)
theorem kS (T:Tr AV) (t:Tmp):∀ l:List Tmp,(m5 T l).get t = if t ∈ l then T.get t else none
 | []=>rfl
 | u :: l=>by
  rw [m5,Tr.get_set,kS T t l]
  by_cases h:t = u
  ·subst h; simp
  rw [if_neg h]; simp [h]

theorem bA.born {μ:Mu} {s:St} {w:World} (h:bA μ s w) {k:Nat} (hn:μ k = none) {x:AO} (hk:s.h.get k = some x) (O:Obj) (p:Pl)(hp:p.blk = w.heap.size)(hnn:∀ n,x ≠ .nat n)
  (hx:OR (μ.with k (.at_ p)) (w.alloc O) k x):bA (μ.with k (.at_ p)) s (w.alloc O):=by
 have hs:=Mu.sub_with (.at_ p) hn
 have hsz:w.heap.size <= (w.alloc O).heap.size:=by simp
 have hold:∀ g,g < w.heap.size->(w.alloc O).heap[g]? = w.heap[g]?:=fun g hg=>Below.heap_alloc w O g hg
 have lt:∀ o x p',s.h.get o = some x->μ o = some (.at_ p')->p'.blk < w.heap.size:=fun o x p' e m=>by
  obtain ⟨b,hb⟩:=(h.obj o x e (by rw [m]; simp)).at_ m
  exact (Array.getElem?_eq_some_iff.1 hb).1
 refine ⟨⟨fun o y e m=>?_,fun o o' y y' q q' e1 e2 m1 m2 hb=>?_,fun o n A m c o' x' p' e1 m1 e2 m2=>?_,h.wf⟩,fun b i v hv=>?_⟩
 ·by_cases e2:o = k
  ·subst e2; rw [hk] at e; cases e; exact hx
  rw [Mu.with_ne _ _ e2] at m
  exact (h.obj o y e m).keep hs hsz (fun q hq=>hold _ (lt o y q e hq)) (fun A m' c hq ad hA hm hlt=>hold _ hlt)
 ·by_cases a:o = k <;> by_cases b:o' = k
  ·rw [a,b]
  ·subst a
   rw [Mu.with_same] at m1
   cases m1
   rw [Mu.with_ne _ _ b] at m2
   have:=lt _ _ _ e2 m2
   omega
  ·subst b
   rw [Mu.with_same] at m2
   cases m2
   rw [Mu.with_ne _ _ a] at m1
   have:=lt _ _ _ e1 m1
   omega
  rw [Mu.with_ne _ _ a] at m1
  rw [Mu.with_ne _ _ b] at m2
  exact h.inj o o' y y' q q' e1 e2 m1 m2 hb
 ·by_cases a:o = k
  ·subst a; rw [hk] at e1; cases e1; exact absurd rfl (hnn n)
  rw [Mu.with_ne _ _ a] at m1
  by_cases b:o' = k
  ·subst b
   rw [Mu.with_same] at m2
   cases m2
   have hv:=h.obj o _ e1 (by rw [m1]; simp)
   simp only [OR] at hv
   obtain ⟨A',m',c',h1,h2⟩:=hv
   rw [m1] at h1
   cases h1
   intro ad n' c'' e hpos
   cases e
   obtain ⟨l,⟨⟨_,A'',c2,e3,_,_,h4⟩,_⟩,_⟩:=h2
   cases e3
   obtain ⟨b,off,e4,hlt,_⟩:=h4 hpos
   cases e4
   simp only
   omega
  rw [Mu.with_ne _ _ b] at m2
  exact h.nat o n A m c o' x' p' e1 m1 e2 m2
 obtain ⟨z1,z2,z3⟩:=h.fz b i v hv
 refine ⟨Nat.lt_of_lt_of_le z1 hsz,(ij (hold b z1) i).trans z2,fun o y q e m=>?_⟩
 by_cases a:o = k
 ·subst a; rw [Mu.with_same] at m; cases m; omega
 rw [Mu.with_ne _ _ a] at m; exact z3 o y q e m

section
variable {P:Program} {X:dY} {E:Ev} {nt:Nat} {L:List Oper} {V:Nat->Option AV} {TT:Nat->Tr AV} {SS:Nat->St} {M:Tr Nat}

def SP (L:List Oper) (V:Nat->Option AV) (TT:Nat->Tr AV) (SS:Nat->St) (e:Nat):St:=⟨OV L V TT SS e,(SS L.length).nx⟩

theorem AA (R:dQ P X E nt L L V TT SS) (S:cX P E) {f:Nat} (hf:f <= L.length)(hW:Wf (SS f)) {μ:Mu} {w:World} (h:bA μ (SS f) w)
  (hj:∀ j,f <= j->dE L V j->μ (SS j).nx ≠ none->∃ ob p,(SS (j + 1)).h.get (SS j).nx = some ob/\μ (SS j).nx = some (.at_ p)/\OR μ w (SS j).nx ob/\(∀ n,ob ≠ .nat n) /\
   (∀ o x p',(SS f).h.get o = some x->μ o = some (.at_ p')->p'.blk ≠ p.blk)/\(∀ o n A m c,(SS f).h.get o = some (.nat n)->μ o = some (.val A m c)->rZ (.slice A m c) p.blk)/\∀ b i v,μ.fz b i = some v->p.blk ≠ b)
  (hjj:∀ j j' p p',f <= j->f <= j'->dE L V j->dE L V j'->μ (SS j).nx = some (.at_ p)->μ (SS j').nx = some (.at_ p')->p.blk = p'.blk->(SS j).nx = (SS j').nx):bA μ (SP L V TT SS f) w:=by
 have cls:∀ o x,(OV L V TT SS f).get o = some x->((SS f).h.get o = some x) ∨ ∃ j,f <= j/\dE L V j/\o = (SS j).nx/\(SS (j + 1)).h.get (SS j).nx = some x:=by
  intro o x e
  by_cases hx:∃ j,f <= j/\dE L V j/\(SS j).nx = o
  ·obtain ⟨j,h1,h2,rfl⟩:=hx
   rw [rV R S hf h1 h2] at e
   exact .inr ⟨j,h1,h2,rfl,e⟩
  rw [f7 R S hf (fun j h1 h2 h3=>hx ⟨j,h1,h2,h3⟩)] at e
  exact .inl e
 refine ⟨⟨fun o x e m=>?_,fun o o' x x' p p' e e' m m' hb=>?_,fun o n A m c o' x' p' e m1 e' m2=>?_,fun o ho=>?_⟩,fun b i v hv=>⟨(h.fz b i v hv).1,(h.fz b i v hv).2.1,fun o x p e m=>?_⟩⟩
 ·rcases cls o x e with e1 | ⟨j,h1,h2,rfl,e1⟩
  ·exact h.obj o x e1 m
  obtain ⟨ob,p,g1,_,g3,_⟩:=hj j h1 h2 m
  rw [g1] at e1
  cases e1
  exact g3
 ·rcases cls o x e with e1 | ⟨j,h1,h2,rfl,e1⟩ <;> rcases cls o' x' e' with e2 | ⟨j',h1',h2',rfl,e2⟩
  ·exact h.inj o o' x x' p p' e1 e2 m m' hb
  ·obtain ⟨ob,q,g1,g2,_,_,g5,_⟩:=hj j' h1' h2' (by rw [m']; simp)
   rw [m'] at g2
   cases g2
   exact absurd hb (g5 o x p e1 m)
  ·obtain ⟨ob,q,g1,g2,_,_,g5,_⟩:=hj j h1 h2 (by rw [m]; simp)
   rw [m] at g2
   cases g2
   exact absurd hb.symm (g5 o' x' p' e2 m')
  exact hjj j j' p p' h1 h1' h2 h2' m m' hb
 ·rcases cls o _ e with e1 | ⟨j,h1,h2,rfl,e1⟩
  ·rcases cls o' x' e' with e2 | ⟨j',h1',h2',rfl,e2⟩
   ·exact h.nat o n A m c o' x' p' e1 m1 e2 m2
   obtain ⟨ob,q,g1,g2,_,_,_,g6⟩:=hj j' h1' h2' (by rw [m2]; simp)
   rw [m2] at g2
   cases g2
   exact g6.1 o n A m c e1 m1
  obtain ⟨ob,q,g1,_,_,g4,_⟩:=hj j h1 h2 (by rw [m1]; simp)
  rw [g1] at e1
  cases e1
  exact absurd rfl (g4 n)
 ·have ho':(SS L.length).nx <= o:=ho
  show (OV L V TT SS f).get o = none
  rw [f7 R S hf (fun j h1 h2 h3=>?_)]
  ·exact hW o (by have:=(R.grows_to S hf (Nat.le_refl _)).1; omega)
  obtain ⟨o1,ob,ff,hoj,_,_,hnew,_⟩:=R.makes h2
  have hl:=(List.getElem?_eq_some_iff.1 hoj).1
  have h4:(SS (j + 1)).nx = (SS j).nx + 1:=by rw [hnew]; rfl
  have h5:=(R.grows_to S (show j + 1 <= L.length by omega) (Nat.le_refl _)).1
  omega
 rcases cls o x e with e1 | ⟨j,h1,h2,rfl,e1⟩
 ·exact (h.fz b i v hv).2.2 o x p e1 m
 obtain ⟨ob,q,g1,g2,_,_,_,_,g7⟩:=hj j h1 h2 (by rw [m]; simp)
 rw [m] at g2
 cases g2
 exact g7 b i v hv

structure JW (M:Tr Nat) (L:List Oper) (V:Nat->Option AV) (TT:Nat->Tr AV) (SS:Nat->St) (nt:Nat) (μ0:Mu) (w0:World) (ds:List Deferred) (listed:Array Bool) (a:Act) (w:World) (μ:Mu) (e:Nat):Prop where
 he:e <= L.length
 lo:∀ p o,p < e->L[p]? = some o->bJ o = true->Ld listed p
 hi:∀ p o,e <= p->L[p]? = some o->bJ o = true->¬ Ld listed p
 down:∀ j k,Ld listed j->j < L.length->MB M j k->Ld listed k
 rel:bA μ (SP L V TT SS e) w
 stp:dJ μ0 (SS 0) w0 μ (SP L V TT SS e) w
 dom:∀ o,μ0 o = none->μ o ≠ none->∃ j,Ld listed j/\j < L.length/\(SS j).nx <= o/\o < (SS (j + 1)).nx
 pend:∀ i,dE L V i->¬ Ld listed i->(OV L V TT SS e).get (SS i).nx = (SS (i + 1)).h.get (SS i).nx
 size:a.tmps.size = nt
 vals:∀ j o t,L[j]? = some o->Ld listed j->o.dst = some t->∃ y,a.tmps[t]? = some y/\VR μ (xv V j) y
 old:∀ t x,(TT 0).get t = some x->(∀ j o,L[j]? = some o->Ld listed j->o.dst ≠ some t)->∃ y,a.tmps[t]? = some y/\VR μ x y
 defers:a.defers = ds

variable {μ0 μ:Mu} {w0 w:World} {ds:List Deferred} {listed:Array Bool} {a:Act} {e:Nat}

theorem JW.look (R:dQ P X E nt L L V TT SS)(hS:GM L M) (I:JW M L V TT SS nt μ0 w0 ds listed a w μ e) {i:Nat} {o:Oper} (ho:L[i]? = some o)(hun:¬ Ld listed i)(hmask:∀ k,MB M i k->Ld listed k) :
  TR μ nt (m5 (TT i) (kq L o)) a.tmps:=by
 have hi:=(List.getElem?_eq_some_iff.1 ho).1
 refine ⟨I.size,fun t x hx=>?_⟩
 rw [kS] at hx
 split at hx
 ·next ht =>
  by_cases hw:∃ (j:Nat) (oj:Oper),L[j]? = some oj/\oj.dst = some t
  ·obtain ⟨j,oj,hj,hd⟩:=hw
   rcases hS.look i j o oj t ho hj hd ht with h | h
   ·have hlt:=hS.bits.below i ⟨o,ho⟩ j h
    obtain ⟨g1,_⟩:=R.T_new hS hj hd hlt (by omega)
    rw [g1] at hx
    cases hx
    exact I.vals j oj t hj (hmask j h) hd
   have hlt:=hS.bits.below j ⟨oj,hj⟩ i h
   rw [R.T_old (by omega) (fun j' o' hj' ho' hd'=>by have:=hS.one j j' oj o' t hj ho' hd hd'; omega)] at hx
   refine I.old t x hx fun j' o' ho' hl hd'=>?_
   have:j' = j:=hS.one j j' oj o' t hj ho' hd hd'
   subst this
   exact hun (I.down j' i hl (List.getElem?_eq_some_iff.1 hj).1 h)
  rw [R.T_old (by omega) (fun j' o' _ ho' hd'=>hw ⟨j',o',ho',hd'⟩)] at hx
  exact I.old t x hx fun j' o' ho' _ hd'=>hw ⟨j',o',ho',hd'⟩
 cases hx
theorem JW.after (R:dQ P X E nt L L V TT SS)(hS:GM L M) (I:JW M L V TT SS nt μ0 w0 ds listed a w μ e)(hsz:listed.size = L.length) {i:Nat} {o:Oper} (ho:L[i]? = some o)(hun:¬ Ld listed i)(hmask:∀ k,MB M i k->Ld listed k)
  {μ':Mu} {w':World} {e':Nat} {v:Value} (hsub:gY μ μ') (hv:VR μ' (xv V i) v) (he':e' <= L.length) (hel:∀ p op,p < e'->L[p]? = some op->bJ op = true->p = i ∨ Ld listed p) (heh:∀ p op,e' <= p->L[p]? = some op->bJ op = true->p ≠ i/\¬ Ld listed p)
  (hrel:bA μ' (SP L V TT SS e') w')(hstp:dJ μ0 (SS 0) w0 μ' (SP L V TT SS e') w')(hdom:∀ o,μ o = none->μ' o ≠ none->(SS i).nx <= o/\o < (SS (i + 1)).nx)
  (hpend:∀ k,dE L V k->k ≠ i->¬ Ld listed k->(OV L V TT SS e').get (SS k).nx = (SS (k + 1)).h.get (SS k).nx) :
  JW M L V TT SS nt μ0 w0 ds (listed.setIfInBounds i true) (a.put o.dst v) w' μ' e':=by
 have hi:=(List.getElem?_eq_some_iff.1 ho).1
 have hil:i < listed.size:=by omega
 have L':=fun j=>Ld.set_iff (listed:=listed) (i:=i) (j:=j) hil
 have tm:∀ t,o.dst ≠ some t->(a.put o.dst v).tmps[t]? = a.tmps[t]?:=fun t ht=>by
  cases hd:o.dst with
  | none=>rfl
  | some d=>simp only [Act.put]; exact Array.getElem?_setIfInBounds_ne (fun e=>ht (by rw [hd,e]))
 refine ⟨he',fun p op h1 h2 h3=>(L' p).2 (hel p op h1 h2 h3),fun p op h1 h2 h3 h4=>?_,fun j k h1 h2 h3=>?_,hrel,hstp,fun o1 h1 h2=>?_,fun k h1 h2=>?_,?_,fun j oj t h1 h2 h3=>?_,fun t x h1 h2=>?_,?_⟩
 ·have:=heh p op h1 h2 h3
  rcases (L' p).1 h4 with h5 | h5
  ·exact this.1 h5
  exact this.2 h5
 ·refine (L' k).2 (.inr ?_)
  rcases (L' j).1 h1 with rfl | h1
  ·exact hmask k h3
  exact I.down j k h1 h2 h3
 ·by_cases hm:μ o1 = none
  ·obtain ⟨g1,g2⟩:=hdom o1 hm h2
   exact ⟨i,(L' i).2 (.inl rfl),hi,g1,g2⟩
  obtain ⟨j,g1,g2,g3⟩:=I.dom o1 h1 hm
  exact ⟨j,(L' j).2 (.inr g1),g2,g3⟩
 ·exact hpend k h1 (fun e=>h2 ((L' k).2 (.inl e))) (fun e=>h2 ((L' k).2 (.inr e)))
 ·cases hd:o.dst with
  | none=>exact I.size
  | some d=>simp [Act.put,I.size]
 ·rcases (L' j).1 h2 with rfl | h5
  ·rw [ho] at h1
   cases h1
   obtain ⟨_,hlt⟩:=R.T_new hS ho h3 (Nat.lt_succ_self j) (by omega)
   refine ⟨v,?_,hv⟩
   rw [h3]
   simp [Act.put,I.size,hlt]
  by_cases hji:j = i
  ·subst hji; exact absurd h5 hun
  obtain ⟨y,g1,g2⟩:=I.vals j oj t h1 h5 h3
  refine ⟨y,?_,g2.mono hsub⟩
  rw [tm t (fun hd=>hji (hS.one i j o oj t ho h1 hd h3))]
  exact g1
 ·obtain ⟨y,g1,g2⟩:=I.old t x h1 (fun j oj h3 h4=>h2 j oj h3 ((L' j).2 (.inr h4)))
  refine ⟨y,?_,g2.mono hsub⟩
  rw [tm t (h2 i o ho ((L' i).2 (.inl rfl)))]
  exact g1
 rw [mb]; exact I.defers
end
end
end Go.Proofs.YtkdhppimhdemjaaGreat
