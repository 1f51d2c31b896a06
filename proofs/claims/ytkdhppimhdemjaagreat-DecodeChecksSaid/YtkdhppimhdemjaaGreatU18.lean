/- Lemmas on the way: Jd3, Frac2, Frac3, Frac4. -/
import Derived.Test.YtkdhppimhdemjaaGreatU17
import Derived.Deep.DeepCutAuto
set_option linter.all false
set_option maxRecDepth 1000000
set_option maxHeartbeats 32000000
namespace Go.Proofs.YtkdhppimhdemjaaGreat
open Go.RowKit
section
mutual
theorem n9:∀ x:AV,same x x = true
 | .b x=>by simp [same]
 | .i k n=>by simp [same]
 | .ptr o f=>by simp [same]
 | .pnil=>rfl
 | .sl o f n c=>by simp [same]
 | .snil=>rfl
 | .nat o=>by simp [same]
 | .num n=>by simp [same]
 | .vw c n=>by simp [same,dy c]
 | .vp c n=>by simp [same,dy c]
 | .fm a b=>by simp [same,dy a,dy b]
 | .mp o=>by simp [same]
 | .mnil=>rfl
 | .fn f a b=>by simp [same,dy a,dy b]
 | .yl l=>by simp [same]
 | .fnil=>rfl
 | .ifc t v=>by simp [same,n9 v]
 | .inil=>rfl
 | .agg l=>by simp [same,dy l]
 | .tup l=>by simp [same,dy l]
theorem dy:∀ l:List AV,gH l l = true
 | []=>rfl
 | x :: l=>by simp [gH,n9 x,dy l]
end
section
variable {P:Program} {X:dY} {E:Ev} {nt:Nat} {L:List Oper} {V:Nat->Option AV} {TT:Nat->Tr AV} {SS:Nat->St} {M:Tr Nat}

theorem mA (M:Tr Nat):∀ (k f prev:Nat),f + k = L.length->∀ p,p ∈ cL M (SS L.length) prev (L.drop f) f ((dQ.shape L V TT SS).drop f) ->
  f <= p.2.1/\p.2.1 <= L.length/\(p.2.1 = L.length ∨ ∃ o,L[p.2.1]? = some o/\bJ o = true)/\p.2.2 = (⟨if p.2.1 = L.length then (SS L.length).h else OV L V TT SS p.2.1,(SS L.length).nx⟩:St) /\
   ((p.1 = prev/\∀ j o,f <= j->j < p.2.1->L[j]? = some o->bJ o = false) ∨ ∃ j o,f <= j/\j < p.2.1/\L[j]? = some o/\bJ o = true/\p.1 = (M.get j).getD 0/\∀ j' o',j < j'->j' < p.2.1->L[j']? = some o'->bJ o' = false)
 | 0,f,prev,hf,p,hp=>by
  have e:L.drop f = []:=List.drop_eq_nil_of_le (by omega)
  have e2:(dQ.shape L V TT SS).drop f = []:=List.drop_eq_nil_of_le (by simp [dQ.shape]; omega)
  rw [e,e2] at hp
  simp only [cL,List.mem_singleton] at hp
  subst hp
  have hfl:f = L.length:=by omega
  refine ⟨Nat.le_refl _,by show f <= L.length; omega,.inl hfl,by simp [hfl],.inl ⟨rfl,fun j o h1 h2=>by simp only at h2; omega⟩⟩
 | k + 1,f,prev,hf,p,hp=>by
  have ho:L[f]? = some L[f]:=List.getElem?_eq_getElem (by omega)
  obtain ⟨e1,e2⟩:=d5 (V:=V) (TT:=TT) (SS:=SS) ho
  cases hb:bJ L[f] with
  | true =>
   have hexp:cL M (SS L.length) prev (L.drop f) f ((dQ.shape L V TT SS).drop f) =
     (prev,f,⟨be (SS L.length) (SS f).h (L.drop (f + 1)) ((dQ.shape L V TT SS).drop (f + 1)),(SS L.length).nx⟩) :: cL M (SS L.length) ((M.get f).getD 0) (L.drop (f + 1)) (f + 1) ((dQ.shape L V TT SS).drop (f + 1)):=by
    rw [e1,e2]
    simp only [cL,hb,cond_true]
   have hov:OV L V TT SS f = be (SS L.length) (SS f).h (L.drop (f + 1)) ((dQ.shape L V TT SS).drop (f + 1)):=by
    unfold OV
    rw [e1,e2]
    have hk:bu L[f].op = .ef:=by
     unfold bJ at hb
     cases hkk:bu L[f].op <;> rw [hkk] at hb <;> first | rfl | cases hb
    cases hv:V f with
    | none=>simp only [be]
    | some v=>simp only [be,hk]
   rw [hexp] at hp
   rcases List.mem_cons.1 hp with rfl | hp
   ·exact ⟨Nat.le_refl _,by simp only; omega,.inr ⟨_,ho,hb⟩,by simp only; rw [if_neg (by omega),hov],.inl ⟨rfl,fun j o h1 h2=>by simp only at h2; omega⟩⟩
   obtain ⟨g1,g2,g3,g4,g5⟩:=mA M k (f + 1) ((M.get f).getD 0) (by omega) p hp
   refine ⟨by omega,g2,g3,g4,.inr ?_⟩
   rcases g5 with ⟨g5,g6⟩ | ⟨j,o,h1,h2,h3,h4,h5,h6⟩
   ·exact ⟨f,_,Nat.le_refl _,by omega,ho,hb,g5,fun j' o' h1 h2 h3=>g6 j' o' h1 h2 h3⟩
   exact ⟨j,o,by omega,h2,h3,h4,h5,h6⟩
  | false =>
   have hexp:cL M (SS L.length) prev (L.drop f) f ((dQ.shape L V TT SS).drop f) = cL M (SS L.length) prev (L.drop (f + 1)) (f + 1) ((dQ.shape L V TT SS).drop (f + 1)):=by
    rw [e1,e2]
    simp only [cL,hb,cond_false]
   rw [hexp] at hp
   obtain ⟨g1,g2,g3,g4,g5⟩:=mA M k (f + 1) prev (by omega) p hp
   refine ⟨by omega,g2,g3,g4,?_⟩
   rcases g5 with ⟨g5,g6⟩ | ⟨j,o,h1,h2,h3,h4,h5,h6⟩
   ·refine .inl ⟨g5,fun j o h1 h2 h3=>?_⟩
    rcases Nat.lt_or_ge f j with h | h
    ·exact g6 j o h h2 h3
    have:j = f:=by omega
    subst this
    rw [ho] at h3
    cases h3
    exact hb
   exact .inr ⟨j,o,by omega,h2,h3,h4,h5,h6⟩
theorem xz {ep:List (Nat × Nat × St)} (h:∀ i o v,L[i]? = some o->V i = some v->bE o.op = true->∃ m,M.get i = some m/\∀ p ∈ ep,p.1.testBit i = true ∨ m.testBit p.2.1 = true ∨ dL P (fZ (TT i)) p.2.2 o.op = some v) :
  ∀ (k f:Nat),f + k = L.length->dS P M ep (L.drop f) f ((dQ.shape L V TT SS).drop f) = true
 | 0,f,hf=>by
  have e:L.drop f = []:=List.drop_eq_nil_of_le (by omega)
  rw [e]
  simp [dS]
 | k + 1,f,hf=>by
  have ho:L[f]? = some L[f]:=List.getElem?_eq_getElem (by omega)
  obtain ⟨e1,e2⟩:=d5 (V:=V) (TT:=TT) (SS:=SS) ho
  rw [e1,e2]
  have ih:=xz h k (f + 1) (by omega)
  cases hv:V f with
  | none=>simpa only [dS] using ih
  | some v =>
   simp only [dS,Bool.and_eq_true]
   refine ⟨?_,ih⟩
   cases hk:bu L[f].op with
   | rd =>
    simp only
    cases hl:bE L[f].op with
    | false=>rfl
    | true =>
     obtain ⟨m,hm,hp⟩:=h f _ v ho hv hl
     simp only [cond_true,hm,List.all_eq_true,Bool.or_eq_true]
     intro p hp'
     rcases hp p hp' with h1 | h1 | h1
     ·exact .inl (.inl h1)
     ·exact .inl (.inr h1)
     rw [h1]; exact .inr (n9 v)
   | al=>rfl
   | ef=>rfl
theorem D5 {ops:List Oper} {n:Nat} {ex:List (Nat × Nat)} {T:Tr AV} {s:St} {K:Tr AV->St->Prop} (S:cX P E)(hW:Wf s)(hM:eW ops = some M)(hex:ex.all (fun p=>match M.get p.1 with | some m=>m.testBit p.2 | none=>false) = true)
  (h:Dz P X E n (ops.map (·.dst)) ex 0 ops T s [] [] K):∃ T' s',px P X E n ops T s = some (T',s')/\K T' s':=by
 obtain ⟨V,TT,SS,g1,g2,g3,g4,R,D⟩:=z6 ops 0 T s [] [] h
 have hS:=pd hM
 refine ⟨TT ops.length,SS ops.length,?_,g3⟩
 have exM:∀ i j,sC ex i j->MB M i j:=by
  intro i j he
  unfold sC at he
  rw [List.all_eq_true] at hex
  have:=hex (i,j) (by simpa using he)
  simp only at this
  split at this
  ·next m hm=>exact ⟨m,hm,this⟩
  cases this
 have grow:∀ {i j},i <= j->j <= ops.length->(SS i).nx <= (SS j).nx:=fun h h'=>(R.grows_to S h h').1
 have wf:∀ i,i <= ops.length->Wf (SS i):=fun i hi=>(R.grows_to S (Nat.zero_le i) hi).2 (by rw [g2]; exact hW)
 have hfl:dS P M (cL M (SS ops.length) 0 ops 0 (dQ.shape ops V TT SS)) ops 0 (dQ.shape ops V TT SS) = true:=by
  have:=xz (P:=P) (M:=M) (L:=ops) (V:=V) (TT:=TT) (SS:=SS) (ep:=cL M (SS ops.length) 0 ops 0 (dQ.shape ops V TT SS)) ?_ ops.length 0 (by omega)
  ·simpa using this
  intro i o v ho hv hl
  have hi:=(List.getElem?_eq_some_iff.1 ho).1
  obtain ⟨ns,n1,_,n3⟩:=D.rd i o v ho hv hl
  have hget:M.get i ≠ none:=hS.bits.get i o ho
  obtain ⟨m,hm⟩:=Option.ne_none_iff_exists'.1 hget
  refine ⟨m,hm,fun p hp=>?_⟩
  obtain ⟨p1,q,S1⟩:=p
  obtain ⟨e1,e2,e3,e4,e5⟩:=mA (L:=ops) (V:=V) (TT:=TT) (SS:=SS) M ops.length 0 0 (by omega) (p1,q,S1) (by simpa using hp)
  simp only at e1 e2 e3 e4 e5 ⊢
  by_cases hb1:p1.testBit i = true
  ·exact .inl hb1
  by_cases hb2:m.testBit q = true
  ·exact .inr (.inl hb2)
  refine .inr (.inr ?_)
  have hrd:dL P (fZ (TT i)) (SS i) o.op = some v:=by
   rcases R.step i o ho with ⟨v',h1,_,h3,_⟩ | ⟨h1,_⟩
   ·rw [hv] at h1
    cases h1
    have hk:=za hl
    unfold f5 at h3
    rw [hk] at h3
    simp only [Option.map_eq_some_iff,Prod.mk.injEq] at h3
    obtain ⟨_,h5,rfl,_⟩:=h3
    exact h5
   rw [hv] at h1; cases h1
  have hlive:=EG n1
  rw [<- hrd]
  refine EF n1 ?_
  -- what an operation between leaves
  have step:∀ t,t < ops.length->(∀ ot,ops[t]? = some ot->bJ ot = true->(t < i->¬ MB M i t)/\(i < t->¬ MB M t i))->∀ k ∈ ns,(SS (t + 1)).h.get k = (SS t).h.get k ∨ (dE ops V t/\(SS t).nx = k):=by
   intro t ht hno k hk
   have hot:ops[t]? = some ops[t]:=List.getElem?_eq_getElem ht
   rcases R.step t _ hot with ⟨u,h1,_,h3,_⟩ | ⟨_,_,h3,_⟩
   ·unfold f5 at h3
    split at h3
    ·simp only [Option.map_eq_some_iff,Prod.mk.injEq] at h3
     obtain ⟨_,_,_,h6⟩:=h3
     rw [<- h6]; exact .inl rfl
    ·next hk' =>
     simp only [Option.map_eq_some_iff,Prod.mk.injEq] at h3
     obtain ⟨⟨ob,ff⟩,_,_,h6⟩:=h3
     by_cases e:(SS t).nx = k
     ·exact .inr ⟨⟨_,u,hot,h1,by rw [hk']; trivial⟩,e⟩
     rw [<- h6]
     left
     simp only [St.new]
     exact Tr.get_set_ne _ _ (Ne.symm e)
    next hk' =>
    have hef:bJ ops[t] = true:=by unfold bJ; rw [hk']
    obtain ⟨h5,h6⟩:=n3 t _ u hot h1 hef
    obtain ⟨h7,h8⟩:=hno _ hot hef
    left
    rcases Nat.lt_trichotomy t i with hlt | heq | hgt
    ·rcases h5 hlt with h9 | h9
     ·exact absurd (exM _ _ (by simpa using h9)) (h7 hlt)
     exact h9 k hk
    ·subst heq
     rw [ho] at hot
     cases hot
     rw [qY hl] at hef
     cases hef
    rcases h6 hgt with h9 | h9
    ·exact absurd (exM _ _ (by simpa using h9)) (h8 hgt)
    exact h9 k hk
   rw [h3]; exact .inl rfl
  have nxi:∀ k ∈ ns,k < (SS i).nx:=fun k hk=>by
   rcases Nat.lt_or_ge k (SS i).nx with h | h
   ·exact h
   exact absurd (wf i (by omega) k h) (hlive k hk)
  have mknx:∀ j,dE ops V j->j < ops.length/\(SS (j + 1)).nx = (SS j).nx + 1:=fun j hmj=>by
   obtain ⟨o1,ob,ff,hoj,_,_,hnew,_⟩:=R.makes hmj
   exact ⟨(List.getElem?_eq_some_iff.1 hoj).1,by rw [hnew]; rfl⟩
  have hov:∀ k,S1.h.get k = (OV ops V TT SS q).get k:=fun k=>by
   rw [e4]
   simp only
   split
   ·next e=>rw [e,zE]
   rfl
  rcases Nat.lt_or_ge i q with hiq | hqi
  ·-- it may come later
   have hno:∀ t,i <= t->t < q->∀ ot,ops[t]? = some ot->bJ ot = true->(t < i->¬ MB M i t)/\(i < t->¬ MB M t i):=by
    intro t h1 h2 ot hot hef
    refine ⟨fun h=>by omega,fun hit hmb=>?_⟩
    rcases e5 with ⟨_,e6⟩ | ⟨j,oj,k1,k2,k3,k4,k5,k6⟩
    ·rw [e6 t ot (Nat.zero_le _) h2 hot] at hef; cases hef
    have hpj:MB M j i->False:=fun ⟨m',hm',hb⟩=>by rw [k5,hm'] at hb1; exact hb1 hb
    rcases Nat.lt_trichotomy t j with hlt | heq | hgt
    ·exact hpj (hS.bits.trans j ⟨oj,k3⟩ t i (hS.chain t j ot oj hot k3 hef k4 hlt) hmb)
    ·subst heq; exact hpj hmb
    rw [k6 t ot hgt h2 hot] at hef; cases hef
   have keep:∀ d,i + d <= q->∀ k ∈ ns,(SS (i + d)).h.get k = (SS i).h.get k:=by
    intro d
    induction d with
    | zero=>intro _ k _; rfl
    | succ d ih =>
     intro hd k hk
     rw [<- ih (by omega) k hk]
     rcases step (i + d) (by omega) (hno (i + d) (by omega) (by omega)) k hk with h | ⟨_,h⟩
     ·exact h
     have:=nxi k hk
     have:=grow (show i <= i + d by omega) (by omega)
     omega
   intro k hk
   rw [hov,f7 R S e2 (fun j h1 h2 h3=>by
    have:=nxi k hk
    have:=grow (show i <= j by omega) (by have:=(mknx j h2).1; omega)
    omega)]
   have:=keep (q - i) (by omega) k hk
   rwa [show i + (q - i) = q by omega] at this
  -- it may come earlier
  have hno:∀ t,q <= t->t < i->∀ ot,ops[t]? = some ot->bJ ot = true->(t < i->¬ MB M i t)/\(i < t->¬ MB M t i):=by
   intro t h1 h2 ot hot hef
   refine ⟨fun _ hmb=>?_,fun h=>by omega⟩
   have hq:MB M i q:=by
    rcases e3 with e3 | ⟨oq,h3,h4⟩
    ·omega
    rcases Nat.lt_or_ge q t with hlt | hge
    ·exact hS.bits.trans i ⟨o,ho⟩ t q hmb (hS.chain q t oq ot h3 hot h4 hef hlt)
    rw [show q = t by omega]; exact hmb
   obtain ⟨m',hm',hb⟩:=hq
   rw [hm] at hm'
   cases hm'
   exact hb2 hb
  intro k hk
  have tell:∀ d,d <= i - q->(k < (SS (i - d)).nx)->(SS (i - d)).h.get k = (SS i).h.get k:=by
   intro d
   induction d with
   | zero=>intro _ _; rfl
   | succ d ih =>
    intro hd hlt
    have e6:i - d = i - (d + 1) + 1:=by omega
    rw [<- ih (by omega) (by have:=grow (show i - (d + 1) <= i - d by omega) (by omega); omega),e6]
    rcases step (i - (d + 1)) (by omega) (hno _ (by omega) (by omega)) k hk with h | ⟨_,h⟩
    ·exact h.symm
    omega
  rw [hov]
  by_cases hkq:k < (SS q).nx
  ·rw [f7 R S e2 (fun j h1 h2 h3=>by have:=grow h1 (by have:=(mknx j h2).1; omega); omega)]
   have:=tell (i - q) (Nat.le_refl _) (by rw [show i - (i - q) = q by omega]; exact hkq)
   rwa [show i - (i - q) = q by omega] at this
  -- it was made in between
  have find:∀ d,d <= i - q->k < (SS (q + d)).nx->∃ j,q <= j/\j < q + d/\dE ops V j/\(SS j).nx = k:=by
   intro d
   induction d with
   | zero=>intro _ h; exact absurd h hkq
   | succ d ih =>
    intro hd hlt
    by_cases hk2:k < (SS (q + d)).nx
    ·obtain ⟨j,h1,h2,h3,h4⟩:=ih (by omega) hk2
     exact ⟨j,h1,by omega,h3,h4⟩
    rcases step (q + d) (by omega) (hno _ (by omega) (by omega)) k hk with h | ⟨h1,h2⟩
    ·exfalso
     have h5:(SS (q + d)).h.get k = none:=wf _ (by omega) k (by omega)
     have h6:=tell (i - (q + d + 1)) (by omega) (by rw [show i - (i - (q + d + 1)) = q + d + 1 by omega]; exact hlt)
     rw [show i - (i - (q + d + 1)) = q + d + 1 by omega,h,h5] at h6
     exact hlive k hk h6.symm
    exact ⟨q + d,by omega,by omega,h1,h2⟩
  obtain ⟨j,h1,h2,h3,h4⟩:=find (i - q) (Nat.le_refl _) (by rw [show q + (i - q) = i by omega]; exact nxi k hk)
  have h5:=rV R S e2 h1 h3
  rw [h4] at h5
  rw [h5]
  have h6:=(mknx j h3).2
  have:=tell (i - (j + 1)) (by omega) (by rw [show i - (i - (j + 1)) = j + 1 by omega]; omega)
  rwa [show i - (i - (j + 1)) = j + 1 by omega] at this
 unfold px
 rw [hM]
 simp only [g4,hfl,cond_true]
end
section
variable {P:Program} {X:dY} {fr:Fr} {s:St} {Q:Ex->Fr->St->Prop} {id:Nat} {ops:Array Oper} {k:Nat}
theorem Jd.region {bb:Nat} (S:cX P (Ev.at_ P X (k + 1))) (gl:List (Option Tmp))(hgl:ops.toList.map (·.dst) = gl)(h:iH P X (Ev.at_ P X k) fr.n gl ops.toList fr.T s fun T s=>Q .normal { fr with T } s):Jb bb P (.region id ops false) fr s Q:=by
 subst hgl
 obtain ⟨T',s',h1,h2⟩:=ux h
 refine Jd.run S (ex:=.normal) (fr':={ fr with T:=T' }) (s':=s') ?_ h2
 rw [nV]
 simp only [cH,h1]
theorem Jd.draw {bb:Nat} (S:cX P (Ev.at_ P X (k + 1))) (S0:cX P (Ev.at_ P X k)) (gl:List (Option Tmp)) (ex:List (Nat × Nat))(hgl:ops.toList.map (·.dst) = gl)
  (hst:(match eW ops.toList with | some M=>ex.all (fun p=>match M.get p.1 with | some m=>m.testBit p.2 | none=>false) | none=>false) = true)
  (h:Dz P X (Ev.at_ P X k) fr.n gl ex 0 ops.toList fr.T s [] [] fun T s=>Q .normal { fr with T } s):Jb bb P (.region id ops true) fr s Q:=by
 intro n μ w a ro R hA hR
 subst hgl
 cases hM:eW ops.toList with
 | none=>rw [hM] at hst; cases hst
 | some M =>
  rw [hM] at hst
  obtain ⟨T',s',h1,h2⟩:=D5 S0 hA.rel.wf hM hst h
  refine Jd.run S (ex:=.normal) (fr':={ fr with T:=T' }) (s':=s') ?_ h2 n μ w a ro R hA hR
  rw [nV]
  simp only [cH,h1]
end
end
def bX (neg:Bool) (n d:Nat):Rat:=mkRat (dV neg n) (if d = 0 then 1 else d)

def az (k:Nat) (w:World) (v:Value) (q:Rat):Prop:=∃ neg vn vd ln ld,v = .agg #[.bool neg,vn,vd]/\bW w vn ln/\bW w vd ld /\
 q = bX neg (val ln) (val ld)/\val ln < 2 ^ k/\val ld < 2 ^ k/\ln.length <= 17592186044416/\ld.length <= 17592186044416
theorem az.below {k:Nat} {w w':World} {v:Value} {q:Rat} (h:az k w v q)(hb:Below w.heap.size w w'):az k w' v q:=by
 obtain ⟨neg,vn,vd,ln,ld,e,h1,h2,h3⟩:=h
 exact ⟨neg,vn,vd,ln,ld,e,h1.below hb,h2.below hb,h3⟩
theorem az.qb {k:Nat} {w:World} {v:Value} {q:Rat} (h:az k w v q)(hk:0 < k):QB k q:=by
 obtain ⟨neg,vn,vd,ln,ld,e,_,_,rfl,h1,h2,_⟩:=h
 unfold bX
 have:=Nat.one_lt_two_pow (n:=k) (by omega)
 exact QB.red h1 (by split <;> omega) (by split <;> omega)

theorem take (w:World) (v:Value) (q:Rat) (k:Nat)(h:az k w v q)(h0:0 < k)(hk:k <= 17592186044416) :
  Calls Tryz.prog 115 #[v] w fun e w'=>∃ v',e = .returned v'/\cg w.heap.size w' v' q/\Below w.heap.size w w':=by
 obtain ⟨neg,vn,vd,ln,ld,rfl,h1,h2,h3,h4,h5,h6,h7⟩:=h
 obtain ⟨_,A,c,rfl,hlc,hcm,_⟩:=h1.open_
 obtain ⟨_,A',c',rfl,hlc',hcm',_⟩:=h2.open_
 have H1:=Lib.hid h1
 have H2:=Lib.hid h2
 have H3:=Lib.hid h3
 have H4:=Lib.hid h4
 have H5:=Lib.hid h5
 clear h1 h2 h3 h4 h5
 have HW:Hid (∀ o o',Below w.heap.size w ((w.alloc o).alloc o')):=Lib.hid (fun o o'=>((Below.refl _ _).alloc (Nat.le_refl _) o).alloc (by simp) o')
 have hd0:0 < 2 ^ k:=Nat.pow_pos (by omega)
 have h1k:=Nat.one_lt_two_pow (n:=k) (by omega)
 have HK1:=Lib.hid h1k
 clear hd0 h1k
 go_enter Tryz.func115,Tryz.ntmps115
 go_wp2_with fail
 refine (jl _ _ ld ((H2.out.alloc _).alloc _) h7).mono ?_
 rintro e w1 ⟨v1,rfl,t1,hb1⟩
 have hs1:w.heap.size + 2 <= w1.heap.size:=by have:=hb1.size; simpa using this
 have T1:=Lib.hid t1
 have N1:=Lib.hid (((H1.out.alloc _).alloc _).below hb1)
 have B1:=Lib.hid ((HW.out _ _).trans (hb1.mono (by simp; omega)))
 have P1:=Lib.hid (((bw.new w 30 [.bool neg,.slice A ln.length c,.slice A' ld.length c']).alloc _).below' hb1)
 have R1:Hid (bw w1 (w.heap.size + 1) 185 [.bool false,.slice none 0 0,.slice none 0 0]):=Lib.hid (by
  have:=(bw.new (w.alloc (.cells #[.bool neg,.slice A ln.length c,.slice A' ld.length c'] 30)) 185 [.bool false,.slice none 0 0,.slice none 0 0]).below' hb1
  rwa [World.size_alloc] at this)
 clear hb1 t1
 obtain ⟨A1,m,c1,rfl,hm,hmp⟩:=T1.out.len
 have HMP:=Lib.hid hmp
 clear hmp
 obtain ⟨p0,p1,p2,_,_,_⟩:=P1.out.three
 by_cases h0':0 < m
 ·have hm0:((m:Int) == 0) = false:=by simp; omega
  have hq:q = mkRat (dV neg (val ln)) (val ld):=by
   rw [H3.out]
   unfold bX
   rw [if_neg (by have:=HMP.out.1 h0'; omega)]
  have HQ:=Lib.hid hq
  clear hq
  go_wp2_with fail
  go_region_with (first
   | (go_at_call 185; refine (jl _ _ ln ?_ h6).mono ?_; (exact N1.out); rintro e w2 ⟨v2,rfl,t2,hb2'⟩; have hb2:Below w1.heap.size w1 w2:=(by first | exact hb2' | exact ah hb2'); have T2:=Lib.hid t2; have D2:=Lib.hid (T1.out.below hb2); have P2:=Lib.hid (P1.out.below' hb2); have R2:=Lib.hid (R1.out.below' hb2); have B2:=Lib.hid (B1.out.trans (hb2.mono (by omega))); clear t2 hb2 hb2'; obtain ⟨p0',p1',p2',_,_,_⟩:=P2.out.three)
   | (go_at_call 181; refine (kU _ neg _ _ (val ln) (val ld) k T2.out D2.out H4.out H5.out hk (HMP.out.1 h0')).mono ?_; rintro e w3 ⟨v3,rfl,t3,hb3⟩; obtain ⟨A3,m3,c3,A3',m3',c3',rfl,t3a,t3b,t3c,t3d⟩:=t3.open_; obtain ⟨r0,r1,r2,z0,z1,z2⟩:=(R2.out.below' hb3).three; have TA:=Lib.hid t3a; have TB:=Lib.hid t3b; have TC:=Lib.hid t3c; have TD:=Lib.hid t3d; have B3:=Lib.hid (B2.out.trans (hb3.mono B2.out.size)); have RL:=Lib.hid (R2.out.lt); clear t3 t3a t3b t3c t3d hb3))
  all_goals
   go_wp2_with fail
   refine bodyPost_ret (v:=.agg #[.bool (ap (mkRat (dV neg (val ln)) (val ld))),.slice A3 m3 c3,.slice A3' m3' c3']) (by simp [results,Tryz.results115,go_sem,r0,r1,r2]) rfl ⟨_,rfl,?_,ar B3.out (Nat.le_succ _) _ _ _⟩
   rw [HQ.out]
   exact (cg.box3 TA.out TB.out TC.out TD.out RL.out _ _ _).mono (by have:=RL.out; omega)
 have hm0:((m:Int) == 0) = true:=by simp; omega
 have hv0:val ld = 0:=by have:=HMP.out; omega
 have hq:q = mkRat (dV neg (val ln)) 1:=by
  rw [H3.out]
  unfold bX
  rw [if_pos hv0]
 have HQ:=Lib.hid hq
 clear hq hv0
 go_wp2_with fail
 refine (vX w1 1 (by omega)).mono ?_
 rintro e w1b ⟨vs,rfl,ts,hbs⟩
 have T1:=Lib.hid ts
 have N1:=Lib.hid (N1.out.below hbs)
 have B1:=Lib.hid (B1.out.trans (hbs.mono (by omega)))
 have P1:=Lib.hid (P1.out.below' hbs)
 have R1:=Lib.hid (R1.out.below' hbs)
 have hs1:w.heap.size + 2 <= w1b.heap.size:=by have:=hbs.size; omega
 obtain ⟨p0,p1,p2,_,_,_⟩:=P1.out.three
 clear ts hbs
 go_wp2_with fail
 go_region_with (first
  | (go_at_call 185; refine (jl _ _ ln ?_ h6).mono ?_; (exact N1.out); rintro e w2 ⟨v2,rfl,t2,hb2'⟩; have hb2:Below w1b.heap.size w1b w2:=(by first | exact hb2' | exact ah hb2'); have T2:=Lib.hid t2; have D2:=Lib.hid (T1.out.below hb2); have P2:=Lib.hid (P1.out.below' hb2); have R2:=Lib.hid (R1.out.below' hb2); have B2:=Lib.hid (B1.out.trans (hb2.mono (by omega))); clear t2 hb2 hb2'; obtain ⟨p0',p1',p2',_,_,_⟩:=P2.out.three)
  | (go_at_call 181; refine (kU _ neg _ _ (val ln) 1 k T2.out D2.out H4.out HK1.out hk (by omega)).mono ?_; rintro e w3 ⟨v3,rfl,t3,hb3⟩; obtain ⟨A3,m3,c3,A3',m3',c3',rfl,t3a,t3b,t3c,t3d⟩:=t3.open_; obtain ⟨r0,r1,r2,z0,z1,z2⟩:=(R2.out.below' hb3).three; have TA:=Lib.hid t3a; have TB:=Lib.hid t3b; have TC:=Lib.hid t3c; have TD:=Lib.hid t3d; have B3:=Lib.hid (B2.out.trans (hb3.mono B2.out.size)); have RL:=Lib.hid (R2.out.lt); clear t3 t3a t3b t3c t3d hb3))
 all_goals
  go_wp2_with fail
  refine bodyPost_ret (v:=.agg #[.bool (ap (mkRat (dV neg (val ln)) (1))),.slice A3 m3 c3,.slice A3' m3' c3']) (by simp [results,Tryz.results115,go_sem,r0,r1,r2]) rfl ⟨_,rfl,?_,ar B3.out (Nat.le_succ _) _ _ _⟩
  rw [HQ.out]
  exact (cg.box3 TA.out TB.out TC.out TD.out RL.out _ _ _).mono (by have:=RL.out; omega)
def cJ (w:World) (v:Value) (q:Rat):Prop:=∃ vn vd,v = .agg #[.bool (ap q),vn,vd]/\ab w vn q.num.natAbs/\ab w vd (if q.den = 1 then 0 else q.den)
def ay (B:Nat) (w:World) (v:Value) (q:Rat):Prop:=∃ vn vd,v = .agg #[.bool (ap q),vn,vd]/\ab w vn q.num.natAbs/\ab w vd (if q.den = 1 then 0 else q.den)/\bf vn B/\bf vd B

theorem oL (w:World) (v:Value) (n k:Nat)(h:ab w v n)(hn:n < 2 ^ k)(hk:k <= 70368744177664) :
  Calls Tryz.prog 179 #[v] w fun e w'=>∃ v',e = .returned v'/\ab w' v' n/\Below w.heap.size w w'/\bf v' w.heap.size:=by
 obtain ⟨l,d,t,rfl⟩:=h
 refine (fQ w v l.length (l.map dg) d.1 (mD l) (by have:=t.length_le hn; omega)).mono ?_
 rintro e w' ⟨v',rfl,h1,h2,base,hbase,hown⟩
 exact ⟨v',rfl,⟨l,⟨h1,d.2⟩,t,rfl⟩,h2,(bf.of_own hown).mono hbase⟩

theorem CR (w:World) (v:Value) (q:Rat) (k:Nat)(h:dU w v q)(hb:QB k q)(hk:k <= 17592186044416) :
  Calls Tryz.prog 110 #[v] w fun e w'=>∃ v',e = .returned v'/\ay w.heap.size w' v' q/\Below w.heap.size w w':=by
 obtain ⟨A,m,c,A',m',c',rfl,hm,hm',hp,h1,h2⟩:=h.open_
 have H1:=Lib.hid h1
 have H2:=Lib.hid h2
 have HQ1:=Lib.hid hb.1
 have HQ2:=Lib.hid hb.2
 have HC:Hid (fK q.den 1 = 0/\q.den = 1 ∨ fK q.den 1 = 1/\q.den ≠ 1):=Lib.hid (by
  have:=q.den_pos
  rcases Nat.lt_or_ge 1 q.den with h | h
  ·exact .inr ⟨ir h,by omega⟩
  ·have:q.den = 1:=by omega
   exact .inl ⟨by rw [this]; exact nP 1,this⟩)
 clear h h1 h2 hb hp
 obtain ⟨neg,hneg⟩:∃ b,ap q = b:=⟨_,rfl⟩
 have HNEG:=Lib.hid hneg
 rw [hneg]
 clear hneg
 have HW:Hid (∀ o o',Below w.heap.size w ((w.alloc o).alloc o')):=Lib.hid (fun o o'=>((Below.refl _ _).alloc (Nat.le_refl _) o).alloc (by simp) o')
 have HW1:Hid (∀ o o',ab ((w.alloc o).alloc o') (.slice A m c) q.num.natAbs/\ab ((w.alloc o).alloc o') (.slice A' m' c') q.den):=Lib.hid (fun o o'=>⟨(H1.out.alloc _).alloc _,(H2.out.alloc _).alloc _⟩)
 have HW2:Hid (∀ (a b:Array Value) s t,(((w.alloc (.cells a s)).alloc (.cells b t)).heap.size = w.heap.size + 2)):=Lib.hid (fun _ _ _ _=>by simp)
 go_enter Tryz.func110,Tryz.ntmps110
 go_upto_region 1 with fail
 obtain ⟨W,hW⟩:∃ W,W = (w.alloc (.cells #[.bool neg,.slice A m c,.slice A' m' c'] 185)).alloc (.cells #[.bool false,.slice none 0 0,.slice none 0 0] 30):=⟨_,rfl⟩
 have P0:Hid (bw W w.heap.size 185 [.bool neg,.slice A m c,.slice A' m' c']):=Lib.hid (by rw [hW]; exact (bw.new w _ _).alloc _)
 have R0:Hid (bw W (w.heap.size + 1) 30 [.bool false,.slice none 0 0,.slice none 0 0]):=Lib.hid (by
  rw [hW]
  have:=bw.new (w.alloc (.cells #[.bool neg,.slice A m c,.slice A' m' c'] 185)) 30 [.bool false,.slice none 0 0,.slice none 0 0]
  rwa [World.size_alloc] at this)
 have N0:Hid (ab W (.slice A m c) q.num.natAbs/\ab W (.slice A' m' c') q.den):=Lib.hid (by rw [hW]; exact HW1.out _ _)
 have B0:Hid (Below w.heap.size w W):=Lib.hid (by rw [hW]; exact HW.out _ _)
 have hs0:W.heap.size = w.heap.size + 2:=by rw [hW]; exact HW2.out _ _ _ _
 rw [<- hW]
 clear hW
 obtain ⟨p0,p1,p2,_,_,_⟩:=P0.out.three
 have HS0:=Lib.hid hs0
 have hs1:w.heap.size + 2 <= W.heap.size:=by omega
 clear hs0
 go_cut [3] (fun s3 wx=>∃ F A1 m1 c1,s3 = .pointer (some ⟨F,0,none⟩)/\w.heap.size + 2 <= F/\bw wx F 30 [.bool neg,.slice A1 m1 c1,.slice none 0 0] /\
  ab wx (.slice A1 m1 c1) q.num.natAbs/\bf (.slice A1 m1 c1) (w.heap.size + 2)/\rZ (.slice A1 m1 c1) F/\Below (w.heap.size + 2) W wx)
 case first =>
  go_region_held3 (fun w'=>w'.cell? ⟨w.heap.size,0,none⟩ = some (.bool neg)/\w'.cell? ⟨w.heap.size,1,none⟩ = some (.slice A m c)) (first | go_keep | assumption | exact ⟨cz hS.1 (show w.heap.size ≠ _ by (try simp); omega) _ _ _,cz hS.2 (show w.heap.size ≠ _ by (try simp); omega) _ _ _⟩)
   (first
    | (go_at_call 179; refine (oL _ _ q.num.natAbs k ?_ HQ1.out (by omega)).mono ?_; (exact (N0.out.1.alloc _).drew); rintro e w1 ⟨v1,rfl,t1,hb1',f1⟩; have hb1:=ah hb1'; have PP:=(P0.out.alloc (.cells #[.bool false,.slice none 0 0,.slice none 0 0] 30)).below' hb1; have hS:=And.intro PP.three.1 PP.three.2.1; obtain ⟨A1,m1,c1,rfl,_⟩:=t1.len; obtain ⟨r0,r1,r2,z0,z1,z2⟩:=((bw.new W 30 [.bool false,.slice none 0 0,.slice none 0 0]).below' hb1).three; have BN:=Lib.hid ((bw.new W 30 [.bool false,.slice none 0 0,.slice none 0 0]).below' hb1); have hsz:=hb1.size; have T1:=Lib.hid t1; have F1:=Lib.hid (show bf _ (W.heap.size + 1) from by simpa using f1); have BB1:=Lib.hid (((Below.refl _ W).alloc (Nat.le_refl _) _).trans (hb1.mono (by simp))); clear t1 f1 hb1 hb1')
    | (go_at_call 179; refine (oL _ _ q.num.natAbs k ?_ HQ1.out (by omega)).mono ?_; (exact N0.out.1.drew); rintro e w1 ⟨v1,rfl,t1,hb1',f1⟩; have hb1:=ah hb1'; have PP:=P0.out.below' hb1; have hS:=And.intro PP.three.1 PP.three.2.1; obtain ⟨A1,m1,c1,rfl,_⟩:=t1.len; have hsz:=hb1.size; have T1:=Lib.hid t1; have F1:=Lib.hid (show bf _ W.heap.size from f1); have BB1:=Lib.hid hb1; clear t1 f1 hb1 hb1'))
  ·go_wp2_with fail
   go_meet
   have e0:=HS0.out
   exact ⟨_,_,_,_,rfl,by omega,bw.new w1 30 [.bool neg,.slice A1 m1 c1,.slice none 0 0],T1.out.alloc _,F1.out.mono (by omega),T1.out.off (Nat.le_refl _),(BB1.out.alloc hsz _).mono (by omega)⟩
  go_wp2_with fail
  go_meet
  have e0:=HS0.out
  exact ⟨_,_,_,_,rfl,by omega,BN.out.box3 _ _ _,T1.out.box3off (F1.out.off (Nat.lt_succ_self _)) _ _ _,F1.out.mono (by omega),F1.out.off (Nat.lt_succ_self _),(ar BB1.out (Nat.le_refl _) _ _ _).mono (by omega)⟩
 obtain ⟨F,A1,m1,c1,rfl,hF,hfb,hn1,hf1,ho1,hb1⟩:=hcut
 have FB:=Lib.hid hfb
 have N1:=Lib.hid hn1
 have F1:=Lib.hid hf1
 have O1:=Lib.hid ho1
 have BB1:=Lib.hid hb1
 have PP:Hid (bw wc w.heap.size 185 [.bool neg,.slice A m c,.slice A' m' c']):=Lib.hid (P0.out.below hb1 (by omega))
 have D1:Hid (ab wc (.slice A' m' c') q.den):=Lib.hid (N0.out.2.below (hb1.mono (by have:=HS0.out; omega)))
 have hs2:W.heap.size <= wc.heap.size:=hb1.size
 clear hfb hn1 hf1 ho1 hb1 p0 p1 p2
 obtain ⟨p0,p1,p2,_,_,_⟩:=PP.out.three
 rcases HC.out with hc | hc
 ·have CM:Hid (∀ W v2,ab W (.slice A' m' c') q.den->ab W v2 1->Calls Tryz.prog 180 #[.slice A' m' c',v2] W fun e w'=>e = .returned (.int .i64 0)/\∃ k,w' = W.drewN k):=Lib.hid (fun W v2 h1 h2=>by have:=iq W _ _ _ _ h1 h2; rwa [hc.1] at this)
  have HD:=Lib.hid hc.2
  clear hc
  go_upto_region 2 with fail
  go_region_held3 (fun w'=>w'.cell? ⟨w.heap.size,2,none⟩ = some (.slice A' m' c')) (first | go_keep | assumption)
   (first
    | (go_at_call 178; refine (vX _ 1 (by omega)).mono ?_; rintro e w2 ⟨v2,rfl,t2,hb2'⟩; have hb2:=ah hb2'; have hS:=(PP.out.below' hb2).three.2.2.1; have T2:=Lib.hid t2; have BB2:=Lib.hid hb2; have PP2:=Lib.hid (PP.out.below' hb2); have D2:=Lib.hid (D1.out.below hb2); clear t2 hb2 hb2')
    | (go_at_call 180; refine (CM.out _ _ D2.out T2.out).mono ?_; rintro e w3 ⟨rfl,nd,rfl⟩; have hS:=(PP2.out.drewN nd).three.2.2.1))
  obtain ⟨f0,f1,f2,_,_,_⟩:=(FB.out.below' BB2.out).three
  obtain ⟨r0,r1,r2,z0,z1,z2⟩:=((R0.out.below BB1.out (by omega)).below' BB2.out).three
  have BA:=Lib.hid (B0.out.trans ((BB1.out.mono (by omega)).trans (BB2.out.mono (by omega))))
  have NA:=Lib.hid (N1.out.below BB2.out)
  go_wp2_with fail
  refine bodyPost_ret (v:=.agg #[.bool neg,.slice A1 m1 c1,.slice none 0 0]) (by simp [results,Tryz.results110,go_sem,r0,r1,r2]) rfl ⟨_,rfl,⟨_,_,by rw [HNEG.out],?_,?_,F1.out.mono (by omega),bf.nil_ _⟩,ar (aJ BA.out nd) (Nat.le_succ _) _ _ _⟩
  ·exact (NA.out.drewN nd).box3 (F1.out.mono (by omega)) _ _ _
  rw [if_pos HD.out]
  exact ab.nil_ _
 have CM:Hid (∀ W v2,ab W (.slice A' m' c') q.den->ab W v2 1->Calls Tryz.prog 180 #[.slice A' m' c',v2] W fun e w'=>e = .returned (.int .i64 1)/\∃ k,w' = W.drewN k):=Lib.hid (fun W v2 h1 h2=>by have:=iq W _ _ _ _ h1 h2; rwa [hc.1] at this)
 have HD:=Lib.hid hc.2
 clear hc
 go_upto_region 2 with fail
 go_region_held3 (fun w'=>w'.cell? ⟨w.heap.size,2,none⟩ = some (.slice A' m' c')) (first | go_keep | assumption)
  (first
   | (go_at_call 178; refine (vX _ 1 (by omega)).mono ?_; rintro e w2 ⟨v2,rfl,t2,hb2'⟩; have hb2:=ah hb2'; have hS:=(PP.out.below' hb2).three.2.2.1; have T2:=Lib.hid t2; have BB2:=Lib.hid hb2; have PP2:=Lib.hid (PP.out.below' hb2); have D2:=Lib.hid (D1.out.below hb2); clear t2 hb2 hb2')
   | (go_at_call 180; refine (CM.out _ _ D2.out T2.out).mono ?_; rintro e w3 ⟨rfl,nd,rfl⟩; have hS:=(PP2.out.drewN nd).three.2.2.1))
 obtain ⟨f0,f1,f2,y0,y1,y2⟩:=(FB.out.below' BB2.out).three
 have BA:=Lib.hid (B0.out.trans ((BB1.out.mono (by omega)).trans (BB2.out.mono (by omega))))
 have NA:=Lib.hid (N1.out.below BB2.out)
 have QA:=Lib.hid (PP.out.below' BB2.out)
 obtain ⟨q0,q1,q2,_,_,_⟩:=QA.out.three
 have hs3:wc.heap.size <= w2.heap.size:=BB2.out.size
 have RA:=Lib.hid ((R0.out.below BB1.out (by omega)).below' BB2.out)
 have FA:=Lib.hid (FB.out.below' BB2.out)
 go_wp2_with fail
 refine (oL _ _ q.den k (D2.out.drewN nd) HQ2.out (by omega)).mono ?_
 rintro e w4 ⟨v4,rfl,t4,hb4',f4⟩
 have hb4:=aN hb4'
 obtain ⟨A4,m4,c4,rfl,_⟩:=t4.len
 have R4:=Lib.hid (RA.out.below' hb4)
 have FC:=Lib.hid (FA.out.below' hb4)
 have N4:=Lib.hid (NA.out.below hb4)
 have BC:=Lib.hid (BA.out.trans (hb4.mono (by omega)))
 have T4:=Lib.hid t4
 have F4:=Lib.hid (show bf _ w2.heap.size from f4)
 have hF2:F < w2.heap.size:=FA.out.lt
 clear t4 hb4 hb4' f4 f0 f1 f2 y0 y1 y2 q0 q1 q2
 obtain ⟨f0,f1,f2,y0,y1,y2⟩:=FC.out.three
 obtain ⟨r0,r1,r2,z0,z1,z2⟩:=R4.out.three
 have hne:F ≠ w.heap.size + 1:=by omega
 go_wp2_with fail
 refine bodyPost_ret (v:=.agg #[.bool neg,.slice A1 m1 c1,.slice A4 m4 c4]) (by simp [results,Tryz.results110,go_sem,r0,r1,r2]) rfl ⟨_,rfl,⟨_,_,by rw [HNEG.out],?_,?_,F1.out.mono (by omega),F4.out.mono (by omega)⟩,ar (BC.out.setCell (p:=⟨F,2,none⟩) (by show w.heap.size <= F; omega) _) (Nat.le_succ _) _ _ _⟩
 ·exact (N4.out.setOff (p:=⟨F,2,none⟩) O1.out _).box3 (F1.out.mono (by omega)) _ _ _
 rw [if_neg HD.out]
 exact (T4.out.setFar (p:=⟨F,2,none⟩) F4.out hF2 _).box3 (F4.out.mono (by omega)) _ _ _
theorem iy {w:World} {g g':Nat} {e e':TypeId} {a b c a' b' c':Value} (h:bw w g e [a,b,c]) (h':bw w g' e' [a',b',c']) :
  w.cell? ⟨g,0,none⟩ = some a/\w.cell? ⟨g,1,none⟩ = some b/\w.cell? ⟨g,2,none⟩ = some c/\w.cell? ⟨g',0,none⟩ = some a'/\w.cell? ⟨g',1,none⟩ = some b'/\w.cell? ⟨g',2,none⟩ = some c' :=
 ⟨h.three.1,h.three.2.1,h.three.2.2.1,h'.three.1,h'.three.2.1,h'.three.2.2.1⟩

theorem da {w:World} {g g' B:Nat} {a b c a' b' c':Value}
  (h:w.cell? ⟨g,0,none⟩ = some a/\w.cell? ⟨g,1,none⟩ = some b/\w.cell? ⟨g,2,none⟩ = some c/\w.cell? ⟨g',0,none⟩ = some a'/\w.cell? ⟨g',1,none⟩ = some b'/\w.cell? ⟨g',2,none⟩ = some c')
  (hg:g ≠ B) (hg':g' ≠ B) (u0 u1 u2:Value) :
  (((w.setCell ⟨B,0,none⟩ u0).setCell ⟨B,1,none⟩ u1).setCell ⟨B,2,none⟩ u2).cell? ⟨g,0,none⟩ = some a/\(((w.setCell ⟨B,0,none⟩ u0).setCell ⟨B,1,none⟩ u1).setCell ⟨B,2,none⟩ u2).cell? ⟨g,1,none⟩ = some b/\(((w.setCell ⟨B,0,none⟩ u0).setCell ⟨B,1,none⟩ u1).setCell ⟨B,2,none⟩ u2).cell? ⟨g,2,none⟩ = some c/\(((w.setCell ⟨B,0,none⟩ u0).setCell ⟨B,1,none⟩ u1).setCell ⟨B,2,none⟩ u2).cell? ⟨g',0,none⟩ = some a'/\(((w.setCell ⟨B,0,none⟩ u0).setCell ⟨B,1,none⟩ u1).setCell ⟨B,2,none⟩ u2).cell? ⟨g',1,none⟩ = some b'/\(((w.setCell ⟨B,0,none⟩ u0).setCell ⟨B,1,none⟩ u1).setCell ⟨B,2,none⟩ u2).cell? ⟨g',2,none⟩ = some c' :=
 ⟨cz h.1 hg _ _ _,cz h.2.1 hg _ _ _,cz h.2.2.1 hg _ _ _,cz h.2.2.2.1 hg' _ _ _,cz h.2.2.2.2.1 hg' _ _ _,cz h.2.2.2.2.2 hg' _ _ _⟩

theorem Nd (w:World) (v v':Value) (q r:Rat) (k:Nat)(h:dU w v q) (h':dU w v' r)(hb:QB k q) (hb':QB k r)(hk:k <= 8796093022208) :
  Calls Tryz.prog 113 #[v,v'] w fun e w'=>∃ v',e = .returned v'/\cg w.heap.size w' v' (q * r)/\Below w.heap.size w w':=by
 obtain ⟨A,m,c,A',m',c',rfl,hm,hm',hp,h1,h2⟩:=h.open_
 obtain ⟨C,n,d,C',n',d',rfl,hn,hn',hp',h1',h2'⟩:=h'.open_
 have H1:=Lib.hid h1
 have H2:=Lib.hid h2
 have H1':=Lib.hid h1'
 have H2':=Lib.hid h2'
 have HB:=Lib.hid hb
 have HB':=Lib.hid hb'
 have MS:=Lib.hid (AZ q r)
 have DP:Hid (0 < q.den * r.den):=Lib.hid (Nat.mul_pos q.den_pos r.den_pos)
 clear h h' h1 h2 h1' h2' hb hb' hp hp' hn hn' hm hm'
 generalize ap q = s at *
 generalize ap r = t at *
 go_enter Tryz.func113,Tryz.ntmps113
 go_upto_region 1 with fail
 obtain ⟨W,hW,P0,P1,P2,PB,Phs⟩:=box3 w 185 [.bool s,.slice A m c,.slice A' m' c'] 185 [.bool t,.slice C n d,.slice C' n' d'] 185 [.bool false,.slice none 0 0,.slice none 0 0]
 rw [<- hW]
 clear hW
 have N1:=Lib.hid (H1.out.below PB.out)
 have N2:=Lib.hid (H2.out.below PB.out)
 have N1':=Lib.hid (H1'.out.below PB.out)
 have N2':=Lib.hid (H2'.out.below PB.out)
 obtain ⟨p0,p1,p2,_,_,_⟩:=P0.out.three
 obtain ⟨q0,q1,q2,_,_,_⟩:=P1.out.three
 go_region_held3 (fun w'=>w'.cell? ⟨w.heap.size,0,none⟩ = some (.bool s)/\w'.cell? ⟨w.heap.size,1,none⟩ = some (.slice A m c)/\w'.cell? ⟨w.heap.size,2,none⟩ = some (.slice A' m' c')/\w'.cell? ⟨w.heap.size + 1,0,none⟩ = some (.bool t)/\w'.cell? ⟨w.heap.size + 1,1,none⟩ = some (.slice C n d)/\w'.cell? ⟨w.heap.size + 1,2,none⟩ = some (.slice C' n' d')) (first | assumption | (refine da hS ?_ ?_ _ _ _ <;> omega) | go_keep)
  (first
   | (go_at_call_of 182 (Value.slice A m c); refine (mul _ _ _ _ _ k k ?_ ?_ HB.out.1 HB'.out.1 (by omega) (by omega)).mono ?_; (exact N1.out.drew); (exact N1'.out.drew); rintro e w1 ⟨v1,rfl,t1,hb1'⟩; have hb1:=ah hb1'; have hS:=iy (P0.out.below' hb1) (P1.out.below' hb1); have T1:=Lib.hid t1; have B1:=Lib.hid hb1; clear t1 hb1 hb1')
   | (go_at_call_of 182 (Value.slice A' m' c'); refine (mul w1 _ _ _ _ k k (N2.out.below B1.out) (N2'.out.below B1.out) HB.out.2 HB'.out.2 (by omega) (by omega)).mono ?_; rintro e w2 ⟨v2,rfl,t2,hb2⟩; have B2:=Lib.hid (B1.out.trans (hb2.mono B1.out.size)); have T1':=Lib.hid (T1.out.below hb2); have T2:=Lib.hid t2; have hS:=iy (P0.out.below' B2.out) (P1.out.below' B2.out); clear t2 hb2)
   | (go_at_call 181; refine (kU w2 (s != t) _ _ _ _ (k + k) T1'.out T2.out (aR HB.out.1 HB'.out.1) (aR HB.out.2 HB'.out.2) (by omega) DP.out).mono ?_; rintro e w3 ⟨v3,rfl,t3,hb3⟩; have B3:=Lib.hid (B2.out.trans (hb3.mono B2.out.size)); obtain ⟨A3,m3,c3,A3',m3',c3',rfl,t3a,t3b,t3c,t3d⟩:=t3.open_; obtain ⟨r0,r1,r2,z0,z1,z2⟩:=(P2.out.below' B3.out).three; have hS:=iy (P0.out.below' B3.out) (P1.out.below' B3.out); have TA:=Lib.hid t3a; have TB:=Lib.hid t3b; have TC:=Lib.hid t3c; have TD:=Lib.hid t3d; clear t3 t3a t3b t3c t3d hb3))
 go_wp2_with fail
 refine bodyPost_ret (v:=.agg #[.bool (ap (mkRat (dV (s != t) (q.num.natAbs * r.num.natAbs)) (q.den * r.den))),.slice A3 m3 c3,.slice A3' m3' c3']) (by simp [results,Tryz.results113,go_sem,r0,r1,r2]) rfl ⟨_,rfl,?_,ar (PB.out.trans (B3.out.mono (by omega))) (by omega) _ _ _⟩
 rw [MS.out]
 have hb2:=B2.out.size
 exact (cg.box3 TA.out TB.out TC.out TD.out (by omega) _ _ _).mono (by omega)
end Go.Proofs.YtkdhppimhdemjaaGreat
