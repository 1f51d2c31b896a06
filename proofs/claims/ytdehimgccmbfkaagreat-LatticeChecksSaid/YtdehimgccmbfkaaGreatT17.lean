/- Lemmas on the way: Ev20, Ev21. -/
import Derived.Test.YtdehimgccmbfkaaGreatT16
import Derived.Scope
set_option linter.all false
set_option maxRecDepth 1000000
set_option maxHeartbeats 32000000
namespace Go.Proofs.YtdehimgccmbfkaaGreat
open Go.RowKit
section
theorem exitTo_len:∀ (k:List Item) (id:Nat) {k':List Item},exitTo id k = some k'->k'.length < k.length
 | [],_,_,h=>by simp [exitTo] at h
 | x :: k,id,k',h=>by
  have rest:exitTo id k = some k'->k'.length < (x :: k).length:=fun h=>by have:=exitTo_len k id h; simp; omega
  cases x with
  | inBlock id' =>
   simp only [exitTo] at h
   split at h
   ·cases h; simp
   exact rest h
  | _=>simp only [exitTo] at h; exact rest h

section
variable {F:Fence} {n:Nat} {P:Program} {b:Frame} {a:Act} {k:List Item} {cs:List Frame} {w:World} {Q:Exit->Act->World->Prop}
theorem stepR_scope {c:Code}:step P (lone (b.atR a (.code (.scope c) :: k)) cs w) = .next (lone (b.atR a (.code c :: .inScope c :: k)) cs w) :=
 step_lone_go (by simp [stepG,stepG.exec,Frame.atR])
theorem stepR_inScope {c:Code}:step P (lone (b.atR a (.inScope c :: k)) cs w) = .next (lone (b.atR a k) cs w) :=
 step_lone_go (by simp [stepG,stepG.exec,Frame.atR])
theorem wpIn_scope {c:Code} (h:c.wpIn F n P (Exit.noGoto Q) a w):(Code.scope c).wpIn F n P Q a w:=by
 intro b k cs hro hb hr
 have h0:(lone (b.atR a (.code (.scope c) :: k)) cs w).fenced P F:=fenced_calm hb hr rfl
 obtain ⟨e,a₁,w₁,hq,harr⟩:=h b (.inScope c :: k) cs hro hb hr
 cases e with
 | normal=>exact ⟨.normal,a₁,w₁,hq,.head h0 stepR_scope (StepsIn.trans harr (.one (fenced_calm hb hr rfl) stepR_inScope))⟩
 | exit id' =>
  have hx:exitTo id' (.inScope c :: k) = exitTo id' k:=by simp [exitTo]
  exact ⟨.exit id',a₁,w₁,hq,fun k' hk=>.head h0 stepR_scope (harr.1 k' (by rw [hx]; exact hk)),
   fun hr' hk=>let ⟨k₁,h1,h2⟩:=harr.2 hr' (by rw [hx]; exact hk); ⟨k₁,h1,.head h0 stepR_scope h2⟩⟩
 | goto l=>exact hq.elim
 | ret=>exact ⟨_,a₁,w₁,hq,.of_steps (.one h0 stepR_scope) harr⟩
 | panic ch=>exact ⟨_,a₁,w₁,hq,.of_steps (.one h0 stepR_scope) harr⟩
 | outgrown=>exact ⟨_,a₁,w₁,hq,.of_steps (.one h0 stepR_scope) harr⟩
end
def OnlyEx (Q:Exit->Act->World->Prop):Prop:=∀ e a w,Q e a w->(∃ x,e = exOf x)
theorem wpIn_unroll {F:Fence} {n:Nat} {P:Program} {c:Code} {Q:Exit->Act->World->Prop} {a:Act} {w:World} (hq:OnlyEx Q)(h:c.wpIn F n P (Exit.then (fun a w=>(Code.loop c).wpIn F n P Q a w) Q) a w):(Code.loop c).wpIn F n P Q a w:=by
 intro b k cs hro hb hr
 obtain ⟨e,a₁,w₁,hq1,harr⟩:=h b (.inLoop c :: k) cs hro hb hr
 have s0:StepsIn (Machine.fenced P F) P (lone (b.atR a (.code (.loop c) :: k)) cs w) (lone (b.atR a (.code c :: .inLoop c :: k)) cs w):=.one (fenced_calm hb hr rfl) stepR_loop
 cases e with
 | normal =>
  obtain ⟨e₂,a₂,w₂,hq₂,harr₂⟩:=hq1 b k cs hro hb hr
  have hm:=s0.trans harr
  refine ⟨e₂,a₂,w₂,hq₂,.of_steps hm ?_⟩
  have turn:∀ {T:Machine},T ≠ lone (b.atR a₁ (.code (.loop c) :: k)) cs w₁->StepsIn (Machine.fenced P F) P (lone (b.atR a₁ (.code (.loop c) :: k)) cs w₁) T->StepsIn (Machine.fenced P F) P (lone (b.atR a₁ (.inLoop c :: k)) cs w₁) T:=by
   intro T hT hs
   cases hs with
   | refl=>exact absurd rfl hT
   | head hI h1 h2 =>
    rw [stepR_loop] at h1
    cases h1
    exact .head (fenced_calm hb hr rfl) stepR_inLoop h2
  have ne_todo:∀ {a':Act} {w':World} {todo:List Item},todo ≠ .code (.loop c) :: k->lone (b.atR a' todo) cs w' ≠ lone (b.atR a₁ (.code (.loop c) :: k)) cs w₁:=by
   intro a' w' todo hne e
   have:(lone (b.atR a' todo) cs w').gs[0]? = (lone (b.atR a₁ (.code (.loop c) :: k)) cs w₁).gs[0]?:=by rw [e]
   simp only [lone,Frame.atR] at this
   simp at this
   exact hne this.2.1
  obtain ⟨x,rfl⟩:=hq _ _ _ hq₂
  cases x with
  | normal =>
   exact turn (ne_todo (fun e=>by have:=congrArg List.length e; simp at this)) harr₂
  | exit id =>
   refine ⟨fun k' hk=>turn (ne_todo (fun e=>by have:=congrArg List.length e; have:=exitTo_len k id hk; simp at *; omega)) (harr₂.1 k' hk),fun hr' hk=>?_⟩
   obtain ⟨k₁,h1,h2⟩:=harr₂.2 hr' hk
   exact ⟨k₁,h1,turn (ne_todo (fun e=>by cases e)) h2⟩
  | ret =>
   refine ⟨fun hn=>?_,fun hs=>?_⟩
   ·obtain ⟨todo,h2⟩:=harr₂.1 hn
    refine ⟨todo,turn (fun e=>?_) h2⟩
    have:(lone { b.atR a₂ todo with mode:=.returning } cs w₂).gs[0]? = (lone (b.atR a₁ (.code (.loop c) :: k)) cs w₁).gs[0]?:=by rw [e]
    simp only [lone,Frame.atR] at this
    simp at this
   obtain ⟨k₁,h2⟩:=harr₂.2 hs
   exact ⟨k₁,turn (ne_todo (fun e=>by cases e)) h2⟩
 | exit id=>exact ⟨_,a₁,w₁,hq1,.of_steps s0 (.pass (x:=.inLoop c) rfl (fun _ _=>.inl (by simp)) harr)⟩
 | goto l=>exact ⟨_,a₁,w₁,hq1,.of_steps s0 (.pass (x:=.inLoop c) rfl (fun _ _=>.inl (by simp)) harr)⟩
 | ret=>exact ⟨_,a₁,w₁,hq1,.of_steps s0 (.pass (x:=.inLoop c) rfl (fun _ _=>.inl (by simp)) harr)⟩
 | panic ch=>exact ⟨_,a₁,w₁,hq1,.of_steps s0 (.pass (x:=.inLoop c) rfl (fun _ _=>.inl (by simp)) harr)⟩
 | outgrown=>exact ⟨_,a₁,w₁,hq1,.of_steps s0 (.pass (x:=.inLoop c) rfl (fun _ _=>.inl (by simp)) harr)⟩

section
variable {P:Program} {X:Env} {E:Ev}

def CodeOk (P:Program) (c:Code) (fr:Fr) (s:St) (ex:Ex) (fr':Fr) (s':St):Prop :=
 fr'.n = fr.n/\fr'.rd = fr.rd/\(s.nx <= s'.nx/\(Wf s->Wf s'))/\∀ {μ:Mu} {w:World} {a:Act} {ro:Option Nat} (n:Nat) {Q:Exit->Act->World->Prop},Rel μ s w->TR μ fr.n fr.T a.tmps->DM μ fr.ms a.defers->RoR μ fr.rd ro->Fresh μ s s' ->
  (∀ μ' w' a',Rel μ' s' w'->Stp μ s w μ' s' w'->TR μ' fr'.n fr'.T a'.tmps->DM μ' fr'.ms a'.defers->Q (exOf ex) a' w')->c.wpIn (Fw ro) n P Q a w

theorem fresh_left {μ:Mu} {s s1 s':St} (h:Fresh μ s s')(h1:s1.nx <= s'.nx):Fresh μ s s1:=fun o a b=>h o a (by omega)
theorem fresh_right {μ μ1:Mu} {s s1 s':St} {w w1:World} (h:Fresh μ s s') (t:Stp μ s w μ1 s1 w1):Fresh μ1 s1 s':=fun o a b=>by
 cases hm:μ1 o with
 | none=>rfl
 | some l =>
  exfalso
  have hn:=t.nx
  by_cases hm0:μ o = none
  ·have:=t.dom o hm0 (by rw [hm]; simp); omega
  exact hm0 (h o (by omega) b)
theorem CodeOk.seq {c1 c2:Code} {fr fr1 fr2:Fr} {s s1 s2:St} {ex:Ex} (h1:CodeOk P c1 fr s .normal fr1 s1)(h2:CodeOk P c2 fr1 s1 ex fr2 s2) :
  fr2.n = fr.n/\fr2.rd = fr.rd/\(s.nx <= s2.nx/\(Wf s->Wf s2))/\∀ {μ:Mu} {w:World} {a:Act} {ro:Option Nat} (n:Nat) {Q:Exit->Act->World->Prop},Rel μ s w->TR μ fr.n fr.T a.tmps->DM μ fr.ms a.defers->RoR μ fr.rd ro->Fresh μ s s2 ->
  (∀ μ' w' a',Rel μ' s2 w'->Stp μ s w μ' s2 w'->TR μ' fr2.n fr2.T a'.tmps->DM μ' fr2.ms a'.defers->Q (exOf ex) a' w')->c1.wpIn (Fw ro) n P (Exit.then (fun a w=>c2.wpIn (Fw ro) n P Q a w) Q) a w:=by
 refine ⟨h2.1.trans h1.1,h2.2.1.trans h1.2.1,⟨Nat.le_trans h1.2.2.1.1 h2.2.2.1.1,fun hw=>h2.2.2.1.2 (h1.2.2.1.2 hw)⟩,?_⟩
 intro μ w a ro n Q hR hT hD hO hF hQ
 refine h1.2.2.2 n hR hT hD hO (fresh_left hF h2.2.2.1.1) ?_
 intro μ1 w1 a1 r1 t1 tr1 d1
 refine h2.2.2.2 n r1 tr1 d1 (by rw [h1.2.1]; exact hO.mono t1.sub) (fresh_right hF t1) ?_
 intro μ2 w2 a2 r2 t2 tr2 d2
 exact hQ μ2 w2 a2 r2 (t1.trans t2) tr2 d2

theorem region_ok (hl:laidOutB P = true)(hmo:P.follows .mixedOrders = true) (S:Sound P E)(hM:MethOk P X) {id:Nat} {ops:Array Oper} {fr:Fr} {s s':St} {T':Tr AV} (draw:Bool)
  (h:(match draw with | true=>drawA P X E fr.n ops.toList fr.T s | false=>opsA P X E fr.n ops.toList ops.toList fr.T s) = some (T',s')):CodeOk P (.region id ops draw) fr s .normal { fr with T:=T' } s':=by
 cases draw with
 | false =>
  simp only at h
  have gr:∀ (os:List Oper) (T T':Tr AV) (s s':St),opsA P X E fr.n ops.toList os T s = some (T',s')->Grows s s':=by
   intro os
   induction os with
   | nil=>intro T T' s s' h; simp only [opsA,Option.some.injEq,Prod.mk.injEq] at h; rw [h.2]; exact Grows.refl _
   | cons o os ih =>
    intro T T' s s' h
    simp only [opsA] at h
    split at h
    ·split at h
     ·next hop =>
      split at h
      ·exact (opA_grows S hop).trans (ih _ _ _ _ h)
      cases h
     cases h
    ·split at h
     ·exact ih _ _ _ _ h
     cases h
    cases h
  refine ⟨rfl,rfl,gr _ _ _ _ _ h,?_⟩
  intro μ w a ro n Q hR hT hD hO hF hQ
  refine wpIn_region ?_
  have:=ops_ok (ro:=ro) (n:=n) (Q:=Q) hl S hM (fun h=>(opA_grows S h).1) ops.toList 0 (a:=a) (by simp) h hR hT hF (fun μ' w' a' r t tr hd=>hQ μ' w' a' r t tr (by rw [hd]; exact hD.mono t.sub))
  rw [List.range_eq_range']
  simpa using this
 | true =>
  simp only [drawA] at h
  split at h
  ·next M hM' =>
   split at h
   ·next tr T1 s1 htr =>
    obtain ⟨hfl,h⟩:=cond_some h
    cases h
    obtain ⟨V,TT,SS,g1,g2,g3,g4,g5,R⟩:=trace_run _ _ _ htr
    have hS:=static_spec hM'
    have hGr:=R.grows_to S (Nat.zero_le ops.toList.length) (Nat.le_refl _)
    rw [g2,g4] at hGr
    refine ⟨rfl,rfl,hGr,?_⟩
    intro μ w a ro n Q hR hT hD hO hF hQ
    refine wpIn_region_any hmo ?_
    have hW:∀ i,i <= ops.toList.length->Wf (SS i):=fun i hi=>(R.grows_to S (Nat.zero_le i) hi).2 (by rw [g2]; exact hR.wf)
    have hsz:ops.size = ops.toList.length:=by simp
    rw [hsz]
    have hld:∀ j,¬ Ld (Array.replicate ops.toList.length false) j:=by
     intro j
     unfold Ld
     rw [Array.getD_eq_getD_getElem?,Array.getElem?_replicate]
     split <;> simp
    have ov0:∀ o1 x1,μ o1 ≠ none->(OV ops.toList V TT SS 0).get o1 = some x1->s.h.get o1 = some x1:=by
     intro o1 x1 hm e
     rw [OV_old R S (Nat.zero_le _) (fun j _ hmk hjo=>?_),g2] at e
     ·exact e
     obtain ⟨o2,ob,ff,hoj,_,_,hnew,_⟩:=R.makes hmk
     have hj:=(List.getElem?_eq_some_iff.1 hoj).1
     have a1:=(R.grows_to S (Nat.zero_le j) (by omega)).1
     have a2:=(R.grows_to S (show j + 1 <= ops.toList.length by omega) (Nat.le_refl _)).1
     have a3:(SS (j + 1)).nx = (SS j).nx + 1:=by rw [hnew]; rfl
     rw [g2] at a1
     rw [g4] at a2
     exact hm (hjo ▸ hF (SS j).nx (by omega) (by omega))
    have hrel0:Rel μ (SP ops.toList V TT SS 0) w.drew:=by
     refine rel_lay R S (Nat.zero_le _) (hW 0 (Nat.zero_le _)) (by rw [g2]; exact hR.drew) (fun j _ hmk hne=>?_) (fun j j' p p' _ _ hmk _ hne _ _=>?_)
     ·exfalso
      obtain ⟨o2,ob,ff,hoj,_,_,hnew,_⟩:=R.makes hmk
      have hj:=(List.getElem?_eq_some_iff.1 hoj).1
      have a1:=(R.grows_to S (Nat.zero_le j) (by omega)).1
      have a2:=(R.grows_to S (show j + 1 <= ops.toList.length by omega) (Nat.le_refl _)).1
      have a3:(SS (j + 1)).nx = (SS j).nx + 1:=by rw [hnew]; rfl
      rw [g2] at a1
      rw [g4] at a2
      exact hne (hF (SS j).nx (by omega) (by omega))
     exfalso
     obtain ⟨o2,ob,ff,hoj,_,_,hnew,_⟩:=R.makes hmk
     have hj:=(List.getElem?_eq_some_iff.1 hoj).1
     have a1:=(R.grows_to S (Nat.zero_le j) (by omega)).1
     have a2:=(R.grows_to S (show j + 1 <= ops.toList.length by omega) (Nat.le_refl _)).1
     have a3:(SS (j + 1)).nx = (SS j).nx + 1:=by rw [hnew]; rfl
     rw [g2] at a1
     rw [g4] at a2
     rw [hF (SS j).nx (by omega) (by omega)] at hne
     cases hne
    have hstp0:Stp μ (SS 0) w μ (SP ops.toList V TT SS 0) w.drew:=by
     refine ⟨Sub.refl μ,fun _ h h'=>absurd h h',?_,rfl,rfl,rfl,Nat.le_refl _,fun _ _ _=>rfl,fun o1 x1 p1 e1 e2=>.inr ⟨o1,x1,p1,?_,e2,rfl⟩,fun o1 h1 h2=>?_,fun _ _ _ h=>.inl h⟩
     ·exact (R.grows_to S (Nat.zero_le _) (Nat.le_refl _)).1
     ·rw [g2]; exact ov0 o1 x1 (by rw [e2]; simp) e1
     show (OV ops.toList V TT SS 0).get o1 = _
     refine OV_old R S (Nat.zero_le _) (fun j _ hmk hjo=>?_)
     obtain ⟨o2,ob,ff,hoj,_⟩:=R.makes hmk
     have hj:=(List.getElem?_eq_some_iff.1 hoj).1
     have a1:=(R.grows_to S (Nat.zero_le j) (by omega)).1
     omega
    have I0:Inv M ops.toList V TT SS fr.n μ w a.defers (Array.replicate ops.toList.length false) a w.drew μ 0 :=
     ⟨Nat.zero_le _,fun p o h=>by omega,fun p o _ _ _=>hld p,fun j k h=>absurd h (hld j),hrel0,hstp0,fun o h h'=>absurd h h',
      fun i hm _=>OV_new R S (Nat.zero_le _) (Nat.zero_le _) hm,hT.1,fun j o t _ h=>absurd h (hld j),fun t x h1 _=>hT.2 t x (by rw [<- g1]; exact h1),rfl⟩
    refine any_ok (ds:=a.defers) (μ0:=μ) (w0:=w) hl S hM R hS (by rw [g4]; rw [g5] at hfl; exact hfl) hW (by rw [g2,g4]; exact hF) ?_ ops.toList.length (Array.replicate ops.toList.length false) a w.drew μ 0 (by simp) I0 (unl_none _)
    intro μ' w' a' r t tr' hd
    rw [g4] at r t
    rw [g2] at t
    rw [g3] at tr'
    exact hQ μ' w' a' r t tr' (by rw [hd]; exact hD.mono t.sub)
   cases h
  cases h
end
end
section
section
variable {P:Program} {X:Env} {E:Ev}

theorem loop_end {μ:Mu} {s:St} {w:World} (h:Rel μ s w) {l:Nat} {p:Pl} (hm:μ l = some (.at_ p)) {st:LS} {pe:Option Code} {fn:FuncId} {n:Nat} {T:Tr AV} {ps:List Tmp} {asn body:Code} {ds:Nat} (ho:s.h.get l = some (.loop st pe fn n T ps asn body ds))(hst:st ≠ .busy) :
  ∃ w',(Instr.endLoop p.blk).run P w = .ok pe w'/\Rel μ (s.set l (.loop .over pe fn n T ps asn body ds)) w'/\Stp μ s w μ (s.set l (.loop .over pe fn n T ps asn body ds)) w':=by
 have hob:=h.obj l _ ho (by rw [hm]; simp)
 simp only [OR] at hob
 obtain ⟨p',q,tm,fnA,g1,g2,g3,g4⟩:=hob
 rw [hm] at g1
 cases g1
 obtain ⟨c1,c2⟩:=turn_obj (x:=.loop .over pe fn n T ps asn body ds) (O:=.loop { state:=.exhausted,pending:=pe,fn:=fnA,tmps:=tm,params:=ps.toArray,assign:=asn,body:=body,defers:=q.blk }) h ho hm g4 (by simp)
  (fun w' hw=>by simp only [OR]; exact ⟨p,q,tm,fnA,hm,g2,g3,hw⟩)
 exact ⟨_,run_endLoop g4 (by simp; cases st <;> simp [lsOf] at hst ⊢),c1,c2⟩

theorem range_ok (S:Sound P E) {f:Operand} {ps:Array Tmp} {asn body:Code} {fr fr':Fr} {s s':St} {ex:Ex} (h:codeA P X E (.rangeFunc f ps asn body) fr s = some (ex,fr',s')):CodeOk P (.rangeFunc f ps asn body) fr s ex fr' s':=by
 simp only [codeA] at h
 split at h
 ·next g fs cs hf =>
  split at h
  ·next ds fr1 s1 hpre =>
   split at h
   ·next v s2 hc =>
    have hgc:Grows (s1.new (.loop .ready none fr.fn fr.n fr.T ps.toList asn body ds)) s2:=(S.call hc).1.2
    have hg1:Grows s s1:=by
     split at hpre
     ·split at hpre
      ·cases hpre; exact Grows.refl _
      cases hpre
     cases hpre; exact Grows.new _ _
    have hfr1:fr1.n = fr.n/\fr1.rd = fr.rd/\fr1.T = fr.T:=by
     split at hpre
     ·split at hpre
      ·cases hpre; exact ⟨rfl,rfl,rfl⟩
      cases hpre
     cases hpre; exact ⟨rfl,rfl,rfl⟩
    have hall:Grows s s2:=(hg1.trans (Grows.new _ _)).trans hgc
    -- the loop's end,whatever is pending
    have fin:∀ (st:LS) (pe:Option Code) (fn0:FuncId) (n0:Nat) (T0:Tr AV) (ps0:List Tmp) (asn0 body0:Code) (ds0:Nat),s2.h.get s1.nx = some (.loop st pe fn0 n0 T0 ps0 asn0 body0 ds0)->st ≠ .busy ->
      (pe.map fun c=>match c with | .ret=>some Ex.ret | .exit id=>some (.exit id) | _=>none).getD (some .normal) = some ex->fr' = fr1->s' = s2.set s1.nx (.loop .over pe fn0 n0 T0 ps0 asn0 body0 ds0)->CodeOk P (.rangeFunc f ps asn body) fr s ex fr' s':=by
     intro st pe fn0 n0 T0 ps0 asn0 body0 ds0 ho hst hpe hfr hs'
     subst hfr
     subst hs'
     refine ⟨hfr1.1,hfr1.2.1,hall.trans (Grows.set _ ho),?_⟩
     intro μ w a ro n Q hR hT hD hO hF hQ
     have hco:=(S.call hc).1.1
     have hfv:=opd_vr hT f _ hf
     simp only [VR] at hfv
     obtain ⟨fs',cs',ef,hfs,hcs⟩:=hfv
     refine wpIn_rangeFunc fun fnX _=>?_
     have hF0:Fresh μ s s2:=hF
     -- entering
     obtain ⟨l,mark,w1,μ1,hent,hR1,hS1,hl1,hdm⟩:∃ l mark w1 μ1,(Instr.enterLoop fnX a.tmps ps asn body (Fw ro).round).run P w = .ok (l,mark) w1/\Rel μ1 (s1.new (.loop .ready none fr.fn fr.n fr.T ps.toList asn body ds)) w1 /\
       Stp μ s w μ1 (s1.new (.loop .ready none fr.fn fr.n fr.T ps.toList asn body ds)) w1/\(∃ p,μ1 s1.nx = some (.at_ p)/\p.blk = l)/\DM μ1 fr'.ms (mark ++ a.defers):=by
      have n1:=hgc.1
      have n2:(s1.new (.loop .ready none fr.fn fr.n fr.T ps.toList asn body ds)).nx = s1.nx + 1:=rfl
      split at hpre
      ·next lr hrd =>
       split at hpre
       ·next ds1 hlo =>
        cases hpre
        rw [hrd] at hO
        obtain ⟨p,hp1,rfl⟩:=hO
        have hob:=hR.obj lr _ hlo (by rw [hp1]; simp)
        simp only [OR] at hob
        obtain ⟨p',q,tm,fnA,g1,g2,g3,g4⟩:=hob
        rw [hp1] at g1
        cases g1
        have hnone:μ s.nx = none:=hF s.nx (Nat.le_refl _) (by show s.nx < s2.nx; omega)
        obtain ⟨r1,r2⟩:=hR.new hnone (.loop { state:=.ready,pending:=none,fn:=fnX,tmps:=a.tmps,params:=ps,assign:=asn,body:=body,defers:=q.blk }) (.loop .ready none _ _ _ ps.toList asn body ds) ⟨w.heap.size,0,0⟩ rfl
         (by
          simp only [OR]
          exact ⟨_,q,a.tmps,fnX,Mu.with_same _ _ _,Mu.sub_with _ hnone _ _ g2,hT.mono (Mu.sub_with _ hnone),by rw [Array.toArray_toList]; exact heap_new w _⟩)
        refine ⟨w.heap.size,[],_,_,run_enterLoop_inner g4 fnX a.tmps ps asn body,r1,r2,⟨_,Mu.with_same _ _ _,rfl⟩,hD.mono r2.sub⟩
       cases hpre
      next hrd =>
      cases hpre
      rw [hrd] at hO
      cases hO
      have hnone:μ s.nx = none:=hF s.nx (Nat.le_refl _) (by have:(s.new AO.defs).nx = s.nx + 1:=rfl; show s.nx < s2.nx; omega)
      obtain ⟨r1,r2⟩:=hR.new hnone (.deferred (some [])) .defs ⟨w.heap.size,0,0⟩ rfl (by simp only [OR]; exact ⟨_,Mu.with_same _ _ _,heap_new w _⟩)
      have hnone2:(μ.with s.nx (.at_ ⟨w.heap.size,0,0⟩)) (s.new .defs).nx = none:=by
       rw [Mu.with_ne _ _ (by simp [St.new])]
       exact hF _ (by simp [St.new]) (by show (s.new .defs).nx < s2.nx; omega)
      obtain ⟨r3,r4⟩:=r1.new hnone2 (.loop { state:=.ready,pending:=none,fn:=fnX,tmps:=a.tmps,params:=ps,assign:=asn,body:=body,defers:=w.heap.size }) (.loop .ready none fr.fn fr.n fr.T ps.toList asn body s.nx) ⟨w.heap.size + 1,0,0⟩ (by simp)
       (by
        simp only [OR]
        refine ⟨_,⟨w.heap.size,0,0⟩,a.tmps,fnX,Mu.with_same _ _ _,Mu.sub_with _ hnone2 _ _ (Mu.with_same _ _ _),hT.mono (r2.sub.trans (Mu.sub_with _ hnone2)),?_⟩
        rw [Array.toArray_toList]
        have:=heap_new (w.alloc (.deferred (some []))) (.loop { state:=.ready,pending:=none,fn:=fnX,tmps:=a.tmps,params:=ps,assign:=asn,body:=body,defers:=w.heap.size })
        rw [World.size_alloc] at this
        exact this)
      refine ⟨w.heap.size + 1,[{ target:=.collected w.heap.size,args:=#[] }],_,_,run_enterLoop_outer fnX a.tmps ps asn body,r3,r2.trans r4,⟨_,Mu.with_same _ _ _,rfl⟩,?_⟩
      exact ⟨⟨w.heap.size,0,0⟩,a.defers,Mu.sub_with _ hnone2 _ _ (Mu.with_same _ _ _),rfl,hD.mono (r2.trans r4).sub⟩
     obtain ⟨p,hp1,rfl⟩:=hl1
     have hyl:VR μ1 (.yl s1.nx) (.func (.yield p.blk) #[] #[]):=by simp only [VR]; exact ⟨p,hp1,rfl⟩
     have hargs:=(VRs.mono hS1.sub _ hfs).append (VRs.cons hyl (VRs.mono hS1.sub _ hcs))
     refine ⟨p.blk,mark,w1,{ target:=.fn (.func g) cs'.toArray,args:=fs'.toArray ++ #[.func (.yield p.blk) #[] #[]] },w1,g,(fs' ++ .func (.yield p.blk) #[] #[] :: cs').toArray,w1,hent,?_,fun _ _=>trivial,?_,(fun e=>by cases e),?_⟩
     ·simp only [resolve,ef,Deferred.ofValue,Sem.run_pure]
      simp [Act.eval]
     ·simp only [invoke]
      rw [hco]
      congr 2
      apply Array.ext'
      simp
     have hcall:=(S.call hc).2 (n - 1) hR1 hargs (fresh_right (s1:=s1.new (.loop .ready none fr.fn fr.n fr.T ps.toList asn body ds)) hF0 hS1)
     refine CallsIn.mono (F:=Fw ro) hcall ?_
     rintro e2 w3 ⟨v',μ2,rfl,r2,t2,_⟩
     have hp2:=t2.sub _ _ hp1
     obtain ⟨w4,k1,k2,k3⟩:=loop_end (P:=P) r2 hp2 ho hst
     have tt:=(hS1.trans t2).trans k3
     refine ⟨pe,w4,k1,?_⟩
     have hq:=hQ μ2 w4 { a with defers:=mark ++ a.defers } k2 tt (by rw [hfr1.1,hfr1.2.2]; exact hT.mono tt.sub) (hdm.mono t2.sub)
     cases pe with
     | none =>
      simp only [Option.map_none,Option.getD_none,Option.some.injEq] at hpe
      subst hpe
      exact hq
     | some c =>
      simp only [Option.map_some,Option.getD_some] at hpe
      cases c <;> simp only at hpe <;> (try cases hpe)
      ·exact wpIn_exit hq
      exact wpIn_ret hq
    split at h
    ·cases h
    ·next pe fn0 n0 T0 ps0 asn0 body0 ds0 st hbusy ho =>
     split at h
     ·cases h; exact fin _ none _ _ _ _ _ _ _ ho (fun e=>by subst e; exact hbusy rfl) rfl rfl rfl
     ·cases h; exact fin _ (some .ret) _ _ _ _ _ _ _ ho (fun e=>by subst e; exact hbusy rfl) rfl rfl rfl
     ·next id=>cases h; exact fin _ (some (.exit id)) _ _ _ _ _ _ _ ho (fun e=>by subst e; exact hbusy rfl) rfl rfl rfl
     cases h
    cases h
   cases h
  cases h
 cases h
end
end
end Go.Proofs.YtdehimgccmbfkaaGreat
