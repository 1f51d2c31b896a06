/- Lemmas on the way: Ev21, Ev22, Em1, Jd0. -/
import Derived.Test.YtkdhppimhdemjaaGreatU15
set_option linter.all false
set_option maxRecDepth 1000000
set_option maxHeartbeats 32000000
namespace Go.Proofs.YtkdhppimhdemjaaGreat
open Go.RowKit
section
section
variable {P:Program} {X:dY} {E:Ev}

theorem E8 {μ:Mu} {s:St} {w:World} (h:bA μ s w) {l:Nat} {p:Pl} (hm:μ l = some (.at_ p)) {st:LS} {pe:Option Code} {fn:FuncId} {n:Nat} {T:Tr AV} {ps:List Tmp} {asn body:Code} {ds:Nat} (ho:s.h.get l = some (.loop st pe fn n T ps asn body ds))(hst:st ≠ .busy) :
  ∃ w',(Instr.endLoop p.blk).run P w = .ok pe w'/\bA μ (s.set l (.loop .over pe fn n T ps asn body ds)) w'/\dJ μ s w μ (s.set l (.loop .over pe fn n T ps asn body ds)) w':=by
 have hob:=h.obj l _ ho (by rw [hm]; simp)
 simp only [OR] at hob
 obtain ⟨p',q,tm,fnA,g1,g2,g3,g4⟩:=hob
 rw [hm] at g1
 cases g1
 obtain ⟨c1,c2⟩:=dZ (x:=.loop .over pe fn n T ps asn body ds) (O:=.loop { state:=.exhausted,pending:=pe,fn:=fnA,tmps:=tm,params:=ps.toArray,assign:=asn,body:=body,defers:=q.blk }) h ho hm g4 (by simp)
  (fun w' hw=>by simp only [OR]; exact ⟨p,q,tm,fnA,hm,g2,g3,hw⟩)
 exact ⟨_,run_endLoop g4 (by simp; cases st <;> simp [Nk] at hst ⊢),c1,c2⟩

theorem EK (S:cX P E) {f:Operand} {ps:Array Tmp} {asn body:Code} {fr fr':Fr} {s s':St} {ex:Ex} (h:cH P X E (.rangeFunc f ps asn body) fr s = some (ex,fr',s')):kH P (.rangeFunc f ps asn body) fr s ex fr' s':=by
 simp only [cH] at h
 split at h
 ·next g fs cs hf =>
  split at h
  ·next ds fr1 s1 hpre =>
   split at h
   ·next v s2 hc =>
    have hgc:aK (s1.new (.loop .ready none fr.fn fr.n fr.T ps.toList asn body ds)) s2:=(S.call hc).1.2
    have hg1:aK s s1:=by
     split at hpre
     ·split at hpre
      ·cases hpre; exact aK.refl _
      cases hpre
     cases hpre; exact aK.new _ _
    have hfr1:fr1.n = fr.n/\fr1.rd = fr.rd/\fr1.T = fr.T:=by
     split at hpre
     ·split at hpre
      ·cases hpre; exact ⟨rfl,rfl,rfl⟩
      cases hpre
     cases hpre; exact ⟨rfl,rfl,rfl⟩
    have hall:aK s s2:=(hg1.trans (aK.new _ _)).trans hgc
    -- the loop's end,whatever is pending
    have fin:∀ (st:LS) (pe:Option Code) (fn0:FuncId) (n0:Nat) (T0:Tr AV) (ps0:List Tmp) (asn0 body0:Code) (ds0:Nat),s2.h.get s1.nx = some (.loop st pe fn0 n0 T0 ps0 asn0 body0 ds0)->st ≠ .busy ->
      (pe.map fun c=>match c with | .ret=>some Ex.ret | .exit id=>some (.exit id) | _=>none).getD (some .normal) = some ex->fr' = fr1->s' = s2.set s1.nx (.loop .over pe fn0 n0 T0 ps0 asn0 body0 ds0)->kH P (.rangeFunc f ps asn body) fr s ex fr' s':=by
     intro st pe fn0 n0 T0 ps0 asn0 body0 ds0 ho hst hpe hfr hs'
     subst hfr
     subst hs'
     refine ⟨hfr1.1,hfr1.2.1,hall.trans (aK.set _ ho),?_⟩
     intro μ w a ro n Q hR hT hD hO hF hQ
     have hco:=(S.call hc).1.1
     have hfv:=ko hT f _ hf
     simp only [VR] at hfv
     obtain ⟨fs',cs',ef,hfs,hcs⟩:=hfv
     refine wpIn_rangeFunc fun fnX _=>?_
     have hF0:fD μ s s2:=hF
     -- entering
     obtain ⟨l,mark,w1,μ1,hent,hR1,hS1,hl1,hdm⟩:∃ l mark w1 μ1,(Instr.enterLoop fnX a.tmps ps asn body (Fw ro).round).run P w = .ok (l,mark) w1/\bA μ1 (s1.new (.loop .ready none fr.fn fr.n fr.T ps.toList asn body ds)) w1 /\
       dJ μ s w μ1 (s1.new (.loop .ready none fr.fn fr.n fr.T ps.toList asn body ds)) w1/\(∃ p,μ1 s1.nx = some (.at_ p)/\p.blk = l)/\DM μ1 fr'.ms (mark ++ a.defers):=by
      have n1:=hgc.1
      have n2:(s1.new (.loop .ready none fr.fn fr.n fr.T ps.toList asn body ds)).nx = s1.nx + 1:=rfl
      split at hpre
      ·next lr hrd =>
       split at hpre
       ·next ds1 hlo =>
        cases hpre
        rw [hrd] at hO
        obtain ⟨p,hp1,rfl⟩:=hO
        have hob:=hR.obj lr _ hlo (by rw [hp1]; simp)
        simp only [OR] at hob
        obtain ⟨p',q,tm,fnA,g1,g2,g3,g4⟩:=hob
        rw [hp1] at g1
        cases g1
        have hnone:μ s.nx = none:=hF s.nx (Nat.le_refl _) (by show s.nx < s2.nx; omega)
        obtain ⟨r1,r2⟩:=hR.new hnone (.loop { state:=.ready,pending:=none,fn:=fnX,tmps:=a.tmps,params:=ps,assign:=asn,body:=body,defers:=q.blk }) (.loop .ready none _ _ _ ps.toList asn body ds) ⟨w.heap.size,0,0⟩ rfl
         (by
          simp only [OR]
          exact ⟨_,q,a.tmps,fnX,Mu.with_same _ _ _,Mu.sub_with _ hnone _ _ g2,hT.mono (Mu.sub_with _ hnone),by rw [Array.toArray_toList]; exact fc w _⟩)
        refine ⟨w.heap.size,[],_,_,run_enterLoop_inner g4 fnX a.tmps ps asn body,r1,r2,⟨_,Mu.with_same _ _ _,rfl⟩,hD.mono r2.sub⟩
       cases hpre
      next hrd =>
      cases hpre
      rw [hrd] at hO
      cases hO
      have hnone:μ s.nx = none:=hF s.nx (Nat.le_refl _) (by have:(s.new AO.defs).nx = s.nx + 1:=rfl; show s.nx < s2.nx; omega)
      obtain ⟨r1,r2⟩:=hR.new hnone (.deferred (some [])) .defs ⟨w.heap.size,0,0⟩ rfl (by simp only [OR]; exact ⟨_,Mu.with_same _ _ _,fc w _⟩)
      have hnone2:(μ.with s.nx (.at_ ⟨w.heap.size,0,0⟩)) (s.new .defs).nx = none:=by
       rw [Mu.with_ne _ _ (by simp [St.new])]
       exact hF _ (by simp [St.new]) (by show (s.new .defs).nx < s2.nx; omega)
      obtain ⟨r3,r4⟩:=r1.new hnone2 (.loop { state:=.ready,pending:=none,fn:=fnX,tmps:=a.tmps,params:=ps,assign:=asn,body:=body,defers:=w.heap.size }) (.loop .ready none fr.fn fr.n fr.T ps.toList asn body s.nx) ⟨w.heap.size + 1,0,0⟩ (by simp)
       (by
        simp only [OR]
        refine ⟨_,⟨w.heap.size,0,0⟩,a.tmps,fnX,Mu.with_same _ _ _,Mu.sub_with _ hnone2 _ _ (Mu.with_same _ _ _),hT.mono (r2.sub.trans (Mu.sub_with _ hnone2)),?_⟩
        rw [Array.toArray_toList]
        have:=fc (w.alloc (.deferred (some []))) (.loop { state:=.ready,pending:=none,fn:=fnX,tmps:=a.tmps,params:=ps,assign:=asn,body:=body,defers:=w.heap.size })
        rw [World.size_alloc] at this
        exact this)
      refine ⟨w.heap.size + 1,[{ target:=.collected w.heap.size,args:=#[] }],_,_,run_enterLoop_outer fnX a.tmps ps asn body,r3,r2.trans r4,⟨_,Mu.with_same _ _ _,rfl⟩,?_⟩
      exact ⟨⟨w.heap.size,0,0⟩,a.defers,Mu.sub_with _ hnone2 _ _ (Mu.with_same _ _ _),rfl,hD.mono (r2.trans r4).sub⟩
     obtain ⟨p,hp1,rfl⟩:=hl1
     have hyl:VR μ1 (.yl s1.nx) (.func (.yield p.blk) #[] #[]):=by simp only [VR]; exact ⟨p,hp1,rfl⟩
     have hargs:=(ao.mono hS1.sub _ hfs).append (ao.cons hyl (ao.mono hS1.sub _ hcs))
     refine ⟨p.blk,mark,w1,{ target:=.fn (.func g) cs'.toArray,args:=fs'.toArray ++ #[.func (.yield p.blk) #[] #[]] },w1,g,(fs' ++ .func (.yield p.blk) #[] #[] :: cs').toArray,w1,hent,?_,fun _ _=>trivial,?_,(fun e=>by cases e),?_⟩
     ·simp only [resolve,ef,Deferred.ofValue,Sem.run_pure]
      simp [Act.eval]
     ·simp only [invoke]
      rw [hco]
      congr 2
      apply Array.ext'
      simp
     have hcall:=(S.call hc).2 (n - 1) hR1 hargs (pw (s1:=s1.new (.loop .ready none fr.fn fr.n fr.T ps.toList asn body ds)) hF0 hS1)
     refine CallsIn.mono (F:=Fw ro) hcall ?_
     rintro e2 w3 ⟨v',μ2,rfl,r2,t2,_⟩
     have hp2:=t2.sub _ _ hp1
     obtain ⟨w4,k1,k2,k3⟩:=E8 (P:=P) r2 hp2 ho hst
     have tt:=(hS1.trans t2).trans k3
     refine ⟨pe,w4,k1,?_⟩
     have hq:=hQ μ2 w4 { a with defers:=mark ++ a.defers } k2 tt (by rw [hfr1.1,hfr1.2.2]; exact hT.mono tt.sub) (hdm.mono t2.sub)
     cases pe with
     | none =>
      simp only [Option.map_none,Option.getD_none,Option.some.injEq] at hpe
      subst hpe
      exact hq
     | some c =>
      simp only [Option.map_some,Option.getD_some] at hpe
      cases c <;> simp only at hpe <;> (try cases hpe)
      ·exact wpIn_exit hq
      exact wpIn_ret hq
    split at h
    ·cases h
    ·next pe fn0 n0 T0 ps0 asn0 body0 ds0 st hbusy ho =>
     split at h
     ·cases h; exact fin _ none _ _ _ _ _ _ _ ho (fun e=>by subst e; exact hbusy rfl) rfl rfl rfl
     ·cases h; exact fin _ (some .ret) _ _ _ _ _ _ _ ho (fun e=>by subst e; exact hbusy rfl) rfl rfl rfl
     ·next id=>cases h; exact fin _ (some (.exit id)) _ _ _ _ _ _ _ ho (fun e=>by subst e; exact hbusy rfl) rfl rfl rfl
     cases h
    cases h
   cases h
  cases h
 cases h
end
end
section
def GN (P:Program) (X:dY):Prop:=∀ {f g},X.orc f = some g->∀ {args s v s'},g args s = some (v,s')->(kI P f/\s.nx <= s'.nx/\(Wf s->Wf s'))/\∀ {μ:Mu} {w:World} {vs:List Value} (n:Nat),bA μ s w->ao μ args vs->fD μ s s' ->
  CallsIn Fence.wide n P f vs.toArray w fun e w'=>∃ v' μ',e = .returned v'/\bA μ' s' w'/\dJ μ s w μ' s' w'/\VR μ' v v'

section
variable {P:Program} {X:dY} {E:Ev}

theorem Jo (hl:laidOutB P = true)(hmo:P.follows .mixedOrders = true) (S:cX P E)(hM:mI P X) {c:Code} {fr fr':Fr} {s s':St} {ex:Ex} (h:cH P X E c fr s = some (ex,fr',s')):kH P c fr s ex fr' s':=by
 have sub:∀ {c fr s ex fr' s'},E.code c fr s = some (ex,fr',s')->kH P c fr s ex fr' s':=fun h=>S.code h
 cases c with
 | skip =>
  simp only [cH,Option.some.injEq,Prod.mk.injEq] at h
  obtain ⟨rfl,rfl,rfl⟩:=h
  exact ⟨rfl,rfl,aK.refl _,fun n _ hR hT hD hO hF hQ=>wpIn_skip (hQ _ _ _ hR (dJ.refl _ _ _) hT hD)⟩
 | label l =>
  simp only [cH,Option.some.injEq,Prod.mk.injEq] at h
  obtain ⟨rfl,rfl,rfl⟩:=h
  exact ⟨rfl,rfl,aK.refl _,fun n _ hR hT hD hO hF hQ=>wpIn_label (hQ _ _ _ hR (dJ.refl _ _ _) hT hD)⟩
 | ret =>
  simp only [cH,Option.some.injEq,Prod.mk.injEq] at h
  obtain ⟨rfl,rfl,rfl⟩:=h
  exact ⟨rfl,rfl,aK.refl _,fun n _ hR hT hD hO hF hQ=>wpIn_ret (hQ _ _ _ hR (dJ.refl _ _ _) hT hD)⟩
 | exit id =>
  simp only [cH,Option.some.injEq,Prod.mk.injEq] at h
  obtain ⟨rfl,rfl,rfl⟩:=h
  exact ⟨rfl,rfl,aK.refl _,fun n _ hR hT hD hO hF hQ=>wpIn_exit (hQ _ _ _ hR (dJ.refl _ _ _) hT hD)⟩
 | seq a b =>
  simp only [cH] at h
  split at h
  ·next fr1 s1 h1 =>
   obtain ⟨g1,g2,g3,g4⟩:=(sub h1).seq (sub h)
   exact ⟨g1,g2,g3,fun n _ hR hT hD hO hF hQ=>wpIn_seq (g4 n hR hT hD hO hF hQ)⟩
  next hno =>
  obtain ⟨g1,g2,g3,g4⟩:=sub h
  refine ⟨g1,g2,g3,fun n Q hR hT hD hO hF hQ=>wpIn_seq (g4 n hR hT hD hO hF fun μ' w' a' r t tr d=>?_)⟩
  cases ex with
  | normal=>exact (hno fr' s' h).elim
  | exit id=>exact hQ μ' w' a' r t tr d
  | ret=>exact hQ μ' w' a' r t tr d
 | cond c a b =>
  simp only [cH] at h
  split at h
  ·next hc =>
   obtain ⟨g1,g2,g3,g4⟩:=sub h
   refine ⟨g1,g2,g3,fun n Q hR hT hD hO hF hQ=>wpIn_cond_true ?_ (g4 n hR hT hD hO hF hQ)⟩
   have:=ko hT c _ hc
   simpa only [VR] using this
  ·next hc =>
   obtain ⟨g1,g2,g3,g4⟩:=sub h
   refine ⟨g1,g2,g3,fun n Q hR hT hD hO hF hQ=>wpIn_cond_false ?_ (g4 n hR hT hD hO hF hQ)⟩
   have:=ko hT c _ hc
   simpa only [VR] using this
  cases h
 | block id c =>
  simp only [cH] at h
  split at h
  ·next id' fr1 s1 h1 =>
   obtain ⟨g1,g2,g3,g4⟩:=sub h1
   cases hb:Nat.beq id' id with
   | true =>
    rw [hb] at h
    cases h
    have:=Nat.eq_of_beq_eq_true hb
    subst this
    exact ⟨g1,g2,g3,fun n Q hR hT hD hO hF hQ=>wpIn_block (g4 n hR hT hD hO hF fun μ' w' a' r t tr d=>by simp only [mz,Exit.inBlock,if_true]; exact hQ μ' w' a' r t tr d)⟩
   | false =>
    rw [hb] at h
    cases h
    have:=vl.1 hb
    exact ⟨g1,g2,g3,fun n Q hR hT hD hO hF hQ=>wpIn_block (g4 n hR hT hD hO hF fun μ' w' a' r t tr d=>by simp only [mz,Exit.inBlock,if_neg this]; exact hQ μ' w' a' r t tr d)⟩
  next hno =>
  obtain ⟨g1,g2,g3,g4⟩:=sub h
  refine ⟨g1,g2,g3,fun n Q hR hT hD hO hF hQ=>wpIn_block (g4 n hR hT hD hO hF fun μ' w' a' r t tr d=>?_)⟩
  cases ex with
  | normal=>exact hQ μ' w' a' r t tr d
  | exit id'=>exact (hno id' fr' s' h).elim
  | ret=>exact hQ μ' w' a' r t tr d
 | loop c =>
  simp only [cH] at h
  have only:∀ (Q:Exit->Act->World->Prop),GO (fun e a w=>(∃ x,e = mz x)/\Q e a w):=fun Q e a w h=>h.1
  split at h
  ·next fr1 s1 h1 =>
   obtain ⟨g1,g2,g3,g4⟩:=(sub h1).seq (sub h)
   refine ⟨g1,g2,g3,fun n Q hR hT hD hO hF hQ=>wpIn_mono (jR (only Q) (g4 n (Q:=fun e a w=>(∃ x,e = mz x)/\Q e a w) hR hT hD hO hF fun μ' w' a' r t tr d=>⟨⟨_,rfl⟩,hQ μ' w' a' r t tr d⟩)) fun e a w h=>h.2⟩
  next hno =>
  obtain ⟨g1,g2,g3,g4⟩:=sub h
  refine ⟨g1,g2,g3,fun n Q hR hT hD hO hF hQ=>wpIn_mono (jR (only Q) (g4 n hR hT hD hO hF fun μ' w' a' r t tr d=>?_)) fun e a w h=>h.2⟩
  cases ex with
  | normal=>exact (hno fr' s' h).elim
  | exit id=>exact ⟨⟨_,rfl⟩,hQ μ' w' a' r t tr d⟩
  | ret=>exact ⟨⟨_,rfl⟩,hQ μ' w' a' r t tr d⟩
 | region id ops draw =>
  simp only [cH] at h
  split at h
  ·next T1 s1 h1 =>
   cases h
   exact Ct hl hmo S hM draw h1
  cases h
 | rangeFunc f ps asn body=>exact EK S h
 | goto l=>simp [cH] at h
 | scope c =>
  simp only [cH] at h
  obtain ⟨g1,g2,g3,g4⟩:=sub h
  refine ⟨g1,g2,g3,fun n Q hR hT hD hO hF hQ=>yD (g4 n hR hT hD hO hF fun μ' w' a' r t tr d=>?_)⟩
  have:=hQ μ' w' a' r t tr d
  cases ex <;> exact this
 | refuse why=>simp [cH] at h

theorem Hp {μ:Mu} {s:St} {w:World} (h:bA μ s w) {r:Nat} {p:Pl} (hm:μ r = some (.at_ p))(ho:s.h.get r = some .defs):∃ w',(Instr.takeDeferred p.blk).run P w = .ok [] w'/\bA μ (s.drop r) w'/\dJ μ s w μ (s.drop r) w':=by
 have hob:=h.obj r _ ho (by rw [hm]; simp)
 simp only [OR] at hob
 obtain ⟨p',g1,g2⟩:=hob
 rw [hm] at g1
 cases g1
 refine ⟨_,run_takeDeferred g2,uM h rfl ⟨?_,?_⟩⟩
 ·have hd:=h.drop r
  have hsub:∀ o x,(s.drop r).h.get o = some x->s.h.get o = some x/\o ≠ r:=fun o x e=>by
   simp only [St.drop,Tr.get_set] at e
   split at e
   ·cases e
   next hne=>exact ⟨e,hne⟩
  refine ⟨fun o x e m=>(hd.obj o x e m).keep (gY.refl μ) (by rw [World.putObj_size]; exact Nat.le_refl _) (fun q hq=>World.putObj_heap_other fun eb=>?_) (fun A m' c hq ad hA hpos hlt=>World.putObj_heap_other fun eb=>?_),hd.inj,hd.nat,hd.wf⟩
  ·exact (hsub o x e).2 (h.inj o r x _ q p (hsub o x e).1 ho hq hm eb)
  obtain ⟨nn,rfl⟩:=(hd.obj o x e m).val hq
  subst hA
  exact h.nat o nn _ m' c r _ p (hsub o _ e).1 hq ho hm ad m' c rfl hpos eb
 have t:=dJ.drop μ s w r (by rw [hm]; simp)
 exact ⟨t.sub,t.dom,t.nx,rfl,rfl,rfl,by rw [World.putObj_size]; exact Nat.le_refl _,fun g hg hn=>World.putObj_heap_other fun eb=>hn r _ p ho hm eb.symm,t.own,t.keep,t.fz⟩
theorem oz {fn:Func} {tmps:Array Value} {n:Nat} {R:Ending->World->Prop} {μ:Mu}:∀ (ms:List Nat) (ds:List Deferred) (s:St) (w:World),bA μ s w->DM μ ms ds->fO s ms = true ->
  (∀ w',bA μ (ms.foldl St.drop s) w'->dJ μ s w μ (ms.foldl St.drop s) w'->LeavesInM Fence.wide n P fn tmps R [] .returning w')->LeavesInM Fence.wide n P fn tmps R ds .returning w
 | [],ds,s,w,hR,hD,_,h=>by
  simp only [DM] at hD
  subst hD
  exact h w hR (dJ.refl _ _ _)
 | r :: ms,ds,s,w,hR,hD,hk,h=>by
  obtain ⟨p,ds',hm,rfl,hD'⟩:=hD
  simp only [fO,Bool.and_eq_true,Bool.not_eq_true',List.contains_eq_mem,decide_eq_false_iff_not] at hk
  obtain ⟨⟨k1,k2⟩,k3⟩:=hk
  have ho:s.h.get r = some .defs:=by
   split at k1
   ·assumption
   cases k1
  obtain ⟨w',g1,g2,g3⟩:=Hp (P:=P) hR hm ho
  refine ⟨by simp,.inl ⟨p.blk,w',rfl,g1,?_⟩⟩
  have hk':fO (s.drop r) ms = true:=by
   have:∀ ms:List Nat,¬ r ∈ ms->fO s ms = true->fO (s.drop r) ms = true:=by
    intro ms
    induction ms with
    | nil=>intro _ _; rfl
    | cons r' ms ih =>
     intro hn hk
     simp only [List.mem_cons,not_or] at hn
     simp only [fO,Bool.and_eq_true] at hk ⊢
     refine ⟨⟨?_,hk.1.2⟩,ih hn.2 hk.2⟩
     simp only [St.drop]
     rw [Tr.get_set_ne _ _ (Ne.symm hn.1)]
     exact hk.1.1
   exact this ms k2 k3
  exact oz ms ds' (s.drop r) w' g2 hD' hk' fun w2 r2 t2=>h w2 r2 (g3.trans t2)

theorem rF:∀ (ms:List Nat) (s:St),aK s (ms.foldl St.drop s)
 | [],s=>aK.refl s
 | r :: ms,s=>(aK.drop s r).trans (rF ms _)
def oe (tm:Array Value):ResultVar->Sem Value:=fun
 | .tmp t=>pure (tm.getD t undef)
 | .cell a t=>do loadVar t (<- asAddr (tm.getD a undef))
theorem qL (fn:Func) (tm:Array Value):results fn tm = (do let vs <- fn.results.mapM (oe tm); pure (if h:vs.size = 1 then vs[0] else .tuple vs)):=rfl
theorem uK {μ:Mu} {s:St} {w:World} (h:bA μ s w) {T:Tr AV} {nt:Nat} {tm:Array Value} (hT:TR μ nt T tm):∀ {rs:List ResultVar} {l:List AV},j9 P T s rs = some l ->
  ∃ m,(rs.mapM (oe tm)).run P w = .ok m w/\ao μ l m
 | [],l,h1=>by simp only [j9,Option.some.injEq] at h1; subst h1; exact ⟨[],rfl,ao.nil_⟩
 | r :: rs,l,h1=>by
  simp only [j9] at h1
  split at h1
  ·next v hv =>
   simp only [Option.map_eq_some_iff] at h1
   obtain ⟨l',h2,rfl⟩:=h1
   obtain ⟨m,g1,g2⟩:=uK h hT h2
   have one:∃ y,(oe tm r).run P w = .ok y w/\VR μ v y:=by
    cases r with
    | tmp t =>
     obtain ⟨y,k1,k2⟩:=hT.2 t v hv
     exact ⟨y,by simp [oe,k1],k2⟩
    | cell a t =>
     simp only [Cr] at hv
     split at hv
     ·next pv hp =>
      obtain ⟨y,k1,k2⟩:=hT.2 a pv hp
      obtain ⟨z,q1,q2⟩:=q8 h hv k2
      have hv':=hv
      unfold ig at hv'
      split at hv'
      ·simp only [VR] at k2
       obtain ⟨p,_,rfl⟩:=k2
       simp only [Instr.loadAt,Instr.sureAddr,Sem.run_bind,Sem.run_pure,Result.andThen_ok] at q1
       exact ⟨z,by simp [oe,k1,asAddr,q1],q2⟩
      ·simp only [VR] at k2
       obtain ⟨b,base,cs,rfl,_⟩:=k2
       simp only [Instr.loadAt,Instr.sureAddr,Sem.run_bind,Sem.run_pure,Result.andThen_ok] at q1
       exact ⟨z,by simp [oe,k1,asAddr,q1],q2⟩
      cases hv'
     cases hv
   obtain ⟨y,k1,k2⟩:=one
   refine ⟨y :: m,?_,ao.cons k2 g2⟩
   rw [List.mapM_cons,Sem.run_bind,k1]
   simp only [Result.andThen_ok,Sem.run_bind,g1,Sem.run_pure]
  cases h1

theorem Jv (hO:GN P X) (S:cX P E) {f:FuncId} {args:List AV} {s s':St} {v:AV} (h:pC P X E f args s = some (v,s')):(kI P f/\s.nx <= s'.nx/\(Wf s->Wf s'))/\∀ {μ:Mu} {w:World} {vs:List Value} (n:Nat),bA μ s w->ao μ args vs->fD μ s s' ->
  CallsIn Fence.wide n P f vs.toArray w fun e w'=>∃ v' μ',e = .returned v'/\bA μ' s' w'/\dJ μ s w μ' s' w'/\VR μ' v v':=by
 unfold pC at h
 split at h
 ·next g hg=>exact hO hg h
 split at h
 ·next fn hfn =>
  split at h
  ·next c hc =>
   obtain ⟨hcd,h⟩:=aj h
   simp only [Bool.and_eq_true,Nat.ble_eq,Bool.not_eq_true'] at hcd
   obtain ⟨hlen,hname⟩:=hcd
   have hname':¬ fn.name = "runtime.NumGoroutine":=by simpa using hname
   have hco:kI P f:=fun args w=>by simp [callFunc,hfn,hname',hc]
   have main:∀ (ex:Ex) (fr:Fr) (s1:St) (l:List AV),E.code c ⟨f,fn.ntmps,Tr.ofList args,none,[]⟩ s = some (ex,fr,s1)->(ex = .normal ∨ ex = .ret)->fO s1 fr.ms = true->j9 P fr.T (fr.ms.foldl St.drop s1) fn.results.toList = some l->s' = fr.ms.foldl St.drop s1->(l = [v] ∨ (l.length ≠ 1/\v = .tup l)) ->
     (kI P f/\s.nx <= s'.nx/\(Wf s->Wf s'))/\∀ {μ:Mu} {w:World} {vs:List Value} (n:Nat),bA μ s w->ao μ args vs->fD μ s s' ->
     CallsIn Fence.wide n P f vs.toArray w fun e w'=>∃ v' μ',e = .returned v'/\bA μ' s' w'/\dJ μ s w μ' s' w'/\VR μ' v v':=by
    intro ex fr s1 l hcode hex hmk hres hs' hv
    obtain ⟨g1,g2,g3,g4⟩:=S.code hcode
    have gd:=rF fr.ms s1
    have gall:aK s s':=by rw [hs']; exact aK.trans g3 gd
    refine ⟨⟨hco,gall⟩,?_⟩
    intro μ w vs n hR hvs hF
    have hvl:=hvs.length
    refine callsIn_of_wp_marks (F:=Fence.wide) hfn hc trivial ?_ rfl
    have hT0:TR μ fn.ntmps (Tr.ofList args) (vs.toArray ++ Array.replicate (fn.ntmps - vs.toArray.size) undef):=by
     refine ⟨by simp; omega,fun t x hx=>?_⟩
     rw [Tr.get_ofList] at hx
     obtain ⟨y,h1,h2⟩:=hvs.get hx
     refine ⟨y,?_,h2⟩
     have hlt:=(List.getElem?_eq_some_iff.1 h1).1
     rw [Array.getElem?_append]
     rw [if_pos (by simpa using hlt)]
     simpa using h1
    refine g4 (ro:=none) (a:={ tmps:=vs.toArray ++ Array.replicate (fn.ntmps - vs.toArray.size) undef,defers:=[] }) n hR hT0 (by simp [DM]) rfl (fun o a b=>hF o a (by have:=gd.1; rw [hs']; omega)) ?_
    intro μ1 w1 a1 r1 t1 tr1 d1
    have post:LeavesInM Fence.wide n P fn a1.tmps (fun e w'=>∃ v' μ',e = .returned v'/\bA μ' s' w'/\dJ μ s w μ' s' w'/\VR μ' v v') a1.defers .returning w1:=by
     refine oz fr.ms a1.defers s1 w1 r1 d1 hmk fun w2 r2 t2=>?_
     obtain ⟨m,k1,k2⟩:=uK (P:=P) r2 tr1 hres
     have hrun:∃ v',(results fn a1.tmps).run P w2 = .ok v' w2/\VR μ1 v v':=by
      rw [qL,Array.mapM_eq_mapM_toList]
      simp only [Sem.run_bind,Sem.run_map,k1]
      rcases hv with rfl | ⟨hne,rfl⟩
      ·simp only [ao] at k2
       obtain ⟨y,ys,rfl,hy,rfl⟩:=k2
       exact ⟨y,by simp,hy⟩
      have:m.length ≠ 1:=by rw [<- k2.length]; exact hne
      exact ⟨.tuple m.toArray,by simp [this],by simp only [VR]; exact ⟨m,rfl,k2⟩⟩
     obtain ⟨v',q1,q2⟩:=hrun
     exact ⟨v',q1,v',μ1,rfl,hs' ▸ r2,hs' ▸ (t1.trans t2),q2⟩
    rcases hex with rfl | rfl <;> exact post
   split at h
   ·cases h
   ·next ex fr s1 hne hcode =>
    obtain ⟨hmk,h⟩:=aj h
    have hex:ex = .normal ∨ ex = .ret:=by
     cases ex with
     | normal=>exact .inl rfl
     | exit id=>exact (hne id rfl).elim
     | ret=>exact .inr rfl
    split at h
    ·next v1 hres=>cases h; exact main ex fr s1 [v] hcode hex hmk hres rfl (.inl rfl)
    ·next l hno hres =>
     cases h
     refine main ex fr s1 l hcode hex hmk hres rfl (.inr ⟨fun e=>?_,rfl⟩)
     cases l with
     | nil=>simp at e
     | cons a l' =>
      cases l' with
      | nil=>exact hno a rfl
      | cons b l''=>simp at e
    cases h
   cases h
  cases h
 cases h

theorem x7 (hl:laidOutB P = true)(hmo:P.follows .mixedOrders = true)(hM:mI P X)(hO:GN P X):∀ k,cX P (Ev.at_ P X k)
 | 0=>⟨fun h=>(by cases h),fun h=>(by cases h)⟩
 | k + 1=>⟨fun h=>Jv hO (x7 hl hmo hM hO k) h,fun h=>Jo hl hmo (x7 hl hmo hM hO k) hM h⟩

end
end
section
structure BT (E E':Ev):Prop where
 call:∀ {f a s r},E.call f a s = some r->E'.call f a s = some r
 code:∀ {c fr s r},E.code c fr s = some r->E'.code c fr s = some r
section
variable {P:Program} {X:dY} {E E':Ev}
theorem DQ (L:BT E E') {l:Nat} {args:List AV} {s:St} {r:AV × St} (h:cV E l args s = some r):cV E' l args s = some r:=by
 unfold cV at h ⊢
 split at h
 ·next ho =>
  obtain ⟨hc,h1⟩:=aj h
  rw [hc,cond_true]
  clear h
  split at h1
  ·next h2 =>
   rw [L.code h2]
   dsimp only
   split at h1
   ·next h3 =>
    split at h1
    ·next h4=>rw [L.code h4]; exact h1
    cases h1
   cases h1
  cases h1
 cases h
theorem Ly (L:BT E E') {ρ:Operand->Option AV} {s:St} {o:Op} {r:AV × St} (h:gy P X E ρ s o = some r):gy P X E' ρ s o = some r:=by
 unfold gy at h ⊢
 split at h
 all_goals first
  | exact h
  | (split at h; (next h1=>exact L.call h); (next h1=>exact DQ L h); (cases h))
  | (split at h; (next h1 h2=>split at h; (next h3=>exact L.call h); (next h3=>split at h; (next h4=>exact L.call h); (cases h)); (cases h)); (cases h))
theorem EZ (L:BT E E') {ρ:Operand->Option AV} {s:St} {o:Op} {r:AV × St} (h:f5 P X E ρ s o = some r):f5 P X E' ρ s o = some r:=by
 unfold f5 at h ⊢
 split at h
 ·next h1=>exact h
 ·next h1=>exact h
 next h1=>exact Ly L h
theorem uN (L:BT E E') {n:Nat} {all:List Oper}:∀ {os:List Oper} {T:Tr AV} {s:St} {r:Tr AV × St},jN P X E n all os T s = some r->jN P X E' n all os T s = some r
 | [],_,_,_,h=>h
 | o :: os,T,s,r,h=>by
  simp only [jN] at h ⊢
  split at h
  ·next h1 =>
   split at h
   ·next h2 =>
    rw [EZ L h2]
    dsimp only
    split at h
    ·next h3=>exact uN L h
    cases h
   cases h
  ·next h1 =>
   split at h
   ·next h3=>exact uN L h
   cases h
  cases h
theorem qC (L:BT E E') {n:Nat} {all:List Oper}:∀ {os:List Oper} {T:Tr AV} {s:St} {r:List (Option AV × Tr AV × St) × Tr AV × St},iP P X E n all os T s = some r->iP P X E' n all os T s = some r
 | [],_,_,_,h=>h
 | o :: os,T,s,r,h=>by
  simp only [iP] at h ⊢
  split at h
  ·next h1 =>
   split at h
   ·next h2 =>
    rw [EZ L h2]
    dsimp only
    split at h
    ·next h3 =>
     split at h
     ·next h4=>rw [qC L h4]; exact h
     cases h
    cases h
   cases h
  ·next h1 =>
   split at h
   ·next h3 =>
    split at h
    ·next h4=>rw [qC L h4]; exact h
    cases h
   cases h
  cases h
theorem FN (L:BT E E') {n:Nat} {ops:List Oper} {T:Tr AV} {s:St} {r:Tr AV × St} (h:px P X E n ops T s = some r):px P X E' n ops T s = some r:=by
 unfold px at h ⊢
 split at h
 ·next h1 =>
  split at h
  ·next h2=>rw [qC L h2]; exact h
  cases h
 cases h
theorem FU (L:BT E E') {c:Code} {fr:Fr} {s:St} {r:Ex × Fr × St} (h:cH P X E c fr s = some r):cH P X E' c fr s = some r:=by
 cases c with
 | skip=>exact h
 | label l=>exact h
 | ret=>exact h
 | exit id=>exact h
 | goto l=>cases h
 | refuse w=>cases h
 | scope c=>simp only [cH] at h ⊢; exact L.code h
 | seq a b =>
  simp only [cH] at h ⊢
  split at h
  ·next h1=>rw [L.code h1]; exact L.code h
  next h1=>rw [L.code h]; split <;> simp_all
 | cond x a b =>
  simp only [cH] at h ⊢
  split at h
  ·exact L.code h
  ·exact L.code h
  cases h
 | block id c =>
  simp only [cH] at h ⊢
  split at h
  ·next h1=>rw [L.code h1]; exact h
  next h1=>rw [L.code h]; split <;> simp_all
 | loop c =>
  simp only [cH] at h ⊢
  split at h
  ·next h1=>rw [L.code h1]; exact L.code h
  next h1=>rw [L.code h]; split <;> simp_all
 | region id ops draw =>
  simp only [cH] at h ⊢
  split at h
  ·next h1 =>
   cases draw with
   | true=>simp only at h1 ⊢; rw [FN L h1]; exact h
   | false=>simp only at h1 ⊢; rw [uN L h1]; exact h
  cases h
 | rangeFunc f ps asn body =>
  simp only [cH] at h ⊢
  split at h
  ·split at h
   ·split at h
    ·next h3=>rw [L.call h3]; exact h
    cases h
   cases h
  cases h
theorem Ga (L:BT E E') {f:FuncId} {args:List AV} {s:St} {r:AV × St} (h:pC P X E f args s = some r):pC P X E' f args s = some r:=by
 unfold pC at h ⊢
 split at h
 ·exact h
 split at h
 ·split at h
  ·obtain ⟨hc,h1⟩:=aj h
   rw [hc,cond_true]
   clear h
   generalize hE:E.code _ _ _ = x at h1
   cases x with
   | none=>cases h1
   | some y=>rw [L.code hE]; exact h1
  cases h
 cases h
end
theorem nV (P:Program) (X:dY) (k:Nat):(Ev.at_ P X (k + 1)).code = cH P X (Ev.at_ P X k):=rfl
theorem vm (P:Program) (X:dY):∀ k,BT (Ev.at_ P X k) (Ev.at_ P X (k + 1))
 | 0=>⟨fun h=>(by cases h),fun h=>(by cases h)⟩
 | k + 1=>⟨fun h=>Ga (vm P X k) h,fun h=>FU (vm P X k) h⟩
theorem BT.trans {E E' E'':Ev} (h:BT E E') (k:BT E' E''):BT E E'':=⟨fun x=>k.call (h.call x),fun x=>k.code (h.code x)⟩
theorem Gn (P:Program) (X:dY) {k:Nat}:∀ {m:Nat},k <= m->BT (Ev.at_ P X k) (Ev.at_ P X m)
 | 0,h=>by
  obtain rfl:k = 0:=by omega
  exact ⟨id,id⟩
 | m + 1,h=>by
  rcases Nat.lt_or_ge m k with h1 | h1
  ·obtain rfl:k = m + 1:=by omega
   exact ⟨id,id⟩
  exact (Gn P X h1).trans (vm P X m)
def vB (P:Program) (X:dY) (c:Code) (fr:Fr) (s:St) (ex:Ex) (fr':Fr) (s':St):Prop:=∃ k,(Ev.at_ P X k).code c fr s = some (ex,fr',s')
section
variable {P:Program} {X:dY} {c a b:Code} {fr fr1 fr2:Fr} {s s1 s2:St} {ex:Ex}
theorem vB.of (h:∀ E,cH P X E c fr s = some (ex,fr1,s1)):vB P X c fr s ex fr1 s1:=⟨1,by rw [nV]; exact h _⟩
theorem vB.seq (h:vB P X a fr s .normal fr1 s1) (k:vB P X b fr1 s1 ex fr2 s2):vB P X (.seq a b) fr s ex fr2 s2:=by
 obtain ⟨m,hm⟩:=h
 obtain ⟨n,hn⟩:=k
 refine ⟨max m n + 1,?_⟩
 rw [nV]
 simp only [cH]
 rw [(Gn P X (Nat.le_max_left m n)).code hm]
 exact (Gn P X (Nat.le_max_right m n)).code hn
theorem vB.block {id:Nat} (h:vB P X a fr s .normal fr1 s1):vB P X (.block id a) fr s .normal fr1 s1:=by
 obtain ⟨m,hm⟩:=h
 refine ⟨m + 1,?_⟩
 rw [nV]
 simp only [cH]
 rw [hm]
end
end
section
structure Fp (bb:Nat) (μ:Mu) (s:St) (w:World) (μ':Mu) (s':St) (w':World):Prop where
 base:∀ o p,o < bb->μ o = some p->μ' o = some p
 fzm:∀ b i v,μ.fz b i = some v->μ'.fz b i = some v
 os:w'.os = w.os
 tape:w'.tape = w.tape
 output:w'.output = w.output
 size:w.heap.size <= w'.heap.size
 blk:∀ g,g < w.heap.size->(∀ o x p,s.h.get o = some x->μ o = some (.at_ p)->p.blk ≠ g)->w'.heap[g]? = w.heap[g]?
 own:∀ o x p,s'.h.get o = some x->μ' o = some (.at_ p)->w.heap.size <= p.blk ∨ ∃ o0 x0 p0,s.h.get o0 = some x0/\μ o0 = some (.at_ p0)/\p0.blk = p.blk
 fz:∀ b i v,μ'.fz b i = some v->μ.fz b i = some v ∨ w.heap.size <= b ∨ (∃ o x p,s.h.get o = some x/\μ o = some (.at_ p)/\p.blk = b) ∨ fy v = false
theorem dJ.fp {bb:Nat} {μ μ':Mu} {s s':St} {w w':World} (t:dJ μ s w μ' s' w'):Fp bb μ s w μ' s' w':=⟨fun o p _ h=>t.sub o p h,t.sub.fz,t.os,t.tape,t.output,t.size,t.blk,t.own,t.fz⟩
theorem Fp.refl {bb:Nat} (μ:Mu) (s:St) (w:World):Fp bb μ s w μ s w:=(dJ.refl μ s w).fp
theorem Fp.trans {bb:Nat} {a b c:Mu} {s t u:St} {w v z:World} (h:Fp bb a s w b t v) (k:Fp bb b t v c u z):Fp bb a s w c u z:=by
 refine ⟨fun o p ho hp=>k.base o p ho (h.base o p ho hp),fun b i v hv=>k.fzm b i v (h.fzm b i v hv),k.os.trans h.os,k.tape.trans h.tape,k.output.trans h.output,Nat.le_trans h.size k.size,fun g hg hn=>?_,fun o x p e1 e2=>?_,fun b' i v hv=>?_⟩
 ·exact (k.blk g (Nat.lt_of_lt_of_le hg h.size) fun o x p e1 e2=>by
   rcases h.own o x p e1 e2 with h1 | ⟨o0,x0,p0,h1,h2,h3⟩
   ·omega
   ·rw [<- h3]; exact hn o0 x0 p0 h1 h2).trans (h.blk g hg hn)
 ·rcases k.own o x p e1 e2 with h1 | ⟨o0,x0,p0,h1,h2,h3⟩
  ·exact .inl (Nat.le_trans h.size h1)
  rw [<- h3]; exact h.own o0 x0 p0 h1 h2
 rcases k.fz b' i v hv with h1 | h1 | ⟨o,x,p,e1,e2,e3⟩ | h1
 ·exact h.fz b' i v h1
 ·exact .inr (.inl (Nat.le_trans h.size h1))
 ·rcases h.own o x p e1 e2 with h1 | ⟨o0,x0,p0,h1,h2,h3⟩
  ·exact .inr (.inl (by omega))
  exact .inr (.inr (.inl ⟨o0,x0,p0,h1,h2,h3.trans e3⟩))
 exact .inr (.inr (.inr h1))

structure At (μ:Mu) (fr:Fr) (s:St) (ro:Option Nat) (a:Act) (w:World):Prop where
 rel:bA μ s w
 tr:TR μ fr.n fr.T a.tmps
 dm:DM μ fr.ms a.defers
 ro:Mg μ fr.rd ro
 fresh:∀ o,s.nx <= o->μ o = none

def Jb (bb:Nat) (P:Program) (c:Code) (fr:Fr) (s:St) (Q:Ex->Fr->St->Prop):Prop :=
 ∀ (n:Nat) (μ:Mu) (w:World) (a:Act) (ro:Option Nat) (R:Exit->Act->World->Prop),At μ fr s ro a w ->
  (∀ ex fr' s' μ' w' a',Q ex fr' s'->At μ' fr' s' ro a' w'->Fp bb μ s w μ' s' w'->R (mz ex) a' w')->c.wpIn (Fw ro) n P R a w
def iE (K:Fr->St->Prop) (Q:Ex->Fr->St->Prop):Ex->Fr->St->Prop
 | .normal,fr,s=>K fr s
 | .exit id,fr,s=>Q (.exit id) fr s
 | .ret,fr,s=>Q .ret fr s
def dX (id:Nat) (Q:Ex->Fr->St->Prop):Ex->Fr->St->Prop
 | .normal,fr,s=>Q .normal fr s
 | .exit id',fr,s=>if id' = id then Q .normal fr s else Q (.exit id') fr s
 | .ret,fr,s=>Q .ret fr s
section
variable {bb:Nat} {P:Program} {c a b:Code} {fr:Fr} {s:St} {Q Q':Ex->Fr->St->Prop}
theorem Jd.mono (h:Jb bb P c fr s Q)(hq:∀ ex fr s,Q ex fr s->Q' ex fr s):Jb bb P c fr s Q':=fun n μ w a ro R hA hR=>h n μ w a ro R hA fun ex fr' s' μ' w' a' q=>hR ex fr' s' μ' w' a' (hq _ _ _ q)
theorem Jd.skip (h:Q .normal fr s):Jb bb P .skip fr s Q:=fun _ μ w a _ _ hA hR=>wpIn_skip (hR _ _ _ μ w a h hA (Fp.refl μ s w))
theorem Jd.ret (h:Q .ret fr s):Jb bb P .ret fr s Q:=fun _ μ w a _ _ hA hR=>wpIn_ret (hR .ret _ _ μ w a h hA (Fp.refl μ s w))
theorem Jd.exit {id:Nat} (h:Q (.exit id) fr s):Jb bb P (.exit id) fr s Q:=fun _ μ w a _ _ hA hR=>wpIn_exit (hR (.exit id) _ _ μ w a h hA (Fp.refl μ s w))
theorem Jd.seq (h:Jb bb P a fr s (iE (fun fr s=>Jb bb P b fr s Q) Q)):Jb bb P (.seq a b) fr s Q:=by
 intro n μ w x ro R hA hR
 refine wpIn_seq (h n μ w x ro _ hA ?_)
 intro ex fr1 s1 μ1 w1 a1 hq hA1 f1
 cases ex with
 | normal=>exact hq n μ1 w1 a1 ro R hA1 fun ex fr' s' μ' w' a' q hA' f'=>hR ex fr' s' μ' w' a' q hA' (f1.trans f')
 | exit id=>exact hR _ _ _ μ1 w1 a1 hq hA1 f1
 | ret=>exact hR _ _ _ μ1 w1 a1 hq hA1 f1
theorem Jd.cond_true {x:Operand} (hx:fZ fr.T x = some (.b true))(h:Jb bb P a fr s Q):Jb bb P (.cond x a b) fr s Q:=fun n μ w t ro R hA hR =>
 wpIn_cond_true (by have:=ko hA.tr x _ hx; simpa only [VR] using this) (h n μ w t ro R hA hR)
theorem Jd.cond_false {x:Operand} (hx:fZ fr.T x = some (.b false))(h:Jb bb P b fr s Q):Jb bb P (.cond x a b) fr s Q:=fun n μ w t ro R hA hR =>
 wpIn_cond_false (by have:=ko hA.tr x _ hx; simpa only [VR] using this) (h n μ w t ro R hA hR)
theorem Jd.cond {x:Operand} {t:Bool} (hx:fZ fr.T x = some (.b t))(h1:t = true->Jb bb P a fr s Q)(h2:t = false->Jb bb P b fr s Q):Jb bb P (.cond x a b) fr s Q:=by
 cases t with
 | true=>exact Jd.cond_true hx (h1 rfl)
 | false=>exact Jd.cond_false hx (h2 rfl)
theorem Jd.block {id:Nat} (h:Jb bb P c fr s (dX id Q)):Jb bb P (.block id c) fr s Q:=by
 intro n μ w x ro R hA hR
 refine wpIn_block (h n μ w x ro _ hA ?_)
 intro ex fr1 s1 μ1 w1 a1 hq hA1 f1
 cases ex with
 | normal=>exact hR _ _ _ μ1 w1 a1 hq hA1 f1
 | exit id' =>
  simp only [dX] at hq
  split at hq
  ·next e=>subst e; simp only [mz,Exit.inBlock,if_true]; exact hR _ _ _ μ1 w1 a1 hq hA1 f1
  next e=>simp only [mz,Exit.inBlock,if_neg e]; exact hR _ _ _ μ1 w1 a1 hq hA1 f1
 | ret=>exact hR _ _ _ μ1 w1 a1 hq hA1 f1
theorem Jd.loop (h:Jb bb P c fr s (iE (fun fr s=>Jb bb P (.loop c) fr s Q) Q)):Jb bb P (.loop c) fr s Q:=by
 intro n μ w x ro R hA hR
 refine wpIn_mono (jR (Q:=fun e a w=>(∃ x,e = mz x)/\R e a w) (fun _ _ _ h=>h.1) (h n μ w x ro _ hA ?_)) fun e a w h=>h.2
 intro ex fr1 s1 μ1 w1 a1 hq hA1 f1
 cases ex with
 | normal=>exact hq n μ1 w1 a1 ro _ hA1 fun ex fr' s' μ' w' a' q hA' f'=>⟨⟨_,rfl⟩,hR ex fr' s' μ' w' a' q hA' (f1.trans f')⟩
 | exit id=>exact ⟨⟨_,rfl⟩,hR _ _ _ μ1 w1 a1 hq hA1 f1⟩
 | ret=>exact ⟨⟨_,rfl⟩,hR _ _ _ μ1 w1 a1 hq hA1 f1⟩
theorem Jd.swap {fr2:Fr} {s2:St} (h:∀ μ ro a w,At μ fr s ro a w->∃ μ2,At μ2 fr2 s2 ro a w/\Fp bb μ s w μ2 s2 w) (k:Jb bb P c fr2 s2 Q):Jb bb P c fr s Q:=by
 intro n μ w x ro R hA hR
 obtain ⟨μ2,hA2,f2⟩:=h μ ro x w hA
 exact k n μ2 w x ro R hA2 fun ex fr' s' μ' w' a' q hA' f'=>hR ex fr' s' μ' w' a' q hA' (f2.trans f')
theorem Jd.run {X:dY} {k:Nat} (S:cX P (Ev.at_ P X k)) {ex:Ex} {fr':Fr} {s':St} (h:(Ev.at_ P X k).code c fr s = some (ex,fr',s'))(hq:Q ex fr' s'):Jb bb P c fr s Q:=by
 intro n μ w x ro R hA hR
 obtain ⟨g1,g2,g3,g4⟩:=S.code h
 refine g4 n hA.rel hA.tr hA.dm hA.ro (fun o h1 _=>hA.fresh o h1) ?_
 intro μ' w' a' r t tr d
 refine hR ex fr' s' μ' w' a' hq ⟨r,tr,d,by rw [g2]; exact hA.ro.mono t.sub,fun o ho=>?_⟩ t.fp
 cases e:μ' o with
 | none=>rfl
 | some l =>
  have hn:=t.nx
  have:=t.dom o (hA.fresh o (by omega)) (by rw [e]; simp)
  omega
end
abbrev Jd (P:Program) (c:Code) (fr:Fr) (s:St) (Q:Ex->Fr->St->Prop):Prop:=Jb 0 P c fr s Q
end
end Go.Proofs.YtkdhppimhdemjaaGreat
