/- Lemmas on the way: Ev22, Em1, Jd0. -/
import Derived.Test.YtdehimgccmbfkaaGreatT17
set_option linter.all false
set_option maxRecDepth 1000000
set_option maxHeartbeats 32000000
namespace Go.Proofs.YtdehimgccmbfkaaGreat
open Go.RowKit
section
def OrcOk (P:Program) (X:Env):Prop:=∀ {f g},X.orc f = some g->∀ {args s v s'},g args s = some (v,s')->(CallOk P f/\s.nx <= s'.nx/\(Wf s->Wf s'))/\∀ {μ:Mu} {w:World} {vs:List Value} (n:Nat),Rel μ s w->VRs μ args vs->Fresh μ s s' ->
  CallsIn Fence.wide n P f vs.toArray w fun e w'=>∃ v' μ',e = .returned v'/\Rel μ' s' w'/\Stp μ s w μ' s' w'/\VR μ' v v'

section
variable {P:Program} {X:Env} {E:Ev}

theorem code_ok (hl:laidOutB P = true)(hmo:P.follows .mixedOrders = true) (S:Sound P E)(hM:MethOk P X) {c:Code} {fr fr':Fr} {s s':St} {ex:Ex} (h:codeA P X E c fr s = some (ex,fr',s')):CodeOk P c fr s ex fr' s':=by
 have sub:∀ {c fr s ex fr' s'},E.code c fr s = some (ex,fr',s')->CodeOk P c fr s ex fr' s':=fun h=>S.code h
 cases c with
 | skip =>
  simp only [codeA,Option.some.injEq,Prod.mk.injEq] at h
  obtain ⟨rfl,rfl,rfl⟩:=h
  exact ⟨rfl,rfl,Grows.refl _,fun n _ hR hT hD hO hF hQ=>wpIn_skip (hQ _ _ _ hR (Stp.refl _ _ _) hT hD)⟩
 | label l =>
  simp only [codeA,Option.some.injEq,Prod.mk.injEq] at h
  obtain ⟨rfl,rfl,rfl⟩:=h
  exact ⟨rfl,rfl,Grows.refl _,fun n _ hR hT hD hO hF hQ=>wpIn_label (hQ _ _ _ hR (Stp.refl _ _ _) hT hD)⟩
 | ret =>
  simp only [codeA,Option.some.injEq,Prod.mk.injEq] at h
  obtain ⟨rfl,rfl,rfl⟩:=h
  exact ⟨rfl,rfl,Grows.refl _,fun n _ hR hT hD hO hF hQ=>wpIn_ret (hQ _ _ _ hR (Stp.refl _ _ _) hT hD)⟩
 | exit id =>
  simp only [codeA,Option.some.injEq,Prod.mk.injEq] at h
  obtain ⟨rfl,rfl,rfl⟩:=h
  exact ⟨rfl,rfl,Grows.refl _,fun n _ hR hT hD hO hF hQ=>wpIn_exit (hQ _ _ _ hR (Stp.refl _ _ _) hT hD)⟩
 | seq a b =>
  simp only [codeA] at h
  split at h
  ·next fr1 s1 h1 =>
   obtain ⟨g1,g2,g3,g4⟩:=(sub h1).seq (sub h)
   exact ⟨g1,g2,g3,fun n _ hR hT hD hO hF hQ=>wpIn_seq (g4 n hR hT hD hO hF hQ)⟩
  next hno =>
  obtain ⟨g1,g2,g3,g4⟩:=sub h
  refine ⟨g1,g2,g3,fun n Q hR hT hD hO hF hQ=>wpIn_seq (g4 n hR hT hD hO hF fun μ' w' a' r t tr d=>?_)⟩
  cases ex with
  | normal=>exact (hno fr' s' h).elim
  | exit id=>exact hQ μ' w' a' r t tr d
  | ret=>exact hQ μ' w' a' r t tr d
 | cond c a b =>
  simp only [codeA] at h
  split at h
  ·next hc =>
   obtain ⟨g1,g2,g3,g4⟩:=sub h
   refine ⟨g1,g2,g3,fun n Q hR hT hD hO hF hQ=>wpIn_cond_true ?_ (g4 n hR hT hD hO hF hQ)⟩
   have:=opd_vr hT c _ hc
   simpa only [VR] using this
  ·next hc =>
   obtain ⟨g1,g2,g3,g4⟩:=sub h
   refine ⟨g1,g2,g3,fun n Q hR hT hD hO hF hQ=>wpIn_cond_false ?_ (g4 n hR hT hD hO hF hQ)⟩
   have:=opd_vr hT c _ hc
   simpa only [VR] using this
  cases h
 | block id c =>
  simp only [codeA] at h
  split at h
  ·next id' fr1 s1 h1 =>
   obtain ⟨g1,g2,g3,g4⟩:=sub h1
   cases hb:Nat.beq id' id with
   | true =>
    rw [hb] at h
    cases h
    have:=Nat.eq_of_beq_eq_true hb
    subst this
    exact ⟨g1,g2,g3,fun n Q hR hT hD hO hF hQ=>wpIn_block (g4 n hR hT hD hO hF fun μ' w' a' r t tr d=>by simp only [exOf,Exit.inBlock,if_true]; exact hQ μ' w' a' r t tr d)⟩
   | false =>
    rw [hb] at h
    cases h
    have:=beqF.1 hb
    exact ⟨g1,g2,g3,fun n Q hR hT hD hO hF hQ=>wpIn_block (g4 n hR hT hD hO hF fun μ' w' a' r t tr d=>by simp only [exOf,Exit.inBlock,if_neg this]; exact hQ μ' w' a' r t tr d)⟩
  next hno =>
  obtain ⟨g1,g2,g3,g4⟩:=sub h
  refine ⟨g1,g2,g3,fun n Q hR hT hD hO hF hQ=>wpIn_block (g4 n hR hT hD hO hF fun μ' w' a' r t tr d=>?_)⟩
  cases ex with
  | normal=>exact hQ μ' w' a' r t tr d
  | exit id'=>exact (hno id' fr' s' h).elim
  | ret=>exact hQ μ' w' a' r t tr d
 | loop c =>
  simp only [codeA] at h
  have only:∀ (Q:Exit->Act->World->Prop),OnlyEx (fun e a w=>(∃ x,e = exOf x)/\Q e a w):=fun Q e a w h=>h.1
  split at h
  ·next fr1 s1 h1 =>
   obtain ⟨g1,g2,g3,g4⟩:=(sub h1).seq (sub h)
   refine ⟨g1,g2,g3,fun n Q hR hT hD hO hF hQ=>wpIn_mono (wpIn_unroll (only Q) (g4 n (Q:=fun e a w=>(∃ x,e = exOf x)/\Q e a w) hR hT hD hO hF fun μ' w' a' r t tr d=>⟨⟨_,rfl⟩,hQ μ' w' a' r t tr d⟩)) fun e a w h=>h.2⟩
  next hno =>
  obtain ⟨g1,g2,g3,g4⟩:=sub h
  refine ⟨g1,g2,g3,fun n Q hR hT hD hO hF hQ=>wpIn_mono (wpIn_unroll (only Q) (g4 n hR hT hD hO hF fun μ' w' a' r t tr d=>?_)) fun e a w h=>h.2⟩
  cases ex with
  | normal=>exact (hno fr' s' h).elim
  | exit id=>exact ⟨⟨_,rfl⟩,hQ μ' w' a' r t tr d⟩
  | ret=>exact ⟨⟨_,rfl⟩,hQ μ' w' a' r t tr d⟩
 | region id ops draw =>
  simp only [codeA] at h
  split at h
  ·next T1 s1 h1 =>
   cases h
   exact region_ok hl hmo S hM draw h1
  cases h
 | rangeFunc f ps asn body=>exact range_ok S h
 | goto l=>simp [codeA] at h
 | scope c =>
  simp only [codeA] at h
  obtain ⟨g1,g2,g3,g4⟩:=sub h
  refine ⟨g1,g2,g3,fun n Q hR hT hD hO hF hQ=>wpIn_scope (g4 n hR hT hD hO hF fun μ' w' a' r t tr d=>?_)⟩
  have:=hQ μ' w' a' r t tr d
  cases ex <;> exact this
 | refuse why=>simp [codeA] at h

theorem shut_ok {μ:Mu} {s:St} {w:World} (h:Rel μ s w) {r:Nat} {p:Pl} (hm:μ r = some (.at_ p))(ho:s.h.get r = some .defs):∃ w',(Instr.takeDeferred p.blk).run P w = .ok [] w'/\Rel μ (s.drop r) w'/\Stp μ s w μ (s.drop r) w':=by
 have hob:=h.obj r _ ho (by rw [hm]; simp)
 simp only [OR] at hob
 obtain ⟨p',g1,g2⟩:=hob
 rw [hm] at g1
 cases g1
 refine ⟨_,run_takeDeferred g2,pair_up h rfl ⟨?_,?_⟩⟩
 ·have hd:=h.drop r
  have hsub:∀ o x,(s.drop r).h.get o = some x->s.h.get o = some x/\o ≠ r:=fun o x e=>by
   simp only [St.drop,Tr.get_set] at e
   split at e
   ·cases e
   next hne=>exact ⟨e,hne⟩
  refine ⟨fun o x e m=>(hd.obj o x e m).keep (Sub.refl μ) (by rw [World.putObj_size]; exact Nat.le_refl _) (fun q hq=>World.putObj_heap_other fun eb=>?_) (fun A m' c hq ad hA hpos hlt=>World.putObj_heap_other fun eb=>?_),hd.inj,hd.nat,hd.wf⟩
  ·exact (hsub o x e).2 (h.inj o r x _ q p (hsub o x e).1 ho hq hm eb)
  obtain ⟨nn,rfl⟩:=(hd.obj o x e m).val hq
  subst hA
  exact h.nat o nn _ m' c r _ p (hsub o _ e).1 hq ho hm ad m' c rfl hpos eb
 have t:=Stp.drop μ s w r (by rw [hm]; simp)
 exact ⟨t.sub,t.dom,t.nx,rfl,rfl,rfl,by rw [World.putObj_size]; exact Nat.le_refl _,fun g hg hn=>World.putObj_heap_other fun eb=>hn r _ p ho hm eb.symm,t.own,t.keep,t.fz⟩
theorem leaves_ok {fn:Func} {tmps:Array Value} {n:Nat} {R:Ending->World->Prop} {μ:Mu}:∀ (ms:List Nat) (ds:List Deferred) (s:St) (w:World),Rel μ s w->DM μ ms ds->marksOk s ms = true ->
  (∀ w',Rel μ (ms.foldl St.drop s) w'->Stp μ s w μ (ms.foldl St.drop s) w'->LeavesInM Fence.wide n P fn tmps R [] .returning w')->LeavesInM Fence.wide n P fn tmps R ds .returning w
 | [],ds,s,w,hR,hD,_,h=>by
  simp only [DM] at hD
  subst hD
  exact h w hR (Stp.refl _ _ _)
 | r :: ms,ds,s,w,hR,hD,hk,h=>by
  obtain ⟨p,ds',hm,rfl,hD'⟩:=hD
  simp only [marksOk,Bool.and_eq_true,Bool.not_eq_true',List.contains_eq_mem,decide_eq_false_iff_not] at hk
  obtain ⟨⟨k1,k2⟩,k3⟩:=hk
  have ho:s.h.get r = some .defs:=by
   split at k1
   ·assumption
   cases k1
  obtain ⟨w',g1,g2,g3⟩:=shut_ok (P:=P) hR hm ho
  refine ⟨by simp,.inl ⟨p.blk,w',rfl,g1,?_⟩⟩
  have hk':marksOk (s.drop r) ms = true:=by
   have:∀ ms:List Nat,¬ r ∈ ms->marksOk s ms = true->marksOk (s.drop r) ms = true:=by
    intro ms
    induction ms with
    | nil=>intro _ _; rfl
    | cons r' ms ih =>
     intro hn hk
     simp only [List.mem_cons,not_or] at hn
     simp only [marksOk,Bool.and_eq_true] at hk ⊢
     refine ⟨⟨?_,hk.1.2⟩,ih hn.2 hk.2⟩
     simp only [St.drop]
     rw [Tr.get_set_ne _ _ (Ne.symm hn.1)]
     exact hk.1.1
   exact this ms k2 k3
  exact leaves_ok ms ds' (s.drop r) w' g2 hD' hk' fun w2 r2 t2=>h w2 r2 (g3.trans t2)

theorem drops_grow:∀ (ms:List Nat) (s:St),Grows s (ms.foldl St.drop s)
 | [],s=>Grows.refl s
 | r :: ms,s=>(Grows.drop s r).trans (drops_grow ms _)
def resSem (tm:Array Value):ResultVar->Sem Value:=fun
 | .tmp t=>pure (tm.getD t undef)
 | .cell a t=>do loadVar t (<- asAddr (tm.getD a undef))
theorem results_eq (fn:Func) (tm:Array Value):results fn tm = (do let vs <- fn.results.mapM (resSem tm); pure (if h:vs.size = 1 then vs[0] else .tuple vs)):=rfl
theorem res_run {μ:Mu} {s:St} {w:World} (h:Rel μ s w) {T:Tr AV} {nt:Nat} {tm:Array Value} (hT:TR μ nt T tm):∀ {rs:List ResultVar} {l:List AV},resAs P T s rs = some l ->
  ∃ m,(rs.mapM (resSem tm)).run P w = .ok m w/\VRs μ l m
 | [],l,h1=>by simp only [resAs,Option.some.injEq] at h1; subst h1; exact ⟨[],rfl,VRs.nil_⟩
 | r :: rs,l,h1=>by
  simp only [resAs] at h1
  split at h1
  ·next v hv =>
   simp only [Option.map_eq_some_iff] at h1
   obtain ⟨l',h2,rfl⟩:=h1
   obtain ⟨m,g1,g2⟩:=res_run h hT h2
   have one:∃ y,(resSem tm r).run P w = .ok y w/\VR μ v y:=by
    cases r with
    | tmp t =>
     obtain ⟨y,k1,k2⟩:=hT.2 t v hv
     exact ⟨y,by simp [resSem,k1],k2⟩
    | cell a t =>
     simp only [resA] at hv
     split at hv
     ·next pv hp =>
      obtain ⟨y,k1,k2⟩:=hT.2 a pv hp
      obtain ⟨z,q1,q2⟩:=load_run h hv k2
      have hv':=hv
      unfold loadA at hv'
      split at hv'
      ·simp only [VR] at k2
       obtain ⟨p,_,rfl⟩:=k2
       simp only [Instr.loadAt,Instr.sureAddr,Sem.run_bind,Sem.run_pure,Result.andThen_ok] at q1
       exact ⟨z,by simp [resSem,k1,asAddr,q1],q2⟩
      ·simp only [VR] at k2
       obtain ⟨b,base,cs,rfl,_⟩:=k2
       simp only [Instr.loadAt,Instr.sureAddr,Sem.run_bind,Sem.run_pure,Result.andThen_ok] at q1
       exact ⟨z,by simp [resSem,k1,asAddr,q1],q2⟩
      cases hv'
     cases hv
   obtain ⟨y,k1,k2⟩:=one
   refine ⟨y :: m,?_,VRs.cons k2 g2⟩
   rw [List.mapM_cons,Sem.run_bind,k1]
   simp only [Result.andThen_ok,Sem.run_bind,g1,Sem.run_pure]
  cases h1

theorem call_ok (hO:OrcOk P X) (S:Sound P E) {f:FuncId} {args:List AV} {s s':St} {v:AV} (h:callA P X E f args s = some (v,s')):(CallOk P f/\s.nx <= s'.nx/\(Wf s->Wf s'))/\∀ {μ:Mu} {w:World} {vs:List Value} (n:Nat),Rel μ s w->VRs μ args vs->Fresh μ s s' ->
  CallsIn Fence.wide n P f vs.toArray w fun e w'=>∃ v' μ',e = .returned v'/\Rel μ' s' w'/\Stp μ s w μ' s' w'/\VR μ' v v':=by
 unfold callA at h
 split at h
 ·next g hg=>exact hO hg h
 split at h
 ·next fn hfn =>
  split at h
  ·next c hc =>
   obtain ⟨hcd,h⟩:=cond_some h
   simp only [Bool.and_eq_true,Nat.ble_eq,Bool.not_eq_true'] at hcd
   obtain ⟨hlen,hname⟩:=hcd
   have hname':¬ fn.name = "runtime.NumGoroutine":=by simpa using hname
   have hco:CallOk P f:=fun args w=>by simp [callFunc,hfn,hname',hc]
   have main:∀ (ex:Ex) (fr:Fr) (s1:St) (l:List AV),E.code c ⟨f,fn.ntmps,Tr.ofList args,none,[]⟩ s = some (ex,fr,s1)->(ex = .normal ∨ ex = .ret)->marksOk s1 fr.ms = true->resAs P fr.T (fr.ms.foldl St.drop s1) fn.results.toList = some l->s' = fr.ms.foldl St.drop s1->(l = [v] ∨ (l.length ≠ 1/\v = .tup l)) ->
     (CallOk P f/\s.nx <= s'.nx/\(Wf s->Wf s'))/\∀ {μ:Mu} {w:World} {vs:List Value} (n:Nat),Rel μ s w->VRs μ args vs->Fresh μ s s' ->
     CallsIn Fence.wide n P f vs.toArray w fun e w'=>∃ v' μ',e = .returned v'/\Rel μ' s' w'/\Stp μ s w μ' s' w'/\VR μ' v v':=by
    intro ex fr s1 l hcode hex hmk hres hs' hv
    obtain ⟨g1,g2,g3,g4⟩:=S.code hcode
    have gd:=drops_grow fr.ms s1
    have gall:Grows s s':=by rw [hs']; exact Grows.trans g3 gd
    refine ⟨⟨hco,gall⟩,?_⟩
    intro μ w vs n hR hvs hF
    have hvl:=hvs.length
    refine callsIn_of_wp_marks (F:=Fence.wide) hfn hc trivial ?_ rfl
    have hT0:TR μ fn.ntmps (Tr.ofList args) (vs.toArray ++ Array.replicate (fn.ntmps - vs.toArray.size) undef):=by
     refine ⟨by simp; omega,fun t x hx=>?_⟩
     rw [Tr.get_ofList] at hx
     obtain ⟨y,h1,h2⟩:=hvs.get hx
     refine ⟨y,?_,h2⟩
     have hlt:=(List.getElem?_eq_some_iff.1 h1).1
     rw [Array.getElem?_append]
     rw [if_pos (by simpa using hlt)]
     simpa using h1
    refine g4 (ro:=none) (a:={ tmps:=vs.toArray ++ Array.replicate (fn.ntmps - vs.toArray.size) undef,defers:=[] }) n hR hT0 (by simp [DM]) rfl (fun o a b=>hF o a (by have:=gd.1; rw [hs']; omega)) ?_
    intro μ1 w1 a1 r1 t1 tr1 d1
    have post:LeavesInM Fence.wide n P fn a1.tmps (fun e w'=>∃ v' μ',e = .returned v'/\Rel μ' s' w'/\Stp μ s w μ' s' w'/\VR μ' v v') a1.defers .returning w1:=by
     refine leaves_ok fr.ms a1.defers s1 w1 r1 d1 hmk fun w2 r2 t2=>?_
     obtain ⟨m,k1,k2⟩:=res_run (P:=P) r2 tr1 hres
     have hrun:∃ v',(results fn a1.tmps).run P w2 = .ok v' w2/\VR μ1 v v':=by
      rw [results_eq,Array.mapM_eq_mapM_toList]
      simp only [Sem.run_bind,Sem.run_map,k1]
      rcases hv with rfl | ⟨hne,rfl⟩
      ·simp only [VRs] at k2
       obtain ⟨y,ys,rfl,hy,rfl⟩:=k2
       exact ⟨y,by simp,hy⟩
      have:m.length ≠ 1:=by rw [<- k2.length]; exact hne
      exact ⟨.tuple m.toArray,by simp [this],by simp only [VR]; exact ⟨m,rfl,k2⟩⟩
     obtain ⟨v',q1,q2⟩:=hrun
     exact ⟨v',q1,v',μ1,rfl,hs' ▸ r2,hs' ▸ (t1.trans t2),q2⟩
    rcases hex with rfl | rfl <;> exact post
   split at h
   ·cases h
   ·next ex fr s1 hne hcode =>
    obtain ⟨hmk,h⟩:=cond_some h
    have hex:ex = .normal ∨ ex = .ret:=by
     cases ex with
     | normal=>exact .inl rfl
     | exit id=>exact (hne id rfl).elim
     | ret=>exact .inr rfl
    split at h
    ·next v1 hres=>cases h; exact main ex fr s1 [v] hcode hex hmk hres rfl (.inl rfl)
    ·next l hno hres =>
     cases h
     refine main ex fr s1 l hcode hex hmk hres rfl (.inr ⟨fun e=>?_,rfl⟩)
     cases l with
     | nil=>simp at e
     | cons a l' =>
      cases l' with
      | nil=>exact hno a rfl
      | cons b l''=>simp at e
    cases h
   cases h
  cases h
 cases h

theorem at_ok (hl:laidOutB P = true)(hmo:P.follows .mixedOrders = true)(hM:MethOk P X)(hO:OrcOk P X):∀ k,Sound P (Ev.at_ P X k)
 | 0=>⟨fun h=>(by cases h),fun h=>(by cases h)⟩
 | k + 1=>⟨fun h=>call_ok hO (at_ok hl hmo hM hO k) h,fun h=>code_ok hl hmo (at_ok hl hmo hM hO k) hM h⟩

theorem closed_call (hl:laidOutB P = true)(hmo:P.follows .mixedOrders = true)(hM:MethOk P X)(hO:OrcOk P X) {k:Nat} {f:FuncId} {v:AV} {s':St} (h:(Ev.at_ P X k).call f [] ⟨.nil,0⟩ = some (v,s')) (w:World) :
  Calls P f #[] w fun e w'=>∃ v' μ',e = .returned v'/\VR μ' v v'/\Below w.heap.size w w':=by
 have h1:=((at_ok hl hmo hM hO k).call h).2 (μ:=⟨fun _=>none,fun _ _=>none⟩) (w:=w) (vs:=[]) 10 ⟨⟨fun o x e=>(by cases e),fun o o' x x' p p' e=>(by cases e),fun o n A m c o' x' p' e=>(by cases e),fun o _=>rfl⟩,fun b i v hv=>(by cases hv)⟩ VRs.nil_ (fun _ _ _=>rfl)
 refine (callsIn_wide.1 h1).mono ?_
 rintro e w' ⟨v',μ',rfl,r,t,hv⟩
 exact ⟨v',μ',rfl,hv,t.os,t.tape,t.output,t.size,fun g hg=>t.blk g hg fun o x p e=>(by cases e)⟩
end
end
section
structure LeE (E E':Ev):Prop where
 call:∀ {f a s r},E.call f a s = some r->E'.call f a s = some r
 code:∀ {c fr s r},E.code c fr s = some r->E'.code c fr s = some r
section
variable {P:Program} {X:Env} {E E':Ev}
theorem yield_le (L:LeE E E') {l:Nat} {args:List AV} {s:St} {r:AV × St} (h:enterYield E l args s = some r):enterYield E' l args s = some r:=by
 unfold enterYield at h ⊢
 split at h
 ·next ho =>
  obtain ⟨hc,h1⟩:=cond_some h
  rw [hc,cond_true]
  clear h
  split at h1
  ·next h2 =>
   rw [L.code h2]
   dsimp only
   split at h1
   ·next h3 =>
    split at h1
    ·next h4=>rw [L.code h4]; exact h1
    cases h1
   cases h1
  cases h1
 cases h
theorem efA_le (L:LeE E E') {ρ:Operand->Option AV} {s:St} {o:Op} {r:AV × St} (h:efA P X E ρ s o = some r):efA P X E' ρ s o = some r:=by
 unfold efA at h ⊢
 split at h
 all_goals first
  | exact h
  | (split at h; (next h1=>exact L.call h); (next h1=>exact yield_le L h); (cases h))
  | (split at h; (next h1 h2=>split at h; (next h3=>exact L.call h); (next h3=>split at h; (next h4=>exact L.call h); (cases h)); (cases h)); (cases h))
theorem opA_le (L:LeE E E') {ρ:Operand->Option AV} {s:St} {o:Op} {r:AV × St} (h:opA P X E ρ s o = some r):opA P X E' ρ s o = some r:=by
 unfold opA at h ⊢
 split at h
 ·next h1=>exact h
 ·next h1=>exact h
 next h1=>exact efA_le L h
theorem opsA_le (L:LeE E E') {n:Nat} {all:List Oper}:∀ {os:List Oper} {T:Tr AV} {s:St} {r:Tr AV × St},opsA P X E n all os T s = some r->opsA P X E' n all os T s = some r
 | [],_,_,_,h=>h
 | o :: os,T,s,r,h=>by
  simp only [opsA] at h ⊢
  split at h
  ·next h1 =>
   split at h
   ·next h2 =>
    rw [opA_le L h2]
    dsimp only
    split at h
    ·next h3=>exact opsA_le L h
    cases h
   cases h
  ·next h1 =>
   split at h
   ·next h3=>exact opsA_le L h
   cases h
  cases h
theorem trace_le (L:LeE E E') {n:Nat} {all:List Oper}:∀ {os:List Oper} {T:Tr AV} {s:St} {r:List (Option AV × Tr AV × St) × Tr AV × St},trace P X E n all os T s = some r->trace P X E' n all os T s = some r
 | [],_,_,_,h=>h
 | o :: os,T,s,r,h=>by
  simp only [trace] at h ⊢
  split at h
  ·next h1 =>
   split at h
   ·next h2 =>
    rw [opA_le L h2]
    dsimp only
    split at h
    ·next h3 =>
     split at h
     ·next h4=>rw [trace_le L h4]; exact h
     cases h
    cases h
   cases h
  ·next h1 =>
   split at h
   ·next h3 =>
    split at h
    ·next h4=>rw [trace_le L h4]; exact h
    cases h
   cases h
  cases h
theorem drawA_le (L:LeE E E') {n:Nat} {ops:List Oper} {T:Tr AV} {s:St} {r:Tr AV × St} (h:drawA P X E n ops T s = some r):drawA P X E' n ops T s = some r:=by
 unfold drawA at h ⊢
 split at h
 ·next h1 =>
  split at h
  ·next h2=>rw [trace_le L h2]; exact h
  cases h
 cases h
theorem codeA_le (L:LeE E E') {c:Code} {fr:Fr} {s:St} {r:Ex × Fr × St} (h:codeA P X E c fr s = some r):codeA P X E' c fr s = some r:=by
 cases c with
 | skip=>exact h
 | label l=>exact h
 | ret=>exact h
 | exit id=>exact h
 | goto l=>cases h
 | refuse w=>cases h
 | scope c=>simp only [codeA] at h ⊢; exact L.code h
 | seq a b =>
  simp only [codeA] at h ⊢
  split at h
  ·next h1=>rw [L.code h1]; exact L.code h
  next h1=>rw [L.code h]; split <;> simp_all
 | cond x a b =>
  simp only [codeA] at h ⊢
  split at h
  ·exact L.code h
  ·exact L.code h
  cases h
 | block id c =>
  simp only [codeA] at h ⊢
  split at h
  ·next h1=>rw [L.code h1]; exact h
  next h1=>rw [L.code h]; split <;> simp_all
 | loop c =>
  simp only [codeA] at h ⊢
  split at h
  ·next h1=>rw [L.code h1]; exact L.code h
  next h1=>rw [L.code h]; split <;> simp_all
 | region id ops draw =>
  simp only [codeA] at h ⊢
  split at h
  ·next h1 =>
   cases draw with
   | true=>simp only at h1 ⊢; rw [drawA_le L h1]; exact h
   | false=>simp only at h1 ⊢; rw [opsA_le L h1]; exact h
  cases h
 | rangeFunc f ps asn body =>
  simp only [codeA] at h ⊢
  split at h
  ·split at h
   ·split at h
    ·next h3=>rw [L.call h3]; exact h
    cases h
   cases h
  cases h
theorem callA_le (L:LeE E E') {f:FuncId} {args:List AV} {s:St} {r:AV × St} (h:callA P X E f args s = some r):callA P X E' f args s = some r:=by
 unfold callA at h ⊢
 split at h
 ·exact h
 split at h
 ·split at h
  ·obtain ⟨hc,h1⟩:=cond_some h
   rw [hc,cond_true]
   clear h
   generalize hE:E.code _ _ _ = x at h1
   cases x with
   | none=>cases h1
   | some y=>rw [L.code hE]; exact h1
  cases h
 cases h
end
theorem at_code (P:Program) (X:Env) (k:Nat):(Ev.at_ P X (k + 1)).code = codeA P X (Ev.at_ P X k):=rfl
theorem at_step (P:Program) (X:Env):∀ k,LeE (Ev.at_ P X k) (Ev.at_ P X (k + 1))
 | 0=>⟨fun h=>(by cases h),fun h=>(by cases h)⟩
 | k + 1=>⟨fun h=>callA_le (at_step P X k) h,fun h=>codeA_le (at_step P X k) h⟩
theorem LeE.trans {E E' E'':Ev} (h:LeE E E') (k:LeE E' E''):LeE E E'':=⟨fun x=>k.call (h.call x),fun x=>k.code (h.code x)⟩
theorem at_le (P:Program) (X:Env) {k:Nat}:∀ {m:Nat},k <= m->LeE (Ev.at_ P X k) (Ev.at_ P X m)
 | 0,h=>by
  obtain rfl:k = 0:=by omega
  exact ⟨id,id⟩
 | m + 1,h=>by
  rcases Nat.lt_or_ge m k with h1 | h1
  ·obtain rfl:k = m + 1:=by omega
   exact ⟨id,id⟩
  exact (at_le P X h1).trans (at_step P X m)
def RunC (P:Program) (X:Env) (c:Code) (fr:Fr) (s:St) (ex:Ex) (fr':Fr) (s':St):Prop:=∃ k,(Ev.at_ P X k).code c fr s = some (ex,fr',s')
section
variable {P:Program} {X:Env} {c a b:Code} {fr fr1 fr2:Fr} {s s1 s2:St} {ex:Ex}
theorem RunC.of (h:∀ E,codeA P X E c fr s = some (ex,fr1,s1)):RunC P X c fr s ex fr1 s1:=⟨1,by rw [at_code]; exact h _⟩
theorem RunC.seq (h:RunC P X a fr s .normal fr1 s1) (k:RunC P X b fr1 s1 ex fr2 s2):RunC P X (.seq a b) fr s ex fr2 s2:=by
 obtain ⟨m,hm⟩:=h
 obtain ⟨n,hn⟩:=k
 refine ⟨max m n + 1,?_⟩
 rw [at_code]
 simp only [codeA]
 rw [(at_le P X (Nat.le_max_left m n)).code hm]
 exact (at_le P X (Nat.le_max_right m n)).code hn
theorem RunC.cond_true {x:Operand} (hx:opd fr.T x = some (.b true))(h:RunC P X a fr s ex fr1 s1):RunC P X (.cond x a b) fr s ex fr1 s1:=by
 obtain ⟨m,hm⟩:=h
 refine ⟨m + 1,?_⟩
 rw [at_code]
 simp only [codeA,hx]
 exact hm
theorem RunC.cond_false {x:Operand} (hx:opd fr.T x = some (.b false))(h:RunC P X b fr s ex fr1 s1):RunC P X (.cond x a b) fr s ex fr1 s1:=by
 obtain ⟨m,hm⟩:=h
 refine ⟨m + 1,?_⟩
 rw [at_code]
 simp only [codeA,hx]
 exact hm
theorem RunC.scope (h:RunC P X a fr s ex fr1 s1):RunC P X (.scope a) fr s ex fr1 s1:=by
 obtain ⟨m,hm⟩:=h
 exact ⟨m + 1,by rw [at_code]; exact hm⟩
theorem RunC.block {id:Nat} (h:RunC P X a fr s .normal fr1 s1):RunC P X (.block id a) fr s .normal fr1 s1:=by
 obtain ⟨m,hm⟩:=h
 refine ⟨m + 1,?_⟩
 rw [at_code]
 simp only [codeA]
 rw [hm]
theorem RunC.loop (h:RunC P X a fr s .normal fr1 s1) (k:RunC P X (.loop a) fr1 s1 ex fr2 s2):RunC P X (.loop a) fr s ex fr2 s2:=by
 obtain ⟨m,hm⟩:=h
 obtain ⟨n,hn⟩:=k
 refine ⟨max m n + 1,?_⟩
 rw [at_code]
 simp only [codeA]
 rw [(at_le P X (Nat.le_max_left m n)).code hm]
 exact (at_le P X (Nat.le_max_right m n)).code hn
end
end
section
structure Fp (bb:Nat) (μ:Mu) (s:St) (w:World) (μ':Mu) (s':St) (w':World):Prop where
 base:∀ o p,o < bb->μ o = some p->μ' o = some p
 fzm:∀ b i v,μ.fz b i = some v->μ'.fz b i = some v
 os:w'.os = w.os
 tape:w'.tape = w.tape
 output:w'.output = w.output
 size:w.heap.size <= w'.heap.size
 blk:∀ g,g < w.heap.size->(∀ o x p,s.h.get o = some x->μ o = some (.at_ p)->p.blk ≠ g)->w'.heap[g]? = w.heap[g]?
 own:∀ o x p,s'.h.get o = some x->μ' o = some (.at_ p)->w.heap.size <= p.blk ∨ ∃ o0 x0 p0,s.h.get o0 = some x0/\μ o0 = some (.at_ p0)/\p0.blk = p.blk
 fz:∀ b i v,μ'.fz b i = some v->μ.fz b i = some v ∨ w.heap.size <= b ∨ (∃ o x p,s.h.get o = some x/\μ o = some (.at_ p)/\p.blk = b) ∨ noDig v = false
theorem Stp.fp {bb:Nat} {μ μ':Mu} {s s':St} {w w':World} (t:Stp μ s w μ' s' w'):Fp bb μ s w μ' s' w':=⟨fun o p _ h=>t.sub o p h,t.sub.fz,t.os,t.tape,t.output,t.size,t.blk,t.own,t.fz⟩
theorem Fp.refl {bb:Nat} (μ:Mu) (s:St) (w:World):Fp bb μ s w μ s w:=(Stp.refl μ s w).fp
theorem Fp.trans {bb:Nat} {a b c:Mu} {s t u:St} {w v z:World} (h:Fp bb a s w b t v) (k:Fp bb b t v c u z):Fp bb a s w c u z:=by
 refine ⟨fun o p ho hp=>k.base o p ho (h.base o p ho hp),fun b i v hv=>k.fzm b i v (h.fzm b i v hv),k.os.trans h.os,k.tape.trans h.tape,k.output.trans h.output,Nat.le_trans h.size k.size,fun g hg hn=>?_,fun o x p e1 e2=>?_,fun b' i v hv=>?_⟩
 ·exact (k.blk g (Nat.lt_of_lt_of_le hg h.size) fun o x p e1 e2=>by
   rcases h.own o x p e1 e2 with h1 | ⟨o0,x0,p0,h1,h2,h3⟩
   ·omega
   ·rw [<- h3]; exact hn o0 x0 p0 h1 h2).trans (h.blk g hg hn)
 ·rcases k.own o x p e1 e2 with h1 | ⟨o0,x0,p0,h1,h2,h3⟩
  ·exact .inl (Nat.le_trans h.size h1)
  rw [<- h3]; exact h.own o0 x0 p0 h1 h2
 rcases k.fz b' i v hv with h1 | h1 | ⟨o,x,p,e1,e2,e3⟩ | h1
 ·exact h.fz b' i v h1
 ·exact .inr (.inl (Nat.le_trans h.size h1))
 ·rcases h.own o x p e1 e2 with h1 | ⟨o0,x0,p0,h1,h2,h3⟩
  ·exact .inr (.inl (by omega))
  exact .inr (.inr (.inl ⟨o0,x0,p0,h1,h2,h3.trans e3⟩))
 exact .inr (.inr (.inr h1))

structure At (μ:Mu) (fr:Fr) (s:St) (ro:Option Nat) (a:Act) (w:World):Prop where
 rel:Rel μ s w
 tr:TR μ fr.n fr.T a.tmps
 dm:DM μ fr.ms a.defers
 ro:RoR μ fr.rd ro
 fresh:∀ o,s.nx <= o->μ o = none

def Jb (bb:Nat) (P:Program) (c:Code) (fr:Fr) (s:St) (Q:Ex->Fr->St->Prop):Prop :=
 ∀ (n:Nat) (μ:Mu) (w:World) (a:Act) (ro:Option Nat) (R:Exit->Act->World->Prop),At μ fr s ro a w ->
  (∀ ex fr' s' μ' w' a',Q ex fr' s'->At μ' fr' s' ro a' w'->Fp bb μ s w μ' s' w'->R (exOf ex) a' w')->c.wpIn (Fw ro) n P R a w
def Thn (K:Fr->St->Prop) (Q:Ex->Fr->St->Prop):Ex->Fr->St->Prop
 | .normal,fr,s=>K fr s
 | .exit id,fr,s=>Q (.exit id) fr s
 | .ret,fr,s=>Q .ret fr s
def Blk_ (id:Nat) (Q:Ex->Fr->St->Prop):Ex->Fr->St->Prop
 | .normal,fr,s=>Q .normal fr s
 | .exit id',fr,s=>if id' = id then Q .normal fr s else Q (.exit id') fr s
 | .ret,fr,s=>Q .ret fr s
section
variable {bb:Nat} {P:Program} {c a b:Code} {fr:Fr} {s:St} {Q Q':Ex->Fr->St->Prop}
theorem Jd.mono (h:Jb bb P c fr s Q)(hq:∀ ex fr s,Q ex fr s->Q' ex fr s):Jb bb P c fr s Q':=fun n μ w a ro R hA hR=>h n μ w a ro R hA fun ex fr' s' μ' w' a' q=>hR ex fr' s' μ' w' a' (hq _ _ _ q)
theorem Jd.skip (h:Q .normal fr s):Jb bb P .skip fr s Q:=fun _ μ w a _ _ hA hR=>wpIn_skip (hR _ _ _ μ w a h hA (Fp.refl μ s w))
theorem Jd.label {l:Nat} (h:Q .normal fr s):Jb bb P (.label l) fr s Q:=fun _ μ w a _ _ hA hR=>wpIn_label (hR _ _ _ μ w a h hA (Fp.refl μ s w))
theorem Jd.ret (h:Q .ret fr s):Jb bb P .ret fr s Q:=fun _ μ w a _ _ hA hR=>wpIn_ret (hR .ret _ _ μ w a h hA (Fp.refl μ s w))
theorem Jd.exit {id:Nat} (h:Q (.exit id) fr s):Jb bb P (.exit id) fr s Q:=fun _ μ w a _ _ hA hR=>wpIn_exit (hR (.exit id) _ _ μ w a h hA (Fp.refl μ s w))
theorem Jd.seq (h:Jb bb P a fr s (Thn (fun fr s=>Jb bb P b fr s Q) Q)):Jb bb P (.seq a b) fr s Q:=by
 intro n μ w x ro R hA hR
 refine wpIn_seq (h n μ w x ro _ hA ?_)
 intro ex fr1 s1 μ1 w1 a1 hq hA1 f1
 cases ex with
 | normal=>exact hq n μ1 w1 a1 ro R hA1 fun ex fr' s' μ' w' a' q hA' f'=>hR ex fr' s' μ' w' a' q hA' (f1.trans f')
 | exit id=>exact hR _ _ _ μ1 w1 a1 hq hA1 f1
 | ret=>exact hR _ _ _ μ1 w1 a1 hq hA1 f1
theorem Jd.cond_true {x:Operand} (hx:opd fr.T x = some (.b true))(h:Jb bb P a fr s Q):Jb bb P (.cond x a b) fr s Q:=fun n μ w t ro R hA hR =>
 wpIn_cond_true (by have:=opd_vr hA.tr x _ hx; simpa only [VR] using this) (h n μ w t ro R hA hR)
theorem Jd.cond_false {x:Operand} (hx:opd fr.T x = some (.b false))(h:Jb bb P b fr s Q):Jb bb P (.cond x a b) fr s Q:=fun n μ w t ro R hA hR =>
 wpIn_cond_false (by have:=opd_vr hA.tr x _ hx; simpa only [VR] using this) (h n μ w t ro R hA hR)
theorem Jd.cond {x:Operand} {t:Bool} (hx:opd fr.T x = some (.b t))(h1:t = true->Jb bb P a fr s Q)(h2:t = false->Jb bb P b fr s Q):Jb bb P (.cond x a b) fr s Q:=by
 cases t with
 | true=>exact Jd.cond_true hx (h1 rfl)
 | false=>exact Jd.cond_false hx (h2 rfl)
theorem Jd.block {id:Nat} (h:Jb bb P c fr s (Blk_ id Q)):Jb bb P (.block id c) fr s Q:=by
 intro n μ w x ro R hA hR
 refine wpIn_block (h n μ w x ro _ hA ?_)
 intro ex fr1 s1 μ1 w1 a1 hq hA1 f1
 cases ex with
 | normal=>exact hR _ _ _ μ1 w1 a1 hq hA1 f1
 | exit id' =>
  simp only [Blk_] at hq
  split at hq
  ·next e=>subst e; simp only [exOf,Exit.inBlock,if_true]; exact hR _ _ _ μ1 w1 a1 hq hA1 f1
  next e=>simp only [exOf,Exit.inBlock,if_neg e]; exact hR _ _ _ μ1 w1 a1 hq hA1 f1
 | ret=>exact hR _ _ _ μ1 w1 a1 hq hA1 f1
theorem Jd.scope (h:Jb bb P c fr s Q):Jb bb P (.scope c) fr s Q:=by
 intro n μ w x ro R hA hR
 refine wpIn_scope (h n μ w x ro _ hA ?_)
 intro ex fr1 s1 μ1 w1 a1 hq hA1 f1
 have:=hR _ _ _ μ1 w1 a1 hq hA1 f1
 cases ex <;> exact this
theorem Jd.loop (h:Jb bb P c fr s (Thn (fun fr s=>Jb bb P (.loop c) fr s Q) Q)):Jb bb P (.loop c) fr s Q:=by
 intro n μ w x ro R hA hR
 refine wpIn_mono (wpIn_unroll (Q:=fun e a w=>(∃ x,e = exOf x)/\R e a w) (fun _ _ _ h=>h.1) (h n μ w x ro _ hA ?_)) fun e a w h=>h.2
 intro ex fr1 s1 μ1 w1 a1 hq hA1 f1
 cases ex with
 | normal=>exact hq n μ1 w1 a1 ro _ hA1 fun ex fr' s' μ' w' a' q hA' f'=>⟨⟨_,rfl⟩,hR ex fr' s' μ' w' a' q hA' (f1.trans f')⟩
 | exit id=>exact ⟨⟨_,rfl⟩,hR _ _ _ μ1 w1 a1 hq hA1 f1⟩
 | ret=>exact ⟨⟨_,rfl⟩,hR _ _ _ μ1 w1 a1 hq hA1 f1⟩
theorem Jd.swap {fr2:Fr} {s2:St} (h:∀ μ ro a w,At μ fr s ro a w->∃ μ2,At μ2 fr2 s2 ro a w/\Fp bb μ s w μ2 s2 w) (k:Jb bb P c fr2 s2 Q):Jb bb P c fr s Q:=by
 intro n μ w x ro R hA hR
 obtain ⟨μ2,hA2,f2⟩:=h μ ro x w hA
 exact k n μ2 w x ro R hA2 fun ex fr' s' μ' w' a' q hA' f'=>hR ex fr' s' μ' w' a' q hA' (f2.trans f')
theorem Jd.run {X:Env} {k:Nat} (S:Sound P (Ev.at_ P X k)) {ex:Ex} {fr':Fr} {s':St} (h:(Ev.at_ P X k).code c fr s = some (ex,fr',s'))(hq:Q ex fr' s'):Jb bb P c fr s Q:=by
 intro n μ w x ro R hA hR
 obtain ⟨g1,g2,g3,g4⟩:=S.code h
 refine g4 n hA.rel hA.tr hA.dm hA.ro (fun o h1 _=>hA.fresh o h1) ?_
 intro μ' w' a' r t tr d
 refine hR ex fr' s' μ' w' a' hq ⟨r,tr,d,by rw [g2]; exact hA.ro.mono t.sub,fun o ho=>?_⟩ t.fp
 cases e:μ' o with
 | none=>rfl
 | some l =>
  have hn:=t.nx
  have:=t.dom o (hA.fresh o (by omega)) (by rw [e]; simp)
  omega
end
abbrev Jd (P:Program) (c:Code) (fr:Fr) (s:St) (Q:Ex->Fr->St->Prop):Prop:=Jb 0 P c fr s Q
end
end Go.Proofs.YtdehimgccmbfkaaGreat
