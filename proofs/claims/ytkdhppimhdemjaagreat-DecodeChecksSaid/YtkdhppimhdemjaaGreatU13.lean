/- Lemmas on the way: Ev14, Ev15, Ev16. -/
import Derived.Test.YtkdhppimhdemjaaGreatU12
set_option linter.all false
set_option maxRecDepth 1000000
set_option maxHeartbeats 32000000
namespace Go.Proofs.YtkdhppimhdemjaaGreat
open Go.RowKit
section
section
variable {P:Program} {μ:Mu} {s:St} {w:World}

theorem Gp {α:Type} {a:Array α} {l:List α} (h:a.toList = l):a = l.toArray:=by rw [<- h,Array.toArray_toList]

theorem EW {X:dY} {E:Ev} (hl:laidOutB P = true) (S:cX P E)(hM:mI P X)(h:bA μ s w) {T:Tr AV} {nt:Nat} {a:Act} (hT:TR μ nt T a.tmps) {ro:Option Nat} {n:Nat} {o:Oper} {K:Act->World->Prop} {Q:Exit->Act->World->Prop} {x:AV} {s':St}
  (hx:f5 P X E (fZ T) s o.op = some (x,s'))(hf:fD μ s s')(hK:∀ μ' w' v,bA μ' s' w'->dJ μ s w μ' s' w'->VR μ' x v->K (a.put o.dst v) w'):o.wpIn (Fw ro) n P a w K Q:=by
 refine ⟨fun _ _=>trivial,?_⟩
 have hρ:=ko hT
 have hnd:∀ c,o.op ≠ .defer c:=fun c e=>by rw [e] at hx; simp [f5,bu,dL] at hx
 rw [Oper.semAt_eq _ _ _ hnd]
 unfold f5 at hx
 split at hx
 ·-- it leaves the memory
  simp only [Option.map_eq_some_iff,Prod.mk.injEq] at hx
  obtain ⟨v,hv,rfl,rfl⟩:=hx
  obtain ⟨v',h1,h2⟩:=KU hl h hρ o hv
  rw [h1]
  exact hK μ w v' h (dJ.refl _ _ _) h2
 ·-- an object more
  simp only [Option.map_eq_some_iff,Prod.mk.injEq] at hx
  obtain ⟨⟨ob,f⟩,hv,rfl,rfl⟩:=hx
  obtain ⟨O,tot,v,h1,h2,h3⟩:=GK hρ o hv w
  rw [h1]
  have hn:=hf _ (Nat.le_refl _) (by simp [St.new])
  obtain ⟨g1,g2⟩:=h3 (μ.with s.nx (.at_ ⟨w.heap.size,0,tot⟩)) s.nx (Mu.sub_with _ hn) (Mu.with_same _ _ _)
  obtain ⟨r1,r2⟩:=h.new hn O ob ⟨w.heap.size,0,tot⟩ rfl (g2 _ (fc w O))
  exact hK _ _ _ r1 r2 g1
 -- an act
 next hk =>
 obtain ⟨dst,op,type,pos,after,guard⟩:=o
 simp only at hx hk hK ⊢
 cases op
 case store t y v=>exact fS (FL h hρ _ rfl hx) hK
 case mapUpdate t m k v=>exact fS (u9 hl h hρ _ rfl hx) hK
 case mapEntry t m k=>exact fS (xG hl h hρ _ rfl hx) hK
 case entryStore t m b v=>exact fS (sj h hρ _ rfl hx) hK
 case range t y=>exact fS (FM h hρ _ rfl hx hf) hK
 case next it b=>exact fS (Jj h hρ _ rfl hx) hK
 case call c =>
  obtain ⟨callee,args,argTypes⟩:=c
  cases callee with
  | builtin b =>
   cases b
   case append =>
    simp only [gy] at hx
    split at hx
    ·next t t' y z ht hm =>
     split at hx
     ·next e e' hu hu' =>
      have hv:=eD hρ hm
      simp only [ao] at hv
      obtain ⟨y',_,e1,hy,z',_,rfl,hz,rfl⟩:=hv
      obtain ⟨w',μ',v,r1,r2,r3,r4⟩:=zq (ty:=type) h hu hu' hx hy hz hf
      refine fS (s':=s') ⟨w',μ',v,_,?_,.inl rfl,r2,r3,r4⟩ hK
      have ha:args.map a.eval = #[y',z']:=by rw [<- Array.toArray_toList (xs:=args.map a.eval),Array.toList_map,e1]
      simp [execOp,resolve,invoke,builtin,ha,Gp ht,r1]
     cases hx
    cases hx
   case copy =>
    simp only [gy] at hx
    split at hx
    ·next t t' y z ht hm =>
     split at hx
     ·next e hu =>
      have hv:=eD hρ hm
      simp only [ao] at hv
      obtain ⟨y',_,e1,hy,z',_,rfl,hz,rfl⟩:=hv
      obtain ⟨w',v,r1,r2,r3,r4⟩:=FT (t':=t') (ty:=type) h hu hx hy hz
      refine fS (s':=s') ⟨w',μ,v,_,?_,.inl rfl,r2,r3,r4⟩ hK
      have ha:args.map a.eval = #[y',z']:=by rw [<- Array.toArray_toList (xs:=args.map a.eval),Array.toList_map,e1]
      simp [execOp,resolve,invoke,builtin,ha,Gp ht,r1]
     cases hx
    cases hx
   all_goals (simp [gy] at hx; done)
  | value f =>
   simp only [gy] at hx
   split at hx
   ·next g fs cs asn hg hm =>
    have hv:=eD hρ hm
    have hfv:=hρ _ _ hg
    simp only [VR] at hfv
    obtain ⟨fs',cs',ef,hfs,hcs⟩:=hfv
    have hco:=(S.call hx).1.1
    have hrun:(execOp a.eval ⟨dst,.call ⟨.value f,args,argTypes⟩,type,pos,after,guard⟩).run P w = .ok (.enter g ((fs' ++ args.toList.map a.eval ++ cs').toArray)) w:=by
     have:=hco ((fs' ++ args.toList.map a.eval ++ cs').toArray) w
     have e:fs'.toArray ++ args.map a.eval ++ cs'.toArray = (fs' ++ args.toList.map a.eval ++ cs').toArray:=by
      apply Array.ext'
      simp
     simp only [execOp,resolve,ef,Deferred.ofValue,Sem.run_bind,Sem.run_pure,Result.andThen_ok,invoke]
     rw [e,this]
    rw [hrun]
    exact kM S hx h ((hfs.append hv).append hcs) hf hK
   ·next l asn hg hm =>
    have hv:=eD hρ hm
    have hfv:=hρ _ _ hg
    simp only [VR] at hfv
    obtain ⟨p,hmu,ef⟩:=hfv
    have hrun:(execOp a.eval ⟨dst,.call ⟨.value f,args,argTypes⟩,type,pos,after,guard⟩).run P w = (Instr.yield p.blk (args.toList.map a.eval).toArray).run P w:=by
     have e:#[] ++ args.map a.eval = (args.toList.map a.eval).toArray:=by
      apply Array.ext'
      simp
     simp only [execOp,resolve,ef,Deferred.ofValue,Sem.run_bind,Sem.run_pure,Result.andThen_ok,invoke]
     rw [e]
    rw [hrun]
    exact DK S hmu hx h hv hf hK
   cases hx
  | invoke r m =>
   simp only [gy] at hx
   split at hx
   ·next t v asn hr hm =>
    have hv:=eD hρ hm
    have hrv:=hρ _ _ hr
    simp only [VR] at hrv
    obtain ⟨y,er,hy⟩:=hrv
    have hrun:∀ (g:FuncId) (y2:Value),kI P g->(method (P.types.size + Made.depth) t y m).run P w = .ok (g,y2) w ->
      (execOp a.eval ⟨dst,.call ⟨.invoke r m,args,argTypes⟩,type,pos,after,guard⟩).run P w = .ok (.enter g ((y2 :: args.toList.map a.eval).toArray)) w:=by
     intro g y2 hco hme
     have e:#[y2] ++ (args.map a.eval) = (y2 :: args.toList.map a.eval).toArray:=by
      apply Array.ext'
      simp
     have e2:(#[Value.iface t y] ++ args.map a.eval).extract 1 (#[Value.iface t y] ++ args.map a.eval).size = args.map a.eval:=by
      apply Array.ext'
      simp
      exact List.take_of_length_le (by simp)
     have e3:(#[Value.iface t y] ++ args.map a.eval)[0]? = some (Value.iface t y):=by rw [Array.getElem?_append]; rfl
     simp only [execOp,resolve,er,Sem.run_bind,Sem.run_pure,Result.andThen_ok,invoke,e3,e2,callMethod,run_program,hme]
     rw [e,hco]
    split at hx
    ·next g hme =>
     have hco:=(S.call hx).1.1
     rw [hrun g y hco (hM t m g .same hme y w)]
     exact kM S hx h (ao.cons hy hv) hf hK
    ·next g e hme =>
     split at hx
     ·next v2 hld =>
      have hco:=(S.call hx).1.1
      obtain ⟨y2,h1,h2⟩:=q8 h hld hy
      have hld':=hld
      unfold ig at hld'
      split at hld'
      ·next o1 off =>
       simp only [VR] at hy
       obtain ⟨p,hmu,rfl⟩:=hy
       have:=hM t m g (.deref e) hme p.blk (p.base + off) w
       simp only [Instr.loadAt,Instr.sureAddr,Sem.run_bind,Sem.run_pure,Result.andThen_ok] at h1
       rw [h1] at this
       rw [hrun g y2 hco this]
       exact kM S hx h (ao.cons h2 hv) hf hK
      ·next c off =>
       simp only [VR] at hy
       obtain ⟨b,base,cs,rfl,_⟩:=hy
       have:=hM t m g (.deref e) hme b (base + off) w
       simp only [Instr.loadAt,Instr.sureAddr,Sem.run_bind,Sem.run_pure,Result.andThen_ok] at h1
       rw [h1] at this
       rw [hrun g y2 hco this]
       exact kM S hx h (ao.cons h2 hv) hf hK
      cases hld'
     cases hx
    cases hx
   cases hx
 all_goals (simp [bu] at hk; done)

theorem uB {ops:Array Oper} {T:Tr AV} {nt:Nat} {tm:Array Value} (hT:TR μ nt T tm) {o:Oper} {b:Bool} (h:fu ops.toList T o = some b):Region.wanted o (yielded ops tm) = b:=by
 unfold fu at h
 unfold Region.wanted
 cases hg:o.guard with
 | none=>rw [hg] at h; simp only [Option.some.injEq] at h; exact h
 | some g =>
  obtain ⟨j,want⟩:=g
  rw [hg] at h
  simp only at h ⊢
  have e:ops.toList[j]? = ops[j]?:=by simp
  rw [e] at h
  cases hd:(ops[j]?).bind (·.dst) with
  | none=>rw [hd] at h; cases h
  | some t =>
   rw [hd] at h
   simp only at h
   unfold yielded
   rw [hd]
   simp only [Option.bind_some]
   split at h
   ·next x hx =>
    obtain ⟨y,h1,h2⟩:=hT.2 t _ hx
    simp only [VR] at h2
    subst h2
    rw [h1]
    simp only [Option.some.injEq] at h
    rw [<- h]
    simp
   ·next hx =>
    obtain ⟨y,h1,h2⟩:=hT.2 t _ hx
    simp only [VR,ao] at h2
    obtain ⟨_,rfl,rfl⟩:=h2
    rw [h1]
    simp only [Option.some.injEq] at h
    rw [<- h]
    rfl
   cases h
theorem EN {T T':Tr AV} {nt:Nat} {a:Act} (hT:TR μ nt T a.tmps) {d:Option Tmp} {x:AV} {v:Value} (hv:VR μ x v)(h:jM T nt d x = some T'):TR μ nt T' (a.put d v).tmps:=by
 cases d with
 | none=>simp only [jM,Option.some.injEq] at h; subst h; exact hT
 | some d =>
  simp only [jM] at h
  obtain ⟨h1,h2⟩:=aj h
  cases h2
  rw [Nat.blt_eq] at h1
  exact hT.put h1 hv
theorem mb {a:Act} {d:Option Tmp} {v:Value}:(a.put d v).defers = a.defers:=by cases d <;> rfl
theorem qu:VR μ (.tup []) undef:=by simp [VR,ao,undef]

theorem yW {X:dY} {E:Ev} (hl:laidOutB P = true) (S:cX P E)(hM:mI P X)(hmono:∀ {ρ s o v s'},f5 P X E ρ s o = some (v,s')->s.nx <= s'.nx) {ops:Array Oper} {nt:Nat} {ro:Option Nat} {n:Nat} {Q:Exit->Act->World->Prop}:∀ (os:List Oper) (k:Nat) {μ:Mu} {s:St} {w:World} {a:Act} {T T':Tr AV} {s':St},
  ops.toList.drop k = os->jN P X E nt ops.toList os T s = some (T',s')->bA μ s w->TR μ nt T a.tmps->fD μ s s' ->
  (∀ μ' w' a',bA μ' s' w'->dJ μ s w μ' s' w'->TR μ' nt T' a'.tmps->a'.defers = a.defers->Q .normal a' w')->wpOpsIn (Fw ro) n P ops Q (List.range' k os.length) a w
 | [],k,μ,s,w,a,T,T',s',_,hx,h,hT,_,hQ=>by
  simp only [jN,Option.some.injEq,Prod.mk.injEq] at hx
  obtain ⟨rfl,rfl⟩:=hx
  exact hQ μ w a h (dJ.refl _ _ _) hT rfl
 | o :: os,k,μ,s,w,a,T,T',s',hd,hx,h,hT,hf,hQ=>by
  have ho:ops[k]? = some o:=by
   have:=congrArg (·[0]?) hd
   simpa [List.getElem?_drop] using this
  have hd':ops.toList.drop (k + 1) = os:=by
   have:=congrArg (List.drop 1) hd
   simpa [List.drop_drop] using this
  simp only [List.length_cons,List.range'_succ,wpOpsIn,ho]
  simp only [jN] at hx
  split at hx
  ·next hw =>
   rw [if_pos (uB hT hw)]
   split at hx
   ·next v s1 hop =>
    split at hx
    ·next T1 hput =>
     have m2:s1.nx <= s'.nx:=by
      have go:∀ (os:List Oper) (T T':Tr AV) (s s':St),jN P X E nt ops.toList os T s = some (T',s')->s.nx <= s'.nx:=by
       intro os
       induction os with
       | nil=>intro T T' s s' h; simp only [jN,Option.some.injEq,Prod.mk.injEq] at h; rw [h.2]; exact Nat.le_refl _
       | cons o os ih =>
        intro T T' s s' h
        simp only [jN] at h
        split at h
        ·split at h
         ·next hop =>
          split at h
          ·exact Nat.le_trans (hmono hop) (ih _ _ _ _ h)
          cases h
         cases h
        ·split at h
         ·exact ih _ _ _ _ h
         cases h
        cases h
      exact go os _ _ _ _ hx
     refine EW hl S hM h hT hop (fun o1 e1 e2=>hf o1 e1 (by omega)) ?_
     intro μ1 w1 v' r1 t1 hv
     refine yW hl S hM hmono os (k + 1) hd' hx r1 (EN (hT.mono t1.sub) hv hput) (fun o1 e1 e2=>?_) ?_
     ·cases hmu:μ1 o1 with
      | none=>rfl
      | some lc =>
       exfalso
       have hn:=t1.nx
       by_cases hmu0:μ o1 = none
       ·have:=t1.dom o1 hmu0 (by rw [hmu]; simp)
        omega
       exact hmu0 (hf o1 (by omega) e2)
     intro μ' w' a' r' t' tr' hdf
     exact hQ μ' w' a' r' (t1.trans t') tr' (by rw [hdf,mb])
    cases hx
   cases hx
  ·next hw =>
   rw [if_neg (by rw [uB hT hw]; simp)]
   split at hx
   ·next T1 hput =>
    refine ⟨fun _ _=>trivial,?_⟩
    refine yW hl S hM hmono os (k + 1) hd' hx h (EN hT qu hput) hf ?_
    intro μ' w' a' r' t' tr' hdf
    exact hQ μ' w' a' r' t' tr' (by rw [hdf,mb])
   cases hx
  cases hx
end
end
section
section
variable {P:Program}
def aK (s s':St):Prop:=s.nx <= s'.nx/\(Wf s->Wf s')
theorem aK.refl (s:St):aK s s:=⟨Nat.le_refl _,id⟩
theorem aK.trans {a b c:St} (h:aK a b) (k:aK b c):aK a c:=⟨Nat.le_trans h.1 k.1,fun x=>k.2 (h.2 x)⟩
theorem aK.new (s:St) (x:AO):aK s (s.new x):=⟨by simp [St.new],fun h o ho=>by
 have h1:s.nx + 1 <= o:=ho
 simp only [St.new]
 rw [Tr.get_set_ne _ _ (by omega)]
 exact h o (by omega)⟩
theorem aK.set {s:St} {k:Nat} {x0:AO} (x:AO)(h:s.h.get k = some x0):aK s (s.set k x):=⟨Nat.le_refl _,fun hw o ho=>by
 simp only [St.set]
 rw [Tr.get_set_ne _ _ (fun e=>by subst e; rw [hw _ ho] at h; cases h)]
 exact hw o ho⟩
theorem aK.drop (s:St) (k:Nat):aK s (s.drop k):=⟨Nat.le_refl _,fun hw o ho=>by
 simp only [St.drop,Tr.get_set]
 split
 ·rfl
 exact hw o ho⟩
theorem uD {s s':St} {t:TypeId} {v a:AV} (h:gF P s t v a = some s'):aK s s':=by
 unfold gF at h
 split at h
 ·split at h
  ·next ho =>
   split at h
   ·obtain ⟨_,h⟩:=aj h
    cases h
    exact aK.set _ ho
   cases h
  cases h
 cases h
theorem uS {s s':St} {kt:TypeId} {m k v:AV} (h:gK P s kt m k v = some s'):aK s s':=by
 unfold gK at h
 split at h
 ·split at h
  ·next ho =>
   split at h
   ·split at h
    ·cases h; exact aK.set _ ho
    cases h
   ·cases h; exact aK.set _ ho
   cases h
  cases h
 cases h
theorem sr {s s':St} {e:TypeId} {x y r:AV} (h:fR P s e x y = some (r,s')):aK s s':=by
 unfold fR at h
 split at h
 ·next i zv _ _ =>
  split at h
  ·next old new _ _ =>
   obtain ⟨_,h⟩:=aj h
   cases x with
   | snil =>
    simp only at h
    cases hb:Nat.beq new.length 0 <;> rw [hb] at h <;> cases h
    ·exact aK.new _ _
    exact aK.refl _
   | sl o off n cap =>
    simp only at h
    cases hb:Nat.blt cap cW <;> rw [hb] at h
    ·simp only [cond_false] at h
     obtain ⟨_,h⟩:=aj h
     split at h
     ·next c e' op ho =>
      cases hb2:Nat.ble (off + n * i.size + new.length) c.length <;> rw [hb2] at h
      ·simp only [cond_false] at h
       obtain ⟨_,h⟩:=aj h
       cases h
       exact (aK.drop s o).trans (aK.new _ _)
      cases h; exact aK.set _ ho
     cases h
    simp only [cond_true] at h
    cases hb2:Nat.ble (n + new.length / i.size) cap <;> rw [hb2] at h
    ·cases h; exact aK.new _ _
    simp only [cond_true] at h
    split at h
    ·next ho=>obtain ⟨_,h⟩:=aj h; cases h; exact aK.set _ ho
    cases h
   | _=>cases h
  cases h
 cases h
theorem xP {s s':St} {e:TypeId} {x y r:AV} (h:pz P s e x y = some (r,s')):aK s s':=by
 unfold pz at h
 split at h
 ·split at h
  ·next ho _ =>
   split at h
   ·obtain ⟨_,h⟩:=aj h; cases h; exact aK.set _ ho
   cases h
  cases h
 ·split at h
  ·next ho _=>obtain ⟨_,h⟩:=aj h; cases h; exact aK.set _ ho
  cases h
 cases h
theorem vK {E:Ev} (S:cX P E) {l:Nat} {args:List AV} {s s':St} {x:AV} (h:cV E l args s = some (x,s')):aK s s':=by
 unfold cV at h
 split at h
 ·obtain ⟨_,h⟩:=aj h
  split at h
  ·next h1 =>
   split at h
   ·next ho1 =>
    split at h
    ·next h2 =>
     have g:=(S.code h1).2.2.1
     have g2:aK _ _:=(S.code h2).2.2.1
     have g3:=(aK.trans g (aK.set _ ho1)).trans g2
     split at h
     ·next ho2 =>
      split at h <;> (cases h; exact g3.trans (aK.set _ ho2))
     cases h
    cases h
   cases h
  cases h
 cases h
theorem ou {X:dY} {E:Ev} (S:cX P E) {ρ:Operand->Option AV} {s s':St} {o:Op} {v:AV} (h:f5 P X E ρ s o = some (v,s')):aK s s':=by
 unfold f5 at h
 split at h
 ·simp only [Option.map_eq_some_iff,Prod.mk.injEq] at h
  obtain ⟨_,_,_,rfl⟩:=h
  exact aK.refl _
 ·simp only [Option.map_eq_some_iff,Prod.mk.injEq] at h
  obtain ⟨_,_,_,rfl⟩:=h
  exact aK.new _ _
 next hk =>
 clear hk
 cases o
 case store t a v =>
  simp only [gy] at h
  split at h
  ·simp only [Option.map_eq_some_iff,Prod.mk.injEq] at h
   obtain ⟨s1,h1,_,rfl⟩:=h
   exact uD h1
  cases h
 case mapUpdate t m k v =>
  simp only [gy] at h
  split at h
  ·simp only [Option.map_eq_some_iff,Prod.mk.injEq] at h
   obtain ⟨s1,h1,_,rfl⟩:=h
   exact uS h1
  cases h
 case mapEntry t m k =>
  simp only [gy] at h
  split at h
  ·split at h
   ·next ho =>
    split at h
    ·split at h
     ·cases h; exact aK.set _ ho
     cases h
    ·split at h
     ·cases h; exact aK.set _ ho
     cases h
    cases h
   cases h
  cases h
 case entryStore t m b v =>
  simp only [gy] at h
  split at h
  ·split at h
   ·next ho =>
    split at h
    ·split at h
     ·cases h; exact aK.set _ ho
     cases h
    cases h
   cases h
  cases h
 case range t y =>
  simp only [gy] at h
  split at h
  ·cases h; exact aK.new _ _
  ·cases h; exact aK.new _ _
  ·split at h
   ·cases h; exact aK.new _ _
   cases h
  cases h
 case next it b =>
  cases b
  case true=>simp [gy] at h
  simp only [gy] at h
  split at h
  ·split at h
   ·cases h; exact aK.refl _
   ·cases h; exact aK.refl _
   ·next m since seen last ho =>
    split at h
    ·next es clock _ =>
     cases hb:(!seen.isEmpty && !es.isEmpty && es.all fun e=>Nat.ble last e.born) <;> rw [hb] at h
     ·simp only [cond_false] at h
      split at h
      ·cases h; exact aK.refl _
      ·obtain ⟨_,h⟩:=aj h; cases h; exact aK.set _ ho
      cases h
     cases h
    cases h
   cases h
  cases h
 case call c =>
  obtain ⟨callee,args,argTypes⟩:=c
  cases callee with
  | builtin b =>
   cases b
   case append =>
    simp only [gy] at h
    split at h
    ·split at h
     ·exact sr h
     cases h
    cases h
   case copy =>
    simp only [gy] at h
    split at h
    ·split at h
     ·exact xP h
     cases h
    cases h
   all_goals (simp [gy] at h; done)
  | value f =>
   simp only [gy] at h
   split at h
   ·exact (S.call h).1.2
   ·exact vK S h
   cases h
  | invoke r m =>
   simp only [gy] at h
   split at h
   ·split at h
    ·exact (S.call h).1.2
    ·split at h
     ·exact (S.call h).1.2
     cases h
    cases h
   cases h
 all_goals (simp [gy] at h; done)

theorem dz {ρ ρ':Operand->Option AV}:∀ {l:List Operand},(∀ x ∈ l,ρ x = ρ' x)->l.mapM ρ = l.mapM ρ'
 | [],_=>rfl
 | x :: l,h=>by rw [List.mapM_cons,List.mapM_cons,h x (by simp),dz fun y hy=>h y (List.mem_cons_of_mem _ hy)]
theorem kz {ρ ρ':Operand->Option AV} {pl:Nat->Option (Nat × Nat)}:∀ {ps:List (Nat × Operand)} {c:List AV},(∀ x ∈ ps.map (·.2),ρ x = ρ' x)->il ρ pl c ps = il ρ' pl c ps
 | [],_,_=>rfl
 | p :: ps,c,h=>by
  simp only [il,h p.2 (by simp)]
  split
  ·congr 1
   exact kz fun x hx=>h x (by simp at hx ⊢; exact .inr hx)
  rfl
theorem uq {ρ ρ':Operand->Option AV} {o:Op} (h:∀ x ∈ o.operands,ρ x = ρ' x):oT P ρ o = oT P ρ' o:=by
 cases o <;> simp only [Op.operands] at h <;> simp only [oT]
 case box t x=>rw [h x (by simp)]
 case buildSlice t n ps =>
  have e:=fun pl c=>kz (ρ:=ρ) (ρ':=ρ') (pl:=pl) (ps:=ps.toList) (c:=c) fun x hx=>h x (by simpa using hx)
  simp only [e]
 case makeMap t r =>
  cases r with
  | none=>rfl
  | some x=>simp only; rw [h x (by simp)]
 case makeSlice t l c=>rw [h l (by simp),h c (by simp)]
theorem sW {X:dY} {E:Ev} {ρ ρ':Operand->Option AV} {s:St} {o:Op} (h:∀ x ∈ o.operands,ρ x = ρ' x):f5 P X E ρ s o = f5 P X E ρ' s o:=by
 unfold f5
 have hal:oT P ρ o = oT P ρ' o:=uq h
 have hrd:dL P ρ s o = dL P ρ' s o:=by
  cases o <;> simp only [Op.operands] at h <;> simp only [dL]
  case move x=>exact h x (by simp)
  case assign x=>exact h x (by simp)
  case pick c a b=>rw [h c (by simp),h a (by simp),h b (by simp)]
  case load t a=>rw [h a (by simp)]
  case nilCheck x=>rw [h x (by simp)]
  case binOp op t x y yt=>rw [h x (by simp),h y (by simp)]
  case unOp op t x=>rw [h x (by simp)]
  case convert a b x=>rw [h x (by simp)]
  case makeInterface t x=>rw [h x (by simp)]
  case makeFunc fn fs cs =>
   cases fn <;> simp only [dL]
   rw [dz (ρ:=ρ) (ρ':=ρ') (l:=fs.toList) fun x hx=>h x (by simp at hx ⊢; exact .inl hx),dz (ρ:=ρ) (ρ':=ρ') (l:=cs.toList) fun x hx=>h x (by simp at hx ⊢; exact .inr hx)]
  case slice t x lo hi mx =>
   have e:∀ d (y:Option Operand),(∀ z,y = some z->ρ z = ρ' z)->di ρ d y = di ρ' d y:=fun d y hy=>by
    cases y with
    | none=>rfl
    | some z=>simp only [di]; rw [hy z rfl]
   rw [h x (by simp)]
   congr 2
   funext a
   unfold eu
   have e1:=fun d=>e d lo (fun z hz=>h z (by subst hz; simp))
   have e2:=fun d=>e d hi (fun z hz=>h z (by subst hz; simp))
   have e3:=fun d=>e d mx (fun z hz=>h z (by subst hz; simp))
   simp only [e1,e2,e3]
  case fieldAddr t x f=>rw [h x (by simp)]
  case field t x f=>rw [h x (by simp)]
  case indexAddr t x i=>rw [h x (by simp),h i (by simp)]
  case index t x i=>rw [h x (by simp),h i (by simp)]
  case lookup t x i ok=>rw [h x (by simp),h i (by simp)]
  case typeAssert x t u ok=>rw [h x (by simp)]
  case extract x k=>rw [h x (by simp)]
  case entry it=>rw [h it (by simp)]
  case build t ps =>
   have e:=fun pl c=>kz (ρ:=ρ) (ρ':=ρ') (pl:=pl) (ps:=ps.toList) (c:=c) fun x hx=>h x (by simpa using hx)
   simp only [e]
  case call c =>
   obtain ⟨callee,args,ats⟩:=c
   have ha:∀ x ∈ args.toList,ρ x = ρ' x:=fun x hx=>h x (by simp [Call.operands] at hx ⊢; exact .inr hx)
   cases callee with
   | builtin b =>
    cases b <;> simp only [dL]
    case len =>
     split
     ·next t x _ e=>rw [ha x (by rw [e]; simp)]
     rfl
    case cap =>
     split
     ·next t x _ e=>rw [ha x (by rw [e]; simp)]
     rfl
    case min=>rw [dz ha]
    case max=>rw [dz ha]
   | _=>rfl
 have hef:gy P X E ρ s o = gy P X E ρ' s o:=by
  cases o <;> simp only [Op.operands] at h <;> simp only [gy]
  case store t a v=>rw [h a (by simp),h v (by simp)]
  case mapUpdate t m k v=>rw [h m (by simp),h k (by simp),h v (by simp)]
  case mapEntry t m k=>rw [h m (by simp),h k (by simp)]
  case entryStore t m b v=>rw [h m (by simp),h b (by simp),h v (by simp)]
  case range t x=>rw [h x (by simp)]
  case next it b=>cases b <;> simp only [gy]; rw [h it (by simp)]
  case call c =>
   obtain ⟨callee,args,ats⟩:=c
   have ha:∀ x ∈ args.toList,ρ x = ρ' x:=fun x hx=>h x (by simp [Call.operands] at hx ⊢; exact .inr hx)
   cases callee with
   | builtin b =>
    cases b <;> simp only [gy]
    case append=>rw [dz ha]
    case copy=>rw [dz ha]
   | value f=>simp only [gy]; rw [dz ha,h f (by simp [Call.operands])]
   | invoke r m=>simp only [gy]; rw [dz ha,h r (by simp [Call.operands])]
 rw [hal,hrd,hef]
theorem Hz {ρ:Operand->Option AV} {s s':St} {o:Op} (h:bE o = false):dL P ρ s o = dL P ρ s' o:=by
 cases o <;> try rfl
 case makeFunc fn _ _=>cases fn <;> rfl
 case load=>simp [bE] at h
 case lookup=>simp [bE] at h
 case entry=>simp [bE] at h
 case call c =>
  obtain ⟨callee,args,ats⟩:=c
  cases callee with
  | builtin b=>cases b <;> first | rfl | (simp [bE] at h; done)
  | _=>rfl
mutual
theorem uH:∀ (x y:AV),same x y = true->x = y
 | .b x,y,h=>by cases y <;> simp [same] at h; rw [h]
 | .i k n,y,h=>by cases y <;> simp [same] at h; rw [h.1,h.2]
 | .ptr o f,y,h=>by cases y <;> simp [same] at h; rw [h.1,h.2]
 | .pnil,y,h=>by cases y <;> simp [same] at h; rfl
 | .sl o f n c,y,h=>by cases y <;> simp [same] at h; rw [h.1.1.1,h.1.1.2,h.1.2,h.2]
 | .snil,y,h=>by cases y <;> simp [same] at h; rfl
 | .nat o,y,h=>by cases y <;> simp [same] at h; rw [h]
 | .num n,y,h=>by cases y <;> simp [same] at h; rw [h]
 | .vw c n,y,h=>by
  cases y <;> simp [same] at h
  rw [eC c _ h.1,h.2]
 | .vp c n,y,h=>by
  cases y <;> simp [same] at h
  rw [eC c _ h.1,h.2]
 | .fm a b,y,h=>by
  cases y <;> simp [same] at h
  rw [eC a _ h.1,eC b _ h.2]
 | .mp o,y,h=>by cases y <;> simp [same] at h; rw [h]
 | .mnil,y,h=>by cases y <;> simp [same] at h; rfl
 | .fn f a b,y,h=>by
  cases y <;> simp [same] at h
  rw [h.1.1,eC a _ h.1.2,eC b _ h.2]
 | .yl l,y,h=>by cases y <;> simp [same] at h; rw [h]
 | .fnil,y,h=>by cases y <;> simp [same] at h; rfl
 | .ifc t v,y,h=>by
  cases y <;> simp [same] at h
  rw [h.1,uH v _ h.2]
 | .inil,y,h=>by cases y <;> simp [same] at h; rfl
 | .agg l,y,h=>by
  cases y <;> simp [same] at h
  rw [eC l _ h]
 | .tup l,y,h=>by
  cases y <;> simp [same] at h
  rw [eC l _ h]
theorem eC:∀ (l m:List AV),gH l m = true->l = m
 | [],m,h=>by cases m <;> simp [gH] at h; rfl
 | x :: l,m,h=>by
  cases m <;> simp [gH] at h
  rw [uH x _ h.1,eC l _ h.2]
end
end
end
section
def MB (M:Tr Nat) (i j:Nat):Prop:=∃ m,M.get i = some m/\m.testBit j = true

theorem pp {M:Tr Nat} {i:Nat}:∀ (es:List Edge) (m0 m:Nat),es.foldlM (fun m e=>cond (Region.binds .any e) (cond (Nat.blt e.on i) ((M.get e.on).map fun x=>m ||| 2 ^ e.on ||| x) none) (some m)) m0 = some m ->
  (∀ e ∈ es,Region.binds .any e = true->e.on < i)/\∀ j,m.testBit j = true ↔ m0.testBit j = true ∨ ∃ e ∈ es,Region.binds .any e = true/\(j = e.on ∨ MB M e.on j)
 | [],m0,m,h=>by
  simp only [List.foldlM_nil,Option.pure_def,Option.some.injEq] at h
  subst h
  simp
 | e :: es,m0,m,h=>by
  rw [List.foldlM_cons] at h
  simp only [Option.bind_eq_bind,Option.bind_eq_some_iff] at h
  obtain ⟨m1,h1,h2⟩:=h
  obtain ⟨g1,g2⟩:=pp es m1 m h2
  cases hb:Region.binds .any e with
  | false =>
   rw [hb] at h1
   cases h1
   refine ⟨fun e' he hb'=>?_,fun j=>?_⟩
   ·rcases List.mem_cons.1 he with rfl | he
    ·rw [hb] at hb'; cases hb'
    exact g1 e' he hb'
   rw [g2]
   constructor
   ·rintro (h | ⟨e',he,h⟩)
    ·exact .inl h
    exact .inr ⟨e',List.mem_cons_of_mem _ he,h⟩
   rintro (h | ⟨e',he,h⟩)
   ·exact .inl h
   rcases List.mem_cons.1 he with rfl | he
   ·rw [hb] at h; cases h.1
   exact .inr ⟨e',he,h⟩
  | true =>
   rw [hb] at h1
   simp only [cond_true] at h1
   obtain ⟨hlt,h1⟩:=aj h1
   rw [Nat.blt_eq] at hlt
   simp only [Option.map_eq_some_iff] at h1
   obtain ⟨x,hx,rfl⟩:=h1
   refine ⟨fun e' he hb'=>?_,fun j=>?_⟩
   ·rcases List.mem_cons.1 he with rfl | he
    ·exact hlt
    exact g1 e' he hb'
   rw [g2]
   have hbit:(m0 ||| 2 ^ e.on ||| x).testBit j = true ↔ m0.testBit j = true ∨ j = e.on ∨ x.testBit j = true:=by
    rw [Nat.testBit_or,Nat.testBit_or,Nat.testBit_two_pow]
    simp only [Bool.or_eq_true,decide_eq_true_eq]
    constructor
    ·rintro ((h | h) | h)
     ·exact .inl h
     ·exact .inr (.inl h.symm)
     exact .inr (.inr h)
    rintro (h | h | h)
    ·exact .inl (.inl h)
    ·exact .inl (.inr h.symm)
    exact .inr h
   rw [hbit]
   constructor
   ·rintro ((h | h | h) | ⟨e',he,h⟩)
    ·exact .inl h
    ·exact .inr ⟨e,List.mem_cons_self,hb,.inl h⟩
    ·exact .inr ⟨e,List.mem_cons_self,hb,.inr ⟨x,hx,h⟩⟩
    exact .inr ⟨e',List.mem_cons_of_mem _ he,h⟩
   rintro (h | ⟨e',he,h⟩)
   ·exact .inl (.inl h)
   rcases List.mem_cons.1 he with rfl | he
   ·rcases h.2 with h | ⟨x',hx',h⟩
    ·exact .inl (.inr (.inl h))
    rw [hx] at hx'; cases hx'; exact .inl (.inr (.inr h))
   exact .inr ⟨e',he,h⟩
theorem jw:∀ (os:List Oper) (k:Nat) (M0 M:Tr Nat),po os k M0 = some M->∀ j,j < k->M.get j = M0.get j
 | [],_,_,_,h,_,_=>by simp only [po,Option.some.injEq] at h; rw [h]
 | o :: os,k,M0,M,h,j,hj=>by
  simp only [po] at h
  split at h
  ·rw [jw os (k + 1) _ M h j (by omega),Tr.get_set_ne _ _ (by omega)]
  cases h
theorem jv:∀ (os:List Oper) (k:Nat) (M0 M:Tr Nat),po os k M0 = some M->∀ i o,os[i]? = some o->M.get (k + i) ≠ none/\(∀ e ∈ o.after,Region.binds .any e = true->e.on < k + i) /\
  ∀ j,MB M (k + i) j ↔ ∃ e ∈ o.after,Region.binds .any e = true/\(j = e.on ∨ MB M e.on j)
 | [],_,_,_,_,i,o,ho=>by simp at ho
 | o1 :: os,k,M0,M,h,i,o,ho=>by
  simp only [po] at h
  split at h
  ·next m hm =>
   cases i with
   | zero =>
    simp at ho
    subst ho
    have hk:=jw os (k + 1) _ M h k (by omega)
    rw [Tr.get_set_same] at hk
    obtain ⟨g1,g2⟩:=pp o1.after.toList 0 m hm
    simp only [Nat.add_zero]
    refine ⟨by rw [hk]; simp,fun e he hb=>g1 e (by simpa using he) hb,fun j=>?_⟩
    have e1:MB M k j ↔ m.testBit j = true:=⟨fun ⟨m',h1,h2⟩=>by rw [hk] at h1; cases h1; exact h2,fun h=>⟨m,hk,h⟩⟩
    rw [e1,g2]
    simp only [Nat.zero_testBit,Bool.false_eq_true,false_or]
    constructor
    ·rintro ⟨e,he,hb,h⟩
     refine ⟨e,by simpa using he,hb,?_⟩
     rcases h with h | ⟨x,hx,h⟩
     ·exact .inl h
     exact .inr ⟨x,by rw [jw os (k + 1) _ M ‹_› _ (by have:=g1 e he hb; omega),Tr.get_set_ne _ _ (by have:=g1 e he hb; omega)]; exact hx,h⟩
    rintro ⟨e,he,hb,h⟩
    have he':e ∈ o1.after.toList:=by simpa using he
    refine ⟨e,he',hb,?_⟩
    rcases h with h | ⟨x,hx,h⟩
    ·exact .inl h
    rw [jw os (k + 1) _ M ‹_› _ (by have:=g1 e he' hb; omega),Tr.get_set_ne _ _ (by have:=g1 e he' hb; omega)] at hx
    exact .inr ⟨x,hx,h⟩
   | succ i =>
    have:=jv os (k + 1) _ M h i o (by simpa using ho)
    rw [show k + (i + 1) = k + 1 + i by omega]
    exact this
  cases h

structure zF (L:List Oper) (M:Tr Nat):Prop where
 get:∀ i o,L[i]? = some o->M.get i ≠ none
 lt:∀ i o,L[i]? = some o->∀ e ∈ o.after,Region.binds .any e = true->e.on < i
 iff_:∀ i o,L[i]? = some o->∀ j,MB M i j ↔ ∃ e ∈ o.after,Region.binds .any e = true/\(j = e.on ∨ MB M e.on j)
theorem Jx {L:List Oper} {M:Tr Nat} (h:po L 0 .nil = some M):zF L M :=
 ⟨fun i o ho=>by have:=(jv L 0 _ M h i o ho).1; simpa using this,
  fun i o ho=>by have:=(jv L 0 _ M h i o ho).2.1; simpa using this,
  fun i o ho=>by have:=(jv L 0 _ M h i o ho).2.2; simpa using this⟩
section
variable {L:List Oper} {M:Tr Nat}
theorem zF.below (B:zF L M):∀ i,(∃ o,L[i]? = some o)->∀ j,MB M i j->j < i:=by
 intro i
 induction i using Nat.strongRecOn with
 | _ i ih =>
  rintro ⟨o,ho⟩ j h
  obtain ⟨e,he,hb,h⟩:=(B.iff_ i o ho j).1 h
  have hlt:=B.lt i o ho e he hb
  rcases h with rfl | h
  ·exact hlt
  have hi:=(List.getElem?_eq_some_iff.1 ho).1
  have:=ih e.on hlt ⟨_,List.getElem?_eq_getElem (by omega)⟩ j h
  omega
theorem zF.trans (B:zF L M):∀ i,(∃ o,L[i]? = some o)->∀ j k,MB M i j->MB M j k->MB M i k:=by
 intro i
 induction i using Nat.strongRecOn with
 | _ i ih =>
  rintro ⟨o,ho⟩ j k h h'
  obtain ⟨e,he,hb,h⟩:=(B.iff_ i o ho j).1 h
  have hlt:=B.lt i o ho e he hb
  refine (B.iff_ i o ho k).2 ⟨e,he,hb,.inr ?_⟩
  rcases h with rfl | h
  ·exact h'
  have hi:=(List.getElem?_eq_some_iff.1 ho).1
  exact ih e.on hlt ⟨_,List.getElem?_eq_getElem (by omega)⟩ j k h h'
theorem xF:∀ (os:List Oper) (k h:Nat) (l:List Nat),ip os k = h :: l->∃ i o,os[i]? = some o/\bJ o = true/\h = k + i/\∀ j o',os[j]? = some o'->bJ o' = true->i <= j
 | [],_,_,_,e=>by simp [ip] at e
 | o :: os,k,h,l,e=>by
  simp only [ip] at e
  cases hb:bJ o with
  | true =>
   rw [hb] at e
   simp only [cond_true,List.cons.injEq] at e
   exact ⟨0,o,rfl,hb,by rw [<- e.1,Nat.add_zero],fun _ _ _ _=>Nat.zero_le _⟩
  | false =>
   rw [hb] at e
   obtain ⟨i,o',h1,h2,h3,h4⟩:=xF os (k + 1) h l e
   refine ⟨i + 1,o',by simpa using h1,h2,by omega,fun j oj hj hej=>?_⟩
   cases j with
   | zero=>simp at hj; subst hj; rw [hb] at hej; cases hej
   | succ j=>have:=h4 j oj (by simpa using hj) hej; omega
theorem Bn:∀ (os:List Oper) (k:Nat),ip os k = []->∀ (i:Nat) (o:Oper),os[i]? = some o->bJ o = false
 | [],_,_,i,o,ho=>by simp at ho
 | o1 :: os,k,e,i,o,ho=>by
  simp only [ip] at e
  cases hb:bJ o1 with
  | true=>rw [hb] at e; cases e
  | false =>
   rw [hb] at e
   cases i with
   | zero=>simp at ho; subst ho; exact hb
   | succ i=>exact Bn os (k + 1) e i o (by simpa using ho)
theorem mF (B:zF L M):∀ (os:List Oper) (k:Nat),(∀ i o,os[i]? = some o->∃ o',L[k + i]? = some o')->lk M (ip os k) = true->∀ i j oi oj,os[i]? = some oi->os[j]? = some oj->bJ oi = true->bJ oj = true->i < j->MB M (k + j) (k + i)
 | [],_,_,_,i,_,_,_,hi,_,_,_,_=>by simp at hi
 | o :: os,k,hL,h,i,j,oi,oj,hi,hj,hei,hej,hlt=>by
  have hL':∀ i o,os[i]? = some o->∃ o',L[k + 1 + i]? = some o':=fun i o ho=>by
   have:=hL (i + 1) o (by simpa using ho)
   rw [show k + (i + 1) = k + 1 + i by omega] at this
   exact this
  have htail:lk M (ip os (k + 1)) = true:=by
   simp only [ip] at h
   cases hb:bJ o with
   | false=>rw [hb] at h; exact h
   | true =>
    rw [hb] at h
    simp only [cond_true] at h
    cases hc:ip os (k + 1) with
    | nil=>rfl
    | cons a l =>
     rw [hc] at h
     simp only [lk,Bool.and_eq_true] at h
     exact h.2
  cases j with
  | zero=>omega
  | succ j =>
   have hj':os[j]? = some oj:=by simpa using hj
   cases i with
   | succ i =>
    have:=mF B os (k + 1) hL' htail i j oi oj (by simpa using hi) hj' hei hej (by omega)
    rw [show k + (j + 1) = k + 1 + j by omega,show k + (i + 1) = k + 1 + i by omega]
    exact this
   | zero =>
    simp at hi
    subst hi
    simp only [ip,hei,cond_true] at h
    cases hc:ip os (k + 1) with
    | nil=>have:=Bn os (k + 1) hc j oj hj'; rw [hej] at this; cases this
    | cons a l =>
     rw [hc] at h
     simp only [lk,Bool.and_eq_true] at h
     obtain ⟨i0,o0,g1,g2,g3,g4⟩:=xF os (k + 1) a l hc
     have hak:MB M a k:=by
      have h1:=h.1
      cases hm:M.get a with
      | none=>rw [hm] at h1; cases h1
      | some m=>rw [hm] at h1; exact ⟨m,hm,h1⟩
     have:=g4 j oj hj' hej
     simp only [Nat.add_zero]
     rcases Nat.lt_or_ge i0 j with hlt2 | hge
     ·have h2:=mF B os (k + 1) hL' htail i0 j o0 oj g1 hj' g2 hej hlt2
      rw [show k + (j + 1) = k + 1 + j by omega]
      refine B.trans _ (hL' j oj hj') _ _ h2 ?_
      rw [<- g3]
      exact hak
     have:i0 = j:=by omega
     subst this
     rw [show k + (i0 + 1) = k + 1 + i0 by omega,<- g3]
     exact hak
theorem rE:∀ (os:List Oper) (k i:Nat) (t:Tmp),(i,t) ∈ mB os k ↔ ∃ j o,i = k + j/\os[j]? = some o/\o.dst = some t
 | [],k,i,t=>by simp [mB]
 | o :: os,k,i,t=>by
  have ih:=rE os (k + 1) i t
  have key:(∃ j o',i = k + j/\(o :: os)[j]? = some o'/\o'.dst = some t) ↔ (i = k/\o.dst = some t) ∨ ∃ j o',i = k + 1 + j/\os[j]? = some o'/\o'.dst = some t:=by
   constructor
   ·rintro ⟨j,o',h1,h2,h3⟩
    cases j with
    | zero=>simp at h2; subst h2; exact .inl ⟨by omega,h3⟩
    | succ j=>exact .inr ⟨j,o',by omega,by simpa using h2,h3⟩
   rintro (⟨h1,h2⟩ | ⟨j,o',h1,h2,h3⟩)
   ·exact ⟨0,o,by omega,rfl,h2⟩
   exact ⟨j + 1,o',by omega,by simpa using h2,h3⟩
  rw [key,<- ih]
  simp only [mB]
  split
  ·next t' ht =>
   rw [List.mem_cons,Prod.mk.injEq,ht]
   constructor
   ·rintro (⟨h1,h2⟩ | h)
    ·exact .inl ⟨h1,by rw [h2]⟩
    exact .inr h
   rintro (⟨h1,h2⟩ | h)
   ·cases h2; exact .inl ⟨h1,rfl⟩
   exact .inr h
  next ht=>rw [ht]; simp
theorem qU (all:List Oper) (D:List (Nat × Tmp)):∀ (os:List Oper) (k:Nat),AH all M D os k = true->∀ i o,os[i]? = some o->Ij all M D (k + i) o = true
 | [],_,_,i,o,ho=>by simp at ho
 | o1 :: os,k,h,i,o,ho=>by
  simp only [AH,Bool.and_eq_true] at h
  cases i with
  | zero=>simp at ho; subst ho; exact h.1
  | succ i=>rw [show k + (i + 1) = k + 1 + i by omega]; exact qU all D os (k + 1) h.2 i o (by simpa using ho)

structure GM (L:List Oper) (M:Tr Nat):Prop where
 bits:zF L M
 chain:∀ (i j:Nat) (oi oj:Oper),L[i]? = some oi->L[j]? = some oj->bJ oi = true->bJ oj = true->i < j->MB M j i
 look:∀ (i j:Nat) (oi oj:Oper) (t:Tmp),L[i]? = some oi->L[j]? = some oj->oj.dst = some t->t ∈ kq L oi->MB M i j ∨ MB M j i
 one:∀ (i j:Nat) (oi oj:Oper) (t:Tmp),L[i]? = some oi->L[j]? = some oj->oi.dst = some t->oj.dst = some t->j = i
theorem pd (h:eW L = some M):GM L M:=by
 unfold eW at h
 split at h
 ·next M' hM =>
  obtain ⟨hc,h⟩:=aj h
  cases h
  simp only [Bool.and_eq_true] at hc
  have B:=Jx hM
  have ho:=qU (M:=M) L (mB L 0) L 0 hc.2
  refine ⟨B,fun i j oi oj hi hj hei hej hlt=>?_,fun i j oi oj t hi hj hd ht=>?_,fun i j oi oj t hi hj hdi hdj=>?_⟩
  ·have:=mF B L 0 (fun i o ho=>⟨o,by simpa using ho⟩) hc.1 i j oi oj hi hj hei hej hlt
   simpa using this
  ·have h1:=ho i oi hi
   simp only [Nat.zero_add,Ij] at h1
   split at h1
   ·next m hm =>
    rw [List.all_eq_true] at h1
    have h2:=h1 (j,t) ((rE L 0 j t).2 ⟨j,oj,by simp,hj,hd⟩)
    simp only [Bool.and_eq_true,Bool.or_eq_true,Bool.not_eq_true',List.contains_eq_mem,decide_eq_false_iff_not] at h2
    rcases h2.1 with (h2 | h2) | h2
    ·exact absurd ht h2
    ·exact .inl ⟨m,hm,h2⟩
    split at h2
    ·next m' hm'=>exact .inr ⟨m',hm',h2⟩
    cases h2
   cases h1
  have h1:=ho i oi hi
  simp only [Nat.zero_add,Ij] at h1
  split at h1
  ·next m hm =>
   rw [List.all_eq_true] at h1
   have h2:=h1 (j,t) ((rE L 0 j t).2 ⟨j,oj,by simp,hj,hdj⟩)
   simp only [Bool.and_eq_true,Bool.or_eq_true,Bool.not_eq_true',hdi,beq_self_eq_true,Bool.true_eq_false,false_or,beq_iff_eq] at h2
   exact h2.2
  cases h1
 cases h
end
end
end Go.Proofs.YtkdhppimhdemjaaGreat
