/- Lemmas on the way: Ev14, Ev15. -/
import Derived.Test.YtdehimgccmbfkaaGreatT12
set_option linter.all false
set_option maxRecDepth 1000000
set_option maxHeartbeats 32000000
namespace Go.Proofs.YtdehimgccmbfkaaGreat
open Go.RowKit
section
section
variable {P:Program} {μ:Mu} {s:St} {w:World}

theorem arr_of {α:Type} {a:Array α} {l:List α} (h:a.toList = l):a = l.toArray:=by rw [<- h,Array.toArray_toList]

theorem op_ok {X:Env} {E:Ev} (hl:laidOutB P = true) (S:Sound P E)(hM:MethOk P X)(h:Rel μ s w) {T:Tr AV} {nt:Nat} {a:Act} (hT:TR μ nt T a.tmps) {ro:Option Nat} {n:Nat} {o:Oper} {K:Act->World->Prop} {Q:Exit->Act->World->Prop} {x:AV} {s':St}
  (hx:opA P X E (opd T) s o.op = some (x,s'))(hf:Fresh μ s s')(hK:∀ μ' w' v,Rel μ' s' w'->Stp μ s w μ' s' w'->VR μ' x v->K (a.put o.dst v) w'):o.wpIn (Fw ro) n P a w K Q:=by
 refine ⟨fun _ _=>trivial,?_⟩
 have hρ:=opd_vr hT
 have hnd:∀ c,o.op ≠ .defer c:=fun c e=>by rw [e] at hx; simp [opA,kindA,rdA] at hx
 rw [Oper.semAt_eq _ _ _ hnd]
 unfold opA at hx
 split at hx
 ·-- it leaves the memory
  simp only [Option.map_eq_some_iff,Prod.mk.injEq] at hx
  obtain ⟨v,hv,rfl,rfl⟩:=hx
  obtain ⟨v',h1,h2⟩:=rd_run hl h hρ o hv
  rw [h1]
  exact hK μ w v' h (Stp.refl _ _ _) h2
 ·-- an object more
  simp only [Option.map_eq_some_iff,Prod.mk.injEq] at hx
  obtain ⟨⟨ob,f⟩,hv,rfl,rfl⟩:=hx
  obtain ⟨O,tot,v,h1,h2,h3⟩:=al_run hρ o hv w
  rw [h1]
  have hn:=hf _ (Nat.le_refl _) (by simp [St.new])
  obtain ⟨g1,g2⟩:=h3 (μ.with s.nx (.at_ ⟨w.heap.size,0,tot⟩)) s.nx (Mu.sub_with _ hn) (Mu.with_same _ _ _)
  obtain ⟨r1,r2⟩:=h.new hn O ob ⟨w.heap.size,0,tot⟩ rfl (g2 _ (heap_new w O))
  exact hK _ _ _ r1 r2 g1
 -- an act
 next hk =>
 obtain ⟨dst,op,type,pos,after,guard⟩:=o
 simp only at hx hk hK ⊢
 cases op
 case store t y v=>exact upon_out (ef_store h hρ _ rfl hx) hK
 case mapUpdate t m k v=>exact upon_out (ef_mapUpdate hl h hρ _ rfl hx) hK
 case mapEntry t m k=>exact upon_out (ef_mapEntry hl h hρ _ rfl hx) hK
 case entryStore t m b v=>exact upon_out (ef_entryStore h hρ _ rfl hx) hK
 case range t y=>exact upon_out (ef_range h hρ _ rfl hx hf) hK
 case next it b=>exact upon_out (ef_next h hρ _ rfl hx) hK
 case call c =>
  obtain ⟨callee,args,argTypes⟩:=c
  cases callee with
  | builtin b =>
   cases b
   case append =>
    simp only [efA] at hx
    split at hx
    ·next t t' y z ht hm =>
     split at hx
     ·next e e' hu hu' =>
      have hv:=mapM_vrs hρ hm
      simp only [VRs] at hv
      obtain ⟨y',_,e1,hy,z',_,rfl,hz,rfl⟩:=hv
      obtain ⟨w',μ',v,r1,r2,r3,r4⟩:=append_run (ty:=type) h hu hu' hx hy hz hf
      refine upon_out (s':=s') ⟨w',μ',v,_,?_,.inl rfl,r2,r3,r4⟩ hK
      have ha:args.map a.eval = #[y',z']:=by rw [<- Array.toArray_toList (xs:=args.map a.eval),Array.toList_map,e1]
      simp [execOp,resolve,invoke,builtin,ha,arr_of ht,r1]
     cases hx
    cases hx
   case copy =>
    simp only [efA] at hx
    split at hx
    ·next t t' y z ht hm =>
     split at hx
     ·next e hu =>
      have hv:=mapM_vrs hρ hm
      simp only [VRs] at hv
      obtain ⟨y',_,e1,hy,z',_,rfl,hz,rfl⟩:=hv
      obtain ⟨w',v,r1,r2,r3,r4⟩:=copy_run (t':=t') (ty:=type) h hu hx hy hz
      refine upon_out (s':=s') ⟨w',μ,v,_,?_,.inl rfl,r2,r3,r4⟩ hK
      have ha:args.map a.eval = #[y',z']:=by rw [<- Array.toArray_toList (xs:=args.map a.eval),Array.toList_map,e1]
      simp [execOp,resolve,invoke,builtin,ha,arr_of ht,r1]
     cases hx
    cases hx
   all_goals (simp [efA] at hx; done)
  | value f =>
   simp only [efA] at hx
   split at hx
   ·next g fs cs asn hg hm =>
    have hv:=mapM_vrs hρ hm
    have hfv:=hρ _ _ hg
    simp only [VR] at hfv
    obtain ⟨fs',cs',ef,hfs,hcs⟩:=hfv
    have hco:=(S.call hx).1.1
    have hrun:(execOp a.eval ⟨dst,.call ⟨.value f,args,argTypes⟩,type,pos,after,guard⟩).run P w = .ok (.enter g ((fs' ++ args.toList.map a.eval ++ cs').toArray)) w:=by
     have:=hco ((fs' ++ args.toList.map a.eval ++ cs').toArray) w
     have e:fs'.toArray ++ args.map a.eval ++ cs'.toArray = (fs' ++ args.toList.map a.eval ++ cs').toArray:=by
      apply Array.ext'
      simp
     simp only [execOp,resolve,ef,Deferred.ofValue,Sem.run_bind,Sem.run_pure,Result.andThen_ok,invoke]
     rw [e,this]
    rw [hrun]
    exact upon_call S hx h ((hfs.append hv).append hcs) hf hK
   ·next l asn hg hm =>
    have hv:=mapM_vrs hρ hm
    have hfv:=hρ _ _ hg
    simp only [VR] at hfv
    obtain ⟨p,hmu,ef⟩:=hfv
    have hrun:(execOp a.eval ⟨dst,.call ⟨.value f,args,argTypes⟩,type,pos,after,guard⟩).run P w = (Instr.yield p.blk (args.toList.map a.eval).toArray).run P w:=by
     have e:#[] ++ args.map a.eval = (args.toList.map a.eval).toArray:=by
      apply Array.ext'
      simp
     simp only [execOp,resolve,ef,Deferred.ofValue,Sem.run_bind,Sem.run_pure,Result.andThen_ok,invoke]
     rw [e]
    rw [hrun]
    exact yield_ok S hmu hx h hv hf hK
   cases hx
  | invoke r m =>
   simp only [efA] at hx
   split at hx
   ·next t v asn hr hm =>
    have hv:=mapM_vrs hρ hm
    have hrv:=hρ _ _ hr
    simp only [VR] at hrv
    obtain ⟨y,er,hy⟩:=hrv
    have hrun:∀ (g:FuncId) (y2:Value),CallOk P g->(method (P.types.size + Made.depth) t y m).run P w = .ok (g,y2) w ->
      (execOp a.eval ⟨dst,.call ⟨.invoke r m,args,argTypes⟩,type,pos,after,guard⟩).run P w = .ok (.enter g ((y2 :: args.toList.map a.eval).toArray)) w:=by
     intro g y2 hco hme
     have e:#[y2] ++ (args.map a.eval) = (y2 :: args.toList.map a.eval).toArray:=by
      apply Array.ext'
      simp
     have e2:(#[Value.iface t y] ++ args.map a.eval).extract 1 (#[Value.iface t y] ++ args.map a.eval).size = args.map a.eval:=by
      apply Array.ext'
      simp
      exact List.take_of_length_le (by simp)
     have e3:(#[Value.iface t y] ++ args.map a.eval)[0]? = some (Value.iface t y):=by rw [Array.getElem?_append]; rfl
     simp only [execOp,resolve,er,Sem.run_bind,Sem.run_pure,Result.andThen_ok,invoke,e3,e2,callMethod,run_program,hme]
     rw [e,hco]
    split at hx
    ·next g hme =>
     have hco:=(S.call hx).1.1
     rw [hrun g y hco (hM t m g .same hme y w)]
     exact upon_call S hx h (VRs.cons hy hv) hf hK
    ·next g e hme =>
     split at hx
     ·next v2 hld =>
      have hco:=(S.call hx).1.1
      obtain ⟨y2,h1,h2⟩:=load_run h hld hy
      have hld':=hld
      unfold loadA at hld'
      split at hld'
      ·next o1 off =>
       simp only [VR] at hy
       obtain ⟨p,hmu,rfl⟩:=hy
       have:=hM t m g (.deref e) hme p.blk (p.base + off) w
       simp only [Instr.loadAt,Instr.sureAddr,Sem.run_bind,Sem.run_pure,Result.andThen_ok] at h1
       rw [h1] at this
       rw [hrun g y2 hco this]
       exact upon_call S hx h (VRs.cons h2 hv) hf hK
      ·next c off =>
       simp only [VR] at hy
       obtain ⟨b,base,cs,rfl,_⟩:=hy
       have:=hM t m g (.deref e) hme b (base + off) w
       simp only [Instr.loadAt,Instr.sureAddr,Sem.run_bind,Sem.run_pure,Result.andThen_ok] at h1
       rw [h1] at this
       rw [hrun g y2 hco this]
       exact upon_call S hx h (VRs.cons h2 hv) hf hK
      cases hld'
     cases hx
    cases hx
   cases hx
 all_goals (simp [kindA] at hk; done)

theorem want_ok {ops:Array Oper} {T:Tr AV} {nt:Nat} {tm:Array Value} (hT:TR μ nt T tm) {o:Oper} {b:Bool} (h:wantA ops.toList T o = some b):Region.wanted o (yielded ops tm) = b:=by
 unfold wantA at h
 unfold Region.wanted
 cases hg:o.guard with
 | none=>rw [hg] at h; simp only [Option.some.injEq] at h; exact h
 | some g =>
  obtain ⟨j,want⟩:=g
  rw [hg] at h
  simp only at h ⊢
  have e:ops.toList[j]? = ops[j]?:=by simp
  rw [e] at h
  cases hd:(ops[j]?).bind (·.dst) with
  | none=>rw [hd] at h; cases h
  | some t =>
   rw [hd] at h
   simp only at h
   unfold yielded
   rw [hd]
   simp only [Option.bind_some]
   split at h
   ·next x hx =>
    obtain ⟨y,h1,h2⟩:=hT.2 t _ hx
    simp only [VR] at h2
    subst h2
    rw [h1]
    simp only [Option.some.injEq] at h
    rw [<- h]
    simp
   ·next hx =>
    obtain ⟨y,h1,h2⟩:=hT.2 t _ hx
    simp only [VR,VRs] at h2
    obtain ⟨_,rfl,rfl⟩:=h2
    rw [h1]
    simp only [Option.some.injEq] at h
    rw [<- h]
    rfl
   cases h
theorem put_ok {T T':Tr AV} {nt:Nat} {a:Act} (hT:TR μ nt T a.tmps) {d:Option Tmp} {x:AV} {v:Value} (hv:VR μ x v)(h:putV T nt d x = some T'):TR μ nt T' (a.put d v).tmps:=by
 cases d with
 | none=>simp only [putV,Option.some.injEq] at h; subst h; exact hT
 | some d =>
  simp only [putV] at h
  obtain ⟨h1,h2⟩:=cond_some h
  cases h2
  rw [Nat.blt_eq] at h1
  exact hT.put h1 hv
theorem put_defers {a:Act} {d:Option Tmp} {v:Value}:(a.put d v).defers = a.defers:=by cases d <;> rfl
theorem vr_undef:VR μ (.tup []) undef:=by simp [VR,VRs,undef]

theorem ops_ok {X:Env} {E:Ev} (hl:laidOutB P = true) (S:Sound P E)(hM:MethOk P X)(hmono:∀ {ρ s o v s'},opA P X E ρ s o = some (v,s')->s.nx <= s'.nx) {ops:Array Oper} {nt:Nat} {ro:Option Nat} {n:Nat} {Q:Exit->Act->World->Prop}:∀ (os:List Oper) (k:Nat) {μ:Mu} {s:St} {w:World} {a:Act} {T T':Tr AV} {s':St},
  ops.toList.drop k = os->opsA P X E nt ops.toList os T s = some (T',s')->Rel μ s w->TR μ nt T a.tmps->Fresh μ s s' ->
  (∀ μ' w' a',Rel μ' s' w'->Stp μ s w μ' s' w'->TR μ' nt T' a'.tmps->a'.defers = a.defers->Q .normal a' w')->wpOpsIn (Fw ro) n P ops Q (List.range' k os.length) a w
 | [],k,μ,s,w,a,T,T',s',_,hx,h,hT,_,hQ=>by
  simp only [opsA,Option.some.injEq,Prod.mk.injEq] at hx
  obtain ⟨rfl,rfl⟩:=hx
  exact hQ μ w a h (Stp.refl _ _ _) hT rfl
 | o :: os,k,μ,s,w,a,T,T',s',hd,hx,h,hT,hf,hQ=>by
  have ho:ops[k]? = some o:=by
   have:=congrArg (·[0]?) hd
   simpa [List.getElem?_drop] using this
  have hd':ops.toList.drop (k + 1) = os:=by
   have:=congrArg (List.drop 1) hd
   simpa [List.drop_drop] using this
  simp only [List.length_cons,List.range'_succ,wpOpsIn,ho]
  simp only [opsA] at hx
  split at hx
  ·next hw =>
   rw [if_pos (want_ok hT hw)]
   split at hx
   ·next v s1 hop =>
    split at hx
    ·next T1 hput =>
     have m2:s1.nx <= s'.nx:=by
      have go:∀ (os:List Oper) (T T':Tr AV) (s s':St),opsA P X E nt ops.toList os T s = some (T',s')->s.nx <= s'.nx:=by
       intro os
       induction os with
       | nil=>intro T T' s s' h; simp only [opsA,Option.some.injEq,Prod.mk.injEq] at h; rw [h.2]; exact Nat.le_refl _
       | cons o os ih =>
        intro T T' s s' h
        simp only [opsA] at h
        split at h
        ·split at h
         ·next hop =>
          split at h
          ·exact Nat.le_trans (hmono hop) (ih _ _ _ _ h)
          cases h
         cases h
        ·split at h
         ·exact ih _ _ _ _ h
         cases h
        cases h
      exact go os _ _ _ _ hx
     refine op_ok hl S hM h hT hop (fun o1 e1 e2=>hf o1 e1 (by omega)) ?_
     intro μ1 w1 v' r1 t1 hv
     refine ops_ok hl S hM hmono os (k + 1) hd' hx r1 (put_ok (hT.mono t1.sub) hv hput) (fun o1 e1 e2=>?_) ?_
     ·cases hmu:μ1 o1 with
      | none=>rfl
      | some lc =>
       exfalso
       have hn:=t1.nx
       by_cases hmu0:μ o1 = none
       ·have:=t1.dom o1 hmu0 (by rw [hmu]; simp)
        omega
       exact hmu0 (hf o1 (by omega) e2)
     intro μ' w' a' r' t' tr' hdf
     exact hQ μ' w' a' r' (t1.trans t') tr' (by rw [hdf,put_defers])
    cases hx
   cases hx
  ·next hw =>
   rw [if_neg (by rw [want_ok hT hw]; simp)]
   split at hx
   ·next T1 hput =>
    refine ⟨fun _ _=>trivial,?_⟩
    refine ops_ok hl S hM hmono os (k + 1) hd' hx h (put_ok hT vr_undef hput) hf ?_
    intro μ' w' a' r' t' tr' hdf
    exact hQ μ' w' a' r' t' tr' (by rw [hdf,put_defers])
   cases hx
  cases hx
end
end
section
section
variable {P:Program}
def Grows (s s':St):Prop:=s.nx <= s'.nx/\(Wf s->Wf s')
theorem Grows.refl (s:St):Grows s s:=⟨Nat.le_refl _,id⟩
theorem Grows.trans {a b c:St} (h:Grows a b) (k:Grows b c):Grows a c:=⟨Nat.le_trans h.1 k.1,fun x=>k.2 (h.2 x)⟩
theorem Grows.new (s:St) (x:AO):Grows s (s.new x):=⟨by simp [St.new],fun h o ho=>by
 have h1:s.nx + 1 <= o:=ho
 simp only [St.new]
 rw [Tr.get_set_ne _ _ (by omega)]
 exact h o (by omega)⟩
theorem Grows.set {s:St} {k:Nat} {x0:AO} (x:AO)(h:s.h.get k = some x0):Grows s (s.set k x):=⟨Nat.le_refl _,fun hw o ho=>by
 simp only [St.set]
 rw [Tr.get_set_ne _ _ (fun e=>by subst e; rw [hw _ ho] at h; cases h)]
 exact hw o ho⟩
theorem Grows.drop (s:St) (k:Nat):Grows s (s.drop k):=⟨Nat.le_refl _,fun hw o ho=>by
 simp only [St.drop,Tr.get_set]
 split
 ·rfl
 exact hw o ho⟩
theorem storeA_grows {s s':St} {t:TypeId} {v a:AV} (h:storeA P s t v a = some s'):Grows s s':=by
 unfold storeA at h
 split at h
 ·split at h
  ·next ho =>
   split at h
   ·obtain ⟨_,h⟩:=cond_some h
    cases h
    exact Grows.set _ ho
   cases h
  cases h
 cases h
theorem mapPut_grows {s s':St} {kt:TypeId} {m k v:AV} (h:mapPut P s kt m k v = some s'):Grows s s':=by
 unfold mapPut at h
 split at h
 ·split at h
  ·next ho =>
   split at h
   ·split at h
    ·cases h; exact Grows.set _ ho
    cases h
   ·cases h; exact Grows.set _ ho
   cases h
  cases h
 cases h
theorem appendA_grows {s s':St} {e:TypeId} {x y r:AV} (h:appendA P s e x y = some (r,s')):Grows s s':=by
 unfold appendA at h
 split at h
 ·next i zv _ _ =>
  split at h
  ·next old new _ _ =>
   obtain ⟨_,h⟩:=cond_some h
   cases x with
   | snil =>
    simp only at h
    cases hb:Nat.beq new.length 0 <;> rw [hb] at h <;> cases h
    ·exact Grows.new _ _
    exact Grows.refl _
   | sl o off n cap =>
    simp only at h
    cases hb:Nat.blt cap big <;> rw [hb] at h
    ·simp only [cond_false] at h
     obtain ⟨_,h⟩:=cond_some h
     split at h
     ·next c e' op ho =>
      cases hb2:Nat.ble (off + n * i.size + new.length) c.length <;> rw [hb2] at h
      ·simp only [cond_false] at h
       obtain ⟨_,h⟩:=cond_some h
       cases h
       exact (Grows.drop s o).trans (Grows.new _ _)
      cases h; exact Grows.set _ ho
     cases h
    simp only [cond_true] at h
    cases hb2:Nat.ble (n + new.length / i.size) cap <;> rw [hb2] at h
    ·cases h; exact Grows.new _ _
    simp only [cond_true] at h
    split at h
    ·next ho=>obtain ⟨_,h⟩:=cond_some h; cases h; exact Grows.set _ ho
    cases h
   | _=>cases h
  cases h
 cases h
theorem copyA_grows {s s':St} {e:TypeId} {x y r:AV} (h:copyA P s e x y = some (r,s')):Grows s s':=by
 unfold copyA at h
 split at h
 ·split at h
  ·next ho _ =>
   split at h
   ·obtain ⟨_,h⟩:=cond_some h; cases h; exact Grows.set _ ho
   cases h
  cases h
 ·split at h
  ·next ho _=>obtain ⟨_,h⟩:=cond_some h; cases h; exact Grows.set _ ho
  cases h
 cases h
theorem yield_grows {E:Ev} (S:Sound P E) {l:Nat} {args:List AV} {s s':St} {x:AV} (h:enterYield E l args s = some (x,s')):Grows s s':=by
 unfold enterYield at h
 split at h
 ·obtain ⟨_,h⟩:=cond_some h
  split at h
  ·next h1 =>
   split at h
   ·next ho1 =>
    split at h
    ·next h2 =>
     have g:=(S.code h1).2.2.1
     have g2:Grows _ _:=(S.code h2).2.2.1
     have g3:=(Grows.trans g (Grows.set _ ho1)).trans g2
     split at h
     ·next ho2 =>
      split at h <;> (cases h; exact g3.trans (Grows.set _ ho2))
     cases h
    cases h
   cases h
  cases h
 cases h
theorem opA_grows {X:Env} {E:Ev} (S:Sound P E) {ρ:Operand->Option AV} {s s':St} {o:Op} {v:AV} (h:opA P X E ρ s o = some (v,s')):Grows s s':=by
 unfold opA at h
 split at h
 ·simp only [Option.map_eq_some_iff,Prod.mk.injEq] at h
  obtain ⟨_,_,_,rfl⟩:=h
  exact Grows.refl _
 ·simp only [Option.map_eq_some_iff,Prod.mk.injEq] at h
  obtain ⟨_,_,_,rfl⟩:=h
  exact Grows.new _ _
 next hk =>
 clear hk
 cases o
 case store t a v =>
  simp only [efA] at h
  split at h
  ·simp only [Option.map_eq_some_iff,Prod.mk.injEq] at h
   obtain ⟨s1,h1,_,rfl⟩:=h
   exact storeA_grows h1
  cases h
 case mapUpdate t m k v =>
  simp only [efA] at h
  split at h
  ·simp only [Option.map_eq_some_iff,Prod.mk.injEq] at h
   obtain ⟨s1,h1,_,rfl⟩:=h
   exact mapPut_grows h1
  cases h
 case mapEntry t m k =>
  simp only [efA] at h
  split at h
  ·split at h
   ·next ho =>
    split at h
    ·split at h
     ·cases h; exact Grows.set _ ho
     cases h
    ·split at h
     ·cases h; exact Grows.set _ ho
     cases h
    cases h
   cases h
  cases h
 case entryStore t m b v =>
  simp only [efA] at h
  split at h
  ·split at h
   ·next ho =>
    split at h
    ·split at h
     ·cases h; exact Grows.set _ ho
     cases h
    cases h
   cases h
  cases h
 case range t y =>
  simp only [efA] at h
  split at h
  ·cases h; exact Grows.new _ _
  ·split at h
   ·cases h; exact Grows.new _ _
   cases h
  cases h
 case next it b =>
  cases b
  case true=>simp [efA] at h
  simp only [efA] at h
  split at h
  ·split at h
   ·cases h; exact Grows.refl _
   ·next m since seen last ho =>
    split at h
    ·next es clock _ =>
     cases hb:(!seen.isEmpty && !es.isEmpty && es.all fun e=>Nat.ble last e.born) <;> rw [hb] at h
     ·simp only [cond_false] at h
      split at h
      ·cases h; exact Grows.refl _
      ·obtain ⟨_,h⟩:=cond_some h; cases h; exact Grows.set _ ho
      cases h
     cases h
    cases h
   cases h
  cases h
 case call c =>
  obtain ⟨callee,args,argTypes⟩:=c
  cases callee with
  | builtin b =>
   cases b
   case append =>
    simp only [efA] at h
    split at h
    ·split at h
     ·exact appendA_grows h
     cases h
    cases h
   case copy =>
    simp only [efA] at h
    split at h
    ·split at h
     ·exact copyA_grows h
     cases h
    cases h
   all_goals (simp [efA] at h; done)
  | value f =>
   simp only [efA] at h
   split at h
   ·exact (S.call h).1.2
   ·exact yield_grows S h
   cases h
  | invoke r m =>
   simp only [efA] at h
   split at h
   ·split at h
    ·exact (S.call h).1.2
    ·split at h
     ·exact (S.call h).1.2
     cases h
    cases h
   cases h
 all_goals (simp [efA] at h; done)

theorem mapM_congr {ρ ρ':Operand->Option AV}:∀ {l:List Operand},(∀ x ∈ l,ρ x = ρ' x)->l.mapM ρ = l.mapM ρ'
 | [],_=>rfl
 | x :: l,h=>by rw [List.mapM_cons,List.mapM_cons,h x (by simp),mapM_congr fun y hy=>h y (List.mem_cons_of_mem _ hy)]
theorem fillA_congr {ρ ρ':Operand->Option AV} {pl:Nat->Option (Nat × Nat)}:∀ {ps:List (Nat × Operand)} {c:List AV},(∀ x ∈ ps.map (·.2),ρ x = ρ' x)->fillA ρ pl c ps = fillA ρ' pl c ps
 | [],_,_=>rfl
 | p :: ps,c,h=>by
  simp only [fillA,h p.2 (by simp)]
  split
  ·congr 1
   exact fillA_congr fun x hx=>h x (by simp at hx ⊢; exact .inr hx)
  rfl
theorem alA_congr {ρ ρ':Operand->Option AV} {o:Op} (h:∀ x ∈ o.operands,ρ x = ρ' x):alA P ρ o = alA P ρ' o:=by
 cases o <;> simp only [Op.operands] at h <;> simp only [alA]
 case box t x=>rw [h x (by simp)]
 case buildSlice t n ps =>
  have e:=fun pl c=>fillA_congr (ρ:=ρ) (ρ':=ρ') (pl:=pl) (ps:=ps.toList) (c:=c) fun x hx=>h x (by simpa using hx)
  simp only [e]
 case makeMap t r =>
  cases r with
  | none=>rfl
  | some x=>simp only; rw [h x (by simp)]
 case makeSlice t l c=>rw [h l (by simp),h c (by simp)]
theorem opA_congr {X:Env} {E:Ev} {ρ ρ':Operand->Option AV} {s:St} {o:Op} (h:∀ x ∈ o.operands,ρ x = ρ' x):opA P X E ρ s o = opA P X E ρ' s o:=by
 unfold opA
 have hal:alA P ρ o = alA P ρ' o:=alA_congr h
 have hrd:rdA P ρ s o = rdA P ρ' s o:=by
  cases o <;> simp only [Op.operands] at h <;> simp only [rdA]
  case move x=>exact h x (by simp)
  case assign x=>exact h x (by simp)
  case pick c a b=>rw [h c (by simp),h a (by simp),h b (by simp)]
  case load t a=>rw [h a (by simp)]
  case nilCheck x=>rw [h x (by simp)]
  case binOp op t x y yt=>rw [h x (by simp),h y (by simp)]
  case unOp op t x=>rw [h x (by simp)]
  case convert a b x=>rw [h x (by simp)]
  case makeInterface t x=>rw [h x (by simp)]
  case makeFunc fn fs cs =>
   cases fn <;> simp only [rdA]
   rw [mapM_congr (ρ:=ρ) (ρ':=ρ') (l:=fs.toList) fun x hx=>h x (by simp at hx ⊢; exact .inl hx),mapM_congr (ρ:=ρ) (ρ':=ρ') (l:=cs.toList) fun x hx=>h x (by simp at hx ⊢; exact .inr hx)]
  case slice t x lo hi mx =>
   have e:∀ d (y:Option Operand),(∀ z,y = some z->ρ z = ρ' z)->bndO ρ d y = bndO ρ' d y:=fun d y hy=>by
    cases y with
    | none=>rfl
    | some z=>simp only [bndO]; rw [hy z rfl]
   rw [h x (by simp)]
   congr 2
   funext a
   unfold sliceA
   have e1:=fun d=>e d lo (fun z hz=>h z (by subst hz; simp))
   have e2:=fun d=>e d hi (fun z hz=>h z (by subst hz; simp))
   have e3:=fun d=>e d mx (fun z hz=>h z (by subst hz; simp))
   simp only [e1,e2,e3]
  case fieldAddr t x f=>rw [h x (by simp)]
  case field t x f=>rw [h x (by simp)]
  case indexAddr t x i=>rw [h x (by simp),h i (by simp)]
  case index t x i=>rw [h x (by simp),h i (by simp)]
  case lookup t x i ok=>rw [h x (by simp),h i (by simp)]
  case typeAssert x t u ok=>rw [h x (by simp)]
  case extract x k=>rw [h x (by simp)]
  case entry it=>rw [h it (by simp)]
  case build t ps =>
   have e:=fun pl c=>fillA_congr (ρ:=ρ) (ρ':=ρ') (pl:=pl) (ps:=ps.toList) (c:=c) fun x hx=>h x (by simpa using hx)
   simp only [e]
  case call c =>
   obtain ⟨callee,args,ats⟩:=c
   have ha:∀ x ∈ args.toList,ρ x = ρ' x:=fun x hx=>h x (by simp [Call.operands] at hx ⊢; exact .inr hx)
   cases callee with
   | builtin b =>
    cases b <;> simp only [rdA]
    case len =>
     split
     ·next t x _ e=>rw [ha x (by rw [e]; simp)]
     rfl
    case cap =>
     split
     ·next t x _ e=>rw [ha x (by rw [e]; simp)]
     rfl
    case min=>rw [mapM_congr ha]
    case max=>rw [mapM_congr ha]
   | _=>rfl
 have hef:efA P X E ρ s o = efA P X E ρ' s o:=by
  cases o <;> simp only [Op.operands] at h <;> simp only [efA]
  case store t a v=>rw [h a (by simp),h v (by simp)]
  case mapUpdate t m k v=>rw [h m (by simp),h k (by simp),h v (by simp)]
  case mapEntry t m k=>rw [h m (by simp),h k (by simp)]
  case entryStore t m b v=>rw [h m (by simp),h b (by simp),h v (by simp)]
  case range t x=>rw [h x (by simp)]
  case next it b=>cases b <;> simp only [efA]; rw [h it (by simp)]
  case call c =>
   obtain ⟨callee,args,ats⟩:=c
   have ha:∀ x ∈ args.toList,ρ x = ρ' x:=fun x hx=>h x (by simp [Call.operands] at hx ⊢; exact .inr hx)
   cases callee with
   | builtin b =>
    cases b <;> simp only [efA]
    case append=>rw [mapM_congr ha]
    case copy=>rw [mapM_congr ha]
   | value f=>simp only [efA]; rw [mapM_congr ha,h f (by simp [Call.operands])]
   | invoke r m=>simp only [efA]; rw [mapM_congr ha,h r (by simp [Call.operands])]
 rw [hal,hrd,hef]
theorem rdA_mem {ρ:Operand->Option AV} {s s':St} {o:Op} (h:looksIn o = false):rdA P ρ s o = rdA P ρ s' o:=by
 cases o <;> try rfl
 case makeFunc fn _ _=>cases fn <;> rfl
 case load=>simp [looksIn] at h
 case lookup=>simp [looksIn] at h
 case entry=>simp [looksIn] at h
 case call c =>
  obtain ⟨callee,args,ats⟩:=c
  cases callee with
  | builtin b=>cases b <;> first | rfl | (simp [looksIn] at h; done)
  | _=>rfl
mutual
theorem same_eq:∀ (x y:AV),same x y = true->x = y
 | .b x,y,h=>by cases y <;> simp [same] at h; rw [h]
 | .i k n,y,h=>by cases y <;> simp [same] at h; rw [h.1,h.2]
 | .ptr o f,y,h=>by cases y <;> simp [same] at h; rw [h.1,h.2]
 | .pnil,y,h=>by cases y <;> simp [same] at h; rfl
 | .sl o f n c,y,h=>by cases y <;> simp [same] at h; rw [h.1.1.1,h.1.1.2,h.1.2,h.2]
 | .snil,y,h=>by cases y <;> simp [same] at h; rfl
 | .nat o,y,h=>by cases y <;> simp [same] at h; rw [h]
 | .num n,y,h=>by cases y <;> simp [same] at h; rw [h]
 | .vw c n,y,h=>by
  cases y <;> simp [same] at h
  rw [sames_eq c _ h.1,h.2]
 | .vp c n,y,h=>by
  cases y <;> simp [same] at h
  rw [sames_eq c _ h.1,h.2]
 | .mp o,y,h=>by cases y <;> simp [same] at h; rw [h]
 | .mnil,y,h=>by cases y <;> simp [same] at h; rfl
 | .fn f a b,y,h=>by
  cases y <;> simp [same] at h
  rw [h.1.1,sames_eq a _ h.1.2,sames_eq b _ h.2]
 | .yl l,y,h=>by cases y <;> simp [same] at h; rw [h]
 | .fnil,y,h=>by cases y <;> simp [same] at h; rfl
 | .ifc t v,y,h=>by
  cases y <;> simp [same] at h
  rw [h.1,same_eq v _ h.2]
 | .inil,y,h=>by cases y <;> simp [same] at h; rfl
 | .agg l,y,h=>by
  cases y <;> simp [same] at h
  rw [sames_eq l _ h]
 | .tup l,y,h=>by
  cases y <;> simp [same] at h
  rw [sames_eq l _ h]
theorem sames_eq:∀ (l m:List AV),sames l m = true->l = m
 | [],m,h=>by cases m <;> simp [sames] at h; rfl
 | x :: l,m,h=>by
  cases m <;> simp [sames] at h
  rw [same_eq x _ h.1,sames_eq l _ h.2]
end
end
end
end Go.Proofs.YtdehimgccmbfkaaGreat
