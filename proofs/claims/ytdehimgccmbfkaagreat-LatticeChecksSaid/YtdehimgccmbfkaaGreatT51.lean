/- Lemmas on the way: Jr3, Ly9, Ly10, Ly11, Ly12. -/
import Derived.Test.YtdehimgccmbfkaaGreatT50
set_option linter.all false
set_option maxRecDepth 1000000
set_option maxHeartbeats 32000000
namespace Go.Proofs.YtdehimgccmbfkaaGreat
open Go.RowKit
section
section
variable {P:Program} {X:Env} {E:Ev}
theorem wpO_run (hl:laidOutB P = true) (S:Sound P E)(hM:MethOk P X) {ops:Array Oper} {nt:Nat} {ro:Option Nat} {n:Nat} {Q:Exit->Act->World->Prop} {rest:List Nat} {gl:List (Option Tmp)} (hgl:ops.toList.map (·.dst) = gl) :
  ∀ (os:List Oper) (k:Nat) {μ:Mu} {s:St} {w:World} {a:Act} {T:Tr AV} {K:Tr AV->St->Prop},(∀ j o,os[j]? = some o->ops[k + j]? = some o)->wpO P X E nt gl os T s K->Rel μ s w->TR μ nt T a.tmps->(∀ o,s.nx <= o->μ o = none) ->
  (∀ T' s' μ' w' a',K T' s'->Rel μ' s' w'->Stp μ s w μ' s' w'->TR μ' nt T' a'.tmps->(∀ o,s'.nx <= o->μ' o = none)->a'.defers = a.defers->wpOpsIn (Fw ro) n P ops Q rest a' w')->wpOpsIn (Fw ro) n P ops Q (List.range' k os.length ++ rest) a w
 | [],k,μ,s,w,a,T,K,_,h,hR,hT,hF,hQ=>hQ T s μ w a h hR (Stp.refl μ s w) hT hF rfl
 | o :: os,k,μ,s,w,a,T,K,ho,h,hR,hT,hF,hQ=>by
  have ho0:ops[k]? = some o:=by simpa using ho 0 o rfl
  have ho1:∀ j o',os[j]? = some o'->ops[k + 1 + j]? = some o':=fun j o' h=>by
   have:=ho (j + 1) o' (by simpa using h)
   rwa [show k + (j + 1) = k + 1 + j by omega] at this
  simp only [List.length_cons,List.range'_succ,List.cons_append,wpOpsIn,ho0]
  simp only [wpO] at h
  split at h
  ·next hw =>
   rw [<- hgl,<- wantG_eq] at hw
   rw [if_pos (want_ok hT hw)]
   unfold opK at h
   split at h
   ·next v s1 hop =>
    obtain ⟨T1,hput,h2⟩:=putK_putV h
    refine op_ok hl S hM hR hT hop (fun o1 e1 e2=>hF o1 e1) ?_
    intro μ1 w1 v' r1 t1 hv
    refine wpO_run hl S hM hgl os (k + 1) ho1 h2 r1 (put_ok (hT.mono t1.sub) hv hput) (fun o1 e1=>?_) ?_
    ·cases hmu:μ1 o1 with
     | none=>rfl
     | some lc =>
      exfalso
      have hn:=t1.nx
      have:=t1.dom o1 (hF o1 (by omega)) (by rw [hmu]; simp)
      omega
    intro T' s' μ' w' a' hk r' t' tr' f' hdf
    exact hQ T' s' μ' w' a' hk r' (t1.trans t') tr' f' (by rw [hdf,put_defers])
   exact h.elim
  ·next hw =>
   rw [<- hgl,<- wantG_eq] at hw
   rw [if_neg (by rw [want_ok hT hw]; simp)]
   obtain ⟨T1,hput,h2⟩:=putK_putV h
   refine ⟨fun _ _=>trivial,?_⟩
   refine wpO_run hl S hM hgl os (k + 1) ho1 h2 hR (put_ok hT vr_undef hput) hF ?_
   intro T' s' μ' w' a' hk r' t' tr' f' hdf
   exact hQ T' s' μ' w' a' hk r' t' tr' f' (by rw [hdf,put_defers])
  exact h.elim
def nxB (i:Nat):Bool->Option Nat
 | true=>some (i + 1)
 | false=>none
theorem Jg.yld (M:Mc P X E)(hl:laidOutB P = true)(hM:MethOk P X) {G:Gs} {lb:Nat} {ψ0:Nat->Nat->Option Value} {sz0:Nat} {V:List (List AV)} (HY:YH G lb P V ψ0 sz0) {id:Nat} {ops:Array Oper} {k:Nat} {gl:List (Option Tmp)} {f:FuncId} {n:Nat} {T T1:Tr AV} {s s1:St} {T2:Bool->Tr AV} {s2:Bool->St} {fo:Operand} {args:Array Operand} {ts:Array TypeId} {dst:Tmp} {ty:TypeId} {pos:String} {aft:Array Edge} {i:Nat} {vals:List AV} {Q:Ex->Fr->St->Option Nat->Prop}
  (hgl:ops.toList.map (·.dst) = gl)(hk:ops.toList[k]? = some ⟨some dst,.call ⟨.value fo,args,ts⟩,ty,pos,aft,none⟩)(hd:dst < n)
  (h1:∀ K:Tr AV->St->Prop,K T1 s1->wpO P X E n gl (ops.toList.take k) T s K)
  (hf:opd T1 fo = some (.yl 0))(ha:args.toList.mapM (opd T1) = some vals)(hV:V[i]? = some vals)(hb:bares vals = true)(hn:noNat s1)
  (h2:∀ (b:Bool) (K:Tr AV->St->Prop),K (T2 b) (s2 b)->wpO P X E n gl (ops.toList.drop (k + 1)) (T1.set dst (some (.b b))) s1 K)
  (h3:∀ b,Q .normal ⟨f,n,T2 b,none,[]⟩ (s2 b) (nxB i b)):Jg G lb ψ0 sz0 P (.region id ops false) ⟨f,n,T,none,[]⟩ s (some i) Q:=by
 intro m μ w a ro R hA hI hR
 obtain ⟨kk,rfl,S,_⟩:=M.is
 have hlt:k < ops.size:=by
  have:=(List.getElem?_eq_some_iff.1 hk).1
  simpa using this
 have hk':ops[k]? = some ⟨some dst,.call ⟨.value fo,args,ts⟩,ty,pos,aft,none⟩:=by rw [<- hk]; simp
 have hop:∀ j,ops[j]? = ops.toList[j]?:=fun j=>by rw [Array.getElem?_toList]
 have hds:a.defers = []:=hA.dm
 refine wpIn_region ?_
 have hsplit:List.range ops.size = List.range' 0 (ops.toList.take k).length ++ (k :: List.range' (k + 1) (ops.toList.drop (k + 1)).length):=by
  rw [List.length_take,List.length_drop,List.range_eq_range',show min k ops.toList.length = k by simp; omega]
  have h:ops.size = k + (1 + (ops.toList.length - (k + 1))):=by simp; omega
  rw [h,<- List.range'_append_1,Nat.zero_add,Nat.add_comm 1,List.range'_succ]
 rw [hsplit]
 refine wpO_run hl S hM hgl (ops.toList.take k) 0 (fun j o h=>?_) (h1 (fun T' s'=>T1 = T'/\s1 = s') ⟨rfl,rfl⟩) hA.rel hA.tr hA.fresh ?_
 ·rw [Nat.zero_add,hop,<- h,List.getElem?_take]
  have:=(List.getElem?_eq_some_iff.1 h).1
  rw [List.length_take] at this
  rw [if_pos (by omega)]
 rintro _ _ μ1 w1 a1 ⟨rfl,rfl⟩ r1 t1 tr1 f1 hd1
 have hI1:=hI.step t1.fp r1
 simp only [wpOpsIn,hk']
 rw [if_pos (show Region.wanted ⟨some dst,.call ⟨.value fo,args,ts⟩,ty,pos,aft,none⟩ (yielded ops a1.tmps) = true from rfl)]
 refine ⟨fun _ _=>trivial,?_⟩
 rw [Oper.semAt_eq _ _ _ (fun c e=>by cases e)]
 have hfv:=opd_vr tr1 _ _ hf
 simp only [VR] at hfv
 obtain ⟨p,hmu,ef⟩:=hfv
 have hpl:p.blk = lb:=by
  obtain ⟨q,g1,g2⟩:=hI1.yl
  rw [hmu] at g1
  cases g1
  exact g2
 have hrun:(execOp a1.eval ⟨some dst,.call ⟨.value fo,args,ts⟩,ty,pos,aft,none⟩).run P w1 = (Instr.yield lb (args.toList.map a1.eval).toArray).run P w1:=by
  have e:#[] ++ args.map a1.eval = (args.toList.map a1.eval).toArray:=by
   apply Array.ext'
   simp
  simp only [execOp,resolve,ef,Deferred.ofValue,Sem.run_bind,Sem.run_pure,Result.andThen_ok,invoke]
  rw [e,hpl]
 rw [hrun]
 have hv:VRs μ1 vals (args.toList.map a1.eval):=mapM_vrs (opd_vr tr1) ha
 have hvb:VRs ⟨fun _=>none,μ1.fz⟩ vals (args.toList.map a1.eval):=bares_vr (μ:=μ1) (μ':=⟨fun _=>none,μ1.fz⟩) (fun _ _ _ h=>h) vals hb hv
 obtain ⟨fn,tmps,asn,body,hy,hround⟩:=HY (m - 1) i (ownB μ1 s1) (terB μ1 s1) w1 μ1.fz vals _ hV (fun b j v hv=>by
  obtain ⟨z1,z2,z3⟩:=r1.fz b j v hv
  exact ⟨z1,z2,.inr ⟨j,v,hv⟩,fun ⟨o,x,p,e1,e2,e3⟩=>z3 o x p e1 e2 e3⟩) hI1.fz0 (fun g hg=>ter_lt r1 hg) (fun g hg=>.inl hg) (fun g hg=>own_nodig r1 hg) hvb hI1.inv
 rw [hy,Oper.uponIn_round]
 refine ⟨fun h=>(by cases h),hround.mono ?_⟩
 rintro e W' ⟨i',hi',hinv,hkp⟩
 obtain ⟨b,rfl,rfl⟩:∃ b,e = .returned (.bool b)/\i' = nxB i b:=by
  rcases hi' with ⟨h1,h2⟩ | ⟨h1,h2⟩
  ·exact ⟨true,h1,h2⟩
  exact ⟨false,h1,h2⟩
 show wpOpsIn (Fw ro) m P ops R (List.range' (k + 1) (ops.toList.drop (k + 1)).length) (a1.put (some dst) (.bool b)) W'
 have r2:Rel μ1 s1 W':=r1.kp hn hkp
 have hI2:Its G lb ψ0 sz0 (nxB i b) μ1 s1 W':=⟨hI1.yl,hinv,hI1.fz0,hI1.own0,Nat.le_trans hI1.size hkp.amb.size⟩
 have hput:putV T1 n (some dst) (.b b) = some (T1.set dst (some (.b b))):=by
  simp only [putV]
  rw [show Nat.blt dst n = true from by rw [Nat.blt_eq]; exact hd]
  rfl
 have tr2:TR μ1 n (T1.set dst (some (.b b))) (a1.put (some dst) (.bool b)).tmps:=put_ok tr1 (by simp [VR]) hput
 rw [show List.range' (k + 1) (ops.toList.drop (k + 1)).length = List.range' (k + 1) (ops.toList.drop (k + 1)).length ++ [] from (List.append_nil _).symm]
 refine wpO_run hl S hM hgl (ops.toList.drop (k + 1)) (k + 1) (fun j o h=>?_) (h2 b (fun T' s'=>T2 b = T'/\s2 b = s') ⟨rfl,rfl⟩) r2 tr2 f1 ?_
 ·rw [hop,<- h,List.getElem?_drop]
 rintro _ _ μ3 w3 a3 ⟨rfl,rfl⟩ r3 t3 tr3 f3 hd3
 refine hR .normal _ _ _ μ3 w3 a3 (h3 b) ⟨r3,tr3,?_,hA.ro,f3⟩ (hI2.step t3.fp r3)
 show a3.defers = []
 rw [hd3,put_defers,hd1,hds]
theorem seqC_of {gf:FuncId} {fn:Func} {c:Code} {nt:Nat} (hfn:P.funcs[gf]? = some fn)(hn:fn.ntmps = nt)(hc:fn.body = some c)(hres:fn.results = #[]) {caps:List AV} (hb:bares caps = true)(hlen:caps.length + 1 <= nt) {V:List (List AV)}
  (H:∀ (G:Gs) (lb:Nat) (ψ0:Nat->Nat->Option Value) (sz0:Nat),YH G lb P V ψ0 sz0->Jg G lb ψ0 sz0 P c ⟨gf,nt,Tr.ofList (.yl 0 :: caps),none,[]⟩ ⟨.nil,1⟩ (some 0) (fun ex fr _ i=>(match ex with | .exit _=>False | _=>True)/\fr.ms = []/\(i = none ∨ i = some V.length))):SeqC P gf caps V:=by
 subst hn
 intro n ψ w cs lb G hψ hcs HY hinv
 refine callsIn_of_wp_marks (F:=Fence.wide) hfn hc trivial ?_ rfl
 obtain ⟨μ0,e0⟩:∃ μ0:Mu,μ0 = ⟨fun o=>if o = 0 then some (.at_ ⟨lb,0,0⟩) else none,ψ⟩:=⟨_,rfl⟩
 have m0:μ0 0 = some (.at_ ⟨lb,0,0⟩):=by subst e0; rfl
 have hargs:VRs μ0 (.yl 0 :: caps) (.func (.yield lb) #[] #[] :: cs):=by
  refine VRs.cons (by simp only [VR]; exact ⟨_,m0,rfl⟩) ?_
  exact bares_vr (μ:=⟨fun _=>none,ψ⟩) (μ':=μ0) (fun b i v h=>by subst e0; exact h) caps hb hcs
 have hvl:=hargs.length
 have hR0:Rel μ0 ⟨.nil,1⟩ w:=⟨⟨fun o x e=>(by cases e),fun o o' x x' p p' e=>(by cases e),fun o n A m c o' x' p' e=>(by cases e),fun o _=>rfl⟩,fun b i v hv=>by
  subst e0
  obtain ⟨h1,h2,_⟩:=hψ b i v hv
  exact ⟨h1,h2,fun o x p e=>(by cases e)⟩⟩
 obtain ⟨vs,hvs⟩:∃ vs:List Value,Value.func (.yield lb) #[] #[] :: cs = vs:=⟨_,rfl⟩
 have hva:#[Value.func (.yield lb) #[] #[]] ++ cs.toArray = vs.toArray:=by rw [<- hvs]; simp
 rw [hva]
 rw [hvs] at hargs hvl
 have hT0:TR μ0 fn.ntmps (Tr.ofList (.yl 0 :: caps)) (vs.toArray ++ Array.replicate (fn.ntmps - vs.toArray.size) undef):=by
  have hvl':vs.length = caps.length + 1:=by rw [<- hvl]; rfl
  refine ⟨by simp; omega,fun t x hx=>?_⟩
  rw [Tr.get_ofList] at hx
  obtain ⟨y,h1,h2⟩:=hargs.get hx
  refine ⟨y,?_,h2⟩
  have hlt:=(List.getElem?_eq_some_iff.1 h1).1
  rw [Array.getElem?_append]
  rw [if_pos (by simpa using hlt)]
  simpa using h1
 have no0:∀ g,¬ ownB μ0 ⟨.nil,1⟩ g:=fun g ⟨o,x,p,e,_⟩=>by cases e
 have hI0:Its G lb ψ w.heap.size (some 0) μ0 ⟨.nil,1⟩ w:=by
  refine ⟨⟨_,m0,rfl⟩,G.stable hinv (fun g h=>absurd h (no0 g)) (fun g h=>.inl ?_) (fun g h=>absurd h (no0 g)) (Amb.refl w) (fun _ _ _=>rfl),fun b j v hv=>.inl (by subst e0; exact hv),fun g h=>absurd h (no0 g),Nat.le_refl _⟩
  rcases h with h | ⟨i,v,hv⟩
  ·exact absurd h (no0 g)
  exact ⟨i,v,by subst e0; exact hv⟩
 refine H G lb ψ w.heap.size HY n μ0 w { tmps:=vs.toArray ++ Array.replicate (fn.ntmps - vs.toArray.size) undef,defers:=[] } none _ ⟨hR0,hT0,by simp [DM],rfl,fun o ho=>?_⟩ hI0 ?_
 ·have ho':1 <= o:=ho
  subst e0
  show (if o = 0 then _ else none) = none
  exact if_neg (by omega)
 intro ex fr s1 i1 μ1 w1 a1 hq hA1 hI1
 obtain ⟨hex,hms,hi⟩:=hq
 have post:LeavesInM Fence.wide n P fn a1.tmps (fun e w'=>(∃ v,e = .returned v)/\∃ i Z Y,(i = none ∨ i = some V.length)/\G.inv i Z Y w') a1.defers .returning w1:=by
  refine leaves_ok [] a1.defers s1 w1 hA1.rel (by rw [<- hms]; exact hA1.dm) rfl fun w2 r2 t2=>?_
  refine ⟨.tuple #[],?_,⟨_,rfl⟩,i1,_,_,hi,(hI1.step (t2.fp (bb:=1)) r2).inv⟩
  rw [results_eq,hres]
  simp
 cases ex with
 | normal=>exact post
 | ret=>exact post
 | exit id=>exact hex.elim
section
variable {G:Gs} {lb:Nat} {ψ0:Nat->Nat->Option Value} {sz0:Nat} {f:FuncId} {n:Nat} {T T':Tr AV} {s s':St} {i:Option Nat} {Q:Ex->Fr->St->Option Nat->Prop} {id:Nat} {ops:Array Oper}
theorem Jg.regQ (M:Mc P X E)(h1:∀ (K:Tr AV->St->Prop) (gl:List (Option Tmp)),ops.toList.map (·.dst) = gl->K T' s'->wpO P X E n gl ops.toList T s K)(h2:Q .normal ⟨f,n,T',none,[]⟩ s' i):Jg G lb ψ0 sz0 P (.region id ops false) ⟨f,n,T,none,[]⟩ s i Q :=
 Jg.lift (Q':=fun ex fr s1=>ex = .normal/\fr = ⟨f,n,T',none,[]⟩/\s1 = s') (Jd.regQ M h1 ⟨rfl,rfl,rfl⟩) (fun ex fr s ⟨h,k,l⟩=>by subst h; subst k; subst l; exact h2)
theorem Jg.regS (M:Mc P X E) {b:Code} (h1:∀ (K:Tr AV->St->Prop) (gl:List (Option Tmp)),ops.toList.map (·.dst) = gl->K T' s'->wpO P X E n gl ops.toList T s K)(h2:Jg G lb ψ0 sz0 P b ⟨f,n,T',none,[]⟩ s' i Q):Jg G lb ψ0 sz0 P (.seq (.region id ops false) b) ⟨f,n,T,none,[]⟩ s i Q :=
 Jg.seq (Jg.regQ M h1 h2)
theorem Jg.cnd {l:List (Nat × AV)} {a b:Code} {x:Operand} {t:Bool} (hx:getX l x = some (.b t))(h1:t = true->Jg G lb ψ0 sz0 P a ⟨f,n,Tr.of l,none,[]⟩ s i Q)(h2:t = false->Jg G lb ψ0 sz0 P b ⟨f,n,Tr.of l,none,[]⟩ s i Q):Jg G lb ψ0 sz0 P (.cond x a b) ⟨f,n,Tr.of l,none,[]⟩ s i Q :=
 Jg.cond ((opd_getX l x).trans hx) h1 h2
theorem mapM_two {T:Tr AV} {x y:Operand} {a b:AV} (h:opd T x = some a) (k:opd T y = some b):[x,y].mapM (opd T) = some [a,b]:=by simp [h,k]
theorem BlkG.out {fr:Fr} (h:Q .normal fr s i):BlkG id Q (.exit id) fr s i:=by simp only [BlkG,if_true]; exact h
end
end
end
def bwV (l:List AArc):List (List AV):=(List.range l.length).map fun j=>[.i .i64 ((l.length - 1 - j:Nat):Int),.agg ((l[l.length - 1 - j]?).elim [] aC)]
theorem bwV_len (l:List AArc):(bwV l).length = l.length:=by simp [bwV]
theorem bwV_at {l:List AArc} {k:Nat} {x:AArc} (hx:l[k]? = some x):(bwV l)[l.length - 1 - k]? = some [.i .i64 (k:Int),.agg (aC x)]:=by
 have hk:=(List.getElem?_eq_some_iff.1 hx).1
 unfold bwV
 rw [List.getElem?_map,List.getElem?_range (by omega)]
 simp only [Option.map_some]
 rw [show l.length - 1 - (l.length - 1 - k) = k by omega,hx]
 rfl
def bwC (l:List AArc):List AV:=[.vp [.vw (ar l) l.length] 0]
theorem seqBackward {l:List AArc} (ok:∀ x ∈ l,x.Ok)(hl:l.length <= 20000):SeqC Tryz.prog 192 (bwC l) (bwV l):=by
 obtain ⟨E,M⟩:∃ E,Mc Tryz.prog (envOf []) E:=⟨_,mc_of laidL mixedL (fun p hp=>by cases hp)⟩
 refine seqC_of Tryz.func192 Tryz.ntmps192 rfl rfl rfl (Nat.le_of_ble_eq_true rfl) ?_
 intro G lb ψ0 sz0 HY
 unfold bwC
 rw [ofList2,show (⟨.nil,1⟩:St) = St.of [] 1 from rfl]
 apply Jg.regS M; (· intro K gl hgl hK; simp only [glw] at hgl; subst hgl; simp (maxSteps:=1000000) (disch:=omega) only [↓evp,spw,Nat.reduceEqDiff,↓reduceIte,Nat.reduceLT,Nat.reduceAdd]; exact hK)
 refine Jg.loopB (fun k g s i=>k <= l.length/\i = some (l.length - k)/\g = ⟨192,19,Tr.of [(3,.i .i64 ((k:Int) - 1)),(1,.vp [.vw (ar l) l.length] 0),(0,.yl 0)],none,[]⟩/\s = St.of [] 1) l.length ?_ ?_
 ·exact ⟨_,_,(To.ofL (nx2:=1) [0] [(3,.i .i64 ((l.length:Int) - 1)),(1,.vp [.vw (ar l) l.length] 0),(0,.yl 0)] [] rfl (by decide) (by first | exact no_base | exact base_one) (by repeat' first | exact trivial | refine ⟨⟨_,rfl,by first | exact Wk.refl _ _ | exact Wk.bare rfl | exact Wk.zero _ | exact Wk.none _⟩,?_⟩) (trivial)),Nat.le_refl _,by rw [Nat.sub_self],rfl,rfl⟩
 rintro k _ _ _ ⟨hk,rfl,rfl,rfl⟩ Q' hex hret hgo
 refine Jg.seq ?_
 apply Jg.regS M; (· intro K gl hgl hK; simp only [glw] at hgl; subst hgl; simp (maxSteps:=1000000) (disch:=omega) only [↓evp,spw,Nat.reduceEqDiff,↓reduceIte,Nat.reduceLT,Nat.reduceAdd]; exact hK)
 refine Jg.cnd rfl (fun h1=>?_) (fun h1=>?_)
 rotate_left
 ·refine Jg.exit ?_
  refine hex _ _ _ ?_
  have hk0:k = 0:=by simp at h1; omega
  exact ⟨trivial,rfl,.inr (by rw [bwV_len,hk0]; rfl)⟩
 refine Jg.skip ?_
 show Jg _ _ _ _ _ _ _ _ _ _
 obtain ⟨j,rfl⟩:∃ j,k = j + 1:=⟨k - 1,by simp at h1; omega⟩
 obtain ⟨x,hx⟩:∃ x,l[j]? = some x:=⟨_,List.getElem?_eq_getElem (by omega)⟩
 have okx:=ok x (List.mem_of_getElem? hx)
 have hm:(((j + 1:Nat):Int) - 1).toNat = j:=by omega
 have hv:=bwV_at hx
 rw [show l.length - 1 - j = l.length - (j + 1) by omega] at hv
 refine Jg.seq (Jg.block (Jg.seq ?_))
 apply Jg.yld (k:=6) (dst:=17) M laidL (fun t m f via h=>by cases h) HY (hgl:=rfl) (hk:=rfl) (hd:=by decide) (hV:=hv)
 ·intro K hK
  simp (maxSteps:=1000000) (disch:=omega) only [↓evp,spw,Nat.reduceEqDiff,↓reduceIte,Nat.reduceLT,Nat.reduceAdd,hm,ar_get hx]
  exact hK
 ·exact (opd_getX _ _).trans rfl
 ·refine (mapM_two ((opd_getX _ _).trans rfl) ((opd_getX _ _).trans rfl)).trans ?_
  rw [show ((j + 1:Nat):Int) - 1 = j by omega]
 ·simp only [bares,bare,okx.bare]
  rfl
 ·intro o n h
  cases h
 ·intro b K hK
  simp (maxSteps:=1000000) (disch:=omega) only [↓evp,spw,Nat.reduceEqDiff,↓reduceIte,Nat.reduceLT,Nat.reduceAdd]
  exact hK
 intro b
 show Jg _ _ _ _ _ _ _ _ _ _
 refine Jg.cnd rfl (fun hb=>?_) (fun hb=>?_)
 ·have:b = false:=by simpa using hb
  subst this
  refine Jg.ret ?_
  exact hret _ _ _ ⟨trivial,rfl,.inl rfl⟩
 have:b = true:=by simpa using hb
 subst this
 refine Jg.skip ?_
 show Jg _ _ _ _ _ _ _ _ _ _
 apply Jg.regQ M; (· intro K gl hgl hK; simp only [glw] at hgl; subst hgl; simp (maxSteps:=1000000) (disch:=omega) only [↓evp,spw,Nat.reduceEqDiff,↓reduceIte,Nat.reduceLT,Nat.reduceAdd]; exact hK)
 refine hgo _ _ _ ⟨j,_,_,by omega,(To.ofL (nx2:=1) [0] [(3,.i .i64 ((j:Int) - 1)),(1,.vp [.vw (ar l) l.length] 0),(0,.yl 0)] [] rfl (by decide) (by first | exact no_base | exact base_one) (by repeat' first | exact trivial | refine ⟨⟨_,rfl,by first | exact Wk.i64 (by omega) | exact Wk.refl _ _ | exact Wk.bare rfl | exact Wk.zero _ | exact Wk.none _⟩,?_⟩) (trivial)),by omega,?_,rfl,rfl⟩
 show some (l.length - (j + 1) + 1) = _
 congr 1
 omega
def backV:List AV->Option AV
 | [.vw c n]=>cond (bares c) (some (.fn 192 [] [.vp [.vw c n] 0])) none
 | _=>none
theorem backV_eq {l:List AArc} (ok:∀ x ∈ l,x.Ok):backV [.vw (ar l) l.length] = some (.fn 192 [] (bwC l)):=by
 simp only [backV,ar_bares ok,cond_true]
 rfl
theorem ansBackward:Answers Tryz.prog 154 (pureA backV):=by
 obtain ⟨E,M⟩:∃ E,Mc Tryz.prog (envOf []) E:=⟨_,mc_of laidL mixedL (fun p hp=>by cases hp)⟩
 refine answers_pure (by kernel_rfl) Tryz.func154 Tryz.ntmps154 rfl ?_
 intro args v h
 unfold backV at h
 split at h
 ·next c n =>
  obtain ⟨hb,h⟩:=cond_some h
  cases h
  refine ⟨rfl,rfl,Nat.le_of_ble_eq_true rfl,?_⟩
  rw [ofList1,St.of_nil]
  apply Jd.regS M; (· intro K gl hgl hK; simp only [glw] at hgl; subst hgl; simp (maxSteps:=1000000) (disch:=omega) only [↓evp,spw,Nat.reduceEqDiff,↓reduceIte,Nat.reduceLT,Nat.reduceAdd]; exact hK)
  apply Jd.regS M; (· intro K gl hgl hK; simp only [glw] at hgl; subst hgl; simp (maxSteps:=1000000) (disch:=omega) only [↓evp,spw,Nat.reduceEqDiff,↓reduceIte,Nat.reduceLT,Nat.reduceAdd]; exact hK)
  refine Jd.freezeL (nx2:=0) 0 ([.vw c n]) [] [(2,.fn 192 [] [.vp [.vw c n] 0])] [] rfl ?_ rfl (by decide) (by repeat' first | exact trivial | refine ⟨⟨_,rfl,by first | exact Wk.fn1 Wk.frz_ptr | exact Wk.refl _ _ | exact Wk.bare rfl | exact Wk.zero _ | exact Wk.none _⟩,?_⟩) (trivial) ?_
  ·rfl
  exact Jd.ret (Done.one rfl rfl rfl)
 cases h
def onV:List AV->Option AV
 | [x]=>(latV x).bind fun p=>cond (decide (latE p.1 (arcsL p.2) = 0)) (some (.tup [.vw (bs (onB p.1.toNat (arcsL p.2))) (p.1.toNat + 1),.vw (bs (onE p.1.toNat (arcsL p.2))) (p.1.toNat + 1)])) none
 | _=>none
theorem bwV_inv {l:List AArc} {i:Nat} {args:List AV} (h:(bwV l)[i]? = some args):∃ k x,k + 1 + i = l.length/\l[k]? = some x/\args = [.i .i64 (k:Int),.agg (aC x)]:=by
 have hi:i < l.length:=by
  have:=(List.getElem?_eq_some_iff.1 h).1
  rwa [bwV_len] at this
 obtain ⟨x,hx⟩:∃ x,l[l.length - 1 - i]? = some x:=⟨_,List.getElem?_eq_getElem (by omega)⟩
 have:=bwV_at hx
 rw [show l.length - 1 - (l.length - 1 - i) = i by omega,h] at this
 exact ⟨_,x,by omega,hx,by simpa using this⟩
theorem ansOn:Answers Tryz.prog 100 (pureA onV):=by
 obtain ⟨E,M,c1⟩:∃ E,Mc Tryz.prog (envOf [(154,pureA backV)]) E/\(∀ a s,E.call 154 a s = pureA backV a s) :=
  ⟨_,mc_of laidL mixedL (by intro p hp; rcases List.mem_cons.1 hp with rfl | hp; exact ansBackward; cases hp),fun _ _=>rfl⟩
 refine answers_pure (by kernel_rfl) Tryz.func100 Tryz.ntmps100 rfl ?_
 intro args v h
 unfold onV at h
 split at h
 ·next x =>
  rw [Option.bind_eq_some_iff] at h
  obtain ⟨⟨T,l⟩,hx,h⟩:=h
  obtain ⟨hv,h⟩:=cond_some h
  have hv:=of_decide_eq_true hv
  cases h
  obtain ⟨hx,hb,ok⟩:=latV_some hx
  dsimp only at hv ⊢
  refine ⟨by simp only [bares,hb]; rfl,rfl,Nat.le_of_ble_eq_true rfl,?_⟩
  rw [ofList1,St.of_nil]
  refine Jd.toL [] [(0,latA T l)] [] rfl .nil ⟨⟨_,rfl,Wk.lat _ T hx⟩,trivial⟩ trivial ?_
  clear hx hb
  obtain ⟨hl,h0,h1,_⟩:=latE_ok hv
  rw [arcsL_len] at hl
  obtain ⟨n,rfl⟩:∃ n:Nat,T = n:=⟨T.toNat,by omega⟩
  rw [Int.toNat_natCast]
  unfold latA
  apply Jd.regS M; (· intro K gl hgl hK; simp only [glw] at hgl; subst hgl; simp (maxSteps:=1000000) (disch:=omega) only [↓evp,spw,Nat.reduceEqDiff,↓reduceIte,Nat.reduceLT,Nat.reduceAdd]; exact hK)
  apply Jd.drwS M [] (by kernel_rfl); (· intro K gl hgl hK; simp only [glw] at hgl; subst hgl; simp (maxSteps:=1000000) (disch:=omega) only [↓evp,spw,Nat.reduceEqDiff,↓reduceIte,Nat.reduceLT,Nat.reduceAdd, show ((n:Int) + 1).toNat = n + 1 by omega]; exact hK)
  have hz:(bs (List.replicate (n + 1) false)).length = n + 1:=by simp [bs_len]
  refine Jb.toL (nx2:=4) [0,1,2,3] [(5,.ptr 3 0),(4,.sl 1 0 (n + 1) (n + 1)),(3,.snil),(2,.snil),(1,.ptr 0 0)] [(3,some (.cells [.sl 2 0 (n + 1) (n + 1)] 152 false)),(2,some (.cells (bs (List.replicate (n + 1) false)) 4 false)),(1,some (.cells (bs (List.replicate (n + 1) false)) 4 false)),(0,some (.cells [.i .i64 n,.vw (ar l) l.length] 24 false))] rfl (by decide) (by first | exact no_base | exact base_one) (by repeat' first | exact trivial | refine ⟨⟨_,rfl,by first | exact WkO.zbs _ _ _ | exact Wk.refl _ _ | exact Wk.bare rfl | exact Wk.zero _ | exact Wk.none _⟩,?_⟩) (by repeat' first | exact trivial | refine ⟨⟨Nat.le_of_ble_eq_true rfl,_,_,rfl,rfl,by first | exact WkO.zbs _ _ _ | exact WkO.same rfl | exact WkO.same (fr_bare _) | exact WkO.same (bs_bare _) | exact WkO.same (is_bare _) | exact WkO.cells rfl⟩,?_⟩) ?_
  apply Jd.drwS M [] (by kernel_rfl); (· intro K gl hgl hK; simp only [glw] at hgl; subst hgl; simp (maxSteps:=1000000) (disch:=omega) only [↓evp,spw,Nat.reduceEqDiff,↓reduceIte,Nat.reduceLT,Nat.reduceAdd, Int.toNat_natCast]; exact hK)
  refine Jd.seq ?_
  apply Jd.regS M; (· intro K gl hgl hK; simp only [glw] at hgl; subst hgl; simp (maxSteps:=1000000) (disch:=omega) only [↓evp,spw,Nat.reduceEqDiff,↓reduceIte,Nat.reduceLT,Nat.reduceAdd]; exact hK)
  refine Jd.loopB (fun k g s=>∃ i:Nat,i + k = l.length/\g = ⟨100,71,Tr.of [(27,.i .i64 (i:Int)),(26,.i .i64 l.length),(25,.vw (ar l) l.length),(5,.ptr 3 0),(4,.sl 1 0 (n + 1) (n + 1)),(3,.snil),(2,.snil),(1,.ptr 0 0)],none,[]⟩/\s = St.of [(3,some (.cells [.sl 2 0 (n + 1) (n + 1)] 152 false)),(2,some (.cells (bs ((List.replicate (n + 1) false).set n true)) 4 false)),(1,some (.cells (bs (onB n (arcsL (l.take i)))) 4 false)),(0,some (.cells [.i .i64 n,.vw (ar l) l.length] 24 false))] 4) l.length ?_ ?_
  ·exact ⟨_,_,(To.ofL (nx2:=4) [0,1,2,3] [(27,.i .i64 ((0:Nat):Int)),(26,.i .i64 l.length),(25,.vw (ar l) l.length),(5,.ptr 3 0),(4,.sl 1 0 (n + 1) (n + 1)),(3,.snil),(2,.snil),(1,.ptr 0 0)] [(3,some (.cells [.sl 2 0 (n + 1) (n + 1)] 152 false)),(2,some (.cells (bs ((List.replicate (n + 1) false).set n true)) 4 false)),(1,some (.cells (bs (onB n (arcsL (l.take 0)))) 4 false)),(0,some (.cells [.i .i64 n,.vw (ar l) l.length] 24 false))] rfl (by decide) (by first | exact no_base | exact base_one) (by repeat' first | exact trivial | refine ⟨⟨_,rfl,by first | exact Wk.refl _ _ | exact Wk.bare rfl | exact Wk.zero _ | exact Wk.none _⟩,?_⟩) (by repeat' first | exact trivial | refine ⟨⟨Nat.le_of_ble_eq_true rfl,_,_,rfl,rfl,by first | exact WkO.same rfl | exact WkO.same (fr_bare _) | exact WkO.same (bs_bare _) | exact WkO.same (is_bare _) | exact WkO.cells rfl⟩,?_⟩)),0,by omega,rfl,rfl⟩
  rintro k _ _ ⟨i,hi,rfl,rfl⟩ Q' hex hret hgo
  apply Jd.regS M; (· intro K gl hgl hK; simp only [glw] at hgl; subst hgl; simp (maxSteps:=1000000) (disch:=omega) only [↓evp,spw,Nat.reduceEqDiff,↓reduceIte,Nat.reduceLT,Nat.reduceAdd]; exact hK)
  refine Jd.seq ?_
  refine Jd.cnd rfl (fun h1=>?_) (fun h1=>?_)
  rotate_left
  ·refine Jd.exitT (hex _ _ ?_)
   show Jb _ _ _ _ _ _
   have hn:i = l.length:=by simp at h1; omega
   subst hn
   rw [arcsL_all]
   clear hex hret hgo hi h1 hz
   obtain ⟨B,hB⟩:∃ B,onB n (arcsL l) = B:=⟨_,rfl⟩
   rw [hB,<- endN_all n l]
   have hbk:=pureA_eq (backV_eq ok)
   refine Jd.seq ?_
   apply Jd.regS M; (· intro K gl hgl hK; simp only [glw] at hgl; subst hgl; simp (maxSteps:=1000000) (disch:=omega) only [↓evp,spw,Nat.reduceEqDiff,↓reduceIte,Nat.reduceLT,Nat.reduceAdd,c1,hbk]; exact hK)
   refine Jd.block ?_
   refine Jb.toL (nx2:=4) [0,1,2,3] [(50,.fn 192 [] (bwC l)),(5,.ptr 3 0),(4,.sl 1 0 (n + 1) (n + 1)),(3,.snil),(2,.snil),(1,.ptr 0 0)] [(3,some (.cells [.sl 2 0 (n + 1) (n + 1)] 152 false)),(2,some (.cells (bs (endN n l l.length)) 4 false)),(1,some (.cells (bs B) 4 false)),(0,some (.cells [.i .i64 n,.vw (ar l) l.length] 24 false))] rfl (by decide) (by first | exact no_base | exact base_one) (by repeat' first | exact trivial | refine ⟨⟨_,rfl,by first | exact Wk.refl _ _ | exact Wk.bare rfl | exact Wk.zero _ | exact Wk.none _⟩,?_⟩) (by repeat' first | exact trivial | refine ⟨⟨Nat.le_of_ble_eq_true rfl,_,_,rfl,rfl,by first | exact WkO.same rfl | exact WkO.same (fr_bare _) | exact WkO.same (bs_bare _) | exact WkO.same (is_bare _) | exact WkO.cells rfl⟩,?_⟩) ?_
   refine Jd.rangeSeq (seqBackward ok hl) (callOk_of (by kernel_rfl)) (I:=fun i T s=>i <= l.length/\T = Tr.of [(50,.fn 192 [] (bwC l)),(5,.ptr 3 0),(4,.sl 1 0 (n + 1) (n + 1)),(3,.snil),(2,.snil),(1,.ptr 0 0)]/\s = St.of [(3,some (.cells [.sl 2 0 (n + 1) (n + 1)] 152 false)),(2,some (.cells (bs (endN n l (l.length - i))) 4 false)),(1,some (.cells (bs B) 4 false)),(0,some (.cells [.i .i64 n,.vw (ar l) l.length] 24 false))] 4) (L:=fun _ _ _=>False) ((opd_getX _ _).trans rfl) rfl ?_ ⟨Nat.zero_le _,rfl,rfl⟩ ?_ ?_
   ·intro i ex T s h
    cases i with
    | none=>cases ex <;> exact h.elim
    | some i =>
     cases ex with
     | normal=>obtain ⟨_,_,rfl⟩:=h; exact noNat_of rfl
     | ret=>exact h.elim
     | exit id=>exact h.elim
   ·rintro i args T s hV ⟨hi,rfl,rfl⟩
    obtain ⟨k,x,hk,hx,rfl⟩:=bwV_inv hV
    have okx:=ok x (List.mem_of_getElem? hx)
    have hfa:=fine_arc hv hx
    refine ⟨rfl,rfl,by simp only [bares,bare,okx.bare]; rfl,?_⟩
    obtain ⟨L,hL⟩:∃ L,endN n l (l.length - i) = L:=⟨_,rfl⟩
    have hLk:endN n l (k + 1) = L:=by rw [<- hL,show k + 1 = l.length - i by omega]
    have hlen:L.length = n + 1:=by rw [<- hLk]; exact endN_len _ _ _
    have hfl:(bs L).length = n + 1:=by rw [bs_len,hlen]
    rw [hL]
    obtain ⟨bt,gt⟩:∃ b,L[x.a.t.toNat]? = some b:=⟨_,List.getElem?_eq_getElem (by omega)⟩
    obtain ⟨bf,gf⟩:∃ b,L[x.a.f.toNat]? = some b:=⟨_,List.getElem?_eq_getElem (by omega)⟩
    have hstep:L.set x.a.f.toNat (bf || bt) = endN n l k:=by
     rw [endN_step hx,hLk]
     unfold onES
     rw [getD_get gt,getD_get gf]
    show Jb 5 Tryz.prog _ ⟨100,71,Tr.of [(52,.agg (aC x)),(51,.i .i64 k),(50,.fn 192 [] (bwC l)),(5,.ptr 3 0),(4,.sl 1 0 (n + 1) (n + 1)),(3,.snil),(2,.snil),(1,.ptr 0 0)],some 4,[]⟩ (St.of [(3,some (.cells [.sl 2 0 (n + 1) (n + 1)] 152 false)),(2,some (.cells (bs L) 4 false)),(1,some (.cells (bs B) 4 false)),(0,some (.cells [.i .i64 n,.vw (ar l) l.length] 24 false))] 5) _
    apply Jd.regQ M; (· intro K gl hgl hK; simp only [glw] at hgl; subst hgl; simp (maxSteps:=1000000) (disch:=omega) only [↓evp,spw,Nat.reduceEqDiff,↓reduceIte,Nat.reduceLT,Nat.reduceAdd,ac,okx.flat]; exact hK)
    refine ⟨rfl,noNat_of rfl,?_⟩
    refine Jd.block ?_
    cases bf
    all_goals
     simp only [Bool.true_or,Bool.false_or] at hstep
     apply Jd.drwQ M [(16,7),(16,13)] (by kernel_rfl); (· intro K gl hgl hK; simp only [glw] at hgl; subst hgl; simp (maxSteps:=1000000) (disch:=omega) only [↓evp,spw,Nat.reduceEqDiff,↓reduceIte,Nat.reduceLT,Nat.reduceAdd, ac,bs_get gt,bs_get gf,hstep]; exact hK)
     refine Blk_.norm ?_
     refine ⟨_,_,(To.ofL (nx2:=4) [0,1,2,3] [(50,.fn 192 [] (bwC l)),(5,.ptr 3 0),(4,.sl 1 0 (n + 1) (n + 1)),(3,.snil),(2,.snil),(1,.ptr 0 0)] [(3,some (.cells [.sl 2 0 (n + 1) (n + 1)] 152 false)),(2,some (.cells (bs (endN n l k)) 4 false)),(1,some (.cells (bs B) 4 false)),(0,some (.cells [.i .i64 n,.vw (ar l) l.length] 24 false))] rfl (by decide) (by first | exact no_base | exact base_one) (by repeat' first | exact trivial | refine ⟨⟨_,rfl,by first | exact Wk.refl _ _ | exact Wk.bare rfl | exact Wk.zero _ | exact Wk.none _⟩,?_⟩) (by repeat' first | exact trivial | refine ⟨⟨Nat.le_of_ble_eq_true rfl,_,_,rfl,rfl,by first | exact WkO.same rfl | exact WkO.same (fr_bare _) | exact WkO.same (bs_bare _) | exact WkO.same (is_bare _) | exact WkO.cells rfl⟩,?_⟩)),?_⟩
     refine ⟨by omega,rfl,?_⟩
     rw [show l.length - (i + 1) = k by omega]
   rintro i ex T s hi h
   rcases hi with rfl | rfl
   ·cases ex <;> exact h.elim
   cases ex with
   | ret=>exact h.elim
   | exit id=>exact h.elim
   | normal =>
    obtain ⟨_,rfl,rfl⟩:=h
    rw [bwV_len,Nat.sub_self,endN_zero]
    obtain ⟨F,hF⟩:∃ F,onE n (arcsL l) = F:=⟨_,rfl⟩
    rw [hF]
    refine Blk_.norm ?_
    show Jb _ _ _ ⟨_,_,_,none,[4]⟩ (St.of ((4,some .defs) :: _) 5) _
    apply Jd.drwS M [] (by kernel_rfl); (· intro K gl hgl hK; simp only [glw] at hgl; subst hgl; simp (maxSteps:=1000000) (disch:=omega) only [↓evp,spw,Nat.reduceEqDiff,↓reduceIte,Nat.reduceLT,Nat.reduceAdd]; exact hK)
    refine Jd.freezeM (nx2:=2) [4] 1 (bs B) [2,4] [(2,.vw (bs B) (n + 1)),(3,.sl 0 0 (n + 1) (n + 1))] [(1,some .defs),(0,some (.cells (bs F) 4 false))] [1] rfl (bs_bare B) rfl rfl (by decide) ⟨⟨_,rfl,Wk.frz_sl (off:=0) (Nat.le_refl _)⟩,⟨_,rfl,Wk.refl _ _⟩,trivial⟩ ⟨⟨Nat.le_of_ble_eq_true rfl,_,_,rfl,rfl,trivial⟩,⟨Nat.le_of_ble_eq_true rfl,_,_,rfl,rfl,WkO.same (bs_bare _)⟩,trivial⟩ ?_
    refine Jd.freezeM (nx2:=1) [1] 0 (bs F) [1] [(2,.vw (bs B) (n + 1)),(3,.vw (bs F) (n + 1))] [(0,some .defs)] [0] rfl (bs_bare F) rfl rfl (by decide) ⟨⟨_,rfl,Wk.refl _ _⟩,⟨_,rfl,Wk.frz_sl (off:=0) (Nat.le_refl _)⟩,trivial⟩ ⟨⟨Nat.le_of_ble_eq_true rfl,_,_,rfl,rfl,trivial⟩,trivial⟩ ?_
    exact Jd.ret (Done.twoM rfl rfl rfl rfl (by rw [<- hB,<- hF]))
  refine Jd.skipT ?_
  refine Jd.seq (Jd.block ?_)
  have hil:i < l.length:=by simp at h1; omega
  obtain ⟨x,hx⟩:∃ x,l[i]? = some x:=⟨_,List.getElem?_eq_getElem hil⟩
  have okx:=ok x (List.mem_of_getElem? hx)
  have hfa:=fine_arc hv hx
  have hsn:=arcsL_snoc hx
  obtain ⟨L,hL⟩:∃ L,onB n (arcsL (l.take i)) = L:=⟨_,rfl⟩
  have hlen:L.length = n + 1:=by rw [<- hL]; exact onB_length _ _
  have hfl:(bs L).length = n + 1:=by rw [bs_len,hlen]
  obtain ⟨bt,gt⟩:∃ b,L[x.a.t.toNat]? = some b:=⟨_,List.getElem?_eq_getElem (by omega)⟩
  obtain ⟨bf,gf⟩:∃ b,L[x.a.f.toNat]? = some b:=⟨_,List.getElem?_eq_getElem (by omega)⟩
  have hstep:L.set x.a.t.toNat (bt || bf) = onB n (arcsL (l.take (i + 1))):=by
   rw [hsn,onB_snoc,hL]
   unfold onBS
   rw [getD_get gt,getD_get gf]
  simp only [hL]
  apply Jd.regS M; (· intro K gl hgl hK; simp only [glw] at hgl; subst hgl; simp (maxSteps:=1000000) (disch:=omega) only [↓evp,spw,Nat.reduceEqDiff,↓reduceIte,Nat.reduceLT,Nat.reduceAdd,Int.toNat_natCast,ar_get hx,ac,okx.flat]; exact hK)
  cases bt
  all_goals
   simp only [Bool.true_or,Bool.false_or] at hstep
   apply Jd.drwQ M [(16,7),(16,13)] (by kernel_rfl); (· intro K gl hgl hK; simp only [glw] at hgl; subst hgl; simp (maxSteps:=1000000) (disch:=omega) only [↓evp,spw,Nat.reduceEqDiff,↓reduceIte,Nat.reduceLT,Nat.reduceAdd, ac,bs_get gt,bs_get gf,hstep]; exact hK)
   refine Blk_.norm ?_
   show Jb _ _ _ _ _ _
   apply Jd.regQ M; (· intro K gl hgl hK; simp only [glw] at hgl; subst hgl; simp (maxSteps:=1000000) (disch:=omega) only [↓evp,spw,Nat.reduceEqDiff,↓reduceIte,Nat.reduceLT,Nat.reduceAdd]; exact hK)
   exact hgo _ _ ⟨k - 1,_,_,by omega,(To.ofL (nx2:=4) [0,1,2,3] [(27,.i .i64 ((i + 1:Nat):Int)),(26,.i .i64 l.length),(25,.vw (ar l) l.length),(5,.ptr 3 0),(4,.sl 1 0 (n + 1) (n + 1)),(3,.snil),(2,.snil),(1,.ptr 0 0)] [(3,some (.cells [.sl 2 0 (n + 1) (n + 1)] 152 false)),(2,some (.cells (bs ((List.replicate (n + 1) false).set n true)) 4 false)),(1,some (.cells (bs (onB n (arcsL (l.take (i + 1))))) 4 false)),(0,some (.cells [.i .i64 n,.vw (ar l) l.length] 24 false))] rfl (by decide) (by first | exact no_base | exact base_one) (by repeat' first | exact trivial | refine ⟨⟨_,rfl,by first | exact Wk.refl _ _ | exact Wk.bare rfl | exact Wk.zero _ | exact Wk.none _⟩,?_⟩) (by repeat' first | exact trivial | refine ⟨⟨Nat.le_of_ble_eq_true rfl,_,_,rfl,rfl,by first | exact WkO.same rfl | exact WkO.same (fr_bare _) | exact WkO.same (bs_bare _) | exact WkO.same (is_bare _) | exact WkO.cells rfl⟩,?_⟩)),i + 1,by omega,rfl,rfl⟩
 cases h
def trimGV:List AV->Option AV
 | [x]=>(latV x).map fun p=>.tup [cond (decide (latE p.1 (arcsL p.2) = 0)) (latA p.1 (trimA p.1.toNat p.2)) (.agg [.i .i64 0,.snil]),.i .i64 (latE p.1 (arcsL p.2))]
 | _=>none
theorem ansTrim:Answers Tryz.prog 54 (pureA trimGV):=by
 obtain ⟨E,M,c1,c2,c3⟩:∃ E,Mc Tryz.prog (envOf [(43,pureA checkV),(100,pureA onV),(109,pureA copiedV)]) E/\(∀ a s,E.call 43 a s = pureA checkV a s)/\(∀ a s,E.call 100 a s = pureA onV a s)/\(∀ a s,E.call 109 a s = pureA copiedV a s) :=
  ⟨_,mc_of laidL mixedL (by simp only [List.forall_mem_cons]; exact ⟨ansCheck,ansOn,ansCopied,fun p hp=>by cases hp⟩),fun _ _=>rfl,fun _ _=>rfl,fun _ _=>rfl⟩
 refine answers_pure (by kernel_rfl) Tryz.func54 Tryz.ntmps54 rfl ?_
 intro args v h
 unfold trimGV at h
 split at h
 ·next x =>
  rw [Option.map_eq_some_iff] at h
  obtain ⟨⟨T,l⟩,hx,rfl⟩:=h
  obtain ⟨hx,hb,ok⟩:=latV_some hx
  dsimp only
  have okt:=trimA_ok (n:=T.toNat) ok
  refine ⟨by simp only [bares,hb]; rfl,by cases decide (latE T (arcsL l) = 0) <;> (first | rfl | (unfold latA; simp only [cond_true,bare,bares,ar_bares okt]; rfl)),Nat.le_of_ble_eq_true rfl,?_⟩
  rw [ofList1,St.of_nil]
  refine Jd.toL [] [(0,latA T l)] [] rfl .nil ⟨⟨_,rfl,Wk.lat _ T hx⟩,trivial⟩ trivial ?_
  clear hx hb
  have hck:∀ s,pureA checkV [.agg [.i .i64 T,.vw (ar l) l.length]] s = some (.i .i64 (latE T (arcsL l)),s):=pureA_eq (by show (latV (latA T l)).map _ = _; rw [latV_A ok]; rfl)
  have hon:latE T (arcsL l) = 0->∀ s,pureA onV [.agg [.i .i64 T,.vw (ar l) l.length]] s = some (.tup [.vw (bs (onB T.toNat (arcsL l))) (T.toNat + 1),.vw (bs (onE T.toNat (arcsL l))) (T.toNat + 1)],s):=fun h=>pureA_eq (by show (latV (latA T l)).bind _ = _; rw [latV_A ok]; simp only [Option.bind_some,h,decide_true,cond_true])
  unfold latA
  apply Jd.regS M; (· intro K gl hgl hK; simp only [glw] at hgl; subst hgl; simp (maxSteps:=1000000) (disch:=omega) only [↓evp,spw,Nat.reduceEqDiff,↓reduceIte,Nat.reduceLT,Nat.reduceAdd]; exact hK)
  refine Jd.seq ?_
  obtain ⟨e,he⟩:∃ e,latE T (arcsL l) = e:=⟨_,rfl⟩
  simp only [he] at hck hon ⊢
  apply Jd.regS M; (· intro K gl hgl hK; simp only [glw] at hgl; subst hgl; simp (maxSteps:=1000000) (disch:=omega) only [↓evp,spw,Nat.reduceEqDiff,↓reduceIte,Nat.reduceLT,Nat.reduceAdd,c1,hck]; exact hK)
  obtain ⟨b,hb⟩:∃ b,decide (e = 0) = b:=⟨_,rfl⟩
  cases b with
  | false =>
   apply Jd.regS M; (· intro K gl hgl hK; simp only [glw] at hgl; subst hgl; simp (maxSteps:=1000000) (disch:=omega) only [↓evp,spw,Nat.reduceEqDiff,↓reduceIte,Nat.reduceLT,Nat.reduceAdd,hb]; exact hK)
   refine Jd.cnd rfl (fun _=>?_) (fun h=>by cases h)
   apply Jd.regS M; (· intro K gl hgl hK; simp only [glw] at hgl; subst hgl; simp (maxSteps:=1000000) (disch:=omega) only [↓evp,spw,Nat.reduceEqDiff,↓reduceIte,Nat.reduceLT,Nat.reduceAdd]; exact hK)
   refine Jd.retT (Done.c2 rfl rfl (by simp only [↓evp,spw,Nat.reduceEqDiff,↓reduceIte,Nat.reduceLT,Nat.reduceAdd] <;> rfl) rfl ?_)
   rw [hb]
   rfl
  | true =>
  apply Jd.regS M; (· intro K gl hgl hK; simp only [glw] at hgl; subst hgl; simp (maxSteps:=1000000) (disch:=omega) only [↓evp,spw,Nat.reduceEqDiff,↓reduceIte,Nat.reduceLT,Nat.reduceAdd,hb]; exact hK)
  refine Jd.cnd rfl (fun h=>by cases h) (fun _=>?_)
  refine Jd.skipT ?_
  have e0:e = 0:=of_decide_eq_true hb
  subst e0
  rw [hb]
  have hv:=he
  have hon:=hon rfl
  clear he hck
  obtain ⟨hl,h0,h1,_⟩:=latE_ok hv
  rw [arcsL_len] at hl
  obtain ⟨n,rfl⟩:∃ n:Nat,T = n:=⟨T.toNat,by omega⟩
  rw [Int.toNat_natCast] at okt hon ⊢
  obtain ⟨B,hB⟩:∃ B,onB n (arcsL l) = B:=⟨_,rfl⟩
  obtain ⟨F,hF⟩:∃ F,onE n (arcsL l) = F:=⟨_,rfl⟩
  have hBl:B.length = n + 1:=by rw [<- hB]; exact onB_length _ _
  have hFl:F.length = n + 1:=by rw [<- hF]; exact onE_length _ _
  rw [hB,hF] at hon
  apply Jd.regS M; (· intro K gl hgl hK; simp only [glw] at hgl; subst hgl; simp (maxSteps:=1000000) (disch:=omega) only [↓evp,spw,Nat.reduceEqDiff,↓reduceIte,Nat.reduceLT,Nat.reduceAdd,c2,hon]; exact hK)
  apply Jd.regS M; (· intro K gl hgl hK; simp only [glw] at hgl; subst hgl; simp (maxSteps:=1000000) (disch:=omega) only [↓evp,spw,Nat.reduceEqDiff,↓reduceIte,Nat.reduceLT,Nat.reduceAdd]; exact hK)
  refine Jd.seq ?_
  apply Jd.regS M; (· intro K gl hgl hK; simp only [glw] at hgl; subst hgl; simp (maxSteps:=1000000) (disch:=omega) only [↓evp,spw,Nat.reduceEqDiff,↓reduceIte,Nat.reduceLT,Nat.reduceAdd]; exact hK)
  have hBn:(bs B).length = n + 1:=by rw [bs_len,hBl]
  have hFn:(bs F).length = n + 1:=by rw [bs_len,hFl]
  refine Jd.loopB (fun k g s=>∃ i:Nat,i + k = l.length/\g = ⟨54,52,Tr.of [(27,.i .i64 (i:Int)),(26,.i .i64 l.length),(25,.vw (ar l) l.length),(7,.ptr 2 0),(6,.vw (bs F) (n + 1)),(5,.vw (bs B) (n + 1)),(3,.i .i64 0),(2,.ptr 1 0),(1,.ptr 0 0)],none,[]⟩/\((keepA n l i = []/\s = St.of [(2,some (.cells [.i .i64 n,.snil] 24 false)),(1,some (.cells [.i .i64 0,.snil] 24 false)),(0,some (.cells [.i .i64 n,.vw (ar l) l.length] 24 false))] 3) ∨ s = St.of [(3,some (.cells (ar (keepA n l i)) 45 true)),(2,some (.cells [.i .i64 n,.sl 3 0 (keepA n l i).length (big + 7)] 24 false)),(1,some (.cells [.i .i64 0,.snil] 24 false)),(0,some (.cells [.i .i64 n,.vw (ar l) l.length] 24 false))] 4)) l.length ?_ ?_
  ·exact ⟨_,_,(To.ofL (nx2:=3) [0,1,2] [(27,.i .i64 ((0:Nat):Int)),(26,.i .i64 l.length),(25,.vw (ar l) l.length),(7,.ptr 2 0),(6,.vw (bs F) (n + 1)),(5,.vw (bs B) (n + 1)),(3,.i .i64 0),(2,.ptr 1 0),(1,.ptr 0 0)] [(2,some (.cells [.i .i64 n,.snil] 24 false)),(1,some (.cells [.i .i64 0,.snil] 24 false)),(0,some (.cells [.i .i64 n,.vw (ar l) l.length] 24 false))] rfl (by decide) (by first | exact no_base | exact base_one) (by repeat' first | exact trivial | refine ⟨⟨_,rfl,by first | exact Wk.refl _ _ | exact Wk.bare rfl | exact Wk.zero _ | exact Wk.none _⟩,?_⟩) (by repeat' first | exact trivial | refine ⟨⟨Nat.le_of_ble_eq_true rfl,_,_,rfl,rfl,by first | exact WkO.same rfl | exact WkO.same (fr_bare _) | exact WkO.same (bs_bare _) | exact WkO.same (is_bare _) | exact WkO.cells rfl⟩,?_⟩)),0,by omega,rfl,.inl ⟨rfl,rfl⟩⟩
  rintro k _ _ ⟨i,hi,rfl,hst⟩ Q' hex hret hgo
  rcases hst with ⟨hk0,rfl⟩ | rfl
  ·apply Jd.regS M; (· intro K gl hgl hK; simp only [glw] at hgl; subst hgl; simp (maxSteps:=1000000) (disch:=omega) only [↓evp,spw,Nat.reduceEqDiff,↓reduceIte,Nat.reduceLT,Nat.reduceAdd]; exact hK)
   refine Jd.seq ?_
   refine Jd.cnd rfl (fun h1=>?_) (fun h1=>?_)
   rotate_left
   ·refine Jd.exitT (hex _ _ ?_)
    show Jb _ _ _ _ _ _
    have hn:i = l.length:=by simp at h1; omega
    subst hn
    rw [keepA_all] at *
    apply Jd.regS M; (· intro K gl hgl hK; simp only [glw] at hgl; subst hgl; simp (maxSteps:=1000000) (disch:=omega) only [↓evp,spw,Nat.reduceEqDiff,↓reduceIte,Nat.reduceLT,Nat.reduceAdd]; exact hK)
    refine Jb.toL (nx2:=2) [0,1] [(3,.i .i64 0),(2,.ptr 1 0),(1,.ptr 0 0)] [(1,some (.cells [.i .i64 n,.vw [] 0] 24 false)),(0,some (.cells [.i .i64 n,.vw (ar l) l.length] 24 false))] rfl (by decide) (by first | exact no_base | exact base_one) (by repeat' first | exact trivial | refine ⟨⟨_,rfl,by first | exact ⟨rfl,rfl,.cons (Wk.refl _ _) (.cons (Wk.none _) .nil)⟩ | exact Wk.refl _ _ | exact Wk.bare rfl | exact Wk.zero _ | exact Wk.none _⟩,?_⟩) (by repeat' first | exact trivial | refine ⟨⟨Nat.le_of_ble_eq_true rfl,_,_,rfl,rfl,by first | exact ⟨rfl,rfl,.cons (Wk.refl _ _) (.cons (Wk.none _) .nil)⟩ | exact WkO.same rfl | exact WkO.same (fr_bare _) | exact WkO.same (bs_bare _) | exact WkO.same (is_bare _) | exact WkO.cells rfl⟩,?_⟩) ?_
    refine Jd.ret (Done.c2 rfl rfl (by simp only [↓evp,spw,Nat.reduceEqDiff,↓reduceIte,Nat.reduceLT,Nat.reduceAdd] <;> rfl) rfl ?_)
    rw [hk0]
    rfl
   refine Jd.skipT ?_
   have hil:i < l.length:=by simp at h1; omega
   obtain ⟨x,hx⟩:∃ x,l[i]? = some x:=⟨_,List.getElem?_eq_getElem hil⟩
   have okx:=ok x (List.mem_of_getElem? hx)
   have okc:=(cn_ok okx).flat
   have okx':bares (aC (cn x)) = true:=(cn_ok okx).bare
   have okk:bares (ar (keepA n l i)) = true:=ar_bares fun y hy=>by unfold keepA at hy; obtain ⟨z,hz,rfl⟩:=List.mem_map.1 hy; exact cn_ok (ok z (List.mem_of_mem_take (List.mem_filter.1 hz).1))
   have okb:bares (ar (keepA n l i ++ [cn x])) = true:=by rw [<- ar_app,bares_append,okx',okk]; rfl
   have hfa:=fine_arc hv hx
   have hcop:=pureA_eq (copiedV_eq okx)
   obtain ⟨bt,gt⟩:∃ b,F[x.a.t.toNat]? = some b:=⟨_,List.getElem?_eq_getElem (by omega)⟩
   obtain ⟨bf,gf⟩:∃ b,B[x.a.f.toNat]? = some b:=⟨_,List.getElem?_eq_getElem (by omega)⟩
   have hlv:leaveB n (arcsL l) x.a = (bf && bt):=by unfold leaveB; rw [hB,hF,getD_get gf,getD_get gt]
   refine Jd.seq (Jd.block ?_)
   apply Jd.regS M; (· intro K gl hgl hK; simp only [glw] at hgl; subst hgl; simp (maxSteps:=1000000) (disch:=omega) only [↓evp,spw,Nat.reduceEqDiff,↓reduceIte,Nat.reduceLT,Nat.reduceAdd,Int.toNat_natCast,ar_get hx,ac,okx.flat]; exact hK)
   cases bf with
   | false =>
    simp only [Bool.false_and] at hlv
    apply Jd.regS M; (· intro K gl hgl hK; simp only [glw] at hgl; subst hgl; simp (maxSteps:=1000000) (disch:=omega) only [↓evp,spw,Nat.reduceEqDiff,↓reduceIte,Nat.reduceLT,Nat.reduceAdd,ac,bs_get gf]; exact hK)
    refine Jd.cnd rfl (fun h=>by cases h) (fun _=>?_)
    refine Jd.skip ?_
    refine Blk_.norm ?_
    show Jb _ _ _ _ _ _
    apply Jd.regQ M; (· intro K gl hgl hK; simp only [glw] at hgl; subst hgl; simp (maxSteps:=1000000) (disch:=omega) only [↓evp,spw,Nat.reduceEqDiff,↓reduceIte,Nat.reduceLT,Nat.reduceAdd]; exact hK)
    refine hgo _ _ ⟨k - 1,_,_,by omega,(To.ofL (nx2:=3) [0,1,2] [(27,.i .i64 ((i + 1:Nat):Int)),(26,.i .i64 l.length),(25,.vw (ar l) l.length),(7,.ptr 2 0),(6,.vw (bs F) (n + 1)),(5,.vw (bs B) (n + 1)),(3,.i .i64 0),(2,.ptr 1 0),(1,.ptr 0 0)] [(2,some (.cells [.i .i64 n,.snil] 24 false)),(1,some (.cells [.i .i64 0,.snil] 24 false)),(0,some (.cells [.i .i64 n,.vw (ar l) l.length] 24 false))] rfl (by decide) (by first | exact no_base | exact base_one) (by repeat' first | exact trivial | refine ⟨⟨_,rfl,by first | exact Wk.refl _ _ | exact Wk.bare rfl | exact Wk.zero _ | exact Wk.none _⟩,?_⟩) (by repeat' first | exact trivial | refine ⟨⟨Nat.le_of_ble_eq_true rfl,_,_,rfl,rfl,by first | exact WkO.same rfl | exact WkO.same (fr_bare _) | exact WkO.same (bs_bare _) | exact WkO.same (is_bare _) | exact WkO.cells rfl⟩,?_⟩)),i + 1,by omega,rfl,.inl ⟨?_,rfl⟩⟩
    rw [keepA_no hx hlv,hk0]
   | true =>
   simp only [Bool.true_and] at hlv
   apply Jd.regS M; (· intro K gl hgl hK; simp only [glw] at hgl; subst hgl; simp (maxSteps:=1000000) (disch:=omega) only [↓evp,spw,Nat.reduceEqDiff,↓reduceIte,Nat.reduceLT,Nat.reduceAdd,ac,bs_get gf,bs_get gt]; exact hK)
   cases bt with
   | false =>
    refine Jd.cnd rfl (fun h=>by cases h) (fun _=>?_)
    refine Jd.skip ?_
    refine Blk_.norm ?_
    show Jb _ _ _ _ _ _
    apply Jd.regQ M; (· intro K gl hgl hK; simp only [glw] at hgl; subst hgl; simp (maxSteps:=1000000) (disch:=omega) only [↓evp,spw,Nat.reduceEqDiff,↓reduceIte,Nat.reduceLT,Nat.reduceAdd]; exact hK)
    refine hgo _ _ ⟨k - 1,_,_,by omega,(To.ofL (nx2:=3) [0,1,2] [(27,.i .i64 ((i + 1:Nat):Int)),(26,.i .i64 l.length),(25,.vw (ar l) l.length),(7,.ptr 2 0),(6,.vw (bs F) (n + 1)),(5,.vw (bs B) (n + 1)),(3,.i .i64 0),(2,.ptr 1 0),(1,.ptr 0 0)] [(2,some (.cells [.i .i64 n,.snil] 24 false)),(1,some (.cells [.i .i64 0,.snil] 24 false)),(0,some (.cells [.i .i64 n,.vw (ar l) l.length] 24 false))] rfl (by decide) (by first | exact no_base | exact base_one) (by repeat' first | exact trivial | refine ⟨⟨_,rfl,by first | exact Wk.refl _ _ | exact Wk.bare rfl | exact Wk.zero _ | exact Wk.none _⟩,?_⟩) (by repeat' first | exact trivial | refine ⟨⟨Nat.le_of_ble_eq_true rfl,_,_,rfl,rfl,by first | exact WkO.same rfl | exact WkO.same (fr_bare _) | exact WkO.same (bs_bare _) | exact WkO.same (is_bare _) | exact WkO.cells rfl⟩,?_⟩)),i + 1,by omega,rfl,.inl ⟨?_,rfl⟩⟩
    rw [keepA_no hx hlv,hk0]
   | true =>
   refine Jd.cnd rfl (fun _=>?_) (fun h=>by cases h)
   apply Jd.drwQ M [(7,1)] (by kernel_rfl); (· intro K gl hgl hK; simp only [glw] at hgl; subst hgl; simp (maxSteps:=1000000) (disch:=omega) only [↓evp,spw,Nat.reduceEqDiff,↓reduceIte,Nat.reduceLT,Nat.reduceAdd, ac,okc,c3,hcop]; exact hK)
   refine Blk_.norm ?_
   show Jb _ _ _ _ _ _
   apply Jd.regQ M; (· intro K gl hgl hK; simp only [glw] at hgl; subst hgl; simp (maxSteps:=1000000) (disch:=omega) only [↓evp,spw,Nat.reduceEqDiff,↓reduceIte,Nat.reduceLT,Nat.reduceAdd]; exact hK)
   refine hgo _ _ ⟨k - 1,_,_,by omega,(To.ofL (nx2:=4) [0,1,2,5] [(27,.i .i64 ((i + 1:Nat):Int)),(26,.i .i64 l.length),(25,.vw (ar l) l.length),(7,.ptr 2 0),(6,.vw (bs F) (n + 1)),(5,.vw (bs B) (n + 1)),(3,.i .i64 0),(2,.ptr 1 0),(1,.ptr 0 0)] [(3,some (.cells (aC (cn x)) 45 true)),(2,some (.cells [.i .i64 n,.sl 3 0 1 (big + 7)] 24 false)),(1,some (.cells [.i .i64 0,.snil] 24 false)),(0,some (.cells [.i .i64 n,.vw (ar l) l.length] 24 false))] rfl (by decide) (by first | exact no_base | exact base_one) (by repeat' first | exact trivial | refine ⟨⟨_,rfl,by first | exact WkO.same okx' | exact Wk.refl _ _ | exact Wk.bare rfl | exact Wk.zero _ | exact Wk.none _⟩,?_⟩) (by repeat' first | exact trivial | refine ⟨⟨Nat.le_of_ble_eq_true rfl,_,_,rfl,rfl,by first | exact WkO.same okx' | exact WkO.same rfl | exact WkO.same (fr_bare _) | exact WkO.same (bs_bare _) | exact WkO.same (is_bare _) | exact WkO.cells rfl⟩,?_⟩)),i + 1,by omega,rfl,.inr ?_⟩
   have e:keepA n l (i + 1) = [cn x]:=by rw [keepA_yes hx hlv,hk0,List.nil_append]
   rw [e,List.length_singleton,<- ar_one]
  apply Jd.regS M; (· intro K gl hgl hK; simp only [glw] at hgl; subst hgl; simp (maxSteps:=1000000) (disch:=omega) only [↓evp,spw,Nat.reduceEqDiff,↓reduceIte,Nat.reduceLT,Nat.reduceAdd]; exact hK)
  refine Jd.seq ?_
  refine Jd.cnd rfl (fun h1=>?_) (fun h1=>?_)
  rotate_left
  ·refine Jd.exitT (hex _ _ ?_)
   show Jb _ _ _ _ _ _
   have hn:i = l.length:=by simp at h1; omega
   subst hn
   rw [keepA_all] at *
   apply Jd.regS M; (· intro K gl hgl hK; simp only [glw] at hgl; subst hgl; simp (maxSteps:=1000000) (disch:=omega) only [↓evp,spw,Nat.reduceEqDiff,↓reduceIte,Nat.reduceLT,Nat.reduceAdd]; exact hK)
   have hbr:=ar_bares okt
   refine Jd.freezeL (nx2:=2) 3 (ar (trimA n l)) [0,1] [(3,.i .i64 0),(2,.ptr 1 0),(1,.ptr 0 0)] [(1,some (.cells [.i .i64 n,.vw (ar (trimA n l)) (trimA n l).length] 24 false)),(0,some (.cells [.i .i64 n,.vw (ar l) l.length] 24 false))] rfl ?_ rfl (by decide) (by repeat' first | exact trivial | refine ⟨⟨_,rfl,by first | exact ⟨rfl,rfl,.cons (Wk.refl _ _) (.cons (Wk.frz_sl (off:=0) (by have:=big_large; have:=trimA_len n l; omega)) .nil)⟩ | exact Wk.refl _ _ | exact Wk.bare rfl | exact Wk.zero _ | exact Wk.none _⟩,?_⟩) (by repeat' first | exact trivial | refine ⟨⟨Nat.le_of_ble_eq_true rfl,_,_,rfl,rfl,by first | exact ⟨rfl,rfl,.cons (Wk.refl _ _) (.cons (Wk.frz_sl (off:=0) (by have:=big_large; have:=trimA_len n l; omega)) .nil)⟩ | exact WkO.same rfl | exact WkO.same (fr_bare _) | exact WkO.same (bs_bare _) | exact WkO.same (is_bare _) | exact WkO.cells rfl⟩,?_⟩) ?_
   ·exact hbr
   exact Jd.ret (Done.c2 rfl rfl (by simp only [↓evp,spw,Nat.reduceEqDiff,↓reduceIte,Nat.reduceLT,Nat.reduceAdd] <;> rfl) rfl rfl)
  refine Jd.skipT ?_
  have hil:i < l.length:=by simp at h1; omega
  obtain ⟨x,hx⟩:∃ x,l[i]? = some x:=⟨_,List.getElem?_eq_getElem hil⟩
  have okx:=ok x (List.mem_of_getElem? hx)
  have okc:=(cn_ok okx).flat
  have okx':bares (aC (cn x)) = true:=(cn_ok okx).bare
  have okk:bares (ar (keepA n l i)) = true:=ar_bares fun y hy=>by unfold keepA at hy; obtain ⟨z,hz,rfl⟩:=List.mem_map.1 hy; exact cn_ok (ok z (List.mem_of_mem_take (List.mem_filter.1 hz).1))
  have okb:bares (ar (keepA n l i ++ [cn x])) = true:=by rw [<- ar_app,bares_append,okx',okk]; rfl
  have hfa:=fine_arc hv hx
  have hcop:=pureA_eq (copiedV_eq okx)
  obtain ⟨bt,gt⟩:∃ b,F[x.a.t.toNat]? = some b:=⟨_,List.getElem?_eq_getElem (by omega)⟩
  obtain ⟨bf,gf⟩:∃ b,B[x.a.f.toNat]? = some b:=⟨_,List.getElem?_eq_getElem (by omega)⟩
  have hlv:leaveB n (arcsL l) x.a = (bf && bt):=by unfold leaveB; rw [hB,hF,getD_get gf,getD_get gt]
  refine Jd.seq (Jd.block ?_)
  apply Jd.regS M; (· intro K gl hgl hK; simp only [glw] at hgl; subst hgl; simp (maxSteps:=1000000) (disch:=omega) only [↓evp,spw,Nat.reduceEqDiff,↓reduceIte,Nat.reduceLT,Nat.reduceAdd,Int.toNat_natCast,ar_get hx,ac,okx.flat]; exact hK)
  cases bf with
  | false =>
   simp only [Bool.false_and] at hlv
   apply Jd.regS M; (· intro K gl hgl hK; simp only [glw] at hgl; subst hgl; simp (maxSteps:=1000000) (disch:=omega) only [↓evp,spw,Nat.reduceEqDiff,↓reduceIte,Nat.reduceLT,Nat.reduceAdd,ac,bs_get gf]; exact hK)
   refine Jd.cnd rfl (fun h=>by cases h) (fun _=>?_)
   refine Jd.skip ?_
   refine Blk_.norm ?_
   show Jb _ _ _ _ _ _
   apply Jd.regQ M; (· intro K gl hgl hK; simp only [glw] at hgl; subst hgl; simp (maxSteps:=1000000) (disch:=omega) only [↓evp,spw,Nat.reduceEqDiff,↓reduceIte,Nat.reduceLT,Nat.reduceAdd]; exact hK)
   refine hgo _ _ ⟨k - 1,_,_,by omega,(To.ofL (nx2:=4) [0,1,2,3] [(27,.i .i64 ((i + 1:Nat):Int)),(26,.i .i64 l.length),(25,.vw (ar l) l.length),(7,.ptr 2 0),(6,.vw (bs F) (n + 1)),(5,.vw (bs B) (n + 1)),(3,.i .i64 0),(2,.ptr 1 0),(1,.ptr 0 0)] [(3,some (.cells (ar (keepA n l i)) 45 true)),(2,some (.cells [.i .i64 n,.sl 3 0 (keepA n l i).length (big + 7)] 24 false)),(1,some (.cells [.i .i64 0,.snil] 24 false)),(0,some (.cells [.i .i64 n,.vw (ar l) l.length] 24 false))] rfl (by decide) (by first | exact no_base | exact base_one) (by repeat' first | exact trivial | refine ⟨⟨_,rfl,by first | exact WkO.same okk | exact Wk.refl _ _ | exact Wk.bare rfl | exact Wk.zero _ | exact Wk.none _⟩,?_⟩) (by repeat' first | exact trivial | refine ⟨⟨Nat.le_of_ble_eq_true rfl,_,_,rfl,rfl,by first | exact WkO.same okk | exact WkO.same rfl | exact WkO.same (fr_bare _) | exact WkO.same (bs_bare _) | exact WkO.same (is_bare _) | exact WkO.cells rfl⟩,?_⟩)),i + 1,by omega,rfl,.inr ?_⟩
   rw [keepA_no hx hlv]
  | true =>
  simp only [Bool.true_and] at hlv
  apply Jd.regS M; (· intro K gl hgl hK; simp only [glw] at hgl; subst hgl; simp (maxSteps:=1000000) (disch:=omega) only [↓evp,spw,Nat.reduceEqDiff,↓reduceIte,Nat.reduceLT,Nat.reduceAdd,ac,bs_get gf,bs_get gt]; exact hK)
  cases bt with
  | false =>
   refine Jd.cnd rfl (fun h=>by cases h) (fun _=>?_)
   refine Jd.skip ?_
   refine Blk_.norm ?_
   show Jb _ _ _ _ _ _
   apply Jd.regQ M; (· intro K gl hgl hK; simp only [glw] at hgl; subst hgl; simp (maxSteps:=1000000) (disch:=omega) only [↓evp,spw,Nat.reduceEqDiff,↓reduceIte,Nat.reduceLT,Nat.reduceAdd]; exact hK)
   refine hgo _ _ ⟨k - 1,_,_,by omega,(To.ofL (nx2:=4) [0,1,2,3] [(27,.i .i64 ((i + 1:Nat):Int)),(26,.i .i64 l.length),(25,.vw (ar l) l.length),(7,.ptr 2 0),(6,.vw (bs F) (n + 1)),(5,.vw (bs B) (n + 1)),(3,.i .i64 0),(2,.ptr 1 0),(1,.ptr 0 0)] [(3,some (.cells (ar (keepA n l i)) 45 true)),(2,some (.cells [.i .i64 n,.sl 3 0 (keepA n l i).length (big + 7)] 24 false)),(1,some (.cells [.i .i64 0,.snil] 24 false)),(0,some (.cells [.i .i64 n,.vw (ar l) l.length] 24 false))] rfl (by decide) (by first | exact no_base | exact base_one) (by repeat' first | exact trivial | refine ⟨⟨_,rfl,by first | exact WkO.same okk | exact Wk.refl _ _ | exact Wk.bare rfl | exact Wk.zero _ | exact Wk.none _⟩,?_⟩) (by repeat' first | exact trivial | refine ⟨⟨Nat.le_of_ble_eq_true rfl,_,_,rfl,rfl,by first | exact WkO.same okk | exact WkO.same rfl | exact WkO.same (fr_bare _) | exact WkO.same (bs_bare _) | exact WkO.same (is_bare _) | exact WkO.cells rfl⟩,?_⟩)),i + 1,by omega,rfl,.inr ?_⟩
   rw [keepA_no hx hlv]
  | true =>
  refine Jd.cnd rfl (fun _=>?_) (fun h=>by cases h)
  have hkl:(ar (keepA n l i)).length = (keepA n l i).length * 7:=ar_len _
  have hki:=keepA_len n l i
  apply Jd.drwQ M [(7,1)] (by kernel_rfl); (· intro K gl hgl hK; simp only [glw] at hgl; subst hgl; simp (maxSteps:=1000000) (disch:=omega) only [↓evp,spw,Nat.reduceEqDiff,↓reduceIte,Nat.reduceLT,Nat.reduceAdd, ac,okc,c3,hcop,ar_app]; exact hK)
  refine Blk_.norm ?_
  show Jb _ _ _ _ _ _
  apply Jd.regQ M; (· intro K gl hgl hK; simp only [glw] at hgl; subst hgl; simp (maxSteps:=1000000) (disch:=omega) only [↓evp,spw,Nat.reduceEqDiff,↓reduceIte,Nat.reduceLT,Nat.reduceAdd]; exact hK)
  refine hgo _ _ ⟨k - 1,_,_,by omega,(To.ofL (nx2:=4) [0,1,2,6] [(27,.i .i64 ((i + 1:Nat):Int)),(26,.i .i64 l.length),(25,.vw (ar l) l.length),(7,.ptr 2 0),(6,.vw (bs F) (n + 1)),(5,.vw (bs B) (n + 1)),(3,.i .i64 0),(2,.ptr 1 0),(1,.ptr 0 0)] [(3,some (.cells (ar (keepA n l i ++ [cn x])) 45 true)),(2,some (.cells [.i .i64 n,.sl 3 0 ((keepA n l i).length + 1) (big + 7)] 24 false)),(1,some (.cells [.i .i64 0,.snil] 24 false)),(0,some (.cells [.i .i64 n,.vw (ar l) l.length] 24 false))] rfl (by decide) (by first | exact no_base | exact base_one) (by repeat' first | exact trivial | refine ⟨⟨_,rfl,by first | exact WkO.same okb | exact Wk.refl _ _ | exact Wk.bare rfl | exact Wk.zero _ | exact Wk.none _⟩,?_⟩) (by repeat' first | exact trivial | refine ⟨⟨Nat.le_of_ble_eq_true rfl,_,_,rfl,rfl,by first | exact WkO.same okb | exact WkO.same rfl | exact WkO.same (fr_bare _) | exact WkO.same (bs_bare _) | exact WkO.same (is_bare _) | exact WkO.cells rfl⟩,?_⟩)),i + 1,by omega,rfl,.inr ?_⟩
  rw [keepA_yes hx hlv,List.length_append,List.length_singleton]
 cases h
end Go.Proofs.YtdehimgccmbfkaaGreat
