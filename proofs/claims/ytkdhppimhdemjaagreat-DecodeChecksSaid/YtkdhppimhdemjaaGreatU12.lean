/- Lemmas on the way: Ev12, Ev13. -/
import Derived.Test.YtkdhppimhdemjaaGreatU11
import Derived.RangeFuncNested
import Derived.RangeFuncLeaves
set_option linter.all false
set_option maxRecDepth 1000000
set_option maxHeartbeats 32000000
namespace Go.Proofs.YtkdhppimhdemjaaGreat
open Go.RowKit
section
section
variable {P:Program} {μ:Mu} {s:St} {w:World}

theorem FT (h:bA μ s w) {t t' ty e:TypeId} (ht:P.underlying t = some (.slice e)) {x y r:AV} {x' y':Value} {s':St} (hx:pz P s e x y = some (r,s'))(hvx:VR μ x x')(hvy:VR μ y y') :
  ∃ w' v,(Builtin.copy_ #[t,t'] ty #[x',y']).run P w = .ok v w'/\bA μ s' w'/\dJ μ s w μ s' w'/\VR μ r v:=by
 unfold pz at hx
 split at hx
 ·next z o off n cap o' off' n' cap' hz =>
  split at hx
  ·next c t0 op c' t1 op1 ho ho' =>
   split at hx
   ·next l hl =>
    obtain ⟨hle,hx⟩:=aj hx
    rw [Nat.ble_eq] at hle
    cases hx
    have hr:cA s z (.sl o' off' (min n n') cap') = some l:=by simp only [cA,ho',hl]
    simp only [VR] at hvx hvy
    obtain ⟨p,c1,hm,rfl,_⟩:=hvx
    obtain ⟨p',c2,hm',rfl,k1,k2⟩:=hvy
    have hvy2:VR μ (.sl o' off' (min n n') cap') (.slice (some ⟨p'.blk,p'.base + off',none⟩) (min n n') c2):=by
     simp only [VR]
     exact ⟨p',c2,hm',rfl,k1,fun e=>by have:=k2 e; exact ⟨by omega,this.2⟩⟩
    obtain ⟨m,q1,q2,q3⟩:=iW h hr hvy2 (fun _ _ _ _ _=>.inr trivial)
    rcases q3 with ⟨e,_⟩ | ⟨o2,off2,n2,c3,c4,p2,e1,hlen,hm2,e2,hcell,_⟩ | ⟨_,_,_,_,e,_⟩
    ·cases e
    ·cases e1
     rw [hm'] at hm2
     cases hm2
     cases e2
     obtain ⟨r1,r2,r3⟩:=kV (P:=P) (off:=off) h ho hm q1 q2 hle
     refine ⟨_,.int .i64 (min n n':Nat),?_,r2,r3,by simp [VR]⟩
     have hf:=run_firstCells_some (P:=P) w z (min n n') ⟨p'.blk,p'.base + off',none⟩ n' c2 m (by rw [<- q1.length,hlen]) (fun j u hj=>by rw [fj]; exact hcell j u hj)
     have hmin:Nat.min n' n = min n n':=Nat.min_comm n' n
     simp [Builtin.copy_,run_underlying ht,Builtin.lenOf,bc hz,hmin,hf,r1,goInt]
    cases e
   cases hx
  cases hx
 ·next z o off n cap c' n' hz =>
  split at hx
  ·next c t0 op l ho hl =>
   obtain ⟨hle,hx⟩:=aj hx
   simp only [Bool.and_eq_true,Nat.ble_eq] at hle
   cases hx
   have hr:cA s z (.vw c' (min n n')) = some l:=by simp only [cA,hl,Option.bind_some,hle.2,cond_true]
   simp only [VR] at hvx hvy
   obtain ⟨p,c1,hm,rfl,_⟩:=hvx
   obtain ⟨cs,⟨A,cap',rfl,k1,k2,k3⟩,hcs⟩:=hvy
   have hvy2:VR μ (.vw c' (min n n')) (.slice A (min n n') cap'):=by
    simp only [VR]
    exact ⟨cs,⟨A,cap',rfl,by omega,k2,fun h=>k3 (by omega)⟩,hcs⟩
   obtain ⟨m,q1,q2,q3⟩:=iW h hr hvy2 (fun _ _ _ _ _=>.inr trivial)
   rcases q3 with ⟨e,_⟩ | ⟨_,_,_,_,_,_,e,_⟩ | ⟨c3,n3,cap3,A3,e1,hlen,e2,_,_,hA⟩
   ·cases e
   ·cases e
   cases e1
   cases e2
   obtain ⟨r1,r2,r3⟩:=kV (P:=P) (off:=off) h ho hm q1 q2 hle.1
   refine ⟨_,.int .i64 (min n n':Nat),?_,r2,r3,by simp [VR]⟩
   have hmin:Nat.min n' n = min n n':=Nat.min_comm n' n
   have hf:(Builtin.firstCells z (min n n') (.slice A n' cap')).run P w = .ok m.toArray w:=by
    rcases Nat.eq_zero_or_pos (min n n') with h0 | h0
    ·have:m = []:=List.eq_nil_of_length_eq_zero (by rw [<- q1.length,hlen,h0]; simp)
     subst this
     cases A with
     | none=>rw [h0]; exact run_firstCells_none w z n' cap' 0
     | some a=>exact run_firstCells_some (P:=P) w z (min n n') a n' cap' [] (by simp [h0]) (fun j u hj=>by simp at hj)
    obtain ⟨b,base,rfl,hcell,_⟩:=hA h0
    exact run_firstCells_some (P:=P) w z (min n n') ⟨b,base,none⟩ n' cap' m (by rw [<- q1.length,hlen]) (fun j u hj=>by rw [fj]; exact hcell j u hj)
   simp [Builtin.copy_,run_underlying ht,Builtin.lenOf,bc hz,hmin,hf,r1,goInt]
  cases hx
 cases hx

theorem zj {es:List AE} {l:List MapEntry} (h:gf μ es l) (b:Nat):l.findIdx? (fun e=>(e.born:Int) == (b:Int)) = es.findIdx? (fun e=>Nat.beq e.born b):=by
 induction es generalizing l with
 | nil=>simp only [gf] at h; subst h; rfl
 | cons x es ih =>
  obtain ⟨k,v,l',rfl,h1,h2,h3⟩:=h
  rw [List.findIdx?_cons,List.findIdx?_cons,ih h3]
  have:((x.born:Int) == (b:Int)) = Nat.beq x.born b:=by
   rw [Bool.eq_iff_iff]
   simp
   omega
  simp [this]

def Mh (P:Program) (μ:Mu) (s:St) (w:World) (x:AV) (s':St) (run:Result Next):Prop :=
 ∃ w' μ' v n,run = .ok n w'/\(n = .value v ∨ n = .skip/\v = undef)/\bA μ' s' w'/\dJ μ s w μ' s' w'/\VR μ' x v

theorem FL (h:bA μ s w) {ρ:Operand->Option AV} {ev:Operand->Value} (hρ:∀ x v,ρ x = some v->VR μ v (ev x)) (o:Oper) {t:TypeId} {a v:Operand} (ho:o.op = .store t a v) {X:dY} {E:Ev} {x:AV} {s':St} (hx:gy P X E ρ s o.op = some (x,s')):Mh P μ s w x s' ((execOp ev o).run P w):=by
 rw [ho] at hx
 simp only [gy] at hx
 split at hx
 ·next av vv ha hv =>
  simp only [Option.map_eq_some_iff,Prod.mk.injEq] at hx
  obtain ⟨s1,hs,rfl,rfl⟩:=hx
  obtain ⟨w',r1,r2,r3⟩:=Cn h hs (hρ _ _ ha) (hρ _ _ hv)
  exact ⟨w',μ,undef,.skip,by simp [execOp,ho,r1],.inr ⟨rfl,rfl⟩,r2,r3,by simp [VR,ao,undef]⟩
 cases hx
theorem u9 (hl:laidOutB P = true)(h:bA μ s w) {ρ:Operand->Option AV} {ev:Operand->Value} (hρ:∀ x v,ρ x = some v->VR μ v (ev x)) (o:Oper) {t:TypeId} {m k v:Operand} (ho:o.op = .mapUpdate t m k v) {X:dY} {E:Ev} {x:AV} {s':St} (hx:gy P X E ρ s o.op = some (x,s')):Mh P μ s w x s' ((execOp ev o).run P w):=by
 rw [ho] at hx
 simp only [gy] at hx
 split at hx
 ·next kt et mv kv vv hu hm hk hv =>
  simp only [Option.map_eq_some_iff,Prod.mk.injEq] at hx
  obtain ⟨s1,hs,rfl,rfl⟩:=hx
  obtain ⟨w',r1,r2,r3⟩:=y9 hl h hu hs (hρ _ _ hm) (hρ _ _ hk) (hρ _ _ hv)
  exact ⟨w',μ,undef,.skip,by simp [execOp,ho,r1],.inr ⟨rfl,rfl⟩,r2,r3,by simp [VR,ao,undef]⟩
 cases hx
theorem xG (hl:laidOutB P = true)(h:bA μ s w) {ρ:Operand->Option AV} {ev:Operand->Value} (hρ:∀ x v,ρ x = some v->VR μ v (ev x)) (o:Oper) {t:TypeId} {m k:Operand} (ho:o.op = .mapEntry t m k) {X:dY} {E:Ev} {x:AV} {s':St} (hx:gy P X E ρ s o.op = some (x,s')):Mh P μ s w x s' ((execOp ev o).run P w):=by
 rw [ho] at hx
 simp only [gy] at hx
 split at hx
 ·next kt et o1 kv hu hm hk =>
  split at hx
  ·next q es clock hq ho1 =>
   have hmv:=hρ _ _ hm
   simp only [VR] at hmv
   obtain ⟨p,hmo,em⟩:=hmv
   have hkv:=qh hq (hρ _ _ hk)
   have hqf:=lh hq
   have hob:=h.obj o1 _ ho1 (by rw [hmo]; simp)
   simp only [OR] at hob
   obtain ⟨p',l,h1,h2,h3⟩:=hob
   rw [hmo] at h1
   cases h1
   have hkr:VR μ kv (bG q):=hkv ▸ hρ _ _ hk
   split at hx
   ·next i hsp =>
    obtain ⟨c1,c2,_,hsome⟩:=eJ hl hqf hsp h3 w
    obtain ⟨e0,a0,g1,g2,g3,g4,g5,g6⟩:=hsome _ rfl
    rw [g2] at hx
    cases hx
    obtain ⟨r1,r2⟩:=dZ (x:=.map (es.set i ⟨kv,a0.val,a0.born⟩) clock) (O:=.map (l.set i ⟨bG q,e0.val,a0.born⟩).toArray clock) h ho1 hmo h2 (by simp) (fun w' hw=>by simp only [OR]; exact ⟨p,_,hmo,hw,h3.set hkr g5⟩)
    refine ⟨_,μ,.tuple #[e0.val,.int .i64 a0.born],_,?_,.inl rfl,r1,r2,by simp only [VR]; exact ⟨[e0.val,.int .i64 a0.born],rfl,ao.cons g5 (ao.cons (by simp [VR]) ao.nil_)⟩⟩
    simp only [execOp,ho]
    apply aF
    rw [em,hkv]
    simp only [Instr.mapEntry,Sem.run_bind,run_underlying hu w,Result.andThen_ok,cD h2 (by simp),c1,g6,List.getElem?_toArray,g1,Option.map_some,Option.getD_some,g3,c2]
    rw [mc l i _ e0 g1,gG h2 (by simp),<- g4]
    rfl
   ·next hsp =>
    obtain ⟨c1,c2,hnone,_⟩:=eJ hl hqf hsp h3 w
    have g6:=hnone rfl
    split at hx
    ·next z hz =>
     cases hx
     obtain ⟨zv,hz1,hz2⟩:=eV hz w
     obtain ⟨r1,r2⟩:=dZ (x:=.map (es ++ [⟨kv,z,clock⟩]) (clock + 1)) (O:=.map (l ++ [(⟨bG q,zv,clock⟩:MapEntry)]).toArray (clock + 1)) h ho1 hmo h2 (by simp) (fun w' hw=>by simp only [OR]; exact ⟨p,_,hmo,hw,h3.append hkr (hz2 μ) clock⟩)
     refine ⟨_,μ,.tuple #[zv,.int .i64 clock],_,?_,.inl rfl,r1,r2,by simp only [VR]; exact ⟨[zv,.int .i64 clock],rfl,ao.cons (hz2 μ) (ao.cons (by simp [VR]) ao.nil_)⟩⟩
     simp only [execOp,ho]
     apply aF
     rw [em,hkv]
     simp only [Instr.mapEntry,Sem.run_bind,run_underlying hu w,Result.andThen_ok,cD h2 (by simp),c1,g6,hz1]
     rw [gG h2 (by simp)]
     simp [goInt]
    cases hx
   cases hx
  cases hx
 cases hx
theorem sj (h:bA μ s w) {ρ:Operand->Option AV} {ev:Operand->Value} (hρ:∀ x v,ρ x = some v->VR μ v (ev x)) (o:Oper) {t:TypeId} {m b v:Operand} (ho:o.op = .entryStore t m b v) {X:dY} {E:Ev} {x:AV} {s':St} (hx:gy P X E ρ s o.op = some (x,s')):Mh P μ s w x s' ((execOp ev o).run P w):=by
 rw [ho] at hx
 simp only [gy] at hx
 split at hx
 ·next o1 bn vv hm hb hv =>
  rw [Option.bind_eq_some_iff] at hb
  obtain ⟨ba,hb1,hb2⟩:=hb
  have eb:=jA hb2 (hρ _ _ hb1)
  have hmv:=hρ _ _ hm
  simp only [VR] at hmv
  obtain ⟨p,hmo,em⟩:=hmv
  split at hx
  ·next es clock ho1 =>
   split at hx
   ·next i hi =>
    split at hx
    ·next a ha =>
     cases hx
     have hob:=h.obj o1 _ ho1 (by rw [hmo]; simp)
     simp only [OR] at hob
     obtain ⟨p',l,h1,h2,h3⟩:=hob
     rw [hmo] at h1
     cases h1
     obtain ⟨e0,f1,f2,f3,f4⟩:=h3.get ha
     obtain ⟨r1,r2⟩:=dZ (x:=.map (es.set i ⟨a.key,vv,a.born⟩) clock) (O:=.map (l.set i ⟨e0.key,ev v,a.born⟩).toArray clock) h ho1 hmo h2 (by simp) (fun w' hw=>by simp only [OR]; exact ⟨p,_,hmo,hw,h3.set f2 (hρ _ _ hv)⟩)
     refine ⟨_,μ,undef,.skip,?_,.inr ⟨rfl,rfl⟩,r1,r2,by simp [VR,ao,undef]⟩
     have hfi:l.toArray.findIdx? (fun e=>(e.born:Int) == (bn:Int)) = some i:=by
      rw [<- hi,<- zj h3 bn]
      simp
     simp only [execOp,ho,Instr.entryStore,Sem.run_bind,em,eb,asInt,asIntOf,Sem.run_pure,cD h2 (by simp),Result.andThen_ok,hfi]
     rw [mc l i _ e0 f1,gG h2 (by simp),<- f4]
     rfl
    cases hx
   cases hx
  cases hx
 cases hx
theorem FM (h:bA μ s w) {ρ:Operand->Option AV} {ev:Operand->Value} (hρ:∀ x v,ρ x = some v->VR μ v (ev x)) (o:Oper) {t:TypeId} {y:Operand} (ho:o.op = .range t y) {X:dY} {E:Ev} {x:AV} {s':St} (hx:gy P X E ρ s o.op = some (x,s'))
  (hfr:∀ o,s.nx <= o->o < s'.nx->μ o = none):Mh P μ s w x s' ((execOp ev o).run P w):=by
 rw [ho] at hx
 simp only [gy] at hx
 split at hx
 ·next kt et hu hy =>
  cases hx
  have hv:=hρ _ _ hy
  simp only [VR] at hv
  have hn:=hfr _ (Nat.le_refl _) (by simp [St.new])
  obtain ⟨r1,r2⟩:=h.new hn (.mapIter none 0 #[] 0) (.iter none 0 [] 0) ⟨w.heap.size,0,0⟩ rfl (by simp only [OR]; exact ⟨_,none,Mu.with_same _ _ _,rfl,fc w _,rfl⟩)
  refine ⟨_,_,.pointer (some ⟨w.heap.size,0,none⟩),_,?_,.inl rfl,r1,r2,by simp only [VR]; exact ⟨_,Mu.with_same _ _ _,rfl⟩⟩
  simp only [execOp,ho]
  exact aF (by simp [Instr.range,run_underlying hu,hv])
 ·next kt et ks vs hu hy =>
  cases hx
  have hv:=hρ _ _ hy
  simp only [VR] at hv
  obtain ⟨b,l,clock,l',em,g1,g2,g3,g4,g5,g6⟩:=hv
  have hb:=i4 (h.fz _ _ _ g1).2.1
  have hn:=hfr _ (Nat.le_refl _) (by simp [St.new])
  obtain ⟨r1,r2⟩:=h.new hn (.mapIter (some b) clock #[] clock) (.walk [] ks vs) ⟨w.heap.size,0,0⟩ rfl (by
   simp only [OR]
   exact ⟨_,b,l,clock,[],l',Mu.with_same _ _ _,rfl,fc w _,g1,g3,g4,by rw [show (l.filter fun e=>!([]:List Nat).contains e.born) = l from by rw [List.filter_eq_self]; intro e _; rfl]; exact g2,g5,g6,fun k v e=>by cases e⟩)
  refine ⟨_,_,.pointer (some ⟨w.heap.size,0,none⟩),_,?_,.inl rfl,r1,r2,by simp only [VR]; exact ⟨_,Mu.with_same _ _ _,rfl⟩⟩
  simp only [execOp,ho]
  exact aF (by simp [Instr.range,run_underlying hu,em,getObj,Sem.run,hb])
 ·next kt et o1 hu hy =>
  split at hx
  ·next es clock ho1 =>
   cases hx
   have hv:=hρ _ _ hy
   simp only [VR] at hv
   obtain ⟨p,hmo,em⟩:=hv
   have hob:=h.obj o1 _ ho1 (by rw [hmo]; simp)
   simp only [OR] at hob
   obtain ⟨p',l,h1,h2,h3⟩:=hob
   rw [hmo] at h1
   cases h1
   have hn:=hfr _ (Nat.le_refl _) (by simp [St.new])
   obtain ⟨r1,r2⟩:=h.new hn (.mapIter (some p.blk) clock #[] clock) (.iter (some o1) clock [] clock) ⟨w.heap.size,0,0⟩ rfl (by simp only [OR]; exact ⟨_,_,Mu.with_same _ _ _,rfl,fc w _,p,Mu.sub_with _ hn _ _ hmo,rfl⟩)
   refine ⟨_,_,.pointer (some ⟨w.heap.size,0,none⟩),_,?_,.inl rfl,r1,r2,by simp only [VR]; exact ⟨_,Mu.with_same _ _ _,rfl⟩⟩
   simp only [execOp,ho]
   exact aF (by simp [Instr.range,run_underlying hu,em,getObj,Sem.run,h2])
  cases hx
 cases hx
theorem CZ {es:List AE} {l:List MapEntry} (h:gf μ es l) (f:Nat->Bool):gf μ (es.filter fun e=>f e.born) (l.filter fun e=>f e.born):=by
 induction es generalizing l with
 | nil=>simp only [gf] at h; subst h; rfl
 | cons x es ih =>
  obtain ⟨k,v,l',rfl,h1,h2,h3⟩:=h
  simp only [List.filter_cons]
  split
  ·exact ⟨k,v,_,rfl,h1,h2,ih h3⟩
  exact ih h3
theorem L8 {es:List AE} {l:List MapEntry} (h:gf μ es l) (f:Nat->Bool):(l.all fun e=>f e.born) = (es.all fun e=>f e.born):=by
 induction es generalizing l with
 | nil=>simp only [gf] at h; subst h; rfl
 | cons x es ih =>
  obtain ⟨k,v,l',rfl,h1,h2,h3⟩:=h
  simp only [List.all_cons,ih h3]
theorem zc {es:List AE} {l:List MapEntry} (h:gf μ es l):l.isEmpty = es.isEmpty:=by
 cases es with
 | nil=>simp only [gf] at h; subst h; rfl
 | cons x es=>obtain ⟨k,v,l',rfl,_⟩:=h; rfl
theorem Jj (h:bA μ s w) {ρ:Operand->Option AV} {ev:Operand->Value} (hρ:∀ x v,ρ x = some v->VR μ v (ev x)) (o:Oper) {it:Operand} {b:Bool} (ho:o.op = .next it b) {X:dY} {E:Ev} {x:AV} {s':St} (hx:gy P X E ρ s o.op = some (x,s')):Mh P μ s w x s' ((execOp ev o).run P w):=by
 rw [ho] at hx
 cases b
 case true=>simp [gy] at hx
 simp only [gy] at hx
 split at hx
 ·next o1 hit =>
  have hv:=hρ _ _ hit
  simp only [VR] at hv
  obtain ⟨p,hmo,em⟩:=hv
  split at hx
  ·next ho1 =>
   cases hx
   have hob:=h.obj o1 _ ho1 (by rw [hmo]; simp)
   simp only [OR] at hob
   obtain ⟨p',m',h1,h0,h2,h3⟩:=hob
   rw [hmo] at h1
   cases h1
   subst h3
   refine ⟨w,μ,.tuple #[.bool false],_,?_,.inl rfl,h,dJ.refl _ _ _,by simp only [VR]; exact ⟨[.bool false],rfl,ao.cons (by simp [VR]) ao.nil_⟩⟩
   simp only [execOp,ho]
   exact aF (by simp [Instr.next,em,h0,getObj,Sem.run,h2])
  ·next cur ho1 =>
   cases hx
   have hob:=h.obj o1 _ ho1 (by rw [hmo]; simp)
   simp only [OR] at hob
   obtain ⟨p',b,l,c,sn,l',h1,h0,h2,h3,h4,h5,h6,h7,h8,h9⟩:=hob
   rw [hmo] at h1
   cases h1
   have hb:=i4 (h.fz _ _ _ h3).2.1
   have hnil:(l.filter fun e=>!sn.contains e.born) = []:=by
    have:=h7.length
    have e2:=h6.length_eq
    rw [List.length_nil,List.length_map] at this
    exact List.eq_nil_of_length_eq_zero (by omega)
   refine ⟨w,μ,.tuple #[.bool false],_,?_,.inl rfl,h,dJ.refl _ _ _,by simp only [VR]; exact ⟨[.bool false],rfl,ao.cons (by simp [VR]) ao.nil_⟩⟩
   simp only [execOp,ho]
   refine aF ?_
   have hLf:(l.toArray.filter fun e=>!sn.toArray.contains e.born) = #[]:=by
    have:(l.toArray.filter fun e=>!sn.toArray.contains e.born) = (l.filter fun e=>!sn.contains e.born).toArray:=by simp
    rw [this,hnil]
   have hnot:(!sn.toArray.isEmpty && !l.toArray.isEmpty && l.toArray.all fun e=>decide (e.born ≥ c)) = false:=by
    cases l with
    | nil=>simp
    | cons e l =>
     have:=h5 e List.mem_cons_self
     simp only [List.size_toArray,Array.all_eq_true,Bool.and_eq_false_imp]
     intro _
     rw [Bool.eq_false_iff]
     intro hall
     have:=Array.all_eq_true.1 hall 0 (by simp)
     simp at this
     omega
   simp only [Instr.next,em,h0,Nat.add_zero,Sem.run_bind,cD h2 (by simp),Result.andThen_ok,cD hb (by simp),hLf]
   rw [if_neg (by rw [hnot]; simp)]
   simp [Question.forced]
  ·next m since seen last ho1 =>
   split at hx
   ·next es clock hom =>
    have hob:=h.obj o1 _ ho1 (by rw [hmo]; simp)
    simp only [OR] at hob
    obtain ⟨p',m',h1,h0,h2,q,hmm,rfl⟩:=hob
    rw [hmo] at h1
    cases h1
    have hob2:=h.obj m _ hom (by rw [hmm]; simp)
    simp only [OR] at hob2
    obtain ⟨q',l,h4,h5,h6⟩:=hob2
    rw [hmm] at h4
    cases h4
    cases hcond:(!seen.isEmpty && !es.isEmpty && es.all fun e=>Nat.ble last e.born) with
    | true=>rw [hcond] at hx; cases hx
    | false =>
     rw [hcond] at hx
     simp only [cond_false] at hx
     have hc2:(!seen.toArray.isEmpty && !l.toArray.isEmpty && l.toArray.all fun e=>decide (e.born ≥ last)) = false:=by
      have e1:=L8 h6 (fun b=>Nat.ble last b)
      have e2:(l.all fun e=>decide (e.born ≥ last)) = (l.all fun e=>Nat.ble last e.born):=by
       congr 1; funext e; rw [Bool.eq_iff_iff]; simp
      rw [<- hcond,<- e1,<- zc h6]
      simp [e2]
     have hleft:=CZ h6 (fun b=>!seen.contains b)
     have hLf:(l.toArray.filter fun e=>!seen.toArray.contains e.born) = (l.filter fun e=>!seen.contains e.born).toArray:=by simp
     split at hx
     ·next hnil =>
      cases hx
      rw [hnil] at hleft
      simp only [gf] at hleft
      refine ⟨w,μ,.tuple #[.bool false],_,?_,.inl rfl,h,dJ.refl _ _ _,by simp only [VR]; exact ⟨[.bool false],rfl,ao.cons (by simp [VR]) ao.nil_⟩⟩
      simp only [execOp,ho]
      refine aF ?_
      simp only [Instr.next,em,h0,Nat.add_zero,Sem.run_bind,cD h2 (by simp),Result.andThen_ok,cD h5 (by simp),hLf,hleft]
      rw [if_neg (by rw [hc2]; simp)]
      simp [Question.forced]
     ·next a hone =>
      obtain ⟨hb,hx⟩:=aj hx
      cases hx
      rw [hone] at hleft
      obtain ⟨kk,vv,l',hl',f1,f2,f3⟩:=hleft
      simp only [gf] at f3
      subst f3
      rw [Nat.blt_eq] at hb
      obtain ⟨r1,r2⟩:=dZ (x:=.iter (some m) since (seen ++ [a.born]) clock) (O:=.mapIter (some q.blk) since (seen ++ [a.born]).toArray clock) h ho1 hmo h2 (by simp) (fun w' hw=>by simp only [OR]; exact ⟨p,_,hmo,h0,hw,q,hmm,rfl⟩)
      refine ⟨_,μ,.tuple #[.bool true,kk,vv],_,?_,.inl rfl,r1,r2,by simp only [VR]; exact ⟨[.bool true,kk,vv],rfl,ao.cons (by simp [VR]) (ao.cons f1 (ao.cons f2 ao.nil_))⟩⟩
      simp only [execOp,ho]
      refine aF ?_
      simp only [Instr.next,em,h0,Nat.add_zero,Sem.run_bind,cD h2 (by simp),Result.andThen_ok,cD h5 (by simp),hLf,hl']
      rw [if_neg (by rw [hc2]; simp)]
      have hn:¬ (since <= a.born):=by omega
      have e1:([⟨kk,vv,a.born⟩]:List MapEntry).toArray.filter (fun e=>decide (e.born < since)) = #[⟨kk,vv,a.born⟩]:=by simp [hb]
      have e2:([⟨kk,vv,a.born⟩]:List MapEntry).toArray.filter (fun e=>decide (e.born ≥ since)) = #[]:=by simp [hb]
      simp [Question.forced,hb,hn,setObj,Sem.run,h2]
     cases hx
   cases hx
  cases hx
 cases hx
end
end
section
def Fw (ro:Option Nat):Fence:={ Fence.wide with round:=ro }
def kI (P:Program) (f:FuncId):Prop:=∀ args w,(callFunc f args).run P w = .ok (.enter f args) w
def DM (μ:Mu):List Nat->List Deferred->Prop
 | [],ds=>ds = []
 | r :: ms,ds=>∃ p ds',μ r = some (.at_ p)/\ds = { target:=.collected p.blk,args:=#[] } :: ds'/\DM μ ms ds'
theorem DM.mono {μ μ':Mu} (hs:gY μ μ'):∀ {ms:List Nat} {ds:List Deferred},DM μ ms ds->DM μ' ms ds
 | [],_,h=>h
 | _ :: _,_,⟨p,ds',h1,h2,h3⟩=>⟨p,ds',hs _ _ h1,h2,DM.mono hs h3⟩
def Mg (μ:Mu):Option Nat->Option Nat->Prop
 | none,r=>r = none
 | some l,r=>∃ p,μ l = some (.at_ p)/\r = some p.blk
theorem Mg.mono {μ μ':Mu} (hs:gY μ μ') {x y:Option Nat} (h:Mg μ x y):Mg μ' x y:=by
 cases x with
 | none=>exact h
 | some l=>obtain ⟨p,h1,h2⟩:=h; exact ⟨p,hs _ _ h1,h2⟩
def mz:Ex->Exit
 | .normal=>.normal
 | .exit id=>.exit id
 | .ret=>.ret
def fD (μ:Mu) (s s':St):Prop:=∀ o,s.nx <= o->o < s'.nx->μ o = none

def Wf (s:St):Prop:=∀ o,s.nx <= o->s.h.get o = none
structure cX (P:Program) (E:Ev):Prop where
 call:∀ {f args s v s'},E.call f args s = some (v,s')->(kI P f/\s.nx <= s'.nx/\(Wf s->Wf s'))/\∀ {μ:Mu} {w:World} {vs:List Value} (n:Nat),bA μ s w->ao μ args vs->fD μ s s' ->
  CallsIn Fence.wide n P f vs.toArray w fun e w'=>∃ v' μ',e = .returned v'/\bA μ' s' w'/\dJ μ s w μ' s' w'/\VR μ' v v'
 code:∀ {c fr s ex fr' s'},E.code c fr s = some (ex,fr',s')->fr'.n = fr.n/\fr'.rd = fr.rd/\(s.nx <= s'.nx/\(Wf s->Wf s'))/\∀ {μ:Mu} {w:World} {a:Act} {ro:Option Nat} (n:Nat) {Q:Exit->Act->World->Prop},bA μ s w->TR μ fr.n fr.T a.tmps->DM μ fr.ms a.defers->Mg μ fr.rd ro->fD μ s s' ->
  (∀ μ' w' a',bA μ' s' w'->dJ μ s w μ' s' w'->TR μ' fr'.n fr'.T a'.tmps->DM μ' fr'.ms a'.defers->Q (mz ex) a' w')->c.wpIn (Fw ro) n P Q a w

def mI (P:Program) (X:dY):Prop:=∀ t m f via,X.meth t m = some (f,via)->match via with
 | .same=>∀ v w,(method (P.types.size + Made.depth) t v m).run P w = .ok (f,v) w
 | .deref e=>∀ b off w,(method (P.types.size + Made.depth) t (.pointer (some ⟨b,off,none⟩)) m).run P w = ((loadVar e ⟨b,off,none⟩).run P w).andThen fun v w'=>.ok (f,v) w'

section
variable {P:Program} {μ:Mu} {s:St} {w:World}

theorem ko {T:Tr AV} {n:Nat} {a:Act} (hT:TR μ n T a.tmps):∀ x v,fZ T x = some v->VR μ v (a.eval x):=by
 intro x v h
 cases x with
 | tmp t =>
  obtain ⟨y,h1,h2⟩:=hT.2 t v h
  simpa [Act.eval,h1] using h2
 | const c=>exact eL μ c h
 | global g=>simp [fZ] at h
 | func f =>
  simp only [fZ,Option.some.injEq] at h
  subst h
  simp only [VR,Act.eval]
  exact ⟨[],[],rfl,ao.nil_,ao.nil_⟩

theorem fS {ro:Option Nat} {n:Nat} {o:Oper} {a:Act} {K:Act->World->Prop} {Q:Exit->Act->World->Prop} {x:AV} {s':St} {r:Result Next} (h:Mh P μ s w x s' r)
  (hK:∀ μ' w' v,bA μ' s' w'->dJ μ s w μ' s' w'->VR μ' x v->K (a.put o.dst v) w'):o.uponIn (Fw ro) n P a K Q r:=by
 obtain ⟨w',μ',v,nx,rfl,hn,h1,h2,h3⟩:=h
 rcases hn with rfl | ⟨rfl,rfl⟩
 ·exact hK _ _ _ h1 h2 h3
 exact hK _ _ _ h1 h2 h3

theorem kM {E:Ev} (S:cX P E) {ro:Option Nat} {n:Nat} {o:Oper} {a:Act} {K:Act->World->Prop} {Q:Exit->Act->World->Prop} {f:FuncId} {args:List AV} {vs:List Value} {x:AV} {s':St} (hc:E.call f args s = some (x,s'))(h:bA μ s w)(hv:ao μ args vs)(hf:fD μ s s')
  (hK:∀ μ' w' v,bA μ' s' w'->dJ μ s w μ' s' w'->VR μ' x v->K (a.put o.dst v) w'):o.uponIn (Fw ro) n P a K Q (.ok (.enter f vs.toArray) w):=by
 refine ⟨fun e=>(by cases e),?_⟩
 have h1:=(S.call hc).2 (n - 1) h hv hf
 refine CallsIn.mono (F:=Fw ro) h1 ?_
 rintro e w' ⟨v',μ',rfl,r1,r2,r3⟩
 exact hK _ _ _ r1 r2 r3

theorem sE {n:Nat}:∀ (ps:List Tmp) (args:List AV) (vs:List Value) (T:Tr AV) (tm:Array Value),ao μ args vs->(ps.all fun t=>Nat.blt t n) = true->TR μ n T tm->TR μ n ((ps.zip args).foldl (fun T p=>T.set p.1 (some p.2)) T) ((ps.zip vs).foldl (fun tm p=>tm.setIfInBounds p.1 p.2) tm)
 | [],_,_,_,_,_,_,h=>h
 | p :: ps,[],vs,_,_,hv,_,h=>by simp only [ao] at hv; subst hv; exact h
 | p :: ps,x :: xs,vs,T,tm,hv,hp,h=>by
  simp only [ao] at hv
  obtain ⟨y,ys,rfl,h1,h2⟩:=hv
  simp only [List.all_cons,Bool.and_eq_true,Nat.blt_eq] at hp
  simp only [List.zip_cons_cons,List.foldl_cons]
  exact sE ps xs ys _ _ h2 (by simpa using hp.2) (h.put hp.1 h1)

theorem DK {E:Ev} (S:cX P E) {ro:Option Nat} {n:Nat} {o:Oper} {a:Act} {K:Act->World->Prop} {Q:Exit->Act->World->Prop} {l:Nat} {p:Pl} (hm:μ l = some (.at_ p)) {args:List AV} {vs:List Value} {x:AV} {s':St} (hc:cV E l args s = some (x,s'))(h:bA μ s w)(hv:ao μ args vs)(hf:fD μ s s')
  (hK:∀ μ' w' v,bA μ' s' w'->dJ μ s w μ' s' w'->VR μ' x v->K (a.put o.dst v) w'):o.uponIn (Fw ro) n P a K Q ((Instr.yield p.blk vs.toArray).run P w):=by
 unfold cV at hc
 split at hc
 ·next pe fn0 n0 T ps asn body ds ho =>
  have hob:=h.obj l _ ho (by rw [hm]; simp)
  simp only [OR] at hob
  obtain ⟨p',q,tm,fn,h1,h2,h3,h4⟩:=hob
  rw [hm] at h1
  cases h1
  obtain ⟨hcd,hc⟩:=aj hc
  simp only [Bool.and_eq_true,Nat.beq_eq] at hcd
  obtain ⟨hlen,hps⟩:=hcd
  split at hc
  ·next fr1 s1 hc1 =>
   split at hc
   ·next pe1 fn1 n1 T1 ps1 asn1 body1 ds1 ho1 =>
    split at hc
    ·next ex fr2 s2 hc2 =>
     split at hc
     ·next st2 pe2 fn2 n2 T2 ps2 asn2 body2 ds2 ho2 =>
      -- the numbers of cB
      obtain ⟨_,_,nx1,code1⟩:=S.code hc1
      obtain ⟨_,_,nx2,code2⟩:=S.code hc2
      have hs2:s'.nx = s2.nx:=by
       cases ex <;> simp only [Option.some.injEq,Prod.mk.injEq] at hc <;> (rw [<- hc.2]; rfl)
      have hsz:vs.length = ps.length:=by rw [<- hv.length]; exact hlen
      have hy:=run_yield (P:=P) (args:=vs.toArray) h4 (by simpa using hsz)
      rw [hy]
      refine ⟨fun e=>(by cases e),roundIn_of_wpIn trivial ?_⟩
      have hTR:=sE (μ:=μ) ps args vs T tm hv (by simpa using hps) h3
      have hfold:((ps.toArray.zip vs.toArray).foldl (fun tmps (x:Nat × Value)=>tmps.setIfInBounds x.1 x.2) tm) = (ps.zip vs).foldl (fun tm p=>tm.setIfInBounds p.1 p.2) tm:=by
       simp
      refine code1 (a:={ tmps:=((ps.toArray.zip vs.toArray).foldl (fun tmps (x:Nat × Value)=>tmps.setIfInBounds x.1 x.2) tm),defers:=[] }) (ro:=some p.blk) (n - 1) h (by simp only; rw [hfold]; exact hTR) (by simp [DM]) ⟨p,hm,rfl⟩ (fun o1 e1 e2=>hf o1 e1 (by rw [hs2]; have:s1.nx <= s2.nx:=nx2.1; omega)) ?_
      intro μ1 w1 a1 r1 t1 tr1 dm1
      -- beginRound
      have hm1:=t1.sub _ _ hm
      have hob1:=r1.obj l _ ho1 (by rw [hm1]; simp)
      simp only [OR] at hob1
      obtain ⟨p1,q1,tm1,fnA,g1,g2,g3,g4⟩:=hob1
      rw [hm1] at g1
      cases g1
      obtain ⟨b1,b2⟩:=dZ (x:=.loop .busy pe1 fn1 n1 T1 ps1 asn1 body1 ds1) (O:=.loop { state:=.busy,pending:=pe1,fn:=fnA,tmps:=tm1,params:=ps1.toArray,assign:=asn1,body:=body1,defers:=q1.blk }) r1 ho1 hm1 g4 (by simp)
       (fun w' hw=>by simp only [OR]; exact ⟨p,q1,tm1,fnA,hm1,g2,g3,hw⟩)
      refine ⟨_,run_beginRound g4 rfl,?_⟩
      refine code2 (ro:=some p.blk) (n - 1) b1 tr1 dm1 (by
        have e:=(S.code hc1).2.1
        rw [e]
        exact ⟨p,hm1,rfl⟩) (fun o1 e1 e2=>?_) ?_
      ·have hn:=t1.nx
       cases hmu:μ1 o1 with
       | none=>rfl
       | some lc =>
        exfalso
        by_cases hmu0:μ o1 = none
        ·have:=t1.dom o1 hmu0 (by rw [hmu]; simp)
         have:s1.nx <= o1:=e1
         omega
        exact hmu0 (hf o1 (by have:s1.nx <= o1:=e1; omega) (by rw [hs2]; exact e2))
      intro μ2 w2 a2 r2 t2 tr2 dm2
      have hm2:=t2.sub _ _ hm1
      have hob2:=r2.obj l _ ho2 (by rw [hm2]; simp)
      simp only [OR] at hob2
      obtain ⟨p2,q2,tm2,fnB,k1,k2,k3,k4⟩:=hob2
      rw [hm2] at k1
      cases k1
      have tot:=(t1.trans b2).trans t2
      cases ex with
      | normal =>
       cases hc
       obtain ⟨c1,c2⟩:=dZ (x:=.loop .ready none fn2 n2 T2 ps2 asn2 body2 ds2) (O:=.loop { state:=.ready,pending:=none,fn:=fnB,tmps:=tm2,params:=ps2.toArray,assign:=asn2,body:=body2,defers:=q2.blk }) r2 ho2 hm2 k4 (by simp)
        (fun w' hw=>by simp only [OR]; exact ⟨p,q2,tm2,fnB,hm2,k2,k3,hw⟩)
       exact ⟨_,_,run_endRound none k4,hK _ _ _ c1 (tot.trans c2) (by simp [VR])⟩
      | ret =>
       cases hc
       obtain ⟨c1,c2⟩:=dZ (x:=.loop .done (some .ret) fn2 n2 T2 ps2 asn2 body2 ds2) (O:=.loop { state:=.done,pending:=some .ret,fn:=fnB,tmps:=tm2,params:=ps2.toArray,assign:=asn2,body:=body2,defers:=q2.blk }) r2 ho2 hm2 k4 (by simp)
        (fun w' hw=>by simp only [OR]; exact ⟨p,q2,tm2,fnB,hm2,k2,k3,hw⟩)
       exact ⟨_,_,run_endRound (some .ret) k4,hK _ _ _ c1 (tot.trans c2) (by simp [VR])⟩
      | exit id =>
       cases hc
       obtain ⟨c1,c2⟩:=dZ (x:=.loop .done (some (.exit id)) fn2 n2 T2 ps2 asn2 body2 ds2) (O:=.loop { state:=.done,pending:=some (.exit id),fn:=fnB,tmps:=tm2,params:=ps2.toArray,assign:=asn2,body:=body2,defers:=q2.blk }) r2 ho2 hm2 k4 (by simp)
        (fun w' hw=>by simp only [OR]; exact ⟨p,q2,tm2,fnB,hm2,k2,k3,hw⟩)
       exact ⟨_,_,run_endRound (some (.exit id)) k4,hK _ _ _ c1 (tot.trans c2) (by simp [VR])⟩
     cases hc
    cases hc
   cases hc
  cases hc
 cases hc
end
end
end Go.Proofs.YtkdhppimhdemjaaGreat
