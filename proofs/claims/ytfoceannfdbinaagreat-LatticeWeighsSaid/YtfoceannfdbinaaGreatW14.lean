/- Lemmas. -/
import Derived.Test.YtfoceannfdbinaaGreatW12
set_option linter.all false
set_option maxRecDepth 1000000
set_option maxHeartbeats 32000000
namespace Go.Proofs.YtfoceannfdbinaaGreat
open Go.RowKit
section
section
variable {P:Program}{μ:Mu}{s:St}{w:World}

theorem Qv{α:Type}{a}{l:List α}(h:a.toList=l):a=l.toArray:=by rw[<-h,aAn]

theorem IZ{X E}(hl:laidOutB P=true)(S:dJ P E)(hM:kG P X)(h:bU μ s w){T nt a}(hT:TR μ nt T a.tmps){ro n}{o:Oper}{K Q x s'}(j:iW P X E (js T) s o.op=some (x,s'))(hf:iP μ s s')(hK:∀μ' w' v,bU μ' s' w'->fo μ s w μ' s' w'->VR μ' x v->K (a.put o.dst v) w'):o.wpIn (Fw ro) n P a w K Q:=by
 refine⟨fun _ _=>trivial,?_⟩;have C:=mC hT;have a1:∀c,o.op≠.defer c:=fun c e=>by rw[e]at j;simp[iW,bQ,dY]at j
 rw[Oper.semAt_eq _ _ _ a1];unfold iW at j;split at j
 ·simp only[iN,Gt]at j;obtain⟨v,B,rfl,rfl⟩:=j;obtain⟨v',h1,h2⟩:=V6 hl h C o B;rw[h1];exact hK μ w v' h (fo.refl _ _ _) h2
 ·simp only[iN,Gt]at j;obtain⟨⟨ob,f⟩,B,rfl,rfl⟩:=j;obtain⟨O,tot,v,h1,h2,h3⟩:=QZ C o B w;rw[h1];have hn:=hf _ (cC _) (by simp[St.new]);obtain⟨g1,g2⟩:=h3 (μ.with s.nx (.at_ ⟨w.heap.size,0,tot⟩)) s.nx (Mu.sub_with _ hn) (Mu.with_same _ _ _);obtain⟨r1,r2⟩:=h.new hn O ob ⟨w.heap.size,0,tot⟩ rfl (g2 _ (ir w O));exact hK _ _ _ r1 r2 g1
 next hk=>
 obtain⟨dst,op,type,pos,after,guard⟩:=o;simp only at j hk hK⊢;cases op
 case store t y v=>exact jm (PT h C _ rfl j) hK
 case mapUpdate t m k v=>exact jm (BH hl h C _ rfl j) hK
 case mapEntry t m k=>exact jm (Eu hl h C _ rfl j) hK
 case entryStore t m b v=>exact jm (yq h C _ rfl j) hK
 case range t y=>exact jm (PU h C _ rfl j hf) hK
 case next it b=>exact jm (TQ h C _ rfl j) hK
 case call c=>
  obtain⟨callee,args,argTypes⟩:=c;cases callee with
  |builtin b=>
   cases b
   case append=>
    simp only[iG]at j;split at j
    ·next t t' y z ht hm=>
     split at j
     ·next e e' hu a2=>
      have B:=gB C hm;simp only[ap]at B;obtain⟨y',_,e1,hy,z',_,rfl,hz,rfl⟩:=B;obtain⟨w',μ',v,r1,r2,r3,r4⟩:=GY (ty:=type) h hu a2 j hy hz hf;refine jm (s':=s') ⟨w',μ',v,_,?_,.inl rfl,r2,r3,r4⟩ hK;have ha:args.map a.eval=#[y',z']:=by rw[<-aAn (xs:=args.map a.eval),aBW,e1]
      simp[execOp,resolve,invoke,builtin,ha,Qv ht,r1]
     cases j
    cases j
   case copy=>
    simp only[iG]at j;split at j
    ·next t t' y z ht hm=>
     split at j
     ·next e hu=>
      have B:=gB C hm;simp only[ap]at B;obtain⟨y',_,e1,hy,z',_,rfl,hz,rfl⟩:=B;obtain⟨w',v,r1,r2,r3,r4⟩:=P5 (t':=t') (ty:=type) h hu j hy hz;refine jm (s':=s') ⟨w',μ,v,_,?_,.inl rfl,r2,r3,r4⟩ hK;have ha:args.map a.eval=#[y',z']:=by rw[<-aAn (xs:=args.map a.eval),aBW,e1]
      simp[execOp,resolve,invoke,builtin,ha,Qv ht,r1]
     cases j
    cases j
   all_goals (simp[iG]at j;done)
  |value f=>
   simp only[iG]at j;split at j
   ·next g fs cs asn hg hm=>
    have B:=gB C hm;have N:=C _ _ hg;simp only[VR]at N;obtain⟨Z,Y,ef,a0,av⟩:=N;have A:=(S.call j).1.1;have u:(execOp a.eval ⟨dst,.call ⟨.value f,args,argTypes⟩,type,pos,after,guard⟩).run P w=.ok (.enter g ((Z++args.toList.map a.eval++Y).toArray)) w:=by
     have:=A ((Z++args.toList.map a.eval++Y).toArray) w;have e:Z.toArray++args.map a.eval++Y.toArray=(Z++args.toList.map a.eval++Y).toArray:=by apply aDa;simp
     simp only[execOp,resolve,ef,Deferred.ofValue,Le,aAr,BY,invoke];rw[e,this]
    rw[u];exact oU S j h ((a0.append B).append av) hf hK
   ·next l asn hg hm=>
    have B:=gB C hm;have N:=C _ _ hg;simp only[VR]at N;obtain⟨p,al,ef⟩:=N;have u:(execOp a.eval ⟨dst,.call ⟨.value f,args,argTypes⟩,type,pos,after,guard⟩).run P w=(Instr.yield p.blk (args.toList.map a.eval).toArray).run P w:=by
     have e:#[]++args.map a.eval=(args.toList.map a.eval).toArray:=by apply aDa;simp
     simp only[execOp,resolve,ef,Deferred.ofValue,Le,aAr,BY,invoke];rw[e]
    rw[u];exact Mz S al j h B hf hK
   cases j
  |invoke r m=>
   simp only[iG]at j;split at j
   ·next t v asn hr hm=>
    have B:=gB C hm;have am:=C _ _ hr;simp only[VR]at am;obtain⟨y,er,hy⟩:=am;have u:∀(g:FuncId)(y2:Value),oP P g->(method (P.types.size+Made.depth) t y m).run P w=.ok (g,y2) w -> (execOp a.eval ⟨dst,.call ⟨.invoke r m,args,argTypes⟩,type,pos,after,guard⟩).run P w=.ok (.enter g ((y2::args.toList.map a.eval).toArray)) w:=by
     intro g y2 A J;have e:#[y2]++(args.map a.eval)=(y2::args.toList.map a.eval).toArray:=by apply aDa;simp
     have e2:(#[Value.iface t y]++args.map a.eval).extract 1 (#[Value.iface t y]++args.map a.eval).size=args.map a.eval:=by apply aDa;simp;exact Ge (by simp)
     have e3:(#[Value.iface t y]++args.map a.eval)[0]?=some (Value.iface t y):=by rw[aDk];rfl
     simp only[execOp,resolve,er,Le,aAr,BY,invoke,e3,e2,callMethod,aEn,J];rw[e,A]
    split at j
    ·next g J=>
     have A:=(S.call j).1.1;rw[u g y A (hM t m g .same J y w)];exact oU S j h (ap.cons hy B) hf hK
    ·next g e J=>
     split at j
     ·next v2 ad=>
      have A:=(S.call j).1.1;obtain⟨y2,h1,h2⟩:=wM h ad hy;have U:=ad;unfold ju at U;split at U
      ·next o1 off=>
       simp only[VR]at hy;obtain⟨p,al,rfl⟩:=hy;have:=hM t m g (.deref e) J p.blk (p.base+off) w;simp only[Instr.loadAt,Instr.sureAddr,Le,aAr,BY]at h1;rw[h1]at this;rw[u g y2 A this];exact oU S j h (ap.cons h2 B) hf hK
      ·next c off=>
       simp only[VR]at hy;obtain⟨b,base,cs,rfl,_⟩:=hy;have:=hM t m g (.deref e) J b (base+off) w;simp only[Instr.loadAt,Instr.sureAddr,Le,aAr,BY]at h1;rw[h1]at this;rw[u g y2 A this];exact oU S j h (ap.cons h2 B) hf hK
      cases U
     cases j
    cases j
   cases j
 all_goals (simp[bQ]at hk;done)

theorem qN{ops T nt C}(hT:TR μ nt T C){o b}(h:iK ops.toList T o=some b):Region.wanted o (yielded ops C)=b:=by
 unfold iK at h;unfold Region.wanted;cases hg:o.guard with
 |none=>rw[hg]at h;simp only[iD]at h;exact h
 |some g=>
  obtain⟨j,want⟩:=g;rw[hg]at h;simp only at h⊢;have e:ops.toList[j]?=ops[j]?:=by simp
  rw[e]at h;cases hd:(ops[j]?).bind (·.dst)with
  |none=>rw[hd]at h;cases h
  |some t=>
   rw[hd]at h;simp only at h;unfold yielded;rw[hd];simp only[CC];split at h
   ·next x B=>
    obtain⟨y,A,u⟩:=hT.2 t _ B;simp only[VR]at u;subst u;rw[A];simp only[iD]at h;rw[<-h];simp
   ·next B=>
    obtain⟨y,A,u⟩:=hT.2 t _ B;simp only[VR,ap]at u;obtain⟨_,rfl,rfl⟩:=u;rw[A];simp only[iD]at h;rw[<-h];rfl
   cases h
theorem AZ{T T' nt}{a:Act}(hT:TR μ nt T a.tmps){d x v}(y:VR μ x v)(h:np T nt d x=some T'):TR μ nt T' (a.put d v).tmps:=by
 cases d with
 |none=>simp only[np,iD]at h;subst h;exact hT
 |some d=>simp only[np]at h;obtain⟨j,u⟩:=ah h;cases u;rw[ON]at j;exact hT.put j y
theorem gP{a:Act}{d v}:(a.put d v).defers=a.defers:=by cases d<;>rfl
theorem qQ:VR μ (.tup []) undef:=by simp[VR,ap,undef]

theorem Gi{X E}(hl:laidOutB P=true)(S:dJ P E)(N:kG P X)(j:∀{ρ s o v s'},iW P X E ρ s o=some (v,s')->s.nx<=s'.nx){ops nt ro n Q}:∀(os:List Oper)(k:Nat){μ:Mu}{s:St}{w:World}{a:Act}{T T':Tr AV}{s':St},ops.toList.drop k=os->nr P X E nt ops.toList os T s=some (T',s')->bU μ s w->TR μ nt T a.tmps->iP μ s s' -> (∀μ' w' y,bU μ' s' w'->fo μ s w μ' s' w'->TR μ' nt T' y.tmps->y.defers=a.defers->Q .normal y w')->wpOpsIn (Fw ro) n P ops Q (List.range' k os.length) a w
 | [],k,μ,s,w,a,T,T',s',_,hx,h,hT,_,hQ=>by simp only[nr,iD,Gt]at hx;obtain⟨rfl,rfl⟩:=hx;exact hQ μ w a h (fo.refl _ _ _) hT rfl
 |o::os,k,μ,s,w,a,T,T',s',hd,hx,h,hT,hf,hQ=>by
  have ho:ops[k]?=some o:=by have:=aAf (·[0]?) hd;simpa [aBo]using this
  have J:ops.toList.drop (k+1)=os:=by have:=aAf (List.drop 1) hd;simpa [aCJ]using this
  simp only[On,aEc,wpOpsIn,ho];simp only[nr]at hx;split at hx
  ·next U=>
   rw[oR (qN hT U)];split at hx
   ·next v s1 B=>
    split at hx
    ·next T1 u=>
     have m2:s1.nx<=s'.nx:=by
      have go:∀(os:List Oper)(T T':Tr AV)(s s':St),nr P X E nt ops.toList os T s=some (T',s')->s.nx<=s'.nx:=by
       intro os
       induction os with
       |nil=>intro T T' s s' h;simp only[nr,iD,Gt]at h;rw[h.2];exact cC _
       |cons o os ih=>
        intro T T' s s' h;simp only[nr]at h;split at h
        ·split at h
         ·next B=>
          split at h
          ·exact EM (j B) (ih _ _ _ _ h)
          cases h
         cases h
        ·split at h
         ·exact ih _ _ _ _ h
         cases h
        cases h
      exact go os _ _ _ _ hx
     refine IZ hl S N h hT B (fun o1 e1 e2=>hf o1 e1 (by omega)) ?_;intro μ1 w1 v' r1 t1 hv;refine Gi hl S N j os (k+1) J hx r1 (AZ (hT.mono t1.sub) hv u) (fun o1 e1 e2=>?_) ?_
     ·cases hmu:μ1 o1 with
      |none=>rfl
      |some lc=>
       exfalso;have hn:=t1.nx;by_cases x:μ o1=none
       ·have:=t1.dom o1 x (by rw[hmu];simp);omega
       exact x (hf o1 (by omega) e2)
     intro μ' w' y Y Z C A;exact hQ μ' w' y Y (t1.trans Z) C (by rw[A,gP])
    cases hx
   cases hx
  ·next U=>
   rw[iF (by rw[qN hT U];simp)];split at hx
   ·next T1 u=>
    refine⟨fun _ _=>trivial,?_⟩;refine Gi hl S N j os (k+1) J hx h (AZ hT qQ u) hf ?_;intro μ' w' y Y Z C A;exact hQ μ' w' y Y Z C (by rw[A,gP])
   cases hx
  cases hx
end
end
section
section
variable {P:Program}
def be(s s':St):Prop:=s.nx<=s'.nx/\(Wf s->Wf s')
theorem be.refl s:be s s:=⟨cC _,id⟩
theorem be.trans{a b c}(h:be a b)(k:be b c):be a c:=⟨EM h.1 k.1,fun x=>k.2 (h.2 x)⟩
theorem be.new s x:be s (s.new x):=⟨by simp[St.new],fun h o j=>by have u:s.nx+1<=o:=j;simp only[St.new];rw[Tr.get_set_ne _ _ (by omega)];exact h o (by omega)⟩
theorem be.set{s k y}x(h:s.h.get k=some y):be s (s.set k x):=⟨cC _,fun u o j=>by simp only[St.set];rw[Tr.get_set_ne _ _ (fun e=>by subst e;rw[u _ j]at h;cases h)];exact u o j⟩
theorem be.drop s k:be s (s.drop k):=⟨cC _,fun u o j=>by
 simp only[St.drop,Tr.get_set];split
 ·rfl
 exact u o j⟩
theorem AI{s s' t v a}(h:ke P s t v a=some s'):be s s':=by
 unfold ke at h;split at h
 ·split at h
  ·next j=>
   split at h
   ·obtain⟨_,h⟩:=ah h;cases h;exact be.set _ j
   cases h
  cases h
 cases h
theorem Bk{s s' kt m k v}(h:kq P s kt m k v=some s'):be s s':=by
 unfold kq at h;split at h
 ·split at h
  ·next j=>
   split at h
   ·split at h
    ·cases h;exact be.set _ j
    cases h
   ·cases h;exact be.set _ j
   cases h
  cases h
 cases h
theorem yv{s s' e x y r}(h:gM P s e x y=some (r,s')):be s s':=by
 unfold gM at h;split at h
 ·next i zv _ _=>
  split at h
  ·next old new _ _=>
   obtain⟨_,h⟩:=ah h;cases x with
   |snil=>
    simp only at h;cases hb:Nat.beq new.length 0<;>rw[hb]at h<;>cases h
    ·exact be.new _ _
    exact be.refl _
   |sl o off n cap=>
    simp only at h;cases hb:Nat.blt cap bI<;>rw[hb]at h
    ·simp only[aAj]at h;obtain⟨_,h⟩:=ah h;split at h
     ·next c u op j=>
      cases hb2:Nat.ble (off+n*i.size+new.length) c.length<;>rw[hb2]at h
      ·simp only[aAj]at h;obtain⟨_,h⟩:=ah h;cases h;exact(be.drop s o).trans (be.new _ _)
      cases h;exact be.set _ j
     cases h
    simp only[EQ]at h;cases hb2:Nat.ble (n+new.length/i.size) cap<;>rw[hb2]at h
    ·cases h;exact be.new _ _
    simp only[EQ]at h;split at h
    ·next j=>obtain⟨_,h⟩:=ah h;cases h;exact be.set _ j
    cases h
   |_=>cases h
  cases h
 cases h
theorem EG{s s' e x y r}(h:oE P s e x y=some (r,s')):be s s':=by
 unfold oE at h;split at h
 ·split at h
  ·next j _=>
   split at h
   ·obtain⟨_,h⟩:=ah h;cases h;exact be.set _ j
   cases h
  cases h
 ·split at h
  ·next j _=>obtain⟨_,h⟩:=ah h;cases h;exact be.set _ j
  cases h
 cases h
theorem Cr{E}(S:dJ P E){l args s s' x}(h:eA E l args s=some (x,s')):be s s':=by
 unfold eA at h;split at h
 ·obtain⟨_,h⟩:=ah h;split at h
  ·next B=>
   split at h
   ·next j=>
    split at h
    ·next C=>
     have g:=(S.code B).2.2.1;have y:be _ _:=(S.code C).2.2.1;have A:=(be.trans g (be.set _ j)).trans y;split at h
     ·next u=>
      split at h<;>(cases h;exact A.trans (be.set _ u))
     cases h
    cases h
   cases h
  cases h
 cases h
theorem sR{X E}(S:dJ P E){ρ s s' o v}(h:iW P X E ρ s o=some (v,s')):be s s':=by
 unfold iW at h;split at h
 ·simp only[iN,Gt]at h;obtain⟨_,_,_,rfl⟩:=h;exact be.refl _
 ·simp only[iN,Gt]at h;obtain⟨_,_,_,rfl⟩:=h;exact be.new _ _
 next A=>
 clear A;cases o
 case store t a v=>
  simp only[iG]at h;split at h
  ·simp only[iN,Gt]at h;obtain⟨s1,u,_,rfl⟩:=h;exact AI u
  cases h
 case mapUpdate t m k v=>
  simp only[iG]at h;split at h
  ·simp only[iN,Gt]at h;obtain⟨s1,u,_,rfl⟩:=h;exact Bk u
  cases h
 case mapEntry t m k=>
  simp only[iG]at h;split at h
  ·split at h
   ·next j=>
    split at h
    ·split at h
     ·cases h;exact be.set _ j
     cases h
    ·split at h
     ·cases h;exact be.set _ j
     cases h
    cases h
   cases h
  cases h
 case entryStore t m b v=>
  simp only[iG]at h;split at h
  ·split at h
   ·next j=>
    split at h
    ·split at h
     ·cases h;exact be.set _ j
     cases h
    cases h
   cases h
  cases h
 case range t y=>
  simp only[iG]at h;split at h
  ·cases h;exact be.new _ _
  ·cases h;exact be.new _ _
  ·split at h
   ·cases h;exact be.new _ _
   cases h
  cases h
 case next B b=>
  cases b
  case true=>simp[iG]at h
  simp only[iG]at h;split at h
  ·split at h
   ·cases h;exact be.refl _
   ·cases h;exact be.refl _
   ·next m x seen last j=>
    split at h
    ·next es clock _=>
     cases hb:(!seen.isEmpty && !es.isEmpty&&es.all fun e=>Nat.ble last e.born)<;>rw[hb]at h
     ·simp only[aAj]at h;split at h
      ·cases h;exact be.refl _
      ·obtain⟨_,h⟩:=ah h;cases h;exact be.set _ j
      cases h
     cases h
    cases h
   cases h
  cases h
 case call c=>
  obtain⟨callee,args,argTypes⟩:=c;cases callee with
  |builtin b=>
   cases b
   case append=>
    simp only[iG]at h;split at h
    ·split at h
     ·exact yv h
     cases h
    cases h
   case copy=>
    simp only[iG]at h;split at h
    ·split at h
     ·exact EG h
     cases h
    cases h
   all_goals (simp[iG]at h;done)
  |value f=>
   simp only[iG]at h;split at h
   ·exact(S.call h).1.2
   ·exact Cr S h
   cases h
  |invoke r m=>
   simp only[iG]at h;split at h
   ·split at h
    ·exact(S.call h).1.2
    ·split at h
     ·exact(S.call h).1.2
     cases h
    cases h
   cases h
 all_goals (simp[iG]at h;done)

theorem fh{ρ ρ':Operand->Option AV}:∀{l:List Operand},(∀x∈l,ρ x=ρ' x)->l.mapM ρ=l.mapM ρ'
 | [],_=>rfl
 |x::l,h=>by rw[aBb,aBb,h x (by simp),fh fun y hy=>h y (tK _ hy)]
theorem oz{ρ ρ' pl}:∀{ps:List (Nat×Operand)}{c:List AV},(∀x∈ps.map (·.2),ρ x=ρ' x)->k8 ρ pl c ps=k8 ρ' pl c ps
 | [],_,_=>rfl
 |p::ps,c,h=>by
  simp only[k8,h p.2 (by simp)];split
  ·congr 1;exact oz fun x j=>h x (by simp at j⊢;exact .inr j)
  rfl
theorem Af{ρ ρ' o}(h:∀x∈o.operands,ρ x=ρ' x):tA P ρ o=tA P ρ' o:=by
 cases o<;>simp only[Op.operands]at h<;>simp only[tA]
 case box t x=>rw[h x (by simp)]
 case buildSlice t n ps=>have e:=fun pl c=>oz (ρ:=ρ) (ρ':=ρ') (pl:=pl) (ps:=ps.toList) (c:=c) fun x hx=>h x (by simpa using hx);simp only[e]
 case makeMap t r=>
  cases r with
  |none=>rfl
  |some x=>simp only;rw[h x (by simp)]
 case makeSlice t l c=>rw[h l (by simp),h c (by simp)]
theorem y9{X E ρ ρ' s o}(h:∀x∈o.operands,ρ x=ρ' x):iW P X E ρ s o=iW P X E ρ' s o:=by
 unfold iW;have B:tA P ρ o=tA P ρ' o:=Af h;have hrd:dY P ρ s o=dY P ρ' s o:=by
  cases o<;>simp only[Op.operands]at h<;>simp only[dY]
  case move x=>exact h x (by simp)
  case assign x=>exact h x (by simp)
  case pick c a b=>rw[h c (by simp),h a (by simp),h b (by simp)]
  case load t a=>rw[h a (by simp)]
  case nilCheck x=>rw[h x (by simp)]
  case binOp op t x y yt=>rw[h x (by simp),h y (by simp)]
  case unOp op t x=>rw[h x (by simp)]
  case convert a b x=>rw[h x (by simp)]
  case makeInterface t x=>rw[h x (by simp)]
  case makeFunc fn fs cs=>
   cases fn<;>simp only[dY]
   rw[fh (ρ:=ρ) (ρ':=ρ') (l:=fs.toList) fun x j=>h x (by simp at j⊢;exact .inl j),fh (ρ:=ρ) (ρ':=ρ') (l:=cs.toList) fun x j=>h x (by simp at j⊢;exact .inr j)]
  case slice t x lo hi mx=>
   have e:∀d (y:Option Operand),(∀z,y=some z->ρ z=ρ' z)->eI ρ d y=eI ρ' d y:=fun d y hy=>by
    cases y with
    |none=>rfl
    |some z=>simp only[eI];rw[hy z rfl]
   rw[h x (by simp)];congr 2;funext a;unfold eR;have N:=fun d=>e d lo (fun z hz=>h z (by subst hz;simp));have U:=fun d=>e d hi (fun z hz=>h z (by subst hz;simp));have Y:=fun d=>e d mx (fun z hz=>h z (by subst hz;simp));simp only[N,U,Y]
  case fieldAddr t x f=>rw[h x (by simp)]
  case field t x f=>rw[h x (by simp)]
  case indexAddr t x i=>rw[h x (by simp),h i (by simp)]
  case index t x i=>rw[h x (by simp),h i (by simp)]
  case lookup t x i ok=>rw[h x (by simp),h i (by simp)]
  case typeAssert x t u ok=>rw[h x (by simp)]
  case extract x k=>rw[h x (by simp)]
  case entry J=>rw[h J (by simp)]
  case build t ps=>have e:=fun pl c=>oz (ρ:=ρ) (ρ':=ρ') (pl:=pl) (ps:=ps.toList) (c:=c) fun x j=>h x (by simpa using j);simp only[e]
  case call c=>
   obtain⟨callee,args,A⟩:=c;have ha:∀x∈args.toList,ρ x=ρ' x:=fun x j=>h x (by simp[Call.operands]at j⊢;exact .inr j);cases callee with
   |builtin b=>
    cases b<;>simp only[dY]
    case len=>
     split
     ·next t x _ e=>rw[ha x (by rw[e];simp)]
     rfl
    case cap=>
     split
     ·next t x _ e=>rw[ha x (by rw[e];simp)]
     rfl
    case min=>rw[fh ha]
    case max=>rw[fh ha]
   |_=>rfl
 have C:iG P X E ρ s o=iG P X E ρ' s o:=by
  cases o<;>simp only[Op.operands]at h<;>simp only[iG]
  case store t a v=>rw[h a (by simp),h v (by simp)]
  case mapUpdate t m k v=>rw[h m (by simp),h k (by simp),h v (by simp)]
  case mapEntry t m k=>rw[h m (by simp),h k (by simp)]
  case entryStore t m b v=>rw[h m (by simp),h b (by simp),h v (by simp)]
  case range t x=>rw[h x (by simp)]
  case next J b=>cases b<;>simp only[iG];rw[h J (by simp)]
  case call c=>
   obtain⟨callee,args,A⟩:=c;have ha:∀x∈args.toList,ρ x=ρ' x:=fun x j=>h x (by simp[Call.operands]at j⊢;exact .inr j);cases callee with
   |builtin b=>
    cases b<;>simp only[iG]
    case append=>rw[fh ha]
    case copy=>rw[fh ha]
   |value f=>simp only[iG];rw[fh ha,h f (by simp[Call.operands])]
   |invoke r m=>simp only[iG];rw[fh ha,h r (by simp[Call.operands])]
 rw[B,hrd,C]
theorem Se{ρ s s' o}(h:cq o=false):dY P ρ s o=dY P ρ s' o:=by
 cases o<;>try rfl
 case makeFunc fn _ _=>cases fn<;>rfl
 case load=>simp[cq]at h
 case lookup=>simp[cq]at h
 case entry=>simp[cq]at h
 case call c=>
  obtain⟨callee,args,j⟩:=c;cases callee with
  |builtin b=>cases b<;>first|rfl|(simp[cq]at h;done)
  |_=>rfl
mutual
theorem uH:∀(x y:AV),same x y=true->x=y
 | .b x,y,h=>by cases y<;>simp[same]at h;rw[h]
 | .i k n,y,h=>by cases y<;>simp[same]at h;rw[h.1,h.2]
 | .ptr o f,y,h=>by cases y<;>simp[same]at h;rw[h.1,h.2]
 | .pnil,y,h=>by cases y<;>simp[same]at h;rfl
 | .sl o f n c,y,h=>by cases y<;>simp[same]at h;rw[h.1.1.1,h.1.1.2,h.1.2,h.2]
 | .snil,y,h=>by cases y<;>simp[same]at h;rfl
 | .nat o,y,h=>by cases y<;>simp[same]at h;rw[h]
 | .num n,y,h=>by cases y<;>simp[same]at h;rw[h]
 | .vw c n,y,h=>by
  cases y<;>simp[same]at h
  rw[fA c _ h.1,h.2]
 | .vp c n,y,h=>by
  cases y<;>simp[same]at h
  rw[fA c _ h.1,h.2]
 | .fm a b,y,h=>by
  cases y<;>simp[same]at h
  rw[fA a _ h.1,fA b _ h.2]
 | .mp o,y,h=>by cases y<;>simp[same]at h;rw[h]
 | .mnil,y,h=>by cases y<;>simp[same]at h;rfl
 | .fn f a b,y,h=>by
  cases y<;>simp[same]at h
  rw[h.1.1,fA a _ h.1.2,fA b _ h.2]
 | .yl l,y,h=>by cases y<;>simp[same]at h;rw[h]
 | .fnil,y,h=>by cases y<;>simp[same]at h;rfl
 | .ifc t v,y,h=>by
  cases y<;>simp[same]at h
  rw[h.1,uH v _ h.2]
 | .inil,y,h=>by cases y<;>simp[same]at h;rfl
 | .agg l,y,h=>by
  cases y<;>simp[same]at h
  rw[fA l _ h]
 | .tup l,y,h=>by
  cases y<;>simp[same]at h
  rw[fA l _ h]
theorem fA:∀(l m:List AV),jJ l m=true->l=m
 | [],m,h=>by cases m<;>simp[jJ]at h;rfl
 |x::l,m,h=>by
  cases m<;>simp[jJ]at h
  rw[uH x _ h.1,fA l _ h.2]
end
end
end
section
def MB(M:Tr Nat)(i j:Nat):Prop:=∃m,M.get i=some m/\m.testBit j=true

theorem tZ{M i}:∀(es:List Edge)(B m:Nat),es.foldlM (fun m e=>cond (Region.binds .any e) (cond (Nat.blt e.on i) ((M.get e.on).map fun x=>m |||2^e.on |||x) none) (some m)) B=some m -> (∀e∈es,Region.binds .any e=true->e.on<i)/\∀j,m.testBit j=true↔B.testBit j=true∨∃e∈es,Region.binds .any e=true/\(j=e.on∨MB M e.on j)
 | [],B,m,h=>by simp only[List.foldlM_nil,aEk,iD]at h;subst h;simp
 |e::es,B,m,h=>by
  rw[List.foldlM_cons]at h;simp only[aDK,sT]at h;obtain⟨m1,A,Z⟩:=h;obtain⟨N,U⟩:=tZ es m1 m Z;cases hb:Region.binds .any e with
  |false=>
   rw[hb]at A;cases A;refine⟨fun u he y=>?_,fun j=>?_⟩
   ·rcases Is.1 he with rfl|he
    ·rw[hb]at y;cases y
    exact N u he y
   rw[U];constructor
   ·rintro(h|⟨u,he,h⟩)
    ·exact .inl h
    exact .inr ⟨u,tK _ he,h⟩
   rintro(h|⟨u,he,h⟩)
   ·exact .inl h
   rcases Is.1 he with rfl|he
   ·rw[hb]at h;cases h.1
   exact .inr ⟨u,he,h⟩
  |true=>
   rw[hb]at A;simp only[EQ]at A;obtain⟨hlt,A⟩:=ah A;rw[ON]at hlt;simp only[iN]at A;obtain⟨x,Y,rfl⟩:=A;refine⟨fun u he y=>?_,fun j=>?_⟩
   ·rcases Is.1 he with rfl|he
    ·exact hlt
    exact N u he y
   rw[U];have C:(B |||2^e.on |||x).testBit j=true↔B.testBit j=true∨j=e.on∨x.testBit j=true:=by
    rw[Nat.testBit_or,Nat.testBit_or,Nat.testBit_two_pow];simp only[aAU,IS];constructor
    ·rintro((h|h)|h)
     ·exact .inl h
     ·exact .inr (.inl h.symm)
     exact .inr (.inr h)
    rintro(h|h|h)
    ·exact .inl (.inl h)
    ·exact .inl (.inr h.symm)
    exact .inr h
   rw[C];constructor
   ·rintro((h|h|h)|⟨u,he,h⟩)
    ·exact .inl h
    ·exact .inr ⟨e,Do,hb,.inl h⟩
    ·exact .inr ⟨e,Do,hb,.inr ⟨x,Y,h⟩⟩
    exact .inr ⟨u,tK _ he,h⟩
   rintro(h|⟨u,he,h⟩)
   ·exact .inl (.inl h)
   rcases Is.1 he with rfl|he
   ·rcases h.2 with h|⟨x',J,h⟩
    ·exact .inl (.inr (.inl h))
    rw[Y]at J;cases J;exact .inl (.inr (.inr h))
   exact .inr ⟨u,he,h⟩
theorem mI:∀(os:List Oper)(k:Nat)(u M:Tr Nat),tY os k u=some M->∀j,j<k->M.get j=u.get j
 | [],_,_,_,h,_,_=>by simp only[tY,iD]at h;rw[h]
 |o::os,k,u,M,h,j,hj=>by
  simp only[tY]at h;split at h
  ·rw[mI os (k+1) _ M h j (by omega),Tr.get_set_ne _ _ (by omega)]
  cases h
theorem mH:∀(os:List Oper)(k:Nat)(J M:Tr Nat),tY os k J=some M->∀i o,os[i]?=some o->M.get (k+i)≠none/\(∀e∈o.after,Region.binds .any e=true->e.on<k+i) /\ ∀j,MB M (k+i) j ↔ ∃e∈o.after,Region.binds .any e=true/\(j=e.on∨MB M e.on j)
 | [],_,_,_,_,i,o,ho=>by simp at ho
 |o1::os,k,J,M,h,i,o,ho=>by
  simp only[tY]at h;split at h
  ·next m hm=>
   cases i with
   |zero=>
    simp at ho;subst ho;have B:=mI os (k+1) _ M h k (by omega);rw[Tr.get_set_same]at B;obtain⟨A,Y⟩:=tZ o1.after.toList 0 m hm;simp only[aAh];refine⟨by rw[B];simp,fun e he u=>A e (by simpa using he) u,fun j=>?_⟩;have U:MB M k j↔m.testBit j=true:=⟨fun⟨m',N,Z⟩=>by rw[B]at N;cases N;exact Z,fun h=>⟨m,B,h⟩⟩;rw[U,Y];simp only[Nat.zero_testBit,aBF,false_or];constructor
    ·rintro⟨e,he,u,h⟩;refine⟨e,by simpa using he,u,?_⟩;rcases h with h|⟨x,C,h⟩
     ·exact .inl h
     exact .inr ⟨x,by rw[mI os (k+1) _ M ‹_› _ (by have:=A e he u;omega),Tr.get_set_ne _ _ (by have:=A e he u;omega)];exact C,h⟩
    rintro⟨e,he,u,h⟩;have y:e∈o1.after.toList:=by simpa using he
    refine⟨e,y,u,?_⟩;rcases h with h|⟨x,C,h⟩
    ·exact .inl h
    rw[mI os (k+1) _ M ‹_› _ (by have:=A e y u;omega),Tr.get_set_ne _ _ (by have:=A e y u;omega)]at C;exact .inr ⟨x,C,h⟩
   |succ i=>have:=mH os (k+1) _ M h i o (by simpa using ho);rw[show k+(i+1)=k+1+i by omega];exact this
  cases h

structure Hm(L:List Oper)(M:Tr Nat):Prop where
 get:∀i o,L[i]?=some o->M.get i≠none
 lt:∀i o,L[i]?=some o->∀e∈o.after,Region.binds .any e=true->e.on<i
 iff_:∀i o,L[i]?=some o->∀j,MB M i j ↔ ∃e∈o.after,Region.binds .any e=true/\(j=e.on∨MB M e.on j)
theorem Uk{L M}(h:tY L 0 .nil=some M):Hm L M:=
 ⟨fun i o j=>by have:=(mH L 0 _ M h i o j).1;simpa using this,
  fun i o j=>by have:=(mH L 0 _ M h i o j).2.1;simpa using this,
  fun i o j=>by have:=(mH L 0 _ M h i o j).2.2;simpa using this⟩
section
variable {L:List Oper}{M:Tr Nat}
theorem Hm.below(B:Hm L M):∀i,(∃o,L[i]?=some o)->∀j,MB M i j->j<i:=by
 intro i
 induction i using Nat.strongRecOn with
 |_ i ih=>
  rintro⟨o,u⟩ j h;obtain⟨e,he,x,h⟩:=(B.iff_ i o u j).1 h;have hlt:=B.lt i o u e he x;rcases h with rfl|h
  ·exact hlt
  have hi:=(dO.1 u).1;have:=ih e.on hlt ⟨_,bY (by omega)⟩ j h;omega
theorem Hm.trans(B:Hm L M):∀i,(∃o,L[i]?=some o)->∀j k,MB M i j->MB M j k->MB M i k:=by
 intro i
 induction i using Nat.strongRecOn with
 |_ i ih=>
  rintro⟨o,u⟩ j k h x;obtain⟨e,he,y,h⟩:=(B.iff_ i o u j).1 h;have hlt:=B.lt i o u e he y;refine(B.iff_ i o u k).2 ⟨e,he,y,.inr ?_⟩;rcases h with rfl|h
  ·exact x
  have hi:=(dO.1 u).1;exact ih e.on hlt ⟨_,bY (by omega)⟩ j k h x
theorem Et:∀(os:List Oper)(k h:Nat)(l:List Nat),lh os k=h::l->∃i o,os[i]?=some o/\cE o=true/\h=k+i/\∀j x,os[j]?=some x->cE x=true->i<=j
 | [],_,_,_,e=>by simp[lh]at e
 |o::os,k,h,l,e=>by
  simp only[lh]at e;cases hb:cE o with
  |true=>rw[hb]at e;simp only[EQ,rW]at e;exact⟨0,o,rfl,hb,by rw[<-e.1,aAh],fun _ _ _ _=>No _⟩
  |false=>
   rw[hb]at e;obtain⟨i,x,A,B,N,C⟩:=Et os (k+1) h l e;refine⟨i+1,x,by simpa using A,B,by omega,fun j J y u=>?_⟩;cases j with
   |zero=>simp at y;subst y;rw[hb]at u;cases u
   |succ j=>have:=C j J (by simpa using y) u;omega
theorem JR:∀(os:List Oper)(k:Nat),lh os k=[]->∀(i:Nat)(o:Oper),os[i]?=some o->cE o=false
 | [],_,_,i,o,ho=>by simp at ho
 |o1::os,k,e,i,o,ho=>by
  simp only[lh]at e;cases hb:cE o1 with
  |true=>rw[hb]at e;cases e
  |false=>
   rw[hb]at e;cases i with
   |zero=>simp at ho;subst ho;exact hb
   |succ i=>exact JR os (k+1) e i o (by simpa using ho)
theorem qE(B:Hm L M):∀(os:List Oper)(k:Nat),(∀i o,os[i]?=some o->∃Z,L[k+i]?=some Z)->pz M (lh os k)=true->∀i j Y y,os[i]?=some Y->os[j]?=some y->cE Y=true->cE y=true->i<j->MB M (k+j) (k+i)
 | [],_,_,_,i,_,_,_,hi,_,_,_,_=>by simp at hi
 |o::os,k,hL,h,i,j,Y,y,hi,hj,hei,hej,hlt=>by
  have A:∀i o,os[i]?=some o->∃Z,L[k+1+i]?=some Z:=fun i o ho=>by have:=hL (i+1) o (by simpa using ho);rw[show k+(i+1)=k+1+i by omega]at this;exact this
  have x:pz M (lh os (k+1))=true:=by
   simp only[lh]at h;cases hb:cE o with
   |false=>rw[hb]at h;exact h
   |true=>
    rw[hb]at h;simp only[EQ]at h;cases hc:lh os (k+1)with
    |nil=>rfl
    |cons a l=>rw[hc]at h;simp only[pz,gE]at h;exact h.2
  cases j with
  |zero=>omega
  |succ j=>
   have u:os[j]?=some y:=by simpa using hj
   cases i with
   |succ i=>have:=qE B os (k+1) A x i j Y y (by simpa using hi) u hei hej (by omega);rw[show k+(j+1)=k+1+j by omega,show k+(i+1)=k+1+i by omega];exact this
   |zero=>
    simp at hi;subst hi;simp only[lh,hei,EQ]at h;cases hc:lh os (k+1)with
    |nil=>have:=JR os (k+1) hc j y u;rw[hej]at this;cases this
    |cons a l=>
     rw[hc]at h;simp only[pz,gE]at h;obtain⟨N,o0,g1,g2,g3,g4⟩:=Et os (k+1) a l hc;have C:MB M a k:=by
      have U:=h.1;cases hm:M.get a with
      |none=>rw[hm]at U;cases U
      |some m=>rw[hm]at U;exact⟨m,hm,U⟩
     have:=g4 j y u hej;simp only[aAh];rcases By N j with J|hge
     ·have h2:=qE B os (k+1) A x N j o0 y g1 u g2 hej J;rw[show k+(j+1)=k+1+j by omega];refine B.trans _ (A j y u) _ _ h2 ?_;rw[<-g3];exact C
     have:N=j:=by omega
     subst this;rw[show k+(N+1)=k+1+N by omega,<-g3];exact C
theorem xr:∀(os:List Oper)(k i:Nat)(t:Tmp),(i,t)∈qB os k ↔ ∃j o,i=k+j/\os[j]?=some o/\o.dst=some t
 | [],k,i,t=>by simp[qB]
 |o::os,k,i,t=>by
  have C:=xr os (k+1) i t;have key:(∃j x,i=k+j/\(o::os)[j]?=some x/\x.dst=some t)↔(i=k/\o.dst=some t)∨∃j x,i=k+1+j/\os[j]?=some x/\x.dst=some t:=by
   constructor
   ·rintro⟨j,x,y,u,A⟩;cases j with
    |zero=>simp at u;subst u;exact .inl ⟨by omega,A⟩
    |succ j=>exact .inr ⟨j,x,by omega,by simpa using u,A⟩
   rintro(⟨y,u⟩|⟨j,x,y,u,A⟩)
   ·exact⟨0,o,by omega,rfl,u⟩
   exact⟨j+1,x,by omega,by simpa using u,A⟩
  rw[key,<-C];simp only[qB];split
  ·next J B=>
   rw[Is,Gt,B];constructor
   ·rintro(⟨y,u⟩|h)
    ·exact .inl ⟨y,by rw[u]⟩
    exact .inr h
   rintro(⟨y,u⟩|h)
   ·cases u;exact .inl ⟨y,rfl⟩
   exact .inr h
  next B=>rw[B];simp
theorem wC all D:∀(os:List Oper)(k:Nat),IX all M D os k=true->∀i o,os[i]?=some o->Sp all M D (k+i) o=true
 | [],_,_,i,o,ho=>by simp at ho
 |o1::os,k,h,i,o,ho=>by
  simp only[IX,gE]at h;cases i with
  |zero=>simp at ho;subst ho;exact h.1
  |succ i=>rw[show k+(i+1)=k+1+i by omega];exact wC all D os (k+1) h.2 i o (by simpa using ho)

structure Q9(L:List Oper)(M:Tr Nat):Prop where
 bits:Hm L M
 chain:∀(i j:Nat)(oi oj:Oper),L[i]?=some oi->L[j]?=some oj->cE oi=true->cE oj=true->i<j->MB M j i
 look:∀(i j:Nat)(oi oj:Oper)(t:Tmp),L[i]?=some oi->L[j]?=some oj->oj.dst=some t->t∈oe L oi->MB M i j∨MB M j i
 one:∀(i j:Nat)(oi oj:Oper)(t:Tmp),L[i]?=some oi->L[j]?=some oj->oi.dst=some t->oj.dst=some t->j=i
theorem tQ(h:gA L=some M):Q9 L M:=by
 unfold gA at h;split at h
 ·next M' hM=>
  obtain⟨N,h⟩:=ah h;cases h;simp only[gE]at N;have B:=Uk hM;have J:=wC (M:=M) L (qB L 0) L 0 N.2;refine⟨B,fun i j A C hi y U Y hlt=>?_,fun i j A C t hi y hd ht=>?_,fun i j A C t hi y hdi hdj=>?_⟩
  ·have:=qE B L 0 (fun i o J=>⟨o,by simpa using J⟩) N.1 i j A C hi y U Y hlt;simpa using this
  ·have x:=J i A hi;simp only[SK,Sp]at x;split at x
   ·next m hm=>
    rw[Of]at x;have u:=x (j,t) ((xr L 0 j t).2 ⟨j,C,by simp,y,hd⟩);simp only[gE,aAU,aAA,aDt,aAs]at u;rcases u.1 with(u|u)|u
    ·exact absurd ht u
    ·exact .inl ⟨m,hm,u⟩
    split at u
    ·next m' Z=>exact .inr ⟨m',Z,u⟩
    cases u
   cases x
  have x:=J i A hi;simp only[SK,Sp]at x;split at x
  ·next m hm=>
   rw[Of]at x;have u:=x (j,t) ((xr L 0 j t).2 ⟨j,C,by simp,y,hdj⟩);simp only[gE,aAU,aAA,hdi,beq_self_eq_true,Bool.true_eq_false,false_or,aBp]at u;exact u.2
  cases x
 cases h
end
end
section
structure fF(P:Program)(X:eC)(E:Ev)(nt:Nat)(all L:List Oper)(V:Nat->Option AV)(TT:Nat->Tr AV)(SS:Nat->St):Prop where
 step:∀i o,L[i]?=some o->(∃v,V i=some v/\iK all (TT i) o=some true/\iW P X E (js (TT i)) (SS i) o.op=some (v,SS (i+1))/\np (TT i) nt o.dst v=some (TT (i+1)))∨
  (V i=none/\iK all (TT i) o=some false/\SS (i+1)=SS i/\np (TT i) nt o.dst (.tup [])=some (TT (i+1)))
def fF.shape(L:List Oper)(V:Nat->Option AV)(TT:Nat->Tr AV)(SS:Nat->St):List (Option AV×Tr AV×St):=(List.range L.length).map fun i=>(V i,TT i,SS i)
theorem vO o L V TT SS:fF.shape (o::L) V TT SS=(V 0,TT 0,SS 0)::fF.shape L (fun i=>V (i+1)) (fun i=>TT (i+1)) (fun i=>SS (i+1)):=by unfold fF.shape;rw[On,List.range_succ_eq_map,OF,aAG];rfl
theorem yI{P X E nt all}:∀(os:List Oper)(T:Tr AV)(s:St){tr:List (Option AV×Tr AV×St)}{T':Tr AV}{s':St},lR P X E nt all os T s=some (tr,T',s') -> ∃V TT SS,TT 0=T/\SS 0=s/\TT os.length=T'/\SS os.length=s'/\tr=fF.shape os V TT SS/\fF P X E nt all os V TT SS
 | [],T,s,tr,T',s',h=>by simp only[lR,iD,Gt]at h;obtain⟨rfl,rfl,rfl⟩:=h;exact⟨fun _=>none,fun _=>T,fun _=>s,rfl,rfl,rfl,rfl,rfl,⟨fun i o ho=>by simp at ho⟩⟩
 |o::os,T,s,tr,T',s',h=>by
  have y:∀(B:Option AV)(x:Tr AV)(s1:St){A:List (Option AV×Tr AV×St)},lR P X E nt all os x s1=some (A,T',s')->tr=(B,T,s)::A -> ((∃v,B=some v/\iK all T o=some true/\iW P X E (js T) s o.op=some (v,s1)/\np T nt o.dst v=some x)∨(B=none/\iK all T o=some false/\s1=s/\np T nt o.dst (.tup [])=some x)) -> ∃V TT SS,TT 0=T/\SS 0=s/\TT (o::os).length=T'/\SS (o::os).length=s'/\tr=fF.shape (o::os) V TT SS/\fF P X E nt all (o::os) V TT SS:=by
   intro B x s1 A h1 u N;obtain⟨V,TT,SS,Y,Z,g3,g4,g5,g6⟩:=yI os x s1 h1;refine⟨fun i=>match i with|0=>B|i+1=>V i,fun i=>match i with|0=>T|i+1=>TT i,fun i=>match i with|0=>s|i+1=>SS i,rfl,rfl,g3,g4,?_,⟨fun i oi hi=>?_⟩⟩
   ·rw[vO,u,g5]
   cases i with
   |zero=>simp at hi;subst hi;simp only[Y,Z];exact N
   |succ i=>exact g6.step i oi (by simpa using hi)
  simp only[lR]at h;split at h
  ·next U=>
   split at h
   ·next v s1 J=>
    split at h
    ·next x j=>
     split at h
     ·next l r u=>
      obtain⟨C,s2⟩:=r;simp only[iD,Gt]at h;obtain⟨rfl,rfl,rfl⟩:=h;exact y (some v) x s1 u rfl (.inl ⟨v,rfl,U,J,j⟩)
     cases h
    cases h
   cases h
  ·next U=>
   split at h
   ·next x j=>
    split at h
    ·next l r u=>
     obtain⟨C,s2⟩:=r;simp only[iD,Gt]at h;obtain⟨rfl,rfl,rfl⟩:=h;exact y none x s u rfl (.inr ⟨rfl,U,rfl,j⟩)
    cases h
   cases h
  cases h

def xv(V:Nat->Option AV)(i:Nat):AV:=(V i).getD (.tup [])

section
variable {P:Program}{X:eC}{E:Ev}{nt:Nat}{L:List Oper}{V:Nat->Option AV}{TT:Nat->Tr AV}{SS:Nat->St}{M:Tr Nat}

theorem fF.put(R:fF P X E nt L L V TT SS){i o}(x:L[i]?=some o):np (TT i) nt o.dst (xv V i)=some (TT (i+1)):=by
 rcases R.step i o x with⟨v,j,_,_,u⟩|⟨j,_,_,u⟩
 ·unfold xv;rw[j];exact u
 unfold xv;rw[j];exact u
theorem fF.grows(S:dJ P E)(R:fF P X E nt L L V TT SS){i o}(j:L[i]?=some o):be (SS i) (SS (i+1)):=by
 rcases R.step i o j with⟨v,_,_,h,_⟩|⟨_,_,h,_⟩
 ·exact sR S h
 rw[h];exact be.refl _
theorem fF.grows_to(S:dJ P E)(R:fF P X E nt L L V TT SS){i}:∀{j:Nat},i<=j->j<=L.length->be (SS i) (SS j):=by
 intro j u
 induction j with
 |zero=>intro _;rw[show i=0 by omega];exact be.refl _
 |succ j ih=>
  intro x;rcases By j i with h|h
  ·rw[show i=j+1 by omega];exact be.refl _
  exact(ih h (by omega)).trans (R.grows S (bY (by omega)))
theorem fF.T_old(R:fF P X E nt L L V TT SS){t}:∀{i:Nat},i<=L.length->(∀j o,j<i->L[j]?=some o->o.dst≠some t)->(TT i).get t=(TT 0).get t:=by
 intro i
 induction i with
 |zero=>intro _ _;rfl
 |succ i ih=>
  intro hi u;have x:L[i]?=some L[i]:=bY (by omega);have hp:=R.put x;have:=u i _ (aAV i) x;rw[<-ih (by omega) fun j o y x=>u j o (by omega) x];cases hd:L[i].dst with
  |none=>rw[hd]at hp;simp only[np,iD]at hp;rw[hp]
  |some d=>rw[hd]at hp;obtain⟨_,hp⟩:=ah hp;rw[<-TO hp];exact Tr.get_set_ne _ _ (fun e=>by subst e;exact this hd)
theorem fF.T_new(R:fF P X E nt L L V TT SS)(hS:Q9 L M){t j}{o:Oper}(x:L[j]?=some o)(hd:o.dst=some t):∀{i:Nat},j<i->i<=L.length->(TT i).get t=some (xv V j)/\t<nt:=by
 intro i B
 induction i with
 |zero=>omega
 |succ i ih=>
  intro hi;have u:L[i]?=some L[i]:=bY (by omega);have hp:=R.put u;rcases By j i with h|h
  ·obtain⟨y,A⟩:=ih h (by omega);refine⟨?_,A⟩;rw[<-y];cases hdi:L[i].dst with
   |none=>rw[hdi]at hp;simp only[np,iD]at hp;rw[hp]
   |some d=>rw[hdi]at hp;obtain⟨_,hp⟩:=ah hp;rw[<-TO hp];exact Tr.get_set_ne _ _ (fun e=>by subst e;have:=hS.one j i o _ t x u hd hdi;omega)
  have:j=i:=by omega
  subst this;rw[u]at x;cases x;rw[hd]at hp;obtain⟨hlt,hp⟩:=ah hp;rw[<-TO hp];exact⟨Tr.get_set_same _ _ _,by simpa using hlt⟩

def fD(L:List Oper)(V:Nat->Option AV)(i:Nat):Prop:=∃o v,L[i]?=some o/\V i=some v/\(match bQ o.op with|.al=>True|_=>False)
theorem fF.makes(R:fF P X E nt L L V TT SS){i}(h:fD L V i):∃o x f,L[i]?=some o/\tA P (js (TT i)) o.op=some (x,f)/\V i=some (f (SS i).nx)/\SS (i+1)=(SS i).new x/\iK L (TT i) o=some true:=by
 obtain⟨o,v,A,B,u⟩:=h;rcases R.step i o A with⟨Y,y,U,j,_⟩|⟨y,_⟩
 ·unfold iW at j;split at j
  ·next e=>rw[e]at u;exact u.elim
  ·simp only[iN,Gt]at j;obtain⟨⟨x,f⟩,C,J,N⟩:=j;exact⟨o,x,f,A,C,by rw[y,<-J],N.symm,U⟩
  next e=>rw[e]at u;exact u.elim
 rw[y]at B;cases B
def OV(L:List Oper)(V:Nat->Option AV)(TT:Nat->Tr AV)(SS:Nat->St)(f:Nat):Tr AO:=
 bM (SS L.length) (SS f).h (L.drop f) ((fF.shape L V TT SS).drop f)
theorem fR{f o}(j:L[f]?=some o):L.drop f=o::L.drop (f+1)/\(fF.shape L V TT SS).drop f=(V f,TT f,SS f)::(fF.shape L V TT SS).drop (f+1):=by
 have hf:=(dO.1 j).1;refine⟨?_,?_⟩
 ·rw[AT hf];congr 1;exact(dO.1 j).2
 have hl:f<(fF.shape L V TT SS).length:=by simp[fF.shape,hf]
 rw[AT hl];congr 1;simp[fF.shape]
theorem n6(h0:Tr AO)(R:fF P X E nt L L V TT SS)(S:dJ P E):∀(k f:Nat)(h:Tr AO),f+k=L.length -> (∀j,f<=j->fD L V j->(bM (SS L.length) h (L.drop f) ((fF.shape L V TT SS).drop f)).get (SS j).nx=(SS (j+1)).h.get (SS j).nx) /\ (∀id,(∀j,f<=j->fD L V j->(SS j).nx≠id)->(bM (SS L.length) h (L.drop f) ((fF.shape L V TT SS).drop f)).get id=h.get id)
 |0,f,h,hf=>by
  have e:L.drop f=[]:=AS (by omega);refine⟨fun j A hm=>?_,fun id _=>?_⟩
  ·obtain⟨o,_,U,_⟩:=hm;have:=(dO.1 U).1;omega
  rw[e];simp[bM]
 |k+1,f,h,hf=>by
  have U:L[f]?=some L[f]:=bY (by omega);obtain⟨e1,e2⟩:=fR (V:=V) (TT:=TT) (SS:=SS) U;have ih:=fun h=>n6 h0 R S k (f+1) h (by omega);have y:∀j,f+1<=j->j<L.length->(SS (f+1)).nx<=(SS j).nx:=fun j A am=>(R.grows_to S A (by omega)).1;have step:∀(h:Tr AO),fD L V f->bM (SS L.length) h (L.drop f) ((fF.shape L V TT SS).drop f)=bM (SS L.length) (h.set (SS f).nx ((SS (f+1)).h.get (SS f).nx)) (L.drop (f+1)) ((fF.shape L V TT SS).drop (f+1)):=by
   intro h ⟨o,v,x,hv,B⟩;rw[U]at x;cases x;rw[e1,e2,hv];have C:bQ L[f].op=.al:=by cases hkk:bQ L[f].op<;>rw[hkk]at B<;>first|exact B.elim|rfl
   rcases By (f+1) L.length with hlt|hge
   ·have ad:L[f+1]?=some L[f+1]:=bY hlt;obtain⟨_,e4⟩:=fR (V:=V) (TT:=TT) (SS:=SS) ad;rw[e4];simp only[bM,C]
   have e5:(fF.shape L V TT SS).drop (f+1)=[]:=AS (by simp[fF.shape];omega);have e6:L.length=f+1:=by omega
   rw[e5];simp only[bM,C,e6]
  have skip:∀(h:Tr AO),¬fD L V f->bM (SS L.length) h (L.drop f) ((fF.shape L V TT SS).drop f)=bM (SS L.length) h (L.drop (f+1)) ((fF.shape L V TT SS).drop (f+1)):=by
   intro h hm;rw[e1,e2];cases hv:V f with
   |none=>simp only[bM]
   |some v=>
    cases B:bQ L[f].op with
    |al=>exact absurd ⟨_,v,U,hv,by rw[B];trivial⟩ hm
    |rd=>simp only[bM,B]
    |ef=>simp only[bM,B]
  by_cases hm:fD L V f
  ·rw[step h hm];obtain⟨i1,Y⟩:=ih (h.set (SS f).nx ((SS (f+1)).h.get (SS f).nx));obtain⟨o,ob,ff,_,_,_,N,_⟩:=R.makes hm;have hnx:(SS (f+1)).nx=(SS f).nx+1:=by rw[N];rfl
   refine⟨fun j A u=>?_,fun id hid=>?_⟩
   ·rcases By f j with hlt|hge
    ·exact i1 j hlt u
    have:j=f:=by omega
    subst this;rw[Y _ (fun j' Z J e=>?_),Tr.get_set_same];obtain⟨o',_,x,_⟩:=J;have:=y j' Z (dO.1 x).1;omega
   rw[Y id (fun j A u=>hid j (by omega) u),Tr.get_set_ne _ _ (fun e=>hid f (cC _) hm e.symm)]
  rw[skip h hm];obtain⟨i1,Y⟩:=ih h;refine⟨fun j A u=>?_,fun id hid=>Y id fun j A u=>hid j (by omega) u⟩;rcases By f j with hlt|hge
  ·exact i1 j hlt u
  have:j=f:=by omega
  subst this;exact absurd u hm
theorem x9(R:fF P X E nt L L V TT SS)(S:dJ P E){f j}(hf:f<=L.length)(u:f<=j)(hm:fD L V j):(OV L V TT SS f).get (SS j).nx=(SS (j+1)).h.get (SS j).nx:= (n6 .nil R S (L.length-f) f (SS f).h (by omega)).1 j u hm
theorem jI(R:fF P X E nt L L V TT SS)(S:dJ P E){f id}(hf:f<=L.length)(h:∀j,f<=j->fD L V j->(SS j).nx≠id):(OV L V TT SS f).get id=(SS f).h.get id:= (n6 .nil R S (L.length-f) f (SS f).h (by omega)).2 id h
theorem Hk:OV L V TT SS L.length=(SS L.length).h:=by unfold OV;rw[AS (cC _)];simp[bM]
theorem Kq(R:fF P X E nt L L V TT SS){f o}(C:L[f]?=some o)(h:cE o=false∨V f=none):OV L V TT SS f=OV L V TT SS (f+1):=by
 obtain⟨J,N⟩:=fR (V:=V) (TT:=TT) (SS:=SS) C;unfold OV;rcases R.step f o C with⟨v,B,_,j,_⟩|⟨B,_,hs,_⟩
 ·have x:cE o=false:=by
   rcases h with h|h
   ·exact h
   rw[B]at h;cases h
  rw[J,N,B];unfold iW at j;split at j
  ·next y=>
   simp only[iN,Gt]at j;obtain⟨_,_,_,A⟩:=j;simp only[bM,y];rw[A]
  ·next y=>
   simp only[iN,Gt]at j;obtain⟨⟨U,ff⟩,_,_,A⟩:=j;have u:(SS (f+1)).h.get (SS f).nx=some U:=by rw[<-A];exact Tr.get_set_same _ _ _
   have eF:(SS f).h.set (SS f).nx (some U)=(SS (f+1)).h:=by rw[<-A];rfl
   have hf:=(dO.1 C).1;rcases By (f+1) L.length with hlt|hge
   ·obtain⟨_,Y⟩:=fR (V:=V) (TT:=TT) (SS:=SS) (bY hlt:L[f+1]?=some L[f+1]);rw[Y];simp only[bM,y,u,eF]
   have Z:(fF.shape L V TT SS).drop (f+1)=[]:=AS (by simp[fF.shape];omega);have e6:L.length=f+1:=by omega
   rw[Z];simp only[bM,y,e6,u,eF]
  next y=>unfold cE at x;rw[y]at x;cases x
 rw[J,N,B,hs];simp only[bM]

theorem oB M:∀(k f u:Nat),f+k=L.length->∀q,f<=q->q<=L.length->(q=L.length∨∃o,L[q]?=some o/\cE o=true)->
  ∃p,(p,q,(⟨if q=L.length then(SS L.length).h else OV L V TT SS q,(SS L.length).nx⟩:St))∈dP M (SS L.length) u (L.drop f) f ((fF.shape L V TT SS).drop f) /\ (p=u∨∃j o,f<=j/\j<q/\L[j]?=some o/\cE o=true/\p=(M.get j).getD 0)
 |0,f,u,hf,q,h1,h2,y=>by
  have e:L.drop f=[]:=AS (by omega);have A:(fF.shape L V TT SS).drop f=[]:=AS (by simp[fF.shape];omega);refine⟨u,?_,.inl rfl⟩;rw[e,A];have:q=L.length:=by omega
  subst this;have N:f=L.length:=by omega
  rw[oR rfl];simp[dP,N]
 |k+1,f,u,hf,q,h1,h2,y=>by
  have U:L[f]?=some L[f]:=bY (by omega);obtain⟨B,A⟩:=fR (V:=V) (TT:=TT) (SS:=SS) U;cases hb:cE L[f]with
  |true=>
   have x:dP M (SS L.length) u (L.drop f) f ((fF.shape L V TT SS).drop f)=(u,f,⟨bM (SS L.length) (SS f).h (L.drop (f+1)) ((fF.shape L V TT SS).drop (f+1)),(SS L.length).nx⟩)::dP M (SS L.length) ((M.get f).getD 0) (L.drop (f+1)) (f+1) ((fF.shape L V TT SS).drop (f+1)):=by rw[B,A];simp only[dP,hb,EQ]
   have Y:OV L V TT SS f=bM (SS L.length) (SS f).h (L.drop (f+1)) ((fF.shape L V TT SS).drop (f+1)):=by
    unfold OV;rw[B,A];have hk:bQ L[f].op=.ef:=by unfold cE at hb;cases hkk:bQ L[f].op<;>rw[hkk]at hb<;>first|rfl|cases hb
    cases hv:V f with
    |none=>simp only[bM]
    |some v=>simp only[bM,hk]
   rcases By f q with hlt|hge
   ·obtain⟨p,C,J⟩:=oB M k (f+1) ((M.get f).getD 0) (by omega) q hlt h2 y;refine⟨p,by rw[x];exact tK _ C,?_⟩;rcases J with rfl|⟨j,o,a,b,c,d,e⟩
    ·exact .inr ⟨f,_,cC _,hlt,U,hb,rfl⟩
    exact .inr ⟨j,o,by omega,b,c,d,e⟩
   have:q=f:=by omega
   subst this;refine⟨u,?_,.inl rfl⟩;rw[x,iF (by omega),Y];exact Do
  |false=>
   have x:dP M (SS L.length) u (L.drop f) f ((fF.shape L V TT SS).drop f)=dP M (SS L.length) u (L.drop (f+1)) (f+1) ((fF.shape L V TT SS).drop (f+1)):=by rw[B,A];simp only[dP,hb,aAj]
   rcases By f q with hlt|hge
   ·obtain⟨p,C,J⟩:=oB M k (f+1) u (by omega) q hlt h2 y;refine⟨p,by rw[x];exact C,?_⟩;rcases J with rfl|⟨j,o,a,b,c,d,e⟩
    ·exact .inl rfl
    exact .inr ⟨j,o,by omega,b,c,d,e⟩
   have:q=f:=by omega
   subst this;rcases y with y|⟨o,y,Z⟩
   ·omega
   rw[U]at y;cases y;rw[hb]at Z;cases Z
theorem xg{ep:List (Nat×Nat×St)}:∀(k f:Nat),f+k=L.length->fJ P M ep (L.drop f) f ((fF.shape L V TT SS).drop f)=true->∀i o v,f<=i->L[i]?=some o->V i=some v->(match bQ o.op with|.rd=>True|_=>False)->cq o.op=true -> ∃m,M.get i=some m/\∀p∈ep,p.1.testBit i=true∨m.testBit p.2.1=true∨dY P (js (TT i)) p.2.2 o.op=some v
 |0,f,hf,_,i,o,v,h1,ho,_,_,_=>by have:=(dO.1 ho).1;omega
 |k+1,f,hf,h,i,o,v,h1,ho,hv,hk,hl=>by
  have A:L[f]?=some L[f]:=bY (by omega);obtain⟨J,N⟩:=fR (V:=V) (TT:=TT) (SS:=SS) A;rw[J,N]at h;have x:fJ P M ep (L.drop (f+1)) (f+1) ((fF.shape L V TT SS).drop (f+1))=true:=by
   cases hvf:V f with
   |none=>rw[hvf]at h;simpa only[fJ]using h
   |some C=>rw[hvf]at h;simp only[fJ,gE]at h;exact h.2
  rcases By f i with hlt|hge
  ·exact xg k (f+1) (by omega) x i o v hlt ho hv hk hl
  have:i=f:=by omega
  subst this;rw[A]at ho;cases ho;rw[hv]at h;simp only[fJ,gE]at h;have u:bQ L[i].op=.rd:=by cases u:bQ L[i].op<;>rw[u]at hk<;>first|rfl|exact hk.elim
  have y:=h.1;rw[u]at y;simp only[hl,EQ]at y;split at y
  ·next m hm=>
   refine⟨m,hm,fun p hp=>?_⟩;rw[Of]at y;have j:=y p hp;simp only[aAU]at j;rcases j with(j|j)|j
   ·exact .inl j
   ·exact .inr (.inl j)
   split at j
   ·next C B=>rw[B,uH C v j];exact .inr (.inr rfl)
   cases j
  cases y
end
end
section
def Ld(listed:Array Bool)(j:Nat):Prop:=listed.getD j false=true
theorem Ld.set_iff{listed i j}(hi:i<listed.size):Ld (listed.setIfInBounds i true) j↔j=i∨Ld listed j:=by
 unfold Ld;by_cases h:i=j
 ·subst h;simp[hi]
 rw[getD_set_ne false h];constructor
 ·exact .inr
 rintro(e|e)
 ·exact absurd e.symm h
 exact e
theorem mr{listed j}(u:j<listed.size):listed.getD j true=false↔¬Ld listed j:=by unfold Ld;simp[u]

def q5(T:Tr AV):List Tmp->Tr AV
 | []=>.nil
 |t::l=>(q5 T l).set t (T.get t)
theorem pc T(t:Tmp):∀l:List Tmp,(q5 T l).get t=if t∈l then T.get t else none
 | []=>rfl
 |u::l=>by
  rw[q5,Tr.get_set,pc T t l];by_cases h:t=u
  ·subst h;simp
  rw[iF h];simp[h]

theorem bU.born{μ s w}(h:bU μ s w){k}(hn:μ k=none){x}(hk:s.h.get k=some x)O p(hp:p.blk=w.heap.size)(Y:∀n,x≠.nat n)(hx:OR (μ.with k (.at_ p)) (w.alloc O) k x):bU (μ.with k (.at_ p)) s (w.alloc O):=by
 have hs:=Mu.sub_with (.at_ p) hn;have C:w.heap.size<=(w.alloc O).heap.size:=by simp
 have j:∀g,g<w.heap.size->(w.alloc O).heap[g]?=w.heap[g]?:=fun g hg=>Below.heap_alloc w O g hg;have lt:∀o x J,s.h.get o=some x->μ o=some (.at_ J)->J.blk<w.heap.size:=fun o x J e m=>by obtain⟨b,U⟩:=(h.obj o x e (by rw[m];simp)).at_ m;exact(IF.1 U).1
 refine⟨⟨fun o y e m=>?_,fun o o' y y' q q' e1 u m1 m2 U=>?_,fun o n A m c o' x' J e1 m1 u m2=>?_,h.wf⟩,fun b i v N=>?_⟩
 ·by_cases u:o=k
  ·subst u;rw[hk]at e;cases e;exact hx
  rw[Mu.with_ne _ _ u]at m;exact(h.obj o y e m).keep hs C (fun q hq=>j _ (lt o y q e hq)) (fun A m' c hq ad hA hm hlt=>j _ hlt)
 ·by_cases a:o=k<;>by_cases b:o'=k
  ·rw[a,b]
  ·subst a;rw[Mu.with_same]at m1;cases m1;rw[Mu.with_ne _ _ b]at m2;have:=lt _ _ _ u m2;omega
  ·subst b;rw[Mu.with_same]at m2;cases m2;rw[Mu.with_ne _ _ a]at m1;have:=lt _ _ _ e1 m1;omega
  rw[Mu.with_ne _ _ a]at m1;rw[Mu.with_ne _ _ b]at m2;exact h.inj o o' y y' q q' e1 u m1 m2 U
 ·by_cases a:o=k
  ·subst a;rw[hk]at e1;cases e1;exact absurd rfl (Y n)
  rw[Mu.with_ne _ _ a]at m1;by_cases b:o'=k
  ·subst b;rw[Mu.with_same]at m2;cases m2;have N:=h.obj o _ e1 (by rw[m1];simp);simp only[OR]at N;obtain⟨A',m',c',Z,h2⟩:=N;rw[m1]at Z;cases Z;intro ad n' am e B;cases e;obtain⟨l,⟨⟨_,al,c2,e3,_,_,h4⟩,_⟩,_⟩:=h2;cases e3;obtain⟨b,off,e4,hlt,_⟩:=h4 B;cases e4;simp only;omega
  rw[Mu.with_ne _ _ b]at m2;exact h.nat o n A m c o' x' J e1 m1 u m2
 obtain⟨z1,z2,z3⟩:=h.fz b i v N;refine⟨TK z1 C,(kY (j b z1) i).trans z2,fun o y q e m=>?_⟩;by_cases a:o=k
 ·subst a;rw[Mu.with_same]at m;cases m;omega
 rw[Mu.with_ne _ _ a]at m;exact z3 o y q e m

section
variable {P:Program}{X:eC}{E:Ev}{nt:Nat}{L:List Oper}{V:Nat->Option AV}{TT:Nat->Tr AV}{SS:Nat->St}{M:Tr Nat}

def SP(L:List Oper)(V:Nat->Option AV)(TT:Nat->Tr AV)(SS:Nat->St)(e:Nat):St:=⟨OV L V TT SS e,(SS L.length).nx⟩

theorem IK(R:fF P X E nt L L V TT SS)(S:dJ P E){f}(hf:f<=L.length)(hW:Wf (SS f)){μ w}(h:bU μ (SS f) w)(hj:∀j,f<=j->fD L V j->μ (SS j).nx≠none->∃U p,(SS (j+1)).h.get (SS j).nx=some U/\μ (SS j).nx=some (.at_ p)/\OR μ w (SS j).nx U/\(∀n,U≠.nat n) /\ (∀o x N,(SS f).h.get o=some x->μ o=some (.at_ N)->N.blk≠p.blk)/\(∀o n A m c,(SS f).h.get o=some (.nat n)->μ o=some (.val A m c)->yz (.slice A m c) p.blk)/\∀b i v,μ.fz b i=some v->p.blk≠b)(al:∀j j' p N,f<=j->f<=j'->fD L V j->fD L V j'->μ (SS j).nx=some (.at_ p)->μ (SS j').nx=some (.at_ N)->p.blk=N.blk->(SS j).nx=(SS j').nx):bU μ (SP L V TT SS f) w:=by
 have C:∀o x,(OV L V TT SS f).get o=some x->((SS f).h.get o=some x)∨∃j,f<=j/\fD L V j/\o=(SS j).nx/\(SS (j+1)).h.get (SS j).nx=some x:=by
  intro o x e;by_cases hx:∃j,f<=j/\fD L V j/\(SS j).nx=o
  ·obtain⟨j,B,y,rfl⟩:=hx;rw[x9 R S hf B y]at e;exact .inr ⟨j,B,y,rfl,e⟩
  rw[jI R S hf (fun j B y h3=>hx ⟨j,B,y,h3⟩)]at e;exact .inl e
 refine⟨⟨fun o x e m=>?_,fun o o' x x' p N e e' m m' hb=>?_,fun o n A m c o' x' N e m1 e' m2=>?_,fun o ho=>?_⟩,fun b i v hv=>⟨(h.fz b i v hv).1,(h.fz b i v hv).2.1,fun o x p e m=>?_⟩⟩
 ·rcases C o x e with u|⟨j,B,y,rfl,u⟩
  ·exact h.obj o x u m
  obtain⟨U,p,g1,_,g3,_⟩:=hj j B y m;rw[g1]at u;cases u;exact g3
 ·rcases C o x e with u|⟨j,B,y,rfl,u⟩<;>rcases C o' x' e' with e2|⟨j',Y,Z,rfl,e2⟩
  ·exact h.inj o o' x x' p N u e2 m m' hb
  ·obtain⟨U,q,g1,J,_,_,g5,_⟩:=hj j' Y Z (by rw[m'];simp);rw[m']at J;cases J;exact absurd hb (g5 o x p u m)
  ·obtain⟨U,q,g1,J,_,_,g5,_⟩:=hj j B y (by rw[m];simp);rw[m]at J;cases J;exact absurd hb.symm (g5 o' x' N e2 m')
  exact al j j' p N B Y y Z m m' hb
 ·rcases C o _ e with u|⟨j,B,y,rfl,u⟩
  ·rcases C o' x' e' with e2|⟨j',Y,Z,rfl,e2⟩
   ·exact h.nat o n A m c o' x' N u m1 e2 m2
   obtain⟨U,q,g1,J,_,_,_,g6⟩:=hj j' Y Z (by rw[m2];simp);rw[m2]at J;cases J;exact g6.1 o n A m c u m1
  obtain⟨U,q,g1,_,_,g4,_⟩:=hj j B y (by rw[m1];simp);rw[g1]at u;cases u;exact absurd rfl (g4 n)
 ·have an:(SS L.length).nx<=o:=ho;show(OV L V TT SS f).get o=none;rw[jI R S hf (fun j B y h3=>?_)]
  ·exact hW o (by have:=(R.grows_to S hf (cC _)).1;omega)
  obtain⟨o1,U,ff,am,_,_,ad,_⟩:=R.makes y;have hl:=(dO.1 am).1;have h4:(SS (j+1)).nx=(SS j).nx+1:=by rw[ad];rfl
  have h5:=(R.grows_to S (show j+1<=L.length by omega) (cC _)).1;omega
 rcases C o x e with u|⟨j,B,y,rfl,u⟩
 ·exact(h.fz b i v hv).2.2 o x p u m
 obtain⟨U,q,g1,J,_,_,_,_,g7⟩:=hj j B y (by rw[m];simp);rw[m]at J;cases J;exact g7 b i v hv

structure UN(M:Tr Nat)(L:List Oper)(V:Nat->Option AV)(TT:Nat->Tr AV)(SS:Nat->St)(nt:Nat)(μ0:Mu)(w0:World)(ds:List Deferred)(listed:Array Bool)(a:Act)(w:World)(μ:Mu)(e:Nat):Prop where
 he:e<=L.length
 lo:∀p o,p<e->L[p]?=some o->cE o=true->Ld listed p
 hi:∀p o,e<=p->L[p]?=some o->cE o=true->¬Ld listed p
 down:∀j k,Ld listed j->j<L.length->MB M j k->Ld listed k
 rel:bU μ (SP L V TT SS e) w
 stp:fo μ0 (SS 0) w0 μ (SP L V TT SS e) w
 dom:∀o,μ0 o=none->μ o≠none->∃j,Ld listed j/\j<L.length/\(SS j).nx<=o/\o<(SS (j+1)).nx
 pend:∀i,fD L V i->¬Ld listed i->(OV L V TT SS e).get (SS i).nx=(SS (i+1)).h.get (SS i).nx
 size:a.tmps.size=nt
 vals:∀j o t,L[j]?=some o->Ld listed j->o.dst=some t->∃y,a.tmps[t]?=some y/\VR μ (xv V j) y
 old:∀t x,(TT 0).get t=some x->(∀j o,L[j]?=some o->Ld listed j->o.dst≠some t)->∃y,a.tmps[t]?=some y/\VR μ x y
 defers:a.defers=ds

variable {μ0 μ:Mu}{w0 w:World}{ds:List Deferred}{listed:Array Bool}{a:Act}{e:Nat}

theorem UN.look(R:fF P X E nt L L V TT SS)(hS:Q9 L M)(I:UN M L V TT SS nt μ0 w0 ds listed a w μ e){i o}(Y:L[i]?=some o)(Z:¬Ld listed i)(N:∀k,MB M i k->Ld listed k): TR μ nt (q5 (TT i) (oe L o)) a.tmps:=by
 have hi:=(dO.1 Y).1;refine⟨I.size,fun t x A=>?_⟩;rw[pc]at A;split at A
 ·next ht=>
  by_cases hw:∃(j:Nat)(C:Oper),L[j]?=some C/\C.dst=some t
  ·obtain⟨j,C,J,hd⟩:=hw;rcases hS.look i j o C t Y J hd ht with h|h
   ·have hlt:=hS.bits.below i ⟨o,Y⟩ j h;obtain⟨g1,_⟩:=R.T_new hS J hd hlt (by omega);rw[g1]at A;cases A;exact I.vals j C t J (N j h) hd
   have hlt:=hS.bits.below j ⟨C,J⟩ i h;rw[R.T_old (by omega) (fun B U ad y u=>by have:=hS.one j B C U t J y hd u;omega)]at A;refine I.old t x A fun B U y hl u=>?_;have:B=j:=hS.one j B C U t J y hd u;subst this;exact Z (I.down B i hl (dO.1 J).1 h)
  rw[R.T_old (by omega) (fun B U _ y u=>hw ⟨B,U,y,u⟩)]at A;exact I.old t x A fun B U y _ u=>hw ⟨B,U,y,u⟩
 cases A
theorem UN.after(R:fF P X E nt L L V TT SS)(hS:Q9 L M)(I:UN M L V TT SS nt μ0 w0 ds listed a w μ e)(a4:listed.size=L.length){i o}(ho:L[i]?=some o)(a3:¬Ld listed i)(Z:∀k,MB M i k->Ld listed k){μ' w' N v}(J:lJ μ μ')(hv:VR μ' (xv V i) v)(av:N<=L.length)(a1:∀p op,p<N->L[p]?=some op->cE op=true->p=i∨Ld listed p)(a0:∀p op,N<=p->L[p]?=some op->cE op=true->p≠i/\¬Ld listed p)(hrel:bU μ' (SP L V TT SS N) w')(an:fo μ0 (SS 0) w0 μ' (SP L V TT SS N) w')(al:∀o,μ o=none->μ' o≠none->(SS i).nx<=o/\o<(SS (i+1)).nx)(ad:∀k,fD L V k->k≠i->¬Ld listed k->(OV L V TT SS N).get (SS k).nx=(SS (k+1)).h.get (SS k).nx):
  UN M L V TT SS nt μ0 w0 ds (listed.setIfInBounds i true) (a.put o.dst v) w' μ' N:=by
 have hi:=(dO.1 ho).1;have a2:i<listed.size:=by omega
 have C:=fun j=>Ld.set_iff (listed:=listed) (i:=i) (j:=j) a2
 have tm:∀t,o.dst≠some t->(a.put o.dst v).tmps[t]?=a.tmps[t]?:=fun t ht=>by
  cases hd:o.dst with
  |none=>rfl
  |some d=>simp only[Act.put];exact aBz (fun e=>ht (by rw[hd,e]))
 refine⟨av,fun p op u A B=>(C p).2 (a1 p op u A B),fun p op u A B h4=>?_,fun j k u A B=>?_,hrel,an,fun o1 u A=>?_,fun k u A=>?_,?_,fun j oj t u A B=>?_,fun t x u A=>?_,?_⟩
 ·have:=a0 p op u A B;rcases (C p).1 h4 with h5|h5
  ·exact this.1 h5
  exact this.2 h5
 ·refine(C k).2 (.inr ?_);rcases (C j).1 u with rfl|u
  ·exact Z k B
  exact I.down j k u A B
 ·by_cases hm:μ o1=none
  ·obtain⟨U,Y⟩:=al o1 hm A;exact⟨i,(C i).2 (.inl rfl),hi,U,Y⟩
  obtain⟨j,U,Y,g3⟩:=I.dom o1 u hm;exact⟨j,(C j).2 (.inr U),Y,g3⟩
 ·exact ad k u (fun e=>A ((C k).2 (.inl e))) (fun e=>A ((C k).2 (.inr e)))
 ·cases hd:o.dst with
  |none=>exact I.size
  |some d=>simp[Act.put,I.size]
 ·rcases (C j).1 A with rfl|h5
  ·rw[ho]at u;cases u;obtain⟨_,hlt⟩:=R.T_new hS ho B (aAV j) (by omega);refine⟨v,?_,hv⟩;rw[B];simp[Act.put,I.size,hlt]
  by_cases am:j=i
  ·subst am;exact absurd h5 a3
  obtain⟨y,U,Y⟩:=I.vals j oj t u h5 B;refine⟨y,?_,Y.mono J⟩;rw[tm t (fun hd=>am (hS.one i j o oj t ho u hd B))];exact U
 ·obtain⟨y,U,Y⟩:=I.old t x u (fun j oj B h4=>A j oj B ((C j).2 (.inr h4)));refine⟨y,?_,Y.mono J⟩;rw[tm t (A i o ho ((C i).2 (.inl rfl)))];exact U
 rw[gP];exact I.defers
end
end
end Go.Proofs.YtfoceannfdbinaaGreat
