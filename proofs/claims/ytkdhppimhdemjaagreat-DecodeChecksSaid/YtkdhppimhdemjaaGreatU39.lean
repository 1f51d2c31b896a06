/- Lemmas on the way: Jm2, Jm3, Jm4, Dm1, Jk2, Shl, Dk1, Dk2. -/
import Derived.Test.YtkdhppimhdemjaaGreatU38
set_option linter.all false
set_option maxRecDepth 1000000
set_option maxHeartbeats 32000000
namespace Go.Proofs.YtkdhppimhdemjaaGreat
open Go.RowKit
section
section
variable {P:Program} {c:Code} {fr fr2:Fr} {s s2:St} {Q:Ex->Fr->St->Prop}
theorem At.freezeG {bb:Nat} {μ:Mu} {ro:Option Nat} {a:Act} {w:World} (hA:At μ fr s ro a w) {o:Nat} {x:AO} {p:Pl} (ho:s.h.get o = some x)(h1:μ o = some (.at_ p)):∃ μ1,At μ1 fr (s.drop o) ro a w/\Fp bb μ s w μ1 (s.drop o) w/\(∀ k,μ1 k = μ k)/\gY μ μ1/\∀ i v,de w p.blk i = some v->μ1.fz p.blk i = some v:=by
 have hsub:∀ k x,(s.drop o).h.get k = some x->s.h.get k = some x/\k ≠ o:=fun k x e=>by
  simp only [St.drop,Tr.get_set] at e
  split at e
  ·cases e
  next hne=>exact ⟨e,hne⟩
 obtain ⟨μ1,e1⟩:∃ μ1:Mu,μ1 = ⟨μ.loc,fun b i=>if b = p.blk then de w b i else μ.fz b i⟩:=⟨_,rfl⟩
 have hold:∀ b i v,μ.fz b i = some v->b ≠ p.blk:=fun b i v hv e=>(hA.rel.fz b i v hv).2.2 o _ p ho h1 e.symm
 have hs:gY μ μ1:=by subst e1; exact ⟨fun _ _ h=>h,fun b i v hv=>by simp only; rw [if_neg (hold b i v hv)]; exact hv⟩
 have hloc:∀ k,μ1 k = μ k:=fun k=>by subst e1; rfl
 have hd:=hA.rel.drop o
 refine ⟨μ1,⟨⟨⟨fun k x e m=>?_,fun k k' x x' q q' e e' m m' hb=>?_,fun k n A m cc k' x' q' e m1 e' m2=>?_,hd.wf⟩,fun b i v hv=>?_⟩,hA.tr.mono hs,hA.dm.mono hs,hA.ro.mono hs,fun k hk=>?_⟩,⟨fun k p _ h=>(by rw [hloc]; exact h),hs.fz,rfl,rfl,rfl,Nat.le_refl _,fun _ _ _=>rfl,fun k x q e m=>?_,fun b i v hv=>?_⟩,hloc,hs,fun i v hv=>?_⟩
 ·exact (hd.obj k x e (by rw [<- hloc]; exact m)).keep hs (Nat.le_refl _) (fun _ _=>rfl) (fun _ _ _ _ _ _ _ _=>rfl)
 ·exact hd.inj k k' x x' q q' e e' (by rw [<- hloc]; exact m) (by rw [<- hloc]; exact m') hb
 ·exact hd.nat k n A m cc k' x' q' e (by rw [<- hloc]; exact m1) e' (by rw [<- hloc]; exact m2)
 ·subst e1
  simp only at hv
  split at hv
  ·next e =>
   subst e
   refine ⟨rm hv,hv,fun k x q e m eb=>?_⟩
   exact (hsub k x e).2 (hA.rel.inj k o x _ q p (hsub k x e).1 ho m h1 eb)
  obtain ⟨z1,z2,z3⟩:=hd.fz b i v hv
  exact ⟨z1,z2,fun k x q e m=>z3 k x q e m⟩
 ·rw [hloc]; exact hA.fresh k hk
 ·exact .inr ⟨k,x,q,(hsub k x e).1,by rw [<- hloc]; exact m,rfl⟩
 ·subst e1
  simp only at hv
  split at hv
  ·next e=>exact .inr (.inr (.inl ⟨o,_,p,ho,h1,e.symm⟩))
  exact .inl hv
 subst e1
 simp only [if_true]
 exact hv
theorem rB {μ μ':Mu} (h:∀ b i v,μ.fz b i = some v->μ'.fz b i = some v):∀ {es:List AE} {l:List MapEntry},(∀ e ∈ es,bare e.key = true/\bare e.val = true)->gf μ es l->gf μ' es l
 | [],_,_,e=>e
 | e :: es,_,hb,⟨k,v,l',e1,h1,h2,h3⟩ =>
  let ⟨b1,b2⟩:=hb e List.mem_cons_self
  ⟨k,v,l',e1,fi h _ b1 h1,fi h _ b2 h2,rB h (fun x hx=>hb x (List.mem_cons_of_mem _ hx)) h3⟩
theorem rA {μ:Mu}:∀ {es:List AE} {l:List MapEntry},gf μ es l->l.map (·.born) = es.map (·.born)
 | [],_,h=>by simp only [gf] at h; subst h; rfl
 | _ :: _,_,⟨_,_,_,e,_,_,h⟩=>by subst e; simp [rA h]
theorem tM {μ:Mu}:∀ {es:List AE} {l:List MapEntry},gf μ es l->ao μ (es.map (·.key)) (l.map (·.key))/\ao μ (es.map (·.val)) (l.map (·.val))
 | [],_,h=>by simp only [gf] at h; subst h; exact ⟨ao.nil_,ao.nil_⟩
 | _ :: _,_,⟨_,_,_,e,h1,h2,h⟩=>by
  subst e
  obtain ⟨a,b⟩:=tM h
  exact ⟨ao.cons h1 a,ao.cons h2 b⟩
theorem FH {μ:Mu} {es es':List AE} (hp:es'.Perm es):∀ {l:List MapEntry},gf μ es l->∃ l',l'.Perm l/\gf μ es' l':=by
 induction hp with
 | nil=>intro l h; exact ⟨l,.refl _,h⟩
 | cons e _ ih =>
  intro l h
  obtain ⟨k,v,l1,rfl,h1,h2,h3⟩:=h
  obtain ⟨l2,g1,g2⟩:=ih h3
  exact ⟨_ :: l2,g1.cons _,k,v,l2,rfl,h1,h2,g2⟩
 | swap x y t =>
  intro l h
  obtain ⟨k,v,l1,rfl,h1,h2,k',v',l2,rfl,h3,h4,h5⟩:=h
  exact ⟨_ :: _ :: l2,.swap _ _ _,k',v',_,rfl,h3,h4,k,v,l2,rfl,h1,h2,h5⟩
 | trans _ _ ih1 ih2 =>
  intro l h
  obtain ⟨l1,g1,g2⟩:=ih2 h
  obtain ⟨l2,g3,g4⟩:=ih1 g2
  exact ⟨l2,g3.trans g1,g4⟩
def yq (o:Nat) (es:List AE) (μ:Mu):Prop:=∀ p,μ o = some (.at_ p)->∃ l clock,μ.fz p.blk 0 = some (GW l clock)/\gf μ.blind es l/\(l.map (·.born)).Nodup/\∀ e ∈ l,e.born < clock
theorem Wk.frz_mp {o:Nat} {es es':List AE} (hp:es'.Perm es):Wk (yq o es) (.mp o) (.fm (es'.map (·.key)) (es'.map (·.val))):=⟨fun μ hH v hv=>by
 simp only [VR] at hv ⊢
 obtain ⟨p,hm,rfl⟩:=hv
 obtain ⟨l,clock,h1,h2,h3,h4⟩:=hH p hm
 obtain ⟨l',g1,g2⟩:=FH hp h2
 obtain ⟨g3,g4⟩:=tM g2
 exact ⟨p.blk,l,clock,l',rfl,h1,g1,h3,h4,g3,g4⟩,fun _=>rfl⟩
theorem At.freezeMp {bb:Nat} {μ:Mu} {ro:Option Nat} {a:Act} {w:World} (hA:At μ fr s ro a w) {o:Nat} {es:List AE} {clock:Nat} (ho:s.h.get o = some (.map es clock))(hb:∀ e ∈ es,bare e.key = true/\bare e.val = true)(hn:(es.map (·.born)).Nodup)(hlt:∀ e ∈ es,e.born < clock):∃ μ1,At μ1 fr (s.drop o) ro a w/\Fp bb μ s w μ1 (s.drop o) w/\yq o es μ1:=by
 cases hm:μ o with
 | none =>
  have hsub:∀ k x,(s.drop o).h.get k = some x->s.h.get k = some x:=fun k x e=>by
   simp only [St.drop,Tr.get_set] at e
   split at e
   ·cases e
   exact e
  exact ⟨μ,⟨hA.rel.drop o,hA.tr,hA.dm,hA.ro,hA.fresh⟩,⟨fun _ _ _ h=>h,fun _ _ _ h=>h,rfl,rfl,rfl,Nat.le_refl _,fun _ _ _=>rfl,fun k x p e m=>.inr ⟨k,x,p,hsub k x e,m,rfl⟩,fun _ _ _ h=>.inl h⟩,fun p h=>by rw [hm] at h; cases h⟩
 | some lc =>
  have hob:=hA.rel.obj o _ ho (by rw [hm]; simp)
  simp only [OR] at hob
  obtain ⟨p,l,h1,h2,h3⟩:=hob
  obtain ⟨μ1,g1,g2,g3,g4,g5⟩:=hA.freezeG (bb:=bb) ho h1
  refine ⟨μ1,g1,g2,fun q hq=>?_⟩
  rw [g3,h1] at hq
  cases hq
  refine ⟨l,clock,g5 0 _ (CU h2),rB (μ:=μ) (μ':=μ1.blind) (fun b i v hv=>g4.fz b i v hv) hb h3,by rw [rA h3]; exact hn,fun e he=>?_⟩
  have:e.born ∈ l.map (·.born):=List.mem_map.2 ⟨e,he,rfl⟩
  rw [rA h3] at this
  obtain ⟨x,hx,hxe⟩:=List.mem_map.1 this
  rw [<- hxe]
  exact hlt x hx
theorem Jd.freezeMp (rl:List Nat) {o:Nat} {es:List AE} {clock:Nat} (ho:s.h.get o = some (.map es clock))(hb:∀ e ∈ es,bare e.key = true/\bare e.val = true)(hn:(es.map (·.born)).Nodup)(hlt:∀ e ∈ es,e.born < clock)(h:DH (yq o es) rl fr (s.drop o) fr2 s2) (k:Jd P c fr2 s2 Q):Jd P c fr s Q :=
 Jd.swap (fun _ _ _ _ hA=>let ⟨_,h1,h2,h3⟩:=hA.freezeMp ho hb hn hlt; let ⟨h4,h5⟩:=h.at_ (fun _ h=>absurd h (Nat.not_lt_zero _)) h1 h3; ⟨_,h4,h2.trans h5⟩) k
end
end
section
mutual
def low (n:Nat):AV->Bool
 | .ptr o _=>Nat.blt o n
 | .sl o _ _ _=>Nat.blt o n
 | .nat _ | .yl _=>false
 | .mp o=>Nat.blt o n
 | .fn _ a b=>pL n a && pL n b
 | .ifc _ v=>low n v
 | .agg l=>pL n l
 | .tup l=>pL n l
 | _=>true
def pL (n:Nat):List AV->Bool
 | []=>true
 | x :: l=>low n x && pL n l
end
mutual
theorem wU (n:Nat):∀ x:AV,bare x = true->low n x = true
 | .ptr ..,h | .sl ..,h | .nat _,h | .yl _,h | .mp _,h=>by cases h
 | .fn _ a b,h=>by simp only [bare,Bool.and_eq_true] at h; simp only [low,gw n a h.1,gw n b h.2]; rfl
 | .ifc _ v,h=>by simp only [bare] at h; simp only [low,wU n v h]
 | .agg l,h=>by simp only [bare] at h; simp only [low,gw n l h]
 | .tup l,h=>by simp only [bare] at h; simp only [low,gw n l h]
 | .b _,_ | .i _ _,_ | .pnil,_ | .snil,_ | .num _,_ | .vw _ _,_ | .vp _ _,_ | .fm _ _,_ | .mnil,_ | .fnil,_ | .inil,_=>rfl
theorem gw (n:Nat):∀ l:List AV,aE l = true->pL n l = true
 | [],_=>rfl
 | x :: l,h=>by simp only [aE,Bool.and_eq_true] at h; simp only [pL,wU n x h.1,gw n l h.2]; rfl
end
theorem wT {n:Nat}:∀ {l:List AV},pL n l = true->∀ {i:Nat} {x:AV},l[i]? = some x->low n x = true
 | [],_,_,_,h=>by simp at h
 | y :: l,h,i,x,hx=>by
  simp only [pL,Bool.and_eq_true] at h
  cases i with
  | zero=>simp at hx; subst hx; exact h.1
  | succ i=>exact wT h.2 (by simpa using hx)
mutual
theorem uW {μ μ':Mu} {n:Nat} {ρ:Nat->Nat} (hl:∀ o l,o < n->μ o = some l->μ' (ρ o) = some l)(hz:∀ b i v,μ.fz b i = some v->μ'.fz b i = some v):∀ (x:AV) {v:Value},low n x = true->VR μ x v->VR μ' (kT ρ x) v
 | .b _,_,_,e | .i _ _,_,_,e | .pnil,_,_,e | .snil,_,_,e | .mnil,_,_,e | .fnil,_,_,e | .inil,_,_,e=>by simpa only [VR,kT] using e
 | .nat _,_,h,_ | .yl _,_,h,_=>by cases h
 | .ptr o _,_,h,e=>by
  simp only [low,Nat.blt_eq] at h
  simp only [VR,kT] at e ⊢
  obtain ⟨p,h1,h2⟩:=e
  exact ⟨p,hl o _ h h1,h2⟩
 | .sl o _ _ _,_,h,e=>by
  simp only [low,Nat.blt_eq] at h
  simp only [VR,kT] at e ⊢
  obtain ⟨p,c,h1,h2⟩:=e
  exact ⟨p,c,hl o _ h h1,h2⟩
 | .mp o,_,h,e=>by
  simp only [low,Nat.blt_eq] at h
  simp only [VR,kT] at e ⊢
  obtain ⟨p,h1,h2⟩:=e
  exact ⟨p,hl o _ h h1,h2⟩
 | .num n,_,_,e=>fi hz (.num n) rfl e
 | .vw c n,_,_,e=>fi hz (.vw c n) rfl e
 | .vp c n,_,_,e=>fi hz (.vp c n) rfl e
 | .fm a b,_,_,e=>fi hz (.fm a b) rfl e
 | .fn f a c,_,h,e=>by
  simp only [low,Bool.and_eq_true] at h
  simp only [VR,kT] at e ⊢
  obtain ⟨a',c',h0,h1,h2⟩:=e
  exact ⟨a',c',h0,nA hl hz a h.1 h1,nA hl hz c h.2 h2⟩
 | .ifc t x,_,h,e=>by
  simp only [low] at h
  simp only [VR,kT] at e ⊢
  obtain ⟨y,h0,h1⟩:=e
  exact ⟨y,h0,uW hl hz x h h1⟩
 | .agg l,_,h,e=>by
  simp only [low] at h
  simp only [VR,kT] at e ⊢
  obtain ⟨y,h0,h1⟩:=e
  exact ⟨y,h0,nA hl hz l h h1⟩
 | .tup l,_,h,e=>by
  simp only [low] at h
  simp only [VR,kT] at e ⊢
  obtain ⟨y,h0,h1⟩:=e
  exact ⟨y,h0,nA hl hz l h h1⟩
theorem nA {μ μ':Mu} {n:Nat} {ρ:Nat->Nat} (hl:∀ o l,o < n->μ o = some l->μ' (ρ o) = some l)(hz:∀ b i v,μ.fz b i = some v->μ'.fz b i = some v):∀ (l:List AV) {m:List Value},pL n l = true->ao μ l m->ao μ' (fT ρ l) m
 | [],_,_,e=>by simpa only [ao,fT] using e
 | x :: xs,_,h,e=>by
  simp only [pL,Bool.and_eq_true] at h
  simp only [ao,fT] at e ⊢
  obtain ⟨y,ys,h0,h1,h2⟩:=e
  exact ⟨y,ys,h0,uW hl hz x h.1 h1,nA hl hz xs h.2 h2⟩
end
def E7 (n:Nat):AO->Prop
 | .cells c _ _=>pL n c = true
 | .amap I=>∀ es,I es->∀ e ∈ es,bare e.key = true/\bare e.val = true
 | .defs=>True
 | _=>False
def uL (ρ:Nat->Nat):AO->AO
 | .cells c t op=>.cells (fT ρ c) t op
 | x=>x
theorem M9 {μ μ':Mu} {w:World} {n k:Nat} {ρ:Nat->Nat} (hl:∀ o l,o < n->μ o = some l->μ' (ρ o) = some l)(hz:∀ b i v,μ.fz b i = some v->μ'.fz b i = some v)(hk:k < n) {x:AO} (hx:E7 n x)(h:OR μ w k x):OR μ' w (ρ k) (uL ρ x):=by
 cases x <;> simp only [E7] at hx
 case cells c t op =>
  simp only [OR,uL] at h ⊢
  obtain ⟨p,cs,h1,h2,h3,h4,h5⟩:=h
  refine ⟨p,cs,hl _ _ hk h1,h2,h3,⟨by rw [oI]; exact h4.1,h4.2⟩,fun i y hy=>?_⟩
  rw [qM,Option.map_eq_some_iff] at hy
  obtain ⟨y0,hy0,rfl⟩:=hy
  obtain ⟨u,g1,g2⟩:=h5 i y0 hy0
  exact ⟨u,g1,uW hl hz y0 (wT hx hy0) g2⟩
 case amap I =>
  simp only [OR,uL] at h ⊢
  obtain ⟨p,l,c,es,h1,h2,h3,h4⟩:=h
  exact ⟨p,l,c,es,hl _ _ hk h1,h2,rB hz (hx es h4) h3,h4⟩
 case defs =>
  simp only [OR,uL] at h ⊢
  obtain ⟨p,h1,h2⟩:=h
  exact ⟨p,hl _ _ hk h1,h2⟩
section
variable {P:Program}
end
end
section
section
variable {P:Program}
theorem ss {f:FuncId} {fn:Func} {c:Code} {nt:Nat} (hco:cP P f = true)(hfn:P.funcs[f]? = some fn)(hn:fn.ntmps = nt)(hc:fn.body = some c) {g:List AV->St->Option (AV × St)}
  (H:∀ {args s v s'},g args s = some (v,s')->∃ (m:Nat) (v2:AV),aE args = true/\args.length <= nt/\v = kT (s.nx + ·) v2/\low m v2 = true/\s'.nx = s.nx + m/\(∀ o,o < s.nx->s'.h.get o = s.h.get o)/\(Wf s->∀ o,s.nx + m <= o->s'.h.get o = none) /\
   Jd P c ⟨f,nt,Tr.ofList args,none,[]⟩ ⟨.nil,0⟩ (aA P fn fun v' t=>v' = v2/\∀ k,k < m->∃ x,t.h.get k = some x/\E7 m x/\s'.h.get (s.nx + k) = some (uL (s.nx + ·) x))):ag P f g:=by
 subst hn
 intro args s v s' hg
 obtain ⟨m,v2,hb,hlen,hv,hlv,hsn,hold,hwf,hJ⟩:=H hg
 obtain ⟨N,hN⟩:∃ N,s.nx = N:=⟨_,rfl⟩
 rw [hN] at hv hsn hold hwf hJ
 refine ⟨⟨fL hco,by omega,fun hW o ho=>hwf hW o (by omega)⟩,?_⟩
 intro μ w vs n hR hvs hF
 have hW:Wf s:=hR.wf
 have hR0:bA μ.blind ⟨.nil,0⟩ w:=⟨⟨fun o x e=>(by cases e),fun o o' x x' p p' e=>(by cases e),fun o n A m c o' x' p' e=>(by cases e),fun o _=>rfl⟩,fun b i v hv=>let ⟨a,b,_⟩:=hR.fz b i v hv; ⟨a,b,fun o x p e=>(by cases e)⟩⟩
 have hv0:ao μ.blind args vs:=eF (μ:=μ) (μ':=μ.blind) (fun _ _ _ h=>h) args hb hvs
 refine CallsIn.mono (pA hfn hc hlen hJ n hR0 hv0 (fun _ _=>rfl)) ?_
 rintro e w' ⟨v1,v',t,μ',rfl,⟨rfl,hobj⟩,hR',hfp,hv'⟩
 have hbel:=hfp.below
 have hF':∀ o,N <= o->o < N + m->μ o = none:=fun o ho h2=>hF o (by omega) (by omega)
 obtain ⟨μ3,e3⟩:∃ μ3:Mu,μ3 = ⟨fun o=>if o < N then μ o else if o < N + m then μ' (o - N) else μ o,μ'.fz⟩:=⟨_,rfl⟩
 have l1:∀ o,o < N->μ3 o = μ o:=fun o h=>by subst e3; exact if_pos h
 have l2:∀ k,k < m->μ3 (N + k) = μ' k:=fun k h=>by
  subst e3
  show (if N + k < N then μ (N + k) else if N + k < N + m then μ' (N + k - N) else μ (N + k)) = _
  rw [if_neg (by omega),if_pos (by omega),Nat.add_sub_cancel_left]
 have l3:∀ o,N + m <= o->μ3 o = μ o:=fun o h=>by
  subst e3
  show (if o < N then μ o else if o < N + m then μ' (o - N) else μ o) = _
  rw [if_neg (by omega),if_neg (by omega)]
 have z3:μ3.fz = μ'.fz:=by subst e3; rfl
 have sub3:gY μ μ3:=by
  refine ⟨fun o l h=>?_,fun b i v hv=>by rw [z3]; exact hfp.fzm b i v hv⟩
  rcases Nat.lt_or_ge o N with h1 | h1
  ·rw [l1 o h1]; exact h
  rcases Nat.lt_or_ge o (N + m) with h2 | h2
  ·rw [hF' o h1 h2] at h; cases h
  rw [l3 o h2]; exact h
 have same:∀ g,g < w.heap.size->w'.heap[g]? = w.heap[g]?:=fun g hg=>hfp.blk g hg fun o x p e=>by cases e
 have lt:∀ o x p,s.h.get o = some x->μ o = some (.at_ p)->p.blk < w.heap.size:=fun o x p e m=>by
  obtain ⟨b,hb⟩:=(hR.obj o x e (by rw [m]; simp)).at_ m
  exact (Array.getElem?_eq_some_iff.1 hb).1
 have ge:∀ k x p,t.h.get k = some x->μ' k = some (.at_ p)->w.heap.size <= p.blk:=fun k x p e m=>by
  rcases hfp.own k x p e m with h | ⟨_,_,_,h,_⟩
  ·exact h
  cases h
 -- an object of the new state: an old one,or one of the callee's
 have hsplit:∀ o x,s'.h.get o = some x->(o < N/\s.h.get o = some x) ∨ ∃ k y,k < m/\o = N + k/\t.h.get k = some y/\E7 m y/\x = uL (N + ·) y:=fun o x e=>by
  rcases Nat.lt_or_ge o N with h | h
  ·rw [hold o h] at e; exact .inl ⟨h,e⟩
  rcases Nat.lt_or_ge o (N + m) with h2 | h2
  ·obtain ⟨y,q1,q2,q3⟩:=hobj (o - N) (by omega)
   rw [show N + (o - N) = o by omega,e] at q3
   cases q3
   exact .inr ⟨o - N,y,by omega,by omega,q1,q2,rfl⟩
  rw [hwf hW o h2] at e; cases e
 have nonat:∀ (y:AO) n,E7 m y->uL (N + ·) y ≠ .nat n:=fun y n h e=>by
  cases y <;> simp only [uL] at e <;> first | exact h.elim | cases e
 have hob:∀ o x,s'.h.get o = some x->μ3 o ≠ none->OR μ3 w' o x:=fun o x e hm=>by
  rcases hsplit o x e with ⟨h,e0⟩ | ⟨k,y,hk,rfl,q1,q2,rfl⟩
  ·rw [l1 o h] at hm
   exact (hR.obj o x e0 hm).keep sub3 hfp.size (fun p hp=>same _ (lt o x p e0 hp)) (fun A mm c hv ad hA hpos hlt=>same _ hlt)
  rw [l2 k hk] at hm
  exact M9 (ρ:=(N + ·)) (fun o l ho h=>by rw [l2 o ho]; exact h) (fun b i v h=>by rw [z3]; exact h) hk q2 (hR'.obj k y q1 hm)
 have place:∀ o x p,s'.h.get o = some x->μ3 o = some (.at_ p)->(o < N/\s.h.get o = some x/\μ o = some (.at_ p)/\p.blk < w.heap.size) ∨ ∃ k y,k < m/\o = N + k/\t.h.get k = some y/\μ' k = some (.at_ p)/\w.heap.size <= p.blk:=fun o x p e hm=>by
  rcases hsplit o x e with ⟨h,e0⟩ | ⟨k,y,hk,rfl,q1,q2,rfl⟩
  ·rw [l1 o h] at hm; exact .inl ⟨h,e0,hm,lt o x p e0 hm⟩
  rw [l2 k hk] at hm; exact .inr ⟨k,y,hk,rfl,q1,hm,ge k y p q1 hm⟩
 have hR3:bA μ3 s' w':=by
  refine ⟨⟨hob,fun o o' x x' p p' e e' hm hm' hb=>?_,fun o n A mm c o' x' p' e m1 e' m2'=>?_,fun o ho=>?_⟩,fun b i v hv=>?_⟩
  ·rcases place o x p e hm with ⟨h,a1,a2,a3⟩ | ⟨k,y,hk,rfl,a1,a2,a3⟩ <;> rcases place o' x' p' e' hm' with ⟨h',b1,b2,b3⟩ | ⟨k',y',hk',rfl,b1,b2,b3⟩
   ·exact hR.inj _ _ _ _ _ _ a1 b1 a2 b2 hb
   ·omega
   ·omega
   rw [hR'.inj _ _ _ _ _ _ a1 b1 a2 b2 hb]
  ·refine AY (hob o _ e (by rw [m1]; simp)) m1 (hob o' x' e' (by rw [m2']; simp)) m2' fun n' hx=>?_
   subst hx
   rcases hsplit o' _ e' with ⟨h,e0⟩ | ⟨k,y,hk,rfl,q1,q2,q3⟩
   ·rw [l1 o' h] at m2'
    have:=hR.obj o' _ e0 (by rw [m2']; simp)
    simp only [OR] at this
    obtain ⟨_,_,_,h1,_⟩:=this
    rw [h1] at m2'
    cases m2'
   exact nonat y n' q2 q3.symm
  ·exact hwf hW o (by omega)
  rw [z3] at hv
  obtain ⟨g1,g2,g3⟩:=hR'.fz b i v hv
  refine ⟨g1,g2,fun o x p e hm eb=>?_⟩
  rcases place o x p e hm with ⟨h,a1,a2,a3⟩ | ⟨k,y,hk,rfl,a1,a2,a3⟩
  ·rcases hfp.fz b i v hv with h4 | h4 | ⟨_,_,_,h4,_⟩ | h4
   ·exact (hR.fz b i v h4).2.2 o x p a1 a2 eb
   ·omega
   ·cases h4
   exact (hob o x e (by rw [hm]; simp)).nodig hm ⟨i,v,by rw [eb]; exact d8 g2 (lj h4),h4⟩
  exact g3 k y p a1 a2 eb
 refine ⟨v',μ3,rfl,hR3,⟨sub3,fun o h1 h2=>?_,by omega,hfp.os,hfp.tape,hfp.output,hfp.size,fun g hg _=>same g hg,fun o x p e hm=>?_,fun o _ h2=>hold o (by omega),fun b i v hv=>?_⟩,?_⟩
 ·rcases Nat.lt_or_ge o N with h | h
  ·rw [l1 o h] at h2; exact absurd h1 h2
  rcases Nat.lt_or_ge o (N + m) with h3 | h3
  ·exact ⟨by omega,by omega⟩
  rw [l3 o h3] at h2; exact absurd h1 h2
 ·rcases place o x p e hm with ⟨h,a1,a2,a3⟩ | ⟨k,y,hk,rfl,a1,a2,a3⟩
  ·exact .inr ⟨o,x,p,a1,a2,rfl⟩
  exact .inl a3
 ·rw [z3] at hv
  rcases hfp.fz b i v hv with h4 | h4 | ⟨_,_,_,h4,_⟩ | h4
  ·exact .inl h4
  ·exact .inr (.inl h4)
  ·cases h4
  exact .inr (.inr (.inr h4))
 rw [hv]
 exact uW (fun o l ho h=>by rw [l2 o ho]; exact h) (fun b i v h=>by rw [z3]; exact h) v1 hlv hv'
end
end
section
section
variable {P:Program}
def eN (args:List AV) (s:St):Option (AV × St) :=
 match args with
 | [x]=>(jH s x).bind fun qs=>cond (Nat.ble qs.length 1000000) (some (.b (cG qs),s)) none
 | _=>none
theorem xJ {f:FuncId} (hco:cP P f = true)(hC:∀ w v qs,bz 64 w v qs->(qs.length + 1) * (2 * 64) <= 549755813888->Calls P f #[v] w fun e w'=>e = .returned (.bool (cG qs))/\Below w.heap.size w w'):ag P f eN:=by
 intro args s v s' h
 unfold eN at h
 split at h
 ·next x =>
  simp only [Option.bind_eq_some_iff] at h
  obtain ⟨qs,hq,h⟩:=h
  obtain ⟨hc,h⟩:=aj h
  simp only [Nat.ble_eq] at hc
  simp only [Option.some.injEq,Prod.mk.injEq] at h
  obtain ⟨rfl,rfl⟩:=h
  refine ⟨⟨fL hco,Nat.le_refl _,id⟩,?_⟩
  intro μ w vs n hR hvs hF
  simp only [ao] at hvs
  obtain ⟨y,_,rfl,ha,rfl⟩:=hvs
  exact kR hR (by simp [VR]) (hC w y qs (ww hR hq ha) (by omega))
 cases h
end
theorem rQ:ag Tryz.prog 98 eN:=xJ (by kernel_rfl) fun w v qs h hk=>lX w 64 v qs h (by omega) (by omega)
theorem um:ag Tryz.prog 173 eN:=xJ (by kernel_rfl) fun w v qs h hk=>lW w 64 v qs h (by omega) hk
theorem fW {l:List AV} {n:Nat} (h:l.length = n):getR l 0 n = some l:=qi h fun j hj=>by rw [Nat.zero_add]
theorem gz {l:List RF} (h:∀ x ∈ l,x.Ok)(hl:l.length <= 1000000) (s:St):eN [bF l] s = some (.b (cG (iY l)),s):=by
 have h1:jH s (bF l) = some (iY l):=by
  unfold jH
  simp only [bF,cA,fW (gg l),Option.bind_some,mZ h,cond_true,jJ,iX h]
 unfold eN
 simp only [h1,Option.bind_some,show Nat.ble (iY l).length 1000000 = true by simp [iY]; omega,cond_true]
def zm (args:List AV) (s:St) (v:AV) (s':St):Prop:=∃ r:List RF,args = [bF r]/\(∀ x ∈ r,x.Ok)/\1 <= r.length/\r.length <= 1000/\v = .sl s.nx 0 r.length (cW + 3)/\s' = s.new (.cells (jO r) 30 true)
theorem F5 {r:List RF} (h:∀ x ∈ r,x.Ok)(h1:1 <= r.length)(h2:r.length <= 1000) (s:St):relS zm [bF r] s = some (.sl s.nx 0 r.length (cW + 3),s.new (.cells (jO r) 30 true)):=by
 refine Hy ?_ ⟨r,rfl,h,h1,h2,rfl,rfl⟩
 rintro v' s2 ⟨r',e,_,_,_,rfl,rfl⟩
 simp only [List.cons.injEq,and_true] at e
 obtain rfl:=gI e
 exact ⟨rfl,rfl⟩
theorem I8 {s:St} {x:AO} {o:Nat} (h:o < s.nx):(s.new x).h.get o = s.h.get o:=Tr.get_set_ne _ _ (by omega)
theorem Fq (s:St) (x:AO):(s.new x).h.get s.nx = some x:=Tr.get_set_same _ _ _
theorem LQ {P:Program} {t e:TypeId} {z:Nat} {zv:AV} (hu:P.underlying t = some (.slice e))(hz:bP P e = some zv)(hc:zk P e zv z = true) (o n:Nat) (s:St) {e':TypeId} {op:Bool} {c:List AV} (ho:s.h.get o = some (.cells [] e' op))(hl:c.length = n * z)(hf:c.all flat = true)(hn:1 <= n)(hm:n * z <= 1000000) :
  lH P t t (.sl o 0 0 0) (.vw c n) s = some (.sl s.nx 0 n (cW + z),s.new (.cells c e true)):=by
 obtain ⟨i,hi,h1,h3,h2,h4,rfl,h6⟩:=kD hc
 have hb:0 < i.size:=by simpa [Nat.blt_eq] using h2
 have hg:getR ([]:List AV) 0 0 = some []:=rfl
 have hbig:=gA
 unfold lH
 simp only [hu,fR,hi,hz,cA,ho,Nat.zero_mul,hg,fW hl,Option.bind_some,hf,cond_true,List.length_nil,Nat.zero_add,h1,h2,h3,h4,hl,cQ hm,Bool.true_and,Bool.and_true,Nat.mul_div_cancel _ hb,List.nil_append]
 rw [show Nat.blt 0 cW = true from eE (by omega),cond_true,show Nat.ble n 0 = false from by
  cases h:Nat.ble n 0 with
  | false=>rfl
  | true=>have:=Nat.le_of_ble_eq_true h; omega]
 rfl
theorem JA (c:List AV) (n:Nat):lG Tryz.prog .eql 31 (.vw c (n + 1)) .snil = some (.b false):=by
 simp only [lG,Tryz.underlying31]
 rfl
theorem LM {X:dY} {E:Ev} {ρ:Operand->Option AV} {s:St} {K:AV->St->Prop}:cZ Tryz.prog X E ρ s (.buildSlice 31 0 #[]) K = K (.sl s.nx 0 0 0) (s.new (.cells [] 30 false)) :=
 Ku Tryz.underlying31 (show bP Tryz.prog 30 = some (.agg [.b false,.snil,.snil]) by kernel_rfl) (show bk Tryz.prog 30 = some 3 by kernel_rfl) 0 [] (fun j hj=>absurd hj (Nat.not_lt_zero _)) (by kernel_rfl) #[] rfl
theorem GI:ag Tryz.prog 199 (relS zm):=by
 obtain ⟨E,M⟩:=qX
 refine ss (by kernel_rfl) Tryz.func199 Tryz.ntmps199 rfl ?_
 intro args s v s' h
 obtain ⟨r,rfl,ok,h1,h2,rfl,rfl⟩:=Cs h
 refine ⟨1,.sl 0 0 r.length (cW + 3),rfl,Nat.le_of_ble_eq_true rfl,rfl,rfl,rfl,fun o ho=>I8 ho,fun hw o ho=>(Tr.get_set_ne _ _ (by omega)).trans (hw o (by omega)),?_⟩
 suffices hJ:∀ n:Nat,r.length = n + 1->Jd Tryz.prog _ ⟨_,_,Tr.ofList [.vw (jO r) (n + 1)],none,[]⟩ ⟨.nil,0⟩ (aA Tryz.prog Tryz.f199 fun v' t=>v' = .sl 0 0 (n + 1) (cW + 3)/\t.h.get 0 = some (.cells (jO r) 30 true)) by
  have hn:r.length = (r.length - 1) + 1:=by omega
  have h9:=hJ _ hn
  rw [<- hn] at h9
  refine Jd.mono h9 fun ex fr _ q=>aA.mono (fun v' t hv=>⟨hv.1,fun k hk=>?_⟩) q
  obtain rfl:k = 0:=by omega
  exact ⟨_,hv.2,gw _ _ (dH ok),(Fq s _).trans (by simp only [uL]; rw [eP _ _ (dH ok)])⟩
 intro n hn
 rw [bT,St.of_nil]
 have hl:=gg r
 have hf:=mZ ok
 rw [hn] at hl
 have ha:=fun s o e op h=>LQ (P:=Tryz.prog) Tryz.underlying31 (show bP Tryz.prog 30 = some (.agg [.b false,.snil,.snil]) by kernel_rfl) (show zk Tryz.prog 30 (.agg [.b false,.snil,.snil]) 3 = true by kernel_rfl) o (n + 1) s (e':=e) (op:=op) h hl hf (by omega) (by omega)
 refine aZ M ?_
 refine Jd.seq ?_
 refine rg M @JA ?_
 refine lF rfl ?_
 refine rg M (ax @LM (ha (St.of [(0,some (.cells [] 30 false))] 1) 0 30 false (by rw [St.of_get]; rfl))) ?_
 refine Jb.toL (nx2:=1) [1] [(2,.sl 0 0 (n + 1) (cW + 3))] [(0,some (.cells (jO r) 30 true))] rfl (by decide) (by first | exact aY | exact base_one | exact base_two) (by repeat' first | exact trivial | refine ⟨⟨_,rfl,by first | exact bU.same (dH ok) | exact Wk.refl _ _ | exact Wk.bare rfl | exact Wk.zero _ | exact Wk.none _⟩,?_⟩) (by repeat' first | exact trivial | refine ⟨⟨Nat.le_of_ble_eq_true rfl,_,_,rfl,rfl,by first | exact bU.same (dH ok) | exact bU.same rfl | exact bU.same (fr_bare _) | exact bU.same (bs_bare _) | exact bU.same (is_bare _) | exact bU.cells rfl⟩,?_⟩) ?_
 exact Jd.ret (aA.one rfl rfl ⟨rfl,by rw [St.of_get]; rfl⟩)
def oA (d:List RF × RF):List AV:=[bF d.1,.agg (rC d.2)]
theorem zb (d d':List RF × RF)(h:oA d = oA d'):d = d':=by
 obtain ⟨r,x⟩:=d; obtain ⟨r',x'⟩:=d'
 simp only [oA,List.cons.injEq,and_true] at h
 obtain rfl:=gI h.1
 rw [EL _ _ (vy h.2)]
def IH (d:List RF × RF):Prop:=(∀ x ∈ d.1,x.Ok)/\d.2.Ok/\1 <= d.1.length/\d.1.length <= 1000
noncomputable def leavingV:=ofE oA IH fun d=>bF (d.1 ++ [d.2])
theorem mY (r:List RF) (x:RF):jO (r ++ [x]) = jO r ++ rC x:=by simp [jO]
theorem zz:ag Tryz.prog 285 (ae leavingV):=by
 obtain ⟨E,M,c1⟩:=i3 (relS zm) GI rfl
 refine ai (by kernel_rfl) Tryz.func285 Tryz.ntmps285 rfl ?_
 intro args v h
 obtain ⟨⟨r,x⟩,⟨ok,okx,h1,h2⟩,rfl,rfl⟩:=aB h
 refine ⟨by simp only [oA,aE,bare,okx.bare]; rfl,rfl,Nat.le_of_ble_eq_true rfl,?_⟩
 unfold oA
 dsimp only at ok okx h1 h2 ⊢
 rw [bS,St.of_nil]
 have hc:=F5 ok h1 h2
 have hl:=gg r
 refine rg M @okx.flat ?_
 refine dr M [] (ax @c1 (ax @hc (ax (show getR (rC x) 0 3 = some (rC x) from rfl) (ax @okx.flat @fE)))) ?_
 refine Jd.freezeL (nx2:=0) 3 (jO r ++ rC x) [] [(4,.vw (jO r ++ rC x) (r.length + 1))] [] rfl ?_ rfl (by decide) (by repeat' first | exact trivial | refine ⟨⟨_,rfl,by first | exact Wk.frz_sl (off:=0) (by have:=gA; omega) | exact Wk.refl _ _ | exact Wk.bare rfl | exact Wk.zero _ | exact Wk.none _⟩,?_⟩) (trivial) ?_
 ·rw [cR,dH ok,okx.bare]; rfl
 exact Jd.ret (aA.one rfl rfl (by show _ = AV.vw (jO (r ++ [x])) (r ++ [x]).length; rw [mY,List.length_append]; rfl))
end
section
def sS:List AV->Option (List Rat)
 | []=>some []
 | a :: b :: c :: l=>match jp (.agg [a,b,c]),sS l with
  | some q,some r=>some (q :: r)
  | _,_=>none
 | _=>none
def EJ (s:St) (x:AV):Option (List Rat):=match cA s 3 x with
 | some l=>cond (jJ x) (sS l) none
 | none=>none
section
variable {P:Program} {μ:Mu} {s:St} {w w':World}
theorem wt (h:bA μ s w):∀ {l:List AV} {m:List Value} {qs:List Rat},sS l = some qs->ao μ l m->m.length = qs.length * 3/\∀ (i:Nat) (q:Rat),qs[i]? = some q->∃ c0 c1 c2,m[i * 3]? = some c0/\m[i * 3 + 1]? = some c1/\m[i * 3 + 2]? = some c2/\az mf w (.agg #[c0,c1,c2]) q
 | [],m,qs,hx,hv=>by
  simp only [sS,Option.some.injEq] at hx
  subst hx
  simp only [ao] at hv
  subst hv
  simp
 | [_],_,_,hx,_ | [_,_],_,_,hx,_=>by simp [sS] at hx
 | a :: b :: c :: l,m,qs,hx,hv=>by
  simp only [sS] at hx
  split at hx
  ·next q r hq hr =>
   simp only [Option.some.injEq] at hx
   subst hx
   simp only [ao] at hv
   obtain ⟨y0,_,rfl,g0,y1,_,rfl,g1,y2,m',rfl,g2,hl⟩:=hv
   obtain ⟨k1,k2⟩:=wt h hr hl
   refine ⟨by simp [k1]; omega,fun i q' hq'=>?_⟩
   cases i with
   | zero =>
    simp at hq'
    subst hq'
    exact ⟨y0,y1,y2,rfl,rfl,rfl,jo h hq (v:=.agg #[y0,y1,y2]) (by simp only [VR]; exact ⟨[y0,y1,y2],rfl,ao.cons g0 (ao.cons g1 (ao.cons g2 ao.nil_))⟩) pr.1 pr.2⟩
   | succ i =>
    obtain ⟨c0,c1,c2,e0,e1,e2,e3⟩:=k2 i q' (by simpa using hq')
    refine ⟨c0,c1,c2,?_,?_,?_,e3⟩
    ·rw [show (i + 1) * 3 = i * 3 + 1 + 1 + 1 by omega]; simpa using e0
    ·rw [show (i + 1) * 3 + 1 = i * 3 + 1 + 1 + 1 + 1 by omega]; simpa using e1
    rw [show (i + 1) * 3 + 2 = i * 3 + 2 + 1 + 1 + 1 by omega]; simpa using e2
  cases hx
theorem EI (h:bA μ s w) {x:AV} {v:Value} {qs:List Rat} (hx:EJ s x = some qs)(hv:VR μ x v):bz mf w v qs:=by
 unfold EJ at hx
 split at hx
 ·next l hl =>
  obtain ⟨hc,hx⟩:=aj hx
  obtain ⟨n,m,h1,h2,h3⟩:=m7 h (by omega) hl hv hc
  obtain ⟨g1,g2⟩:=wt h hx h2
  have hn:n = qs.length:=by have:=h2.length; omega
  subst hn
  exact ⟨m,h1,g2⟩
 cases hx
def AF (args:List AV) (s:St):Option (AV × St) :=
 match args with
 | [x]=>(EJ s x).bind fun qs=>cond (Nat.ble qs.length 7) (some (fq (pj qs),s)) none
 | _=>none
theorem Ie {f:FuncId} (hco:cP P f = true)(hC:∀ w k v qs,bz k w v qs->0 < k->(qs.length + 1) * (2 * k) <= 4398046511104->Calls P f #[v] w fun e w'=>∃ u,e = .returned u/\ay w.heap.size w' u (pj qs)/\Below w.heap.size w w'):ag P f AF:=by
 intro args s v s' h
 unfold AF at h
 split at h
 ·next x =>
  simp only [Option.bind_eq_some_iff] at h
  obtain ⟨qs,hq,h⟩:=h
  obtain ⟨hc,h⟩:=aj h
  simp only [Nat.ble_eq] at hc
  simp only [Option.some.injEq,Prod.mk.injEq] at h
  obtain ⟨rfl,rfl⟩:=h
  refine ⟨⟨fL hco,Nat.le_refl _,id⟩,?_⟩
  intro μ w vs n hR hvs hF
  simp only [ao] at hvs
  obtain ⟨y,_,rfl,ha,rfl⟩:=hvs
  refine j8 hR (hC w mf y qs (EI hR hq ha) (by unfold mf; omega) ?_)
  have:(qs.length + 1) * (2 * mf) <= 8 * (2 * mf):=Nat.mul_le_mul_right _ (by omega)
  refine Nat.le_trans this ?_
  unfold mf
  omega
 cases h
end
theorem JH:ag Tryz.prog 43 AF:=Ie (by kernel_rfl) fun w k v qs h h0 hk=>Kg w k v qs h h0 hk
end
end Go.Proofs.YtkdhppimhdemjaaGreat
namespace Go.Proofs
open Go.Shelf
def Tryz.lays125_ren:Go.Shelf.Ren:=⟨fun | 125=>157 | 128=>235 | 129=>236 | n=>n,fun | 51=>199 | 53=>136 | 3=>3 | 4=>4 | 46=>209 | 5=>5 | 9=>9 | n=>n,fun | n=>n⟩
theorem Tryz.lays125:Go.Proofs.Lays.n125 Tryz.prog Tryz.lays125_ren:={
 mixed:=by kernel_rfl
 f125:=Tryz.func157.trans (congrArg some (by kernel_rfl))
 f128:=Tryz.func235.trans (congrArg some (by kernel_rfl))
 f129:=Tryz.func236.trans (congrArg some (by kernel_rfl))
 t3:=Tryz.underlying3
 a3:=Tryz.isAgg3
 z3:=Tryz.sizeOf3
 v3:=Tryz.zeroValue3
 t4:=Tryz.underlying4
 a4:=Tryz.isAgg4
 z4:=Tryz.sizeOf4
 v4:=Tryz.zeroValue4
 t5:=Tryz.underlying5
 a5:=Tryz.isAgg5
 z5:=Tryz.sizeOf5
 v5:=Tryz.zeroValue5
 t9:=Tryz.underlying9
 a9:=Tryz.isAgg9
 z9:=Tryz.sizeOf9
 v9:=Tryz.zeroValue9
 t46:=Tryz.underlying209
 a46:=Tryz.isAgg209
 z46:=Tryz.sizeOf209
 v46:=Tryz.zeroValue209
 t51:=Tryz.underlying199
 a51:=Tryz.isAgg199
 z51:=Tryz.sizeOf199
 v51:=Tryz.zeroValue199
 t53:=Tryz.underlying136
 a53:=Tryz.isAgg136
 z53:=Tryz.sizeOf136
 v53:=Tryz.zeroValue136 }
theorem Tryz.bits_Len (x:Int) (w:World)(h0:0 <= x)(h1:x <= 18446744073709551615) :
  Calls Tryz.prog 157 #[.int .u64 x] w fun e w'=>e = .returned (.int .i64 (Lib.bitLen x.toNat))/\w' = w:=Any.bits_Len Tryz.lays125 x w h0 h1
end Go.Proofs
namespace Go.Proofs.YtkdhppimhdemjaaGreat
open Go.RowKit
section
section
variable {P:Program}
def Gf (args:List AV) (s:St):Option (AV × St) :=
 match args with
 | [.i .u64 x]=>cond (decide (0 <= x) && decide (x <= 18446744073709551615)) (some (.i .i64 (Lib.bitLen x.toNat),s)) none
 | _=>none
theorem Jw {f:FuncId} (hco:cP P f = true)(hC:∀ (x:Int) (w:World),0 <= x->x <= 18446744073709551615->Calls P f #[.int .u64 x] w fun e w'=>e = .returned (.int .i64 (Lib.bitLen x.toNat))/\w' = w):ag P f Gf:=by
 intro args s v s' h
 unfold Gf at h
 split at h
 ·next x =>
  obtain ⟨hc,h⟩:=aj h
  simp only [Bool.and_eq_true,decide_eq_true_eq] at hc
  simp only [Option.some.injEq,Prod.mk.injEq] at h
  obtain ⟨rfl,rfl⟩:=h
  refine ⟨⟨fL hco,Nat.le_refl _,id⟩,?_⟩
  intro μ w vs n hR hvs hF
  simp only [ao,VR] at hvs
  obtain ⟨a,_,rfl,rfl,rfl⟩:=hvs
  exact kR hR (by simp [VR]) ((hC x w hc.1 hc.2).mono fun e w' ⟨h1,h2⟩=>⟨h1,by subst h2; exact Below.refl _ _⟩)
 cases h
end
def KZ:List (FuncId × (List AV->St->Option (AV × St))) :=
 [(48,ae (ui (· + ·))),(42,ae (ui (· * ·))),(40,ae DC),(45,ae (rK id)),(59,ae iU),(60,ae sp),(43,AF),(98,eN),
  (31,ae A8),(17,ae DC),(30,ae Az),(96,gp),(114,Bf Na zD),(157,Gf)]
theorem Ii:∀ p ∈ KZ,ag Tryz.prog p.1 p.2:=by
 unfold KZ
 simp only [List.forall_mem_cons]
 exact ⟨L7,L0,Kq,GJ,BF,GH,JH,rQ,Gy,zy,Gw,ul,zA,Jw (by kernel_rfl) Tryz.bits_Len,fun p h=>by cases h⟩
def Lx:dY:=⟨fun f=>pick f KZ,fun _ _=>none⟩
theorem EU:GN Tryz.prog Lx:=fun {f g} h=>pZ Ii h
theorem E5:mI Tryz.prog Lx:=by
 intro t m f via h
 cases h
theorem yN (k:Nat):cX Tryz.prog (Ev.at_ Tryz.prog Lx k):=x7 i6 ju E5 EU k
def oV:AV:=.agg [.b false,.snil,.snil,.b false,.snil,.snil,.b false,.snil,.snil,.i .i64 0,.b false]
theorem vx:ag Tryz.prog 15 (ae (Bx [.agg [.snil],.agg [.snil]] (.b true))):=mH (yN 1000) (by decide +kernel) rfl
theorem su:ag Tryz.prog 19 (ae (Bx [oV,oV] (.b true))):=mH (yN 1000) (by decide +kernel) rfl
end
theorem Dq:ag Tryz.prog 7 (ae (Bx [] (.b true))):=mH (yN 100000) (by decide +kernel) rfl
end Go.Proofs.YtkdhppimhdemjaaGreat
