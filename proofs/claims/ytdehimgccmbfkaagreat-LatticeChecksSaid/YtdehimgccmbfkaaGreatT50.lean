/- Lemmas on the way: Jr1, Jr2. -/
import Derived.Test.YtdehimgccmbfkaaGreatT49
set_option linter.all false
set_option maxRecDepth 1000000
set_option maxHeartbeats 32000000
namespace Go.Proofs.YtdehimgccmbfkaaGreat
open Go.RowKit
section
theorem Kp.of_below {w w':World} (h:Below w.heap.size w w') (Y:Nat->Prop):Kp Y w w':=⟨⟨h.os,h.tape,h.output,h.size⟩,fun g hg _=>h.block g hg⟩
theorem putObj_amb (w:World) (g:Nat) (O:Obj):Amb w (w.putObj g O):=⟨rfl,rfl,rfl,by rw [World.putObj_size]; exact Nat.le_refl _⟩
theorem putObj_kp (w:World) (g:Nat) (O:Obj) {Y:Nat->Prop} (h:¬ Y g):Kp Y w (w.putObj g O):=⟨putObj_amb w g O,fun k _ hk=>World.putObj_heap_other (fun e=>h (e ▸ hk))⟩
theorem Kp.trans {Y:Nat->Prop} {a b c:World} (h:Kp Y a b) (k:Kp Y b c):Kp Y a c:=⟨h.amb.trans k.amb,fun g hg hy=>(k.same g (Nat.lt_of_lt_of_le hg h.amb.size) hy).trans (h.same g hg hy)⟩
theorem open_round {μ:Mu} {s:St} {W:World} {ψ:Nat->Nat->Option Value} {Z Y:Nat->Prop} (h:Rel μ s W)(hF:∀ o,s.nx <= o->μ o = none)(hψ:FzW ψ Z Y W)(ho:∀ g,ownB μ s g->¬ Y g) (lb:Nat)(hl:¬ ownB μ s lb) :
  ∃ μ1:Mu,Rel μ1 ⟨s.h,s.nx + 1⟩ W/\Sub μ μ1/\(∀ b i v,ψ b i = some v->μ1.fz b i = some v)/\μ1 s.nx = some (.at_ ⟨lb,0,0⟩)/\(∀ o,s.nx + 1 <= o->μ1 o = none)/\(∀ b i v,μ1.fz b i = some v->μ.fz b i = some v ∨ ψ b i = some v)/\(∀ o,o ≠ s.nx->μ1 o = μ o):=by
 obtain ⟨μ1,e1⟩:∃ μ1:Mu,μ1 = ⟨fun o=>if o = s.nx then some (.at_ ⟨lb,0,0⟩) else μ o,fun b i=>match ψ b i with | some v=>some v | none=>μ.fz b i⟩:=⟨_,rfl⟩
 have hne:∀ o x,s.h.get o = some x->o ≠ s.nx:=fun o x e hn=>by
  have:=h.wf o (by omega)
  rw [this] at e
  cases e
 have hloc:∀ o,o ≠ s.nx->μ1 o = μ o:=fun o ho=>by subst e1; exact if_neg ho
 have hfz:∀ b i v,μ.fz b i = some v->μ1.fz b i = some v:=fun b i v hv=>by
  subst e1
  simp only
  cases hp:ψ b i with
  | none=>exact hv
  | some u =>
   have h1:=(hψ b i u hp).2.1
   have h2:=(h.fz b i v hv).2.1
   rw [h1] at h2
   exact h2
 have hs:Sub μ μ1:=⟨fun o l e=>by
  by_cases hn:o = s.nx
  ·rw [hF o (by omega)] at e; cases e
  rw [hloc o hn]; exact e,hfz⟩
 have hfz':∀ b i v,μ1.fz b i = some v->μ.fz b i = some v ∨ ψ b i = some v:=fun b i v hv=>by
  subst e1
  simp only at hv
  cases hp:ψ b i with
  | none=>rw [hp] at hv; exact .inl hv
  | some u=>rw [hp] at hv; exact .inr hv
 refine ⟨μ1,⟨⟨fun o x e m=>?_,fun o o' x x' p p' e e' m m' hb=>?_,fun o n A mm c o' x' p' e m1 e' m2=>?_,fun o ho=>h.wf o (by have:s.nx + 1 <= o:=ho; omega)⟩,fun b i v hv=>?_⟩,hs,fun b i v hv=>by subst e1; simp only [hv],by subst e1; exact if_pos rfl,fun o ho=>by rw [hloc o (by omega)]; exact hF o (by omega),fun b i v hv=>?_,hloc⟩
 ·refine (h.obj o x e (by rw [<- hloc o (hne o x e)]; exact m)).keep hs (Nat.le_refl _) (fun _ _=>rfl) (fun _ _ _ _ _ _ _ _=>rfl)
 ·rw [hloc o (hne o x e)] at m
  rw [hloc o' (hne o' x' e')] at m'
  exact h.inj o o' x x' p p' e e' m m' hb
 ·rw [hloc o (hne o _ e)] at m1
  rw [hloc o' (hne o' x' e')] at m2
  exact h.nat o n A mm c o' x' p' e m1 e' m2
 ·rcases hfz' b i v hv with h1 | h1
  ·obtain ⟨z1,z2,z3⟩:=h.fz b i v h1
   exact ⟨z1,z2,fun o x p e m=>z3 o x p e (by rw [<- hloc o (hne o x e)]; exact m)⟩
  obtain ⟨z1,z2,z3⟩:=hψ b i v h1
  refine ⟨z1,z2,fun o x p e m hb=>?_⟩
  rw [hloc o (hne o x e)] at m
  exact ho b ⟨o,x,p,e,m,hb⟩ z3.1
 exact hfz' b i v hv
theorem loop_no_cell {w:World} {g i:Nat} {r:Loop} (h:w.heap[g]? = some (.loop r)):w.cell? ⟨g,i,none⟩ = none:=by simp [World.cell?,h]
theorem defs_no_cell {w:World} {g i:Nat} {r:Option (List Deferred)} (h:w.heap[g]? = some (.deferred r)):w.cell? ⟨g,i,none⟩ = none:=by simp [World.cell?,h]
theorem no_ter {μ:Mu} {s:St} {w:World} (h:Rel μ s w) {g:Nat} {r:Loop} (hl:w.heap[g]? = some (.loop r))(ho:¬ ownB μ s g):¬ terB μ s g:=by
 rintro (h1 | ⟨i,v,hv⟩)
 ·exact ho h1
 have:=(h.fz g i v hv).2.1
 rw [loop_no_cell hl] at this
 cases this
theorem name_defs {μ:Mu} {s:St} {W:World} {db:Nat} (h:Rel μ s W)(hn:noNat s)(hF:∀ o,s.nx <= o->μ o = none)(hd:W.heap[db]? = some (.deferred (some [])))(ho:¬ ownB μ s db) :
  ∃ μ1:Mu,Rel μ1 (s.new .defs) W/\Sub μ μ1/\μ1 s.nx = some (.at_ ⟨db,0,0⟩)/\(∀ o,(s.new .defs).nx <= o->μ1 o = none)/\μ1.fz = μ.fz/\(∀ o,o ≠ s.nx->μ1 o = μ o):=by
 obtain ⟨μ1,e1⟩:∃ μ1:Mu,μ1 = ⟨fun o=>if o = s.nx then some (.at_ ⟨db,0,0⟩) else μ o,μ.fz⟩:=⟨_,rfl⟩
 have hloc:∀ o,o ≠ s.nx->μ1 o = μ o:=fun o ho=>by subst e1; exact if_neg ho
 have nm:μ1 s.nx = some (.at_ ⟨db,0,0⟩):=by subst e1; exact if_pos rfl
 have hs:Sub μ μ1:=⟨fun o l e=>by
  by_cases hn:o = s.nx
  ·rw [hF o (by omega)] at e; cases e
  rw [hloc o hn]; exact e,fun b i v hv=>by subst e1; exact hv⟩
 have get:∀ o x,(s.new .defs).h.get o = some x->(o = s.nx/\x = .defs) ∨ (o ≠ s.nx/\s.h.get o = some x):=fun o x e=>by
  simp only [St.new,Tr.get_set] at e
  by_cases ho:o = s.nx
  ·rw [if_pos ho] at e; cases e; exact .inl ⟨ho,rfl⟩
  rw [if_neg ho] at e; exact .inr ⟨ho,e⟩
 refine ⟨μ1,⟨⟨fun o x e m=>?_,fun o o' x x' p p' e e' m m' hb=>?_,fun o n A mm c o' x' p' e m1 e' m2=>?_,fun o ho=>?_⟩,fun b i v hv=>?_⟩,hs,nm,fun o ho=>?_,by subst e1; rfl,hloc⟩
 ·rcases get o x e with ⟨rfl,rfl⟩ | ⟨g1,g2⟩
  ·exact ⟨_,nm,hd⟩
  exact (h.obj o x g2 (by rw [<- hloc o g1]; exact m)).keep hs (Nat.le_refl _) (fun _ _=>rfl) (fun _ _ _ _ _ _ _ _=>rfl)
 ·rcases get o x e with ⟨rfl,rfl⟩ | ⟨g1,g2⟩
  ·rcases get o' x' e' with ⟨rfl,rfl⟩ | ⟨k1,k2⟩
   ·rfl
   rw [nm] at m
   cases m
   rw [hloc o' k1] at m'
   exact absurd ⟨o',x',p',k2,m',hb.symm⟩ ho
  rcases get o' x' e' with ⟨rfl,rfl⟩ | ⟨k1,k2⟩
  ·rw [nm] at m'
   cases m'
   rw [hloc o g1] at m
   exact absurd ⟨o,x,p,g2,m,hb⟩ ho
  rw [hloc o g1] at m
  rw [hloc o' k1] at m'
  exact h.inj o o' x x' p p' g2 k2 m m' hb
 ·rcases get o _ e with ⟨_,g⟩ | ⟨_,g⟩
  ·cases g
  exact absurd g (hn o n)
 ·have ho':s.nx + 1 <= o:=ho
  simp only [St.new,Tr.get_set,if_neg (show ¬ o = s.nx by omega)]
  exact h.wf o (by omega)
 ·have hv':μ.fz b i = some v:=by subst e1; exact hv
  obtain ⟨z1,z2,z3⟩:=h.fz b i v hv'
  refine ⟨z1,z2,fun o x p e m hb=>?_⟩
  rcases get o x e with ⟨rfl,rfl⟩ | ⟨g1,g2⟩
  ·rw [nm] at m
   cases m
   subst hb
   rw [defs_no_cell hd] at z2
   cases z2
  rw [hloc o g1] at m
  exact z3 o x p g2 m hb
 have ho':s.nx + 1 <= o:=ho
 rw [hloc o (by omega)]
 exact hF o (by omega)
section
variable {P:Program} {gf:FuncId} {caps:List AV} {V:List (List AV)} {asn body:Code} {ps:Array Tmp} {f nt:Nat} {I:Nat->Tr AV->St->Prop} {L:Ex->Tr AV->St->Prop}
def nxI (i:Nat):Ex->Option Nat
 | .normal=>some (i + 1)
 | _=>none
def Rnd (P:Program) (V:List (List AV)) (asn body:Code) (ps:Array Tmp) (f nt:Nat) (I:Nat->Tr AV->St->Prop) (L:Ex->Tr AV->St->Prop):Prop :=
 ∀ i args T s,V[i]? = some args->I i T s->args.length = ps.toList.length/\(ps.toList.all fun t=>Nat.blt t nt) = true/\bares args = true /\
  Jb (s.nx + 1) P asn ⟨f,nt,(ps.toList.zip args).foldl (fun T p=>T.set p.1 (some p.2)) T,some s.nx,[]⟩ ⟨s.h,s.nx + 1⟩ (fun ex fr1 s1=>ex = .normal/\noNat s1 /\
   Jb (s.nx + 1) P body fr1 s1 (fun ex _ s'=>∃ T2 s2,To 0 ⟨f,nt,T,none,[]⟩ s' ⟨f,nt,T2,none,[]⟩ s2/\Hx I L (nxI i ex) ex T2 s2))
theorem round_ok (hround:Rnd P V asn body ps f nt I L)(hI:∀ i ex T s,Hx I L i ex T s->noNat s) {fn:FuncId} {tm0:Array Value} {μ:Mu} {s:St} {w:World} {lb db:Nat} {rec:Option Code->Loop}
  (hrec:rec = fun pe=>{ state:=if pe.isNone then .ready else .done,pending:=pe,fn,tmps:=tm0,params:=ps,assign:=asn,body,defers:=db })(hne:lb ≠ db)(hlbw:w.heap.size <= lb)
  {m i:Nat} {Z Y:Nat->Prop} {W:World} {ψ:Nat->Nat->Option Value} {args:List AV} {vs:List Value} (hV:V[i]? = some args) (hψ:FzW ψ Z Y W) (hψ0:∀ b j v,ψ b j = some v->μ.fz b j = some v ∨ w.heap.size <= b ∨ noDig v = false) (hY:∀ g,Y g->g < W.heap.size) (hZY:∀ g,Z g->Y g) (hvs:VRs ⟨fun _=>none,ψ⟩ args vs)
  {μi:Mu} {Ti:Tr AV} {si:St} (cn:Cn f nt tm0 rec μ s w lb db (Hx I L (some i)) Z Y W .normal μi Ti si) :
  YieldAt Fence.wide m P lb vs.toArray W fun e W'=>∃ i',((e = .returned (.bool true)/\i' = some (i + 1)) ∨ (e = .returned (.bool false)/\i' = none))/\(∃ ex μ' T' s',Cn f nt tm0 rec μ s w lb db (Hx I L i') Z Y W' ex μ' T' s')/\Kp Y W W':=by
 obtain ⟨hlen,hps,hba,hJ⟩:=hround i args Ti si hV cn.here
 obtain ⟨o1,o2,o3,o4,o5⟩:=cn.out
 have hl:W.heap[lb]? = some (.loop (rec none)):=cn.loop
 have hlb:=(Array.getElem?_eq_some_iff.1 hl).1
 have hdb:=(Array.getElem?_eq_some_iff.1 cn.defs).1
 obtain ⟨μ1,r1,sub1,ps1,nm1,fr1,tz1,lo1⟩:=open_round cn.rel cn.fresh hψ cn.apart1 lb o3
 have hva:VRs μ1 args vs:=bares_vr (μ:=⟨fun _=>none,ψ⟩) (μ':=μ1) ps1 args hba hvs
 have hsz:vs.length = ps.toList.length:=by rw [<- hva.length]; exact hlen
 have hy:=run_yield (P:=P) (args:=vs.toArray) hl (by rw [hrec]; simpa using hsz)
 have own1:∀ g,ownB μ1 ⟨si.h,si.nx + 1⟩ g->ownB μi si g:=by
  rintro g ⟨o,x,p,h1,h2,h3⟩
  refine ⟨o,x,p,h1,?_,h3⟩
  rw [<- lo1 o (fun e=>by have:=cn.rel.wf o (by omega); rw [this] at h1; cases h1)]
  exact h2
 have hTR:=zip_foldl ps.toList args vs Ti tm0 hva hps (cn.tr.mono sub1)
 have hfold:((ps.zip vs.toArray).foldl (fun tmps (x:Nat × Value)=>tmps.setIfInBounds x.1 x.2) tm0) = (ps.toList.zip vs).foldl (fun tm p=>tm.setIfInBounds p.1 p.2) tm0:=by
  rw [<- Array.foldl_toList,Array.toList_zip]
 rw [hrec] at hy
 refine ⟨fn,_,asn,body,hy,roundIn_of_wpIn trivial ?_⟩
 refine hJ m μ1 W _ (some lb) _ ⟨r1,by simp only; rw [hfold]; exact hTR,rfl,⟨_,nm1,rfl⟩,fr1⟩ ?_
 rintro ex2 fr2 s2 μ2 w2 a2 ⟨rfl,hn2,hJ2⟩ hA2 hf2
 have hl2:w2.heap[lb]? = some (.loop (rec none)):=(hf2.blkG lb hlb fun h=>o3 (own1 _ h)).trans hl
 have own2:∀ g,g < W.heap.size->ownB μ2 s2 g->ownB μi si g:=fun g hg h=>by
  rcases hf2.ownG g h with h | h
  ·exact own1 g h
  omega
 have hs2:=hf2.size
 refine ⟨_,run_beginRound hl2 (by rw [hrec]; rfl),?_⟩
 obtain ⟨w3,hw3⟩:∃ w3,w2.putObj lb (.loop { rec none with state:=.busy }) = w3:=⟨_,rfl⟩
 rw [hw3]
 have r3:Rel μ2 s2 w3:=by rw [<- hw3]; exact hA2.rel.kp hn2 (putObj_kp w2 lb _ (no_ter hA2.rel hl2 fun h=>o3 (own2 _ hlb h)))
 have hs3:w3.heap.size = w2.heap.size:=by rw [<- hw3,World.putObj_size]
 refine hJ2 m μ2 w3 a2 (some lb) _ ⟨r3,hA2.tr,hA2.dm,hA2.ro,hA2.fresh⟩ ?_
 rintro ex3 fr3 s3 μ3 w4 a4 ⟨T2,s4,⟨rl,hfit,_⟩,hx⟩ hA3 hf3
 have hs4:=hf3.size
 have hl3:w3.heap[lb]? = some (.loop { rec none with state:=.busy }):=by rw [<- hw3]; exact World.putObj_heap_same (Nat.lt_of_lt_of_le hlb hs2)
 have hl4:w4.heap[lb]? = some (.loop { rec none with state:=.busy }):=(hf3.blkG lb (by omega) fun h=>o3 (own2 _ hlb h)).trans hl3
 have own3:∀ g,g < W.heap.size->ownB μ3 s3 g->ownB μi si g:=fun g hg h=>by
  rcases hf3.ownG g h with h | h
  ·exact own2 g hg h
  omega
 have hlow:∀ o p,μi o = some p->o < si.nx:=fun o p e=>by
  rcases Nat.lt_or_ge o si.nx with h | h
  ·exact h
  rw [cn.fresh o h] at e; cases e
 have sub3:Sub μi μ3:=⟨fun o p e=>hf3.base o p (by have:=hlow o p e; omega) (hf2.base o p (by have:=hlow o p e; omega) (sub1.loc o p e)),fun b j v hv=>hf3.fzm b j v (hf2.fzm b j v (sub1.fz b j v hv))⟩
 obtain ⟨hA4,hf4⟩:=hfit.at_ (bb:=0) no_base (μ:=μ3) (ro:=none) (a:={ tmps:=tm0,defers:=[] }) (w:=w4) ⟨hA3.rel,cn.tr.mono sub3,rfl,rfl,hA3.fresh⟩ trivial
 obtain ⟨μ4,hμ4⟩:∃ μ4,μ3.pull (names rl s3.nx) = μ4:=⟨_,rfl⟩
 rw [hμ4] at hA4 hf4
 have own4:∀ g,g < W.heap.size->ownB μ4 s4 g->ownB μi si g:=fun g hg h=>by
  rcases hf4.ownG g h with h | h
  ·exact own3 g hg h
  omega
 have hn4:noNat s4:=hI _ _ _ _ hx
 have geW:∀ b,W.heap.size <= b->w.heap.size <= b:=fun b hb=>Nat.le_trans cn.fp.size hb
 obtain ⟨w5,hw5⟩:∃ w5,w4.putObj lb (.loop (rec (jmp ex3))) = w5:=⟨_,rfl⟩
 have hr:(Instr.endRound lb (jmp ex3)).run P w4 = .ok (.bool (jmp ex3).isNone) w5:=by
  rw [run_endRound (P:=P) (jmp ex3) hl4,<- hw5,hrec]
 have hs5:w5.heap.size = w4.heap.size:=by rw [<- hw5,World.putObj_size]
 have same5:∀ g,g < W.heap.size->g ≠ lb->¬ ownB μi si g->w5.heap[g]? = W.heap[g]?:=fun g hg hn ho=>by
  rw [<- hw5,World.putObj_heap_other hn,hf3.blkG g (by omega) (fun h=>ho (own2 g hg h)),<- hw3,World.putObj_heap_other hn,hf2.blkG g hg fun h=>ho (own1 g h)]
 have fzs:∀ b j v,μ4.fz b j = some v->(μi.fz b j = some v ∨ ψ b j = some v) ∨ W.heap.size <= b ∨ ownB μi si b ∨ noDig v = false:=fun b j v hv=>by
  rcases Nat.lt_or_ge b W.heap.size with hlt | hge
  ·rcases hf4.fz b j v hv with h | h | h | h
   ·rcases hf3.fz b j v h with h | h | h | h
    ·rcases hf2.fz b j v h with h | h | h | h
     ·exact .inl (tz1 b j v h)
     ·omega
     ·exact .inr (.inr (.inl (own1 b h)))
     exact .inr (.inr (.inr h))
    ·omega
    ·exact .inr (.inr (.inl (own2 b hlt h)))
    exact .inr (.inr (.inr h))
   ·omega
   ·exact .inr (.inr (.inl (own3 b hlt h)))
   exact .inr (.inr (.inr h))
  exact .inr (.inl hge)
 have r5:Rel μ4 s4 w5:=by rw [<- hw5]; exact hA4.rel.kp hn4 (putObj_kp w4 lb _ (no_ter hA4.rel hl4 fun h=>o3 (own4 _ hlb h)))
 have zdig5:∀ g,Z g->¬ hasDig w5 g:=fun g hz hd=>by
  have hlt:=hY g (hZY g hz)
  exact cn.zdig g hz (hasDig_same (same5 g hlt (fun e=>o1 (e ▸ hz)) fun h=>cn.apart2 g (.inl h) hz) hd)
 have done:∃ i',((Ending.returned (.bool (jmp ex3).isNone) = .returned (.bool true)/\i' = some (i + 1)) ∨ (Ending.returned (.bool (jmp ex3).isNone) = .returned (.bool false)/\i' = none))/\(∃ ex μ' T' s',Cn f nt tm0 rec μ s w lb db (Hx I L i') Z Y w5 ex μ' T' s')/\Kp Y W w5:=by
  refine ⟨nxI i ex3,by cases ex3 <;> simp [jmp,nxI],⟨ex3,μ4,T2,s4,⟨hx,hn4,?_,hA4.tr,hA4.fresh,⟨fun o p h=>absurd h (Nat.not_lt_zero _),fun b j v hv=>?_,?_,?_,?_,?_,fun g hg hn=>?_,fun o x p e m=>?_,fun b j v hv=>?_⟩,fun g hg hy=>?_,fun g hg hz=>?_,cn.zlow,fun g hz hd=>?_,?_,?_,o1,o2,fun h=>o3 (own4 _ hlb h),fun h=>o4 (own4 _ hdb h),o5⟩⟩,⟨⟨?_,?_,?_,?_⟩,fun g hg hy=>?_⟩⟩
  ·exact r5
  ·exact hf4.fzm b j v (sub3.fz b j v (cn.fp.fzm b j v hv))
  ·rw [<- hw5]; exact hf3.os.trans (by rw [<- hw3]; exact hf2.os.trans cn.fp.os)
  ·rw [<- hw5]; exact hf3.tape.trans (by rw [<- hw3]; exact hf2.tape.trans cn.fp.tape)
  ·rw [<- hw5]; exact hf3.output.trans (by rw [<- hw3]; exact hf2.output.trans cn.fp.output)
  ·have:=cn.fp.size; omega
  ·have hgW:g < W.heap.size:=Nat.lt_of_lt_of_le hg cn.fp.size
   have ho:¬ ownB μi si g:=fun h=>by
    rcases cn.fp.ownG g h with ⟨o,x,p,h1,h2,h3⟩ | h
    ·exact hn o x p h1 h2 h3
    omega
   rw [same5 g hgW (by omega) ho]
   exact cn.fp.blk g hg hn
  ·rcases Nat.lt_or_ge p.blk W.heap.size with h | h
   ·rcases cn.fp.ownG _ (own4 _ h ⟨o,x,p,e,m,rfl⟩) with h1 | h1
    ·exact .inr h1
    exact .inl h1
   exact .inl (geW _ h)
  ·rcases fzs b j v hv with (h | h) | h | h | h
   ·exact cn.fp.fz b j v h
   ·rcases hψ0 b j v h with h | h | h
    ·exact .inl h
    ·exact .inr (.inl h)
    exact .inr (.inr (.inr h))
   ·exact .inr (.inl (geW _ h))
   ·rcases cn.fp.ownG b h with h | h
    ·exact .inr (.inr (.inl h))
    exact .inr (.inl h)
   exact .inr (.inr (.inr h))
  ·exact cn.apart1 g (own4 g (hY g hy) hg) hy
  ·have hlt:=hY g (hZY g hz)
   rcases hg with h | ⟨j,v,hv⟩
   ·exact cn.apart2 g (.inl (own4 g hlt h)) hz
   rcases fzs g j v hv with (h | h) | h | h | h
   ·exact cn.apart2 g (.inr ⟨j,v,h⟩) hz
   ·exact (hψ g j v h).2.2.2 hz
   ·omega
   ·exact cn.apart2 g (.inl h) hz
   exact zdig5 g hz ⟨j,v,(r5.fz g j v hv).2.1,h⟩
  ·exact zdig5 g hz hd
  ·rw [<- hw5]; exact World.putObj_heap_same (by omega)
  ·rw [same5 db hdb (Ne.symm hne) o4]; exact cn.defs
  ·rw [<- hw5]; exact hf3.os.trans (by rw [<- hw3]; exact hf2.os)
  ·rw [<- hw5]; exact hf3.tape.trans (by rw [<- hw3]; exact hf2.tape)
  ·rw [<- hw5]; exact hf3.output.trans (by rw [<- hw3]; exact hf2.output)
  ·omega
  exact same5 g hg (fun e=>o5 (e ▸ hy)) fun h=>cn.apart1 g h hy
 cases ex3 with
 | normal=>exact ⟨_,_,hr,done⟩
 | ret=>exact ⟨_,_,hr,done⟩
 | exit id=>exact ⟨_,_,hr,done⟩
theorem Jd.rangeSeq (hC:SeqC P gf caps V)(hco:CallOk P gf) {g:Operand} {T:Tr AV} {s:St} {Q:Ex->Fr->St->Prop} (hg:opd T g = some (.fn gf [] caps))(hb:bares caps = true)(hI:∀ i ex T s,Hx I L i ex T s->noNat s)(h0:I 0 T s)(hround:Rnd P V asn body ps f nt I L)
  (hend:∀ i ex T s,(i = none ∨ i = some V.length)->Hx I L i ex T s->Q ex ⟨f,nt,T,none,[s.nx]⟩ (s.new .defs)):Jd P (.rangeFunc g ps asn body) ⟨f,nt,T,none,[]⟩ s Q:=by
 intro n μ w a ro R hA hR
 obtain rfl:ro = none:=hA.ro
 have hds:a.defers = []:=hA.dm
 have hn0:noNat s:=hI (some 0) .normal T s h0
 have hev:VR μ (.fn gf [] caps) (a.eval g):=opd_vr hA.tr g _ hg
 simp only [VR,VRs] at hev
 obtain ⟨_,cs,hev,rfl,hcs⟩:=hev
 refine wpIn_rangeFunc ?_
 intro fn hfn
 obtain ⟨rec,hrec⟩:∃ rec:Option Code->Loop,rec = fun pe=>{ state:=if pe.isNone then .ready else .done,pending:=pe,fn,tmps:=a.tmps,params:=ps,assign:=asn,body,defers:=w.heap.size }:=⟨_,rfl⟩
 obtain ⟨W1,hW1⟩:∃ W1,(w.alloc (.deferred (some []))).alloc (.loop (rec none)) = W1:=⟨_,rfl⟩
 have hL1:W1.heap[w.heap.size + 1]? = some (.loop (rec none)):=by
  rw [<- hW1]; have:=World.alloc_heap_new (w.alloc (.deferred (some []))) (.loop (rec none)); rwa [World.size_alloc] at this
 have hK1:W1.heap[w.heap.size]? = some (.deferred (some [])):=by
  rw [<- hW1]; exact (Below.heap_alloc _ _ _ (by simp)).trans (World.alloc_heap_new w _)
 have hb1:Below w.heap.size w W1:=by
  rw [<- hW1]; exact ((Below.refl _ w).alloc (Nat.le_refl _) _).alloc (by simp) _
 have hW1s:W1.heap.size = w.heap.size + 2:=by rw [<- hW1]; simp [World.size_alloc]
 obtain ⟨G,hG⟩:∃ G:Gs,∀ i Z Y W,G.inv i Z Y W ↔ ∃ ex μ' T' s',Cn f nt a.tmps rec μ s w (w.heap.size + 1) w.heap.size (Hx I L i) Z Y W ex μ' T' s' :=
  ⟨⟨fun i Z Y W=>∃ ex μ' T' s',Cn f nt a.tmps rec μ s w (w.heap.size + 1) w.heap.size (Hx I L i) Z Y W ex μ' T' s',fun h hZ hY hd ha hb=>let ⟨ex,μ',T',s',c⟩:=h; ⟨ex,μ',T',s',c.stable hZ hY hd ha hb⟩⟩,fun _ _ _ _=>Iff.rfl⟩
 have hR1:Rel μ s W1:=hA.rel.kp hn0 (Kp.of_below hb1 _)
 have c0:Cn f nt a.tmps rec μ s w (w.heap.size + 1) w.heap.size (Hx I L (some 0)) (fun _=>False) (fun b=>∃ i v,μ.fz b i = some v) W1 .normal μ T s:=by
  refine ⟨h0,hn0,hR1,hA.tr,hA.fresh,⟨fun _ _ _ h=>h,fun _ _ _ h=>h,hb1.os,hb1.tape,hb1.output,hb1.size,fun g hg _=>hb1.block g hg,fun o x p e m=>.inr ⟨o,x,p,e,m,rfl⟩,fun _ _ _ h=>.inl h⟩,?_,fun _ _ h=>h,fun _ h=>h.elim,fun _ h=>h.elim,hL1,hK1,fun h=>h,fun h=>h,fun h=>?_,fun h=>?_,?_⟩
  ·rintro g ⟨o,x,p,e,m,rfl⟩ ⟨i,v,hv⟩
   exact (hA.rel.fz _ i v hv).2.2 o x p e m rfl
  ·have:=own_lt hA.rel h; omega
  ·have:=own_lt hA.rel h; omega
  rintro ⟨i,v,hv⟩
  have:=(hA.rel.fz _ i v hv).1
  omega
 refine ⟨w.heap.size + 1,[{ target:=.collected w.heap.size,args:=#[] }],W1,{ target:=.fn (.func gf) cs.toArray,args:=#[.func (.yield (w.heap.size + 1)) #[] #[]] },W1,gf,#[.func (.yield (w.heap.size + 1)) #[] #[]] ++ cs.toArray,W1,?_,?_,fun _ _=>trivial,?_,(fun h=>by cases h),?_⟩
 ·rw [<- hW1,hrec]; exact run_enterLoop_outer _ _ _ _ _
 ·simp only [resolve,hev]
  simp [go_sem]
 ·have eg:=hco
  unfold CallOk at eg
  simp [invoke,go_sem,eg]
 refine CallsIn.mono (hC (n - 1) μ.fz W1 cs (w.heap.size + 1) G ?_ ?_ ?_ ((hG _ _ _ _).2 ⟨_,_,_,_,c0⟩)) ?_
 ·intro b i v hv
  obtain ⟨h1,h2,_⟩:=hR1.fz b i v hv
  exact ⟨h1,h2,trivial,fun h=>h⟩
 ·exact bares_vr (μ:=μ) (μ':=⟨fun _=>none,μ.fz⟩) (fun _ _ _ h=>h) caps hb hcs
 ·intro m i Z Y W ψ args vs hV hψ hψ0 hY hZY hZd hvs hinv
  obtain ⟨ex,μi,Ti,si,cn⟩:=(hG _ _ _ _).1 hinv
  obtain rfl:ex = .normal:=by
   have:=cn.here
   cases ex with
   | normal=>rfl
   | ret=>exact this.elim
   | exit id=>exact this.elim
  refine (round_ok hround hI hrec (by omega) (by omega) hV hψ (fun b j v hv=>?_) hY hZY hvs cn).mono ?_
  ·rcases hψ0 b j v hv with h | h | h
   ·exact .inl h
   ·exact .inr (.inl (by omega))
   exact .inr (.inr h)
  rintro e W' ⟨i',h1,h2,h3⟩
  exact ⟨i',h1,(hG _ _ _ _).2 h2,h3⟩
 rintro e W2 ⟨⟨v,rfl⟩,i,Z,Y,hi,hinv⟩
 obtain ⟨ex,μi,Ti,si,cn⟩:=(hG _ _ _ _).1 hinv
 obtain ⟨o1,o2,o3,o4,o5⟩:=cn.out
 have hdb:=(Array.getElem?_eq_some_iff.1 cn.defs).1
 have hlp:=cn.loop
 have hel:=run_endLoop (P:=P) hlp (by rw [hrec]; cases ex <;> simp [jmp])
 obtain ⟨W3,hW3⟩:∃ W3,W2.putObj (w.heap.size + 1) (.loop { rec (jmp ex) with state:=.exhausted }) = W3:=⟨_,rfl⟩
 rw [hW3] at hel
 have hs3:W3.heap.size = W2.heap.size:=by rw [<- hW3,World.putObj_size]
 have r3:Rel μi si W3:=by rw [<- hW3]; exact cn.rel.kp cn.nonat (putObj_kp W2 _ _ (no_ter cn.rel hlp o3))
 have hd3:W3.heap[w.heap.size]? = some (.deferred (some [])):=by rw [<- hW3]; exact (World.putObj_heap_other (by omega)).trans cn.defs
 obtain ⟨μ5,r5,sub5,nm5,fr5,fz5,lo5⟩:=name_defs r3 cn.nonat cn.fresh hd3 o4
 have hA5:At μ5 ⟨f,nt,Ti,none,[si.nx]⟩ (si.new .defs) none { a with defers:=[{ target:=.collected w.heap.size,args:=#[] }] ++ a.defers } W3 :=
  ⟨r5,cn.tr.mono sub5,⟨_,_,nm5,rfl,hds⟩,rfl,fr5⟩
 have hf5:Fp 0 μ s w μ5 (si.new .defs) W3:=by
  refine ⟨fun o p h=>absurd h (Nat.not_lt_zero _),fun b i v hv=>by rw [fz5]; exact cn.fp.fzm b i v hv,by rw [<- hW3]; exact cn.fp.os,by rw [<- hW3]; exact cn.fp.tape,by rw [<- hW3]; exact cn.fp.output,by have:=cn.fp.size; omega,fun g hg hn=>?_,fun o x p e m=>?_,fun b i v hv=>cn.fp.fz b i v (by rw [<- fz5]; exact hv)⟩
  ·rw [<- hW3,World.putObj_heap_other (by omega)]
   exact cn.fp.blk g hg hn
  by_cases ho:o = si.nx
  ·subst ho
   rw [nm5] at m
   cases m
   exact .inl (Nat.le_refl _)
  rw [lo5 o ho] at m
  simp only [St.new,Tr.get_set,if_neg ho] at e
  exact cn.fp.own o x p e m
 have hq:=hend i ex Ti si hi cn.here
 refine ⟨jmp ex,W3,by rw [hel,hrec],?_⟩
 cases ex with
 | normal=>exact hR .normal _ _ μ5 W3 _ hq hA5 hf5
 | ret=>exact wpIn_ret (hR .ret _ _ μ5 W3 _ hq hA5 hf5)
 | exit id=>exact wpIn_exit (hR (.exit id) _ _ μ5 W3 _ hq hA5 hf5)
end
theorem noNat_of {nx:Nat}:∀ {l:List (Nat × Option AO)},(l.all fun p=>match p.2 with | some (.nat _)=>false | _=>true) = true->noNat (St.of l nx)
 | [],_=>fun o n h=>by cases h
 | p :: l,h=>fun o n e=>by
  simp only [List.all_cons,Bool.and_eq_true] at h
  rw [St.of_get,getO_cons] at e
  split at e
  ·rw [e] at h; exact absurd h.1 (by simp)
  exact noNat_of (nx:=nx) h.2 o n (by rw [St.of_get]; exact e)
section
variable {P:Program} {c:Code} {f:FuncId} {n:Nat} {l l2:List (Nat × AV)} {m m2:List (Nat × Option AO)} {nx:Nat} {Q:Ex->Fr->St->Prop}
theorem Jd.freezeM (ms:List Nat) (o:Nat) (cl:List AV) {t:TypeId} {op:Bool} (rl:List Nat) (l2:List (Nat × AV)) (m2:List (Nat × Option AO)) (ms2:List Nat) {nx2:Nat} (ho:getO m o = some (.cells cl t op))(hc:bares cl = true)(hms:ms = ms2.map (names rl nx))(hnx:rl.length = nx2)(hnd:rl.Nodup)(hT:FitT (Frz o cl) (names rl nx) l l2)(hS:FitS (Frz o cl) (names rl nx) rl.length ((o,none) :: m) m2)
  (k:Jd P c ⟨f,n,Tr.of l2,none,ms2⟩ (St.of m2 nx2) Q):Jd P c ⟨f,n,Tr.of l,none,ms⟩ (St.of m nx) Q:=by
 subst hnx
 refine Jd.freeze rl (cl:=cl) (t:=t) (op:=op) ((St.of_get nx o m).trans ho) hc ?_ k
 have h:=Fit.of (f:=f) (n:=n) (nx:=nx) hnd hT hS
 exact ⟨h.hn,hms,h.hrd,h.hnx,h.hT,h.hS,h.hinj⟩
theorem Done.twoM {fn:Func} {R:AV->St->Prop} {l:List (Nat × AV)} {d:Nat} {s:St} {k j:Tmp} {v u:AV} (hr:fn.results = #[.tmp k,.tmp j])(hm:s.h.get d = some .defs)(hv:getL l k = some v)(hu:getL l j = some u)(h:R (.tup [v,u]) (s.drop d)):Done P fn R .ret ⟨f,n,Tr.of l,none,[d]⟩ s:=by
 refine ⟨trivial,by simp [marksOk,hm],[v,u],?_,h⟩
 rw [hr]
 simp only [resAs,resA,Tr.of_get,hv,hu,Option.map_some]
end
end
section
structure Its (G:Gs) (lb:Nat) (ψ0:Nat->Nat->Option Value) (sz0:Nat) (i:Option Nat) (μ:Mu) (s:St) (w:World):Prop where
 yl:∃ p,μ 0 = some (.at_ p)/\p.blk = lb
 inv:G.inv i (ownB μ s) (terB μ s) w
 fz0:∀ b j v,μ.fz b j = some v->ψ0 b j = some v ∨ sz0 <= b ∨ noDig v = false
 own0:∀ g,ownB μ s g->sz0 <= g
 size:sz0 <= w.heap.size
theorem Its.step {G:Gs} {lb:Nat} {ψ0:Nat->Nat->Option Value} {sz0:Nat} {i:Option Nat} {μ μ':Mu} {s s':St} {w w':World} (h:Its G lb ψ0 sz0 i μ s w) (f:Fp 1 μ s w μ' s' w')(hr:Rel μ' s' w'):Its G lb ψ0 sz0 i μ' s' w':=by
 obtain ⟨⟨p,h1,h2⟩,hi,hf,ho,hs⟩:=h
 refine ⟨⟨p,f.base 0 _ (by omega) h1,h2⟩,G.stable hi f.ownG (f.terG hr) (fun g hg=>own_nodig hr hg) f.amb f.blkG,fun b j v hv=>?_,fun g hg=>?_,Nat.le_trans hs f.size⟩
 ·rcases f.fz b j v hv with h | h | h | h
  ·exact hf b j v h
  ·exact .inr (.inl (Nat.le_trans hs h))
  ·exact .inr (.inl (ho b h))
  exact .inr (.inr h)
 rcases f.ownG g hg with h | h
 ·exact ho g h
 exact Nat.le_trans hs h
def Jg (G:Gs) (lb:Nat) (ψ0:Nat->Nat->Option Value) (sz0:Nat) (P:Program) (c:Code) (fr:Fr) (s:St) (i:Option Nat) (Q:Ex->Fr->St->Option Nat->Prop):Prop :=
 ∀ (n:Nat) (μ:Mu) (w:World) (a:Act) (ro:Option Nat) (R:Exit->Act->World->Prop),At μ fr s ro a w->Its G lb ψ0 sz0 i μ s w ->
  (∀ ex fr' s' i' μ' w' a',Q ex fr' s' i'->At μ' fr' s' ro a' w'->Its G lb ψ0 sz0 i' μ' s' w'->R (exOf ex) a' w')->c.wpIn (Fw ro) n P R a w
def ThnG (K:Fr->St->Option Nat->Prop) (Q:Ex->Fr->St->Option Nat->Prop):Ex->Fr->St->Option Nat->Prop
 | .normal,fr,s,i=>K fr s i
 | .exit id,fr,s,i=>Q (.exit id) fr s i
 | .ret,fr,s,i=>Q .ret fr s i
def BlkG (id:Nat) (Q:Ex->Fr->St->Option Nat->Prop):Ex->Fr->St->Option Nat->Prop
 | .normal,fr,s,i=>Q .normal fr s i
 | .exit id',fr,s,i=>if id' = id then Q .normal fr s i else Q (.exit id') fr s i
 | .ret,fr,s,i=>Q .ret fr s i
section
variable {G:Gs} {lb:Nat} {ψ0:Nat->Nat->Option Value} {sz0:Nat} {P:Program} {c a b:Code} {fr:Fr} {s:St} {i:Option Nat} {Q:Ex->Fr->St->Option Nat->Prop}
theorem Jg.lift {Q':Ex->Fr->St->Prop} (h:Jb 1 P c fr s Q')(hq:∀ ex fr s,Q' ex fr s->Q ex fr s i):Jg G lb ψ0 sz0 P c fr s i Q:=fun n μ w a ro R hA hI hR =>
 h n μ w a ro R hA fun ex fr' s' μ' w' a' q hA' hf=>hR ex fr' s' i μ' w' a' (hq _ _ _ q) hA' (hI.step hf hA'.rel)
theorem Jg.mono {Q':Ex->Fr->St->Option Nat->Prop} (h:Jg G lb ψ0 sz0 P c fr s i Q')(hq:∀ ex fr s i,Q' ex fr s i->Q ex fr s i):Jg G lb ψ0 sz0 P c fr s i Q:=fun n μ w a ro R hA hI hR =>
 h n μ w a ro R hA hI fun ex fr' s' i' μ' w' a' q hA' hI'=>hR ex fr' s' i' μ' w' a' (hq _ _ _ _ q) hA' hI'
theorem Jg.seq (h:Jg G lb ψ0 sz0 P a fr s i (ThnG (fun fr s i=>Jg G lb ψ0 sz0 P b fr s i Q) Q)):Jg G lb ψ0 sz0 P (.seq a b) fr s i Q:=by
 intro n μ w x ro R hA hI hR
 refine wpIn_seq (h n μ w x ro _ hA hI ?_)
 intro ex fr1 s1 i1 μ1 w1 a1 hq hA1 hI1
 cases ex with
 | normal=>exact hq n μ1 w1 a1 ro R hA1 hI1 hR
 | exit id=>exact hR _ _ _ _ μ1 w1 a1 hq hA1 hI1
 | ret=>exact hR _ _ _ _ μ1 w1 a1 hq hA1 hI1
theorem Jg.cond {x:Operand} {t:Bool} (hx:opd fr.T x = some (.b t))(h1:t = true->Jg G lb ψ0 sz0 P a fr s i Q)(h2:t = false->Jg G lb ψ0 sz0 P b fr s i Q):Jg G lb ψ0 sz0 P (.cond x a b) fr s i Q:=by
 intro n μ w y ro R hA hI hR
 have hv:=opd_vr hA.tr x _ hx
 cases t with
 | true=>exact wpIn_cond_true (by simpa only [VR] using hv) (h1 rfl n μ w y ro R hA hI hR)
 | false=>exact wpIn_cond_false (by simpa only [VR] using hv) (h2 rfl n μ w y ro R hA hI hR)
theorem Jg.skip (h:Q .normal fr s i):Jg G lb ψ0 sz0 P .skip fr s i Q:=fun _ μ w a _ _ hA hI hR=>wpIn_skip (hR _ _ _ _ μ w a h hA hI)
theorem Jg.ret (h:Q .ret fr s i):Jg G lb ψ0 sz0 P .ret fr s i Q:=fun _ μ w a _ _ hA hI hR=>wpIn_ret (hR .ret _ _ _ μ w a h hA hI)
theorem Jg.exit {id:Nat} (h:Q (.exit id) fr s i):Jg G lb ψ0 sz0 P (.exit id) fr s i Q:=fun _ μ w a _ _ hA hI hR=>wpIn_exit (hR (.exit id) _ _ _ μ w a h hA hI)
theorem Jg.block {id:Nat} (h:Jg G lb ψ0 sz0 P c fr s i (BlkG id Q)):Jg G lb ψ0 sz0 P (.block id c) fr s i Q:=by
 intro n μ w x ro R hA hI hR
 refine wpIn_block (h n μ w x ro _ hA hI ?_)
 intro ex fr1 s1 i1 μ1 w1 a1 hq hA1 hI1
 cases ex with
 | normal=>exact hR _ _ _ _ μ1 w1 a1 hq hA1 hI1
 | exit id' =>
  simp only [BlkG] at hq
  split at hq
  ·next e=>subst e; simp only [exOf,Exit.inBlock,if_true]; exact hR _ _ _ _ μ1 w1 a1 hq hA1 hI1
  next e=>simp only [exOf,Exit.inBlock,if_neg e]; exact hR _ _ _ _ μ1 w1 a1 hq hA1 hI1
 | ret=>exact hR _ _ _ _ μ1 w1 a1 hq hA1 hI1
theorem Jg.loop (h:Jg G lb ψ0 sz0 P c fr s i (ThnG (fun fr s i=>Jg G lb ψ0 sz0 P (.loop c) fr s i Q) Q)):Jg G lb ψ0 sz0 P (.loop c) fr s i Q:=by
 intro n μ w x ro R hA hI hR
 refine wpIn_mono (wpIn_unroll (Q:=fun e a w=>(∃ x,e = exOf x)/\R e a w) (fun _ _ _ h=>h.1) (h n μ w x ro _ hA hI ?_)) fun e a w h=>h.2
 intro ex fr1 s1 i1 μ1 w1 a1 hq hA1 hI1
 cases ex with
 | normal=>exact hq n μ1 w1 a1 ro _ hA1 hI1 fun ex fr' s' i' μ' w' a' q hA' hI'=>⟨⟨_,rfl⟩,hR ex fr' s' i' μ' w' a' q hA' hI'⟩
 | exit id=>exact ⟨⟨_,rfl⟩,hR _ _ _ _ μ1 w1 a1 hq hA1 hI1⟩
 | ret=>exact ⟨⟨_,rfl⟩,hR _ _ _ _ μ1 w1 a1 hq hA1 hI1⟩
theorem Jg.to {fr2:Fr} {s2:St} (h:To 1 fr s fr2 s2) (k:Jg G lb ψ0 sz0 P c fr2 s2 i Q):Jg G lb ψ0 sz0 P c fr s i Q:=by
 obtain ⟨rl,h,hb⟩:=h
 intro n μ w x ro R hA hI hR
 obtain ⟨h4,h5⟩:=h.at_ hb hA trivial
 exact k n _ w x ro R h4 (hI.step h5 h4.rel) hR
theorem Jg.loopB {id:Nat} (I:Nat->Fr->St->Option Nat->Prop) (n0:Nat)(h0:∃ fr2 s2,To 1 fr s fr2 s2/\I n0 fr2 s2 i)
  (round:∀ k fr s i,I k fr s i->∀ Q':Ex->Fr->St->Option Nat->Prop,(∀ fr s i,Q .normal fr s i->Q' (.exit id) fr s i)->(∀ fr s i,Q .ret fr s i->Q' .ret fr s i)->(∀ fr s i,(∃ k' fr2 s2,k' < k/\To 1 fr s fr2 s2/\I k' fr2 s2 i)->Q' .normal fr s i)->Jg G lb ψ0 sz0 P c fr s i Q'):Jg G lb ψ0 sz0 P (.block id (.loop c)) fr s i Q:=by
 refine Jg.block ?_
 have key:∀ k fr s i,I k fr s i->Jg G lb ψ0 sz0 P (.loop c) fr s i (BlkG id Q):=by
  intro k
  induction k using Nat.strongRecOn with
  | _ k ih =>
   intro fr s i h
   refine Jg.loop (round k fr s i h _ (fun fr s i h=>?_) (fun fr s i h=>?_) (fun fr s i h=>?_))
   ·simp only [ThnG,BlkG,if_true]; exact h
   ·exact h
   obtain ⟨k',fr2,s2,hlt,ht,hi⟩:=h
   exact Jg.to ht (ih k' hlt fr2 s2 i hi)
 obtain ⟨fr2,s2,ht,hi⟩:=h0
 exact Jg.to ht (key n0 fr2 s2 i hi)
end
end
end Go.Proofs.YtdehimgccmbfkaaGreat
