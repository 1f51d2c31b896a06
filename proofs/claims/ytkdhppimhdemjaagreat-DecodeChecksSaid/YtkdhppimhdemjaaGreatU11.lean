/- Lemmas on the way: Ev11. -/
import Derived.Test.YtkdhppimhdemjaaGreatU10
import Derived.Deep.Upon
set_option linter.all false
set_option maxRecDepth 1000000
set_option maxHeartbeats 32000000
namespace Go.Proofs.YtkdhppimhdemjaaGreat
open Go.RowKit
section
section
variable {P:Program} {μ:Mu} {s:St} {w:World}

theorem bA.adopt (h:bA μ s w)(hn:μ s.nx = none) (x:AO) (p:Pl)(hx:OR (μ.with s.nx (.at_ p)) w s.nx x)
  (hfree:∀ o x' p',s.h.get o = some x'->μ o = some (.at_ p')->p'.blk ≠ p.blk)(hnat:∀ o n A m c,s.h.get o = some (.nat n)->μ o = some (.val A m c)->rZ (.slice A m c) p.blk)(hnn:∀ n,x ≠ .nat n)(hfz:∀ b i v,μ.fz b i = some v->p.blk ≠ b):bA (μ.with s.nx (.at_ p)) (s.new x) w:=by
 have hs:=Mu.sub_with (.at_ p) hn
 refine ⟨⟨fun o y e m=>?_,fun o o' y y' q q' e1 e2 m1 m2 hb=>?_,fun o n A m c o' x' p' e1 m1 e2 m2=>?_,fun o ho=>?_⟩,fun b i v hv=>⟨(h.fz b i v hv).1,(h.fz b i v hv).2.1,fun o y q e m=>?_⟩⟩
 ·simp only [St.new,Tr.get_set] at e
  split at e
  ·next e2=>subst e2; cases e; exact hx
  next e2 =>
  rw [Mu.with_ne _ _ e2] at m
  exact (h.obj o y e m).keep hs (Nat.le_refl _) (fun _ _=>rfl) (fun _ _ _ _ _ _ _ _=>rfl)
 ·simp only [St.new,Tr.get_set] at e1 e2
  split at e1 <;> split at e2
  ·next a b=>rw [a,b]
  ·next a b =>
   subst a
   rw [Mu.with_same] at m1
   cases m1
   rw [Mu.with_ne _ _ b] at m2
   exact absurd hb.symm (hfree _ _ _ e2 m2)
  ·next a b =>
   subst b
   rw [Mu.with_same] at m2
   cases m2
   rw [Mu.with_ne _ _ a] at m1
   exact absurd hb (hfree _ _ _ e1 m1)
  next a b =>
  rw [Mu.with_ne _ _ a] at m1
  rw [Mu.with_ne _ _ b] at m2
  exact h.inj o o' y y' q q' e1 e2 m1 m2 hb
 ·simp only [St.new,Tr.get_set] at e1 e2
  split at e1
  ·next a=>cases e1; exact absurd rfl (hnn n)
  next a =>
  rw [Mu.with_ne _ _ a] at m1
  split at e2
  ·next b=>subst b; rw [Mu.with_same] at m2; cases m2; exact hnat o n A m c e1 m1
  next b=>rw [Mu.with_ne _ _ b] at m2; exact h.nat o n A m c o' x' p' e1 m1 e2 m2
 ·have h1:s.nx + 1 <= o:=ho
  simp only [St.new]
  rw [Tr.get_set_ne _ _ (by omega)]
  exact h.wf o (by omega)
 simp only [St.new,Tr.get_set] at e
 split at e
 ·next e2=>subst e2; rw [Mu.with_same] at m; cases m; exact hfz b i v hv
 next e2=>rw [Mu.with_ne _ _ e2] at m; exact (h.fz b i v hv).2.2 o y q e m

theorem iW (h:bA μ s w) {z:Nat} {x:AV} {x':Value} {l:List AV} (hx:cA s z x = some l)(hv:VR μ x x')(h1:∀ o off n c,x = .sl o off n c->n * z = l.length ∨ True) :
  ∃ m,ao μ l m/\l.all flat = true/\((x = .snil/\l = []/\x' = .slice none 0 0) ∨ (∃ o off n c c' p,x = .sl o off n c/\l.length = n * z/\μ o = some (.at_ p)/\x' = .slice (some ⟨p.blk,p.base + off,none⟩) n c'/\(∀ j u,m[j]? = some u->w.cell? ⟨p.blk,p.base + off + j,none⟩ = some u)/\p.blk < w.heap.size) ∨
   ∃ c n cap A,x = .vw c n/\l.length = n * z/\x' = .slice A n cap/\n <= cap/\cap <= maxLen/\(0 < n->∃ b base,A = some ⟨b,base,none⟩/\(∀ j u,m[j]? = some u->w.cell? ⟨b,base + j,none⟩ = some u)/\(0 < z->b < w.heap.size))):=by
 unfold cA at hx
 split at hx
 ·cases hx
  simp only [VR] at hv
  exact ⟨[],ao.nil_,rfl,.inl ⟨rfl,rfl,hv⟩⟩
 ·next o off n c =>
  split at hx
  ·next cs t op ho =>
   simp only [VR] at hv
   obtain ⟨p,c',hm,rfl,_⟩:=hv
   have hob:=h.obj o _ ho (by rw [hm]; simp)
   simp only [OR] at hob
   obtain ⟨p',cells,e1,e2,e3,e4,e5⟩:=hob
   rw [hm] at e1
   cases e1
   obtain ⟨g1,g2⟩:=eR hx
   have key:∀ (k:Nat) (r:List AV) (off:Nat),r.length = k->(∀ i,i < k->r[i]? = cs[off + i]?)->∃ m,ao μ r m/\∀ j u,m[j]? = some u->w.cell? ⟨p.blk,p.base + off + j,none⟩ = some u:=by
    intro k
    induction k with
    | zero=>intro r off hr _; exact ⟨[],by rw [List.eq_nil_of_length_eq_zero hr]; exact ao.nil_,by simp⟩
    | succ k ih =>
     intro r off hr1 hr2
     cases r with
     | nil=>simp at hr1
     | cons y r =>
      have hy:=hr2 0 (by omega)
      simp only [Nat.add_zero,List.getElem?_cons_zero] at hy
      obtain ⟨z,hz,hv⟩:=e5 off y hy.symm
      obtain ⟨m,hm2,hm3⟩:=ih r (off + 1) (by simpa using hr1) (fun i hi=>by have:=hr2 (i + 1) (by omega); rw [List.getElem?_cons_succ] at this; rw [this]; congr 1; omega)
      refine ⟨z :: m,ao.cons hv hm2,fun j u hj=>?_⟩
      cases j with
      | zero=>simp at hj; subst hj; simp [World.cell?,e2,hz]
      | succ j=>rw [List.getElem?_cons_succ] at hj; have:=hm3 j u hj; rw [show p.base + off + (j + 1) = p.base + (off + 1) + j by omega]; exact this
   obtain ⟨m,k1,k2⟩:=key (n * z) l off g1 g2
   refine ⟨m,k1,?_,.inr (.inl ⟨o,off,n,c,c',p,rfl,g1,hm,rfl,k2,(Array.getElem?_eq_some_iff.1 e2).1⟩)⟩
   have e4:=e4.1
   rw [List.all_eq_true] at e4 ⊢
   intro a ha
   obtain ⟨i,hi⟩:=List.mem_iff_getElem?.1 ha
   have hlt:=(List.getElem?_eq_some_iff.1 hi).1
   rw [g2 i (by omega)] at hi
   exact e4 a (List.mem_of_getElem? hi)
  cases hx
 ·next c n =>
  simp only [VR] at hv
  obtain ⟨cs,⟨A,cap,rfl,q1,q2,q3⟩,hcs⟩:=hv
  rw [Option.bind_eq_some_iff] at hx
  obtain ⟨l',hl',hx⟩:=hx
  obtain ⟨hfl,hx⟩:=aj hx
  cases hx
  obtain ⟨g1,g2⟩:=eR hl'
  refine ⟨cs.take (n * z),?_,hfl,.inr (.inr ⟨c,n,cap,A,rfl,g1,rfl,q1,q2,fun hn=>?_⟩)⟩
  ·have:l = c.take (n * z):=by
    apply List.ext_getElem?
    intro i
    rw [List.getElem?_take]
    by_cases hi:i < n * z
    ·rw [if_pos hi,g2 i hi,Nat.zero_add]
    rw [if_neg hi,List.getElem?_eq_none_iff]; omega
   rw [this]
   exact ao.mono μ.blind_sub _ (hcs.take _)
  obtain ⟨b,base,e,hf⟩:=q3 hn
  refine ⟨b,base,e,fun j u hu=>?_,fun hz=>?_⟩
  ·rw [List.getElem?_take] at hu
   split at hu
   ·exact d8 (h.fz _ _ _ (hf j u hu)).2.1 (ao.noM hcs u (List.mem_of_getElem? hu))
   cases hu
  have hpos:0 < n * z:=Nat.mul_pos hn hz
  obtain ⟨y,hy⟩:∃ y,c[0]? = some y:=by
   have:=g2 0 hpos
   rw [Nat.zero_add,List.getElem?_eq_getElem (by omega)] at this
   exact ⟨_,this.symm⟩
  obtain ⟨u,hu,_⟩:=hcs.get hy
  exact (h.fz _ _ _ (hf 0 u hu)).1
 cases hx

theorem tp (n:Nat):∀ (k c:Nat),c <= 2 * n + 768->Builtin.growBy n k c <= 2 * n + 768
 | 0,c,h=>h
 | k + 1,c,h=>by
  unfold Builtin.growBy
  split
  ·exact h
  next h2=>exact tp n k _ (by omega)
theorem yY {n c:Nat} (h:c < n):Builtin.nextslicecap n c <= 2 * n + 768:=by
 unfold Builtin.nextslicecap
 split
 ·omega
 split
 ·omega
 exact tp n 4 c (by omega)
theorem uu (zv:Array Value)(h0:0 < zv.size) (n:Nat):Builtin.zeroCells zv n = (reps zv.toList n).toArray:=ma zv h0 n

theorem zq (h:bA μ s w) {t t' ty e e':TypeId} (ht:P.underlying t = some (.slice e)) (ht':P.underlying t' = some (.slice e')) {x y r:AV} {x' y':Value} {s':St} (hx:fR P s e x y = some (r,s'))(hvx:VR μ x x')(hvy:VR μ y y')
  (hfr:∀ o,s.nx <= o->o < s'.nx->μ o = none) :
  ∃ w' μ' v,(Builtin.append_ #[t,t'] ty #[x',y']).run P w = .ok v w'/\bA μ' s' w'/\dJ μ s w μ' s' w'/\VR μ' r v:=by
 unfold fR at hx
 split at hx
 ·next i zv hi hz =>
  split at hx
  ·next old new hold hnew =>
   obtain ⟨hc,hx⟩:=aj hx
   simp only [Bool.and_eq_true,Nat.beq_eq,Nat.blt_eq,Nat.ble_eq] at hc
   obtain ⟨⟨⟨⟨g0,g1⟩,g2⟩,g3⟩,g4⟩:=hc
   obtain ⟨zval,hz1,hz2⟩:=eV hz w
   have hzi:i.zero = some zval:=by
    have:=hz1
    simp only [zeroValue,typeInfo,Sem.run_bind,run_program,Result.andThen_ok,hi,Sem.run_pure] at this
    cases hzz:i.zero with
    | none=>rw [hzz] at this; simp at this
    | some q=>rw [hzz] at this; simp at this; rw [this]
   have hzs:zval.cells.size = i.size:=by rw [<- g2,(hz2 μ).cells.length]; simp
   obtain ⟨mo,o1,o2,o3⟩:=iW h hold hvx (fun _ _ _ _ _=>.inr trivial)
   obtain ⟨mn,n1,n2,n3⟩:=iW h hnew hvy (fun _ _ _ _ _=>.inr trivial)
   have ln:=n1.length
   have lo:=o1.length
   -- the second argument as a source
   obtain ⟨k,hk,hsrc⟩:∃ k,new.length = k * i.size/\Src P i.size t' y' k mn w:=by
    rcases n3 with ⟨rfl,rfl,rfl⟩ | ⟨o,off,n,c,c',p,rfl,hl,hm,rfl,hcell,_⟩ | ⟨c,n,cap,A,rfl,hl,rfl,_,_,hA⟩
    ·exact ⟨0,by simp,by
      have:mn = []:=List.eq_nil_of_length_eq_zero (by simpa using ln.symm)
      subst this
      exact Src.ofNil w ht' 0⟩
    ·exact ⟨n,hl,Src.ofSlice w ht' _ n c' mn (by rw [<- ln,hl]) (fun j u hj=>by rw [fj]; exact hcell j u hj) (nf n1 n2)⟩
    refine ⟨n,hl,?_⟩
    rcases Nat.eq_zero_or_pos n with h0 | h0
    ·subst h0
     have:mn = []:=List.eq_nil_of_length_eq_zero (by rw [<- ln,hl]; simp)
     subst this
     cases A with
     | none=>exact Src.ofNil w ht' cap
     | some a=>exact Src.ofSlice w ht' a 0 cap [] (by simp) (fun j u hj=>by simp at hj) (fun u hu=>by cases hu)
    obtain ⟨b,base,rfl,hcell,_⟩:=hA h0
    exact Src.ofSlice w ht' _ n cap mn (by rw [<- ln,hl]) (fun j u hj=>by rw [fj]; exact hcell j u hj) (nf n1 n2)
   have hkd:new.length / i.size = k:=by rw [hk]; exact Nat.mul_div_cancel _ g1
   rw [hkd] at hx
   have hk':k <= new.length:=by rw [hk]; exact Nat.le_mul_of_pos_right _ g1
   -- the arm that grows
   have grow:∀ (base:Option Addr) (n c:Nat),x' = .slice base n c->n * i.size = old.length->c < n + k->(∀ w1:World,(∀ b off,w1.cell? ⟨b,off,none⟩ = w.cell? ⟨b,off,none⟩)->(Builtin.firstCells i.size n (.slice base n c)).run P w1 = .ok mo.toArray w1) ->
     ∃ cap',n + k <= cap'/\cap' < cW/\(Builtin.append_ #[t,t'] ty #[x',y']).run P w = .ok (.slice (some ⟨w.heap.size,0,none⟩) (n + k) cap') (w.drew.alloc (.cells ((mo ++ mn) ++ reps zval.cells.toList (cap' - (n + k))).toArray e)):=by
    intro base n c ex hn hlt hfirst
    subst ex
    have hb:n + k <= 1000000:=by
     have:n <= old.length:=by rw [<- hn]; exact Nat.le_mul_of_pos_right _ g1
     omega
    have hfit:Builtin.nextslicecap (n + k) c * i.bytes <= 281474976710656:=by
     have h1:=yY hlt
     have h2:Builtin.nextslicecap (n + k) c * i.bytes <= 2000768 * 1000000:=Nat.mul_le_mul (by omega) g4
     omega
    have:=run_append_grow_src (P:=P) w t t' ty e i zval ht hi hzi base n c mo (hfirst w.drew (fun _ _=>rfl)) y' k mn hsrc hlt (by omega) hfit
    refine ⟨grownCap w (n + k) c e,?_,?_,?_⟩
    ·unfold grownCap; simp only [Question.cut]; omega
    ·unfold grownCap cW
     simp only [Question.cut]
     have:w.tape w.drawn (.appendCap (n + k) c e) % (2 ^ 63 - (n + k)) < 2 ^ 63 - (n + k):=Nat.mod_lt _ (by omega)
     omega
    rw [this,uu _ (by omega)]
    simp
   -- what the arm that grows leaves
   have grown:∀ (n cap':Nat) (s1:St),(∀ o,μ o = none->s1.h.get o = s.h.get o)->n * i.size = old.length->n + k <= cap'->cap' < cW->s1.nx = s.nx->(∀ o x,s1.h.get o = some x->s.h.get o = some x)->s1.h.get s.nx = none->μ s.nx = none ->
     ∃ μ',bA μ' (s1.new (.cells (old ++ new) e true)) (w.drew.alloc (.cells ((mo ++ mn) ++ reps zval.cells.toList (cap' - (n + k))).toArray e)) /\
      dJ μ s w μ' (s1.new (.cells (old ++ new) e true)) (w.drew.alloc (.cells ((mo ++ mn) ++ reps zval.cells.toList (cap' - (n + k))).toArray e)) /\
      VR μ' (.sl s.nx 0 (n + k) (cW + i.size)) (.slice (some ⟨w.heap.size,0,none⟩) (n + k) cap'):=by
    intro n cap' s1 hkeep hn hcap hbig hnx hsub hs1 hfree
    have hlz:∀ j,(reps zval.cells.toList j).length = j * i.size:=by
     intro j
     induction j with
     | zero=>simp [reps]
     | succ j ih=>rw [reps,List.length_append,ih,Array.length_toList,hzs,Nat.add_mul]; omega
    have htot:((mo ++ mn) ++ reps zval.cells.toList (cap' - (n + k))).length = cap' * i.size:=by
     simp only [List.length_append,hlz]
     rw [<- lo,<- ln,<- hn,hk,<- Nat.add_mul,<- Nat.add_mul]
     congr 1
     omega
    have hr1:bA μ s1 w.drew:=by
     have:=h.drew.less s1.h s1.nx hsub (fun o ho=>by
      cases e:s1.h.get o with
      | none=>rfl
      | some x=>have:=h.wf o (by omega); rw [hsub o x e] at this; cases this)
     exact this
    have hp:(⟨w.heap.size,0,cap' * i.size⟩:Pl).blk = w.drew.heap.size:=rfl
    have hsx:gY μ (μ.with s1.nx (.at_ ⟨w.heap.size,0,cap' * i.size⟩)):=Mu.sub_with _ (by rw [hnx]; exact hfree)
    obtain ⟨q1,q2⟩:=hr1.new (by rw [hnx]; exact hfree) (.cells ((mo ++ mn) ++ reps zval.cells.toList (cap' - (n + k))).toArray e) (.cells (old ++ new) e true) ⟨w.heap.size,0,cap' * i.size⟩ hp
     (kn (Mu.with_same _ _ _) (fc w.drew _) (by simpa using htot) (by rw [List.all_append,o2,n2]; rfl)
      ⟨mo ++ mn,ao.mono hsx _ (o1.append n1),_,rfl,d6 (mP (fun μ=>(hz2 μ).cells) μ _) (og g0 _)⟩)
    have q3:dJ μ s w.drew μ s1 w.drew:=⟨gY.refl μ,fun _ h h'=>absurd h h',by omega,rfl,rfl,rfl,Nat.le_refl _,fun _ _ _=>rfl,fun o x p e1 e2=>.inr ⟨o,x,p,hsub o x e1,e2,rfl⟩,fun o h1 _=>hkeep o h1,fun _ _ _ h=>.inl h⟩
    refine ⟨_,q1,(q3.trans q2).drew,?_⟩
    obtain ⟨y,hy,ey⟩:∃ y,y = cW + i.size - cW/\y = i.size:=⟨_,rfl,by omega⟩
    simp only [VR]
    rw [<- hy,ey]
    clear hy ey
    refine ⟨_,cap',by rw [<- hnx]; exact Mu.with_same _ _ _,rfl,fun e=>by omega,fun _=>⟨hcap,hbig,?_⟩⟩
    simp
   rcases o3 with ⟨rfl,rfl,rfl⟩ | ⟨o,off,n,cap,c,p,rfl,hol,hm,rfl,hocell,_⟩ | ⟨c,n,cap,A,rfl,_⟩
   ·-- onto nil
    simp only at hx
    cases hn0:Nat.beq new.length 0 with
    | true =>
     rw [hn0] at hx
     cases hx
     have h0:=Nat.eq_of_beq_eq_true hn0
     have hk0:k = 0:=by omega
     subst hk0
     have:mn = []:=List.eq_nil_of_length_eq_zero (by omega)
     subst this
     exact ⟨w,μ,.slice none 0 0,run_append_nothing (P:=P) w t t' ty e i ht hi none 0 0 (Nat.le_refl 0) y' hsrc,h,dJ.refl _ _ _,by simp [VR]⟩
    | false =>
     rw [hn0] at hx
     cases hx
     have h0:=vl.1 hn0
     have hk0:0 < k:=by
      rcases Nat.eq_zero_or_pos k with e | e
      ·subst e; simp at hk; exact absurd hk (by intro e; rw [e] at h0; exact h0 rfl)
      exact e
     have hmo:mo = []:=List.eq_nil_of_length_eq_zero (by simpa using lo.symm)
     subst hmo
     obtain ⟨cap',c1,c2,c3⟩:=grow none 0 0 rfl (by simp) (by omega) (fun w1 _=>run_firstCells_none w1 i.size 0 0 0)
     obtain ⟨μ',d1,d2,d3⟩:=grown 0 cap' s (fun _ _=>rfl) (by simp) c1 c2 rfl (fun _ _ h=>h) (h.wf _ (Nat.le_refl _)) (hfr _ (Nat.le_refl _) (by simp [St.new]))
     refine ⟨_,μ',_,c3,?_,?_,?_⟩
     ·simpa using d1
     ·simpa using d2
     simpa using d3
   ·have hvx':=hvx
    simp only [VR] at hvx'
    obtain ⟨p0,c0,hm0,ec0,hk1,hk2⟩:=hvx'
    rw [hm] at hm0
    cases hm0
    simp only [Value.slice.injEq,true_and] at ec0
    obtain ⟨_,rfl⟩:=ec0
    have hfirst:∀ w1:World,(∀ b off,w1.cell? ⟨b,off,none⟩ = w.cell? ⟨b,off,none⟩)->(Builtin.firstCells i.size n (.slice (some ⟨p.blk,p.base + off,none⟩) n c)).run P w1 = .ok mo.toArray w1:=fun w1 hw1 =>
     run_firstCells_some w1 i.size n ⟨p.blk,p.base + off,none⟩ n c mo (by rw [<- lo,hol]) (fun j u hj=>by rw [fj,hw1]; exact hocell j u hj)
    -- the arm with room,in the object's known cells
    have room:∀ (cells:List AV) (t0:TypeId) (op:Bool),s.h.get o = some (.cells cells t0 op)->n + k <= c->off + n * i.size + new.length <= cells.length ->
      (Builtin.append_ #[t,t'] ty #[.slice (some ⟨p.blk,p.base + off,none⟩) n c,y']).run P w = .ok (.slice (some ⟨p.blk,p.base + off,none⟩) (n + k) c) (w.setCells p.blk (p.base + off + n * i.size) mn) /\
      bA μ (s.set o (.cells (cY cells (off + n * i.size) new) t0 op)) (w.setCells p.blk (p.base + off + n * i.size) mn)/\dJ μ s w μ (s.set o (.cells (cY cells (off + n * i.size) new) t0 op)) (w.setCells p.blk (p.base + off + n * i.size) mn):=by
     intro cells t0 op ho hroom hlen
     have hob:=h.obj o _ ho (by rw [hm]; simp)
     simp only [OR] at hob
     obtain ⟨p',cs,e1,e2,e3,e4,e5⟩:=hob
     rw [hm] at e1
     cases e1
     obtain ⟨_,r2,r3⟩:=kV (P:=P) h ho hm n1 n2 hlen
     rw [<- Nat.add_assoc] at r2 r3
     refine ⟨?_,r2,r3⟩
     have hcell:∀ j,j < mn.length->∃ u,cs[p.base + off + n * i.size + j]? = some u:=fun j hj=>by
      obtain ⟨u,hu,_⟩:=e5 (off + n * i.size + j) _ (List.getElem?_eq_getElem (by omega))
      exact ⟨u,by rw [<- hu]; congr 1; omega⟩
     exact run_append_room_src (P:=P) w t t' ty e i ht hi p.blk (p.base + off) n c y' k mn hsrc hroom (fun j hj=>by obtain ⟨u,hu⟩:=hcell j hj; simp [World.cell?,e2,hu]) (fun j hj=>by simp [World.frozen?,e2])
    simp only at hx
    cases hcb:Nat.blt cap cW with
    | true =>
     rw [hcb] at hx
     simp only [cond_true] at hx
     rw [Nat.blt_eq] at hcb
     have hcc:=hk1 hcb
     subst hcc
     cases hroom:Nat.ble (n + k) c with
     | true =>
      rw [hroom] at hx
      simp only [cond_true] at hx
      rw [Nat.ble_eq] at hroom
      split at hx
      ·next cells t0 op ho =>
       obtain ⟨hle,hx⟩:=aj hx
       rw [Nat.ble_eq] at hle
       cases hx
       have:off + n * i.size + new.length <= cells.length:=by
        have:(n + k) * i.size <= c * i.size:=Nat.mul_le_mul_right _ hroom
        rw [Nat.add_mul,<- hk] at this
        omega
       obtain ⟨r1,r2,r3⟩:=room cells t0 op ho hroom this
       exact ⟨_,μ,_,r1,r2,r3,by simp only [VR]; exact ⟨p,c,hm,rfl,fun _=>rfl,fun e=>absurd hcb e⟩⟩
      cases hx
     | false =>
      rw [hroom] at hx
      cases hx
      have hlt:c < n + k:=by
       rcases Nat.lt_or_ge c (n + k) with h | h
       ·exact h
       rw [Nat.ble_eq_true_of_le h] at hroom; cases hroom
      obtain ⟨cap',c1,c2,c3⟩:=grow _ n c rfl hol.symm hlt hfirst
      obtain ⟨μ',d1,d2,d3⟩:=grown n cap' s (fun _ _=>rfl) hol.symm c1 c2 rfl (fun _ _ h=>h) (h.wf _ (Nat.le_refl _)) (hfr _ (Nat.le_refl _) (by simp [St.new]))
      exact ⟨_,μ',_,c3,d1,d2,d3⟩
    | false =>
     rw [hcb] at hx
     simp only [cond_false] at hx
     obtain ⟨hcz,hx⟩:=aj hx
     have hcz:=Nat.eq_of_beq_eq_true hcz
     subst hcz
     obtain ⟨yy,hy,ey⟩:∃ y,y = cW + i.size - cW/\y = i.size:=⟨_,rfl,by omega⟩
     have hk3:=hk2 (by omega)
     rw [<- hy,ey] at hk3
     obtain ⟨kl,kb,kt⟩:=hk3
     have vsl:∀ (μ':Mu) (o' off' m:Nat) (p':Pl),μ' o' = some (.at_ p')->p'.blk = p.blk->p'.base + off' = p.base + off->p'.tot = p.tot->m <= c->VR μ' (.sl o' off' m (cW + i.size)) (.slice (some ⟨p.blk,p.base + off,none⟩) m c):=by
      intro μ' o' off' m p' a1 a2 a3 a4 a5
      simp only [VR]
      rw [<- hy,ey]
      clear hy ey
      exact ⟨p',c,a1,by rw [a2,a3],fun e=>by omega,fun _=>⟨a5,kb,by rw [a3,a4]; exact kt⟩⟩
     clear hy ey
     split at hx
     ·next cells t0 op ho =>
      have hob:=h.obj o _ ho (by rw [hm]; simp)
      simp only [OR] at hob
      obtain ⟨p',cs,e1,e2,e3,e4,e5⟩:=hob
      rw [hm] at e1
      cases e1
      cases hin:Nat.ble (off + n * i.size + new.length) cells.length with
      | true =>
       rw [hin] at hx
       cases hx
       rw [Nat.ble_eq] at hin
       have hroom:n + k <= c:=by
        rcases Nat.eq_zero_or_pos new.length with e0 | e0
        ·have:k = 0:=by omega
         omega
        obtain ⟨u,hu,_⟩:=e5 (off + n * i.size + new.length - 1) _ (List.getElem?_eq_getElem (by omega))
        have hlt:=(Array.getElem?_eq_some_iff.1 hu).1
        have:(n + k) * i.size <= c * i.size:=by rw [Nat.add_mul,<- hk]; omega
        exact Nat.le_of_mul_le_mul_right this g1
       obtain ⟨r1,r2,r3⟩:=room cells t0 op ho hroom hin
       exact ⟨_,μ,_,r1,r2,r3,vsl μ o off (n + k) p hm rfl rfl rfl hroom⟩
      | false =>
       rw [hin] at hx
       simp only [cond_false] at hx
       obtain ⟨hee0,hx2⟩:=aj hx
       clear hx
       have hee:=Nat.eq_of_beq_eq_true hee0
       subst hee
       cases hx2
       have hfree:μ s.nx = none:=hfr _ (Nat.le_refl _) (by simp [St.new,St.drop])
       have hone:o ≠ s.nx:=fun e=>by rw [e,h.wf _ (Nat.le_refl _)] at ho; cases ho
       have hsub:∀ o1 x,(s.drop o).h.get o1 = some x->s.h.get o1 = some x:=fun o1 x e=>by simp only [St.drop,Tr.get_set] at e; split at e <;> simp_all
       rcases Nat.lt_or_ge c (n + k) with hlt | hroom
       ·obtain ⟨cap',c1,c2,c3⟩:=grow _ n c rfl hol.symm hlt hfirst
        obtain ⟨μ',d1,d2,d3⟩:=grown n cap' (s.drop o) (fun o1 h1=>by simp only [St.drop]; exact Tr.get_set_ne _ _ (fun e=>by subst e; rw [hm] at h1; cases h1)) hol.symm c1 c2 rfl hsub (by simp only [St.drop]; rw [Tr.get_set_ne _ _ (Ne.symm hone)]; exact h.wf _ (Nat.le_refl _)) hfree
        exact ⟨_,μ',_,c3,d1,d2,d3⟩
       -- room behind the known cells
       have hsz:p.base + off + (n + k) * i.size <= cs.size:=by
        have:(n + k) * i.size <= c * i.size:=Nat.mul_le_mul_right _ hroom
        omega
       have hnk:(n + k) * i.size = n * i.size + new.length:=by rw [Nat.add_mul,hk]
       have hrun:=run_append_room_src (P:=P) w t t' ty e i ht hi p.blk (p.base + off) n c y' k mn hsrc hroom
        (fun j hj=>by
         have:p.base + off + n * i.size + j < cs.size:=by omega
         simp [World.cell?,e2,this]) (fun j hj=>by simp [World.frozen?,e2])
       obtain ⟨r1,r2,r3,r4⟩:=iA p.blk mn (p.base + off + n * i.size) w
       have hblk:=iz p.blk e (0,0) mn (p.base + off + n * i.size) w cs.toList (by simpa using e2)
       have hne:=fun g (hg:g ≠ p.blk)=>j7 p.blk hg mn (p.base + off + n * i.size) w
       have hdr:=h.drop o
       have hne2:∀ o1 x1 p1,(s.drop o).h.get o1 = some x1->μ o1 = some (.at_ p1)->p1.blk ≠ p.blk:=fun o1 x1 p1 f1 f2 f3=>by
        have:o1 = o:=h.inj o1 o x1 _ p1 p (hsub o1 x1 f1) ho f2 hm f3
        subst this
        simp only [St.drop] at f1
        rw [Tr.get_set_same] at f1
        cases f1
       have hnt:∀ o1 n1 A m1 c1,(s.drop o).h.get o1 = some (.nat n1)->μ o1 = some (.val A m1 c1)->rZ (.slice A m1 c1) p.blk:=fun o1 n1 A m1 c1 f1 f2=>h.nat o1 n1 A m1 c1 o _ p (hsub _ _ f1) f2 ho hm
       have hrel:bA μ (s.drop o) (w.setCells p.blk (p.base + off + n * i.size) mn) :=
        ⟨⟨fun o1 x1 f1 f2=>(hdr.obj o1 x1 f1 f2).keep (gY.refl μ) (by omega) (fun p1 f3=>hne _ (hne2 o1 x1 p1 f1 f3)) (fun A m1 c1 f3 ad hA hpos hlt=>hne _ (by
         obtain ⟨nn,rfl⟩:=(hdr.obj o1 x1 f1 f2).val f3
         subst hA
         exact hnt o1 nn _ m1 c1 f1 f3 ad m1 c1 rfl hpos)),hdr.inj,hdr.nat,hdr.wf⟩,
         fun b' i' v' hv'=>by
         obtain ⟨z1,z2,z3⟩:=hdr.fz b' i' v' hv'
         have hbb:p.blk ≠ b':=(h.fz b' i' v' hv').2.2 o _ p ho hm
         exact ⟨by omega,(ij (hne b' (Ne.symm hbb)) i').trans z2,z3⟩⟩
       have hp':(μ.with s.nx (.at_ ⟨p.blk,p.base + off,p.tot⟩)) s.nx = some (.at_ ⟨p.blk,p.base + off,p.tot⟩):=Mu.with_same _ _ _
       have hsx:gY μ (μ.with s.nx (.at_ ⟨p.blk,p.base + off,p.tot⟩)):=Mu.sub_with _ hfree
       have hob':OR (μ.with s.nx (.at_ ⟨p.blk,p.base + off,p.tot⟩)) (w.setCells p.blk (p.base + off + n * i.size) mn) s.nx (.cells (old ++ new) e true):=by
        refine ⟨_,_,hp',hblk,by simp [ke,e3],⟨by rw [List.all_append,o2,n2]; rfl,qV (d6 n1 n2) e4.2⟩,fun j x hj=>?_⟩
        rw [List.getElem?_toArray,iZ]
        simp only
        rw [List.getElem?_append] at hj
        split at hj
        ·next hjo =>
         obtain ⟨u,hu,hv⟩:=o1.get hj
         refine ⟨u,?_,hv.mono hsx⟩
         rw [if_neg (by omega)]
         have:=hocell j u hu
         simp only [World.cell?,e2,Option.isSome_none,Bool.false_eq_true,if_false] at this
         rw [Array.getElem?_toList]
         exact this
        next hjo =>
        obtain ⟨u,hu,hv⟩:=n1.get hj
        refine ⟨u,?_,hv.mono hsx⟩
        have hjl:=(List.getElem?_eq_some_iff.1 hj).1
        rw [if_pos (by simp only [Array.length_toList]; omega),<- hu]
        congr 1
        omega
       have hR:=hrel.adopt hfree (.cells (old ++ new) e true) ⟨p.blk,p.base + off,p.tot⟩ hob' hne2 hnt (by simp) (fun b' i' v' hv'=>(h.fz b' i' v' hv').2.2 o _ p ho hm)
       refine ⟨_,μ.with s.nx (.at_ ⟨p.blk,p.base + off,p.tot⟩),_,hrun,hR,?_,vsl _ s.nx 0 (n + k) _ hp' rfl (by simp) rfl hroom⟩
       refine ⟨hsx,fun o1 f1 f2=>?_,by simp [St.new,St.drop],r1,r2,r3,by omega,fun g hg hno=>hne g (fun e=>hno o _ p ho hm e.symm),fun o1 x1 p1 f1 f2=>?_,fun o1 h1 h2=>by
        simp only [St.new,St.drop]
        rw [Tr.get_set_ne _ _ (by omega),Tr.get_set_ne _ _ (fun e=>by subst e; rw [hm] at h1; cases h1)],fun _ _ _ h=>.inl h⟩
       ·by_cases e:o1 = s.nx
        ·subst e; simp [St.new,St.drop]
        rw [Mu.with_ne _ _ e] at f2; exact absurd f1 f2
       simp only [St.new] at f1
       rw [Tr.get_set] at f1
       split at f1
       ·next e=>rw [show (s.drop o).nx = s.nx from rfl] at e; subst e; rw [Mu.with_same] at f2; cases f2; exact .inr ⟨o,_,p,ho,hm,rfl⟩
       next e=>rw [Mu.with_ne _ _ (show o1 ≠ s.nx from e)] at f2; exact .inr ⟨o1,x1,p1,hsub o1 x1 f1,f2,rfl⟩
     cases hx
   cases hx
  cases hx
 cases hx
end
end
end Go.Proofs.YtkdhppimhdemjaaGreat
