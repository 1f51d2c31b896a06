/- Lemmas on the way: Ev9, Ev10. -/
import Derived.Test.YtkdhppimhdemjaaGreatU09
set_option linter.all false
set_option maxRecDepth 1000000
set_option maxHeartbeats 32000000
namespace Go.Proofs.YtkdhppimhdemjaaGreat
open Go.RowKit
section
theorem tj (n:Nat)(h:n < 9223372036854775808):IntKind.i64.wrap (n:Int) = (n:Int):=by
 unfold IntKind.wrap
 simp only [IntKind.bits,IntKind.signed]
 have h1:(n:Int) % (2 ^ 64) = n:=Int.emod_eq_of_lt (by omega) (by omega)
 simp only [h1]
 rw [if_neg]
 simp
 omega
theorem mP {z:List AV} {zv:List Value} (hz:∀ μ,ao μ z zv) (μ:Mu):∀ n,ao μ (reps z n) (reps zv n)
 | 0=>ao.nil_
 | n + 1=>(hz μ).append (mP hz μ n)
theorem ma (zv:Array Value)(h0:0 < zv.size) (n:Nat):((Array.range (n * zv.size)).map (zv[· % zv.size]!)) = (reps zv.toList n).toArray:=by
 apply Array.ext'
 simp only [Array.toList_map,Array.toList_range]
 induction n with
 | zero=>simp [reps]
 | succ n ih =>
  have:(n + 1) * zv.size = zv.size + n * zv.size:=by rw [Nat.add_mul]; omega
  rw [this,List.range_add,List.map_append]
  have e1:(List.range zv.size).map (fun x=>zv[x % zv.size]!) = zv.toList:=by
   apply List.ext_getElem?
   intro i
   by_cases hi:i < zv.size
   ·simp [hi,Nat.mod_eq_of_lt hi]
   simp [hi]
  have e2:((List.range (n * zv.size)).map (zv.size + ·)).map (fun x=>zv[x % zv.size]!) = (List.range (n * zv.size)).map (fun x=>zv[x % zv.size]!):=by
   rw [List.map_map]
   apply List.map_congr_left
   intro x _
   simp
  rw [e1,e2,ih]
  simp [reps]
theorem og {z:List AV} (h:z.all flat = true):∀ n,(reps z n).all flat = true
 | 0=>rfl
 | n + 1=>by simp only [reps,List.all_append,Bool.and_eq_true]; exact ⟨h,og h n⟩
section
variable {P:Program} {μ:Mu} {s:St} {w:World}

theorem kn {μ:Mu} {w':World} {o g tot:Nat} {c:List AV} {cs:Array Value} {t:TypeId} {op:Bool} (hm:μ o = some (.at_ ⟨g,0,tot⟩))(hb:w'.heap[g]? = some (.cells cs t (0,0)))(hs:cs.size = tot)(hf:c.all flat = true)
  (hc:∃ rest,ao μ c rest/\∃ r2,cs.toList = rest ++ r2/\r2.all fy = true):OR μ w' o (.cells c t op):=by
 obtain ⟨rest,h1,r2,h2,h3⟩:=hc
 refine ⟨_,cs,hm,hb,hs,⟨hf,by rw [h2,List.all_append,d6 h1 hf,h3]; rfl⟩,fun i x hx=>?_⟩
 obtain ⟨y,hy,hv⟩:=h1.get hx
 refine ⟨y,?_,hv⟩
 simp only [Nat.zero_add]
 rw [<- Array.getElem?_toList,h2,List.getElem?_append_left (List.getElem?_eq_some_iff.1 hy).1]
 exact hy

theorem GK {ρ:Operand->Option AV} {ev:Operand->Value} (hρ:∀ x v,ρ x = some v->VR μ v (ev x)) (o:Oper) {x:AO} {f:Nat->AV} (hx:oT P ρ o.op = some (x,f)) (w:World) :
  ∃ O tot v,(execOp ev o).run P w = .ok (.value v) (w.alloc O)/\(∀ n,x ≠ .nat n) /\
   ∀ μ' k,gY μ μ'->μ' k = some (.at_ ⟨w.heap.size,0,tot⟩)->VR μ' (f k) v/\∀ w':World,w'.heap[w.heap.size]? = some O->OR μ' w' k x:=by
 obtain ⟨dst,op,type,pos,after,guard⟩:=o
 simp only at hx
 cases op
 case alloc t =>
  simp only [oT,Option.bind_eq_some_iff] at hx
  obtain ⟨z,hz,hx⟩:=hx
  obtain ⟨hf,hx⟩:=aj hx
  cases hx
  obtain ⟨zv,hz1,hz2⟩:=eV hz w
  refine ⟨.cells zv.cells t,zv.cells.size,.pointer (some ⟨w.heap.size,0,none⟩),?_,by simp,fun μ' k hs hk=>⟨?_,fun w' hw=>?_⟩⟩
  ·apply aF
   simp [Instr.alloc,hz1,newVar,newRow]
  ·simp only [VR]; exact ⟨_,hk,rfl⟩
  exact kn hk hw rfl hf ⟨zv.cells.toList,(hz2 μ').cells,[],by simp,rfl⟩
 case box t y =>
  simp only [oT,Option.bind_eq_some_iff] at hx
  obtain ⟨v,hv,hx⟩:=hx
  obtain ⟨hf,hx⟩:=aj hx
  cases hx
  have hv':=hρ _ _ hv
  refine ⟨.cells (ev y).cells t,(ev y).cells.size,.pointer (some ⟨w.heap.size,0,none⟩),?_,by simp,fun μ' k hs hk=>⟨?_,fun w' hw=>?_⟩⟩
  ·apply aF
   simp [Instr.box,newVar,newRow]
  ·simp only [VR]; exact ⟨_,hk,rfl⟩
  exact kn hk hw rfl hf ⟨(ev y).cells.toList,(hv'.mono hs).cells,[],by simp,rfl⟩
 case buildSlice t len ps =>
  simp only [oT] at hx
  split at hx
  ·next e hu =>
   split at hx
   ·next z n hz hn =>
    obtain ⟨hc,hx⟩:=aj hx
    simp only [Bool.and_eq_true,Nat.beq_eq,Nat.blt_eq,Nat.ble_eq] at hc
    obtain ⟨⟨hc1,hc2⟩,hc3⟩:=hc
    rw [Option.bind_eq_some_iff] at hx
    obtain ⟨c,hfill,hx⟩:=hx
    obtain ⟨hf,hx⟩:=aj hx
    cases hx
    obtain ⟨zv,hz1,hz2⟩:=eV hz w
    have hzs:zv.cells.size = n:=by rw [<- hc1,(hz2 μ).cells.length]; simp
    obtain ⟨m,h1,h2⟩:=rx hρ ps.toList (reps z.cells len) (reps zv.cells.toList len) (mP (fun μ=>(hz2 μ).cells) μ len) hfill
    rw [<- ma zv.cells (by omega),hzs] at h1
    refine ⟨.cells m.toArray e,m.length,.slice (some ⟨w.heap.size,0,none⟩) len len,?_,by simp,fun μ' k hs hk=>⟨?_,fun w' hw=>?_⟩⟩
    ·apply aF
     have e0:(ps.map fun (i,x)=>(i,ev x)).toList = ps.toList.map fun p=>(p.1,ev p.2):=by simp
     have hlen:¬ (len * n > 2 ^ 24):=by omega
     by_cases h0:len * n = 0
     ·have hl0:len = 0:=by rcases Nat.mul_eq_zero.1 h0 with h | h <;> omega
      subst hl0
      simp only [Instr.buildSlice,Sem.run_bind,run_underlying hu w,bc hn,Result.andThen_ok]
      have hr:Array.range 0 = #[]:=rfl
      simp only [Nat.zero_mul,hr,Array.map_empty] at h1 ⊢
      simp only [Nat.not_lt_zero,if_false,if_true,e0,Sem.run_bind,Sem.run_pure,Result.andThen_ok,gt_iff_lt]
      rw [h1]
      rfl
     simp only [Instr.buildSlice,Sem.run_bind,run_underlying hu w,bc hn,Result.andThen_ok]
     rw [if_neg hlen,if_neg h0]
     simp only [Sem.run_bind,hz1,Result.andThen_ok,Sem.run_pure,hzs,e0]
     rw [h1]
     rfl
    ·simp only [VR]
     refine ⟨_,len,hk,rfl,fun _=>rfl,fun e=>?_⟩
     have:len <= len * n:=Nat.le_mul_of_pos_right _ hc2
     exact absurd (show len < cW by unfold cW; omega) e
    exact kn hk hw (by simp) hf ⟨m,ao.mono hs _ h2,[],by simp,rfl⟩
   cases hx
  cases hx
 case makeMap t r =>
  cases r with
  | none =>
   simp only [oT,Option.some.injEq,Prod.mk.injEq] at hx
   obtain ⟨rfl,rfl⟩:=hx
   refine ⟨.map #[] 0,0,.map (some w.heap.size),by simp [execOp,Instr.makeMap],by simp,fun μ' k hs hk=>⟨?_,fun w' hw=>?_⟩⟩
   ·simp only [VR]; exact ⟨_,hk,rfl⟩
   exact ⟨_,[],hk,hw,rfl⟩
  | some y =>
   simp only [oT] at hx
   split at hx
   ·next kt e k n hu hy =>
    cases hx
    have:=hρ _ _ hy
    simp only [VR] at this
    refine ⟨.map #[] 0,0,.map (some w.heap.size),aF (by simp [Instr.makeMap,run_underlying hu,this,asInt,asIntOf]),by simp,fun μ' k hs hk=>⟨?_,fun w' hw=>?_⟩⟩
    ·simp only [VR]; exact ⟨_,hk,rfl⟩
    exact ⟨_,[],hk,hw,rfl⟩
   cases hx
 case makeSlice t l c =>
  simp only [oT] at hx
  split at hx
  ·next e ln cp hu hl hc =>
   rw [Option.bind_eq_some_iff] at hl hc
   obtain ⟨la,hl1,hl2⟩:=hl
   obtain ⟨ca,hc1,hc2⟩:=hc
   have el:=jA hl2 (hρ _ _ hl1)
   have ec:=jA hc2 (hρ _ _ hc1)
   split at hx
   ·next z i hz hi =>
    obtain ⟨hcd,hx⟩:=aj hx
    cases hx
    simp only [Bool.and_eq_true,Nat.beq_eq,Nat.blt_eq,Nat.ble_eq] at hcd
    obtain ⟨⟨⟨⟨⟨hf,g1⟩,g2⟩,g3⟩,g4⟩,g5⟩:=hcd
    obtain ⟨zv,hz1,hz2⟩:=eV hz w
    have hzs:zv.cells.size = i.size:=by rw [<- g1,(hz2 μ).cells.length]; simp
    have hbytes:i.bytes * cp <= 1000000 * 1000000:=Nat.mul_le_mul g5 g4
    have hflat:=og hf cp
    refine ⟨.cells (reps zv.cells.toList cp).toArray e,(reps zv.cells.toList cp).length,.slice (some ⟨w.heap.size,0,none⟩) ln cp,?_,by simp,fun μ' k hs hk=>⟨?_,fun w' hw=>?_⟩⟩
    ·apply aF
     have hw1:=tj ln (by omega)
     have hw2:=tj cp (by omega)
     have hno:¬ ((cp:Int) < 0):=by omega
     have hbi:¬ ((i.bytes:Int) * (cp:Int) > 2 ^ 48):=by
      have:((i.bytes * cp:Nat):Int) <= ((1000000 * 1000000:Nat):Int):=Int.ofNat_le.2 hbytes
      rw [Int.natCast_mul] at this
      omega
     simp only [Instr.makeSlice,Sem.run_bind,run_underlying hu w,Result.andThen_ok,el,ec,asInt,asIntOf,typeInfo,sizeOf,hi,hw1,hw2,Sem.run_pure,run_program]
     have d1:decide ((cp:Int) < 0) = false:=decide_eq_false hno
     have d2:decide ((i.bytes:Int) * (cp:Int) > 2 ^ 48) = false:=decide_eq_false hbi
     have d3:decide ((ln:Int) < 0) = false:=decide_eq_false (by omega)
     have d4:decide ((ln:Int) > (cp:Int)) = false:=decide_eq_false (by omega)
     simp only [d1,d2,d3,d4,Bool.or_false,Bool.false_eq_true,if_false,Sem.run_bind,run_askRoom,run_program,hi,Sem.run_pure,Result.andThen_ok,Int.toNat_natCast]
     by_cases h0:cp * i.size = 0
     ·have hc0:cp = 0:=by rcases Nat.mul_eq_zero.1 h0 with h | h <;> omega
      subst hc0
      have e0:ln = 0:=by omega
      subst e0
      have hr:Array.range 0 = #[]:=rfl
      simp [newRow,reps,hr]
     rw [if_neg h0]
     have:=ma zv.cells (by omega) cp
     rw [hzs] at this
     simp only [Sem.run_bind,hz1,Result.andThen_ok,Sem.run_pure,hzs,this]
     rfl
    ·simp only [VR]
     exact ⟨_,cp,hk,rfl,fun _=>rfl,fun e=>absurd (show cp < cW by unfold cW; omega) e⟩
    exact kn hk hw (by simp) hflat ⟨_,mP (fun μ=>(hz2 μ).cells) μ' cp,[],by simp,rfl⟩
   cases hx
  cases hx
 all_goals (simp [oT] at hx; done)
end
end
section
theorem iz (b:Nat) (t:TypeId) (fr:Nat × Nat):∀ (vs:List Value) (o:Nat) (w:World) (cs:List Value),w.heap[b]? = some (.cells cs.toArray t fr)->(w.setCells b o vs).heap[b]? = some (.cells (cY cs o vs).toArray t fr)
 | [],_,_,_,h=>h
 | v :: vs,o,w,cs,h=>by
  rw [World.setCells,cY]
  exact iz b t fr vs (o + 1) _ _ (by simp [World.setCell,Array.getElem?_modify,h])
theorem j7 (b:Nat) {g:Nat} (hg:g ≠ b):∀ (vs:List Value) (o:Nat) (w:World),(w.setCells b o vs).heap[g]? = w.heap[g]?
 | [],_,_=>rfl
 | v :: vs,o,w=>by rw [World.setCells,j7 b hg vs,Below.heap_setCell w ⟨b,o,none⟩ v g hg]
theorem iA (b:Nat):∀ (vs:List Value) (o:Nat) (w:World),(w.setCells b o vs).os = w.os/\(w.setCells b o vs).tape = w.tape/\(w.setCells b o vs).output = w.output/\(w.setCells b o vs).heap.size = w.heap.size
 | [],_,_=>⟨rfl,rfl,rfl,rfl⟩
 | v :: vs,o,w=>by
  rw [World.setCells]
  have:=iA b vs (o + 1) (w.setCell ⟨b,o,none⟩ v)
  exact ⟨this.1,this.2.1,this.2.2.1,this.2.2.2.trans (World.size_setCell w _ v)⟩
theorem ke {α:Type}:∀ (vs:List α) (c:List α) (o:Nat),(cY c o vs).length = c.length
 | [],_,_=>rfl
 | v :: vs,c,o=>by rw [cY,ke vs]; simp
theorem iZ {α:Type}:∀ (vs:List α) (c:List α) (o i:Nat),(cY c o vs)[i]? = if o <= i/\i < o + vs.length/\i < c.length then vs[i - o]? else c[i]?
 | [],c,o,i=>by simp only [cY,List.length_nil]; rw [if_neg (by omega)]
 | v :: vs,c,o,i=>by
  rw [cY,iZ vs (c.set o v) (o + 1) i]
  simp only [List.length_set,List.length_cons]
  by_cases h1:o = i
  ·subst h1
   rw [if_neg (by omega)]
   by_cases h2:o < c.length
   ·rw [if_pos (by omega)]; simp [h2]
   rw [if_neg (by omega)]
   rw [List.getElem?_eq_none_iff.2 (by simp; omega),List.getElem?_eq_none_iff.2 (by omega)]
  by_cases h2:o + 1 <= i/\i < o + 1 + vs.length/\i < c.length
  ·rw [if_pos h2,if_pos (by omega),show i - o = (i - (o + 1)) + 1 by omega,List.getElem?_cons_succ]
  rw [if_neg h2,if_neg (by omega),List.getElem?_set_ne h1]
theorem sv {vs:List AV} (hv:vs.all flat = true):∀ {c:List AV} {o:Nat},c.all flat = true->(cY c o vs).all flat = true:=by
 induction vs with
 | nil=>intro c o h; exact h
 | cons v vs ih =>
  intro c o h
  simp only [List.all_cons,Bool.and_eq_true] at hv
  rw [cY]
  refine ih hv.2 ?_
  rw [List.all_eq_true] at h ⊢
  intro x hx
  rcases List.mem_or_eq_of_mem_set hx with hx | rfl
  ·exact h x hx
  exact hv.1
theorem qV {vs:List Value} (hv:vs.all fy = true):∀ {c:List Value} {o:Nat},c.all fy = true->(cY c o vs).all fy = true:=by
 induction vs with
 | nil=>intro c o h; exact h
 | cons v vs ih =>
  intro c o h
  simp only [List.all_cons,Bool.and_eq_true] at hv
  rw [cY]
  refine ih hv.2 ?_
  rw [List.all_eq_true] at h ⊢
  intro x hx
  rcases List.mem_or_eq_of_mem_set hx with hx | rfl
  ·exact h x hx
  exact hv.1
theorem nf {μ:Mu}:∀ {l:List AV} {m:List Value},ao μ l m->l.all flat = true->∀ v ∈ m,v.oneCell' = true
 | [],m,h,_,v,hv=>by simp only [ao] at h; subst h; cases hv
 | x :: l,m,h,hf,v,hv=>by
  simp only [ao] at h
  obtain ⟨y,ys,rfl,h1,h2⟩:=h
  simp only [List.all_cons,Bool.and_eq_true] at hf
  rcases List.mem_cons.1 hv with rfl | hv
  ·exact pJ h1 hf.1
  exact nf h2 hf.2 v hv

section
variable {P:Program} {μ:Mu} {s:St} {w:World}

theorem kV (h:bA μ s w) {o off:Nat} {c:List AV} {t:TypeId} {op:Bool} {p:Pl} (ho:s.h.get o = some (.cells c t op))(hm:μ o = some (.at_ p)) {vs:List AV} {ms:List Value} (hv:ao μ vs ms)(hf:vs.all flat = true)(hlen:off + vs.length <= c.length) :
  (storeCells ⟨p.blk,p.base + off,none⟩ ms).run P w = .ok () (w.setCells p.blk (p.base + off) ms) /\
  bA μ (s.set o (.cells (cY c off vs) t op)) (w.setCells p.blk (p.base + off) ms)/\dJ μ s w μ (s.set o (.cells (cY c off vs) t op)) (w.setCells p.blk (p.base + off) ms):=by
 have hob:=h.obj o _ ho (by rw [hm]; simp)
 simp only [OR] at hob
 obtain ⟨p',cs,h1,h2,h3,h4,h5⟩:=hob
 rw [hm] at h1
 cases h1
 have hl:=hv.length
 have hcell:∀ j,j < ms.length->∃ y,w.cell? ⟨p.blk,p.base + off + j,none⟩ = some y:=fun j hj=>by
  obtain ⟨x,hx⟩:∃ x,c[off + j]? = some x:=⟨_,List.getElem?_eq_getElem (by omega)⟩
  obtain ⟨y,hy,_⟩:=h5 _ x hx
  exact ⟨y,by simp [World.cell?,h2,Nat.add_assoc,hy]⟩
 have hrun:=run_storeCells_cells (P:=P) p.blk (p.base + off) ms 0 w (fun j hj=>by obtain ⟨y,hy⟩:=hcell j hj; simp [hy]) (fun j hj=>by simp [World.frozen?,h2]) (nf hv hf)
 obtain ⟨r1,r2,r3,r4⟩:=iA p.blk ms (p.base + off) w
 have hblk:=iz p.blk t (0,0) ms (p.base + off) w cs.toList (by simpa using h2)
 refine ⟨by simpa using hrun,h.turn ho hm _ r1 r2 r3 r4 (fun g hg=>j7 p.blk hg ms _ w) ?_ (by simp)⟩
 refine ⟨p,_,hm,hblk,by simp [ke,h3],⟨sv hf h4.1,qV (d6 hv hf) h4.2⟩,fun i x hx=>?_⟩
 rw [iZ] at hx
 rw [List.getElem?_toArray,iZ]
 have hi:∀ y,c[i]? = some y->p.base + i < cs.toList.length:=fun y hy=>by
  obtain ⟨z,hz,_⟩:=h5 i y hy
  have:=(Array.getElem?_eq_some_iff.1 hz).1
  simpa using this
 split at hx
 ·next e =>
  have:=hi _ (List.getElem?_eq_getElem e.2.2)
  rw [if_pos (by omega),show p.base + i - (p.base + off) = i - off by omega]
  exact hv.get hx
 next e =>
 have:=hi _ hx
 have hc:=(List.getElem?_eq_some_iff.1 hx).1
 rw [if_neg (by omega),Array.getElem?_toList]
 exact h5 i x hx

theorem Cn (h:bA μ s w) {t:TypeId} {v a:AV} {v' a':Value} {s':St} (hx:gF P s t v a = some s')(ha:VR μ a a')(hv:VR μ v v') :
  ∃ w',(Instr.storeAt t a' v').run P w = .ok () w'/\bA μ s' w'/\dJ μ s w μ s' w':=by
 unfold gF at hx
 split at hx
 ·next o off =>
  split at hx
  ·next c e op ho =>
   split at hx
   ·next n hn =>
    obtain ⟨hc,hx⟩:=aj hx
    cases hx
    simp only [Bool.and_eq_true,Nat.beq_eq,Nat.ble_eq] at hc
    obtain ⟨⟨g1,g2⟩,g3⟩:=hc
    simp only [VR] at ha
    obtain ⟨p,hm,rfl⟩:=ha
    have hcs:=hv.cells
    obtain ⟨r1,r2,r3⟩:=kV (P:=P) (off:=off) h ho hm hcs g3 (by omega)
    refine ⟨_,?_,r2,r3⟩
    have hsz:v'.cells.size = n:=by rw [<- g1,hcs.length]; simp
    simp [Instr.storeAt,Instr.sureAddr,storeVar,bc hn,hsz,r1]
   cases hx
  cases hx
 cases hx

theorem na (w:World) (g:Nat) (O:Obj):(∀ k,k ≠ g->({ w with heap:=w.heap.setIfInBounds g O }:World).heap[k]? = w.heap[k]?)/\({ w with heap:=w.heap.setIfInBounds g O }:World).heap.size = w.heap.size :=
 ⟨fun k hk=>Array.getElem?_setIfInBounds_ne (Ne.symm hk),by simp⟩
theorem wB {w:World} {g:Nat} {O0:Obj} (O:Obj)(h:w.heap[g]? = some O0):({ w with heap:=w.heap.setIfInBounds g O }:World).heap[g]? = some O:=by
 have:=(Array.getElem?_eq_some_iff.1 h).1
 simp [this]
theorem dZ (h:bA μ s w) {o:Nat} {x0 x:AO} {p:Pl} {O0 O:Obj} (ho:s.h.get o = some x0)(hm:μ o = some (.at_ p))(hb:w.heap[p.blk]? = some O0)(hn:∀ n,x ≠ .nat n)
  (hx:∀ w':World,w'.heap[p.blk]? = some O->OR μ w' o x):bA μ (s.set o x) { w with heap:=w.heap.setIfInBounds p.blk O }/\dJ μ s w μ (s.set o x) { w with heap:=w.heap.setIfInBounds p.blk O } :=
 h.turn ho hm x rfl rfl rfl (na w p.blk O).2 (fun g hg=>(na w p.blk O).1 g hg) (hx _ (wB O hb)) hn

theorem gf.append {es:List AE} {l:List MapEntry} (h:gf μ es l) {k v:AV} {k' v':Value} (hk:VR μ k k')(hv:VR μ v v') (b:Nat):gf μ (es ++ [⟨k,v,b⟩]) (l ++ [⟨k',v',b⟩]):=by
 induction es generalizing l with
 | nil=>simp only [gf] at h; subst h; exact ⟨k',v',[],rfl,hk,hv,rfl⟩
 | cons e es ih =>
  obtain ⟨a,c,l',rfl,h1,h2,h3⟩:=h
  exact ⟨a,c,_,rfl,h1,h2,ih h3⟩
theorem gf.set {es:List AE} {l:List MapEntry} (h:gf μ es l) {i:Nat} {k v:AV} {k' v':Value} {b:Nat} (hk:VR μ k k')(hv:VR μ v v'):gf μ (es.set i ⟨k,v,b⟩) (l.set i ⟨k',v',b⟩):=by
 induction es generalizing l i with
 | nil=>simp only [gf] at h; subst h; simp [gf]
 | cons e es ih =>
  obtain ⟨a,c,l',rfl,h1,h2,h3⟩:=h
  cases i with
  | zero=>exact ⟨k',v',l',rfl,hk,hv,h3⟩
  | succ i=>exact ⟨a,c,_,rfl,h1,h2,ih h3⟩
theorem gf.get {es:List AE} {l:List MapEntry} (h:gf μ es l) {i:Nat} {a:AE} (ha:es[i]? = some a):∃ e,l[i]? = some e/\VR μ a.key e.key/\VR μ a.val e.val/\e.born = a.born:=by
 induction es generalizing l i with
 | nil=>cases ha
 | cons x es ih =>
  obtain ⟨k,c,l',rfl,h1,h2,h3⟩:=h
  cases i with
  | zero=>simp at ha; subst ha; exact ⟨_,rfl,h1,h2,rfl⟩
  | succ i=>simp only [List.getElem?_cons_succ] at ha ⊢; exact ih h3 ha
theorem mc (l:List MapEntry) (i:Nat) (f:MapEntry->MapEntry) (e:MapEntry)(h:l[i]? = some e):l.toArray.modify i f = (l.set i (f e)).toArray:=by
 apply Array.ext'
 simp only [Array.toList_modify]
 apply List.ext_getElem?
 intro j
 rw [List.getElem?_modify,List.getElem?_set]
 by_cases hj:i = j
 ·subst hj
  have:=List.getElem?_eq_some_iff.1 h
  simp [this.1,this.2]
 simp [hj]
theorem cD {r:Nat} {O:Obj} (h:w.heap[r]? = some O)(hc:∀ c t f,O ≠ .cells c t f):(getObj r).run P w = .ok O w:=by
 unfold getObj
 simp only [Sem.run,h]
theorem gG {r:Nat} {O:Obj} (h:w.heap[r]? = some O)(hc:∀ c t f,O ≠ .cells c t f) (O':Obj):(setObj r O').run P w = .ok () { w with heap:=w.heap.setIfInBounds r O' }:=by
 unfold setObj
 simp only [Sem.run,h]

theorem y9 (hl:laidOutB P = true)(h:bA μ s w) {t kt et:TypeId} (hu:P.underlying t = some (.map kt et)) {m k v:AV} {m' k' v':Value} {s':St} (hx:gK P s kt m k v = some s')(hm:VR μ m m')(hk:VR μ k k')(hv:VR μ v v') :
  ∃ w',(Instr.mapUpdate t m' k' v').run P w = .ok () w'/\bA μ s' w'/\dJ μ s w μ s' w':=by
 unfold gK at hx
 split at hx
 ·next o q hq =>
  simp only [VR] at hm
  obtain ⟨p,hmo,rfl⟩:=hm
  have hkv:=qh hq hk
  have hqf:=lh hq
  split at hx
  ·next es clock ho =>
   have hob:=h.obj o _ ho (by rw [hmo]; simp)
   simp only [OR] at hob
   obtain ⟨p',l,h1,h2,h3⟩:=hob
   rw [hmo] at h1
   cases h1
   split at hx
   ·next i hsp =>
    obtain ⟨c1,c2,_,hsome⟩:=eJ hl hqf hsp h3 w
    obtain ⟨e0,a0,g1,g2,g3,g4,g5,g6⟩:=hsome _ rfl
    rw [g2] at hx
    cases hx
    obtain ⟨r1,r2⟩:=dZ (x:=.map (es.set i ⟨k,v,a0.born⟩) clock) (O:=.map (l.set i ⟨bG q,v',a0.born⟩).toArray clock) h ho hmo h2 (by simp) (fun w' hw=>by simp only [OR]; exact ⟨p,_,hmo,hw,h3.set (hkv ▸ hk) hv⟩)
    refine ⟨_,?_,r1,r2⟩
    subst hkv
    simp only [Instr.mapUpdate,Sem.run_bind,run_underlying hu w,Result.andThen_ok,cD h2 (by simp),c1,g6,List.getElem?_toArray,g1,Option.map_some,Option.getD_some,g3,c2]
    rw [mc l i _ e0 g1,gG h2 (by simp),g4]
   ·next hsp =>
    obtain ⟨c1,c2,hnone,_⟩:=eJ hl hqf hsp h3 w
    have g6:=hnone rfl
    cases hx
    obtain ⟨r1,r2⟩:=dZ (x:=.map (es ++ [⟨k,v,clock⟩]) (clock + 1)) (O:=.map (l ++ [(⟨bG q,v',clock⟩:MapEntry)]).toArray (clock + 1)) h ho hmo h2 (by simp) (fun w' hw=>by simp only [OR]; exact ⟨p,_,hmo,hw,h3.append (hkv ▸ hk) hv clock⟩)
    refine ⟨_,?_,r1,r2⟩
    subst hkv
    simp only [Instr.mapUpdate,Sem.run_bind,run_underlying hu w,Result.andThen_ok,cD h2 (by simp),c1,g6]
    rw [gG h2 (by simp)]
    simp
   cases hx
  cases hx
 cases hx
end
end
end Go.Proofs.YtkdhppimhdemjaaGreat
