/- Lemmas on the way: Ev6, Ev7, Ev8. -/
import Derived.Test.YtkdhppimhdemjaaGreatU08
set_option linter.all false
set_option maxRecDepth 1000000
set_option maxHeartbeats 32000000
namespace Go.Proofs.YtkdhppimhdemjaaGreat
open Go.RowKit
section
section
variable {P:Program} {μ:Mu} {s:St} {w:World}

theorem CE (hl:laidOutB P = true)(h:bA μ s w) {t:TypeId} {a k r:AV} {a' k':Value} {ok:Bool} (hx:nC P s t a k ok = some r)(ha:VR μ a a')(hk:VR μ k k') :
  ∃ v,(Instr.lookup t a' k' ok).run P w = .ok v w/\VR μ r v:=by
 unfold nC at hx
 split at hx
 ·next kt e q hu hq =>
  obtain rfl:=qh hq hk
  have hqf:=lh hq
  have main:∀ (es:List AE) (l:List MapEntry),gf μ es l->((a' = .map none/\l = []) ∨ ∃ b cl,a' = .map (some b)/\w.heap[b]? = some (.map l.toArray cl))->(match f8 P kt q es with
    | some (some i)=>match es[i]? with
     | some e=>some (cond ok (.tup [e.val,.b true]) e.val)
     | none=>none
    | some none=>(bP P e).map fun v=>cond ok (.tup [v,.b false]) v
    | none=>none) = some r ->
    ∃ v,(Instr.lookup t a' (bG q) ok).run P w = .ok v w/\VR μ r v:=by
   intro es l hr hcase hx
   split at hx
   ·next i hsp =>
    obtain ⟨c1,c2,_,hsome⟩:=eJ hl hqf hsp hr w
    obtain ⟨e0,a0,g1,g2,g3,g4,g5,g6⟩:=hsome _ rfl
    rw [g2] at hx
    simp only [Option.some.injEq] at hx
    subst hx
    refine ⟨if ok then .tuple #[e0.val,.bool true] else e0.val,?_,?_⟩
    ·rcases hcase with ⟨rfl,rfl⟩ | ⟨b,cl,rfl,hb⟩
     ·simp [Instr.lookup,run_underlying hu,c1,g6]
     simp [Instr.lookup,run_underlying hu,c1,g6,getObj,Sem.run,hb]
    cases ok
    ·exact g5
    exact ⟨[e0.val,.bool true],rfl,ao.cons g5 (ao.cons rfl ao.nil_)⟩
   ·next hsp =>
    obtain ⟨c1,c2,hnone,_⟩:=eJ hl hqf hsp hr w
    have g6:=hnone rfl
    simp only [Option.map_eq_some_iff] at hx
    obtain ⟨z,hz,rfl⟩:=hx
    obtain ⟨zv,hz1,hz2⟩:=eV hz w
    refine ⟨if ok then .tuple #[zv,.bool false] else zv,?_,?_⟩
    ·rcases hcase with ⟨rfl,rfl⟩ | ⟨b,cl,rfl,hb⟩
     ·simp [Instr.lookup,run_underlying hu,c1,g6,hz1]
     simp [Instr.lookup,run_underlying hu,c1,g6,getObj,Sem.run,hb,hz1]
    cases ok
    ·exact hz2 μ
    exact ⟨[zv,.bool false],rfl,ao.cons (hz2 μ) (ao.cons rfl ao.nil_)⟩
   cases hx
  split at hx
  ·next es hes =>
   split at hes
   ·simp only [Option.some.injEq] at hes
    subst hes
    simp only [VR] at ha
    exact main [] [] rfl (.inl ⟨ha,rfl⟩) hx
   ·next o =>
    split at hes
    ·next es' cl ho =>
     simp only [Option.some.injEq] at hes
     subst hes
     simp only [VR] at ha
     obtain ⟨p,hm,e'⟩:=ha
     have hob:=h.obj o _ ho (by rw [hm]; simp)
     simp only [OR] at hob
     obtain ⟨p',l,h1,h2,h3⟩:=hob
     rw [hm] at h1
     cases h1
     exact main es' l h3 (.inr ⟨_,_,e',h2⟩) hx
    cases hes
   ·next ks vs =>
    simp only [Option.some.injEq] at hes
    subst hes
    simp only [VR] at ha
    obtain ⟨b,l,clock,l',rfl,h1,h2,h3,h4,h5,h6⟩:=ha
    have hb:=i4 (h.fz _ _ _ h1).2.1
    obtain ⟨es,g1,g2,g3⟩:=zG h5 h6
    rw [<- g2,yM] at hx
    split at hx
    ·next i hsp =>
     obtain ⟨c1,c2,_,hsome⟩:=pf hl hqf hsp g1 h2 w
     obtain ⟨e0,a0,j,k1,k2,k3⟩:=hsome _ rfl
     rw [List.getElem?_map,k1,Option.map_some] at hx
     simp only [Option.some.injEq] at hx
     subst hx
     refine ⟨if ok then .tuple #[e0.val,.bool true] else e0.val,?_,?_⟩
     ·simp [Instr.lookup,run_underlying hu,c1,k3,getObj,Sem.run,hb]
     have k2:=k2.mono μ.blind_sub
     cases ok
     ·exact k2
     exact ⟨[e0.val,.bool true],rfl,ao.cons k2 (ao.cons rfl ao.nil_)⟩
    ·next hsp =>
     obtain ⟨c1,c2,hnone,_⟩:=pf hl hqf hsp g1 h2 w
     have g6:=hnone rfl
     simp only [Option.map_eq_some_iff] at hx
     obtain ⟨z,hz,rfl⟩:=hx
     obtain ⟨zv,hz1,hz2⟩:=eV hz w
     refine ⟨if ok then .tuple #[zv,.bool false] else zv,?_,?_⟩
     ·simp [Instr.lookup,run_underlying hu,c1,g6,getObj,Sem.run,hb,hz1]
     cases ok
     ·exact hz2 μ
     exact ⟨[zv,.bool false],rfl,ao.cons (hz2 μ) (ao.cons rfl ao.nil_)⟩
    cases hx
   cases hes
  cases hx
 cases hx
theorem mw {t:TypeId} {f:Nat} {fd:Field} (h:iC P t f = some fd):∃ fs,P.underlying t = some (.struct fs)/\fs[f]? = some fd:=by
 unfold iC at h
 split at h
 ·next fs hu=>exact ⟨fs,hu,h⟩
 cases h
theorem fj (b o n:Nat):(⟨b,o,none⟩:Addr).add n = ⟨b,o + n,none⟩:=Addr.add_mid b o n

theorem yP {ρ:Operand->Option AV} {ev:Operand->Value} (hρ:∀ x v,ρ x = some v->VR μ v (ev x)) {t:TypeId} {a r:AV} {a':Value} {lo hi mx:Option Operand} (hh:hi = none->mx = none)(hx:eu P ρ t a lo hi mx = some r)(ha:VR μ a a') (w:World) :
  ∃ v,(Instr.sliceAt t a' (lo.map ev) (hi.map ev) (mx.map ev)).run P w = .ok v w/\VR μ r v:=by
 unfold eu at hx
 split at hx
 ·next e o off len cap hu =>
  simp only [VR] at ha
  obtain ⟨p,c,hm,rfl,hc1,hc2⟩:=ha
  split at hx
  ·next z l h m hz h1 h2 h3 =>
   cases hc:(Nat.ble l h && Nat.ble h len && (mx.isNone || (Nat.ble h m && Nat.ble m len)) && Nat.ble len cap) with
   | false=>rw [hc] at hx; cases hx
   | true =>
    rw [hc] at hx
    simp only [Bool.and_eq_true,Bool.or_eq_true,Nat.ble_eq,Option.isNone_iff_eq_none] at hc
    obtain ⟨⟨⟨g1,g2⟩,g3⟩,g4⟩:=hc
    have hlc:len <= c:=by
     by_cases e:cap < cW
     ·rw [hc1 e]; exact g4
     exact (hc2 e).1
    have hb:=eH (P:=P) hρ true (len:=len) (cap:=c) h1 h2 h3 g1 (by
     by_cases e:mx = none
     ·exact .inl ⟨e,by omega⟩
     ·rcases g3 with g3 | g3
      ·exact absurd g3 e
      ·exact .inr ⟨g3.1,by omega,fun e2=>absurd (hh e2) e⟩) w
    have run:(Instr.sliceAt t (.slice (some ⟨p.blk,p.base + off,none⟩) len c) (lo.map ev) (hi.map ev) (mx.map ev)).run P w =
      .ok (.slice (if (if mx = none then c else m) = l then some ⟨p.blk,p.base + off,none⟩ else some ⟨p.blk,p.base + off + l * z,none⟩) (h - l) ((if mx = none then c else m) - l)) w:=by
     simp [Instr.sliceAt,Instr.slice,run_underlying hu,hb,bc hz,fj]
    simp only [cond_true] at hx
    cases hcc:(mx.isNone && Nat.ble cW cap) with
    | true =>
     rw [hcc] at hx
     simp only [Bool.and_eq_true,Nat.ble_eq,Option.isNone_iff_eq_none] at hcc
     obtain ⟨rfl,hbig⟩:=hcc
     simp only [cond_true] at hx
     cases hcd:(Nat.beq cap (cW + z) && (Nat.beq l 0 || Nat.blt l len)) with
     | false=>rw [hcd] at hx; cases hx
     | true =>
      rw [hcd] at hx
      simp only [Bool.and_eq_true,Bool.or_eq_true,Nat.beq_eq,Nat.blt_eq] at hcd
      obtain ⟨rfl,hl0⟩:=hcd
      cases hx
      obtain ⟨q1,q2,q3⟩:=hc2 (by omega)
      obtain ⟨y,hy,ey⟩:∃ y,y = cW + z - cW/\y = z:=⟨_,rfl,by omega⟩
      rw [<- hy,ey] at q3
      have haddr:(if c = l then some ⟨p.blk,p.base + off,none⟩ else some ⟨p.blk,p.base + off + l * z,none⟩:Option Addr) = some ⟨p.blk,p.base + (off + l * z),none⟩:=by
       split
       ·next e =>
        have:l = 0:=by omega
        subst this
        simp
       rw [Nat.add_assoc]
      have hmul:l * z + (c - l) * z = c * z:=by rw [<- Nat.add_mul]; rw [show l + (c - l) = c by omega]
      refine ⟨_,run,?_⟩
      simp only [VR,if_true]
      rw [<- hy,ey,haddr]
      clear hy ey
      refine ⟨p,c - l,hm,rfl,fun e=>by omega,fun _=>⟨by omega,by omega,?_⟩⟩
      omega
    | false =>
     rw [hcc] at hx
     simp only [cond_false] at hx
     cases hcd:(Nat.beq l 0 || Nat.blt l m) with
     | false=>rw [hcd] at hx; cases hx
     | true =>
      rw [hcd] at hx
      simp only [Bool.or_eq_true,Nat.beq_eq,Nat.blt_eq] at hcd
      cases hx
      have hmm:(if mx = none then c else m) = m:=by
       split
       ·next e =>
        subst e
        simp only [di,Option.some.injEq] at h3
        have:cap < cW:=by
         simp only [Option.isNone_none,Bool.true_and,<- Bool.not_eq_true,Nat.ble_eq] at hcc
         omega
        rw [hc1 this,h3]
       rfl
      rw [hmm] at run
      refine ⟨_,run,?_⟩
      simp only [VR]
      have hmb:m - l < cW:=by
       by_cases e:mx = none
       ·subst e
        simp only [di,Option.some.injEq] at h3
        simp only [Option.isNone_none,Bool.true_and,<- Bool.not_eq_true,Nat.ble_eq] at hcc
        omega
       rcases g3 with g3 | g3
       ·exact absurd g3 e
       have:c < cW ∨ ¬ cap < cW:=by
        by_cases e2:cap < cW
        ·left; rw [hc1 e2]; exact e2
        exact .inr e2
       rcases this with e2 | e2
       ·omega
       have:=hc2 e2; omega
      refine ⟨p,m - l,hm,?_,fun _=>rfl,fun e=>absurd hmb e⟩
      congr 1
      split
      ·next e =>
       have:l = 0:=by omega
       subst this
       simp
      rw [Nat.add_assoc]
  cases hx
 ·next e c len hu =>
  simp only [VR] at ha
  obtain ⟨cs,⟨A,cap,rfl,k1,k2,k3⟩,hcs⟩:=ha
  split at hx
  ·next z l h hz h1 h2 =>
   obtain ⟨hc,hx⟩:=aj hx
   simp only [Bool.and_eq_true,Nat.ble_eq] at hc
   cases hx
   have hb:=eH (P:=P) hρ true (len:=len) (cap:=cap) (mx:=none) (d:=cap) h1 h2 rfl hc.1 (.inl ⟨rfl,by omega⟩) w
   simp only [Option.map_none,if_true] at hb
   have run:∃ A',(Instr.sliceAt t (.slice A len cap) (lo.map ev) (hi.map ev) none).run P w = .ok (.slice A' (h - l) (cap - l)) w/\(0 < len->l < cap->∀ b base,A = some ⟨b,base,none⟩->A' = some ⟨b,base + l * z,none⟩):=by
    refine ⟨_,by simp [Instr.sliceAt,Instr.slice,run_underlying hu,hb,bc hz]; rfl,fun _ hlt b base e=>?_⟩
    subst e
    rw [if_neg (by omega)]
    simp [fj]
   obtain ⟨A',r1,r2⟩:=run
   refine ⟨_,r1,?_⟩
   simp only [VR]
   refine ⟨cs.drop (l * z),⟨A',cap - l,rfl,by omega,by omega,fun hn=>?_⟩,hcs.drop _⟩
   obtain ⟨b,base,e,hf⟩:=k3 (by omega)
   exact ⟨b,base + l * z,r2 (by omega) (by omega) b base e,hf.drop _⟩
  cases hx
 ·next e hu =>
  simp only [VR] at ha
  subst ha
  split at hx
  ·next z hz h1 h2 h3 =>
   cases hx
   have hb:=eH (P:=P) hρ true (len:=0) (cap:=0) h1 h2 h3 (Nat.le_refl 0) (by
    by_cases e:mx = none
    ·exact .inl ⟨e,Nat.le_refl 0⟩
    ·exact .inr ⟨Nat.le_refl 0,Nat.le_refl 0,fun e2=>absurd (hh e2) e⟩) w
   exact ⟨.slice none 0 0,by simp [Instr.sliceAt,Instr.slice,run_underlying hu,hb,bc hz],by simp [VR]⟩
  cases hx
 ·next n e o off hu =>
  simp only [VR] at ha
  obtain ⟨p,hm,rfl⟩:=ha
  split at hx
  ·next z l h m hz h1 h2 h3 =>
   cases hc:(Nat.ble l h && Nat.ble h m && Nat.ble m n && (Nat.beq l 0 || Nat.blt l m) && Nat.blt n cW) with
   | false=>rw [hc] at hx; cases hx
   | true =>
    rw [hc] at hx
    simp only [Bool.and_eq_true,Bool.or_eq_true,Nat.ble_eq,Nat.beq_eq,Nat.blt_eq] at hc
    obtain ⟨⟨⟨⟨g1,g2⟩,g3⟩,g4⟩,g5⟩:=hc
    cases hx
    have hb:=eH (P:=P) hρ false (len:=n) (cap:=n) h1 h2 h3 g1 (by
     by_cases e:mx = none
     ·exact .inl ⟨e,by omega⟩
     ·exact .inr ⟨by omega,by omega,fun e2=>absurd (hh e2) e⟩) w
    have hmm:(if mx = none then n else m) = m:=by
     split
     ·next e =>
      subst e
      simp only [di,Option.some.injEq] at h3
      exact h3
     rfl
    rw [hmm] at hb
    refine ⟨_,by simp [Instr.sliceAt,Instr.sureAddr,run_underlying hu,hb,bc hz,fj]; rfl,?_⟩
    simp only [VR]
    refine ⟨p,m - l,hm,?_,fun _=>rfl,fun e=>?_⟩
    ·congr 1
     split
     ·next e =>
      have:l = 0:=by omega
      subst this
      simp
     rw [Nat.add_assoc]
    omega
  cases hx
 cases hx
end
end
section
section
variable {P:Program} {μ:Mu} {s:St} {w:World}

theorem aF {x:Sem Value} {v:Value} {w w':World} (h:x.run P w = .ok v w'):((do pure (Next.value (<- x)):Sem Next)).run P w = .ok (.value v) w':=by simp [h]

theorem rx {place:Nat->Option (Nat × Nat)} {ρ:Operand->Option AV} {ev:Operand->Value} (hρ:∀ x v,ρ x = some v->VR μ v (ev x)) :
  ∀ (ps:List (Nat × Operand)) (c:List AV) (m:List Value) {r:List AV},ao μ c m->il ρ place c ps = some r->∃ m',Instr.fill place m.toArray (ps.map fun p=>(p.1,ev p.2)) = some m'.toArray/\ao μ r m':=by
 have put_eq:∀ (vs:List Value) (off:Nat) (m:List Value),vs.zipIdx.foldl (fun (cs:Array Value) (x:Value × Nat)=>cs.setIfInBounds (off + x.2) x.1) m.toArray = (cY m off vs).toArray:=by
  have go:∀ (vs:List Value) (k off:Nat) (m:List Value),(vs.zipIdx k).foldl (fun (cs:Array Value) (x:Value × Nat)=>cs.setIfInBounds (off + x.2) x.1) m.toArray = (cY m (off + k) vs).toArray:=by
   intro vs
   induction vs with
   | nil=>intro k off m; rfl
   | cons v vs ih=>intro k off m; simp only [List.zipIdx_cons,List.foldl_cons,List.setIfInBounds_toArray,cY]; rw [ih (k + 1) off]; rfl
  intro vs off m
  exact go vs 0 off m
 intro ps
 induction ps with
 | nil=>intro c m r hc h; simp only [il,Option.some.injEq] at h; subst h; exact ⟨m,rfl,hc⟩
 | cons p ps ih =>
  intro c m r hc h
  simp only [il] at h
  split at h
  case h_2=>cases h
  rename_i _ _ off n v g1 g2
  cases hcd:(Nat.beq v.cells.length n && Nat.ble (off + n) c.length) with
  | false=>rw [hcd] at h; cases h
  | true =>
  rw [hcd] at h
  simp only [Bool.and_eq_true,Nat.beq_eq,Nat.ble_eq] at hcd
  obtain ⟨rfl,g3⟩:=hcd
  simp only [cond_true] at h
  have h2:=h
  have hv:=hρ _ _ g2
  have hcells:=hv.cells
  have hlen:=hcells.length
  have hput:∀ (vs:List AV) (ms:List Value) (off:Nat) (c:List AV) (m:List Value),ao μ vs ms->ao μ c m->ao μ (cY c off vs) (cY m off ms):=by
   intro vs
   induction vs with
   | nil=>intro ms off c m h1 h2; simp only [ao] at h1; subst h1; exact h2
   | cons a vs ih =>
    intro ms off c m h1 h2
    simp only [ao] at h1
    obtain ⟨y,ys,rfl,h3,h4⟩:=h1
    exact ih ys (off + 1) _ _ h4 (h2.set off h3)
  obtain ⟨m',k1,k2⟩:=ih _ _ (hput _ _ off c m hcells hc) h2
  refine ⟨m',?_,k2⟩
  simp only [List.map_cons,Instr.fill,g1]
  have hcl:=hc.length
  have hsz:(ev p.2).cells.size = v.cells.length:=by rw [hlen]; simp
  have e:(ev p.2).cells.zipIdx.foldl (fun (cs:Array Value) (x:Value × Nat)=>cs.setIfInBounds (off + x.2) x.1) m.toArray = (cY m off (ev p.2).cells.toList).toArray:=by
   rw [<- Array.foldl_toList,Array.toList_zipIdx]
   exact put_eq _ _ _
  rw [if_neg (by rw [hsz]; simp; omega),<- k1]
  congr 1
theorem yU {fs:List Field} {pl:List (Nat × Nat)} (h:jq P fs = some pl) (w:World):(fs.mapM fun (f:Field)=>(do pure (f.offset,<- sizeOf f.type):Sem (Nat × Nat))).run P w = .ok pl w:=by
 induction fs generalizing pl with
 | nil=>simp only [jq,Option.some.injEq] at h; subst h; rfl
 | cons f fs ih =>
  simp only [jq] at h
  split at h
  ·next n hn =>
   simp only [Option.map_eq_some_iff] at h
   obtain ⟨pl',h1,rfl⟩:=h
   have:=ih h1
   simp only [List.mapM_cons,Sem.run_bind,bc hn,Result.andThen_ok,Sem.run_pure,this]
  cases h
theorem Dc {ρ:Operand->Option AV} {ev:Operand->Value} (hρ:∀ x v,ρ x = some v->VR μ v (ev x)) {t:TypeId} {ps:Array (Nat × Operand)} {r:AV} (hx:dL P ρ s (.build t ps) = some r) (w:World) :
  ∃ v,(Instr.build t (ps.map fun (i,x)=>(i,ev x))).run P w = .ok v w/\VR μ r v:=by
 simp only [dL] at hx
 split at hx
 ·next z fs hz hu =>
  split at hx
  ·next pl hpl =>
   simp only [Option.map_eq_some_iff] at hx
   obtain ⟨c,hc,rfl⟩:=hx
   obtain ⟨zv,hz1,hz2⟩:=eV hz w
   obtain ⟨m,h1,h2⟩:=rx hρ ps.toList z.cells zv.cells.toList (hz2 μ).cells hc
   refine ⟨.agg m.toArray,?_,by simp only [VR]; exact ⟨m,rfl,h2⟩⟩
   have hp:=yU hpl w
   have e:(fun (i:Nat)=>(pl.toArray)[i]?) = fun (i:Nat)=>pl[i]?:=by funext i; simp
   simp only [Instr.build,Sem.run_bind,hz1,Result.andThen_ok,run_underlying hu w,Array.mapM_eq_mapM_toList,Sem.run_map,hp,Array.toList_map]
   rw [e]
   simp only [Array.toArray_toList] at h1
   rw [h1]
   rfl
  cases hx
 ·next z n e hz hu =>
  split at hx
  ·next k hk =>
   simp only [Option.map_eq_some_iff] at hx
   obtain ⟨c,hc,rfl⟩:=hx
   obtain ⟨zv,hz1,hz2⟩:=eV hz w
   obtain ⟨m,h1,h2⟩:=rx hρ ps.toList z.cells zv.cells.toList (hz2 μ).cells hc
   refine ⟨.agg m.toArray,?_,by simp only [VR]; exact ⟨m,rfl,h2⟩⟩
   simp only [Instr.build,Sem.run_bind,hz1,Result.andThen_ok,run_underlying hu w,bc hk,Array.toList_map]
   simp only [Array.toArray_toList] at h1
   rw [h1]
   rfl
  cases hx
 cases hx
end
end
section
section
variable {P:Program} {μ:Mu} {s:St} {w:World}

theorem Dd {l:List MapEntry} (h:(l.map (·.born)).Nodup) {e:MapEntry} (he:e ∈ l):l.find? (fun x=>x.born == e.born) = some e:=by
 induction l with
 | nil=>cases he
 | cons x l ih =>
  simp only [List.map_cons,List.nodup_cons] at h
  rw [List.find?_cons]
  by_cases hx:x.born = e.born
  ·rcases List.mem_cons.1 he with rfl | he
   ·simp
   exact absurd (List.mem_map.2 ⟨e,he,hx.symm⟩) h.1
  rcases List.mem_cons.1 he with rfl | he
  ·exact absurd rfl hx
  rw [show (x.born == e.born) = false by simpa using hx]
  exact ih h.2 he
theorem gf.find {es:List AE} {l:List MapEntry} (h:gf μ es l) (b:Nat):(∀ a,es.find? (fun e=>Nat.beq e.born b) = some a->∃ e,l.find? (fun e=>e.born == b) = some e/\VR μ a.key e.key/\VR μ a.val e.val/\e.born = a.born):=by
 induction es generalizing l with
 | nil=>intro a e; cases e
 | cons x es ih =>
  obtain ⟨k,v,l',rfl,h1,h2,h3⟩:=h
  intro a e
  rw [List.find?_cons] at e ⊢
  cases hb:Nat.beq x.born b with
  | true =>
   rw [hb] at e
   cases e
   have:(x.born == b) = true:=by simpa using hb
   simp only [this]
   exact ⟨_,rfl,h1,h2,rfl⟩
  | false =>
   rw [hb] at e
   have:(x.born == b) = false:=by simpa using (vl.1 hb)
   simp only [this]
   exact ih h3 a e

theorem KU (hl:laidOutB P = true)(h:bA μ s w) {ρ:Operand->Option AV} {ev:Operand->Value} (hρ:∀ x v,ρ x = some v->VR μ v (ev x)) (o:Oper) {r:AV} (hx:dL P ρ s o.op = some r) :
  ∃ v,(execOp ev o).run P w = .ok (.value v) w/\VR μ r v:=by
 obtain ⟨dst,op,type,pos,after,guard⟩:=o
 simp only at hx
 cases op
 case move x=>exact ⟨_,rfl,hρ _ _ (by simpa only [dL] using hx)⟩
 case assign x=>exact ⟨_,rfl,hρ _ _ (by simpa only [dL] using hx)⟩
 case pick c a b =>
  simp only [dL] at hx
  split at hx
  ·next t hc =>
   have hc':=hρ _ _ hc
   simp only [VR] at hc'
   cases t
   ·exact ⟨ev b,by simp [execOp,hc',asBool],hρ _ _ hx⟩
   exact ⟨ev a,by simp [execOp,hc',asBool],hρ _ _ hx⟩
  cases hx
 case load t a =>
  simp only [dL,Option.bind_eq_some_iff] at hx
  obtain ⟨x,h1,h2⟩:=hx
  obtain ⟨v,h3,h4⟩:=q8 h h2 (hρ _ _ h1)
  exact ⟨v,aF h3,h4⟩
 case nilCheck x =>
  simp only [dL] at hx
  split at hx
  ·next o off e =>
   cases hx
   have:=hρ _ _ e
   refine ⟨ev x,?_,this⟩
   simp only [VR] at this
   obtain ⟨p,_,e'⟩:=this
   simp [execOp,e']
  ·next c off e =>
   cases hx
   have:=hρ _ _ e
   refine ⟨ev x,?_,this⟩
   simp only [VR] at this
   obtain ⟨b,base,cs,e',_⟩:=this
   simp [execOp,e']
  ·next f fs cs e =>
   cases hx
   have:=hρ _ _ e
   refine ⟨ev x,?_,this⟩
   simp only [VR] at this
   obtain ⟨a,c,e',_,_⟩:=this
   simp [execOp,e']
  ·next l e =>
   cases hx
   have:=hρ _ _ e
   refine ⟨ev x,?_,this⟩
   simp only [VR] at this
   obtain ⟨p,_,e'⟩:=this
   simp [execOp,e']
  cases hx
 case binOp op t x y yt =>
  simp only [dL] at hx
  split at hx
  ·next a b ha hb =>
   obtain ⟨h1,v,h2,h3⟩:=Gg (x:=x) (y:=y) hx (hρ _ _ ha) (hρ _ _ hb) w
   exact ⟨v,by simp [execOp,h1,h2],h3⟩
  cases hx
 case unOp op t x =>
  simp only [dL,Option.bind_eq_some_iff] at hx
  obtain ⟨a,h1,v,h2,u,h3,h4⟩:=hx
  have:=yJ h2 (hρ _ _ h1)
  exact ⟨u,by simp [execOp,this,fU P w _ h3],eL μ u h4⟩
 case convert src dst x =>
  simp only [dL,Option.bind_eq_some_iff] at hx
  obtain ⟨a,h1,hx⟩:=hx
  split at hx
  ·next k n =>
   rw [Option.bind_eq_some_iff] at hx
   obtain ⟨u,h3,h4⟩:=hx
   have:=hρ _ _ h1
   simp only [VR] at this
   exact ⟨u,by simp [execOp,this,fU P w _ h3],eL μ u h4⟩
  cases hx
 case makeInterface t x =>
  simp only [dL] at hx
  split at hx
  ·cases hx
  ·next d hd hu =>
   simp only [Option.map_eq_some_iff] at hx
   obtain ⟨a,h1,rfl⟩:=hx
   refine ⟨.iface t (ev x),?_,by simp only [VR]; exact ⟨_,rfl,hρ _ _ h1⟩⟩
   apply aF
   simp only [Instr.makeInterface,Sem.run_bind,run_underlying hu w,Result.andThen_ok]
   rfl
  cases hx
 case makeFunc fn fs cs =>
  cases fn with
  | func f =>
   simp only [dL,Option.bind_eq_some_iff,Option.map_eq_some_iff] at hx
   obtain ⟨asn,h1,bs,h2,rfl⟩:=hx
   refine ⟨.func (.func f) (fs.map ev) (cs.map ev),rfl,?_⟩
   simp only [VR]
   exact ⟨fs.toList.map ev,cs.toList.map ev,by rw [<- Array.toList_map,<- Array.toList_map,Array.toArray_toList,Array.toArray_toList],eD hρ h1,eD hρ h2⟩
  | _=>simp [dL] at hx
 case slice t x lo hi mx =>
  simp only [dL] at hx
  cases hc:(hi.isSome || mx.isNone) with
  | false=>rw [hc] at hx; cases hx
  | true =>
   rw [hc] at hx
   simp only [cond_true,Option.bind_eq_some_iff] at hx
   obtain ⟨a,h1,h2⟩:=hx
   obtain ⟨v,h3,h4⟩:=yP hρ (by rintro rfl; simpa using hc) h2 (hρ _ _ h1) w
   exact ⟨v,aF h3,h4⟩
 case fieldAddr t x f =>
  simp only [dL] at hx
  split at hx
  ·next fd o off hf ha =>
   obtain ⟨fs,hu,hfs⟩:=mw hf
   have hv:=hρ _ _ ha
   simp only [VR] at hv
   obtain ⟨p,hm,e⟩:=hv
   split at hx
   ·next n hz =>
    cases hx
    refine ⟨.pointer (some ⟨p.blk,p.base + (off + fd.offset),none⟩),aF ?_,by simp only [VR]; exact ⟨p,hm,rfl⟩⟩
    simp [Instr.fieldAt,Instr.sureAddr,run_underlying hu,hfs,e,fieldPlace,bc hz,fj,Nat.add_assoc]
   cases hx
  ·next fd c off hf ha =>
   obtain ⟨fs,hu,hfs⟩:=mw hf
   have hv:=hρ _ _ ha
   simp only [VR] at hv
   obtain ⟨b,base,cs,e,hv⟩:=hv
   split at hx
   ·next n hz =>
    cases hx
    refine ⟨.pointer (some ⟨b,base + (off + fd.offset),none⟩),aF ?_,by simp only [VR]; exact ⟨b,base,cs,rfl,hv⟩⟩
    simp [Instr.fieldAt,Instr.sureAddr,run_underlying hu,hfs,e,fieldPlace,bc hz,fj,Nat.add_assoc]
   cases hx
  cases hx
 case field t x f =>
  simp only [dL] at hx
  split at hx
  ·next fd l hf ha =>
   obtain ⟨fs,hu,hfs⟩:=mw hf
   have hv:=hρ _ _ ha
   simp only [VR] at hv
   obtain ⟨m,e,hm⟩:=hv
   obtain ⟨v,h3,h4⟩:=wH hx hm w
   refine ⟨v,aF ?_,h4⟩
   simp [Instr.field,run_underlying hu,hfs,e,asAgg,h3]
  cases hx
 case indexAddr t x ix =>
  simp only [dL] at hx
  split at hx
  ·next n e o off i hu ha hi =>
   rw [Option.bind_eq_some_iff] at hi
   obtain ⟨ia,hi1,hi2⟩:=hi
   have ei:=jA hi2 (hρ _ _ hi1)
   have hv:=hρ _ _ ha
   simp only [VR] at hv
   obtain ⟨p,hm,e'⟩:=hv
   split at hx
   ·next z hz =>
    cases hc:Nat.blt i n with
    | false=>rw [hc] at hx; cases hx
    | true =>
     rw [hc] at hx
     cases hx
     rw [Nat.blt_eq] at hc
     refine ⟨.pointer (some ⟨p.blk,p.base + (off + i * z),none⟩),aF ?_,by simp only [VR]; exact ⟨p,hm,rfl⟩⟩
     simp [Instr.indexAt,asIntOf,ei,Instr.sureAddr,run_underlying hu,e',bc hz,fj,Nat.add_assoc,hc]
   cases hx
  ·next e o off n c i hu ha hi =>
   rw [Option.bind_eq_some_iff] at hi
   obtain ⟨ia,hi1,hi2⟩:=hi
   have ei:=jA hi2 (hρ _ _ hi1)
   have hv:=hρ _ _ ha
   simp only [VR] at hv
   obtain ⟨p,c',hm,e',_,_⟩:=hv
   split at hx
   ·next z hz =>
    cases hc:Nat.blt i n with
    | false=>rw [hc] at hx; cases hx
    | true =>
     rw [hc] at hx
     cases hx
     rw [Nat.blt_eq] at hc
     refine ⟨.pointer (some ⟨p.blk,p.base + (off + i * z),none⟩),aF ?_,by simp only [VR]; exact ⟨p,hm,rfl⟩⟩
     simp [Instr.indexAt,asIntOf,ei,run_underlying hu,e',bc hz,fj,Nat.add_assoc,hc]
   cases hx
  ·next n e c off i hu ha hi =>
   rw [Option.bind_eq_some_iff] at hi
   obtain ⟨ia,hi1,hi2⟩:=hi
   have ei:=jA hi2 (hρ _ _ hi1)
   have hv:=hρ _ _ ha
   simp only [VR] at hv
   obtain ⟨b,base,cs,e',hv⟩:=hv
   split at hx
   ·next z hz =>
    obtain ⟨hc,hx⟩:=aj hx
    cases hx
    rw [Nat.blt_eq] at hc
    refine ⟨.pointer (some ⟨b,base + (off + i * z),none⟩),aF ?_,by simp only [VR]; exact ⟨b,base,cs,rfl,hv⟩⟩
    simp [Instr.indexAt,asIntOf,ei,Instr.sureAddr,run_underlying hu,e',bc hz,fj,Nat.add_assoc,hc]
   cases hx
  ·next e c n i hu ha hi =>
   rw [Option.bind_eq_some_iff] at hi
   obtain ⟨ia,hi1,hi2⟩:=hi
   have ei:=jA hi2 (hρ _ _ hi1)
   have hv:=hρ _ _ ha
   simp only [VR] at hv
   obtain ⟨cs,⟨A,cap,e',_,_,hA⟩,hcs⟩:=hv
   split at hx
   ·next z hz =>
    obtain ⟨hc,hx⟩:=aj hx
    cases hx
    rw [Nat.blt_eq] at hc
    obtain ⟨b,base,rfl,hf⟩:=hA (by omega)
    refine ⟨.pointer (some ⟨b,base + i * z,none⟩),aF ?_,by simp only [VR]; exact ⟨b,base,cs,rfl,hf,hcs⟩⟩
    simp [Instr.indexAt,asIntOf,ei,run_underlying hu,e',bc hz,fj,hc]
   cases hx
  cases hx
 case index t x ix =>
  simp only [dL] at hx
  split at hx
  ·next n e l i hu ha hi =>
   rw [Option.bind_eq_some_iff] at hi
   obtain ⟨ia,hi1,hi2⟩:=hi
   have ei:=jA hi2 (hρ _ _ hi1)
   have hv:=hρ _ _ ha
   simp only [VR] at hv
   obtain ⟨m,e',hm⟩:=hv
   split at hx
   ·next z hz =>
    cases hc:Nat.blt i n with
    | false=>rw [hc] at hx; cases hx
    | true =>
     rw [hc] at hx
     rw [Nat.blt_eq] at hc
     obtain ⟨v,h3,h4⟩:=wH hx hm w
     refine ⟨v,aF ?_,h4⟩
     simp [Instr.index,asIntOf,ei,run_underlying hu,e',bc hz,hc,h3]
   cases hx
  cases hx
 case lookup t x k ok =>
  simp only [dL] at hx
  split at hx
  ·next a b ha hb =>
   obtain ⟨v,h3,h4⟩:=CE hl h hx (hρ _ _ ha) (hρ _ _ hb)
   exact ⟨v,aF h3,h4⟩
  cases hx
 case typeAssert x xt t ok =>
  simp only [dL] at hx
  split at hx
  ·cases hx
  ·next d t' u hd hu ha =>
   have hv:=hρ _ _ ha
   simp only [VR] at hv
   obtain ⟨y,e',hy⟩:=hv
   cases hc:Nat.beq t t' with
   | false=>rw [hc] at hx; cases hx
   | true =>
    rw [hc] at hx
    cases hx
    have ht:=Nat.eq_of_beq_eq_true hc
    subst ht
    refine ⟨if ok then .tuple #[y,.bool true] else y,aF ?_,?_⟩
    ·simp only [Instr.typeAssert,Sem.run_bind,run_underlying hu w,Result.andThen_ok,e']
     cases d <;> first | exact absurd rfl (hd _) | simp
    cases ok
    ·exact hy
    simp only [cond_true,if_true,VR]; exact ⟨[y,.bool true],rfl,ao.cons hy (ao.cons (by simp [VR]) ao.nil_)⟩
  cases hx
 case extract x k =>
  simp only [dL] at hx
  split at hx
  ·next l ha =>
   have hv:=hρ _ _ ha
   simp only [VR] at hv
   obtain ⟨m,e',hm⟩:=hv
   obtain ⟨y,hy,hv⟩:=hm.get hx
   exact ⟨y,aF (by simp [Instr.extract,e',hy]),hv⟩
  cases hx
 case entry it =>
  simp only [dL] at hx
  split at hx
  ·next o ha =>
   have hv:=hρ _ _ ha
   simp only [VR] at hv
   obtain ⟨p,hm,e'⟩:=hv
   split at hx
   ·next k1 v1 ks1 vs1 ho =>
    cases hx
    have hob:=h.obj o _ ho (by rw [hm]; simp)
    simp only [OR] at hob
    obtain ⟨p',b,l,c,sn,l',h1,h0,h2,h3,h4,h5,h6,h7,h8,h9⟩:=hob
    rw [hm] at h1
    cases h1
    obtain ⟨e,g1,g2,g3,g4⟩:=h9 _ _ rfl
    have hb:=i4 (h.fz _ _ _ h3).2.1
    have hfind:l.toArray.find? (fun x=>x.born == e.born) = some e:=by
     have:l.find? (fun x=>x.born == e.born) = some e:=Dd h4 g1
     simpa using this
    refine ⟨.tuple #[e.key,e.val],aF ?_,by simp only [VR]; exact ⟨[e.key,e.val],rfl,ao.cons (g3.mono μ.blind_sub) (ao.cons (g4.mono μ.blind_sub) ao.nil_)⟩⟩
    have hbk:sn.toArray.back? = some e.born:=by simpa using g2
    simp [Instr.entry,e',h0,getObj,Sem.run,h2,hb,hbk,hfind]
   ·next m x1 seen st ho =>
    have hob:=h.obj o _ ho (by rw [hm]; simp)
    simp only [OR] at hob
    obtain ⟨p',m',h1,h0,h2,q,h3,rfl⟩:=hob
    rw [hm] at h1
    cases h1
    split at hx
    ·next es clock hmo =>
     have hob2:=h.obj m _ hmo (by rw [h3]; simp)
     simp only [OR] at hob2
     obtain ⟨q',l,h4,h5,h6⟩:=hob2
     rw [h3] at h4
     cases h4
     split at hx
     ·next b hb =>
      cases hc:Nat.beq clock st with
      | false=>rw [hc] at hx; cases hx
      | true =>
       rw [hc] at hx
       simp only [cond_true] at hx
       have hcs:=Nat.eq_of_beq_eq_true hc
       subst hcs
       split at hx
       ·next a hfa =>
        cases hx
        obtain ⟨e,f1,f2,f3,f4⟩:=h6.find b a hfa
        refine ⟨.tuple #[e.key,e.val],aF ?_,by simp only [VR]; exact ⟨[e.key,e.val],rfl,ao.cons f2 (ao.cons f3 ao.nil_)⟩⟩
        have hbk:seen.toArray.back? = some b:=by simpa using hb
        simp [Instr.entry,e',h0,getObj,Sem.run,h2,h5,hbk,f1]
       cases hx
     cases hx
    cases hx
   cases hx
  cases hx
 case build t ps =>
  obtain ⟨v,h3,h4⟩:=Dc hρ hx w
  exact ⟨v,aF h3,h4⟩
 case call c =>
  obtain ⟨callee,args,argTypes⟩:=c
  cases callee with
  | builtin b =>
   cases b
   case len =>
    simp only [dL] at hx
    split at hx
    ·next t x ht ha =>
     have hrun:∀ {v},(Builtin.len_ argTypes type (args.map ev)).run P w = .ok v w->(execOp ev ⟨dst,.call ⟨.builtin .len,args,argTypes⟩,type,pos,after,guard⟩).run P w = .ok (.value v) w:=fun hv=>by
      simp [execOp,resolve,invoke,builtin,hv]
     have hat:argTypes = #[t]:=by rw [<- Array.toArray_toList (xs:=argTypes),ht]
     have haa:args = #[x]:=by rw [<- Array.toArray_toList (xs:=args),ha]
     subst hat
     subst haa
     split at hx
     ·next n e hu =>
      cases hx
      exact ⟨.int .i64 n,hrun (by simp [Builtin.len_,run_underlying hu,goInt]),by simp [VR]⟩
     ·next e hu =>
      split at hx
      ·next o off n c hv =>
       cases hx
       have hv:=hρ _ _ hv
       simp only [VR] at hv
       obtain ⟨p,c',hm,e',_,_⟩:=hv
       exact ⟨.int .i64 n,hrun (by simp [Builtin.len_,run_underlying hu,goInt,e']),by simp [VR]⟩
      ·next c n hv =>
       cases hx
       have hv:=hρ _ _ hv
       simp only [VR] at hv
       obtain ⟨cs,⟨A,cap,e',_⟩,_⟩:=hv
       exact ⟨.int .i64 n,hrun (by simp [Builtin.len_,run_underlying hu,goInt,e']),by simp [VR]⟩
      ·next hv =>
       cases hx
       have hv:=hρ _ _ hv
       simp only [VR] at hv
       exact ⟨.int .i64 0,hrun (by simp [Builtin.len_,run_underlying hu,goInt,hv]),by simp [VR]⟩
      cases hx
     ·next kt e hu =>
      split at hx
      ·next o hv =>
       simp only [IG,Option.map_eq_some_iff] at hx
       obtain ⟨n,hn,rfl⟩:=hx
       have hv:=hρ _ _ hv
       simp only [VR] at hv
       obtain ⟨p,hm,e'⟩:=hv
       split at hn
       ·next es clock ho =>
        cases hn
        have hob:=h.obj o _ ho (by rw [hm]; simp)
        simp only [OR] at hob
        obtain ⟨p',l,h1,h2,h3⟩:=hob
        rw [hm] at h1
        cases h1
        have hlen:∀ {es:List AE} {l:List MapEntry},gf μ es l->l.length = es.length:=by
         intro es
         induction es with
         | nil=>intro l h; simp only [gf] at h; subst h; rfl
         | cons a es ih=>intro l h; obtain ⟨_,_,l',rfl,_,_,h⟩:=h; simp [ih h]
        exact ⟨.int .i64 es.length,hrun (by simp [Builtin.len_,run_underlying hu,goInt,e',getObj,Sem.run,h2,hlen h3]),by simp [VR]⟩
       cases hn
      ·next hv =>
       cases hx
       have hv:=hρ _ _ hv
       simp only [VR] at hv
       exact ⟨.int .i64 0,hrun (by simp [Builtin.len_,run_underlying hu,goInt,hv]),by simp [VR]⟩
      ·next ks vs hv =>
       cases hx
       have hv:=hρ _ _ hv
       simp only [VR] at hv
       obtain ⟨b,l,clock,l',e',h1,h2,h3,h4,h5,h6⟩:=hv
       have hb:=i4 (h.fz _ _ _ h1).2.1
       have hlen:l.length = ks.length:=by rw [h5.length,List.length_map,h2.length_eq]
       exact ⟨.int .i64 ks.length,hrun (by simp [Builtin.len_,run_underlying hu,goInt,e',getObj,Sem.run,hb,hlen]),by simp [VR]⟩
      cases hx
     cases hx
    cases hx
   case cap =>
    simp only [dL] at hx
    split at hx
    ·next t x ht ha =>
     have hrun:∀ {v},(Builtin.cap_ argTypes type (args.map ev)).run P w = .ok v w->(execOp ev ⟨dst,.call ⟨.builtin .cap,args,argTypes⟩,type,pos,after,guard⟩).run P w = .ok (.value v) w:=fun hv=>by
      simp [execOp,resolve,invoke,builtin,hv]
     have hat:argTypes = #[t]:=by rw [<- Array.toArray_toList (xs:=argTypes),ht]
     have haa:args = #[x]:=by rw [<- Array.toArray_toList (xs:=args),ha]
     subst hat
     subst haa
     split at hx
     ·next e hu =>
      split at hx
      ·next o off n c hv =>
       cases hc:Nat.blt c cW with
       | false=>rw [hc] at hx; cases hx
       | true =>
        rw [hc] at hx
        cases hx
        rw [Nat.blt_eq] at hc
        have hv:=hρ _ _ hv
        simp only [VR] at hv
        obtain ⟨p,c',hm,e',h1,_⟩:=hv
        rw [h1 hc] at e'
        exact ⟨.int .i64 c,hrun (by simp [Builtin.cap_,run_underlying hu,goInt,e']),by simp [VR]⟩
      ·next hv =>
       cases hx
       have hv:=hρ _ _ hv
       simp only [VR] at hv
       exact ⟨.int .i64 0,hrun (by simp [Builtin.cap_,run_underlying hu,goInt,hv]),by simp [VR]⟩
      cases hx
     cases hx
    cases hx
   case min =>
    simp only [dL] at hx
    split at hx
    ·next k a k' b hm =>
     cases hc:(k == k') with
     | false=>rw [hc] at hx; cases hx
     | true =>
      rw [hc] at hx
      cases hx
      have hv:=eD hρ hm
      simp only [ao,VR] at hv
      obtain ⟨y,ys,e1,rfl,y2,ys2,rfl,rfl,rfl⟩:=hv
      refine ⟨.int k (if b < a then b else a),?_,?_⟩
      ·simp [execOp,resolve,invoke,builtin,Builtin.min_,e1,Builtin.min2]
      by_cases e:b < a <;> simp [VR,e]
    cases hx
   case max =>
    simp only [dL] at hx
    split at hx
    ·next k a k' b hm =>
     cases hc:(k == k') with
     | false=>rw [hc] at hx; cases hx
     | true =>
      rw [hc] at hx
      cases hx
      have hv:=eD hρ hm
      simp only [ao,VR] at hv
      obtain ⟨y,ys,e1,rfl,y2,ys2,rfl,rfl,rfl⟩:=hv
      refine ⟨.int k (if b > a then b else a),?_,?_⟩
      ·simp [execOp,resolve,invoke,builtin,Builtin.max_,e1,Builtin.max2]
      by_cases e:b > a <;> simp [VR,e]
    cases hx
   all_goals (simp [dL] at hx; done)
  | _=>simp [dL] at hx
 all_goals (simp [dL] at hx; done)
end
end
end Go.Proofs.YtkdhppimhdemjaaGreat
