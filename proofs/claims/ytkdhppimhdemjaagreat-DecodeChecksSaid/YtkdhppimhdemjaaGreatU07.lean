/- Lemmas on the way: Frac1, Ev2. -/
import Derived.Test.YtkdhppimhdemjaaGreatU06
set_option linter.all false
set_option maxRecDepth 1000000
set_option maxHeartbeats 32000000
namespace Go.Proofs.YtkdhppimhdemjaaGreat
open Go.RowKit
def rZ (v:Value) (F:Nat):Prop:=∀ ad n c,v = .slice (some ad) n c->0 < n->ad.block ≠ F
theorem bf.off {v:Value} {B F:Nat} (h:bf v B)(hf:F < B):rZ v F:=fun ad n c e _=>by have:=h ad n c e; omega
theorem Sl.off {w:World} {sz:Nat} {v:Value} {n F:Nat} {xs:List Value} (h:Sl w sz v n xs)(hf:w.heap.size <= F):rZ v F:=by
 obtain ⟨_,A,c,rfl,_,_,h5⟩:=h
 intro ad n' c' e hn
 cases e
 obtain ⟨b,off,e,hb,_⟩:=h5 hn
 cases e
 simp only
 omega
theorem ab.off {w:World} {v:Value} {n F:Nat} (h:ab w v n)(hf:w.heap.size <= F):rZ v F:=by
 obtain ⟨l,d,_⟩:=h
 exact d.1.off hf
theorem Sl.setOff {w:World} {sz:Nat} {v:Value} {n:Nat} {xs:List Value} (h:Sl w sz v n xs) {p:Addr} (hf:rZ v p.block) (u:Value):Sl (w.setCell p u) sz v n xs:=by
 obtain ⟨h0,A,c,h1,h2,h3,h5⟩:=h
 refine ⟨h0,A,c,h1,h2,h3,fun hn=>?_⟩
 obtain ⟨b,off,e,hlt,hc⟩:=h5 hn
 subst e
 have hb:=hf _ _ _ h1 hn
 refine ⟨b,off,rfl,by simpa [World.setCell] using hlt,fun j x hx=>?_⟩
 rw [World.cell?_setCell_other w p _ u (fun e=>hb (by rw [e]))]
 exact hc j x hx
theorem ab.setOff {w:World} {v:Value} {n:Nat} (h:ab w v n) {p:Addr} (hf:rZ v p.block) (u:Value):ab (w.setCell p u) v n:=by
 obtain ⟨l,⟨h1,h2⟩,h3⟩:=h
 exact ⟨l,⟨h1.setOff hf u,h2⟩,h3⟩

def dU (w:World) (v:Value) (q:Rat):Prop:=∃ vn vd,v = .agg #[.bool (ap q),vn,vd]/\ab w vn q.num.natAbs/\ab w vd q.den
theorem dU.below {w w':World} {v:Value} {q:Rat} (h:dU w v q)(hb:Below w.heap.size w w'):dU w' v q:=by
 obtain ⟨vn,vd,e,h1,h2⟩:=h
 exact ⟨vn,vd,e,h1.below hb,h2.below hb⟩

def cg (B:Nat) (w:World) (v:Value) (q:Rat):Prop:=∃ vn vd,v = .agg #[.bool (ap q),vn,vd]/\ab w vn q.num.natAbs/\ab w vd q.den/\bf vn B/\bf vd B
theorem cg.at_ {B:Nat} {w:World} {v:Value} {q:Rat} (h:cg B w v q):dU w v q:=by
 obtain ⟨vn,vd,e,h1,h2,_⟩:=h
 exact ⟨vn,vd,e,h1,h2⟩
theorem cg.below {B:Nat} {w w':World} {v:Value} {q:Rat} (h:cg B w v q)(hb:Below w.heap.size w w'):cg B w' v q:=by
 obtain ⟨vn,vd,e,h1,h2,h3⟩:=h
 exact ⟨vn,vd,e,h1.below hb,h2.below hb,h3⟩
theorem cg.mono {B B':Nat} {w:World} {v:Value} {q:Rat} (h:cg B w v q)(hb:B' <= B):cg B' w v q:=by
 obtain ⟨vn,vd,e,h1,h2,h3,h4⟩:=h
 exact ⟨vn,vd,e,h1,h2,h3.mono hb,h4.mono hb⟩

theorem ab.box3 {w:World} {v:Value} {n B:Nat} (h:ab w v n)(hf:bf v (B + 1)) (u0 u1 u2:Value) :
  ab (((w.setCell ⟨B,0,none⟩ u0).setCell ⟨B,1,none⟩ u1).setCell ⟨B,2,none⟩ u2) v n :=
 ((h.setFar hf (p:=⟨B,0,none⟩) (Nat.lt_succ_self _) u0).setFar hf (p:=⟨B,1,none⟩) (Nat.lt_succ_self _) u1).setFar hf (p:=⟨B,2,none⟩) (Nat.lt_succ_self _) u2
theorem cz {w:World} {B:Nat} {p:Addr} {x:Value} (h:w.cell? p = some x)(hp:p.block ≠ B) (u0 u1 u2:Value) :
  (((w.setCell ⟨B,0,none⟩ u0).setCell ⟨B,1,none⟩ u1).setCell ⟨B,2,none⟩ u2).cell? p = some x:=by
 rw [World.cell?_setCell_other _ _ _ _ (fun e=>hp (by rw [<- e])),World.cell?_setCell_other _ _ _ _ (fun e=>hp (by rw [<- e])),World.cell?_setCell_other _ _ _ _ (fun e=>hp (by rw [<- e]))]
 exact h
theorem bw.box3 {w:World} {B:Nat} {e:TypeId} {a b c:Value} (h:bw w B e [a,b,c]) (u0 u1 u2:Value) :
  bw (((w.setCell ⟨B,0,none⟩ u0).setCell ⟨B,1,none⟩ u1).setCell ⟨B,2,none⟩ u2) B e [u0,u1,u2]:=((h.set_ 0 u0).set_ 1 u1).set_ 2 u2
theorem bw.box3far {w:World} {B g:Nat} {e:TypeId} {xs:List Value} (h:bw w g e xs)(hg:g ≠ B) (u0 u1 u2:Value) :
  bw (((w.setCell ⟨B,0,none⟩ u0).setCell ⟨B,1,none⟩ u1).setCell ⟨B,2,none⟩ u2) g e xs :=
 ((h.far (p:=⟨B,0,none⟩) hg u0).far (p:=⟨B,1,none⟩) hg u1).far (p:=⟨B,2,none⟩) hg u2
theorem ab.box3off {w:World} {v:Value} {n B:Nat} (h:ab w v n)(hf:rZ v B) (u0 u1 u2:Value) :
  ab (((w.setCell ⟨B,0,none⟩ u0).setCell ⟨B,1,none⟩ u1).setCell ⟨B,2,none⟩ u2) v n :=
 ((h.setOff (p:=⟨B,0,none⟩) hf u0).setOff (p:=⟨B,1,none⟩) hf u1).setOff (p:=⟨B,2,none⟩) hf u2
theorem ar {w w':World} {B0 B:Nat} (h:Below B0 w w')(hb:B0 <= B) (u0 u1 u2:Value) :
  Below B0 w (((w'.setCell ⟨B,0,none⟩ u0).setCell ⟨B,1,none⟩ u1).setCell ⟨B,2,none⟩ u2) :=
 ((h.setCell (p:=⟨B,0,none⟩) hb u0).setCell (p:=⟨B,1,none⟩) hb u1).setCell (p:=⟨B,2,none⟩) hb u2

theorem ab.len {w:World} {v:Value} {n:Nat} (h:ab w v n):∃ A m c,v = .slice A m c/\m <= 9223372036854775807/\(0 < m ↔ 0 < n):=by
 obtain ⟨l,d,t,rfl⟩:=h
 obtain ⟨_,A,c,rfl,hlc,hcm,_⟩:=d.open_
 refine ⟨A,l.length,c,rfl,by omega,?_⟩
 rw [List.length_pos_iff,Nat.pos_iff_ne_zero]
 exact (not_congr t.eq_nil).symm

theorem bw.three {w:World} {g:Nat} {e:TypeId} {a b c:Value} (h:bw w g e [a,b,c]) :
  w.cell? ⟨g,0,none⟩ = some a/\w.cell? ⟨g,1,none⟩ = some b/\w.cell? ⟨g,2,none⟩ = some c/\w.frozen? ⟨g,0,none⟩ = false/\w.frozen? ⟨g,1,none⟩ = false/\w.frozen? ⟨g,2,none⟩ = false :=
 ⟨h.cell 0,h.cell 1,h.cell 2,h.frozen 0,h.frozen 1,h.frozen 2⟩
theorem cg.open_ {B:Nat} {w:World} {v:Value} {q:Rat} (h:cg B w v q):∃ A m c A' m' c',v = .agg #[.bool (ap q),.slice A m c,.slice A' m' c']/\ab w (.slice A m c) q.num.natAbs/\ab w (.slice A' m' c') q.den/\bf (.slice A m c) B/\bf (.slice A' m' c') B:=by
 obtain ⟨vn,vd,rfl,h1,h2,h3,h4⟩:=h
 obtain ⟨A,m,c,rfl,_⟩:=h1.len
 obtain ⟨A',m',c',rfl,_⟩:=h2.len
 exact ⟨A,m,c,A',m',c',rfl,h1,h2,h3,h4⟩
theorem dU.open_ {w:World} {v:Value} {q:Rat} (h:dU w v q):∃ A m c A' m' c',v = .agg #[.bool (ap q),.slice A m c,.slice A' m' c']/\m <= 9223372036854775807/\m' <= 9223372036854775807/\(0 < m ↔ 0 < q.num.natAbs)/\ab w (.slice A m c) q.num.natAbs/\ab w (.slice A' m' c') q.den:=by
 obtain ⟨vn,vd,rfl,h1,h2⟩:=h
 obtain ⟨A,m,c,rfl,hm,hp⟩:=h1.len
 obtain ⟨A',m',c',rfl,hm',_⟩:=h2.len
 exact ⟨A,m,c,A',m',c',rfl,hm,hm',hp,h1,h2⟩
theorem cg.box3 {B g:Nat} {w:World} {q:Rat} {A A':Option Addr} {m c m' c':Nat} (h1:ab w (.slice A m c) q.num.natAbs)(h2:ab w (.slice A' m' c') q.den)(h3:bf (.slice A m c) B)(h4:bf (.slice A' m' c') B)(hg:g < B) (u0 u1 u2:Value) :
  cg B (((w.setCell ⟨g,0,none⟩ u0).setCell ⟨g,1,none⟩ u1).setCell ⟨g,2,none⟩ u2) (.agg #[.bool (ap q),.slice A m c,.slice A' m' c']) q :=
 ⟨_,_,rfl,h1.box3 (h3.mono hg) _ _ _,h2.box3 (h4.mono hg) _ _ _,h3,h4⟩

theorem kU (w:World) (neg:Bool) (vn vd:Value) (n d k:Nat)(hn:ab w vn n)(hd:ab w vd d) (ln:n < 2 ^ k) (ld:d < 2 ^ k)(hk:k <= 17592186044416)(h0:0 < d) :
  Calls Tryz.prog 181 #[.bool neg,vn,vd] w fun e w'=>∃ v',e = .returned v'/\cg w.heap.size w' v' (mkRat (dV neg n) d)/\Below w.heap.size w w':=by
 have HN:=Lib.hid hn
 have HD:=Lib.hid hd
 have LN:=Lib.hid ln
 have LD:=Lib.hid ld
 obtain ⟨r1,r2⟩:=red neg n d h0
 have R1:=Lib.hid r1
 have R2:=Lib.hid r2
 have hg0:0 < Nat.gcd n d:=Nat.gcd_pos_of_pos_right _ h0
 clear hn hd ln ld r1 r2
 generalize hg:Nat.gcd n d = g at *
 have HGE:=Lib.hid hg
 clear hg
 have HW:Hid (∀ o,Below w.heap.size w (w.alloc o)):=Lib.hid (fun o=>(Below.refl _ _).alloc (Nat.le_refl _) o)
 go_enter Tryz.func181,Tryz.ntmps181
 go_wp2_with fail
 refine (gcd _ vn vd n d k (HN.out.alloc _) (HD.out.alloc _) LN.out LD.out hk).mono ?_
 rintro e w1 ⟨vg,rfl,hg1,hb1⟩
 rw [HGE.out] at hg1
 have HG1:=Lib.hid hg1
 have hs1:w.heap.size + 1 <= w1.heap.size:=by have:=hb1.size; simpa using this
 have HN1:=Lib.hid ((HN.out.alloc _).below hb1)
 have HD1:=Lib.hid ((HD.out.alloc _).below hb1)
 have HB1:=Lib.hid ((HW.out _).trans (hb1.mono (by simp)))
 have BX1:=Lib.hid ((bw.new w 185 [.bool false,.slice none 0 0,.slice none 0 0]).below' hb1)
 clear hg1 hb1
 go_wp2_with fail
 refine (OG w1 vn vg n g k HN1.out HG1.out LN.out hk hg0).mono ?_
 rintro e w2 ⟨vq,vr,rfl,hq2,_,hb2,hf2⟩
 have HQ2:=Lib.hid hq2
 have HB2:=Lib.hid (HB1.out.trans (hb2.mono (by omega)))
 have HG2:=Lib.hid (HG1.out.below hb2)
 have HD2:=Lib.hid (HD1.out.below hb2)
 have HF2:=Lib.hid (hf2.mono hs1)
 have BX2:=Lib.hid (BX1.out.below' hb2)
 have hs2:w.heap.size + 1 <= w2.heap.size:=by have:=hb2.size; omega
 clear hq2 hb2 hf2
 go_wp2_with fail
 refine (OG w2 vd vg d g k HD2.out HG2.out LD.out hk hg0).mono ?_
 rintro e w3 ⟨vq',vr',rfl,hq3,_,hb3,hf3⟩
 have HQ3:=Lib.hid hq3
 have HB3:=Lib.hid (HB2.out.trans (hb3.mono (by omega)))
 have HQ2':=Lib.hid (HQ2.out.below hb3)
 have HF3:=Lib.hid (hf3.mono hs2)
 have BX3:=Lib.hid (BX2.out.below' hb3)
 have hs3:w.heap.size + 1 <= w3.heap.size:=by have:=hb3.size; omega
 clear hq3 hb3 hf3
 obtain ⟨A,m,c,rfl,hm,hmp⟩:=HQ2'.out.len
 obtain ⟨A',m',c',rfl,hm',_⟩:=HQ3.out.len
 have hb:ap (mkRat (dV neg n) d) = (neg && decide (0 < m)):=by
  rw [oC R1.out]
  congr 1
  exact decide_eq_decide.2 hmp.symm
 have HBN:=Lib.hid hb
 clear hmp hb
 have hc0:=BX3.out.cell 0
 have hc1:=BX3.out.cell 1
 have hc2:=BX3.out.cell 2
 have hz0:=BX3.out.frozen 0
 have hz1:=BX3.out.frozen 1
 have hz2:=BX3.out.frozen 2
 simp only [List.getElem?_cons_zero,List.getElem?_cons_succ] at hc0 hc1 hc2
 have fin:∀ (b:Bool),b = (neg && decide (0 < m))->cg w.heap.size (((w3.setCell ⟨w.heap.size,0,none⟩ (.bool b)).setCell ⟨w.heap.size,1,none⟩ (.slice A m c)).setCell ⟨w.heap.size,2,none⟩ (.slice A' m' c')) (.agg #[.bool b,.slice A m c,.slice A' m' c']) (mkRat (dV neg n) d) /\
   Below w.heap.size w (((w3.setCell ⟨w.heap.size,0,none⟩ (.bool b)).setCell ⟨w.heap.size,1,none⟩ (.slice A m c)).setCell ⟨w.heap.size,2,none⟩ (.slice A' m' c')):=by
  intro b hb
  refine ⟨⟨_,_,by rw [HBN.out,<- hb],?_,?_,HF2.out.mono (Nat.le_succ _),HF3.out.mono (Nat.le_succ _)⟩,ar HB3.out (Nat.le_refl _) _ _ _⟩
  ·rw [R1.out,jn]
   exact HQ2'.out.box3 HF2.out _ _ _
  rw [R2.out]
  exact HQ3.out.box3 HF3.out _ _ _
 have FIN:=Lib.hid fin
 clear fin
 cases neg
 ·go_wp2_with fail
  exact bodyPost_ret (v:=.agg #[.bool false,.slice A m c,.slice A' m' c']) (by simp [results,Tryz.results181,go_sem,hc0,hc1,hc2]) rfl ⟨_,rfl,FIN.out false (by simp)⟩
 by_cases h:0 < m
 ·go_wp2_with fail
  exact bodyPost_ret (v:=.agg #[.bool true,.slice A m c,.slice A' m' c']) (by simp [results,Tryz.results181,go_sem,hc0,hc1,hc2]) rfl ⟨_,rfl,FIN.out true (by simp [h])⟩
 go_wp2_with fail
 exact bodyPost_ret (v:=.agg #[.bool false,.slice A m c,.slice A' m' c']) (by simp [results,Tryz.results181,go_sem,hc0,hc1,hc2]) rfl ⟨_,rfl,FIN.out false (by simp [h])⟩
theorem ab.keep {w w':World} {v:Value} {n:Nat} (h:ab w v n)(hs:w.heap.size <= w'.heap.size)
  (hb:∀ ad m c,v = .slice (some ad) m c->0 < m->ad.block < w.heap.size->w'.heap[ad.block]? = w.heap[ad.block]?):ab w' v n:=by
 obtain ⟨l,⟨⟨h0,A,c,h1,h2,h3,h4⟩,h5⟩,h6⟩:=h
 refine ⟨l,⟨⟨h0,A,c,h1,h2,h3,fun hn=>?_⟩,h5⟩,h6⟩
 obtain ⟨b,off,rfl,hlt,hc⟩:=h4 hn
 refine ⟨b,off,rfl,Nat.lt_of_lt_of_le hlt hs,fun j u hu=>?_⟩
 have e:=hb _ _ _ h1 hn hlt
 rw [<- hc j u hu]
 exact World.cell?_of_block (w:=w) e

def Nk:LS->LoopState
 | .ready=>.ready
 | .busy=>.busy
 | .done=>.done
 | .over=>.exhausted
def TR (μ:Mu) (n:Nat) (T:Tr AV) (tm:Array Value):Prop:=tm.size = n/\∀ t x,T.get t = some x->∃ y,tm[t]? = some y/\VR μ x y
theorem TR.mono {μ μ':Mu} {n:Nat} {T:Tr AV} {tm:Array Value} (h:TR μ n T tm)(hs:gY μ μ'):TR μ' n T tm :=
 ⟨h.1,fun t x e=>let ⟨y,h1,h2⟩:=h.2 t x e; ⟨y,h1,h2.mono hs⟩⟩
theorem TR.put {μ:Mu} {n:Nat} {T:Tr AV} {tm:Array Value} (h:TR μ n T tm) {d:Nat} (hd:d < n) {x:AV} {y:Value} (hx:VR μ x y):TR μ n (T.set d (some x)) (tm.setIfInBounds d y):=by
 refine ⟨by simp [h.1],fun t z e=>?_⟩
 rw [Tr.get_set] at e
 split at e
 ·next e2=>subst e2; cases e; exact ⟨y,by simp [h.1,hd],hx⟩
 next e2 =>
 obtain ⟨u,h1,h2⟩:=h.2 t z e
 exact ⟨u,by rw [Array.getElem?_setIfInBounds_ne (Ne.symm e2)]; exact h1,h2⟩

def fy:Value->Bool
 | .int .u32 _=>false
 | _=>true
theorem lj {v:Value} (h:fy v = false):yB v = false:=by cases v <;> first | rfl | cases h
theorem se {μ:Mu} {x:AV} {v:Value} (h:VR μ x v)(hf:flat x = true):fy v = true:=by
 cases x <;> simp only [VR] at h <;> simp only [flat] at hf
 case i k n=>subst h; cases k <;> first | rfl | (simp [flat] at hf; done)
 all_goals first
  | (subst h; rfl)
  | (obtain ⟨_,_,rfl⟩:=h; rfl)
  | (obtain ⟨_,_,_,rfl,_⟩:=h; rfl)
  | (obtain ⟨_,_,_,_,rfl⟩:=h; rfl)
  | (obtain ⟨_,_,rfl,_⟩:=h; rfl)
  | (obtain ⟨_,rfl,_⟩:=h; rfl)
  | (obtain ⟨_,_,_,_,_,_,rfl,_⟩:=h; rfl)
  | (obtain ⟨_,⟨_,_,rfl,_⟩,_⟩:=h; rfl)
  | (obtain ⟨_,_,_,rfl,_⟩:=h; rfl)
  | (obtain ⟨_,_,_,_,rfl,_⟩:=h; rfl)
  | cases hf
theorem d6 {μ:Mu}:∀ {l:List AV} {m:List Value},ao μ l m->l.all flat = true->m.all fy = true
 | [],m,h,_=>by simp only [ao] at h; subst h; rfl
 | x :: l,m,h,hf=>by
  simp only [ao] at h
  obtain ⟨y,ys,rfl,h1,h2⟩:=h
  simp only [List.all_cons,Bool.and_eq_true] at hf ⊢
  exact ⟨se h1 hf.1,d6 h2 hf.2⟩

def gf (μ:Mu):List AE->List MapEntry->Prop
 | [],l=>l = []
 | e :: es,l=>∃ k v l',l = ⟨k,v,e.born⟩ :: l'/\VR μ e.key k/\VR μ e.val v/\gf μ es l'
theorem gf.mono {μ μ':Mu} (hs:gY μ μ'):∀ {es:List AE} {l:List MapEntry},gf μ es l->gf μ' es l
 | [],_,h=>h
 | _ :: _,_,⟨k,v,l',e,h1,h2,h3⟩=>⟨k,v,l',e,h1.mono hs,h2.mono hs,gf.mono hs h3⟩

def OR (μ:Mu) (w:World) (o:Nat):AO->Prop
 | .cells c t op=>∃ p cs,μ o = some (.at_ p)/\w.heap[p.blk]? = some (.cells cs t (0,0))/\cs.size = p.tot/\(c.all flat = true/\cs.toList.all fy = true) /\
   ∀ i x,c[i]? = some x->∃ y,cs[p.base + i]? = some y/\VR μ x y
 | .map es clock=>∃ p l,μ o = some (.at_ p)/\w.heap[p.blk]? = some (.map l.toArray clock)/\gf μ es l
 | .iter m since seen st=>∃ p m',μ o = some (.at_ p)/\p.base = 0/\w.heap[p.blk]? = some (.mapIter m' since seen.toArray st) /\
   (match m with
    | none=>m' = none
    | some m=>∃ q,μ m = some (.at_ q)/\m' = some q.blk)
 | .amap I=>∃ p l clock es,μ o = some (.at_ p)/\w.heap[p.blk]? = some (.map l.toArray clock)/\gf μ es l/\I es
 | .walk cur ks vs=>∃ (p:Pl) (b:Nat) (l:List MapEntry) (clock:Nat) (seen:List Nat) (l':List MapEntry),μ o = some (.at_ p)/\p.base = 0/\w.heap[p.blk]? = some (.mapIter (some b) clock seen.toArray clock)/\μ.fz b 0 = some (GW l clock)/\(l.map (·.born)).Nodup/\(∀ e ∈ l,e.born < clock) /\
   List.Perm l' (l.filter fun e=>!seen.contains e.born)/\ao μ.blind ks (l'.map (·.key))/\ao μ.blind vs (l'.map (·.val)) /\
   (∀ k v,cur = [k,v]->∃ e,e ∈ l/\seen.getLast? = some e.born/\VR μ.blind k e.key/\VR μ.blind v e.val)
 | .loop st pe _ n T ps asn body ds=>∃ p q tm fn,μ o = some (.at_ p)/\μ ds = some (.at_ q)/\TR μ n T tm /\
   w.heap[p.blk]? = some (.loop { state:=Nk st,pending:=pe,fn,tmps:=tm,params:=ps.toArray,assign:=asn,body,defers:=q.blk })
 | .defs=>∃ p,μ o = some (.at_ p)/\w.heap[p.blk]? = some (.deferred (some []))
 | .nat n=>∃ A m c,μ o = some (.val A m c)/\ab w (.slice A m c) n

theorem OR.at_ {μ:Mu} {w:World} {o:Nat} {x:AO} {p:Pl} (h:OR μ w o x)(hm:μ o = some (.at_ p)):∃ b,w.heap[p.blk]? = some b:=by
 cases x <;> simp only [OR] at h
 case cells=>obtain ⟨p',cs,h1,h2,_⟩:=h; rw [hm] at h1; cases h1; exact ⟨_,h2⟩
 case map=>obtain ⟨p',cs,h1,h2,_⟩:=h; rw [hm] at h1; cases h1; exact ⟨_,h2⟩
 case iter=>obtain ⟨p',m',h1,_,h2,_⟩:=h; rw [hm] at h1; cases h1; exact ⟨_,h2⟩
 case amap=>obtain ⟨p',l,c,es,h1,h2,_⟩:=h; rw [hm] at h1; cases h1; exact ⟨_,h2⟩
 case walk=>obtain ⟨p',b,l,c,sn,l',h1,_,h2,_⟩:=h; rw [hm] at h1; cases h1; exact ⟨_,h2⟩
 case loop=>obtain ⟨p',q,tm,fn,h1,_,_,h2⟩:=h; rw [hm] at h1; cases h1; exact ⟨_,h2⟩
 case defs=>obtain ⟨p',h1,h2⟩:=h; rw [hm] at h1; cases h1; exact ⟨_,h2⟩
 case nat=>obtain ⟨A,m,c,h1,_⟩:=h; rw [hm] at h1; cases h1
theorem OR.keep {μ μ':Mu} {w w':World} {o:Nat} {x:AO} (h:OR μ w o x)(hs:gY μ μ')(hz:w.heap.size <= w'.heap.size)
  (hb:∀ p,μ o = some (.at_ p)->w'.heap[p.blk]? = w.heap[p.blk]?)
  (hv:∀ A m c,μ o = some (.val A m c)->∀ ad,A = some ad->0 < m->ad.block < w.heap.size->w'.heap[ad.block]? = w.heap[ad.block]?):OR μ' w' o x:=by
 cases x <;> simp only [OR] at h ⊢
 case cells=>obtain ⟨p,cs,h1,h2,h3,h4,h5⟩:=h; exact ⟨p,cs,hs _ _ h1,(hb p h1).trans h2,h3,h4,fun i x e=>let ⟨y,a,b⟩:=h5 i x e; ⟨y,a,b.mono hs⟩⟩
 case map=>obtain ⟨p,cs,h1,h2,h3⟩:=h; exact ⟨p,cs,hs _ _ h1,(hb p h1).trans h2,h3.mono hs⟩
 case iter m _ _ _ =>
  obtain ⟨p,m',h1,h0,h2,h3⟩:=h
  refine ⟨p,m',hs _ _ h1,h0,(hb p h1).trans h2,?_⟩
  cases m with
  | none=>exact h3
  | some m=>obtain ⟨q,a,b⟩:=h3; exact ⟨q,hs _ _ a,b⟩
 case loop=>obtain ⟨p,q,tm,fn,h1,h2,h3,h4⟩:=h; exact ⟨p,q,tm,fn,hs _ _ h1,hs _ _ h2,h3.mono hs,(hb p h1).trans h4⟩
 case defs=>obtain ⟨p,h1,h2⟩:=h; exact ⟨p,hs _ _ h1,(hb p h1).trans h2⟩
 case amap=>obtain ⟨p,l,c,es,h1,h2,h3,h4⟩:=h; exact ⟨p,l,c,es,hs _ _ h1,(hb p h1).trans h2,h3.mono hs,h4⟩
 case walk =>
  obtain ⟨p,b,l,c,sn,l',h1,h0,h2,h3,h4,h5,h6,h7,h8,h9⟩:=h
  exact ⟨p,b,l,c,sn,l',hs _ _ h1,h0,(hb p h1).trans h2,hs.fz _ _ _ h3,h4,h5,h6,ao.mono hs.blind _ h7,ao.mono hs.blind _ h8,fun k v e=>let ⟨x,g1,g2,g3,g4⟩:=h9 k v e; ⟨x,g1,g2,VR.mono hs.blind _ g3,VR.mono hs.blind _ g4⟩⟩
 case nat =>
  obtain ⟨A,m,c,h1,h2⟩:=h
  refine ⟨A,m,c,hs _ _ h1,h2.keep hz fun ad m' c' e hm hlt=>?_⟩
  cases e
  exact hv _ m c h1 ad rfl hm hlt
theorem OR.val {μ:Mu} {w:World} {o:Nat} {x:AO} {A:Option Addr} {m c:Nat} (h:OR μ w o x)(hm:μ o = some (.val A m c)):∃ n,x = .nat n:=by
 cases x <;> simp only [OR] at h
 case cells=>obtain ⟨p',cs,h1,h2,_⟩:=h; rw [hm] at h1; cases h1
 case map=>obtain ⟨p',cs,h1,h2,_⟩:=h; rw [hm] at h1; cases h1
 case iter=>obtain ⟨p',m',h1,_,h2,_⟩:=h; rw [hm] at h1; cases h1
 case amap=>obtain ⟨p',l,c,es,h1,h2,_⟩:=h; rw [hm] at h1; cases h1
 case walk=>obtain ⟨p',b,l,c,sn,l',h1,_,h2,_⟩:=h; rw [hm] at h1; cases h1
 case loop=>obtain ⟨p',q,tm,fn,h1,_,_,h2⟩:=h; rw [hm] at h1; cases h1
 case defs=>obtain ⟨p',h1,h2⟩:=h; rw [hm] at h1; cases h1
 case nat=>exact ⟨_,rfl⟩

def rh (w:World) (g:Nat):Prop:=∃ i v,w.cell? ⟨g,i,none⟩ = some v/\fy v = false
theorem OR.nodig {μ:Mu} {w:World} {o:Nat} {x:AO} {p:Pl} (h:OR μ w o x)(hm:μ o = some (.at_ p)):¬ rh w p.blk:=by
 rintro ⟨i,v,hv,hd⟩
 cases x <;> simp only [OR] at h
 case cells =>
  obtain ⟨p',cs,h1,h2,h3,h4,h5⟩:=h
  rw [hm] at h1
  cases h1
  simp only [World.cell?,h2] at hv
  have hv:cs[i]? = some v:=by simpa using hv
  have:=List.all_eq_true.1 h4.2 v (by rw [<- Array.getElem?_toList] at hv; exact List.mem_of_getElem? hv)
  rw [hd] at this
  cases this
 case map=>obtain ⟨p',l,g1,g2,_⟩:=h; rw [hm] at g1; cases g1; simp [World.cell?,g2] at hv
 case iter=>obtain ⟨p',m',g1,_,g2,_⟩:=h; rw [hm] at g1; cases g1; simp [World.cell?,g2] at hv
 case amap=>obtain ⟨p',l,c,es,g1,g2,_⟩:=h; rw [hm] at g1; cases g1; simp [World.cell?,g2] at hv
 case walk=>obtain ⟨p',b,l,c,sn,l',g1,_,g2,_⟩:=h; rw [hm] at g1; cases g1; simp [World.cell?,g2] at hv
 case loop=>obtain ⟨p',q,tm,fn,g1,_,_,g2⟩:=h; rw [hm] at g1; cases g1; simp [World.cell?,g2] at hv
 case defs=>obtain ⟨p',g1,g2⟩:=h; rw [hm] at g1; cases g1; simp [World.cell?,g2] at hv
 case nat=>obtain ⟨A,m,c,h1,_⟩:=h; rw [hm] at h1; cases h1
theorem AY {μ:Mu} {w:World} {o o' n:Nat} {x:AO} {A:Option Addr} {m c:Nat} {p:Pl} (h:OR μ w o (.nat n))(hm:μ o = some (.val A m c)) (h':OR μ w o' x) (hm':μ o' = some (.at_ p))(hx:∀ n,x ≠ .nat n):rZ (.slice A m c) p.blk:=by
 simp only [OR] at h
 obtain ⟨A',m',c',h1,h2⟩:=h
 rw [hm] at h1
 cases h1
 intro ad n' c'' e hpos eb
 cases e
 obtain ⟨l,⟨⟨hl,A'',c2,e3,_,_,h4⟩,_⟩,_⟩:=h2
 cases e3
 obtain ⟨b,off,e4,hlt,hc⟩:=h4 hpos
 cases e4
 obtain ⟨d,hd⟩:∃ d,l[0]? = some d:=⟨_,List.getElem?_eq_getElem hpos⟩
 have hcell:=hc 0 (dg d) (by rw [List.getElem?_map,hd]; rfl)
 simp only at eb
 subst eb
 simp only [World.cell?] at hcell
 cases x <;> simp only [OR] at h'
 case cells =>
  obtain ⟨p',cs,g1,g2,g3,g4,g5⟩:=h'
  rw [hm'] at g1
  cases g1
  rw [g2] at hcell
  simp only [Option.isSome_none,Bool.false_eq_true,if_false] at hcell
  have:=g4.2
  rw [List.all_eq_true] at this
  have:=this (dg d) (List.mem_of_getElem? (i:=off + 0) (by rw [Array.getElem?_toList]; exact hcell))
  simp [fy,dg] at this
 case map=>obtain ⟨p',l,g1,g2,_⟩:=h'; rw [hm'] at g1; cases g1; rw [g2] at hcell; simp at hcell
 case iter=>obtain ⟨p',m',g1,_,g2,_⟩:=h'; rw [hm'] at g1; cases g1; rw [g2] at hcell; simp at hcell
 case amap=>obtain ⟨p',l,c,es,g1,g2,_⟩:=h'; rw [hm'] at g1; cases g1; rw [g2] at hcell; simp at hcell
 case walk=>obtain ⟨p',b,l,c,sn,l',g1,_,g2,_⟩:=h'; rw [hm'] at g1; cases g1; rw [g2] at hcell; simp at hcell
 case loop=>obtain ⟨p',q,tm,fn,g1,_,_,g2⟩:=h'; rw [hm'] at g1; cases g1; rw [g2] at hcell; simp at hcell
 case defs=>obtain ⟨p',g1,g2⟩:=h'; rw [hm'] at g1; cases g1; rw [g2] at hcell; simp at hcell
 case nat k=>exact absurd rfl (hx k)

structure NP (μ:Mu) (s:St) (w:World):Prop where
 obj:∀ o x,s.h.get o = some x->μ o ≠ none->OR μ w o x
 inj:∀ o o' x x' p p',s.h.get o = some x->s.h.get o' = some x'->μ o = some (.at_ p)->μ o' = some (.at_ p')->p.blk = p'.blk->o = o'
 nat:∀ o n A m c o' x' p',s.h.get o = some (.nat n)->μ o = some (.val A m c)->s.h.get o' = some x'->μ o' = some (.at_ p')->rZ (.slice A m c) p'.blk
 wf:∀ o,s.nx <= o->s.h.get o = none
def O3 (μ:Mu) (s:St) (w:World):Prop:=∀ b i v,μ.fz b i = some v->b < w.heap.size/\de w b i = some v/\∀ o x p,s.h.get o = some x->μ o = some (.at_ p)->p.blk ≠ b
structure bA (μ:Mu) (s:St) (w:World):Prop extends NP μ s w where
 fz:O3 μ s w

structure dJ (μ:Mu) (s:St) (w:World) (μ':Mu) (s':St) (w':World):Prop where
 sub:gY μ μ'
 dom:∀ o,μ o = none->μ' o ≠ none->s.nx <= o/\o < s'.nx
 nx:s.nx <= s'.nx
 os:w'.os = w.os
 tape:w'.tape = w.tape
 output:w'.output = w.output
 size:w.heap.size <= w'.heap.size
 blk:∀ g,g < w.heap.size->(∀ o x p,s.h.get o = some x->μ o = some (.at_ p)->p.blk ≠ g)->w'.heap[g]? = w.heap[g]?
 own:∀ o x p,s'.h.get o = some x->μ' o = some (.at_ p)->w.heap.size <= p.blk ∨ ∃ o0 x0 p0,s.h.get o0 = some x0/\μ o0 = some (.at_ p0)/\p0.blk = p.blk
 keep:∀ o,μ o = none->o < s.nx->s'.h.get o = s.h.get o
 fz:∀ b i v,μ'.fz b i = some v->μ.fz b i = some v ∨ w.heap.size <= b ∨ (∃ o x p,s.h.get o = some x/\μ o = some (.at_ p)/\p.blk = b) ∨ fy v = false
theorem I9 {μ μ':Mu} {s s':St} {w w':World} (h:bA μ s w) (t:dJ μ s w μ' s' w') (e:μ'.fz = μ.fz):O3 μ' s' w':=by
 intro b i v hv
 rw [e] at hv
 obtain ⟨h1,h2,h3⟩:=h.fz b i v hv
 refine ⟨Nat.lt_of_lt_of_le h1 t.size,?_,fun o x p e1 e2=>?_⟩
 ·rw [<- h2]
  exact ij (t.blk b h1 h3) i
 rcases t.own o x p e1 e2 with h4 | ⟨o0,x0,p0,g1,g2,g3⟩
 ·omega
 rw [<- g3]; exact h3 o0 x0 p0 g1 g2
theorem uM {μ μ':Mu} {s s':St} {w w':World} (h:bA μ s w) (e:μ'.fz = μ.fz) (k:NP μ' s' w'/\dJ μ s w μ' s' w'):bA μ' s' w'/\dJ μ s w μ' s' w':=⟨⟨k.1,I9 h k.2 e⟩,k.2⟩
theorem dJ.refl (μ:Mu) (s:St) (w:World):dJ μ s w μ s w :=
 ⟨gY.refl μ,fun _ h h'=>absurd h h',Nat.le_refl _,rfl,rfl,rfl,Nat.le_refl _,fun _ _ _=>rfl,fun o x p h h'=>.inr ⟨o,x,p,h,h',rfl⟩,fun _ _ _=>rfl,fun _ _ _ h=>.inl h⟩
theorem dJ.trans {a b c:Mu} {s t u:St} {w v z:World} (h:dJ a s w b t v) (k:dJ b t v c u z):dJ a s w c u z:=by
 refine ⟨h.sub.trans k.sub,fun o h1 h2=>?_,Nat.le_trans h.nx k.nx,k.os.trans h.os,k.tape.trans h.tape,k.output.trans h.output,Nat.le_trans h.size k.size,fun g hg hn=>?_,fun o x p e1 e2=>?_,fun o h1 h2=>?_,fun b' i v hv=>?_⟩
 ·by_cases e:b o = none
  ·have:=k.dom o e h2
   have:=h.nx
   omega
  have:=h.dom o h1 e
  have:=k.nx
  omega
 ·exact (k.blk g (Nat.lt_of_lt_of_le hg h.size) fun o x p e1 e2=>by
   rcases h.own o x p e1 e2 with h1 | ⟨o0,x0,p0,h1,h2,h3⟩
   ·omega
   ·rw [<- h3]; exact hn o0 x0 p0 h1 h2).trans (h.blk g hg hn)
 ·rcases k.own o x p e1 e2 with h1 | ⟨o0,x0,p0,h1,h2,h3⟩
  ·exact .inl (Nat.le_trans h.size h1)
  rw [<- h3]; exact h.own o0 x0 p0 h1 h2
 ·exact (k.keep o (by
   cases e:b o with
   | none=>rfl
   | some l=>have:=h.dom o h1 (by rw [e]; simp); omega) (by have:=h.nx; omega)).trans (h.keep o h1 h2)
 rcases k.fz b' i v hv with h1 | h1 | ⟨o,x,p,e1,e2,e3⟩ | h1
 ·exact h.fz b' i v h1
 ·exact .inr (.inl (Nat.le_trans h.size h1))
 ·rcases h.own o x p e1 e2 with h1 | ⟨o0,x0,p0,h1,h2,h3⟩
  ·exact .inr (.inl (by omega))
  exact .inr (.inr (.inl ⟨o0,x0,p0,h1,h2,h3.trans e3⟩))
 exact .inr (.inr (.inr h1))
theorem dJ.drew {μ μ':Mu} {s s':St} {w w':World} (h:dJ μ s w.drew μ' s' w'):dJ μ s w μ' s' w':=⟨h.sub,h.dom,h.nx,h.os,h.tape,h.output,h.size,h.blk,h.own,h.keep,h.fz⟩
theorem bA.drew {μ:Mu} {s:St} {w:World} (h:bA μ s w):bA μ s w.drew:=⟨⟨fun o x e m=>by
  have:=h.obj o x e m
  exact this.keep (gY.refl μ) (Nat.le_refl _) (fun _ _=>rfl) (fun _ _ _ _ _ _ _ _=>rfl),h.inj,h.nat,h.wf⟩,h.fz⟩

def Mu.with (μ:Mu) (o:Nat) (l:Lc):Mu:=⟨fun k=>if k = o then some l else μ k,μ.fz⟩
theorem Mu.sub_with {μ:Mu} {o:Nat} (l:Lc)(h:μ o = none):gY μ (μ.with o l):=⟨fun k l' e=>by
 unfold Mu.with
 simp only
 rw [if_neg (fun e2=>by subst e2; rw [h] at e; cases e)]
 exact e,fun _ _ _ e=>e⟩
theorem Mu.with_same (μ:Mu) (o:Nat) (l:Lc):μ.with o l o = some l:=if_pos rfl
theorem Mu.with_ne (μ:Mu) {o k:Nat} (l:Lc)(h:k ≠ o):μ.with o l k = μ k:=if_neg h

theorem fc (w:World) (O:Obj):(w.alloc O).heap[w.heap.size]? = some O:=heap_alloc_new w O

theorem bA.new {μ:Mu} {s:St} {w:World} (h:bA μ s w)(hn:μ s.nx = none) (O:Obj) (x:AO) (p:Pl)(hp:p.blk = w.heap.size)
  (hx:OR (μ.with s.nx (.at_ p)) (w.alloc O) s.nx x):bA (μ.with s.nx (.at_ p)) (s.new x) (w.alloc O)/\dJ μ s w (μ.with s.nx (.at_ p)) (s.new x) (w.alloc O):=by
 have hs:=Mu.sub_with (.at_ p) hn
 have hsz:w.heap.size <= (w.alloc O).heap.size:=by simp
 have hold:∀ g,g < w.heap.size->(w.alloc O).heap[g]? = w.heap[g]?:=fun g hg=>Below.heap_alloc w O g hg
 have lt:∀ o x p',s.h.get o = some x->μ o = some (.at_ p')->p'.blk < w.heap.size:=fun o x p' e m=>by
  obtain ⟨b,hb⟩:=(h.obj o x e (by rw [m]; simp)).at_ m
  exact (Array.getElem?_eq_some_iff.1 hb).1
 have ne:∀ o x,s.h.get o = some x->o ≠ s.nx:=fun o x e e2=>by subst e2; rw [h.wf _ (Nat.le_refl _)] at e; cases e
 refine uM h rfl ?_
 constructor
 ·refine ⟨fun o y e m=>?_,fun o o' y y' q q' e1 e2 m1 m2 hb=>?_,fun o n A m c o' x' p' e1 m1 e2 m2=>?_,fun o ho=>?_⟩
  ·simp only [St.new,Tr.get_set] at e
   split at e
   ·next e2=>subst e2; cases e; exact hx
   next e2 =>
   rw [Mu.with_ne _ _ e2] at m
   refine (h.obj o y e m).keep hs hsz (fun q hq=>hold _ (lt o y q e hq)) (fun A m' c hq ad hA hm hlt=>hold _ hlt)
  ·simp only [St.new,Tr.get_set] at e1 e2
   split at e1 <;> split at e2
   ·next a b=>rw [a,b]
   ·next a b =>
    subst a
    rw [Mu.with_same] at m1
    cases m1
    rw [Mu.with_ne _ _ b] at m2
    have:=lt _ _ _ e2 m2
    omega
   ·next a b =>
    subst b
    rw [Mu.with_same] at m2
    cases m2
    rw [Mu.with_ne _ _ a] at m1
    have:=lt _ _ _ e1 m1
    omega
   next a b =>
   rw [Mu.with_ne _ _ a] at m1
   rw [Mu.with_ne _ _ b] at m2
   exact h.inj o o' y y' q q' e1 e2 m1 m2 hb
  ·simp only [St.new,Tr.get_set] at e1 e2
   split at e1
   ·next a=>subst a; rw [Mu.with_same] at m1; cases m1
   next a =>
   rw [Mu.with_ne _ _ a] at m1
   split at e2
   ·next b =>
    subst b
    rw [Mu.with_same] at m2
    cases m2
    have hv:=h.obj o _ e1 (by rw [m1]; simp)
    simp only [OR] at hv
    obtain ⟨A',m',c',h1,h2⟩:=hv
    rw [m1] at h1
    cases h1
    intro ad n' c'' e hpos
    cases e
    obtain ⟨l,⟨⟨_,A'',c2,e3,_,_,h4⟩,_⟩,_⟩:=h2
    cases e3
    obtain ⟨b,off,e4,hlt,_⟩:=h4 hpos
    cases e4
    simp only
    omega
   next b =>
   rw [Mu.with_ne _ _ b] at m2
   exact h.nat o n A m c o' x' p' e1 m1 e2 m2
  have h1:s.nx + 1 <= o:=ho
  simp only [St.new]
  rw [Tr.get_set_ne _ _ (by omega)]
  exact h.wf o (by omega)
 refine ⟨hs,fun o h1 h2=>?_,by simp [St.new],rfl,rfl,rfl,hsz,fun g hg _=>hold g hg,fun o y q e1 m1=>?_,fun o _ h2=>by simp only [St.new]; exact Tr.get_set_ne _ _ (by omega),fun _ _ _ h=>.inl h⟩
 ·by_cases e:o = s.nx
  ·subst e; simp [St.new]
  rw [Mu.with_ne _ _ e] at h2; exact absurd h1 h2
 simp only [St.new,Tr.get_set] at e1
 split at e1
 ·next a=>subst a; rw [Mu.with_same] at m1; cases m1; left; omega
 next a=>rw [Mu.with_ne _ _ a] at m1; right; exact ⟨o,y,q,e1,m1,rfl⟩

theorem bA.turn {μ:Mu} {s:St} {w w':World} (h:bA μ s w) {o:Nat} {p:Pl} {x0:AO} (h0:s.h.get o = some x0)(hm:μ o = some (.at_ p)) (x:AO)
  (hos:w'.os = w.os)(htp:w'.tape = w.tape)(hou:w'.output = w.output)(hsz:w'.heap.size = w.heap.size)
  (hb:∀ g,g ≠ p.blk->w'.heap[g]? = w.heap[g]?)(hx:OR μ w' o x)(hn:∀ n,x ≠ .nat n):bA μ (s.set o x) w'/\dJ μ s w μ (s.set o x) w':=by
 refine uM h rfl ?_
 constructor
 ·refine ⟨fun o' y e m=>?_,fun o1 o2 y y' q q' e1 e2 m1 m2 hbb=>?_,fun o1 n A m c o' x' p' e1 m1 e2 m2=>?_,fun o1 ho=>?_⟩
  ·simp only [St.set,Tr.get_set] at e
   split at e
   ·next e2=>subst e2; cases e; exact hx
   next e2 =>
   refine (h.obj o' y e m).keep (gY.refl μ) (by omega) (fun q hq=>hb _ fun e3=>e2 (h.inj o' o y x0 q p e h0 hq hm e3)) (fun A m' c hq ad hA hm' hlt=>hb _ ?_)
   subst hA
   obtain ⟨n,rfl⟩:=(h.obj o' y e m).val hq
   exact h.nat o' n _ m' c o x0 p e hq h0 hm ad m' c rfl hm'
  ·simp only [St.set,Tr.get_set] at e1 e2
   split at e1 <;> split at e2
   ·next a b=>rw [a,b]
   ·next a b=>subst a; exact h.inj _ _ _ _ q q' h0 e2 m1 m2 hbb
   ·next a b=>subst b; exact h.inj _ _ _ _ q q' e1 h0 m1 m2 hbb
   exact h.inj _ _ _ _ q q' e1 e2 m1 m2 hbb
  ·simp only [St.set,Tr.get_set] at e1 e2
   split at e1
   ·next a=>cases e1; exact absurd rfl (hn n)
   split at e2
   ·next b=>subst b; exact h.nat o1 n A m c _ _ p' e1 m1 h0 m2
   exact h.nat o1 n A m c _ _ p' e1 m1 e2 m2
  simp only [St.set]
  rw [Tr.get_set_ne _ _ (fun e=>by subst e; rw [h.wf _ ho] at h0; cases h0)]
  exact h.wf o1 ho
 refine ⟨gY.refl μ,fun o h1 h2=>absurd h1 h2,Nat.le_refl _,hos,htp,hou,by omega,fun g _ hg=>hb g fun e=>hg o x0 p h0 hm e.symm,fun o' y q e1 m1=>?_,fun o' h1 _=>by simp only [St.set]; exact Tr.get_set_ne _ _ (fun e=>by subst e; rw [hm] at h1; cases h1),fun _ _ _ h=>.inl h⟩
 simp only [St.set,Tr.get_set] at e1
 split at e1
 ·next a=>subst a; right; exact ⟨o',x0,q,h0,m1,rfl⟩
 right; exact ⟨o',y,q,e1,m1,rfl⟩
theorem bA.less {μ:Mu} {s:St} {w:World} (h:bA μ s w) (h':Tr AO) (nx:Nat)(hs:∀ o x,h'.get o = some x->s.h.get o = some x)(hx:∀ o,nx <= o->h'.get o = none):bA μ ⟨h',nx⟩ w :=
 ⟨⟨fun o x e m=>h.obj o x (hs o x e) m,fun o o' x x' p p' e e'=>h.inj o o' x x' p p' (hs _ _ e) (hs _ _ e'),fun o n A m c o' x' p' e m1 e'=>h.nat o n A m c o' x' p' (hs _ _ e) m1 (hs _ _ e'),hx⟩,
  fun b i v hv=>let ⟨h1,h2,h3⟩:=h.fz b i v hv; ⟨h1,h2,fun o x p e=>h3 o x p (hs _ _ e)⟩⟩
theorem bA.drop {μ:Mu} {s:St} {w:World} (h:bA μ s w) (k:Nat):bA μ (s.drop k) w :=
 h.less _ _ (fun o x e=>by rw [Tr.get_set] at e; split at e <;> simp_all) (fun o ho=>by rw [Tr.get_set]; split; rfl; exact h.wf o ho)
theorem dJ.drop (μ:Mu) (s:St) (w:World) (k:Nat)(hk:μ k ≠ none):dJ μ s w μ (s.drop k) w :=
 ⟨gY.refl μ,fun _ h h'=>absurd h h',Nat.le_refl _,rfl,rfl,rfl,Nat.le_refl _,fun _ _ _=>rfl,
  fun o x p h h'=>.inr ⟨o,x,p,by simp only [St.drop,Tr.get_set] at h; split at h <;> simp_all,h',rfl⟩,
  fun o h1 _=>by simp only [St.drop]; exact Tr.get_set_ne _ _ (fun e=>hk (e ▸ h1)),fun _ _ _ h=>.inl h⟩
end Go.Proofs.YtkdhppimhdemjaaGreat
