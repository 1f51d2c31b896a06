/- Lemmas on the way: Ev3, Ev4, Ev5. -/
import Derived.Test.YtkdhppimhdemjaaGreatU07
import Derived.Deep.MidRow
import Derived.Laws.Cover3
import Derived.Laws.Pointers
set_option linter.all false
set_option maxRecDepth 1000000
set_option maxHeartbeats 32000000
namespace Go.Proofs.YtkdhppimhdemjaaGreat
open Go.RowKit
section
theorem fU (P:Program) {α:Type} (w:World):∀ (s:Sem α) {a:α},gi P s = some a->s.run P w = .ok a w
 | .pure _,_,h=>by simp only [gi,Option.some.injEq] at h; subst h; rfl
 | .program k,_,h=>by simp only [gi] at h; simp only [Sem.run]; exact fU P w (k P) h
 | .load ..,_,h | .store ..,_,h | .new ..,_,h | .shape ..,_,h | .freeze ..,_,h | .frozen ..,_,h | .getObj ..,_,h | .setObj ..,_,h | .choose ..,_,h | .sys ..,_,h | .mark ..,_,h | .halt _,_,h=>by simp [gi] at h

mutual
theorem eL (μ:Mu):∀ (v:Value) {x:AV},br v = some x->VR μ x v
 | .bool _,_,h=>by simp only [br,Option.some.injEq] at h; subst h; simp [VR]
 | .int _ _,_,h=>by simp only [br,Option.some.injEq] at h; subst h; simp [VR]
 | .pointer none,_,h=>by simp only [br,Option.some.injEq] at h; subst h; simp [VR]
 | .slice none 0 0,_,h=>by simp only [br,Option.some.injEq] at h; subst h; simp [VR]
 | .map none,_,h=>by simp only [br,Option.some.injEq] at h; subst h; simp [VR]
 | .nilFunc,_,h=>by simp only [br,Option.some.injEq] at h; subst h; simp [VR]
 | .nilIface,_,h=>by simp only [br,Option.some.injEq] at h; subst h; simp [VR]
 | .agg ⟨l⟩,x,h=>by
  simp only [br,Option.map_eq_some_iff] at h
  obtain ⟨xs,h1,rfl⟩:=h
  simp only [VR]
  exact ⟨l,rfl,pk μ l h1⟩
 | .tuple ⟨[]⟩,_,h=>by simp only [br,Option.some.injEq] at h; subst h; simp [VR,ao]
 | .tuple ⟨_ :: _⟩,_,h | .pointer (some _),_,h | .slice (some _) _ _,_,h | .slice none (_ + 1) _,_,h | .slice none 0 (_ + 1),_,h | .map (some _),_,h | .float ..,_,h | .complex ..,_,h | .string _,_,h | .chan _,_,h | .func ..,_,h | .iface ..,_,h=>by simp [br] at h
theorem pk (μ:Mu):∀ (l:List Value) {xs:List AV},eZ l = some xs->ao μ xs l
 | [],_,h=>by simp only [eZ,Option.some.injEq] at h; subst h; exact ao.nil_
 | v :: l,xs,h=>by
  simp only [eZ] at h
  cases hv:br v with
  | none=>rw [hv] at h; cases h
  | some x =>
   rw [hv] at h
   simp only [Option.map_eq_some_iff] at h
   obtain ⟨ys,h1,rfl⟩:=h
   exact ao.cons (eL μ v hv) (pk μ l h1)
end
theorem yJ {μ:Mu} {x:AV} {v v':Value} (h:uC x = some v)(hx:VR μ x v'):v' = v:=by
 cases x <;> simp [uC] at h <;> (subst h; simpa only [VR] using hx)
theorem pJ {μ:Mu} {x:AV} {v:Value} (h:VR μ x v)(hf:flat x = true):v.oneCell' = true:=by
 cases x <;> simp only [VR] at h <;> simp only [flat] at hf <;> first
  | (subst h; rfl)
  | (obtain ⟨_,_,rfl⟩:=h; rfl)
  | (obtain ⟨_,_,_,rfl,_⟩:=h; rfl)
  | (obtain ⟨_,_,_,_,rfl⟩:=h; rfl)
  | (obtain ⟨_,_,rfl,_⟩:=h; rfl)
  | (obtain ⟨_,rfl,_⟩:=h; rfl)
  | (obtain ⟨_,_,_,_,_,_,rfl,_⟩:=h; rfl)
  | (obtain ⟨_,⟨_,_,rfl,_⟩,_⟩:=h; rfl)
  | (obtain ⟨_,_,_,rfl,_⟩:=h; rfl)
  | (obtain ⟨_,_,_,_,rfl,_⟩:=h; rfl)
  | cases hf

theorem eR {α:Type}:∀ {n:Nat} {l:List α} {off:Nat} {r:List α},getR l off n = some r->r.length = n/\∀ i,i < n->r[i]? = l[off + i]?
 | 0,l,off,r,h=>by simp only [getR,Option.some.injEq] at h; subst h; simp
 | n + 1,l,off,r,h=>by
  simp only [getR] at h
  split at h
  ·next x hx =>
   simp only [Option.map_eq_some_iff] at h
   obtain ⟨r',h1,rfl⟩:=h
   obtain ⟨h2,h3⟩:=eR h1
   refine ⟨by simp [h2],fun i hi=>?_⟩
   cases i with
   | zero=>simp [hx]
   | succ i=>rw [List.getElem?_cons_succ,h3 i (by omega)]; congr 1; omega
  cases h
theorem ao.getR {μ:Mu} {l:List AV} {m:List Value} (h:ao μ l m) {off n:Nat} {r:List AV} (hr:getR l off n = some r):ao μ r ((m.drop off).take n)/\off + n <= m.length ∨ n = 0/\r = []:=by
 obtain ⟨h1,h2⟩:=eR hr
 rcases Nat.eq_zero_or_pos n with hn | hn
 ·right; subst hn; exact ⟨rfl,List.eq_nil_of_length_eq_zero h1⟩
 left
 have hlast:=h2 (n - 1) (by omega)
 have:off + n <= l.length:=by
  have:r[n - 1]? ≠ none:=by rw [ne_eq,List.getElem?_eq_none_iff]; omega
  rw [hlast] at this
  rw [ne_eq,List.getElem?_eq_none_iff] at this
  omega
 have hl:=h.length
 refine ⟨ao.of_get (by simp; omega) fun i x hx=>?_,by omega⟩
 have hi:i < n:=by have:=(List.getElem?_eq_some_iff.1 hx).1; omega
 rw [h2 i hi] at hx
 obtain ⟨y,hy,hv⟩:=h.get hx
 exact ⟨y,by rw [List.getElem?_take_of_lt hi,List.getElem?_drop]; exact hy,hv⟩

section
variable {P:Program} {μ:Mu} {s:St} {w:World}

theorem oD {t:TypeId} {b:Bool} (h:kr P t = some b) (w:World):(isAgg t).run P w = .ok b w:=by
 unfold kr at h
 unfold isAgg
 cases hu:P.underlying t with
 | none=>rw [hu] at h; cases h
 | some d =>
  rw [hu] at h
  rw [Sem.run_bind,run_underlying hu w]
  cases d <;> simp_all
theorem bc {t:TypeId} {n:Nat} (h:bk P t = some n) (w:World):(sizeOf t).run P w = .ok n w:=by
 unfold bk at h
 simp only [Option.map_eq_some_iff] at h
 obtain ⟨i,hi,rfl⟩:=h
 simp [sizeOf,typeInfo,hi]
theorem eV {t:TypeId} {x:AV} (h:bP P t = some x) (w:World):∃ v,(zeroValue t).run P w = .ok v w/\∀ μ,VR μ x v:=by
 unfold bP at h
 rw [Option.bind_eq_some_iff] at h
 obtain ⟨i,hi,h⟩:=h
 rw [Option.bind_eq_some_iff] at h
 obtain ⟨v,hv,h⟩:=h
 exact ⟨v,by simp [zeroValue,typeInfo,hi,hv],fun μ=>eL μ v h⟩
theorem wH {t:TypeId} {l:List AV} {m:List Value} {off:Nat} {x:AV} (h:fx P t l off = some x)(hl:ao μ l m) (w:World) :
  ∃ v,(part t m.toArray off).run P w = .ok v w/\VR μ x v:=by
 unfold fx at h
 split at h
 ·next n ha hz =>
  simp only [Option.map_eq_some_iff] at h
  obtain ⟨r,hr,rfl⟩:=h
  refine ⟨.agg (m.toArray.extract off (off + n)),by simp [part,oD ha,bc hz],?_⟩
  simp only [VR]
  rcases hl.getR hr with ⟨h1,_⟩ | ⟨rfl,rfl⟩
  ·refine ⟨_,?_,h1⟩
   congr 1
   apply Array.ext'
   simp [List.extract_eq_take_drop]
  exact ⟨[],by simp,ao.nil_⟩
 ·next ha =>
  obtain ⟨y,hy,hv⟩:=hl.get h
  exact ⟨y,by simp [part,oD ha,hy],hv⟩
 cases h
theorem q9 {t:TypeId} {c:List AV} {off:Nat} {x:AV} {b base:Nat} (hcell:∀ i y,c[i]? = some y->∃ z,w.cell? ⟨b,base + i,none⟩ = some z/\VR μ y z)(hx:fx P t c off = some x) :
  ∃ v,(Instr.loadAt t (.pointer (some ⟨b,base + off,none⟩))).run P w = .ok v w/\VR μ x v:=by
 unfold fx at hx
 split at hx
 ·next n ha hz =>
  simp only [Option.map_eq_some_iff] at hx
  obtain ⟨r,hr,rfl⟩:=hx
  obtain ⟨hr1,hr2⟩:=eR hr
  have key:∀ (k:Nat) (r:List AV) (off:Nat),r.length = k->(∀ i,i < k->r[i]? = c[off + i]?)->∃ m,m.length = k/\ao μ r m/\∀ j v,m[j]? = some v->w.cell? ⟨b,base + off + j,none⟩ = some v:=by
   intro k
   induction k with
   | zero=>intro r off hr1 _; exact ⟨[],rfl,by rw [List.eq_nil_of_length_eq_zero hr1]; exact ao.nil_,by simp⟩
   | succ k ih =>
    intro r off hr1 hr2
    cases r with
    | nil=>simp at hr1
    | cons y r =>
     obtain ⟨z,hz,hv⟩:=hcell off y (by have:=hr2 0 (by omega); simpa using this.symm)
     obtain ⟨m,hm1,hm2,hm3⟩:=ih r (off + 1) (by simpa using hr1) (fun i hi=>by have:=hr2 (i + 1) (by omega); rw [List.getElem?_cons_succ] at this; rw [this]; congr 1; omega)
     refine ⟨z :: m,by simp [hm1],ao.cons hv hm2,fun j v hj=>?_⟩
     cases j with
     | zero=>simp at hj; subst hj; exact hz
     | succ j=>rw [List.getElem?_cons_succ] at hj; have:=hm3 j v hj; rw [show base + off + (j + 1) = base + (off + 1) + j by omega]; exact this
  obtain ⟨m,hm1,hm2,hm3⟩:=key n r off hr1 hr2
  refine ⟨.agg m.toArray,?_,by simp only [VR]; exact ⟨m,rfl,hm2⟩⟩
  unfold kr at ha
  cases hu:P.underlying t with
  | none=>rw [hu] at ha; cases ha
  | some d =>
   rw [hu] at ha
   have hzz:(P.info? t).map (·.size) = some m.length:=by rw [hm1]; exact hz
   exact run_loadAt_mid (P:=P) w b (base + off) t m d hm3 hu (by cases d <;> simp_all [TypeDesc.isRow]) hzz
 ·next ha =>
  obtain ⟨z,hz,hv⟩:=hcell off x hx
  refine ⟨z,?_,hv⟩
  simp [Instr.loadAt,Instr.sureAddr,loadVar,oD ha,hz]
 cases hx
theorem Fs (h:bA μ s w) {b base:Nat} {cs:List Value} (hf:Fz μ b base cs) {c:List AV} (hc:ao μ.blind c cs) (i:Nat) (y:AV)(hy:c[i]? = some y):∃ z,w.cell? ⟨b,base + i,none⟩ = some z/\VR μ y z:=by
 obtain ⟨z,hz,hv⟩:=hc.get hy
 exact ⟨z,d8 (h.fz _ _ _ (hf i z hz)).2.1 hv.noM,hv.mono μ.blind_sub⟩
theorem q8 (h:bA μ s w) {t:TypeId} {a x:AV} {a':Value} (hx:ig P s t a = some x)(ha:VR μ a a') :
  ∃ v,(Instr.loadAt t a').run P w = .ok v w/\VR μ x v:=by
 unfold ig at hx
 split at hx
 ·next o off =>
  split at hx
  ·next c e op hc =>
   simp only [VR] at ha
   obtain ⟨p,hm,rfl⟩:=ha
   have ho:=h.obj o _ hc (by rw [hm]; simp)
   simp only [OR] at ho
   obtain ⟨p',cs,h1,h2,h3,h4,h5⟩:=ho
   rw [hm] at h1
   cases h1
   exact q9 (fun i y hy=>by
    obtain ⟨z,hz,hv⟩:=h5 i y hy
    exact ⟨z,by simp [World.cell?,h2,hz],hv⟩) hx
  cases hx
 ·next c off =>
  simp only [VR] at ha
  obtain ⟨b,base,cs,rfl,hf,hc⟩:=ha
  exact q9 (Fs h hf hc) hx
 cases hx
end
end
theorem pu {P:Program} (hl:laidOutB P = true) {k:TypeId} (h:xi P k = true):Go.Maps.Keyed P k:=by
 unfold xi at h
 cases hu:P.underlying k with
 | none=>rw [hu] at h; cases h
 | some d =>
  rw [hu] at h
  have deep:(match P.underlying k with | some (.array _ _) | some (.struct _)=>true | _=>false) = true->Nat.blt k P.types.size = true->P.keyTypeAt 100 k = true->Go.Maps.Keyed P k:=fun hw h1 h2 =>
   Go.Maps.Keyed.of_law (deep_law_laid hl (m:=100) (by omega) (by simpa using h1) h2 hw)
  cases d <;> simp only [Bool.and_eq_true,Bool.false_eq_true] at h
  case int q=>exact Go.Maps.int_keyed hu
  case array=>exact deep (by rw [hu]) h.1 h.2
  case struct=>exact deep (by rw [hu]) h.1 h.2

theorem tf {μ:Mu}:∀ {l:List AV} {ns:List Int} {m:List Value},th l = some ns->ao μ l m->m = ns.map (Value.int .i64)
 | [],_,_,h,k=>by simp only [th,Option.some.injEq] at h; subst h; simp only [ao] at k; subst k; rfl
 | x :: l,ns,m,h,k=>by
  cases x with
  | i kd n =>
   cases kd <;> simp only [th] at h <;> try cases h
   simp only [Option.map_eq_some_iff] at h
   obtain ⟨ns',h1,rfl⟩:=h
   simp only [ao,VR] at k
   obtain ⟨y,ys,rfl,rfl,h2⟩:=k
   rw [tf h1 h2]; rfl
  | _=>simp [th] at h
theorem qh {μ:Mu} {x:AV} {q:Bool × List Int} {v:Value} (h:gX x = some q)(hv:VR μ x v):v = bG q:=by
 cases x with
 | i k n =>
  cases k <;> simp only [gX,Option.some.injEq] at h <;> try cases h
  simpa [bG,VR] using hv
 | agg l =>
  simp only [gX,Option.map_eq_some_iff] at h
  obtain ⟨ns,h1,rfl⟩:=h
  simp only [VR] at hv
  obtain ⟨m,rfl,h2⟩:=hv
  rw [tf h1 h2]
  rfl
 | _=>simp [gX] at h
theorem lh {x:AV} {q:Bool × List Int} (h:gX x = some q):q.1 = true ∨ ∃ n,q = (false,[n]):=by
 cases x with
 | i k n =>
  cases k <;> simp only [gX,Option.some.injEq] at h <;> try cases h
  exact .inr ⟨n,rfl⟩
 | agg l =>
  simp only [gX,Option.map_eq_some_iff] at h
  obtain ⟨ns,h1,rfl⟩:=h
  exact .inl rfl
 | _=>simp [gX] at h
theorem rc {a b:Bool × List Int} (ha:a.1 = true ∨ ∃ n,a = (false,[n]))(hb:b.1 = true ∨ ∃ n,b = (false,[n]))(h:bG a = bG b):a = b:=by
 obtain ⟨ta,la⟩:=a
 obtain ⟨tb,lb⟩:=b
 simp only at ha hb
 have inj:∀ l m:List Int,l.map (Value.int .i64) = m.map (Value.int .i64)->l = m:=by
  intro l
  induction l with
  | nil=>intro m e; cases m with
   | nil=>rfl
   | cons=>simp at e
  | cons x l ih=>intro m e; cases m with
   | nil=>simp at e
   | cons y m=>simp at e; rw [e.1,ih m (by simpa using e.2)]
 rcases ha with rfl | ⟨n,e⟩
 ·rcases hb with rfl | ⟨m,e'⟩
  ·simp only [bG,cond_true,Value.agg.injEq] at h
   have:=congrArg Array.toList h
   simp only at this
   rw [inj la lb this]
  cases e'; simp [bG] at h
 cases e
 rcases hb with rfl | ⟨m,e'⟩
 ·simp [bG] at h
 cases e'; simp [bG] at h; rw [h]

theorem mh {P:Program} {μ:Mu} {k:TypeId}:∀ {es:List AE} {qs:List (Bool × List Int)} {l:List MapEntry},lS P k es = some qs->gf μ es l ->
  l.length = es.length/\qs.length = es.length/\(∀ e ∈ l,∃ x,keyOf P k e.key = some x)/\∀ (i:Nat) (q:Bool × List Int),qs[i]? = some q->∃ (e:MapEntry) (a:AE),l[i]? = some e/\es[i]? = some a/\e.key = bG q/\e.born = a.born/\VR μ a.val e.val/\(q.1 = true ∨ ∃ n,q = (false,[n]))
 | [],qs,l,h,hr=>by
  simp only [lS,Option.some.injEq] at h
  subst h
  simp only [gf] at hr
  subst hr
  simp
 | e :: es,qs,l,h,hr=>by
  simp only [lS] at h
  cases hq:gX e.key with
  | none=>rw [hq] at h; cases h
  | some q =>
   rw [hq] at h
   simp only at h
   cases hk:s6 P k q with
   | false=>rw [hk] at h; cases h
   | true =>
    rw [hk] at h
    simp only [cond_true,Option.map_eq_some_iff] at h
    obtain ⟨qs',h1,rfl⟩:=h
    obtain ⟨kv,v,l',rfl,h2,h3,h4⟩:=hr
    obtain ⟨g1,g2,g3,g4⟩:=mh h1 h4
    have hkv:=qh hq h2
    refine ⟨by simp [g1],by simp [g2],fun e' he=>?_,fun i q' hq'=>?_⟩
    ·rcases List.mem_cons.1 he with rfl | he
     ·unfold s6 at hk
      rw [<- hkv] at hk
      exact Option.isSome_iff_exists.1 hk
     exact g3 e' he
    cases i with
    | zero=>simp at hq'; subst hq'; exact ⟨_,e,rfl,rfl,hkv,rfl,h3,lh hq⟩
    | succ i=>rw [List.getElem?_cons_succ] at hq'; simp only [List.getElem?_cons_succ]; exact g4 i q' hq'
theorem oG (q:Bool × List Int):∀ (l:List (Bool × List Int)) (i:Nat),∀ j,j ∈ pN q l i ↔ ∃ k,j = i + k/\l[k]? = some q
 | [],i,j=>by simp [pN]
 | x :: l,i,j=>by
  have ih:=oG q l (i + 1) j
  have hx:(x.1 == q.1 && x.2 == q.2) = true ↔ x = q:=by
   obtain ⟨a,b⟩:=x
   obtain ⟨c,d⟩:=q
   simp
  unfold pN
  cases hb:(x.1 == q.1 && x.2 == q.2) with
  | true =>
   rw [hb] at hx
   simp only [cond_true,List.mem_cons,ih]
   constructor
   ·rintro (rfl | ⟨k,rfl,h⟩)
    ·exact ⟨0,by simp,by simp [hx.1 rfl]⟩
    exact ⟨k + 1,by omega,by simpa using h⟩
   rintro ⟨k,rfl,h⟩
   cases k with
   | zero=>left; simp
   | succ k=>right; exact ⟨k,by omega,by simpa using h⟩
  | false =>
   rw [hb] at hx
   simp only [cond_false,ih]
   constructor
   ·rintro ⟨k,rfl,h⟩
    exact ⟨k + 1,by omega,by simpa using h⟩
   rintro ⟨k,rfl,h⟩
   cases k with
   | zero=>simp at h; exact absurd (hx.2 h) (by simp)
   | succ k=>exact ⟨k,by omega,by simpa using h⟩
theorem eJ {P:Program} {μ:Mu} (hl:laidOutB P = true) {k:TypeId} {q:Bool × List Int} (hq:q.1 = true ∨ ∃ n,q = (false,[n])) {es:List AE} {l:List MapEntry} {r:Option Nat} (h:f8 P k q es = some r)(hr:gf μ es l) (w:World) :
  (∀ em,(Instr.checkKey em 10000 k (bG q)).run P w = .ok () w)/\(Instr.keyThatStays (bG q) (bG q)).run P w = .ok (bG q) w /\
  (r = none->(Instr.findKey k (bG q) l).run P w = .ok none w) /\
  ∀ i,r = some i->∃ e a,l[i]? = some e/\es[i]? = some a/\e.key = bG q/\e.born = a.born/\VR μ a.val e.val/\(Instr.findKey k (bG q) l).run P w = .ok (some (i,e.val)) w:=by
 unfold f8 at h
 cases hk:(xi P k && s6 P k q) with
 | false=>rw [hk] at h; cases h
 | true =>
  rw [hk] at h
  rw [Bool.and_eq_true] at hk
  have K:=pu hl hk.1
  obtain ⟨lx,hlx⟩:=Option.isSome_iff_exists.1 hk.2
  refine ⟨fun em=>K.check w em hlx,K.stays w hlx,?_⟩
  simp only [cond_true] at h
  cases hqs:lS P k es with
  | none=>rw [hqs] at h; cases h
  | some qs =>
   rw [hqs] at h
   simp only at h
   obtain ⟨g1,g2,g3,g4⟩:=mh hqs hr
   have hh:=oG q qs 0
   rcases K.find w hlx l g3 with ⟨f1,f2⟩ | ⟨j,e,f1,f2,f3⟩
   ·have none_hit:pN q qs 0 = []:=by
     cases hc:pN q qs 0 with
     | nil=>rfl
     | cons a b =>
      obtain ⟨kk,rfl,hk'⟩:=(hh a).1 (by rw [hc]; simp)
      obtain ⟨e,a',e1,_,e2,_⟩:=g4 kk q hk'
      exact absurd e2 (f2 e (List.mem_of_getElem? e1))
    rw [none_hit] at h
    cases h
    exact ⟨fun _=>f1,fun _ e=>by cases e⟩
   obtain ⟨q',hq'⟩:∃ q',qs[j]? = some q':=by
    have:=(List.getElem?_eq_some_iff.1 f2).1
    exact ⟨_,List.getElem?_eq_getElem (by omega)⟩
   obtain ⟨e',a,e1,e2,e3,e4,e5,e6⟩:=g4 j q' hq'
   rw [f2] at e1
   cases e1
   have hqq:q' = q:=rc e6 hq (by rw [<- e3,f3])
   subst hqq
   have hj:j ∈ pN q' qs 0:=(hh j).2 ⟨j,by simp,hq'⟩
   cases hc:pN q' qs 0 with
   | nil=>rw [hc] at hj; cases hj
   | cons a' b' =>
    rw [hc] at h hj
    cases b' with
    | nil =>
     simp only [Option.some.injEq] at h
     subst h
     simp at hj
     subst hj
     exact ⟨fun e=>(by cases e),fun i' ei=>by cases ei; exact ⟨e,a,f2,e2,f3,e4,e5,f1⟩⟩
    | cons=>cases h
theorem pf {P:Program} {μ:Mu} (hl:laidOutB P = true) {k:TypeId} {q:Bool × List Int} (hq:q.1 = true ∨ ∃ n,q = (false,[n])) {es:List AE} {l' l:List MapEntry} {r:Option Nat} (h:f8 P k q es = some r)(hr:gf μ es l')(hp:l'.Perm l) (w:World) :
  (∀ em,(Instr.checkKey em 10000 k (bG q)).run P w = .ok () w)/\(Instr.keyThatStays (bG q) (bG q)).run P w = .ok (bG q) w /\
  (r = none->(Instr.findKey k (bG q) l).run P w = .ok none w) /\
  ∀ i,r = some i->∃ (e:MapEntry) (a:AE) (j:Nat),es[i]? = some a/\VR μ a.val e.val/\(Instr.findKey k (bG q) l).run P w = .ok (some (j,e.val)) w:=by
 obtain ⟨c1,c2,c3,c4⟩:=eJ hl hq h hr w
 refine ⟨c1,c2,?_⟩
 unfold f8 at h
 cases hk:(xi P k && s6 P k q) with
 | false=>rw [hk] at h; cases h
 | true =>
  rw [hk] at h
  rw [Bool.and_eq_true] at hk
  have K:=pu hl hk.1
  obtain ⟨lx,hlx⟩:=Option.isSome_iff_exists.1 hk.2
  simp only [cond_true] at h
  cases hqs:lS P k es with
  | none=>rw [hqs] at h; cases h
  | some qs =>
   rw [hqs] at h
   simp only at h
   obtain ⟨g1,g2,g3,g4⟩:=mh hqs hr
   have g3':∀ e ∈ l,∃ x,keyOf P k e.key = some x:=fun e he=>g3 e (hp.mem_iff.2 he)
   have one:∀ e1 ∈ l',∀ e2 ∈ l',e1.key = bG q->e2.key = bG q->e1 = e2:=by
    have hh:=oG q qs 0
    have key:∀ e ∈ l',e.key = bG q->∃ j,j ∈ pN q qs 0/\l'[j]? = some e:=fun e he hke=>by
     obtain ⟨j,hj⟩:=List.mem_iff_getElem?.1 he
     obtain ⟨q',hq'⟩:∃ q',qs[j]? = some q':=by
      have:=(List.getElem?_eq_some_iff.1 hj).1
      exact ⟨_,List.getElem?_eq_getElem (by omega)⟩
     obtain ⟨e',a,e1,e2,e3,e4,e5,e6⟩:=g4 j q' hq'
     rw [hj] at e1
     cases e1
     have hqq:q' = q:=rc e6 hq (by rw [<- e3,hke])
     subst hqq
     exact ⟨j,(hh j).2 ⟨j,by simp,hq'⟩,hj⟩
    intro e1 m1 e2 m2 k1 k2
    obtain ⟨j1,a1,b1⟩:=key e1 m1 k1
    obtain ⟨j2,a2,b2⟩:=key e2 m2 k2
    cases hc:pN q qs 0 with
    | nil=>rw [hc] at a1; cases a1
    | cons x y =>
     rw [hc] at h a1 a2
     cases y with
     | nil =>
      simp at a1 a2
      rw [a1] at b1
      rw [a2] at b2
      rw [b1] at b2
      exact Option.some.inj b2
     | cons=>cases h
   refine ⟨fun hn=>?_,fun i hi=>?_⟩
   ·rcases K.find w hlx l g3' with ⟨f1,f2⟩ | ⟨j,e,f1,f2,f3⟩
    ·exact f1
    rcases K.find w hlx l' g3 with ⟨d1,d2⟩ | ⟨j',e',d1,d2,d3⟩
    ·exact absurd f3 (d2 e (hp.mem_iff.2 (List.mem_of_getElem? f2)))
    rw [c3 hn] at d1
    cases d1
   obtain ⟨e,a,h1,h2,h3,h4,h5,h6⟩:=c4 i hi
   have he:e ∈ l:=hp.mem_iff.1 (List.mem_of_getElem? h1)
   rcases K.find w hlx l g3' with ⟨f1,f2⟩ | ⟨j,e',f1,f2,f3⟩
   ·exact absurd h3 (f2 e he)
   have:e' = e:=one e' (hp.mem_iff.2 (List.mem_of_getElem? f2)) e (List.mem_of_getElem? h1) f3 h3
   subst this
   exact ⟨e',a,j,h2,h5,f1⟩
theorem zG {μ:Mu}:∀ {ks vs:List AV} {l:List MapEntry},ao μ ks (l.map (·.key))->ao μ vs (l.map (·.val))->∃ es,gf μ es l/\es.map (fun e=>(⟨e.key,e.val,0⟩:AE)) = DI ks vs/\es.map (·.born) = l.map (·.born)
 | [],vs,[],_,_=>⟨[],rfl,by cases vs <;> rfl,rfl⟩
 | [],_,_ :: _,h,_=>by simp [ao] at h
 | _ :: _,_,[],h,_=>by simp [ao] at h
 | k :: ks,vs,e :: l,h,h'=>by
  simp only [List.map_cons,ao,List.cons.injEq] at h
  obtain ⟨_,_,⟨rfl,rfl⟩,h1,h2⟩:=h
  cases vs with
  | nil=>simp [ao] at h'
  | cons v vs =>
   simp only [List.map_cons,ao,List.cons.injEq] at h'
   obtain ⟨_,_,⟨rfl,rfl⟩,h3,h4⟩:=h'
   obtain ⟨es,g1,g2,g3⟩:=zG h2 h4
   exact ⟨⟨k,v,e.born⟩ :: es,⟨e.key,e.val,l,rfl,h1,h3,g1⟩,by simp [DI,g2],by simp [g3]⟩
theorem ra {P:Program} {k:TypeId}:∀ (es:List AE),lS P k (es.map fun e=>(⟨e.key,e.val,0⟩:AE)) = lS P k es
 | []=>rfl
 | e :: es=>by simp only [List.map_cons,lS,ra es]
theorem yM {P:Program} {k:TypeId} {q:Bool × List Int} (es:List AE):f8 P k q (es.map fun e=>(⟨e.key,e.val,0⟩:AE)) = f8 P k q es:=by unfold f8; rw [ra]
section
section
variable {P:Program} {μ:Mu} {s:St} {w:World}

theorem bK (op:BinOp) (t:TypeId) (x y:Operand) (a b:Value)(h1:¬ (a = .nilIface/\b = .nilIface))(h2:∀ l m,¬ (a = .agg l/\b = .agg m)) (w:World):(eqGuard op t x y a b).run P w = .ok () w:=by
 unfold eqGuard
 cases a <;> cases b <;> first
  | (exact absurd ⟨rfl,rfl⟩ h1)
  | (exact absurd ⟨rfl,rfl⟩ (h2 _ _))
  | (cases op <;> rfl)
theorem jA {x:AV} {v:Value} {n:Nat} (h:nU x = some n)(hv:VR μ x v):v = .int .i64 (n:Int):=by
 cases x with
 | i k z =>
  cases k <;> simp only [nU] at h <;> try cases h
  cases z with
  | ofNat z=>simp only [Option.some.injEq] at h; subst h; simp only [VR] at hv; exact hv
  | negSucc z=>cases h
 | _=>simp [nU] at h
theorem eD {ρ:Operand->Option AV} {ev:Operand->Value} (hρ:∀ x v,ρ x = some v->VR μ v (ev x)):∀ {l:List Operand} {xs:List AV},l.mapM ρ = some xs->ao μ xs (l.map ev)
 | [],xs,h=>by simp at h; subst h; exact ao.nil_
 | x :: l,xs,h=>by
  simp only [List.mapM_cons] at h
  cases hx:ρ x with
  | none=>rw [hx] at h; simp at h
  | some a =>
   rw [hx] at h
   cases hl:l.mapM ρ with
   | none=>rw [hl] at h; simp at h
   | some asn =>
    rw [hl] at h
    simp at h
    subst h
    exact ao.cons (hρ x a hx) (eD hρ hl)
theorem Gg {op:BinOp} {t:TypeId} {x y:Operand} {a b r:AV} {a' b':Value} (h:lG P op t a b = some r)(ha:VR μ a a')(hb:VR μ b b') (w:World) :
  (eqGuard op t x y a' b').run P w = .ok () w/\∃ v,(binOp op t a' b').run P w = .ok v w/\VR μ r v:=by
 have nil_:∀ (c:Bool),xE op c = some r->(∀ (z:Value),(op = .eql/\z = .bool c ∨ op = .neq/\z = .bool !c)->VR μ r z)/\(op = .eql ∨ op = .neq):=by
  intro c hc
  cases op <;> simp only [xE,Option.some.injEq] at hc <;> try cases hc
  ·refine ⟨fun z hz=>?_,.inl rfl⟩
   rcases hz with ⟨_,e2⟩ | ⟨e2,_⟩
   ·subst e2; simp [VR]
   cases e2
  refine ⟨fun z hz=>?_,.inr rfl⟩
  rcases hz with ⟨e2,_⟩ | ⟨_,e2⟩
  ·cases e2
  subst e2; simp [VR]
 have eqv:∀ (c:Bool),xE op c = some r->(∀ w,(Op.equal t a' b').run P w = .ok c w)->(∀ z,(binOp op t a' b') = z->((op = .eql->z = (do pure (.bool (<- Op.equal t a' b'))))/\(op = .neq->z = (do pure (.bool (!(<- Op.equal t a' b'))))))) ->
   ∃ v,(binOp op t a' b').run P w = .ok v w/\VR μ r v:=by
  intro c hc he hz
  obtain ⟨n1,n2⟩:=nil_ c hc
  obtain ⟨z1,z2⟩:=hz _ rfl
  rcases n2 with rfl | rfl
  ·exact ⟨.bool c,by rw [z1 rfl]; simp [he],n1 _ (.inl ⟨rfl,rfl⟩)⟩
  exact ⟨.bool !c,by rw [z2 rfl]; simp [he],n1 _ (.inr ⟨rfl,rfl⟩)⟩
 unfold lG at h
 split at h
 ·next k n k' n' =>
  simp only [VR] at ha hb
  subst ha
  subst hb
  rw [Option.bind_eq_some_iff] at h
  obtain ⟨v,hv,h⟩:=h
  exact ⟨bK _ _ _ _ _ _ (by simp) (by simp) w,v,fU P w _ hv,eL μ v h⟩
 ·next x1 x2 =>
  simp only [VR] at ha hb
  subst ha
  subst hb
  rw [Option.bind_eq_some_iff] at h
  obtain ⟨v,hv,h⟩:=h
  exact ⟨bK _ _ _ _ _ _ (by simp) (by simp) w,v,fU P w _ hv,eL μ v h⟩
 split at h <;> (try simp only [VR] at ha hb)
 all_goals first
  | (subst ha; subst hb; exact ⟨bK _ _ _ _ _ _ (by simp) (by simp) w,eqv _ h (fun w=>by show (Op.equalIn (9999 + 1) _ _ _).run P w = _; rw [Op.equalIn]; simp [run_underlying (P:=P) ‹_›]) (fun z hz=>by subst hz; exact ⟨fun e=>by subst e; rfl,fun e=>by subst e; rfl⟩)⟩)
  | (obtain ⟨_,_,rfl⟩:=ha; subst hb; exact ⟨bK _ _ _ _ _ _ (by simp) (by simp) w,eqv _ h (fun w=>by show (Op.equalIn (9999 + 1) _ _ _).run P w = _; rw [Op.equalIn]; simp [run_underlying (P:=P) ‹_›]) (fun z hz=>by subst hz; exact ⟨fun e=>by subst e; rfl,fun e=>by subst e; rfl⟩)⟩)
  | (obtain ⟨_,_,rfl⟩:=hb; subst ha; exact ⟨bK _ _ _ _ _ _ (by simp) (by simp) w,eqv _ h (fun w=>by show (Op.equalIn (9999 + 1) _ _ _).run P w = _; rw [Op.equalIn]; simp [run_underlying (P:=P) ‹_›]) (fun z hz=>by subst hz; exact ⟨fun e=>by subst e; rfl,fun e=>by subst e; rfl⟩)⟩)
  | (obtain ⟨_,_,_,rfl,_⟩:=ha; subst hb; exact ⟨bK _ _ _ _ _ _ (by simp) (by simp) w,eqv _ h (fun w=>by show (Op.equalIn (9999 + 1) _ _ _).run P w = _; rw [Op.equalIn]; simp [run_underlying (P:=P) ‹_›]) (fun z hz=>by subst hz; exact ⟨fun e=>by subst e; rfl,fun e=>by subst e; rfl⟩)⟩)
  | (obtain ⟨_,_,_,_,rfl,_⟩:=ha; subst hb; exact ⟨bK _ _ _ _ _ _ (by simp) (by simp) w,eqv _ h (fun w=>by show (Op.equalIn (9999 + 1) _ _ _).run P w = _; rw [Op.equalIn]; simp [run_underlying (P:=P) ‹_›]) (fun z hz=>by subst hz; exact ⟨fun e=>by subst e; rfl,fun e=>by subst e; rfl⟩)⟩)
  | (obtain ⟨_,_,_,rfl,_⟩:=hb; subst ha; exact ⟨bK _ _ _ _ _ _ (by simp) (by simp) w,eqv _ h (fun w=>by show (Op.equalIn (9999 + 1) _ _ _).run P w = _; rw [Op.equalIn]; simp [run_underlying (P:=P) ‹_›]) (fun z hz=>by subst hz; exact ⟨fun e=>by subst e; rfl,fun e=>by subst e; rfl⟩)⟩)
  | (obtain ⟨_,_,_,_,rfl,_⟩:=hb; subst ha; exact ⟨bK _ _ _ _ _ _ (by simp) (by simp) w,eqv _ h (fun w=>by show (Op.equalIn (9999 + 1) _ _ _).run P w = _; rw [Op.equalIn]; simp [run_underlying (P:=P) ‹_›]) (fun z hz=>by subst hz; exact ⟨fun e=>by subst e; rfl,fun e=>by subst e; rfl⟩)⟩)
  | (obtain ⟨_,_,rfl,_⟩:=ha; subst hb; exact ⟨bK _ _ _ _ _ _ (by simp) (by simp) w,eqv _ h (fun w=>by show (Op.equalIn (9999 + 1) _ _ _).run P w = _; rw [Op.equalIn]; simp [run_underlying (P:=P) ‹_›]) (fun z hz=>by subst hz; exact ⟨fun e=>by subst e; rfl,fun e=>by subst e; rfl⟩)⟩)
  | (obtain ⟨_,_,rfl,_⟩:=hb; subst ha; exact ⟨bK _ _ _ _ _ _ (by simp) (by simp) w,eqv _ h (fun w=>by show (Op.equalIn (9999 + 1) _ _ _).run P w = _; rw [Op.equalIn]; simp [run_underlying (P:=P) ‹_›]) (fun z hz=>by subst hz; exact ⟨fun e=>by subst e; rfl,fun e=>by subst e; rfl⟩)⟩)
  | (obtain ⟨_,⟨A,cap,rfl,_,_,hA⟩,_⟩:=ha; obtain ⟨_,_,rfl,_⟩:=hA (Nat.succ_pos _); subst hb; exact ⟨bK _ _ _ _ _ _ (by simp) (by simp) w,eqv _ h (fun w=>by show (Op.equalIn (9999 + 1) _ _ _).run P w = _; rw [Op.equalIn]; simp [run_underlying (P:=P) ‹_›]) (fun z hz=>by subst hz; exact ⟨fun e=>by subst e; rfl,fun e=>by subst e; rfl⟩)⟩)
  | (obtain ⟨_,⟨A,cap,rfl,_,_,hA⟩,_⟩:=hb; obtain ⟨_,_,rfl,_⟩:=hA (Nat.succ_pos _); subst ha; exact ⟨bK _ _ _ _ _ _ (by simp) (by simp) w,eqv _ h (fun w=>by show (Op.equalIn (9999 + 1) _ _ _).run P w = _; rw [Op.equalIn]; simp [run_underlying (P:=P) ‹_›]) (fun z hz=>by subst hz; exact ⟨fun e=>by subst e; rfl,fun e=>by subst e; rfl⟩)⟩)
  | cases h
theorem rM {ρ:Operand->Option AV} {ev:Operand->Value} (hρ:∀ x v,ρ x = some v->VR μ v (ev x)) {d n:Nat} {x:Option Operand} (h:di ρ d x = some n) :
  (x = none/\n = d) ∨ ∃ y,x = some y/\ev y = .int .i64 (n:Int):=by
 cases x with
 | none=>simp only [di,Option.some.injEq] at h; exact .inl ⟨rfl,h.symm⟩
 | some y =>
  simp only [di,Option.bind_eq_some_iff] at h
  obtain ⟨v,hv,h⟩:=h
  exact .inr ⟨y,rfl,jA h (hρ y v hv)⟩
theorem aW (n m:Nat)(h:n <= m) (c:BoundsCode) (w:World):(Instr.sliceBound (.int .i64 (n:Int)) m c).run P w = .ok n w:=by
 simp [Instr.sliceBound,asIntOf,h]
theorem eH {ρ:Operand->Option AV} {ev:Operand->Value} (hρ:∀ x v,ρ x = some v->VR μ v (ev x)) (sl:Bool) {len cap l h m d:Nat} {lo hi mx:Option Operand}
  (h1:di ρ 0 lo = some l)(h2:di ρ len hi = some h)(h3:di ρ d mx = some m)(hlh:l <= h)(hm:(mx = none/\h <= cap) ∨ (h <= m/\m <= cap/\(hi = none->mx = none))) (w:World) :
  (Instr.sliceBounds sl len cap (lo.map ev) (hi.map ev) (mx.map ev)).run P w = .ok (l,h,if mx = none then cap else m) w:=by
 have e1:=rM hρ h1
 have e2:=rM hρ h2
 have e3:=rM hρ h3
 clear h1 h2 h3
 rcases hm with ⟨hm1,hm2⟩ | ⟨hm1,hm2,hm3⟩
 ·subst hm1
  rcases e1 with ⟨rfl,rfl⟩ | ⟨y1,rfl,e1⟩ <;> rcases e2 with ⟨rfl,rfl⟩ | ⟨y2,rfl,e2⟩
  ·simp [Instr.sliceBounds]
  ·simp [Instr.sliceBounds,e2,aW _ _ hm2]
  ·simp [Instr.sliceBounds,e1,aW _ _ hlh]
  simp [Instr.sliceBounds,e1,e2,aW _ _ hlh,aW _ _ hm2]
 rcases e3 with ⟨rfl,rfl⟩ | ⟨y3,rfl,e3⟩
 ·rcases e1 with ⟨rfl,rfl⟩ | ⟨y1,rfl,e1⟩ <;> rcases e2 with ⟨rfl,rfl⟩ | ⟨y2,rfl,e2⟩
  ·simp [Instr.sliceBounds]
  ·simp [Instr.sliceBounds,e2,aW _ _ (Nat.le_trans hm1 hm2)]
  ·simp [Instr.sliceBounds,e1,aW _ _ hlh]
  simp [Instr.sliceBounds,e1,e2,aW _ _ hlh,aW _ _ (Nat.le_trans hm1 hm2)]
 rcases e2 with ⟨rfl,rfl⟩ | ⟨y2,rfl,e2⟩
 ·have:=hm3 rfl; cases this
 rcases e1 with ⟨rfl,rfl⟩ | ⟨y1,rfl,e1⟩
 ·simp [Instr.sliceBounds,e2,e3,aW _ _ hm1,aW _ _ hm2]
 simp [Instr.sliceBounds,e1,e2,e3,aW _ _ hm1,aW _ _ hm2,aW _ _ hlh]
end
end
end Go.Proofs.YtkdhppimhdemjaaGreat
