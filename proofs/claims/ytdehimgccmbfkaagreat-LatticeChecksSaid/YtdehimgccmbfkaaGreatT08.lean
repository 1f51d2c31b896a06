/- Lemmas on the way: Ev3, Ev4, Ev5. -/
import Derived.Test.YtdehimgccmbfkaaGreatT07
import Derived.Deep.MidRow
import Derived.Laws.Cover3
import Derived.Laws.Pointers
set_option linter.all false
set_option maxRecDepth 1000000
set_option maxHeartbeats 32000000
namespace Go.Proofs.YtdehimgccmbfkaaGreat
open Go.RowKit
section
theorem pureRun_run (P:Program) {α:Type} (w:World):∀ (s:Sem α) {a:α},pureRun P s = some a->s.run P w = .ok a w
 | .pure _,_,h=>by simp only [pureRun,Option.some.injEq] at h; subst h; rfl
 | .program k,_,h=>by simp only [pureRun] at h; simp only [Sem.run]; exact pureRun_run P w (k P) h
 | .load ..,_,h | .store ..,_,h | .new ..,_,h | .shape ..,_,h | .freeze ..,_,h | .frozen ..,_,h | .getObj ..,_,h | .setObj ..,_,h | .choose ..,_,h | .sys ..,_,h | .mark ..,_,h | .halt _,_,h=>by simp [pureRun] at h

mutual
theorem ofConst_vr (μ:Mu):∀ (v:Value) {x:AV},ofConst v = some x->VR μ x v
 | .bool _,_,h=>by simp only [ofConst,Option.some.injEq] at h; subst h; simp [VR]
 | .int _ _,_,h=>by simp only [ofConst,Option.some.injEq] at h; subst h; simp [VR]
 | .pointer none,_,h=>by simp only [ofConst,Option.some.injEq] at h; subst h; simp [VR]
 | .slice none 0 0,_,h=>by simp only [ofConst,Option.some.injEq] at h; subst h; simp [VR]
 | .map none,_,h=>by simp only [ofConst,Option.some.injEq] at h; subst h; simp [VR]
 | .nilFunc,_,h=>by simp only [ofConst,Option.some.injEq] at h; subst h; simp [VR]
 | .nilIface,_,h=>by simp only [ofConst,Option.some.injEq] at h; subst h; simp [VR]
 | .agg ⟨l⟩,x,h=>by
  simp only [ofConst,Option.map_eq_some_iff] at h
  obtain ⟨xs,h1,rfl⟩:=h
  simp only [VR]
  exact ⟨l,rfl,ofConsts_vr μ l h1⟩
 | .tuple ⟨[]⟩,_,h=>by simp only [ofConst,Option.some.injEq] at h; subst h; simp [VR,VRs]
 | .tuple ⟨_ :: _⟩,_,h | .pointer (some _),_,h | .slice (some _) _ _,_,h | .slice none (_ + 1) _,_,h | .slice none 0 (_ + 1),_,h | .map (some _),_,h | .float ..,_,h | .complex ..,_,h | .string _,_,h | .chan _,_,h | .func ..,_,h | .iface ..,_,h=>by simp [ofConst] at h
theorem ofConsts_vr (μ:Mu):∀ (l:List Value) {xs:List AV},ofConsts l = some xs->VRs μ xs l
 | [],_,h=>by simp only [ofConsts,Option.some.injEq] at h; subst h; exact VRs.nil_
 | v :: l,xs,h=>by
  simp only [ofConsts] at h
  cases hv:ofConst v with
  | none=>rw [hv] at h; cases h
  | some x =>
   rw [hv] at h
   simp only [Option.map_eq_some_iff] at h
   obtain ⟨ys,h1,rfl⟩:=h
   exact VRs.cons (ofConst_vr μ v hv) (ofConsts_vr μ l h1)
end
theorem toConst_vr {μ:Mu} {x:AV} {v v':Value} (h:toConst x = some v)(hx:VR μ x v'):v' = v:=by
 cases x <;> simp [toConst] at h <;> (subst h; simpa only [VR] using hx)
theorem oneCell_of_flat {μ:Mu} {x:AV} {v:Value} (h:VR μ x v)(hf:flat x = true):v.oneCell' = true:=by
 cases x <;> simp only [VR] at h <;> simp only [flat] at hf <;> first
  | (subst h; rfl)
  | (obtain ⟨_,_,rfl⟩:=h; rfl)
  | (obtain ⟨_,_,_,rfl,_⟩:=h; rfl)
  | (obtain ⟨_,_,_,_,rfl⟩:=h; rfl)
  | (obtain ⟨_,_,rfl,_⟩:=h; rfl)
  | (obtain ⟨_,rfl,_⟩:=h; rfl)
  | (obtain ⟨_,_,_,_,_,_,rfl,_⟩:=h; rfl)
  | (obtain ⟨_,⟨_,_,rfl,_⟩,_⟩:=h; rfl)
  | (obtain ⟨_,_,_,rfl,_⟩:=h; rfl)
  | cases hf

theorem getR_spec {α:Type}:∀ {n:Nat} {l:List α} {off:Nat} {r:List α},getR l off n = some r->r.length = n/\∀ i,i < n->r[i]? = l[off + i]?
 | 0,l,off,r,h=>by simp only [getR,Option.some.injEq] at h; subst h; simp
 | n + 1,l,off,r,h=>by
  simp only [getR] at h
  split at h
  ·next x hx =>
   simp only [Option.map_eq_some_iff] at h
   obtain ⟨r',h1,rfl⟩:=h
   obtain ⟨h2,h3⟩:=getR_spec h1
   refine ⟨by simp [h2],fun i hi=>?_⟩
   cases i with
   | zero=>simp [hx]
   | succ i=>rw [List.getElem?_cons_succ,h3 i (by omega)]; congr 1; omega
  cases h
theorem VRs.getR {μ:Mu} {l:List AV} {m:List Value} (h:VRs μ l m) {off n:Nat} {r:List AV} (hr:getR l off n = some r):VRs μ r ((m.drop off).take n)/\off + n <= m.length ∨ n = 0/\r = []:=by
 obtain ⟨h1,h2⟩:=getR_spec hr
 rcases Nat.eq_zero_or_pos n with hn | hn
 ·right; subst hn; exact ⟨rfl,List.eq_nil_of_length_eq_zero h1⟩
 left
 have hlast:=h2 (n - 1) (by omega)
 have:off + n <= l.length:=by
  have:r[n - 1]? ≠ none:=by rw [ne_eq,List.getElem?_eq_none_iff]; omega
  rw [hlast] at this
  rw [ne_eq,List.getElem?_eq_none_iff] at this
  omega
 have hl:=h.length
 refine ⟨VRs.of_get (by simp; omega) fun i x hx=>?_,by omega⟩
 have hi:i < n:=by have:=(List.getElem?_eq_some_iff.1 hx).1; omega
 rw [h2 i hi] at hx
 obtain ⟨y,hy,hv⟩:=h.get hx
 exact ⟨y,by rw [List.getElem?_take_of_lt hi,List.getElem?_drop]; exact hy,hv⟩

section
variable {P:Program} {μ:Mu} {s:St} {w:World}

theorem isAgg_run {t:TypeId} {b:Bool} (h:isAggT P t = some b) (w:World):(isAgg t).run P w = .ok b w:=by
 unfold isAggT at h
 unfold isAgg
 cases hu:P.underlying t with
 | none=>rw [hu] at h; cases h
 | some d =>
  rw [hu] at h
  rw [Sem.run_bind,run_underlying hu w]
  cases d <;> simp_all
theorem sizeOf_run {t:TypeId} {n:Nat} (h:sizeT P t = some n) (w:World):(sizeOf t).run P w = .ok n w:=by
 unfold sizeT at h
 simp only [Option.map_eq_some_iff] at h
 obtain ⟨i,hi,rfl⟩:=h
 simp [sizeOf,typeInfo,hi]
theorem zero_run {t:TypeId} {x:AV} (h:zeroT P t = some x) (w:World):∃ v,(zeroValue t).run P w = .ok v w/\∀ μ,VR μ x v:=by
 unfold zeroT at h
 rw [Option.bind_eq_some_iff] at h
 obtain ⟨i,hi,h⟩:=h
 rw [Option.bind_eq_some_iff] at h
 obtain ⟨v,hv,h⟩:=h
 exact ⟨v,by simp [zeroValue,typeInfo,hi,hv],fun μ=>ofConst_vr μ v h⟩
theorem part_run {t:TypeId} {l:List AV} {m:List Value} {off:Nat} {x:AV} (h:partA P t l off = some x)(hl:VRs μ l m) (w:World) :
  ∃ v,(part t m.toArray off).run P w = .ok v w/\VR μ x v:=by
 unfold partA at h
 split at h
 ·next n ha hz =>
  simp only [Option.map_eq_some_iff] at h
  obtain ⟨r,hr,rfl⟩:=h
  refine ⟨.agg (m.toArray.extract off (off + n)),by simp [part,isAgg_run ha,sizeOf_run hz],?_⟩
  simp only [VR]
  rcases hl.getR hr with ⟨h1,_⟩ | ⟨rfl,rfl⟩
  ·refine ⟨_,?_,h1⟩
   congr 1
   apply Array.ext'
   simp [List.extract_eq_take_drop]
  exact ⟨[],by simp,VRs.nil_⟩
 ·next ha =>
  obtain ⟨y,hy,hv⟩:=hl.get h
  exact ⟨y,by simp [part,isAgg_run ha,hy],hv⟩
 cases h
theorem load_cells {t:TypeId} {c:List AV} {off:Nat} {x:AV} {b base:Nat} (hcell:∀ i y,c[i]? = some y->∃ z,w.cell? ⟨b,base + i,none⟩ = some z/\VR μ y z)(hx:partA P t c off = some x) :
  ∃ v,(Instr.loadAt t (.pointer (some ⟨b,base + off,none⟩))).run P w = .ok v w/\VR μ x v:=by
 unfold partA at hx
 split at hx
 ·next n ha hz =>
  simp only [Option.map_eq_some_iff] at hx
  obtain ⟨r,hr,rfl⟩:=hx
  obtain ⟨hr1,hr2⟩:=getR_spec hr
  have key:∀ (k:Nat) (r:List AV) (off:Nat),r.length = k->(∀ i,i < k->r[i]? = c[off + i]?)->∃ m,m.length = k/\VRs μ r m/\∀ j v,m[j]? = some v->w.cell? ⟨b,base + off + j,none⟩ = some v:=by
   intro k
   induction k with
   | zero=>intro r off hr1 _; exact ⟨[],rfl,by rw [List.eq_nil_of_length_eq_zero hr1]; exact VRs.nil_,by simp⟩
   | succ k ih =>
    intro r off hr1 hr2
    cases r with
    | nil=>simp at hr1
    | cons y r =>
     obtain ⟨z,hz,hv⟩:=hcell off y (by have:=hr2 0 (by omega); simpa using this.symm)
     obtain ⟨m,hm1,hm2,hm3⟩:=ih r (off + 1) (by simpa using hr1) (fun i hi=>by have:=hr2 (i + 1) (by omega); rw [List.getElem?_cons_succ] at this; rw [this]; congr 1; omega)
     refine ⟨z :: m,by simp [hm1],VRs.cons hv hm2,fun j v hj=>?_⟩
     cases j with
     | zero=>simp at hj; subst hj; exact hz
     | succ j=>rw [List.getElem?_cons_succ] at hj; have:=hm3 j v hj; rw [show base + off + (j + 1) = base + (off + 1) + j by omega]; exact this
  obtain ⟨m,hm1,hm2,hm3⟩:=key n r off hr1 hr2
  refine ⟨.agg m.toArray,?_,by simp only [VR]; exact ⟨m,rfl,hm2⟩⟩
  unfold isAggT at ha
  cases hu:P.underlying t with
  | none=>rw [hu] at ha; cases ha
  | some d =>
   rw [hu] at ha
   have hzz:(P.info? t).map (·.size) = some m.length:=by rw [hm1]; exact hz
   exact run_loadAt_mid (P:=P) w b (base + off) t m d hm3 hu (by cases d <;> simp_all [TypeDesc.isRow]) hzz
 ·next ha =>
  obtain ⟨z,hz,hv⟩:=hcell off x hx
  refine ⟨z,?_,hv⟩
  simp [Instr.loadAt,Instr.sureAddr,loadVar,isAgg_run ha,hz]
 cases hx
theorem fz_cells (h:Rel μ s w) {b base:Nat} {cs:List Value} (hf:Fz μ b base cs) {c:List AV} (hc:VRs μ.blind c cs) (i:Nat) (y:AV)(hy:c[i]? = some y):∃ z,w.cell? ⟨b,base + i,none⟩ = some z/\VR μ y z:=by
 obtain ⟨z,hz,hv⟩:=hc.get hy
 exact ⟨z,(h.fz _ _ _ (hf i z hz)).2.1,hv.mono μ.blind_sub⟩
theorem load_run (h:Rel μ s w) {t:TypeId} {a x:AV} {a':Value} (hx:loadA P s t a = some x)(ha:VR μ a a') :
  ∃ v,(Instr.loadAt t a').run P w = .ok v w/\VR μ x v:=by
 unfold loadA at hx
 split at hx
 ·next o off =>
  split at hx
  ·next c e op hc =>
   simp only [VR] at ha
   obtain ⟨p,hm,rfl⟩:=ha
   have ho:=h.obj o _ hc (by rw [hm]; simp)
   simp only [OR] at ho
   obtain ⟨p',cs,h1,h2,h3,h4,h5⟩:=ho
   rw [hm] at h1
   cases h1
   exact load_cells (fun i y hy=>by
    obtain ⟨z,hz,hv⟩:=h5 i y hy
    exact ⟨z,by simp [World.cell?,h2,hz],hv⟩) hx
  cases hx
 ·next c off =>
  simp only [VR] at ha
  obtain ⟨b,base,cs,rfl,hf,hc⟩:=ha
  exact load_cells (fz_cells h hf hc) hx
 cases hx
end
end
theorem keyTy_keyed {P:Program} (hl:laidOutB P = true) {k:TypeId} (h:keyTy P k = true):Go.Maps.Keyed P k:=by
 unfold keyTy at h
 cases hu:P.underlying k with
 | none=>rw [hu] at h; cases h
 | some d =>
  rw [hu] at h
  have deep:(match P.underlying k with | some (.array _ _) | some (.struct _)=>true | _=>false) = true->Nat.blt k P.types.size = true->P.keyTypeAt 100 k = true->Go.Maps.Keyed P k:=fun hw h1 h2 =>
   Go.Maps.Keyed.of_law (deep_law_laid hl (m:=100) (by omega) (by simpa using h1) h2 hw)
  cases d <;> simp only [Bool.and_eq_true,Bool.false_eq_true] at h
  case int q=>exact Go.Maps.int_keyed hu
  case array=>exact deep (by rw [hu]) h.1 h.2
  case struct=>exact deep (by rw [hu]) h.1 h.2

theorem intsN_vrs {μ:Mu}:∀ {l:List AV} {ns:List Int} {m:List Value},intsN l = some ns->VRs μ l m->m = ns.map (Value.int .i64)
 | [],_,_,h,k=>by simp only [intsN,Option.some.injEq] at h; subst h; simp only [VRs] at k; subst k; rfl
 | x :: l,ns,m,h,k=>by
  cases x with
  | i kd n =>
   cases kd <;> simp only [intsN] at h <;> try cases h
   simp only [Option.map_eq_some_iff] at h
   obtain ⟨ns',h1,rfl⟩:=h
   simp only [VRs,VR] at k
   obtain ⟨y,ys,rfl,rfl,h2⟩:=k
   rw [intsN_vrs h1 h2]; rfl
  | _=>simp [intsN] at h
theorem keyN_vr {μ:Mu} {x:AV} {q:Bool × List Int} {v:Value} (h:keyN x = some q)(hv:VR μ x v):v = keyVal q:=by
 cases x with
 | i k n =>
  cases k <;> simp only [keyN,Option.some.injEq] at h <;> try cases h
  simpa [keyVal,VR] using hv
 | agg l =>
  simp only [keyN,Option.map_eq_some_iff] at h
  obtain ⟨ns,h1,rfl⟩:=h
  simp only [VR] at hv
  obtain ⟨m,rfl,h2⟩:=hv
  rw [intsN_vrs h1 h2]
  rfl
 | _=>simp [keyN] at h
theorem keyN_form {x:AV} {q:Bool × List Int} (h:keyN x = some q):q.1 = true ∨ ∃ n,q = (false,[n]):=by
 cases x with
 | i k n =>
  cases k <;> simp only [keyN,Option.some.injEq] at h <;> try cases h
  exact .inr ⟨n,rfl⟩
 | agg l =>
  simp only [keyN,Option.map_eq_some_iff] at h
  obtain ⟨ns,h1,rfl⟩:=h
  exact .inl rfl
 | _=>simp [keyN] at h
theorem keyVal_inj {a b:Bool × List Int} (ha:a.1 = true ∨ ∃ n,a = (false,[n]))(hb:b.1 = true ∨ ∃ n,b = (false,[n]))(h:keyVal a = keyVal b):a = b:=by
 obtain ⟨ta,la⟩:=a
 obtain ⟨tb,lb⟩:=b
 simp only at ha hb
 have inj:∀ l m:List Int,l.map (Value.int .i64) = m.map (Value.int .i64)->l = m:=by
  intro l
  induction l with
  | nil=>intro m e; cases m with
   | nil=>rfl
   | cons=>simp at e
  | cons x l ih=>intro m e; cases m with
   | nil=>simp at e
   | cons y m=>simp at e; rw [e.1,ih m (by simpa using e.2)]
 rcases ha with rfl | ⟨n,e⟩
 ·rcases hb with rfl | ⟨m,e'⟩
  ·simp only [keyVal,cond_true,Value.agg.injEq] at h
   have:=congrArg Array.toList h
   simp only at this
   rw [inj la lb this]
  cases e'; simp [keyVal] at h
 cases e
 rcases hb with rfl | ⟨m,e'⟩
 ·simp [keyVal] at h
 cases e'; simp [keyVal] at h; rw [h]

theorem keysA_spec {P:Program} {μ:Mu} {k:TypeId}:∀ {es:List AE} {qs:List (Bool × List Int)} {l:List MapEntry},keysA P k es = some qs->EsR μ es l ->
  l.length = es.length/\qs.length = es.length/\(∀ e ∈ l,∃ x,keyOf P k e.key = some x)/\∀ (i:Nat) (q:Bool × List Int),qs[i]? = some q->∃ (e:MapEntry) (a:AE),l[i]? = some e/\es[i]? = some a/\e.key = keyVal q/\e.born = a.born/\VR μ a.val e.val/\(q.1 = true ∨ ∃ n,q = (false,[n]))
 | [],qs,l,h,hr=>by
  simp only [keysA,Option.some.injEq] at h
  subst h
  simp only [EsR] at hr
  subst hr
  simp
 | e :: es,qs,l,h,hr=>by
  simp only [keysA] at h
  cases hq:keyN e.key with
  | none=>rw [hq] at h; cases h
  | some q =>
   rw [hq] at h
   simp only at h
   cases hk:keyOk P k q with
   | false=>rw [hk] at h; cases h
   | true =>
    rw [hk] at h
    simp only [cond_true,Option.map_eq_some_iff] at h
    obtain ⟨qs',h1,rfl⟩:=h
    obtain ⟨kv,v,l',rfl,h2,h3,h4⟩:=hr
    obtain ⟨g1,g2,g3,g4⟩:=keysA_spec h1 h4
    have hkv:=keyN_vr hq h2
    refine ⟨by simp [g1],by simp [g2],fun e' he=>?_,fun i q' hq'=>?_⟩
    ·rcases List.mem_cons.1 he with rfl | he
     ·unfold keyOk at hk
      rw [<- hkv] at hk
      exact Option.isSome_iff_exists.1 hk
     exact g3 e' he
    cases i with
    | zero=>simp at hq'; subst hq'; exact ⟨_,e,rfl,rfl,hkv,rfl,h3,keyN_form hq⟩
    | succ i=>rw [List.getElem?_cons_succ] at hq'; simp only [List.getElem?_cons_succ]; exact g4 i q' hq'
theorem hits_spec (q:Bool × List Int):∀ (l:List (Bool × List Int)) (i:Nat),∀ j,j ∈ hits q l i ↔ ∃ k,j = i + k/\l[k]? = some q
 | [],i,j=>by simp [hits]
 | x :: l,i,j=>by
  have ih:=hits_spec q l (i + 1) j
  have hx:(x.1 == q.1 && x.2 == q.2) = true ↔ x = q:=by
   obtain ⟨a,b⟩:=x
   obtain ⟨c,d⟩:=q
   simp
  unfold hits
  cases hb:(x.1 == q.1 && x.2 == q.2) with
  | true =>
   rw [hb] at hx
   simp only [cond_true,List.mem_cons,ih]
   constructor
   ·rintro (rfl | ⟨k,rfl,h⟩)
    ·exact ⟨0,by simp,by simp [hx.1 rfl]⟩
    exact ⟨k + 1,by omega,by simpa using h⟩
   rintro ⟨k,rfl,h⟩
   cases k with
   | zero=>left; simp
   | succ k=>right; exact ⟨k,by omega,by simpa using h⟩
  | false =>
   rw [hb] at hx
   simp only [cond_false,ih]
   constructor
   ·rintro ⟨k,rfl,h⟩
    exact ⟨k + 1,by omega,by simpa using h⟩
   rintro ⟨k,rfl,h⟩
   cases k with
   | zero=>simp at h; exact absurd (hx.2 h) (by simp)
   | succ k=>exact ⟨k,by omega,by simpa using h⟩
theorem spotA_find {P:Program} {μ:Mu} (hl:laidOutB P = true) {k:TypeId} {q:Bool × List Int} (hq:q.1 = true ∨ ∃ n,q = (false,[n])) {es:List AE} {l:List MapEntry} {r:Option Nat} (h:spotA P k q es = some r)(hr:EsR μ es l) (w:World) :
  (∀ em,(Instr.checkKey em 10000 k (keyVal q)).run P w = .ok () w)/\(Instr.keyThatStays (keyVal q) (keyVal q)).run P w = .ok (keyVal q) w /\
  (r = none->(Instr.findKey k (keyVal q) l).run P w = .ok none w) /\
  ∀ i,r = some i->∃ e a,l[i]? = some e/\es[i]? = some a/\e.key = keyVal q/\e.born = a.born/\VR μ a.val e.val/\(Instr.findKey k (keyVal q) l).run P w = .ok (some (i,e.val)) w:=by
 unfold spotA at h
 cases hk:(keyTy P k && keyOk P k q) with
 | false=>rw [hk] at h; cases h
 | true =>
  rw [hk] at h
  rw [Bool.and_eq_true] at hk
  have K:=keyTy_keyed hl hk.1
  obtain ⟨lx,hlx⟩:=Option.isSome_iff_exists.1 hk.2
  refine ⟨fun em=>K.check w em hlx,K.stays w hlx,?_⟩
  simp only [cond_true] at h
  cases hqs:keysA P k es with
  | none=>rw [hqs] at h; cases h
  | some qs =>
   rw [hqs] at h
   simp only at h
   obtain ⟨g1,g2,g3,g4⟩:=keysA_spec hqs hr
   have hh:=hits_spec q qs 0
   rcases K.find w hlx l g3 with ⟨f1,f2⟩ | ⟨j,e,f1,f2,f3⟩
   ·have none_hit:hits q qs 0 = []:=by
     cases hc:hits q qs 0 with
     | nil=>rfl
     | cons a b =>
      obtain ⟨kk,rfl,hk'⟩:=(hh a).1 (by rw [hc]; simp)
      obtain ⟨e,a',e1,_,e2,_⟩:=g4 kk q hk'
      exact absurd e2 (f2 e (List.mem_of_getElem? e1))
    rw [none_hit] at h
    cases h
    exact ⟨fun _=>f1,fun _ e=>by cases e⟩
   obtain ⟨q',hq'⟩:∃ q',qs[j]? = some q':=by
    have:=(List.getElem?_eq_some_iff.1 f2).1
    exact ⟨_,List.getElem?_eq_getElem (by omega)⟩
   obtain ⟨e',a,e1,e2,e3,e4,e5,e6⟩:=g4 j q' hq'
   rw [f2] at e1
   cases e1
   have hqq:q' = q:=keyVal_inj e6 hq (by rw [<- e3,f3])
   subst hqq
   have hj:j ∈ hits q' qs 0:=(hh j).2 ⟨j,by simp,hq'⟩
   cases hc:hits q' qs 0 with
   | nil=>rw [hc] at hj; cases hj
   | cons a' b' =>
    rw [hc] at h hj
    cases b' with
    | nil =>
     simp only [Option.some.injEq] at h
     subst h
     simp at hj
     subst hj
     exact ⟨fun e=>(by cases e),fun i' ei=>by cases ei; exact ⟨e,a,f2,e2,f3,e4,e5,f1⟩⟩
    | cons=>cases h
section
section
variable {P:Program} {μ:Mu} {s:St} {w:World}

theorem eqGuard_run (op:BinOp) (t:TypeId) (x y:Operand) (a b:Value)(h1:¬ (a = .nilIface/\b = .nilIface))(h2:∀ l m,¬ (a = .agg l/\b = .agg m)) (w:World):(eqGuard op t x y a b).run P w = .ok () w:=by
 unfold eqGuard
 cases a <;> cases b <;> first
  | (exact absurd ⟨rfl,rfl⟩ h1)
  | (exact absurd ⟨rfl,rfl⟩ (h2 _ _))
  | (cases op <;> rfl)
theorem bnd_vr {x:AV} {v:Value} {n:Nat} (h:bnd x = some n)(hv:VR μ x v):v = .int .i64 (n:Int):=by
 cases x with
 | i k z =>
  cases k <;> simp only [bnd] at h <;> try cases h
  cases z with
  | ofNat z=>simp only [Option.some.injEq] at h; subst h; simp only [VR] at hv; exact hv
  | negSucc z=>cases h
 | _=>simp [bnd] at h
theorem mapM_vrs {ρ:Operand->Option AV} {ev:Operand->Value} (hρ:∀ x v,ρ x = some v->VR μ v (ev x)):∀ {l:List Operand} {xs:List AV},l.mapM ρ = some xs->VRs μ xs (l.map ev)
 | [],xs,h=>by simp at h; subst h; exact VRs.nil_
 | x :: l,xs,h=>by
  simp only [List.mapM_cons] at h
  cases hx:ρ x with
  | none=>rw [hx] at h; simp at h
  | some a =>
   rw [hx] at h
   cases hl:l.mapM ρ with
   | none=>rw [hl] at h; simp at h
   | some asn =>
    rw [hl] at h
    simp at h
    subst h
    exact VRs.cons (hρ x a hx) (mapM_vrs hρ hl)
theorem binA_run {op:BinOp} {t:TypeId} {x y:Operand} {a b r:AV} {a' b':Value} (h:binA P op t a b = some r)(ha:VR μ a a')(hb:VR μ b b') (w:World) :
  (eqGuard op t x y a' b').run P w = .ok () w/\∃ v,(binOp op t a' b').run P w = .ok v w/\VR μ r v:=by
 have nil_:∀ (c:Bool),eqNil op c = some r->(∀ (z:Value),(op = .eql/\z = .bool c ∨ op = .neq/\z = .bool !c)->VR μ r z)/\(op = .eql ∨ op = .neq):=by
  intro c hc
  cases op <;> simp only [eqNil,Option.some.injEq] at hc <;> try cases hc
  ·refine ⟨fun z hz=>?_,.inl rfl⟩
   rcases hz with ⟨_,e2⟩ | ⟨e2,_⟩
   ·subst e2; simp [VR]
   cases e2
  refine ⟨fun z hz=>?_,.inr rfl⟩
  rcases hz with ⟨e2,_⟩ | ⟨_,e2⟩
  ·cases e2
  subst e2; simp [VR]
 have eqv:∀ (c:Bool),eqNil op c = some r->(∀ w,(Op.equal t a' b').run P w = .ok c w)->(∀ z,(binOp op t a' b') = z->((op = .eql->z = (do pure (.bool (<- Op.equal t a' b'))))/\(op = .neq->z = (do pure (.bool (!(<- Op.equal t a' b'))))))) ->
   ∃ v,(binOp op t a' b').run P w = .ok v w/\VR μ r v:=by
  intro c hc he hz
  obtain ⟨n1,n2⟩:=nil_ c hc
  obtain ⟨z1,z2⟩:=hz _ rfl
  rcases n2 with rfl | rfl
  ·exact ⟨.bool c,by rw [z1 rfl]; simp [he],n1 _ (.inl ⟨rfl,rfl⟩)⟩
  exact ⟨.bool !c,by rw [z2 rfl]; simp [he],n1 _ (.inr ⟨rfl,rfl⟩)⟩
 unfold binA at h
 split at h
 ·next k n k' n' =>
  simp only [VR] at ha hb
  subst ha
  subst hb
  rw [Option.bind_eq_some_iff] at h
  obtain ⟨v,hv,h⟩:=h
  exact ⟨eqGuard_run _ _ _ _ _ _ (by simp) (by simp) w,v,pureRun_run P w _ hv,ofConst_vr μ v h⟩
 ·next x1 x2 =>
  simp only [VR] at ha hb
  subst ha
  subst hb
  rw [Option.bind_eq_some_iff] at h
  obtain ⟨v,hv,h⟩:=h
  exact ⟨eqGuard_run _ _ _ _ _ _ (by simp) (by simp) w,v,pureRun_run P w _ hv,ofConst_vr μ v h⟩
 split at h <;> (try simp only [VR] at ha hb)
 all_goals first
  | (subst ha; subst hb; exact ⟨eqGuard_run _ _ _ _ _ _ (by simp) (by simp) w,eqv _ h (fun w=>by show (Op.equalIn (9999 + 1) _ _ _).run P w = _; rw [Op.equalIn]; simp [run_underlying (P:=P) ‹_›]) (fun z hz=>by subst hz; exact ⟨fun e=>by subst e; rfl,fun e=>by subst e; rfl⟩)⟩)
  | (obtain ⟨_,_,rfl⟩:=ha; subst hb; exact ⟨eqGuard_run _ _ _ _ _ _ (by simp) (by simp) w,eqv _ h (fun w=>by show (Op.equalIn (9999 + 1) _ _ _).run P w = _; rw [Op.equalIn]; simp [run_underlying (P:=P) ‹_›]) (fun z hz=>by subst hz; exact ⟨fun e=>by subst e; rfl,fun e=>by subst e; rfl⟩)⟩)
  | (obtain ⟨_,_,rfl⟩:=hb; subst ha; exact ⟨eqGuard_run _ _ _ _ _ _ (by simp) (by simp) w,eqv _ h (fun w=>by show (Op.equalIn (9999 + 1) _ _ _).run P w = _; rw [Op.equalIn]; simp [run_underlying (P:=P) ‹_›]) (fun z hz=>by subst hz; exact ⟨fun e=>by subst e; rfl,fun e=>by subst e; rfl⟩)⟩)
  | (obtain ⟨_,_,_,rfl,_⟩:=ha; subst hb; exact ⟨eqGuard_run _ _ _ _ _ _ (by simp) (by simp) w,eqv _ h (fun w=>by show (Op.equalIn (9999 + 1) _ _ _).run P w = _; rw [Op.equalIn]; simp [run_underlying (P:=P) ‹_›]) (fun z hz=>by subst hz; exact ⟨fun e=>by subst e; rfl,fun e=>by subst e; rfl⟩)⟩)
  | (obtain ⟨_,_,_,rfl,_⟩:=hb; subst ha; exact ⟨eqGuard_run _ _ _ _ _ _ (by simp) (by simp) w,eqv _ h (fun w=>by show (Op.equalIn (9999 + 1) _ _ _).run P w = _; rw [Op.equalIn]; simp [run_underlying (P:=P) ‹_›]) (fun z hz=>by subst hz; exact ⟨fun e=>by subst e; rfl,fun e=>by subst e; rfl⟩)⟩)
  | (obtain ⟨_,_,rfl,_⟩:=ha; subst hb; exact ⟨eqGuard_run _ _ _ _ _ _ (by simp) (by simp) w,eqv _ h (fun w=>by show (Op.equalIn (9999 + 1) _ _ _).run P w = _; rw [Op.equalIn]; simp [run_underlying (P:=P) ‹_›]) (fun z hz=>by subst hz; exact ⟨fun e=>by subst e; rfl,fun e=>by subst e; rfl⟩)⟩)
  | (obtain ⟨_,_,rfl,_⟩:=hb; subst ha; exact ⟨eqGuard_run _ _ _ _ _ _ (by simp) (by simp) w,eqv _ h (fun w=>by show (Op.equalIn (9999 + 1) _ _ _).run P w = _; rw [Op.equalIn]; simp [run_underlying (P:=P) ‹_›]) (fun z hz=>by subst hz; exact ⟨fun e=>by subst e; rfl,fun e=>by subst e; rfl⟩)⟩)
  | (obtain ⟨_,⟨A,cap,rfl,_,_,hA⟩,_⟩:=ha; obtain ⟨_,_,rfl,_⟩:=hA (Nat.succ_pos _); subst hb; exact ⟨eqGuard_run _ _ _ _ _ _ (by simp) (by simp) w,eqv _ h (fun w=>by show (Op.equalIn (9999 + 1) _ _ _).run P w = _; rw [Op.equalIn]; simp [run_underlying (P:=P) ‹_›]) (fun z hz=>by subst hz; exact ⟨fun e=>by subst e; rfl,fun e=>by subst e; rfl⟩)⟩)
  | (obtain ⟨_,⟨A,cap,rfl,_,_,hA⟩,_⟩:=hb; obtain ⟨_,_,rfl,_⟩:=hA (Nat.succ_pos _); subst ha; exact ⟨eqGuard_run _ _ _ _ _ _ (by simp) (by simp) w,eqv _ h (fun w=>by show (Op.equalIn (9999 + 1) _ _ _).run P w = _; rw [Op.equalIn]; simp [run_underlying (P:=P) ‹_›]) (fun z hz=>by subst hz; exact ⟨fun e=>by subst e; rfl,fun e=>by subst e; rfl⟩)⟩)
  | cases h
theorem bndO_run {ρ:Operand->Option AV} {ev:Operand->Value} (hρ:∀ x v,ρ x = some v->VR μ v (ev x)) {d n:Nat} {x:Option Operand} (h:bndO ρ d x = some n) :
  (x = none/\n = d) ∨ ∃ y,x = some y/\ev y = .int .i64 (n:Int):=by
 cases x with
 | none=>simp only [bndO,Option.some.injEq] at h; exact .inl ⟨rfl,h.symm⟩
 | some y =>
  simp only [bndO,Option.bind_eq_some_iff] at h
  obtain ⟨v,hv,h⟩:=h
  exact .inr ⟨y,rfl,bnd_vr h (hρ y v hv)⟩
theorem sliceBound_run (n m:Nat)(h:n <= m) (c:BoundsCode) (w:World):(Instr.sliceBound (.int .i64 (n:Int)) m c).run P w = .ok n w:=by
 simp [Instr.sliceBound,asIntOf,h]
theorem sliceBounds_run {ρ:Operand->Option AV} {ev:Operand->Value} (hρ:∀ x v,ρ x = some v->VR μ v (ev x)) (sl:Bool) {len cap l h m d:Nat} {lo hi mx:Option Operand}
  (h1:bndO ρ 0 lo = some l)(h2:bndO ρ len hi = some h)(h3:bndO ρ d mx = some m)(hlh:l <= h)(hm:(mx = none/\h <= cap) ∨ (h <= m/\m <= cap/\(hi = none->mx = none))) (w:World) :
  (Instr.sliceBounds sl len cap (lo.map ev) (hi.map ev) (mx.map ev)).run P w = .ok (l,h,if mx = none then cap else m) w:=by
 have e1:=bndO_run hρ h1
 have e2:=bndO_run hρ h2
 have e3:=bndO_run hρ h3
 clear h1 h2 h3
 rcases hm with ⟨hm1,hm2⟩ | ⟨hm1,hm2,hm3⟩
 ·subst hm1
  rcases e1 with ⟨rfl,rfl⟩ | ⟨y1,rfl,e1⟩ <;> rcases e2 with ⟨rfl,rfl⟩ | ⟨y2,rfl,e2⟩
  ·simp [Instr.sliceBounds]
  ·simp [Instr.sliceBounds,e2,sliceBound_run _ _ hm2]
  ·simp [Instr.sliceBounds,e1,sliceBound_run _ _ hlh]
  simp [Instr.sliceBounds,e1,e2,sliceBound_run _ _ hlh,sliceBound_run _ _ hm2]
 rcases e3 with ⟨rfl,rfl⟩ | ⟨y3,rfl,e3⟩
 ·rcases e1 with ⟨rfl,rfl⟩ | ⟨y1,rfl,e1⟩ <;> rcases e2 with ⟨rfl,rfl⟩ | ⟨y2,rfl,e2⟩
  ·simp [Instr.sliceBounds]
  ·simp [Instr.sliceBounds,e2,sliceBound_run _ _ (Nat.le_trans hm1 hm2)]
  ·simp [Instr.sliceBounds,e1,sliceBound_run _ _ hlh]
  simp [Instr.sliceBounds,e1,e2,sliceBound_run _ _ hlh,sliceBound_run _ _ (Nat.le_trans hm1 hm2)]
 rcases e2 with ⟨rfl,rfl⟩ | ⟨y2,rfl,e2⟩
 ·have:=hm3 rfl; cases this
 rcases e1 with ⟨rfl,rfl⟩ | ⟨y1,rfl,e1⟩
 ·simp [Instr.sliceBounds,e2,e3,sliceBound_run _ _ hm1,sliceBound_run _ _ hm2]
 simp [Instr.sliceBounds,e1,e2,e3,sliceBound_run _ _ hm1,sliceBound_run _ _ hm2,sliceBound_run _ _ hlh]
end
end
end Go.Proofs.YtdehimgccmbfkaaGreat
