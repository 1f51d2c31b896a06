/- Lemmas on the way: Jd1, Jd2. -/
import Derived.Test.YtkdhppimhdemjaaGreatU16
set_option linter.all false
set_option maxRecDepth 1000000
set_option maxHeartbeats 32000000
namespace Go.Proofs.YtkdhppimhdemjaaGreat
open Go.RowKit
section
mutual
def kT (ρ:Nat->Nat):AV->AV
 | .ptr o f=>.ptr (ρ o) f
 | .sl o f n c=>.sl (ρ o) f n c
 | .nat o=>.nat (ρ o)
 | .mp o=>.mp (ρ o)
 | .fn f a b=>.fn f (fT ρ a) (fT ρ b)
 | .yl l=>.yl (ρ l)
 | .ifc t v=>.ifc t (kT ρ v)
 | .agg l=>.agg (fT ρ l)
 | .tup l=>.tup (fT ρ l)
 | .b x=>.b x
 | .i k n=>.i k n
 | .pnil=>.pnil
 | .snil=>.snil
 | .num n=>.num n
 | .vw c n=>.vw c n
 | .vp c n=>.vp c n
 | .fm a b=>.fm a b
 | .mnil=>.mnil
 | .fnil=>.fnil
 | .inil=>.inil
def fT (ρ:Nat->Nat):List AV->List AV
 | []=>[]
 | x :: l=>kT ρ x :: fT ρ l
end
def Mu.pull (μ:Mu) (ρ:Nat->Nat):Mu:=⟨fun k=>μ (ρ k),μ.fz⟩
mutual
theorem oh {μ:Mu} {ρ:Nat->Nat}:∀ (x:AV) {v:Value},VR μ (kT ρ x) v->VR (μ.pull ρ) x v
 | .b _,_,h | .i _ _,_,h | .pnil,_,h | .snil,_,h | .mnil,_,h | .fnil,_,h | .inil,_,h=>by simpa only [kT,VR] using h
 | .ptr _ _,_,h | .sl _ _ _ _,_,h | .nat _,_,h | .mp _,_,h | .yl _,_,h | .num _,_,h | .vw _ _,_,h | .vp _ _,_,h | .fm _ _,_,h=>by simp only [kT,VR] at h ⊢; exact h
 | .fn f a c,_,h=>by
  simp only [kT,VR] at h ⊢
  obtain ⟨a',c',h0,h1,h2⟩:=h
  exact ⟨a',c',h0,m6 a h1,m6 c h2⟩
 | .ifc t x,_,h=>by
  simp only [kT,VR] at h ⊢
  obtain ⟨y,h0,h1⟩:=h
  exact ⟨y,h0,oh x h1⟩
 | .agg l,_,h=>by
  simp only [kT,VR] at h ⊢
  obtain ⟨y,h0,h1⟩:=h
  exact ⟨y,h0,m6 l h1⟩
 | .tup l,_,h=>by
  simp only [kT,VR] at h ⊢
  obtain ⟨y,h0,h1⟩:=h
  exact ⟨y,h0,m6 l h1⟩
theorem m6 {μ:Mu} {ρ:Nat->Nat}:∀ (l:List AV) {m:List Value},ao μ (fT ρ l) m->ao (μ.pull ρ) l m
 | [],_,h=>by simpa only [fT,ao] using h
 | x :: xs,_,h=>by
  simp only [fT,ao] at h ⊢
  obtain ⟨y,ys,h0,h1,h2⟩:=h
  exact ⟨y,ys,h0,oh x h1,m6 xs h2⟩
end

def Wk (H:Mu->Prop) (x y:AV):Prop:=(∀ μ,H μ->∀ v,VR μ x v->VR μ y v)/\(flat x = true->flat y = true)
theorem Wk.refl (H:Mu->Prop) (x:AV):Wk H x x:=⟨fun _ _ _ h=>h,id⟩
theorem Wk.none (H:Mu->Prop):Wk H .snil (.vw [] 0):=⟨fun μ _ v h=>by
 simp only [VR] at h ⊢
 subst h
 exact ⟨[],⟨Option.none,0,rfl,Nat.le_refl _,Nat.zero_le _,fun h=>absurd h (by simp)⟩,ao.nil_⟩,fun _=>rfl⟩
inductive pE (H:Mu->Prop):List AV->List AV->Prop
 | nil:pE H [] []
 | cons {x y:AV} {l m:List AV}:Wk H x y->pE H l m->pE H (x :: l) (y :: m)
theorem pE.refl (H:Mu->Prop):∀ l,pE H l l
 | []=>.nil
 | x :: l=>.cons (Wk.refl H x) (pE.refl H l)
section
variable {H:Mu->Prop}
theorem pE.length {l m:List AV} (h:pE H l m):l.length = m.length:=by induction h with | nil=>rfl | cons _ _ ih=>simp [ih]
theorem pE.vrs {μ:Mu} (hH:H μ) {l m:List AV} (h:pE H l m):∀ {v:List Value},ao μ l v->ao μ m v:=by
 induction h with
 | nil=>intro v h; exact h
 | cons h1 _ ih =>
  intro v h
  simp only [ao] at h ⊢
  obtain ⟨y,ys,h0,h2,h3⟩:=h
  exact ⟨y,ys,h0,h1.1 μ hH _ h2,ih h3⟩
theorem pE.flat {l m:List AV} (h:pE H l m):l.all flat = true->m.all flat = true:=by
 induction h with
 | nil=>exact id
 | cons h1 _ ih=>intro h; simp only [List.all_cons,Bool.and_eq_true] at h ⊢; exact ⟨h1.2 h.1,ih h.2⟩
theorem pE.get {l m:List AV} (h:pE H l m):∀ {i:Nat} {y:AV},m[i]? = some y->∃ x,l[i]? = some x/\Wk H x y:=by
 induction h with
 | nil=>intro i y h; simp at h
 | cons h1 _ ih =>
  intro i y h
  cases i with
  | zero=>simp at h; subst h; exact ⟨_,rfl,h1⟩
  | succ i=>simpa using ih (by simpa using h)
theorem pE.append {l m l' m':List AV} (h:pE H l m) (k:pE H l' m'):pE H (l ++ l') (m ++ m'):=by
 induction h with
 | nil=>exact k
 | cons h1 _ ih=>exact .cons h1 ih
theorem pE.reps {z y:List AV} (h:pE H z y):∀ n,pE H (reps z n) (reps y n)
 | 0=>.nil
 | n + 1=>h.append (pE.reps h n)
theorem Wk.agg {l m:List AV} (h:pE H l m):Wk H (.agg l) (.agg m):=⟨fun μ hH v hv=>by
 simp only [VR] at hv ⊢
 obtain ⟨l',h0,h1⟩:=hv
 exact ⟨l',h0,h.vrs hH h1⟩,fun h=>by cases h⟩
end
def Hw (ρ:Nat->Nat) (e:AE):AE:=⟨kT ρ e.key,kT ρ e.val,e.born⟩
def bU (H:Mu->Prop) (ρ:Nat->Nat):AO->AO->Prop
 | .cells c t op,.cells c' t' op'=>t = t'/\op = op'/\pE H c (fT ρ c')
 | .map es k,.map es' k'=>k = k'/\es = es'.map (Hw ρ)
 | .map es _,.amap I=>∃ es',es = es'.map (Hw ρ)/\I es'
 | .amap I,.amap I'=>∀ es,I es->∃ es',es = es'.map (Hw ρ)/\I' es'
 | .walk a b c,.walk a' b' c'=>a = a'/\b = b'/\c = c'
 | .iter m a b c,.iter m' a' b' c'=>m = m'.map ρ/\a = a'/\b = b'/\c = c'
 | .defs,.defs=>True
 | .nat n,.nat n'=>n = n'
 | _,_=>False
theorem bU.cells {H:Mu->Prop} {ρ:Nat->Nat} {c c':List AV} {t:TypeId} {op:Bool} (h:c = fT ρ c'):bU H ρ (.cells c t op) (.cells c' t op):=⟨rfl,rfl,h ▸ pE.refl H _⟩
theorem qM (ρ:Nat->Nat):∀ (l:List AV) (i:Nat),(fT ρ l)[i]? = (l[i]?).map (kT ρ)
 | [],i=>by simp [fT]
 | x :: l,i=>by cases i <;> simp [fT,qM ρ l]
theorem Fy (ρ:Nat->Nat) (x:AV):flat (kT ρ x) = flat x:=by cases x <;> rfl
theorem oI (ρ:Nat->Nat):∀ l:List AV,(fT ρ l).all flat = l.all flat
 | []=>rfl
 | x :: l=>by simp only [fT,List.all_cons,Fy,oI ρ l]
theorem qj {μ:Mu} {ρ:Nat->Nat}:∀ {es:List AE} {l:List MapEntry},gf μ (es.map (Hw ρ)) l->gf (μ.pull ρ) es l
 | [],_,h=>h
 | _ :: _,_,⟨k,v,l',e,h1,h2,h3⟩=>⟨k,v,l',e,oh _ h1,oh _ h2,qj h3⟩
theorem KJ {H:Mu->Prop} {μ:Mu} (hH:H μ) {w:World} {ρ:Nat->Nat} {k:Nat} {x x2:AO} (h:bU H ρ x x2)(ho:OR μ w (ρ k) x):OR (μ.pull ρ) w k x2:=by
 cases x <;> cases x2 <;> simp only [bU] at h
 case cells.cells c t op c' t' op' =>
  obtain ⟨rfl,rfl,h⟩:=h
  simp only [OR] at ho ⊢
  obtain ⟨p,cs,h1,h2,h3,h4,h5⟩:=ho
  refine ⟨p,cs,h1,h2,h3,⟨by rw [<- oI ρ]; exact h.flat h4.1,h4.2⟩,fun i y hy=>?_⟩
  obtain ⟨z,g1,g2⟩:=h.get (i:=i) (y:=kT ρ y) (by rw [qM,hy]; rfl)
  obtain ⟨u,g3,g4⟩:=h5 i z g1
  exact ⟨u,g3,oh _ (g2.1 μ hH _ g4)⟩
 case map.map =>
  obtain ⟨rfl,rfl⟩:=h
  simp only [OR] at ho ⊢
  obtain ⟨p,l,h1,h2,h3⟩:=ho
  exact ⟨p,l,h1,h2,qj h3⟩
 case map.amap =>
  obtain ⟨es',rfl,hI⟩:=h
  simp only [OR] at ho ⊢
  obtain ⟨p,l,h1,h2,h3⟩:=ho
  exact ⟨p,l,_,es',h1,h2,qj h3,hI⟩
 case amap.amap =>
  simp only [OR] at ho ⊢
  obtain ⟨p,l,c,es,h1,h2,h3,h4⟩:=ho
  obtain ⟨es',rfl,hI⟩:=h es h4
  exact ⟨p,l,c,es',h1,h2,qj h3,hI⟩
 case walk.walk =>
  obtain ⟨rfl,rfl,rfl⟩:=h
  simp only [OR] at ho ⊢
  exact ho
 case iter.iter m a b c m' a' b' c' =>
  obtain ⟨rfl,rfl,rfl,rfl⟩:=h
  simp only [OR] at ho ⊢
  obtain ⟨p,q,h1,h0,h2,h3⟩:=ho
  refine ⟨p,q,h1,h0,h2,?_⟩
  cases m' with
  | none=>exact h3
  | some m=>exact h3
 case defs.defs=>simp only [OR] at ho ⊢; exact ho
 case nat.nat=>subst h; simp only [OR] at ho ⊢; exact ho

def cB (rl:List Nat) (nx:Nat) (k:Nat):Nat:=rl.getD k (nx + k)
theorem yZ {rl:List Nat} {nx k:Nat} (h:rl.length <= k):nx <= cB rl nx k:=by
 unfold cB
 rw [List.getD_eq_getElem?_getD,List.getElem?_eq_none_iff.2 h]
 simp
theorem DM.pull {μ:Mu} {ρ:Nat->Nat}:∀ {ms:List Nat} {ds:List Deferred},DM μ (ms.map ρ) ds->DM (μ.pull ρ) ms ds
 | [],_,h=>h
 | _ :: _,_,⟨p,ds',h1,h2,h3⟩=>⟨p,ds',h1,h2,DM.pull h3⟩
structure DH (H:Mu->Prop) (rl:List Nat) (fr:Fr) (s:St) (fr2:Fr) (s2:St):Prop where
 hn:fr2.n = fr.n
 hms:fr.ms = fr2.ms.map (cB rl s.nx)
 hrd:fr.rd = fr2.rd.map (cB rl s.nx)
 hnx:s2.nx = rl.length
 hT:∀ t x2,fr2.T.get t = some x2->∃ x,fr.T.get t = some x/\Wk H x (kT (cB rl s.nx) x2)
 hS:∀ k x2,s2.h.get k = some x2->k < rl.length/\∃ x,s.h.get (cB rl s.nx k) = some x/\bU H (cB rl s.nx) x x2
 hinj:rl.Nodup
section
variable {P:Program} {c:Code} {fr fr2:Fr} {s s2:St} {Q:Ex->Fr->St->Prop} {H:Mu->Prop} {rl:List Nat}
theorem DH.at_ (h:DH H rl fr s fr2 s2) {μ:Mu} {ro:Option Nat} {a:Act} {w:World} {bb:Nat} (hb:∀ o,o < bb->cB rl s.nx o = o)(hA:At μ fr s ro a w)(hH:H μ):At (μ.pull (cB rl s.nx)) fr2 s2 ro a w/\Fp bb μ s w (μ.pull (cB rl s.nx)) s2 w:=by
 obtain ⟨hn,hms,hrd,hnx,hT,hS,hinj⟩:=h
 refine ⟨⟨⟨⟨fun o x e m=>?_,fun o o' x x' p p' e e' m m' hb=>?_,fun o n A m c' o' x' p' e m1 e' m2=>?_,fun o ho=>?_⟩,fun b i v hv=>?_⟩,⟨by rw [hn]; exact hA.tr.1,fun t x e=>?_⟩,?_,?_,fun o ho=>?_⟩,fun o p ho hp=>(by show μ (cB rl s.nx o) = some p; rw [hb o ho]; exact hp),fun _ _ _ h=>h,rfl,rfl,rfl,Nat.le_refl _,fun _ _ _=>rfl,fun o x p e m=>?_,fun b i v hv=>.inl hv⟩
 ·obtain ⟨_,x0,h1,h2⟩:=hS o x e
  exact KJ hH h2 (hA.rel.obj _ _ h1 m)
 ·obtain ⟨l1,x0,h1,h2⟩:=hS o x e
  obtain ⟨l2,x1,h3,h4⟩:=hS o' x' e'
  have:=hA.rel.inj _ _ _ _ _ _ h1 h3 m m' hb
  unfold cB at this
  rw [List.getD_eq_getElem?_getD,List.getD_eq_getElem?_getD,List.getElem?_eq_getElem l1,List.getElem?_eq_getElem l2] at this
  exact (List.getElem_inj hinj).1 this
 ·obtain ⟨l1,x0,h1,h2⟩:=hS o _ e
  obtain ⟨l2,x1,h3,h4⟩:=hS o' x' e'
  have:x0 = .nat n:=by cases x0 <;> simp only [bU] at h2; rw [h2]
  subst this
  exact hA.rel.nat _ n A m c' _ _ _ h1 m1 h3 m2
 ·cases e:s2.h.get o with
  | none=>rfl
  | some x=>have:=(hS o x e).1; omega
 ·obtain ⟨z1,z2,z3⟩:=hA.rel.fz b i v hv
  refine ⟨z1,z2,fun o x p e m=>?_⟩
  obtain ⟨_,x0,h1,_⟩:=hS o x e
  exact z3 _ _ _ h1 m
 ·obtain ⟨x0,h1,h2⟩:=hT t x e
  obtain ⟨y,h3,h4⟩:=hA.tr.2 t x0 h1
  exact ⟨y,h3,oh _ (h2.1 μ hH _ h4)⟩
 ·exact DM.pull (by rw [<- hms]; exact hA.dm)
 ·have:=hA.ro
  rw [hrd] at this
  cases h:fr2.rd with
  | none=>rw [h] at this; exact this
  | some l=>rw [h] at this; exact this
 ·exact hA.fresh _ (yZ (by omega))
 obtain ⟨_,x0,h1,_⟩:=hS o x e
 exact .inr ⟨_,x0,p,h1,m,rfl⟩
theorem Jd.weakB {bb:Nat} (rl:List Nat)(h:DH (fun _=>True) rl fr s fr2 s2)(hb:∀ o,o < bb->cB rl s.nx o = o) (k:Jb bb P c fr2 s2 Q):Jb bb P c fr s Q :=
 Jd.swap (fun _ _ _ _ hA=>⟨_,h.at_ hb hA trivial⟩) k
theorem Jd.weak (rl:List Nat)(h:DH (fun _=>True) rl fr s fr2 s2) (k:Jd P c fr2 s2 Q):Jd P c fr s Q:=Jd.weakB rl h (fun _ h=>absurd h (Nat.not_lt_zero _)) k

mutual
def bare:AV->Bool
 | .ptr .. | .sl .. | .nat _ | .mp _ | .yl _=>false
 | .fn _ a b=>aE a && aE b
 | .ifc _ v=>bare v
 | .agg l=>aE l
 | .tup l=>aE l
 | _=>true
def aE:List AV->Bool
 | []=>true
 | x :: l=>bare x && aE l
end
mutual
theorem fi {μ μ':Mu} (h:∀ b i v,μ.fz b i = some v->μ'.fz b i = some v):∀ (x:AV) {v:Value},bare x = true->VR μ x v->VR μ' x v
 | .b _,_,_,e | .i _ _,_,_,e | .pnil,_,_,e | .snil,_,_,e | .mnil,_,_,e | .fnil,_,_,e | .inil,_,_,e=>by simpa only [VR] using e
 | .ptr _ _,_,b,_ | .sl _ _ _ _,_,b,_ | .nat _,_,b,_ | .mp _,_,b,_ | .yl _,_,b,_=>by simp [bare] at b
 | .num n,_,_,e=>by
  simp only [VR] at e ⊢
  obtain ⟨l,h1,h2,h3,h4⟩:=e
  exact ⟨l,h1,h2,h3,Kw.mono (μ:=μ.blind) (μ':=μ'.blind) ⟨fun _ _ h=>(by cases h),h⟩ h4⟩
 | .vw c n,_,_,e=>by
  simp only [VR] at e ⊢
  obtain ⟨cs,h1,h2⟩:=e
  exact ⟨cs,Kw.mono (μ:=μ.blind) (μ':=μ'.blind) ⟨fun _ _ h=>(by cases h),h⟩ h1,ao.mono (μ:=μ.blind) (μ':=μ'.blind) ⟨fun _ _ h=>(by cases h),h⟩ c h2⟩
 | .vp c off,_,_,e=>by
  simp only [VR] at e ⊢
  obtain ⟨b,base,cs,h1,h2,h3⟩:=e
  exact ⟨b,base,cs,h1,Fz.mono (μ:=μ.blind) (μ':=μ'.blind) ⟨fun _ _ h=>(by cases h),h⟩ h2,ao.mono (μ:=μ.blind) (μ':=μ'.blind) ⟨fun _ _ h=>(by cases h),h⟩ c h3⟩
 | .fm ks vs,_,_,e=>by
  simp only [VR] at e ⊢
  obtain ⟨b,l,clock,l',h1,h2,h3,h4,h5,h6,h7⟩:=e
  exact ⟨b,l,clock,l',h1,h _ _ _ h2,h3,h4,h5,ao.mono (μ:=μ.blind) (μ':=μ'.blind) ⟨fun _ _ h=>(by cases h),h⟩ ks h6,ao.mono (μ:=μ.blind) (μ':=μ'.blind) ⟨fun _ _ h=>(by cases h),h⟩ vs h7⟩
 | .fn f a c,_,b,e=>by
  simp only [bare,Bool.and_eq_true] at b
  simp only [VR] at e ⊢
  obtain ⟨a',c',h0,h1,h2⟩:=e
  exact ⟨a',c',h0,eF h a b.1 h1,eF h c b.2 h2⟩
 | .ifc t x,_,b,e=>by
  simp only [bare] at b
  simp only [VR] at e ⊢
  obtain ⟨y,h0,h1⟩:=e
  exact ⟨y,h0,fi h x b h1⟩
 | .agg l,_,b,e=>by
  simp only [bare] at b
  simp only [VR] at e ⊢
  obtain ⟨y,h0,h1⟩:=e
  exact ⟨y,h0,eF h l b h1⟩
 | .tup l,_,b,e=>by
  simp only [bare] at b
  simp only [VR] at e ⊢
  obtain ⟨y,h0,h1⟩:=e
  exact ⟨y,h0,eF h l b h1⟩
theorem eF {μ μ':Mu} (h:∀ b i v,μ.fz b i = some v->μ'.fz b i = some v):∀ (l:List AV) {m:List Value},aE l = true->ao μ l m->ao μ' l m
 | [],_,_,e=>by simpa only [ao] using e
 | x :: xs,_,b,e=>by
  simp only [aE,Bool.and_eq_true] at b
  simp only [ao] at e ⊢
  obtain ⟨y,ys,h0,h1,h2⟩:=e
  exact ⟨y,ys,h0,fi h x b.1 h1,eF h xs b.2 h2⟩
end
def Ml (o:Nat) (c:List AV) (μ:Mu):Prop:=∀ p,μ o = some (.at_ p)->∃ cs,Fz μ p.blk p.base cs/\ao μ.blind c cs
theorem Wk.frz_sl {o:Nat} {c:List AV} {off n cap:Nat} (h:n <= cap):Wk (Ml o c) (.sl o off n cap) (.vw (c.drop off) n):=⟨fun μ hH v hv=>by
 simp only [VR] at hv ⊢
 obtain ⟨p,k,hm,rfl,h1,h2⟩:=hv
 obtain ⟨cs,h3,h4⟩:=hH p hm
 have hb:n <= k/\k <= maxLen:=by
  by_cases e:cap < cW
  ·have:=h1 e; subst this; unfold cW at e; unfold maxLen; omega
  have:=h2 e; unfold cW at this; unfold maxLen; omega
 exact ⟨cs.drop off,⟨_,k,rfl,hb.1,hb.2,fun _=>⟨p.blk,p.base + off,rfl,h3.drop off⟩⟩,h4.drop off⟩,fun _=>rfl⟩
theorem Wk.frz_ptr {o:Nat} {c:List AV} {off:Nat}:Wk (Ml o c) (.ptr o off) (.vp c off):=⟨fun μ hH v hv=>by
 simp only [VR] at hv ⊢
 obtain ⟨p,hm,rfl⟩:=hv
 obtain ⟨cs,h3,h4⟩:=hH p hm
 exact ⟨p.blk,p.base,cs,rfl,h3,h4⟩,fun _=>rfl⟩
theorem At.freeze {bb:Nat} {μ:Mu} {ro:Option Nat} {a:Act} {w:World} (hA:At μ fr s ro a w) {o:Nat} {c:List AV} {t:TypeId} {op:Bool} (ho:s.h.get o = some (.cells c t op))(hc:aE c = true):∃ μ1,At μ1 fr (s.drop o) ro a w/\Fp bb μ s w μ1 (s.drop o) w/\Ml o c μ1:=by
 have hsub:∀ k x,(s.drop o).h.get k = some x->s.h.get k = some x/\k ≠ o:=fun k x e=>by
  simp only [St.drop,Tr.get_set] at e
  split at e
  ·cases e
  next hne=>exact ⟨e,hne⟩
 cases hm:μ o with
 | none=>exact ⟨μ,⟨hA.rel.drop o,hA.tr,hA.dm,hA.ro,hA.fresh⟩,⟨fun _ _ _ h=>h,fun _ _ _ h=>h,rfl,rfl,rfl,Nat.le_refl _,fun _ _ _=>rfl,fun k x p e m=>.inr ⟨k,x,p,(hsub k x e).1,m,rfl⟩,fun _ _ _ h=>.inl h⟩,fun p h=>by rw [hm] at h; cases h⟩
 | some lc =>
  have hob:=hA.rel.obj o _ ho (by rw [hm]; simp)
  simp only [OR] at hob
  obtain ⟨p,cs,h1,h2,h3,h4,h5⟩:=hob
  rw [h1] at hm
  cases hm
  obtain ⟨μ1,e1⟩:∃ μ1:Mu,μ1 = ⟨μ.loc,fun b i=>if b = p.blk then de w b i else μ.fz b i⟩:=⟨_,rfl⟩
  have hold:∀ b i v,μ.fz b i = some v->b ≠ p.blk:=fun b i v hv e=>(hA.rel.fz b i v hv).2.2 o _ p ho h1 e.symm
  have hs:gY μ μ1:=by subst e1; exact ⟨fun _ _ h=>h,fun b i v hv=>by simp only; rw [if_neg (hold b i v hv)]; exact hv⟩
  have hloc:∀ k,μ1 k = μ k:=fun k=>by subst e1; rfl
  have hd:=hA.rel.drop o
  refine ⟨μ1,⟨⟨⟨fun k x e m=>?_,fun k k' x x' q q' e e' m m' hb=>?_,fun k n A m cc k' x' q' e m1 e' m2=>?_,hd.wf⟩,fun b i v hv=>?_⟩,hA.tr.mono hs,hA.dm.mono hs,hA.ro.mono hs,fun k hk=>?_⟩,⟨fun k p _ h=>(by rw [hloc]; exact h),hs.fz,rfl,rfl,rfl,Nat.le_refl _,fun _ _ _=>rfl,fun k x q e m=>?_,fun b i v hv=>?_⟩,fun q hq=>?_⟩
  ·exact (hd.obj k x e (by rw [<- hloc]; exact m)).keep hs (Nat.le_refl _) (fun _ _=>rfl) (fun _ _ _ _ _ _ _ _=>rfl)
  ·exact hd.inj k k' x x' q q' e e' (by rw [<- hloc]; exact m) (by rw [<- hloc]; exact m') hb
  ·exact hd.nat k n A m cc k' x' q' e (by rw [<- hloc]; exact m1) e' (by rw [<- hloc]; exact m2)
  ·subst e1
   simp only at hv
   split at hv
   ·next e =>
    subst e
    have hlt:=(Array.getElem?_eq_some_iff.1 h2).1
    refine ⟨hlt,hv,fun k x q e m eb=>?_⟩
    exact (hsub k x e).2 (hA.rel.inj k o x _ q p (hsub k x e).1 ho m h1 eb)
   obtain ⟨z1,z2,z3⟩:=hd.fz b i v hv
   exact ⟨z1,z2,fun k x q e m=>z3 k x q e m⟩
  ·rw [hloc]; exact hA.fresh k hk
  ·exact .inr ⟨k,x,q,(hsub k x e).1,by rw [<- hloc]; exact m,rfl⟩
  ·subst e1
   simp only at hv
   split at hv
   ·next e=>exact .inr (.inr (.inl ⟨o,_,p,ho,h1,e.symm⟩))
   exact .inl hv
  rw [hloc,h1] at hq
  cases hq
  -- the cells behind the base
  have key:∀ (k:Nat) (l:List AV) (off:Nat),l.length = k->(∀ i x,l[i]? = some x->c[off + i]? = some x)->∃ m,ao μ l m/\∀ i v,m[i]? = some v->cs[p.base + off + i]? = some v:=by
   intro k
   induction k with
   | zero=>intro l off hl _; exact ⟨[],by rw [List.eq_nil_of_length_eq_zero hl]; exact ao.nil_,by simp⟩
   | succ k ih =>
    intro l off hl hx
    cases l with
    | nil=>simp at hl
    | cons y l =>
     obtain ⟨z,hz,hv⟩:=h5 off y (hx 0 y rfl)
     obtain ⟨m,g1,g2⟩:=ih l (off + 1) (by simpa using hl) (fun i x hi=>by rw [show off + 1 + i = off + (i + 1) by omega]; exact hx (i + 1) x (by simpa using hi))
     refine ⟨z :: m,ao.cons hv g1,fun i v hi=>?_⟩
     cases i with
     | zero=>simp at hi; subst hi; exact hz
     | succ i=>have:=g2 i v (by simpa using hi); rw [show p.base + off + (i + 1) = p.base + (off + 1) + i by omega]; exact this
  obtain ⟨m,g1,g2⟩:=key c.length c 0 rfl (fun i x h=>by rw [Nat.zero_add]; exact h)
  refine ⟨m,fun i v hi=>?_,eF (μ:=μ) (μ':=μ1.blind) (fun b i v hv=>hs.fz b i v hv) c hc g1⟩
  subst e1
  simp only [if_true]
  have hc:=g2 i v hi
  rw [Nat.add_zero] at hc
  exact fI (by simpa [World.cell?,h2] using hc) (ao.noM g1 v (List.mem_of_getElem? hi))
theorem Jd.freeze (rl:List Nat) {o:Nat} {cl:List AV} {t:TypeId} {op:Bool} (ho:s.h.get o = some (.cells cl t op))(hc:aE cl = true)(h:DH (Ml o cl) rl fr (s.drop o) fr2 s2) (k:Jd P c fr2 s2 Q):Jd P c fr s Q :=
 Jd.swap (fun _ _ _ _ hA=>let ⟨_,h1,h2,h3⟩:=hA.freeze ho hc; let ⟨h4,h5⟩:=h.at_ (fun _ h=>absurd h (Nat.not_lt_zero _)) h1 h3; ⟨_,h4,h2.trans h5⟩) k
end
end
section
def iJ (gl:List (Option Tmp)) (T:Tr AV):Option (Nat × Bool)->Option Bool
 | none=>some true
 | some (j,want)=>match gl[j]? with
  | some (some t)=>match T.get t with
   | some (.b x)=>some (x == want)
   | some (.tup [])=>some false
   | _=>none
  | _=>none
theorem qt (all:List Oper) (T:Tr AV) (o:Oper):fu all T o = iJ (all.map (·.dst)) T o.guard:=by
 unfold fu iJ
 cases o.guard with
 | none=>rfl
 | some g =>
  obtain ⟨j,want⟩:=g
  simp only [List.getElem?_map]
  cases h:all[j]? with
  | none=>simp
  | some oj =>
   cases hd:oj.dst with
   | none=>simp [hd]
   | some t=>simp [hd]; rfl
def nc (n:Nat) (d:Option Tmp) (v:AV) (T:Tr AV) (K:Tr AV->Prop):Prop:=match d with
 | none=>K T
 | some d=>d < n/\K (T.set d (some v))
theorem kW {n:Nat} {d:Option Tmp} {v:AV} {T:Tr AV} {K:Tr AV->Prop} (h:nc n d v T K):∃ T',jM T n d v = some T'/\K T':=by
 cases d with
 | none=>exact ⟨T,rfl,h⟩
 | some d=>exact ⟨_,by simp only [jM]; rw [show Nat.blt d n = true from by rw [Nat.blt_eq]; exact h.1]; rfl,h.2⟩
section
variable (P:Program) (X:dY) (E:Ev) (n:Nat) (gl:List (Option Tmp))
def cZ (ρ:Operand->Option AV) (s:St) (o:Op) (K:AV->St->Prop):Prop:=match f5 P X E ρ s o with
 | some (v,s')=>K v s'
 | none=>False
def iH:List Oper->Tr AV->St->(Tr AV->St->Prop)->Prop
 | [],T,s,K=>K T s
 | o :: os,T,s,K=>match iJ gl T o.guard with
  | some true=>cZ P X E (fZ T) s o.op fun v s'=>nc n o.dst v T fun T'=>iH os T' s' K
  | some false=>nc n o.dst (.tup []) T fun T'=>iH os T' s K
  | none=>False
def yz (ρ:Operand->Option AV) (s:St):Op->Option (List Nat)
 | .load _ a=>match ρ a with
  | some (.ptr o _)=>(s.h.get o).map fun _=>[o]
  | some (.vp _ _)=>some []
  | _=>none
 | .lookup _ x _ _=>match ρ x with
  | some (.mp o)=>(s.h.get o).map fun _=>[o]
  | some .mnil=>some []
  | some (.fm _ _)=>some []
  | _=>none
 | .entry it=>match ρ it with
  | some (.ptr o 0)=>match s.h.get o with
   | some (.walk [_,_] _ _)=>some [o]
   | some (.iter (some m) _ _ _)=>(s.h.get m).map fun _=>[o,m]
   | _=>none
  | _=>none
 | .call { callee:=.builtin .len,args,.. }=>match args.toList with
  | [x]=>match ρ x with
   | some (.mp o)=>(s.h.get o).map fun _=>[o]
   | _=>some []
  | _=>none
 | _=>none
def eg (ns:List Nat) (s s':St):Prop:=∀ k ∈ ns,s'.h.get k = s.h.get k
def sC (ex:List (Nat × Nat)) (i j:Nat):Prop:=ex.contains (i,j) = true
def Dz (ex:List (Nat × Nat)):Nat->List Oper->Tr AV->St->List (Nat × List Nat)->List (Nat × St × St)->(Tr AV->St->Prop)->Prop
 | _,[],T,s,_,_,K=>K T s
 | i,o :: os,T,s,R,W,K=>match iJ gl T o.guard with
  | some true=>cZ P X E (fZ T) s o.op fun v s'=>nc n o.dst v T fun T' =>
   match bE o.op with
   | true=>match yz (fZ T) s o.op with
    | some ns=>(∀ e ∈ W,sC ex i e.1 ∨ eg ns e.2.1 e.2.2)/\Dz ex (i + 1) os T' s' ((i,ns) :: R) W K
    | none=>False
   | false=>match bJ o with
    | true=>(∀ r ∈ R,sC ex i r.1 ∨ eg r.2 s s')/\Dz ex (i + 1) os T' s' R ((i,s,s') :: W) K
    | false=>Dz ex (i + 1) os T' s' R W K
  | some false=>nc n o.dst (.tup []) T fun T'=>Dz ex (i + 1) os T' s R W K
  | none=>False
end
section
variable {P:Program} {X:dY} {E:Ev} {n:Nat}
theorem ux {all:List Oper}:∀ {os:List Oper} {T:Tr AV} {s:St} {K:Tr AV->St->Prop},iH P X E n (all.map (·.dst)) os T s K->∃ T' s',jN P X E n all os T s = some (T',s')/\K T' s'
 | [],T,s,K,h=>⟨T,s,rfl,h⟩
 | o :: os,T,s,K,h=>by
  simp only [iH] at h
  simp only [jN,qt]
  split at h
  ·next hw =>
   rw [hw]
   unfold cZ at h
   split at h
   ·next v s1 hop =>
    obtain ⟨T',h1,h2⟩:=kW h
    obtain ⟨T2,s2,h3,h4⟩:=ux h2
    exact ⟨T2,s2,by simp only [hop,h1]; exact h3,h4⟩
   exact h.elim
  ·next hw =>
   rw [hw]
   obtain ⟨T',h1,h2⟩:=kW h
   obtain ⟨T2,s2,h3,h4⟩:=ux h2
   exact ⟨T2,s2,by simp only [h1]; exact h3,h4⟩
  exact h.elim

theorem EF {ρ:Operand->Option AV} {s s':St} {o:Op} {ns:List Nat} (h:yz ρ s o = some ns)(hs:eg ns s s'):dL P ρ s' o = dL P ρ s o:=by
 cases o <;> simp only [yz] at h <;> try cases h
 case load t a =>
  simp only [dL]
  split at h
  ·next k f ha=>simp only [Option.map_eq_some_iff] at h; obtain ⟨_,_,rfl⟩:=h; rw [ha]; simp only [Option.bind_some,ig]; rw [hs k (by simp)]
  ·next c f ha=>rw [ha]; rfl
  cases h
 case lookup t x k ok =>
  simp only [dL]
  split at h
  ·next o ha =>
   simp only [Option.map_eq_some_iff] at h
   obtain ⟨_,_,rfl⟩:=h
   rw [ha]
   cases ρ k with
   | none=>rfl
   | some kv=>simp only [nC]; rw [hs o (by simp)]
  ·next ha =>
   rw [ha]
   cases ρ k <;> rfl
  ·next ha =>
   rw [ha]
   cases ρ k <;> rfl
  cases h
 case entry it =>
  simp only [dL]
  split at h
  ·next o ha =>
   split at h
   ·next ho=>cases h; rw [ha]; simp only; rw [hs o (by simp),ho]
   ·next m _ _ _ ho=>simp only [Option.map_eq_some_iff] at h; obtain ⟨_,_,rfl⟩:=h; rw [ha]; simp only; rw [hs o (by simp),ho]; simp only; rw [hs m (by simp)]
   cases h
  cases h
 case call c =>
  obtain ⟨callee,args,ats⟩:=c
  cases callee with
  | builtin b =>
   cases b <;> simp only [yz] at h <;> try cases h
   simp only [dL]
   split at h
   ·next x hx =>
    rw [hx]
    cases hat:ats.toList with
    | nil=>rfl
    | cons t tl =>
     cases tl with
     | cons _ _=>rfl
     | nil =>
      simp only
      cases hu:P.underlying t with
      | none=>rfl
      | some d =>
       cases d <;> simp only
       case map =>
        split at h
        ·next o ha=>simp only [Option.map_eq_some_iff] at h; obtain ⟨_,_,rfl⟩:=h; rw [ha]; simp only [IG]; rw [hs o (by simp)]
        next hno =>
        cases hr:ρ x with
        | none=>rfl
        | some y=>cases y <;> first | rfl | exact absurd hr (hno _)
   cases h
  | _=>simp [yz] at h
theorem EG {ρ:Operand->Option AV} {s:St} {o:Op} {ns:List Nat} (h:yz ρ s o = some ns):∀ k ∈ ns,s.h.get k ≠ none:=by
 have one:∀ {o:Nat} {ns:List Nat},(s.h.get o).map (fun _=>[o]) = some ns->∀ k ∈ ns,s.h.get k ≠ none:=by
  intro o ns h k hk
  simp only [Option.map_eq_some_iff] at h
  obtain ⟨x,hx,rfl⟩:=h
  simp only [List.mem_singleton] at hk
  subst hk
  rw [hx]; simp
 cases o <;> simp only [yz] at h <;> try cases h
 case load t a =>
  split at h
  ·exact one h
  ·cases h; intro k hk; cases hk
  cases h
 case lookup t x k ok =>
  split at h
  ·exact one h
  ·cases h; intro k hk; cases hk
  ·cases h; intro k hk; cases hk
  cases h
 case entry it =>
  split at h
  ·next o ha =>
   split at h
   ·next ho =>
    cases h
    intro k hk
    simp only [List.mem_singleton] at hk
    subst hk
    rw [ho]; simp
   ·next m _ _ _ ho =>
    simp only [Option.map_eq_some_iff] at h
    obtain ⟨x,hx,rfl⟩:=h
    intro k hk
    simp only [List.mem_cons,List.not_mem_nil,or_false] at hk
    rcases hk with rfl | rfl
    ·rw [ho]; simp
    rw [hx]; simp
   cases h
  cases h
 case call c =>
  obtain ⟨callee,args,ats⟩:=c
  cases callee with
  | builtin b =>
   cases b <;> simp only [yz] at h <;> try cases h
   split at h
   ·split at h
    ·exact one h
    cases h; intro k hk; cases hk
   cases h
  | _=>simp [yz] at h

theorem za {op:Op} (h:bE op = true):bu op = .rd:=by
 cases op <;> first | rfl | (simp [bE] at h; done) | skip
 case call c =>
  obtain ⟨callee,_,_⟩:=c
  cases callee with
  | builtin b=>cases b <;> first | rfl | (simp [bE] at h; done)
  | _=>simp [bE] at h
structure NN (P:Program) (X:dY) (E:Ev) (n:Nat) (all:List Oper) (ex:List (Nat × Nat)) (i:Nat) (os:List Oper) (V:Nat->Option AV) (TT:Nat->Tr AV) (SS:Nat->St) (R:List (Nat × List Nat)) (W:List (Nat × St × St)):Prop where
 rd:∀ a o v,os[a]? = some o->V a = some v->bE o.op = true->∃ ns,yz (fZ (TT a)) (SS a) o.op = some ns/\(∀ e ∈ W,sC ex (i + a) e.1 ∨ eg ns e.2.1 e.2.2) /\
  ∀ b ob u,os[b]? = some ob->V b = some u->bJ ob = true->(b < a->sC ex (i + a) (i + b) ∨ eg ns (SS b) (SS (b + 1)))/\(a < b->sC ex (i + b) (i + a) ∨ eg ns (SS b) (SS (b + 1)))
 ef:∀ b ob u,os[b]? = some ob->V b = some u->bJ ob = true->∀ r ∈ R,sC ex (i + b) r.1 ∨ eg r.2 (SS b) (SS (b + 1))
theorem qY {o:Oper} (h:bE o.op = true):bJ o = false:=by
 obtain ⟨_,op,_,_,_,_⟩:=o
 unfold bJ
 cases op <;> first | rfl | (simp [bE] at h; done) | skip
 case call c =>
  obtain ⟨callee,_,_⟩:=c
  cases callee with
  | builtin b=>cases b <;> first | rfl | (simp [bE] at h; done)
  | _=>simp [bE] at h
theorem z6 {all:List Oper} {ex:List (Nat × Nat)}:∀ (os:List Oper) (i:Nat) (T:Tr AV) (s:St) (R:List (Nat × List Nat)) (W:List (Nat × St × St)) {K:Tr AV->St->Prop},Dz P X E n (all.map (·.dst)) ex i os T s R W K ->
  ∃ V TT SS,TT 0 = T/\SS 0 = s/\K (TT os.length) (SS os.length)/\iP P X E n all os T s = some (dQ.shape os V TT SS,TT os.length,SS os.length)/\dQ P X E n all os V TT SS/\NN P X E n all ex i os V TT SS R W
 | [],i,T,s,R,W,K,h=>⟨fun _=>none,fun _=>T,fun _=>s,rfl,rfl,h,rfl,⟨fun i o ho=>by simp at ho⟩,⟨fun a o v h=>by simp at h,fun b o v h=>by simp at h⟩⟩
 | o :: os,i,T,s,R,W,K,h=>by
  -- one operation more
  have glue:∀ (v0:Option AV) (T1:Tr AV) (s1:St) (R1:List (Nat × List Nat)) (W1:List (Nat × St × St)),Dz P X E n (all.map (·.dst)) ex (i + 1) os T1 s1 R1 W1 K ->
    ((∃ v,v0 = some v/\fu all T o = some true/\f5 P X E (fZ T) s o.op = some (v,s1)/\jM T n o.dst v = some T1) ∨ (v0 = none/\fu all T o = some false/\s1 = s/\jM T n o.dst (.tup []) = some T1)) ->
    (v0 ≠ none->bE o.op = true->∃ ns,yz (fZ T) s o.op = some ns/\(∀ e ∈ W,sC ex i e.1 ∨ eg ns e.2.1 e.2.2)/\R1 = (i,ns) :: R/\W1 = W) ->
    (v0 ≠ none->bJ o = true->(∀ r ∈ R,sC ex i r.1 ∨ eg r.2 s s1)/\R1 = R/\W1 = (i,s,s1) :: W) ->
    (∀ r ∈ R,r ∈ R1)->(∀ e ∈ W,e ∈ W1) ->
    ∃ V TT SS,TT 0 = T/\SS 0 = s/\K (TT (o :: os).length) (SS (o :: os).length)/\iP P X E n all (o :: os) T s = some (dQ.shape (o :: os) V TT SS,TT (o :: os).length,SS (o :: os).length)/\dQ P X E n all (o :: os) V TT SS/\NN P X E n all ex i (o :: os) V TT SS R W:=by
   intro v0 T1 s1 R1 W1 hk hst hrd hef hR hW
   obtain ⟨V,TT,SS,g1,g2,g3,g4,g5,g6⟩:=z6 os (i + 1) T1 s1 R1 W1 hk
   refine ⟨fun i=>match i with | 0=>v0 | i + 1=>V i,fun i=>match i with | 0=>T | i + 1=>TT i,fun i=>match i with | 0=>s | i + 1=>SS i,rfl,rfl,g3,?_,⟨fun j oj hj=>?_⟩,⟨fun a oa va ha hva hla=>?_,fun b ob u hb hu he r hr=>?_⟩⟩
   ·rw [qJ]
    simp only [iP]
    rcases hst with ⟨v,rfl,hw,hop,hput⟩ | ⟨rfl,hw,rfl,hput⟩
    ·simp only [hw,hop,hput,g4]; rfl
    simp only [hw,hput,g4]; rfl
   ·cases j with
    | zero=>simp at hj; subst hj; simp only [g1,g2]; exact hst
    | succ j=>exact g5.step j oj (by simpa using hj)
   ·cases a with
    | zero =>
     simp at ha
     subst ha
     obtain ⟨ns,h1,h2,h3,h4⟩:=hrd (by simp only at hva; rw [hva]; simp) hla
     refine ⟨ns,h1,h2,fun b ob u hb hu he=>⟨fun h=>by omega,fun _=>?_⟩⟩
     cases b with
     | zero=>simp at hb; subst hb; rw [qY hla] at he; cases he
     | succ b =>
      have:=g6.ef b ob u (by simpa using hb) hu he (i,ns) (by rw [h3]; simp)
      rw [show i + (b + 1) = i + 1 + b by omega]
      exact this
    | succ a =>
     obtain ⟨ns,h1,h2,h3⟩:=g6.rd a oa va (by simpa using ha) hva hla
     refine ⟨ns,h1,fun e he=>by rw [show i + (a + 1) = i + 1 + a by omega]; exact h2 e (hW e he),fun b ob u hb hu he=>?_⟩
     cases b with
     | zero =>
      simp at hb
      subst hb
      refine ⟨fun _=>?_,fun h=>by omega⟩
      obtain ⟨_,_,h5⟩:=hef (by simp only at hu; rw [hu]; simp) he
      have:=h2 (i,s,s1) (by rw [h5]; simp)
      simp only at this
      rw [show i + (a + 1) = i + 1 + a by omega,Nat.add_zero]
      simp only [Nat.zero_add,g2]
      exact this
     | succ b =>
      obtain ⟨h4,h5⟩:=h3 b ob u (by simpa using hb) hu he
      refine ⟨fun h=>?_,fun h=>?_⟩
      ·have:=h4 (by omega)
       rw [show i + (a + 1) = i + 1 + a by omega,show i + (b + 1) = i + 1 + b by omega]
       exact this
      have:=h5 (by omega)
      rw [show i + (a + 1) = i + 1 + a by omega,show i + (b + 1) = i + 1 + b by omega]
      exact this
   cases b with
   | zero =>
    simp at hb
    subst hb
    obtain ⟨h1,_,_⟩:=hef (by simp only at hu; rw [hu]; simp) he
    have:=h1 r hr
    rw [Nat.add_zero]
    simp only [Nat.zero_add,g2]
    exact this
   | succ b =>
    have:=g6.ef b ob u (by simpa using hb) hu he r (hR r hr)
    rw [show i + (b + 1) = i + 1 + b by omega]
    exact this
  simp only [Dz] at h
  split at h
  ·next hw =>
   rw [<- qt] at hw
   unfold cZ at h
   split at h
   ·next v s1 hop =>
    obtain ⟨T1,h1,h2⟩:=kW h
    split at h2
    ·next hl =>
     split at h2
     ·next ns hns=>exact glue (some v) T1 s1 _ _ h2.2 (.inl ⟨v,rfl,hw,hop,h1⟩) (fun _ _=>⟨ns,hns,h2.1,rfl,rfl⟩) (fun _ he=>by rw [qY hl] at he; cases he) (fun r hr=>List.mem_cons_of_mem _ hr) (fun e he=>he)
     exact h2.elim
    next hl =>
    split at h2
    ·next he=>exact glue (some v) T1 s1 _ _ h2.2 (.inl ⟨v,rfl,hw,hop,h1⟩) (fun _ h=>by rw [hl] at h; cases h) (fun _ _=>⟨h2.1,rfl,rfl⟩) (fun r hr=>hr) (fun e he=>List.mem_cons_of_mem _ he)
    next he=>exact glue (some v) T1 s1 _ _ h2 (.inl ⟨v,rfl,hw,hop,h1⟩) (fun _ h=>by rw [hl] at h; cases h) (fun _ h=>by rw [he] at h; cases h) (fun r hr=>hr) (fun e he=>he)
   exact h.elim
  ·next hw =>
   rw [<- qt] at hw
   obtain ⟨T1,h1,h2⟩:=kW h
   exact glue none T1 s _ _ h2 (.inr ⟨rfl,hw,rfl,h1⟩) (fun h=>absurd rfl h) (fun h=>absurd rfl h) (fun r hr=>hr) (fun e he=>he)
  exact h.elim
end
end
end Go.Proofs.YtkdhppimhdemjaaGreat
