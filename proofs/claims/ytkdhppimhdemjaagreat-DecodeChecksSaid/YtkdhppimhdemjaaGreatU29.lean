/- Lemmas on the way: Jw1, Jx1, Jo1, Gm1, Gm2, Cp1, Gm3, Gm4, Gm5, Gm6. -/
import Derived.Test.YtkdhppimhdemjaaGreatU28
import Derived.Deep.RegionLaw
set_option linter.all false
set_option maxRecDepth 1000000
set_option maxHeartbeats 32000000
namespace Go.Proofs.YtkdhppimhdemjaaGreat
open Go.RowKit
section
section
variable {α:Type} {f:α->List AV} {z:Nat}
theorem eS (hz:∀ x,(f x).length = z):∀ l:List α,(l.flatMap f).length = l.length * z
 | []=>by simp
 | x :: l=>by rw [List.flatMap_cons,List.length_append,hz,eS hz l,List.length_cons,Nat.add_mul]; omega
theorem fJ (hz:∀ x,(f x).length = z):∀ (l:List α) (i j:Nat),j < z->(l.flatMap f)[i * z + j]? = (l[i]?).bind fun x=>(f x)[j]?
 | [],i,j,_=>by simp
 | x :: l,0,j,hj=>by
  rw [List.flatMap_cons,List.getElem?_append_left (by rw [hz]; omega)]
  simp
 | x :: l,i + 1,j,hj=>by
  rw [List.flatMap_cons,List.getElem?_append_right (by rw [hz,Nat.add_mul]; omega),hz,show (i + 1) * z + j - z = i * z + j by rw [Nat.add_mul]; omega,fJ hz l i j hj]
  simp
theorem qi {β:Type}:∀ {n:Nat} {l:List β} {off:Nat} {r:List β},r.length = n->(∀ i,i < n->l[off + i]? = r[i]?)->getR l off n = some r
 | 0,l,off,r,h,_=>by rw [List.eq_nil_of_length_eq_zero h]; rfl
 | n + 1,l,off,r,h,k=>by
  cases r with
  | nil=>simp at h
  | cons x r =>
   have h0:=k 0 (by omega)
   simp only [Nat.add_zero,List.getElem?_cons_zero] at h0
   rw [getR,h0]
   simp only
   rw [qi (r:=r) (by simpa using h) (fun i hi=>by have:=k (i + 1) (by omega); rw [List.getElem?_cons_succ] at this; rw [<- this]; congr 1; omega)]
   rfl
theorem fg (hz:∀ x,(f x).length = z) {l:List α} {i:Nat} {x:α} (hx:l[i]? = some x):getR (l.flatMap f) (i * z) z = some (f x) :=
 qi (hz x) fun j hj=>by rw [fJ hz l i j hj,hx]; rfl
theorem pO (hz:∀ x,(f x).length = z) {l:List α} {i:Nat} {x:α} (hx:l[i]? = some x) {o n:Nat} {r:List AV} (ho:o + n <= z)(hr:getR (f x) o n = some r):getR (l.flatMap f) (i * z + o) n = some r:=by
 obtain ⟨h1,h2⟩:=eR hr
 refine qi h1 fun j hj=>?_
 rw [Nat.add_assoc,fJ hz l i (o + j) (by omega),hx,Option.bind_some,h2 j hj]
theorem u8 (hz:∀ x,(f x).length = z) {l:List α} {i:Nat} (hi:i < l.length) (y:α):cY (l.flatMap f) (i * z) (f y) = (l.set i y).flatMap f:=by
 apply List.ext_getElem?
 intro k
 rw [iZ,eS hz,hz]
 rcases Nat.eq_zero_or_pos z with h0 | h0
 ·have e:∀ l:List α,l.flatMap f = []:=fun l=>List.eq_nil_of_length_eq_zero (by rw [eS hz,h0]; simp)
  rw [e,e,if_neg (by omega)]
 have hk:=Nat.div_add_mod k z
 have hm:=Nat.mod_lt k h0
 have key:∀ l:List α,(l.flatMap f)[k]? = (l[k / z]?).bind fun x=>(f x)[k % z]?:=fun l=>by
  have:=fJ hz l (k / z) (k % z) hm
  rwa [show k / z * z + k % z = k by rw [Nat.mul_comm]; exact hk] at this
 rw [key,key,List.getElem?_set]
 by_cases e:k / z = i
 ·subst e
  have hkz:k / z * z <= k:=Nat.div_mul_le_self k z
  have hkk:k < k / z * z + z:=by rw [Nat.mul_comm]; omega
  have:k / z * z + z <= l.length * z:=by rw [<- Nat.succ_mul]; exact Nat.mul_le_mul_right _ hi
  rw [if_pos ⟨hkz,hkk,by omega⟩,if_pos rfl,if_pos hi,Option.bind_some]
  congr 1
  rw [Nat.mul_comm] at hkz ⊢
  omega
 have:¬ (i * z <= k/\k < i * z + z):=fun h=>e (by
  apply Nat.div_eq_of_lt_le
  ·exact h.1
  ·rw [Nat.succ_mul]; exact h.2)
 rw [if_neg (fun h=>this ⟨h.1,h.2.1⟩),if_neg (Ne.symm e)]
theorem nK (hz:∀ x,(f x).all flat = true) (l:List α):(l.flatMap f).all flat = true:=by
 rw [List.all_eq_true]
 intro y hy
 obtain ⟨x,_,hy⟩:=List.mem_flatMap.1 hy
 exact List.all_eq_true.1 (hz x) y hy
end
def fr (qs:List Rat):List AV:=qs.flatMap gN
theorem gM (q:Rat):(gN q).length = 3:=rfl
theorem kA (q:Rat):(gN q).all flat = true:=rfl
theorem Fv (qs:List Rat):(fr qs).length = qs.length * 3:=eS gM qs
theorem Fu {qs:List Rat} {i:Nat} (h:i < qs.length) (q:Rat):cY (fr qs) (i * 3) (gN q) = fr (qs.set i q):=u8 gM h q
theorem Bh (qs:List Rat):(fr qs).all flat = true:=nK kA qs
def bs (l:List Bool):List AV:=l.map .b
theorem Gc (l:List Bool) (i:Nat) (b:Bool):cY (bs l) i [.b b] = bs (l.set i b):=by simp [bs,cY,List.map_set]
theorem Bu (l:List Bool):(bs l).all flat = true:=by simp [bs,flat]
def is (l:List Int):List AV:=l.map (.i .i64)
theorem uX {l:List Int} {i:Nat} {z:Int} (h:l[i]? = some z):(is l)[i]? = some (.i .i64 z):=by simp [is,h]
theorem Fg (l:List Int) (i:Nat) (z:Int):cY (is l) i [.i .i64 z] = is (l.set i z):=by simp [is,cY,List.map_set]
theorem uY (l:List Int):(is l).all flat = true:=by simp [is,flat]
theorem xX (q:Rat):(fq q).cells = gN q:=rfl
theorem Jp {x y:AV} {q r:Rat} (hq:jp x = some q)(hr:jp y = some r):sp [x,y] = some (.i .i64 (ce (q - r))):=by simp only [sp,hq,hr]
theorem Eo {x:AV} {q:Rat} (hq:jp x = some q):iU [x] = some (.i .i64 (ce q)):=by simp only [iU,hq,Option.map_some]
theorem Lf {z:Int} (h:0 <= z) (h':z < 9223372036854775808):DC [.i .i64 z] = some (fq (z:Rat)):=by
 obtain ⟨n,rfl⟩:∃ n:Nat,z = (n:Int):=⟨z.toNat,by omega⟩
 show cond (Nat.blt n 9223372036854775808) (some (fq (n:Rat))) none = _
 rw [eE (by omega)]
 rfl
theorem eY {g:List AV->Option AV} {args:List AV} {v:AV} (h:g args = some v) (s:St):ae g args s = some (v,s):=by unfold ae; rw [h]; rfl
theorem GL (q:Rat):AV.agg (gN q) = fq q:=rfl
theorem Gb (l:List Bool) (i:Nat) (b:Bool):(bs l).set i (.b b) = bs (l.set i b):=by simp [bs,List.map_set]
theorem Ff (l:List Int) (i:Nat) (z:Int):(is l).set i (.i .i64 z) = is (l.set i z):=by simp [is,List.map_set]
theorem fw:type_of% (And.intro @GL (And.intro @xX (And.intro @gM (And.intro @kA (And.intro @Fu (And.intro @Bh (And.intro @Gc (And.intro @Bu (And.intro @Fg (And.intro @Gb (And.intro @Ff @uY))))))))))):=(And.intro @GL (And.intro @xX (And.intro @gM (And.intro @kA (And.intro @Fu (And.intro @Bh (And.intro @Gc (And.intro @Bu (And.intro @Fg (And.intro @Gb (And.intro @Ff @uY)))))))))))
end
section
theorem Ej:type_of% (And.intro @OW (And.intro @ev (And.intro @OX (And.intro @fw (And.intro @OP (And.intro @Nat.add_zero (And.intro @Nat.mul_one (And.intro @Nat.zero_mul (And.intro @Int.toNat_zero (And.intro @true_and (And.intro @and_true (And.intro @or_true (And.intro @true_or (And.intro @and_self (And.intro @or_false @false_or))))))))))))))):=And.intro @OW (And.intro @ev (And.intro @OX (And.intro @fw (And.intro @OP (And.intro @Nat.add_zero (And.intro @Nat.mul_one (And.intro @Nat.zero_mul (And.intro @Int.toNat_zero (And.intro @true_and (And.intro @and_true (And.intro @or_true (And.intro @true_or (And.intro @and_self (And.intro @or_false @false_or))))))))))))))
@[congr] theorem ifK_congr {o o':Option Bool} (A B:Prop) (h:o8 o = o'):IT o A B = IT o' A B:=by rw [<- h]; rfl
@[congr] theorem bindK_congr {α:Type} {o o':Option α} (k:α->Prop) (h:o8 o = o'):aw o k = aw o' k:=by rw [<- h]; rfl
@[congr] theorem boolK_congr {v v':AV} (k:Bool->Prop) (h:o8 v = v'):Bv v k = Bv v' k:=by rw [<- h]; rfl
@[congr] theorem opK_congr (P:Program) (X:dY) (E:Ev) (ρ:Operand->Option AV) {s s':St} (o:Op) (K:AV->St->Prop) (h:o8 s = s'):cZ P X E ρ s o K = cZ P X E ρ s' o K:=by rw [<- h]; rfl
@[congr] theorem nxtD_congr (ex:List (Nat × Nat)) (i:Nat) (op:Op) (ρ:Operand->Option AV) {s s' t t':St} {R R':List (Nat × List Nat)} {W W':List (Nat × St × St)} (k:List (Nat × List Nat)->List (Nat × St × St)->Prop) (h1:o8 s = s') (h2:t = t') (h3:R = R') (h4:W = W'):dW ex i op ρ s t R W k = dW ex i op ρ s' t' R' W' k:=by rw [<- h1,h2,h3,h4]; rfl
@[congr] theorem wpO_congr (P:Program) (X:dY) (E:Ev) (n:Nat) (gl:List (Option Tmp)) (l:List Oper) {T T':Tr AV} {s s':St} (K:Tr AV->St->Prop) (h1:o8 T = T') (h2:s = s'):iH P X E n gl l T s K = iH P X E n gl l T' s' K:=by rw [<- h1,h2]; rfl
@[congr] theorem wpE_congr (P:Program) (X:dY) (E:Ev) (n:Nat) (gl:List (Option Tmp)) (ex:List (Nat × Nat)) (i:Nat) (l:List Oper) {T T':Tr AV} {s s':St} {R R':List (Nat × List Nat)} {W W':List (Nat × St × St)} (K:Tr AV->St->Prop) (h1:o8 T = T') (h2:s = s') (h3:R = R') (h4:W = W'):r5 P X E n gl ex i l T s R W K = r5 P X E n gl ex i l T' s' R' W' K:=by rw [<- h1,h2,h3,h4]; rfl
mutual
theorem qN (ρ:Nat->Nat):∀ x:AV,bare x = true->kT ρ x = x
 | .b _,_ | .i _ _,_ | .pnil,_ | .snil,_ | .num _,_ | .vw _ _,_ | .vp _ _,_ | .fm _ _,_ | .mnil,_ | .fnil,_ | .inil,_=>rfl
 | .ptr _ _,h | .sl _ _ _ _,h | .nat _,h | .mp _,h | .yl _,h=>by simp [bare] at h
 | .fn f a b,h=>by simp only [bare,Bool.and_eq_true] at h; simp only [kT,eP ρ a h.1,eP ρ b h.2]
 | .ifc t v,h=>by simp only [bare] at h; simp only [kT,qN ρ v h]
 | .agg l,h=>by simp only [bare] at h; simp only [kT,eP ρ l h]
 | .tup l,h=>by simp only [bare] at h; simp only [kT,eP ρ l h]
theorem eP (ρ:Nat->Nat):∀ l:List AV,aE l = true->fT ρ l = l
 | [],_=>rfl
 | x :: l,h=>by simp only [aE,Bool.and_eq_true] at h; simp only [fT,qN ρ x h.1,eP ρ l h.2]
end
theorem cR:∀ l m:List AV,aE (l ++ m) = (aE l && aE m)
 | [],m=>by simp [aE]
 | x :: l,m=>by simp only [List.cons_append,aE,cR l m,Bool.and_assoc]
theorem sq {α:Type} {f:α->List AV} (h:∀ x,aE (f x) = true):∀ l:List α,aE (l.flatMap f) = true
 | []=>rfl
 | x :: l=>by rw [List.flatMap_cons,cR,h x,sq h l]; rfl
theorem uj {α:Type} {f:α->AV} (h:∀ x,bare (f x) = true):∀ l:List α,aE (l.map f) = true
 | []=>rfl
 | x :: l=>by simp only [List.map_cons,aE,h x,uj h l]; rfl
theorem bU.same {H:Mu->Prop} {ρ:Nat->Nat} {c:List AV} {t:TypeId} {op:Bool} (h:aE c = true):bU H ρ (.cells c t op) (.cells c t op):=bU.cells (eP ρ c h).symm
theorem Wk.bare {H:Mu->Prop} {ρ:Nat->Nat} {x:AV} (h:bare x = true):Wk H x (kT ρ x):=by rw [qN ρ x h]; exact Wk.refl H x
theorem Wk.i64 {H:Mu->Prop} {ρ:Nat->Nat} {a b:Int} (h:a = b):Wk H (.i .i64 a) (kT ρ (.i .i64 b)):=by rw [h]; exact Wk.refl H _
def sA (H:Mu->Prop) (ρ:Nat->Nat) (l:List (Nat × AV)):List (Nat × AV)->Prop
 | []=>True
 | p :: l2=>(∃ x,fo l p.1 = some x/\Wk H x (kT ρ p.2))/\sA H ρ l l2
theorem sA.at_ {H:Mu->Prop} {ρ:Nat->Nat} {l:List (Nat × AV)}:∀ {l2:List (Nat × AV)},sA H ρ l l2->∀ t x2,fo l2 t = some x2->∃ x,fo l t = some x/\Wk H x (kT ρ x2)
 | [],_,t,x2,e=>by simp [fo] at e
 | p :: l2,h,t,x2,e=>by
  rw [show fo (p :: l2) t = _ from fH p.1 p.2 l2 t] at e
  split at e
  ·next e2=>subst e2; cases e; exact h.1
  exact sA.at_ h.2 t x2 e
def sB (H:Mu->Prop) (ρ:Nat->Nat) (nx2:Nat) (l:List (Nat × Option AO)):List (Nat × Option AO)->Prop
 | []=>True
 | p :: l2=>(p.1 < nx2/\∃ x2 x,p.2 = some x2/\lD l (ρ p.1) = some x/\bU H ρ x x2)/\sB H ρ nx2 l l2
theorem sB.at_ {H:Mu->Prop} {ρ:Nat->Nat} {nx2:Nat} {l:List (Nat × Option AO)}:∀ {l2:List (Nat × Option AO)},sB H ρ nx2 l l2->∀ k x2,lD l2 k = some x2->k < nx2/\∃ x,lD l (ρ k) = some x/\bU H ρ x x2
 | [],_,t,x2,e=>by cases e
 | p :: l2,h,t,x2,e=>by
  rw [show lD (p :: l2) t = _ from fG p.1 p.2 l2 t] at e
  split at e
  ·next e2 =>
   subst e2
   obtain ⟨⟨h1,y2,y,h2,h3,h4⟩,_⟩:=h
   rw [h2] at e
   cases e
   exact ⟨h1,y,h3,h4⟩
  exact sB.at_ h.2 t x2 e
section
variable {P:Program} {c:Code} {f:FuncId} {n:Nat} {l l2:List (Nat × AV)} {m m2:List (Nat × Option AO)} {nx:Nat} {H:Mu->Prop} {rl:List Nat}
theorem DH.of (hnd:rl.Nodup)(hT:sA H (cB rl nx) l l2)(hS:sB H (cB rl nx) rl.length m m2):DH H rl ⟨f,n,Tr.of l,none,[]⟩ (St.of m nx) ⟨f,n,Tr.of l2,none,[]⟩ (St.of m2 rl.length) :=
 ⟨rfl,rfl,rfl,rfl,fun t x2 e=>by rw [Tr.of_get] at e; rw [Tr.of_get]; exact hT.at_ t x2 e,fun k x2 e=>by rw [St.of_get] at e; rw [St.of_nx,St.of_get]; exact hS.at_ k x2 e,hnd⟩
def To (bb:Nat) (fr:Fr) (s:St) (fr2:Fr) (s2:St):Prop:=∃ rl,DH (fun _=>True) rl fr s fr2 s2/\∀ o,o < bb->cB rl s.nx o = o
variable {Q:Ex->Fr->St->Prop} {fr fr2:Fr} {s s2:St} {bb:Nat}
theorem Jd.to (h:To bb fr s fr2 s2) (k:Jb bb P c fr2 s2 Q):Jb bb P c fr s Q:=let ⟨rl,h,hb⟩:=h; Jd.weakB rl h hb k
theorem To.ofL (rl:List Nat) (l2:List (Nat × AV)) (m2:List (Nat × Option AO)) {nx2:Nat} (hnx:rl.length = nx2)(hnd:rl.Nodup)(hb:∀ o,o < bb->cB rl nx o = o)(hT:sA (fun _=>True) (cB rl nx) l l2)(hS:sB (fun _=>True) (cB rl nx) rl.length m m2):To bb ⟨f,n,Tr.of l,none,[]⟩ (St.of m nx) ⟨f,n,Tr.of l2,none,[]⟩ (St.of m2 nx2):=by
 subst hnx
 exact ⟨rl,DH.of hnd hT hS,hb⟩
theorem Jb.toL (rl:List Nat) (l2:List (Nat × AV)) (m2:List (Nat × Option AO)) {nx2:Nat} (hnx:rl.length = nx2)(hnd:rl.Nodup)(hb:∀ o,o < bb->cB rl nx o = o)(hT:sA (fun _=>True) (cB rl nx) l l2)(hS:sB (fun _=>True) (cB rl nx) rl.length m m2) (k:Jb bb P c ⟨f,n,Tr.of l2,none,[]⟩ (St.of m2 nx2) Q):Jb bb P c ⟨f,n,Tr.of l,none,[]⟩ (St.of m nx) Q :=
 Jd.to (To.ofL rl l2 m2 hnx hnd hb hT hS) k
theorem aY {p:Nat->Prop}:∀ o,o < 0->p o:=fun _ h=>absurd h (Nat.not_lt_zero _)
theorem Jd.loopI (I:Nat->Fr->St->Prop) (n0:Nat)(h0:∃ fr2 s2,To bb fr s fr2 s2/\I n0 fr2 s2) (round:∀ k fr s,I k fr s->Jb bb P c fr s (iE (fun fr s=>∃ k' fr2 s2,k' < k/\To bb fr s fr2 s2/\I k' fr2 s2) Q)):Jb bb P (.loop c) fr s Q:=by
 have key:∀ k fr s,I k fr s->Jb bb P (.loop c) fr s Q:=by
  intro k
  induction k using Nat.strongRecOn with
  | _ k ih =>
   intro fr s h
   refine Jd.loop (Jd.mono (round k fr s h) ?_)
   intro ex fr' s' hq
   cases ex with
   | normal=>obtain ⟨k',fr2,s2,hlt,ht,hi⟩:=hq; exact Jd.to ht (ih k' hlt fr2 s2 hi)
   | exit id=>exact hq
   | ret=>exact hq
 obtain ⟨fr2,s2,ht,hi⟩:=h0
 exact Jd.to ht (key n0 fr2 s2 hi)
theorem Jd.loopB {id:Nat} (I:Nat->Fr->St->Prop) (n0:Nat)(h0:∃ fr2 s2,To bb fr s fr2 s2/\I n0 fr2 s2)
  (round:∀ k fr s,I k fr s->∀ Q':Ex->Fr->St->Prop,(∀ fr s,Q .normal fr s->Q' (.exit id) fr s)->(∀ fr s,Q .ret fr s->Q' .ret fr s)->(∀ fr s,(∃ k' fr2 s2,k' < k/\To bb fr s fr2 s2/\I k' fr2 s2)->Q' .normal fr s)->Jb bb P c fr s Q'):Jb bb P (.block id (.loop c)) fr s Q:=by
 refine Jd.block (Jd.loopI I n0 h0 fun k fr s hi=>?_)
 exact round k fr s hi _ (fun fr s h=>dX.out h) (fun fr s h=>h) (fun fr s h=>h)
theorem Jd.freezeL (o:Nat) (cl:List AV) {t:TypeId} {op:Bool} (rl:List Nat) (l2:List (Nat × AV)) (m2:List (Nat × Option AO)) {nx2:Nat} (ho:lD m o = some (.cells cl t op))(hc:aE cl = true)(hnx:rl.length = nx2)(hnd:rl.Nodup)(hT:sA (Ml o cl) (cB rl nx) l l2)(hS:sB (Ml o cl) (cB rl nx) rl.length ((o,none) :: m) m2)
  (k:Jd P c ⟨f,n,Tr.of l2,none,[]⟩ (St.of m2 nx2) Q):Jd P c ⟨f,n,Tr.of l,none,[]⟩ (St.of m nx) Q:=by
 subst hnx
 exact Jd.freeze rl (cl:=cl) (t:=t) (op:=op) ((St.of_get nx o m).trans ho) hc (DH.of hnd hT hS) k
end
end
theorem yb:ag Tryz.prog 14 (ae iU):=Aq (by kernel_rfl) fun w v q k h h0 _=>iV w v q k h h0
theorem JP:ag Tryz.prog 37 (ae sp):=FY (by kernel_rfl) Jq
theorem zy:ag Tryz.prog 17 (ae DC):=Kh (by kernel_rfl) NW
theorem Gy:ag Tryz.prog 31 (ae A8):=Iy (by kernel_rfl) Ni
theorem Gw:ag Tryz.prog 30 (ae Az):=Hu (by kernel_rfl) MX
theorem Mv:ag Tryz.prog 308 (ae (rK id)):=xZ (by kernel_rfl) _ fun w v q k h h0 hk=>LI w v q k h h0 (by omega)
theorem BF:ag Tryz.prog 59 (ae iU):=Aq (by kernel_rfl) fun w v q k h h0 hk=>Av w v q k h h0 (by omega)
theorem GH:ag Tryz.prog 60 (ae sp):=FY (by kernel_rfl) fun w v v' q r k h h' h0 hk=>LH w v v' q r k h h' h0 (by omega)
theorem L7:ag Tryz.prog 48 (ae (ui (· + ·))):=Bw (by kernel_rfl) _ Md
theorem L0:ag Tryz.prog 42 (ae (ui (· * ·))):=Bw (by kernel_rfl) _ Nf
theorem Kq:ag Tryz.prog 40 (ae DC):=Kh (by kernel_rfl) Ot
theorem GJ:ag Tryz.prog 45 (ae (rK id)):=xZ (by kernel_rfl) _ fun w v q k h h0 hk=>ND w v q k h h0 (by omega)
def aU (w:World) (v:Value) (l:List Int):Prop:=Sl w 1 v l.length (l.map (Value.int .i64))
theorem aU.below {w w':World} {v:Value} {l:List Int} (h:aU w v l)(hb:Below w.heap.size w w'):aU w' v l:=Sl.below h hb
theorem aU.drewN {w:World} {v:Value} {l:List Int} (h:aU w v l) (n:Nat):aU (w.drewN n) v l:=h
theorem aU.nil_ (w:World):aU w (.slice none 0 0) []:=Sl.nil_ _ _
theorem aU.open_ {w:World} {v:Value} {l:List Int} (h:aU w v l):∃ A c,v = .slice A l.length c/\l.length <= c/\c <= 9223372036854775807 /\
  ∀ j x,l[j]? = some x->∃ b off,A = some ⟨b,off,none⟩/\b < w.heap.size/\w.cell? ⟨b,off + j,none⟩ = some (.int .i64 x):=by
 obtain ⟨h0,A,c,rfl,hc,hm,h5⟩:=h
 refine ⟨A,c,rfl,hc,by unfold maxLen at hm; omega,fun j x hx=>?_⟩
 have hj:=(List.getElem?_eq_some_iff.1 hx).1
 obtain ⟨b,off,e,hlt,hcell⟩:=h5 (by omega)
 exact ⟨b,off,e,hlt,hcell j _ (by rw [List.getElem?_map,hx]; rfl)⟩

def ew:List Int->List Int->Int
 | x :: a,y :: b=>if x = y then ew a b else if x < y then -1 else 1
 | _,_=>0
theorem Ih {a b:List Int} {j:Nat} {x y:Int} (ht:a.take j = b.take j)(hx:a[j]? = some x)(hy:b[j]? = some y)(hne:x ≠ y):ew a b = if x < y then -1 else 1:=by
 induction j generalizing a b with
 | zero =>
  cases a <;> cases b <;> simp at hx hy
  subst hx
  subst hy
  simp [ew,hne]
 | succ j ih =>
  cases a with
  | nil=>simp at hx
  | cons p a =>
   cases b with
   | nil=>simp at hy
   | cons q b =>
    simp at ht hx hy
    obtain ⟨rfl,ht⟩:=ht
    simp only [ew,if_true]
    exact ih ht hx hy
theorem ET {a b:List Int} (h:a = b.take a.length):ew a b = 0:=by
 induction a generalizing b with
 | nil=>simp [ew]
 | cons x a ih =>
  cases b with
  | nil=>simp at h
  | cons y b =>
   simp at h
   obtain ⟨rfl,h⟩:=h
   simp only [ew,if_true]
   exact ih h
def pM (lo hi:Int) (l:List Int):Bool:=l.all fun x=>decide (lo <= x) && decide (x <= hi)
theorem Fl {lo hi:Int} {l:List Int} {j:Nat} {x:Int} (hx:l[j]? = some x):pM lo hi (l.drop j) = ((decide (lo <= x) && decide (x <= hi)) && pM lo hi (l.drop (j + 1))):=by
 have hj:=(List.getElem?_eq_some_iff.1 hx).1
 have:l[j] = x:=by rw [List.getElem?_eq_getElem hj] at hx; injection hx
 rw [List.drop_eq_getElem_cons hj,this]
 rfl
def cK (o v:Int):Bool:=decide (1 <= o) && decide (o <= 4) && decide (1 <= v) && decide (v <= 2000)

theorem KO (w:World) (o v:Int) :
  Calls Tryz.prog 248 #[.int .i64 o,.int .i64 v] w fun e w'=>e = .returned (.bool (cK o v))/\Below w.heap.size w w':=by
 have HT:Hid (cK o v = (decide (1 <= o) && decide (o <= 4) && decide (1 <= v) && decide (v <= 2000))):=Lib.hid rfl
 by_cases h1:1 <= o
 ·have d1:=decide_eq_true h1
  by_cases h2:o <= 4
  ·have d2:=decide_eq_true h2
   by_cases h3:1 <= v
   ·have d3:=decide_eq_true h3
    by_cases h4:v <= 2000
    ·have d4:=decide_eq_true h4
     have HB:Hid (cK o v = true):=Lib.hid (by rw [HT.out,d1,d2,d3,d4]; rfl)
     clear h1 h2 h3 h4
     go_enter Tryz.func248,Tryz.ntmps248
     go_wp2_with fail
     go_ret
     exact ⟨aD HB.out.symm,Below.refl _ _⟩
    have d4:=decide_eq_false h4
    have HB:Hid (cK o v = false):=Lib.hid (by rw [HT.out,d1,d2,d3,d4]; rfl)
    clear h1 h2 h3 h4
    go_enter Tryz.func248,Tryz.ntmps248
    go_wp2_with fail
    go_ret
    exact ⟨aD HB.out.symm,Below.refl _ _⟩
   have d3:=decide_eq_false h3
   have HB:Hid (cK o v = false):=Lib.hid (by rw [HT.out,d1,d2,d3]; rfl)
   clear h1 h2 h3
   go_enter Tryz.func248,Tryz.ntmps248
   go_wp2_with fail
   go_ret
   exact ⟨aD HB.out.symm,Below.refl _ _⟩
  have d2:=decide_eq_false h2
  have HB:Hid (cK o v = false):=Lib.hid (by rw [HT.out,d1,d2]; rfl)
  clear h1 h2
  go_enter Tryz.func248,Tryz.ntmps248
  go_wp2_with fail
  go_ret
  exact ⟨aD HB.out.symm,Below.refl _ _⟩
 have d1:=decide_eq_false h1
 have HB:Hid (cK o v = false):=Lib.hid (by rw [HT.out,d1]; rfl)
 clear h1
 go_enter Tryz.func248,Tryz.ntmps248
 go_wp2_with fail
 go_ret
 exact ⟨aD HB.out.symm,Below.refl _ _⟩
def jb:List Int->List Int->Int
 | [],[]=>0
 | [],_ :: _=>-1
 | _ :: _,[]=>1
 | x :: a,y :: b=>if x = y then jb a b else if x < y then -1 else 1
theorem Jr {a b:List Int} {j:Nat} {x y:Int} (ht:a.take j = b.take j)(hx:a[j]? = some x)(hy:b[j]? = some y)(hne:x ≠ y):jb a b = if x < y then -1 else 1:=by
 induction j generalizing a b with
 | zero =>
  cases a <;> cases b <;> simp at hx hy
  subst hx
  subst hy
  simp [jb,hne]
 | succ j ih =>
  cases a with
  | nil=>simp at hx
  | cons p a =>
   cases b with
   | nil=>simp at hy
   | cons q b =>
    simp at ht hx hy
    obtain ⟨rfl,ht⟩:=ht
    simp only [jb,if_true]
    exact ih ht hx hy
theorem C9 {a b:List Int} (h:a.take b.length = b)(hl:b.length < a.length):jb a b = 1:=by
 induction b generalizing a with
 | nil =>
  cases a with
  | nil=>simp at hl
  | cons x a=>rfl
 | cons y b ih =>
  cases a with
  | nil=>simp at hl
  | cons x a =>
   simp at h hl
   obtain ⟨rfl,h⟩:=h
   simp only [jb,if_true]
   exact ih h hl
theorem FZ {a b:List Int} (h:a = b.take a.length):jb a b = if a.length < b.length then -1 else 0:=by
 induction a generalizing b with
 | nil =>
  cases b with
  | nil=>rfl
  | cons y b=>simp [jb]
 | cons x a ih =>
  cases b with
  | nil=>simp at h
  | cons y b =>
   simp at h
   obtain ⟨rfl,h⟩:=h
   simp only [jb,if_true,List.length_cons,Nat.add_lt_add_iff_right]
   exact ih h
theorem F0 {a b:List Int} (h:a.length = b.length):jb a b = ew a b:=by
 induction a generalizing b with
 | nil =>
  cases b with
  | nil=>rfl
  | cons y b=>simp at h
 | cons x a ih =>
  cases b with
  | nil=>simp at h
  | cons y b =>
   simp at h
   simp only [jb,ew]
   rw [ih h]

theorem OH (w:World) (va vb:Value) (a b:List Int)(ha:aU w va a)(hb:aU w vb b) :
  Calls Tryz.prog 119 #[va,vb] w fun e w'=>e = .returned (.int .i64 (jb a b))/\w = w':=by
 obtain ⟨A,ca,rfl,hlc,hcm,hA⟩:=ha.open_
 obtain ⟨B,cb,rfl,hmc,hcm',hB⟩:=hb.open_
 have HA:=Lib.hid hA
 have HB:=Lib.hid hB
 clear ha hb hA hB
 obtain ⟨n,hn⟩:∃ n,a.length = n:=⟨_,rfl⟩
 obtain ⟨p,hp⟩:∃ p,b.length = p:=⟨_,rfl⟩
 rw [hn] at hlc ⊢
 rw [hp] at hmc ⊢
 have HN:=Lib.hid hn
 have HP:=Lib.hid hp
 clear hn hp
 go_enter Tryz.func119,Tryz.ntmps119
 go_wp2_with fail
 go_loopg [5,6,7,8,11] n (fun g _ _ _ _ i wr=>∃ (j:Nat),wr = w/\i = .int .i64 j/\j + g = n/\j <= p/\Hid (a.take j = b.take j))
 case atStart=>exact ⟨0,rfl,rfl,by omega,by omega,Lib.hid rfl⟩
 obtain ⟨j,rfl,rfl,hj,hjp,HQ⟩:=hrel
 rcases Nat.eq_zero_or_pos gk with h | h
 ·obtain rfl:j = n:=by omega
  have HT:Hid (jb a b = if j < p then -1 else 0):=Lib.hid (by
   have h1:=FZ (a:=a) (b:=b) (by
    have:=HQ.out
    rw [List.take_of_length_le (by rw [HN.out]; exact Nat.le_refl _)] at this
    rw [HN.out]; exact this)
   rwa [HN.out,HP.out] at h1)
  by_cases hlt:j < p
  ·have hd:decide (j < p) = true:=decide_eq_true hlt
   have HT2:Hid (jb a b = -1):=Lib.hid (by rw [HT.out,if_pos hlt])
   go_wp2_with fail
   go_ret
   exact ⟨aq HT2.out.symm,rfl⟩
  have hd:decide (j < p) = false:=decide_eq_false hlt
  have HT2:Hid (jb a b = 0):=Lib.hid (by rw [HT.out,if_neg hlt])
  go_wp2_with fail
  go_ret
  exact ⟨aq HT2.out.symm,rfl⟩
 obtain ⟨g,rfl⟩:∃ g,gk = g + 1:=⟨gk - 1,by omega⟩
 obtain ⟨x,hx⟩:∃ x,a[j]? = some x:=⟨_,List.getElem?_eq_getElem (by rw [HN.out]; omega)⟩
 obtain ⟨ba,oa,rfl,_,hc⟩:=HA.out j x hx
 by_cases hjl:j < p
 ·obtain ⟨y,hy⟩:∃ y,b[j]? = some y:=⟨_,List.getElem?_eq_getElem (by rw [HP.out]; omega)⟩
  obtain ⟨bb,ob,rfl,_,hc'⟩:=HB.out j y hy
  have HX:=Lib.hid hx
  have HY:=Lib.hid hy
  have hd:decide (p <= j) = false:=decide_eq_false (by omega)
  have hd2:decide ((p:Int) <= (j:Int)) = false:=decide_eq_false (by omega)
  clear hx hy
  by_cases hxy:x = y
  ·subst hxy
   have hcc:Lib.compareInt x x = 0:=by simp [Lib.compareInt]
   go_wp2_with fail
   refine (Tryz.cmp_Compare_int x x _).mono ?_
   rintro e w2 ⟨rfl,rfl⟩
   rw [hcc]
   go_wp2_with fail
   go_roundg g
   case measure=>omega
   case rel=>exact ⟨j + 1,rfl,rfl,by omega,by omega,Lib.hid (by rw [aG _ HX.out,aG _ HY.out,HQ.out])⟩
  have HF:=Lib.hid (Jr HQ.out HX.out HY.out hxy)
  by_cases hlt:x < y
  ·have hcc:Lib.compareInt x y = -1:=by simp [Lib.compareInt,hlt]
   have HF2:Hid (jb a b = -1):=Lib.hid (by rw [HF.out,if_pos hlt])
   clear hxy hlt
   go_wp2_with fail
   refine (Tryz.cmp_Compare_int x y _).mono ?_
   rintro e w2 ⟨rfl,rfl⟩
   rw [hcc]
   go_wp2_with fail
   go_ret
   exact ⟨aq HF2.out.symm,rfl⟩
  have hcc:Lib.compareInt x y = 1:=by
   have h1:y < x:=by omega
   have h2:¬ x < y:=hlt
   simp [Lib.compareInt,h1,h2]
  have HF2:Hid (jb a b = 1):=Lib.hid (by rw [HF.out,if_neg hlt])
  clear hxy hlt
  go_wp2_with fail
  refine (Tryz.cmp_Compare_int x y _).mono ?_
  rintro e w2 ⟨rfl,rfl⟩
  rw [hcc]
  go_wp2_with fail
  go_ret
  exact ⟨aq HF2.out.symm,rfl⟩
 obtain rfl:j = p:=by omega
 have HF2:Hid (jb a b = 1):=Lib.hid (C9 (by
  rw [HP.out,HQ.out,List.take_of_length_le (by rw [HP.out]; exact Nat.le_refl _)]) (by rw [HP.out,HN.out]; omega))
 clear hx
 go_wp2_with fail
 go_ret
 exact ⟨aq HF2.out.symm,rfl⟩
abbrev Gr:=List Int × Int
def NT (v u:Value):Prop:=∀ ad n c,u = .slice (some ad) n c->rZ v ad.block
def Mk (w:World) (u:Value) (base:Nat) (cells:List Value) (gs:List Gr):Prop :=
 ∀ i g,gs[i]? = some g->∃ c0,cells[i * 2]? = some c0/\cells[i * 2 + 1]? = some (.int .i64 g.2)/\aU w c0 g.1/\bf c0 base/\NT c0 u
def vI (base:Nat) (w:World) (v:Value) (gs:List Gr):Prop:=∃ cells,w.ownsRow base 82 2 v gs.length cells/\Mk w v base cells gs
def eI (w:World) (v:Value) (gs:List Gr):Prop:=∃ cells,Sl w 2 v gs.length cells/\∀ i g,gs[i]? = some g->∃ c0,cells[i * 2]? = some c0/\cells[i * 2 + 1]? = some (.int .i64 g.2)/\aU w c0 g.1
theorem vI.at_ {base:Nat} {w:World} {v:Value} {gs:List Gr} (h:vI base w v gs):eI w v gs:=by
 obtain ⟨cells,h1,h2⟩:=h
 refine ⟨cells,Sl.of_own h1,fun i g hg=>?_⟩
 obtain ⟨c0,e0,e1,e2,_⟩:=h2 i g hg
 exact ⟨c0,e0,e1,e2⟩
theorem eI.below {w w':World} {v:Value} {gs:List Gr} (h:eI w v gs)(hb:Below w.heap.size w w'):eI w' v gs:=by
 obtain ⟨cells,h1,h2⟩:=h
 refine ⟨cells,h1.below hb,fun i g hg=>?_⟩
 obtain ⟨c0,e0,e1,e2⟩:=h2 i g hg
 exact ⟨c0,e0,e1,e2.below hb⟩
theorem vI.nil_ (base:Nat) (w:World):vI base w (.slice none 0 0) []:=⟨[],World.ownsRow_nil ..,fun i g hg=>by simp at hg⟩
theorem eI.open_ {w:World} {v:Value} {gs:List Gr} (h:eI w v gs):∃ A c,v = .slice A gs.length c/\gs.length <= c/\c <= 9223372036854775807 /\
  ∀ j g,gs[j]? = some g->∃ b off c0,A = some ⟨b,off,none⟩/\b < w.heap.size/\w.cell? ⟨b,off + j * 2,none⟩ = some c0/\w.cell? ⟨b,off + j * 2 + 1,none⟩ = some (.int .i64 g.2)/\aU w c0 g.1:=by
 obtain ⟨cells,h1,h2⟩:=h
 obtain ⟨h0,A,c,rfl,hc,hm,h5⟩:=h1
 refine ⟨A,c,rfl,hc,by unfold maxLen at hm; omega,fun j x hx=>?_⟩
 have hj:=(List.getElem?_eq_some_iff.1 hx).1
 obtain ⟨b,off,e,hlt,hcell⟩:=h5 (by omega)
 obtain ⟨c0,e0,e1,hf⟩:=h2 j x hx
 exact ⟨b,off,c0,e,hlt,hcell _ _ e0,by have:=hcell _ _ e1; rwa [<- Nat.add_assoc] at this,hf⟩

theorem aU.len {w:World} {v:Value} {l:List Int} (h:aU w v l):∃ A c,v = .slice A l.length c:=by
 obtain ⟨A,c,e,_⟩:=h.open_
 exact ⟨A,c,e⟩
theorem Sl.head {w:World} {sz:Nat} {A:Option Addr} {c n k:Nat} {xs:List Value} (h:Sl w sz (.slice A n c) n xs)(hk:k <= n):Sl w sz (.slice A k c) k (xs.take (k * sz)):=by
 obtain ⟨h0,A',c',h1,h2,h3,h4⟩:=h
 cases h1
 have hks:k * sz <= n * sz:=Nat.mul_le_mul_right _ hk
 refine ⟨by rw [List.length_take]; omega,A,c,rfl,by omega,h3,fun hk0=>?_⟩
 obtain ⟨b,off,rfl,hb,hc⟩:=h4 (by omega)
 exact ⟨b,off,rfl,hb,fun j u hu=>hc j u (by rw [List.getElem?_take] at hu; split at hu <;> simp_all)⟩
theorem Sl.tail {w:World} {sz:Nat} {b off:Nat} {c n k:Nat} {xs:List Value} (h:Sl w sz (.slice (some ⟨b,off,none⟩) n c) n xs)(hk:k <= n):Sl w sz (.slice (some ⟨b,off + k * sz,none⟩) (n - k) (c - k)) (n - k) (xs.drop (k * sz)):=by
 obtain ⟨h0,A',c',h1,h2,h3,h4⟩:=h
 cases h1
 refine ⟨by rw [List.length_drop,h0,Nat.sub_mul],_,_,rfl,by omega,by omega,fun hk0=>?_⟩
 obtain ⟨b',off',e,hb,hc⟩:=h4 (by omega)
 cases e
 refine ⟨b,off + k * sz,rfl,hb,fun j u hu=>?_⟩
 rw [List.getElem?_drop] at hu
 rw [Nat.add_assoc]
 exact hc _ u hu
theorem ES {w:World} {base base':Nat} {e:TypeId} {sz:Nat} {v:Value} {n:Nat} {xs:List Value} (h:w.ownsRow base e sz v n xs)(hb:base' <= base):w.ownsRow base' e sz v n xs:=by
 obtain ⟨h0,h1 | ⟨g,cap,cur,hv,hg,hr⟩⟩:=h
 ·exact ⟨h0,.inl h1⟩
 exact ⟨h0,.inr ⟨g,cap,cur,hv,Nat.le_trans hb hg,hr⟩⟩
theorem aU.off {w:World} {v:Value} {l:List Int} (h:aU w v l) {F:Nat} (hf:w.heap.size <= F):rZ v F:=Sl.off h hf
def JV (w:World) (v:Value) (ls:List (List Int)):Prop:=∃ cells,Sl w 1 v ls.length cells/\∀ (i:Nat) (l:List Int),ls[i]? = some l->∃ c0,cells[i]? = some c0/\aU w c0 l
def yo (F:Nat) (w:World) (v:Value) (ls:List (List Int)):Prop:=∃ cells,Sl w 1 v ls.length cells/\bf v F/\∀ (i:Nat) (l:List Int),ls[i]? = some l->∃ c0,cells[i]? = some c0/\aU w c0 l/\bf c0 F
theorem yo.at_ {F:Nat} {w:World} {v:Value} {ls:List (List Int)} (h:yo F w v ls):JV w v ls:=by
 obtain ⟨cells,h1,_,h2⟩:=h
 exact ⟨cells,h1,fun i l hl=>by
  obtain ⟨c0,e0,e1,_⟩:=h2 i l hl
  exact ⟨c0,e0,e1⟩⟩
def yp (m:Nat) (K:Nat) (gs:List Gr):Prop:=gs.length <= K/\∀ g ∈ gs,g.1.length = m + 1/\0 <= g.2/\g.2 <= K
theorem yp.nil_ (m:Nat):yp m 0 []:=⟨by simp,by simp⟩
theorem yp.mono {m K K':Nat} {gs:List Gr} (h:yp m K gs)(hk:K <= K'):yp m K' gs:=⟨Nat.le_trans h.1 hk,fun g hg=>by have:=h.2 g hg; omega⟩

theorem vI.mono {base base':Nat} {w:World} {v:Value} {gs:List Gr} (h:vI base w v gs)(hb:base' <= base):vI base' w v gs:=by
 obtain ⟨cells,h1,h2⟩:=h
 refine ⟨cells,ES h1 hb,fun i g hg=>?_⟩
 obtain ⟨c0,e0,e1,e2,e3,e4⟩:=h2 i g hg
 exact ⟨c0,e0,e1,e2,e3.mono hb,e4⟩
theorem vI.len {base:Nat} {w:World} {v:Value} {gs:List Gr} (h:vI base w v gs):∃ A c,v = .slice A gs.length c:=by
 obtain ⟨A,c,e,_⟩:=h.at_.open_
 exact ⟨A,c,e⟩
end Go.Proofs.YtkdhppimhdemjaaGreat

