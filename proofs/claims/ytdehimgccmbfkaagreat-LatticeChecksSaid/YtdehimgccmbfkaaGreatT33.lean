/- Lemmas on the way: Jl0, Jw1, Jx1, Jo1, Gm1, Gm2, Cp1, Gm3. -/
import Derived.Test.YtdehimgccmbfkaaGreatT32
import Derived.Deep.RegionLaw
set_option linter.all false
set_option maxRecDepth 1000000
set_option maxHeartbeats 32000000
namespace Go.Proofs.YtdehimgccmbfkaaGreat
open Go.RowKit
theorem laidL:laidOutB Tryz.prog = true:=by kernel_rfl
theorem mixedL:Tryz.prog.follows .mixedOrders = true:=by kernel_rfl
section
section
variable {α:Type} {f:α->List AV} {z:Nat}
theorem flatMap_len (hz:∀ x,(f x).length = z):∀ l:List α,(l.flatMap f).length = l.length * z
 | []=>by simp
 | x :: l=>by rw [List.flatMap_cons,List.length_append,hz,flatMap_len hz l,List.length_cons,Nat.add_mul]; omega
theorem flatMap_at (hz:∀ x,(f x).length = z):∀ (l:List α) (i j:Nat),j < z->(l.flatMap f)[i * z + j]? = (l[i]?).bind fun x=>(f x)[j]?
 | [],i,j,_=>by simp
 | x :: l,0,j,hj=>by
  rw [List.flatMap_cons,List.getElem?_append_left (by rw [hz]; omega)]
  simp
 | x :: l,i + 1,j,hj=>by
  rw [List.flatMap_cons,List.getElem?_append_right (by rw [hz,Nat.add_mul]; omega),hz,show (i + 1) * z + j - z = i * z + j by rw [Nat.add_mul]; omega,flatMap_at hz l i j hj]
  simp
theorem getR_eq {β:Type}:∀ {n:Nat} {l:List β} {off:Nat} {r:List β},r.length = n->(∀ i,i < n->l[off + i]? = r[i]?)->getR l off n = some r
 | 0,l,off,r,h,_=>by rw [List.eq_nil_of_length_eq_zero h]; rfl
 | n + 1,l,off,r,h,k=>by
  cases r with
  | nil=>simp at h
  | cons x r =>
   have h0:=k 0 (by omega)
   simp only [Nat.add_zero,List.getElem?_cons_zero] at h0
   rw [getR,h0]
   simp only
   rw [getR_eq (r:=r) (by simpa using h) (fun i hi=>by have:=k (i + 1) (by omega); rw [List.getElem?_cons_succ] at this; rw [<- this]; congr 1; omega)]
   rfl
theorem flatMap_getR (hz:∀ x,(f x).length = z) {l:List α} {i:Nat} {x:α} (hx:l[i]? = some x):getR (l.flatMap f) (i * z) z = some (f x) :=
 getR_eq (hz x) fun j hj=>by rw [flatMap_at hz l i j hj,hx]; rfl
theorem flatMap_putR (hz:∀ x,(f x).length = z) {l:List α} {i:Nat} (hi:i < l.length) (y:α):putR (l.flatMap f) (i * z) (f y) = (l.set i y).flatMap f:=by
 apply List.ext_getElem?
 intro k
 rw [putR_get,flatMap_len hz,hz]
 rcases Nat.eq_zero_or_pos z with h0 | h0
 ·have e:∀ l:List α,l.flatMap f = []:=fun l=>List.eq_nil_of_length_eq_zero (by rw [flatMap_len hz,h0]; simp)
  rw [e,e,if_neg (by omega)]
 have hk:=Nat.div_add_mod k z
 have hm:=Nat.mod_lt k h0
 have key:∀ l:List α,(l.flatMap f)[k]? = (l[k / z]?).bind fun x=>(f x)[k % z]?:=fun l=>by
  have:=flatMap_at hz l (k / z) (k % z) hm
  rwa [show k / z * z + k % z = k by rw [Nat.mul_comm]; exact hk] at this
 rw [key,key,List.getElem?_set]
 by_cases e:k / z = i
 ·subst e
  have hkz:k / z * z <= k:=Nat.div_mul_le_self k z
  have hkk:k < k / z * z + z:=by rw [Nat.mul_comm]; omega
  have:k / z * z + z <= l.length * z:=by rw [<- Nat.succ_mul]; exact Nat.mul_le_mul_right _ hi
  rw [if_pos ⟨hkz,hkk,by omega⟩,if_pos rfl,if_pos hi,Option.bind_some]
  congr 1
  rw [Nat.mul_comm] at hkz ⊢
  omega
 have:¬ (i * z <= k/\k < i * z + z):=fun h=>e (by
  apply Nat.div_eq_of_lt_le
  ·exact h.1
  ·rw [Nat.succ_mul]; exact h.2)
 rw [if_neg (fun h=>this ⟨h.1,h.2.1⟩),if_neg (Ne.symm e)]
theorem flatMap_flat (hz:∀ x,(f x).all flat = true) (l:List α):(l.flatMap f).all flat = true:=by
 rw [List.all_eq_true]
 intro y hy
 obtain ⟨x,_,hy⟩:=List.mem_flatMap.1 hy
 exact List.all_eq_true.1 (hz x) y hy
theorem flatMap_reps (y:α):∀ n,(List.replicate n y).flatMap f = reps (f y) n
 | 0=>rfl
 | n + 1=>by rw [List.replicate_succ,List.flatMap_cons,flatMap_reps y n]; rfl
end
def fr (qs:List Rat):List AV:=qs.flatMap fcells
theorem fcells_len (q:Rat):(fcells q).length = 3:=rfl
theorem fcells_flat (q:Rat):(fcells q).all flat = true:=rfl
theorem fr_len (qs:List Rat):(fr qs).length = qs.length * 3:=flatMap_len fcells_len qs
theorem fr_get {qs:List Rat} {i:Nat} {q:Rat} (h:qs[i]? = some q):getR (fr qs) (i * 3) 3 = some (fcells q):=flatMap_getR fcells_len h
theorem fr_put {qs:List Rat} {i:Nat} (h:i < qs.length) (q:Rat):putR (fr qs) (i * 3) (fcells q) = fr (qs.set i q):=flatMap_putR fcells_len h q
theorem fr_flat (qs:List Rat):(fr qs).all flat = true:=flatMap_flat fcells_flat qs
def bs (l:List Bool):List AV:=l.map .b
theorem bs_len (l:List Bool):(bs l).length = l.length:=by simp [bs]
theorem bs_get {l:List Bool} {i:Nat} {b:Bool} (h:l[i]? = some b):(bs l)[i]? = some (.b b):=by simp [bs,h]
theorem bs_put (l:List Bool) (i:Nat) (b:Bool):putR (bs l) i [.b b] = bs (l.set i b):=by simp [bs,putR,List.map_set]
theorem bs_flat (l:List Bool):(bs l).all flat = true:=by simp [bs,flat]
theorem bs_reps (b:Bool):∀ n,bs (List.replicate n b) = reps [.b b] n
 | 0=>rfl
 | n + 1=>by rw [List.replicate_succ,reps,<- bs_reps b n]; rfl
def is (l:List Int):List AV:=l.map (.i .i64)
theorem is_put (l:List Int) (i:Nat) (z:Int):putR (is l) i [.i .i64 z] = is (l.set i z):=by simp [is,putR,List.map_set]
theorem is_flat (l:List Int):(is l).all flat = true:=by simp [is,flat]
theorem cells_fq (q:Rat):(fq q).cells = fcells q:=rfl
theorem addV_fq {q r:Rat} (op:Rat->Rat->Rat)(hq:qz q <= lim)(hr:qz r <= lim):bin2V op [fq q,fq r] = some (fq (op q r)):=by simp only [bin2V,ratV_fq hq,ratV_fq hr]
theorem cmpV_eq {x y:AV} {q r:Rat} (hq:ratV x = some q)(hr:ratV y = some r):cmpV [x,y] = some (.i .i64 (sgnI (q - r))):=by simp only [cmpV,hq,hr]
theorem signV_eq {x:AV} {q:Rat} (hq:ratV x = some q):signV [x] = some (.i .i64 (sgnI q)):=by simp only [signV,hq,Option.map_some]
theorem canonV_eq {x:AV} {q:Rat} (op:Rat->Rat)(hq:ratV x = some q):canonV op [x] = some (fq (op q)):=by simp only [canonV,hq,Option.map_some]
theorem ofV_eq {z:Int} (h:0 <= z) (h':z < 9223372036854775808):ofV [.i .i64 z] = some (fq (z:Rat)):=by
 obtain ⟨n,rfl⟩:∃ n:Nat,z = (n:Int):=⟨z.toNat,by omega⟩
 show cond (Nat.blt n 9223372036854775808) (some (fq (n:Rat))) none = _
 rw [blt_true (by omega)]
 rfl
theorem pureA_eq {g:List AV->Option AV} {args:List AV} {v:AV} (h:g args = some v) (s:St):pureA g args s = some (v,s):=by unfold pureA; rw [h]; rfl
theorem agg_fq (q:Rat):AV.agg (fcells q) = fq q:=rfl
theorem bs_set (l:List Bool) (i:Nat) (b:Bool):(bs l).set i (.b b) = bs (l.set i b):=by simp [bs,List.map_set]
theorem is_set (l:List Int) (i:Nat) (z:Int):(is l).set i (.i .i64 z) = is (l.set i z):=by simp [is,List.map_set]
theorem fw:type_of% (And.intro @agg_fq (And.intro @cells_fq (And.intro @fcells_len (And.intro @fcells_flat (And.intro @fr_put (And.intro @fr_flat (And.intro @bs_put (And.intro @bs_flat (And.intro @is_put (And.intro @bs_set (And.intro @is_set @is_flat))))))))))):=(And.intro @agg_fq (And.intro @cells_fq (And.intro @fcells_len (And.intro @fcells_flat (And.intro @fr_put (And.intro @fr_flat (And.intro @bs_put (And.intro @bs_flat (And.intro @is_put (And.intro @bs_set (And.intro @is_set @is_flat)))))))))))
theorem qz_small {m k:Nat} (h:m <= 2 ^ k):qz (m:Rat) <= k + 1:=by
 have h1:Nat.log2 m <= k:=by
  rcases Nat.eq_zero_or_pos m with rfl | h0
  ·simp [Nat.log2_zero]
  have:2 ^ Nat.log2 m <= 2 ^ k:=Nat.le_trans (Nat.log2_self_le (by omega)) h
  exact (Nat.pow_le_pow_iff_right (by omega)).1 this
 show max (Nat.log2 ((m:Rat).num.natAbs)) (Nat.log2 (m:Rat).den) + 1 <= k + 1
 have e1:(m:Rat).num = m:=rfl
 have e2:(m:Rat).den = 1:=rfl
 rw [e1,e2,Int.natAbs_natCast,show Nat.log2 1 = 0 from rfl]
 omega
theorem fr_reps (q:Rat):∀ n,fr (List.replicate n q) = reps (fcells q) n:=flatMap_reps q
theorem WkO.zfr {H:Mu->Prop} {ρ:Nat->Nat} (n:Nat) (t:TypeId) (op:Bool):WkO H ρ (.cells (reps [.b false,.snil,.snil] n) t op) (.cells (fr (List.replicate n 0)) t op):=by
 refine ⟨rfl,rfl,?_⟩
 have e:rens ρ (fr (List.replicate n 0)) = fr (List.replicate n 0):=rens_bare' ρ n
 rw [e,fr_reps]
 exact Wks.reps (.cons (Wk.refl H _) (.cons (Wk.zero H) (.cons (Wk.zero H) .nil))) n
where rens_bare' (ρ:Nat->Nat):∀ n,rens ρ (fr (List.replicate n 0)) = fr (List.replicate n 0)
 | 0=>rfl
 | n + 1=>by
  have e:fr (List.replicate (n + 1) 0) = .b (isNeg 0) :: .num (0:Rat).num.natAbs :: .num (denQ 0) :: fr (List.replicate n 0):=by rw [List.replicate_succ]; rfl
  rw [e]
  simp only [rens,ren,rens_bare' ρ n]
theorem WkO.zbs {H:Mu->Prop} {ρ:Nat->Nat} (n:Nat) (t:TypeId) (op:Bool):WkO H ρ (.cells (reps [.b false] n) t op) (.cells (bs (List.replicate n false)) t op):=by
 refine WkO.cells ?_
 rw [<- bs_reps]
 induction n with
 | zero=>rfl
 | succ n ih =>
  rw [List.replicate_succ]
  show AV.b false :: bs (List.replicate n false) = .b false :: rens ρ (bs (List.replicate n false))
  rw [<- ih]
end
section
theorem spw:type_of% (And.intro @ev (And.intro @ev2 (And.intro @fw (And.intro @tys (And.intro @Nat.add_zero (And.intro @Nat.mul_one (And.intro @Nat.zero_mul (And.intro @Int.toNat_zero (And.intro @true_and (And.intro @and_true (And.intro @or_true (And.intro @true_or (And.intro @and_self (And.intro @or_false @false_or)))))))))))))):=And.intro @ev (And.intro @ev2 (And.intro @fw (And.intro @tys (And.intro @Nat.add_zero (And.intro @Nat.mul_one (And.intro @Nat.zero_mul (And.intro @Int.toNat_zero (And.intro @true_and (And.intro @and_true (And.intro @or_true (And.intro @true_or (And.intro @and_self (And.intro @or_false @false_or)))))))))))))
@[congr] theorem ifK_congr {o o':Option Bool} (A B:Prop) (h:tickA o = o'):ifK o A B = ifK o' A B:=by rw [<- h]; rfl
@[congr] theorem bindK_congr {α:Type} {o o':Option α} (k:α->Prop) (h:tickA o = o'):bindK o k = bindK o' k:=by rw [<- h]; rfl
@[congr] theorem boolK_congr {v v':AV} (k:Bool->Prop) (h:tickA v = v'):boolK v k = boolK v' k:=by rw [<- h]; rfl
@[congr] theorem opK_congr (P:Program) (X:Env) (E:Ev) (ρ:Operand->Option AV) {s s':St} (o:Op) (K:AV->St->Prop) (h:tickA s = s'):opK P X E ρ s o K = opK P X E ρ s' o K:=by rw [<- h]; rfl
@[congr] theorem nxtD_congr (ex:List (Nat × Nat)) (i:Nat) (op:Op) (ρ:Operand->Option AV) {s s' t t':St} {R R':List (Nat × List Nat)} {W W':List (Nat × St × St)} (k:List (Nat × List Nat)->List (Nat × St × St)->Prop) (h1:tickA s = s') (h2:t = t') (h3:R = R') (h4:W = W'):nxtD ex i op ρ s t R W k = nxtD ex i op ρ s' t' R' W' k:=by rw [<- h1,h2,h3,h4]; rfl
@[congr] theorem wpO_congr (P:Program) (X:Env) (E:Ev) (n:Nat) (gl:List (Option Tmp)) (l:List Oper) {T T':Tr AV} {s s':St} (K:Tr AV->St->Prop) (h1:tickA T = T') (h2:s = s'):wpO P X E n gl l T s K = wpO P X E n gl l T' s' K:=by rw [<- h1,h2]; rfl
@[congr] theorem wpE_congr (P:Program) (X:Env) (E:Ev) (n:Nat) (gl:List (Option Tmp)) (ex:List (Nat × Nat)) (i:Nat) (l:List Oper) {T T':Tr AV} {s s':St} {R R':List (Nat × List Nat)} {W W':List (Nat × St × St)} (K:Tr AV->St->Prop) (h1:tickA T = T') (h2:s = s') (h3:R = R') (h4:W = W'):wpE P X E n gl ex i l T s R W K = wpE P X E n gl ex i l T' s' R' W' K:=by rw [<- h1,h2,h3,h4]; rfl
mutual
theorem ren_bare (ρ:Nat->Nat):∀ x:AV,bare x = true->ren ρ x = x
 | .b _,_ | .i _ _,_ | .pnil,_ | .snil,_ | .num _,_ | .vw _ _,_ | .vp _ _,_ | .mnil,_ | .fnil,_ | .inil,_=>rfl
 | .ptr _ _,h | .sl _ _ _ _,h | .nat _,h | .mp _,h | .yl _,h=>by simp [bare] at h
 | .fn f a b,h=>by simp only [bare,Bool.and_eq_true] at h; simp only [ren,rens_bare ρ a h.1,rens_bare ρ b h.2]
 | .ifc t v,h=>by simp only [bare] at h; simp only [ren,ren_bare ρ v h]
 | .agg l,h=>by simp only [bare] at h; simp only [ren,rens_bare ρ l h]
 | .tup l,h=>by simp only [bare] at h; simp only [ren,rens_bare ρ l h]
theorem rens_bare (ρ:Nat->Nat):∀ l:List AV,bares l = true->rens ρ l = l
 | [],_=>rfl
 | x :: l,h=>by simp only [bares,Bool.and_eq_true] at h; simp only [rens,ren_bare ρ x h.1,rens_bare ρ l h.2]
end
theorem bares_append:∀ l m:List AV,bares (l ++ m) = (bares l && bares m)
 | [],m=>by simp [bares]
 | x :: l,m=>by simp only [List.cons_append,bares,bares_append l m,Bool.and_assoc]
theorem bares_flatMap {α:Type} {f:α->List AV} (h:∀ x,bares (f x) = true):∀ l:List α,bares (l.flatMap f) = true
 | []=>rfl
 | x :: l=>by rw [List.flatMap_cons,bares_append,h x,bares_flatMap h l]; rfl
theorem bares_map {α:Type} {f:α->AV} (h:∀ x,bare (f x) = true):∀ l:List α,bares (l.map f) = true
 | []=>rfl
 | x :: l=>by simp only [List.map_cons,bares,h x,bares_map h l]; rfl
theorem fr_bare (qs:List Rat):bares (fr qs) = true:=bares_flatMap (fun _=>rfl) qs
theorem bs_bare (l:List Bool):bares (bs l) = true:=bares_map (fun _=>rfl) l
theorem is_bare (l:List Int):bares (is l) = true:=bares_map (fun _=>rfl) l
theorem WkO.same {H:Mu->Prop} {ρ:Nat->Nat} {c:List AV} {t:TypeId} {op:Bool} (h:bares c = true):WkO H ρ (.cells c t op) (.cells c t op):=WkO.cells (rens_bare ρ c h).symm
theorem Wk.bare {H:Mu->Prop} {ρ:Nat->Nat} {x:AV} (h:bare x = true):Wk H x (ren ρ x):=by rw [ren_bare ρ x h]; exact Wk.refl H x
theorem Wk.i64 {H:Mu->Prop} {ρ:Nat->Nat} {a b:Int} (h:a = b):Wk H (.i .i64 a) (ren ρ (.i .i64 b)):=by rw [h]; exact Wk.refl H _
theorem Wk.fn1 {H:Mu->Prop} {f:FuncId} {x y:AV} (h:Wk H x y):Wk H (.fn f [] [x]) (.fn f [] [y]):=⟨fun μ hH v hv=>by
 simp only [VR,VRs] at hv ⊢
 obtain ⟨a',c',h0,h1,u,us,h2,h3,h4⟩:=hv
 exact ⟨a',c',h0,h1,u,us,h2,h.1 μ hH _ h3,h4⟩,fun _=>rfl⟩
def FitT (H:Mu->Prop) (ρ:Nat->Nat) (l:List (Nat × AV)):List (Nat × AV)->Prop
 | []=>True
 | p :: l2=>(∃ x,getL l p.1 = some x/\Wk H x (ren ρ p.2))/\FitT H ρ l l2
theorem FitT.at_ {H:Mu->Prop} {ρ:Nat->Nat} {l:List (Nat × AV)}:∀ {l2:List (Nat × AV)},FitT H ρ l l2->∀ t x2,getL l2 t = some x2->∃ x,getL l t = some x/\Wk H x (ren ρ x2)
 | [],_,t,x2,e=>by simp [getL] at e
 | p :: l2,h,t,x2,e=>by
  rw [show getL (p :: l2) t = _ from getL_cons p.1 p.2 l2 t] at e
  split at e
  ·next e2=>subst e2; cases e; exact h.1
  exact FitT.at_ h.2 t x2 e
def FitS (H:Mu->Prop) (ρ:Nat->Nat) (nx2:Nat) (l:List (Nat × Option AO)):List (Nat × Option AO)->Prop
 | []=>True
 | p :: l2=>(p.1 < nx2/\∃ x2 x,p.2 = some x2/\getO l (ρ p.1) = some x/\WkO H ρ x x2)/\FitS H ρ nx2 l l2
theorem FitS.at_ {H:Mu->Prop} {ρ:Nat->Nat} {nx2:Nat} {l:List (Nat × Option AO)}:∀ {l2:List (Nat × Option AO)},FitS H ρ nx2 l l2->∀ k x2,getO l2 k = some x2->k < nx2/\∃ x,getO l (ρ k) = some x/\WkO H ρ x x2
 | [],_,t,x2,e=>by cases e
 | p :: l2,h,t,x2,e=>by
  rw [show getO (p :: l2) t = _ from getO_cons p.1 p.2 l2 t] at e
  split at e
  ·next e2 =>
   subst e2
   obtain ⟨⟨h1,y2,y,h2,h3,h4⟩,_⟩:=h
   rw [h2] at e
   cases e
   exact ⟨h1,y,h3,h4⟩
  exact FitS.at_ h.2 t x2 e
section
variable {P:Program} {c:Code} {f:FuncId} {n:Nat} {l l2:List (Nat × AV)} {m m2:List (Nat × Option AO)} {nx:Nat} {H:Mu->Prop} {rl:List Nat}
theorem Fit.of (hnd:rl.Nodup)(hT:FitT H (names rl nx) l l2)(hS:FitS H (names rl nx) rl.length m m2):Fit H rl ⟨f,n,Tr.of l,none,[]⟩ (St.of m nx) ⟨f,n,Tr.of l2,none,[]⟩ (St.of m2 rl.length) :=
 ⟨rfl,rfl,rfl,rfl,fun t x2 e=>by rw [Tr.of_get] at e; rw [Tr.of_get]; exact hT.at_ t x2 e,fun k x2 e=>by rw [St.of_get] at e; rw [St.of_nx,St.of_get]; exact hS.at_ k x2 e,hnd⟩
def To (bb:Nat) (fr:Fr) (s:St) (fr2:Fr) (s2:St):Prop:=∃ rl,Fit (fun _=>True) rl fr s fr2 s2/\∀ o,o < bb->names rl s.nx o = o
variable {Q:Ex->Fr->St->Prop} {fr fr2:Fr} {s s2:St} {bb:Nat}
theorem Jd.to (h:To bb fr s fr2 s2) (k:Jb bb P c fr2 s2 Q):Jb bb P c fr s Q:=let ⟨rl,h,hb⟩:=h; Jd.weakB rl h hb k
theorem To.ofL (rl:List Nat) (l2:List (Nat × AV)) (m2:List (Nat × Option AO)) {nx2:Nat} (hnx:rl.length = nx2)(hnd:rl.Nodup)(hb:∀ o,o < bb->names rl nx o = o)(hT:FitT (fun _=>True) (names rl nx) l l2)(hS:FitS (fun _=>True) (names rl nx) rl.length m m2):To bb ⟨f,n,Tr.of l,none,[]⟩ (St.of m nx) ⟨f,n,Tr.of l2,none,[]⟩ (St.of m2 nx2):=by
 subst hnx
 exact ⟨rl,Fit.of hnd hT hS,hb⟩
theorem Jb.toL (rl:List Nat) (l2:List (Nat × AV)) (m2:List (Nat × Option AO)) {nx2:Nat} (hnx:rl.length = nx2)(hnd:rl.Nodup)(hb:∀ o,o < bb->names rl nx o = o)(hT:FitT (fun _=>True) (names rl nx) l l2)(hS:FitS (fun _=>True) (names rl nx) rl.length m m2) (k:Jb bb P c ⟨f,n,Tr.of l2,none,[]⟩ (St.of m2 nx2) Q):Jb bb P c ⟨f,n,Tr.of l,none,[]⟩ (St.of m nx) Q :=
 Jd.to (To.ofL rl l2 m2 hnx hnd hb hT hS) k
theorem no_base {p:Nat->Prop}:∀ o,o < 0->p o:=fun _ h=>absurd h (Nat.not_lt_zero _)
theorem base_one {rl:List Nat} {nx:Nat} (o:Nat)(h:o < 1):names (0 :: rl) nx o = o:=by
 cases o with
 | zero=>rfl
 | succ o=>omega
theorem Jd.toL (rl:List Nat) (l2:List (Nat × AV)) (m2:List (Nat × Option AO)) {nx2:Nat} (hnx:rl.length = nx2)(hnd:rl.Nodup)(hT:FitT (fun _=>True) (names rl nx) l l2)(hS:FitS (fun _=>True) (names rl nx) rl.length m m2) (k:Jd P c ⟨f,n,Tr.of l2,none,[]⟩ (St.of m2 nx2) Q):Jd P c ⟨f,n,Tr.of l,none,[]⟩ (St.of m nx) Q :=
 Jb.toL rl l2 m2 hnx hnd no_base hT hS k
theorem Jd.loopI (I:Nat->Fr->St->Prop) (n0:Nat)(h0:∃ fr2 s2,To bb fr s fr2 s2/\I n0 fr2 s2) (round:∀ k fr s,I k fr s->Jb bb P c fr s (Thn (fun fr s=>∃ k' fr2 s2,k' < k/\To bb fr s fr2 s2/\I k' fr2 s2) Q)):Jb bb P (.loop c) fr s Q:=by
 have key:∀ k fr s,I k fr s->Jb bb P (.loop c) fr s Q:=by
  intro k
  induction k using Nat.strongRecOn with
  | _ k ih =>
   intro fr s h
   refine Jd.loop (Jd.mono (round k fr s h) ?_)
   intro ex fr' s' hq
   cases ex with
   | normal=>obtain ⟨k',fr2,s2,hlt,ht,hi⟩:=hq; exact Jd.to ht (ih k' hlt fr2 s2 hi)
   | exit id=>exact hq
   | ret=>exact hq
 obtain ⟨fr2,s2,ht,hi⟩:=h0
 exact Jd.to ht (key n0 fr2 s2 hi)
theorem Jd.loopB {id:Nat} (I:Nat->Fr->St->Prop) (n0:Nat)(h0:∃ fr2 s2,To bb fr s fr2 s2/\I n0 fr2 s2)
  (round:∀ k fr s,I k fr s->∀ Q':Ex->Fr->St->Prop,(∀ fr s,Q .normal fr s->Q' (.exit id) fr s)->(∀ fr s,Q .ret fr s->Q' .ret fr s)->(∀ fr s,(∃ k' fr2 s2,k' < k/\To bb fr s fr2 s2/\I k' fr2 s2)->Q' .normal fr s)->Jb bb P c fr s Q'):Jb bb P (.block id (.loop c)) fr s Q:=by
 refine Jd.block (Jd.loopI I n0 h0 fun k fr s hi=>?_)
 exact round k fr s hi _ (fun fr s h=>Blk_.out h) (fun fr s h=>h) (fun fr s h=>h)
theorem Jd.freezeL (o:Nat) (cl:List AV) {t:TypeId} {op:Bool} (rl:List Nat) (l2:List (Nat × AV)) (m2:List (Nat × Option AO)) {nx2:Nat} (ho:getO m o = some (.cells cl t op))(hc:bares cl = true)(hnx:rl.length = nx2)(hnd:rl.Nodup)(hT:FitT (Frz o cl) (names rl nx) l l2)(hS:FitS (Frz o cl) (names rl nx) rl.length ((o,none) :: m) m2)
  (k:Jd P c ⟨f,n,Tr.of l2,none,[]⟩ (St.of m2 nx2) Q):Jd P c ⟨f,n,Tr.of l,none,[]⟩ (St.of m nx) Q:=by
 subst hnx
 exact Jd.freeze rl (cl:=cl) (t:=t) (op:=op) ((St.of_get nx o m).trans ho) hc (Fit.of hnd hT hS) k
end
end
theorem ansSignR:Answers Tryz.prog 27 (pureA signV):=sign_ok (by kernel_rfl) fun w v q k h h0 _=>signR w v q k h h0
theorem ansCmpR:Answers Tryz.prog 40 (pureA cmpV):=cmp_ok (by kernel_rfl) cmpR
theorem ansAddR:Answers Tryz.prog 22 (pureA (bin2V (· + ·))):=bin2_ok (by kernel_rfl) _ addR
theorem ansOfR:Answers Tryz.prog 24 (pureA ofV):=of_ok (by kernel_rfl) ofR
theorem ansMakeR:Answers Tryz.prog 67 (pureA makeV):=make_ok (by kernel_rfl) makeR
theorem ansSameR:Answers Tryz.prog 23 (pureA sameV):=same_ok (by kernel_rfl) sameR
theorem ansCanonR:Answers Tryz.prog 111 (pureA (canonV id)):=canon_ok (by kernel_rfl) _ fun w v q k h h0 hk=>canonR w v q k h h0 (by omega)
theorem ansSign:Answers Tryz.prog 91 (pureA signV):=sign_ok (by kernel_rfl) fun w v q k h h0 hk=>signF w v q k h h0 (by omega)
theorem ansCmp:Answers Tryz.prog 101 (pureA cmpV):=cmp_ok (by kernel_rfl) fun w v v' q r k h h' h0 hk=>cmpF w v v' q r k h h' h0 (by omega)
theorem ansAdd:Answers Tryz.prog 86 (pureA (bin2V (· + ·))):=bin2_ok (by kernel_rfl) _ addF
theorem ansMul:Answers Tryz.prog 93 (pureA (bin2V (· * ·))):=bin2_ok (by kernel_rfl) _ mulF
theorem ansDiv:Answers Tryz.prog 97 (pureA divV):=div_ok (by kernel_rfl) divF
theorem ansOf:Answers Tryz.prog 92 (pureA ofV):=of_ok (by kernel_rfl) ofN
theorem ansCanon:Answers Tryz.prog 103 (pureA (canonV id)):=canon_ok (by kernel_rfl) _ fun w v q k h h0 hk=>canon w v q k h h0 (by omega)
def IntsAt (w:World) (v:Value) (l:List Int):Prop:=Sl w 1 v l.length (l.map (Value.int .i64))
theorem IntsAt.below {w w':World} {v:Value} {l:List Int} (h:IntsAt w v l)(hb:Below w.heap.size w w'):IntsAt w' v l:=Sl.below h hb
theorem IntsAt.drew {w:World} {v:Value} {l:List Int} (h:IntsAt w v l):IntsAt w.drew v l:=h
theorem IntsAt.drewN {w:World} {v:Value} {l:List Int} (h:IntsAt w v l) (n:Nat):IntsAt (w.drewN n) v l:=h
theorem IntsAt.nil_ (w:World):IntsAt w (.slice none 0 0) []:=Sl.nil_ _ _
theorem IntsAt.open_ {w:World} {v:Value} {l:List Int} (h:IntsAt w v l):∃ A c,v = .slice A l.length c/\l.length <= c/\c <= 9223372036854775807 /\
  ∀ j x,l[j]? = some x->∃ b off,A = some ⟨b,off,none⟩/\b < w.heap.size/\w.cell? ⟨b,off + j,none⟩ = some (.int .i64 x):=by
 obtain ⟨h0,A,c,rfl,hc,hm,h5⟩:=h
 refine ⟨A,c,rfl,hc,by unfold maxLen at hm; omega,fun j x hx=>?_⟩
 have hj:=(List.getElem?_eq_some_iff.1 hx).1
 obtain ⟨b,off,e,hlt,hcell⟩:=h5 (by omega)
 exact ⟨b,off,e,hlt,hcell j _ (by rw [List.getElem?_map,hx]; rfl)⟩

def ordL:List Int->List Int->Int
 | x :: a,y :: b=>if x = y then ordL a b else if x < y then -1 else 1
 | _,_=>0
def inR (lo hi:Int) (l:List Int):Bool:=l.all fun x=>decide (lo <= x) && decide (x <= hi)
def sizesB (o v:Int):Bool:=decide (1 <= o) && decide (o <= 4) && decide (1 <= v) && decide (v <= 2000)
def cmpL:List Int->List Int->Int
 | [],[]=>0
 | [],_ :: _=>-1
 | _ :: _,[]=>1
 | x :: a,y :: b=>if x = y then cmpL a b else if x < y then -1 else 1
theorem cmpL_at {a b:List Int} {j:Nat} {x y:Int} (ht:a.take j = b.take j)(hx:a[j]? = some x)(hy:b[j]? = some y)(hne:x ≠ y):cmpL a b = if x < y then -1 else 1:=by
 induction j generalizing a b with
 | zero =>
  cases a <;> cases b <;> simp at hx hy
  subst hx
  subst hy
  simp [cmpL,hne]
 | succ j ih =>
  cases a with
  | nil=>simp at hx
  | cons p a =>
   cases b with
   | nil=>simp at hy
   | cons q b =>
    simp at ht hx hy
    obtain ⟨rfl,ht⟩:=ht
    simp only [cmpL,if_true]
    exact ih ht hx hy
theorem cmpL_more {a b:List Int} (h:a.take b.length = b)(hl:b.length < a.length):cmpL a b = 1:=by
 induction b generalizing a with
 | nil =>
  cases a with
  | nil=>simp at hl
  | cons x a=>rfl
 | cons y b ih =>
  cases a with
  | nil=>simp at hl
  | cons x a =>
   simp at h hl
   obtain ⟨rfl,h⟩:=h
   simp only [cmpL,if_true]
   exact ih h hl
theorem cmpL_pre {a b:List Int} (h:a = b.take a.length):cmpL a b = if a.length < b.length then -1 else 0:=by
 induction a generalizing b with
 | nil =>
  cases b with
  | nil=>rfl
  | cons y b=>simp [cmpL]
 | cons x a ih =>
  cases b with
  | nil=>simp at h
  | cons y b =>
   simp at h
   obtain ⟨rfl,h⟩:=h
   simp only [cmpL,if_true,List.length_cons,Nat.add_lt_add_iff_right]
   exact ih h
theorem cmpL_ord {a b:List Int} (h:a.length = b.length):cmpL a b = ordL a b:=by
 induction a generalizing b with
 | nil =>
  cases b with
  | nil=>rfl
  | cons y b=>simp at h
 | cons x a ih =>
  cases b with
  | nil=>simp at h
  | cons y b =>
   simp at h
   simp only [cmpL,ordL]
   rw [ih h]

theorem cmpG (w:World) (va vb:Value) (a b:List Int)(ha:IntsAt w va a)(hb:IntsAt w vb b) :
  Calls Tryz.prog 213 #[va,vb] w fun e w'=>e = .returned (.int .i64 (cmpL a b))/\w = w':=by
 obtain ⟨A,ca,rfl,hlc,hcm,hA⟩:=ha.open_
 obtain ⟨B,cb,rfl,hmc,hcm',hB⟩:=hb.open_
 have HA:=Lib.hid hA
 have HB:=Lib.hid hB
 clear ha hb hA hB
 obtain ⟨n,hn⟩:∃ n,a.length = n:=⟨_,rfl⟩
 obtain ⟨p,hp⟩:∃ p,b.length = p:=⟨_,rfl⟩
 rw [hn] at hlc ⊢
 rw [hp] at hmc ⊢
 have HN:=Lib.hid hn
 have HP:=Lib.hid hp
 clear hn hp
 go_enter Tryz.func213,Tryz.ntmps213
 go_wp2_with fail
 go_loopg [5,6,7,8,11] n (fun g _ _ _ _ i wr=>∃ (j:Nat),wr = w/\i = .int .i64 j/\j + g = n/\j <= p/\Hid (a.take j = b.take j))
 case atStart=>exact ⟨0,rfl,rfl,by omega,by omega,Lib.hid rfl⟩
 obtain ⟨j,rfl,rfl,hj,hjp,HQ⟩:=hrel
 rcases Nat.eq_zero_or_pos gk with h | h
 ·obtain rfl:j = n:=by omega
  have HT:Hid (cmpL a b = if j < p then -1 else 0):=Lib.hid (by
   have h1:=cmpL_pre (a:=a) (b:=b) (by
    have:=HQ.out
    rw [List.take_of_length_le (by rw [HN.out]; exact Nat.le_refl _)] at this
    rw [HN.out]; exact this)
   rwa [HN.out,HP.out] at h1)
  by_cases hlt:j < p
  ·have hd:decide (j < p) = true:=decide_eq_true hlt
   have HT2:Hid (cmpL a b = -1):=Lib.hid (by rw [HT.out,if_pos hlt])
   go_wp2_with fail
   go_ret
   exact ⟨ret_i64 HT2.out.symm,rfl⟩
  have hd:decide (j < p) = false:=decide_eq_false hlt
  have HT2:Hid (cmpL a b = 0):=Lib.hid (by rw [HT.out,if_neg hlt])
  go_wp2_with fail
  go_ret
  exact ⟨ret_i64 HT2.out.symm,rfl⟩
 obtain ⟨g,rfl⟩:∃ g,gk = g + 1:=⟨gk - 1,by omega⟩
 obtain ⟨x,hx⟩:∃ x,a[j]? = some x:=⟨_,List.getElem?_eq_getElem (by rw [HN.out]; omega)⟩
 obtain ⟨ba,oa,rfl,_,hc⟩:=HA.out j x hx
 by_cases hjl:j < p
 ·obtain ⟨y,hy⟩:∃ y,b[j]? = some y:=⟨_,List.getElem?_eq_getElem (by rw [HP.out]; omega)⟩
  obtain ⟨bb,ob,rfl,_,hc'⟩:=HB.out j y hy
  have HX:=Lib.hid hx
  have HY:=Lib.hid hy
  have hd:decide (p <= j) = false:=decide_eq_false (by omega)
  have hd2:decide ((p:Int) <= (j:Int)) = false:=decide_eq_false (by omega)
  clear hx hy
  by_cases hxy:x = y
  ·subst hxy
   have hcc:Lib.compareInt x x = 0:=by simp [Lib.compareInt]
   go_wp2_with fail
   refine (Tryz.cmp_Compare_int x x _).mono ?_
   rintro e w2 ⟨rfl,rfl⟩
   rw [hcc]
   go_wp2_with fail
   go_roundg g
   case measure=>omega
   case rel=>exact ⟨j + 1,rfl,rfl,by omega,by omega,Lib.hid (by rw [take_succ_get _ HX.out,take_succ_get _ HY.out,HQ.out])⟩
  have HF:=Lib.hid (cmpL_at HQ.out HX.out HY.out hxy)
  by_cases hlt:x < y
  ·have hcc:Lib.compareInt x y = -1:=by simp [Lib.compareInt,hlt]
   have HF2:Hid (cmpL a b = -1):=Lib.hid (by rw [HF.out,if_pos hlt])
   clear hxy hlt
   go_wp2_with fail
   refine (Tryz.cmp_Compare_int x y _).mono ?_
   rintro e w2 ⟨rfl,rfl⟩
   rw [hcc]
   go_wp2_with fail
   go_ret
   exact ⟨ret_i64 HF2.out.symm,rfl⟩
  have hcc:Lib.compareInt x y = 1:=by
   have h1:y < x:=by omega
   have h2:¬ x < y:=hlt
   simp [Lib.compareInt,h1,h2]
  have HF2:Hid (cmpL a b = 1):=Lib.hid (by rw [HF.out,if_neg hlt])
  clear hxy hlt
  go_wp2_with fail
  refine (Tryz.cmp_Compare_int x y _).mono ?_
  rintro e w2 ⟨rfl,rfl⟩
  rw [hcc]
  go_wp2_with fail
  go_ret
  exact ⟨ret_i64 HF2.out.symm,rfl⟩
 obtain rfl:j = p:=by omega
 have HF2:Hid (cmpL a b = 1):=Lib.hid (cmpL_more (by
  rw [HP.out,HQ.out,List.take_of_length_le (by rw [HP.out]; exact Nat.le_refl _)]) (by rw [HP.out,HN.out]; omega))
 clear hx
 go_wp2_with fail
 go_ret
 exact ⟨ret_i64 HF2.out.symm,rfl⟩
abbrev Gr:=List Int × Int
def Apart (v u:Value):Prop:=∀ ad n c,u = .slice (some ad) n c->Off v ad.block
def GCells (w:World) (u:Value) (base:Nat) (cells:List Value) (gs:List Gr):Prop :=
 ∀ i g,gs[i]? = some g->∃ c0,cells[i * 2]? = some c0/\cells[i * 2 + 1]? = some (.int .i64 g.2)/\IntsAt w c0 g.1/\From c0 base/\Apart c0 u
def GOwn (base:Nat) (w:World) (v:Value) (gs:List Gr):Prop:=∃ cells,w.ownsRow base 127 2 v gs.length cells/\GCells w v base cells gs
def GramsAt (w:World) (v:Value) (gs:List Gr):Prop:=∃ cells,Sl w 2 v gs.length cells/\∀ i g,gs[i]? = some g->∃ c0,cells[i * 2]? = some c0/\cells[i * 2 + 1]? = some (.int .i64 g.2)/\IntsAt w c0 g.1
theorem GOwn.at_ {base:Nat} {w:World} {v:Value} {gs:List Gr} (h:GOwn base w v gs):GramsAt w v gs:=by
 obtain ⟨cells,h1,h2⟩:=h
 refine ⟨cells,Sl.of_own h1,fun i g hg=>?_⟩
 obtain ⟨c0,e0,e1,e2,_⟩:=h2 i g hg
 exact ⟨c0,e0,e1,e2⟩
theorem GramsAt.below {w w':World} {v:Value} {gs:List Gr} (h:GramsAt w v gs)(hb:Below w.heap.size w w'):GramsAt w' v gs:=by
 obtain ⟨cells,h1,h2⟩:=h
 refine ⟨cells,h1.below hb,fun i g hg=>?_⟩
 obtain ⟨c0,e0,e1,e2⟩:=h2 i g hg
 exact ⟨c0,e0,e1,e2.below hb⟩
theorem GOwn.nil_ (base:Nat) (w:World):GOwn base w (.slice none 0 0) []:=⟨[],World.ownsRow_nil ..,fun i g hg=>by simp at hg⟩
theorem own_below {w w':World} {base:Nat} {e:TypeId} {sz:Nat} {v:Value} {n:Nat} {xs:List Value} (h:w.ownsRow base e sz v n xs)(hb:Below w.heap.size w w'):w'.ownsRow base e sz v n xs:=by
 obtain ⟨h0,h1 | ⟨g,cap,cur,hv,hg,hh,hr⟩⟩:=h
 ·exact ⟨h0,.inl h1⟩
 exact ⟨h0,.inr ⟨g,cap,cur,hv,hg,(hb.block g (Array.getElem?_eq_some_iff.1 hh).1).trans hh,hr⟩⟩
theorem GOwn.below {base:Nat} {w w':World} {v:Value} {gs:List Gr} (h:GOwn base w v gs)(hb:Below w.heap.size w w'):GOwn base w' v gs:=by
 obtain ⟨cells,h1,h2⟩:=h
 refine ⟨cells,own_below h1 hb,fun i g hg=>?_⟩
 obtain ⟨c0,e0,e1,e2,e3,e4⟩:=h2 i g hg
 exact ⟨c0,e0,e1,e2.below hb,e3,e4⟩
theorem GramsAt.open_ {w:World} {v:Value} {gs:List Gr} (h:GramsAt w v gs):∃ A c,v = .slice A gs.length c/\gs.length <= c/\c <= 9223372036854775807 /\
  ∀ j g,gs[j]? = some g->∃ b off c0,A = some ⟨b,off,none⟩/\b < w.heap.size/\w.cell? ⟨b,off + j * 2,none⟩ = some c0/\w.cell? ⟨b,off + j * 2 + 1,none⟩ = some (.int .i64 g.2)/\IntsAt w c0 g.1:=by
 obtain ⟨cells,h1,h2⟩:=h
 obtain ⟨h0,A,c,rfl,hc,hm,h5⟩:=h1
 refine ⟨A,c,rfl,hc,by unfold maxLen at hm; omega,fun j x hx=>?_⟩
 have hj:=(List.getElem?_eq_some_iff.1 hx).1
 obtain ⟨b,off,e,hlt,hcell⟩:=h5 (by omega)
 obtain ⟨c0,e0,e1,hf⟩:=h2 j x hx
 exact ⟨b,off,c0,e,hlt,hcell _ _ e0,by have:=hcell _ _ e1; rwa [<- Nat.add_assoc] at this,hf⟩

theorem IntsAt.len {w:World} {v:Value} {l:List Int} (h:IntsAt w v l):∃ A c,v = .slice A l.length c:=by
 obtain ⟨A,c,e,_⟩:=h.open_
 exact ⟨A,c,e⟩
theorem Sl.head {w:World} {sz:Nat} {A:Option Addr} {c n k:Nat} {xs:List Value} (h:Sl w sz (.slice A n c) n xs)(hk:k <= n):Sl w sz (.slice A k c) k (xs.take (k * sz)):=by
 obtain ⟨h0,A',c',h1,h2,h3,h4⟩:=h
 cases h1
 have hks:k * sz <= n * sz:=Nat.mul_le_mul_right _ hk
 refine ⟨by rw [List.length_take]; omega,A,c,rfl,by omega,h3,fun hk0=>?_⟩
 obtain ⟨b,off,rfl,hb,hc⟩:=h4 (by omega)
 exact ⟨b,off,rfl,hb,fun j u hu=>hc j u (by rw [List.getElem?_take] at hu; split at hu <;> simp_all)⟩
theorem Sl.tail {w:World} {sz:Nat} {b off:Nat} {c n k:Nat} {xs:List Value} (h:Sl w sz (.slice (some ⟨b,off,none⟩) n c) n xs)(hk:k <= n):Sl w sz (.slice (some ⟨b,off + k * sz,none⟩) (n - k) (c - k)) (n - k) (xs.drop (k * sz)):=by
 obtain ⟨h0,A',c',h1,h2,h3,h4⟩:=h
 cases h1
 refine ⟨by rw [List.length_drop,h0,Nat.sub_mul],_,_,rfl,by omega,by omega,fun hk0=>?_⟩
 obtain ⟨b',off',e,hb,hc⟩:=h4 (by omega)
 cases e
 refine ⟨b,off + k * sz,rfl,hb,fun j u hu=>?_⟩
 rw [List.getElem?_drop] at hu
 rw [Nat.add_assoc]
 exact hc _ u hu
theorem Sl.none_ (w:World) (sz:Nat) (A:Option Addr) (c:Nat)(hc:c <= maxLen):Sl w sz (.slice A 0 c) 0 []:=⟨by simp,A,c,rfl,Nat.zero_le _,hc,fun h=>absurd h (by omega)⟩
theorem own_mono {w:World} {base base':Nat} {e:TypeId} {sz:Nat} {v:Value} {n:Nat} {xs:List Value} (h:w.ownsRow base e sz v n xs)(hb:base' <= base):w.ownsRow base' e sz v n xs:=by
 obtain ⟨h0,h1 | ⟨g,cap,cur,hv,hg,hr⟩⟩:=h
 ·exact ⟨h0,.inl h1⟩
 exact ⟨h0,.inr ⟨g,cap,cur,hv,Nat.le_trans hb hg,hr⟩⟩
theorem own_from {w:World} {base:Nat} {e:TypeId} {sz:Nat} {v:Value} {n:Nat} {xs:List Value} (h:w.ownsRow base e sz v n xs):From v base:=From.of_own h

theorem Sl.two (w:World) (x y:Value) (e:TypeId):Sl (w.alloc (.cells #[x,y] e)) 2 (.slice (some ⟨w.heap.size,0,none⟩) 1 1) 1 [x,y]:=by
 have:=(Blk.new w e [x,y]).sl (sz:=2) (n:=1) (c:=1) (by simp) (by omega) (by unfold maxLen; omega)
 simpa using this
theorem IntsAt.off {w:World} {v:Value} {l:List Int} (h:IntsAt w v l) {F:Nat} (hf:w.heap.size <= F):Off v F:=Sl.off h hf
theorem GOwn.insert {base F:Nat} {w w':World} {u v wsl:Value} {gs:List Gr} {CS:List Value} {ws:List Int} {n:Int} {k m:Nat} (hm:CS.length = m * 2)(hgl:gs.length = m)(hc:GCells w u base CS gs)(hb:Below w.heap.size w w')(hF:w.heap.size <= F)
  (hown:w'.ownsRow F 127 2 v (m + 1) (CS.take (k * 2) ++ [wsl,.int .i64 n] ++ CS.drop (k * 2)))(hN:IntsAt w' wsl ws)(hf:From wsl base)(ho:∀ B,F <= B->Off wsl B)(hk:k <= m)(hbF:base <= F) :
  GOwn base w' v (gs.take k ++ (ws,n) :: gs.drop k):=by
 refine ⟨_,by simpa [hgl,Nat.min_eq_left hk,show k + (m - k + 1) = m + 1 by omega] using own_mono hown hbF,?_⟩
 have hfr:=own_from hown
 have hap:∀ c0:Value,(∀ B,F <= B->Off c0 B)->Apart c0 v:=fun c0 h ad a b e=>h _ (hfr ad a b e)
 intro i g hg
 have hlt:(CS.take (k * 2)).length = k * 2:=by rw [List.length_take]; omega
 have hgt:(gs.take k).length = k:=by rw [List.length_take]; omega
 rcases Nat.lt_trichotomy i k with h | h | h
 ·rw [List.getElem?_append_left (by omega),List.getElem?_take_of_lt h] at hg
  obtain ⟨c0,e0,e1,e2,e3,e4⟩:=hc i g hg
  refine ⟨c0,?_,?_,e2.below hb,e3,hap c0 fun B hB=>e2.off (Nat.le_trans hF hB)⟩
  ·rw [List.getElem?_append_left (by omega),List.getElem?_take_of_lt (by omega),e0]
  rw [List.getElem?_append_left (by omega),List.getElem?_take_of_lt (by omega),e1]
 ·subst h
  rw [List.getElem?_append_right (by omega),hgt,Nat.sub_self] at hg
  cases hg
  refine ⟨wsl,?_,?_,hN,hf,hap wsl ho⟩
  ·rw [List.getElem?_append_right (by omega),hlt,Nat.sub_self]; rfl
  rw [List.getElem?_append_right (by omega),hlt,show i * 2 + 1 - i * 2 = 1 by omega]; rfl
 rw [List.getElem?_append_right (by omega),hgt,show i - k = (i - 1 - k) + 1 by omega,List.getElem?_cons_succ,List.getElem?_drop,show k + (i - 1 - k) = i - 1 by omega] at hg
 obtain ⟨c0,e0,e1,e2,e3,e4⟩:=hc (i - 1) g hg
 refine ⟨c0,?_,?_,e2.below hb,e3,hap c0 fun B hB=>e2.off (Nat.le_trans hF hB)⟩
 ·rw [List.getElem?_append_right (by omega),hlt,show i * 2 - k * 2 = (i * 2 - k * 2 - 2) + 1 + 1 by omega,List.getElem?_cons_succ,List.getElem?_cons_succ,List.getElem?_drop,<- e0]
  congr 1
  omega
 rw [List.getElem?_append_right (by omega),hlt,show i * 2 + 1 - k * 2 = (i * 2 + 1 - k * 2 - 2) + 1 + 1 by omega,List.getElem?_cons_succ,List.getElem?_cons_succ,List.getElem?_drop,<- e1]
 congr 1
 omega

def putL:List Gr->List Int->Int->List Gr
 | [],ws,n=>[(ws,n)]
 | g :: gs,ws,n=>if ordL g.1 ws < 0 then g :: putL gs ws n else if ordL g.1 ws = 0 then (g.1,g.2 + n) :: gs else (ws,n) :: g :: gs
end Go.Proofs.YtdehimgccmbfkaaGreat
