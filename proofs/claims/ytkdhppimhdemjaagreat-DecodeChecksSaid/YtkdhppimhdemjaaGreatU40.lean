/- Lemmas on the way: Dm2, Dm3, De1, De2. -/
import Derived.Test.YtkdhppimhdemjaaGreatU39
set_option linter.all false
set_option maxRecDepth 1000000
set_option maxHeartbeats 32000000
namespace Go.Proofs.YtkdhppimhdemjaaGreat
open Go.RowKit
def wR (m:MD):List AV:=[.agg (mC m)]
theorem k8 (x y:MD)(h:wR x = wR y):x = y:=by
 simp only [wR,List.cons.injEq,and_true] at h
 exact ox _ _ (vy h)
noncomputable def longMV:=ofE wR (fun _=>True) fun m=>.b (dk m)
noncomputable def validMV:=ofE wR MD.Ok fun m=>.b (bM m)
theorem wY (m:MD) (s:St):ae longMV [.agg (mC m)] s = some (.b (dk m),s):=bD k8 trivial s
theorem sG {m:MD} (h:m.Ok) (s:St):ae validMV [.agg (mC m)] s = some (.b (bM m),s):=bD k8 h s
theorem bR {l:List (List RF)} {i:Nat} {r:List RF} (h:l[i]? = some r):(l.map fun r=>bF r)[i]? = some (bF r):=by simp [h]
theorem Gz:ag Tryz.prog 239 (ae longMV):=by
 obtain ⟨E,M⟩:=qX
 refine ai (by kernel_rfl) Tryz.func239 Tryz.ntmps239 rfl ?_
 intro args v h
 obtain ⟨m,_,rfl,rfl⟩:=aB h
 refine ⟨rfl,rfl,Nat.le_of_ble_eq_true rfl,?_⟩
 unfold wR mC
 rw [bT,St.of_nil]
 obtain ⟨b1,e1⟩:∃ b,decide ((m.start.length:Int) > 40) = b:=⟨_,rfl⟩
 have g1:decide (40 < m.start.length) = b1:=by rw [<- e1]; exact decide_eq_decide.2 (by omega)
 refine aZ M ?_
 cases b1 with
 | true =>
  refine rg M @e1 ?_
  refine Jd.ret (aA.one rfl rfl ?_)
  unfold dk
  rw [g1]
  rfl
 | false =>
  obtain ⟨b2,e2⟩:∃ b,decide ((m.say.length:Int) > 0) = b:=⟨_,rfl⟩
  cases b2 with
  | false =>
   refine rg M (ax @e1 @e2) ?_
   refine Jd.ret (aA.one rfl rfl ?_)
   unfold dk
   rw [g1,vV (by have:=of_decide_eq_false e2; omega)]
   rfl
  | true =>
   obtain ⟨r,hr⟩:∃ r,m.say[0]? = some r:=⟨_,List.getElem?_eq_getElem (by have:=of_decide_eq_true e2; omega)⟩
   have hlt:0 < m.say.length:=by have:=of_decide_eq_true e2; omega
   obtain ⟨b3,e3⟩:∃ b,decide ((r.length:Int) > 64) = b:=⟨_,rfl⟩
   refine rg M (ax @e1 (ax @e2 (ax @e3 (bR hr)))) ?_
   refine Jd.ret (aA.one rfl rfl ?_)
   unfold dk
   rw [g1,iR hr,Bool.false_or,<- e3]
   exact congrArg AV.b (decide_eq_decide.2 (by omega))
def od (m:MD) (i:Nat):Bool:=decide (1 <= dj m) && Nat.beq (m.move.getD i []).length m.start.length && Nat.beq (m.say.getD i []).length (dj m) && jm m i
def xq (m:MD):Bool:=decide (1 <= m.start.length) && Nat.beq m.fin.length m.start.length && Nat.beq m.move.length m.start.length && Nat.beq m.say.length m.start.length && cG (iY m.start)
theorem kQ {l:List (List RF)} {n k:Nat}:lP l n k = true ↔ l.length = n/\∀ i,i < n->(l.getD i []).length = k:=by
 unfold lP
 simp only [Bool.and_eq_true,List.all_eq_true,Nat.beq_eq]
 constructor
 ·rintro ⟨rfl,h⟩
  refine ⟨rfl,fun i hi=>h _ ?_⟩
  rw [List.getD_eq_getElem?_getD,List.getElem?_eq_getElem hi]
  exact List.getElem_mem hi
 rintro ⟨rfl,h⟩
 refine ⟨rfl,fun x hx=>?_⟩
 obtain ⟨i,hi,rfl⟩:=List.mem_iff_getElem.1 hx
 have:=h i hi
 rwa [List.getD_eq_getElem?_getD,List.getElem?_eq_getElem hi] at this
theorem ji (m:MD):bM m = (xq m && (List.range m.start.length).all (od m)):=by
 rw [Bool.eq_iff_iff]
 unfold bM uG xq od
 simp only [Bool.and_eq_true,decide_eq_true_eq,Nat.beq_eq,kQ,List.all_eq_true,List.mem_range]
 constructor
 ·rintro ⟨⟨⟨⟨⟨⟨h1,h2⟩,h3⟩,h4,h5⟩,h6,h7⟩,h8⟩,h9⟩
  exact ⟨⟨⟨⟨⟨h1,h3⟩,h4⟩,h6⟩,h8⟩,fun i hi=>⟨⟨⟨h2,h5 i hi⟩,h7 i hi⟩,h9 i hi⟩⟩
 rintro ⟨⟨⟨⟨⟨h1,h3⟩,h4⟩,h6⟩,h8⟩,h9⟩
 exact ⟨⟨⟨⟨⟨⟨h1,(h9 0 (by omega)).1.1.1⟩,h3⟩,h4,fun i hi=>(h9 i hi).1.1.2⟩,h6,fun i hi=>(h9 i hi).1.2⟩,h8⟩,fun i hi=>(h9 i hi).2⟩
theorem dP (a b c d e:Bool):(a = true) ∨ (a = false/\b = true) ∨ (a = false/\b = false/\c = true) ∨ (a = false/\b = false/\c = false/\d = true) ∨ (a = false/\b = false/\c = false/\d = false/\e = true) ∨ (a = false/\b = false/\c = false/\d = false/\e = false):=by
 cases a <;> cases b <;> cases c <;> cases d <;> cases e <;> simp
theorem nE {a b:Nat} {t:Bool} (h:(!decide ((a:Int) = (b:Int))) = t):Nat.beq a b = !t:=by
 subst h
 rw [Bool.not_not,Bool.eq_iff_iff,decide_eq_true_eq,Nat.beq_eq]
 omega
theorem Di:ag Tryz.prog 243 (ae validMV):=by
 obtain ⟨E,M,c1,c2⟩:=y8 eN (ae leavingV) ⟨rQ,zz⟩ rfl
 refine ai (by kernel_rfl) Tryz.func243 Tryz.ntmps243 rfl ?_
 intro args v h
 obtain ⟨m,ok,rfl,rfl⟩:=aB h
 obtain ⟨⟨s1,s2⟩,⟨m1,m2⟩,⟨f1,f2⟩,y1,y2⟩:=ok
 refine ⟨rfl,rfl,Nat.le_of_ble_eq_true rfl,?_⟩
 unfold wR mC
 rw [bT,St.of_nil]
 have hd:=gz s1 (by omega)
 refine aZ M ?_
 refine aZ M ?_
 refine Jd.seq ?_
 obtain ⟨b1,e1⟩:∃ b,decide ((m.start.length:Int) < 1) = b:=⟨_,rfl⟩
 obtain ⟨b2,e2⟩:∃ b,(!decide ((m.fin.length:Int) = (m.start.length:Int))) = b:=⟨_,rfl⟩
 obtain ⟨b3,e3⟩:∃ b,(!decide ((m.move.length:Int) = (m.start.length:Int))) = b:=⟨_,rfl⟩
 obtain ⟨b4,e4⟩:∃ b,(!decide ((m.say.length:Int) = (m.start.length:Int))) = b:=⟨_,rfl⟩
 obtain ⟨b5,e5⟩:∃ b,cG (iY m.start) = !b:=⟨!cG (iY m.start),by simp⟩
 have hh:xq m = (!b1 && !b2 && !b3 && !b4 && !b5):=by
  unfold xq
  rw [nE e2,nE e3,nE e4,e5,<- e1,show decide (1 <= m.start.length) = !decide ((m.start.length:Int) < 1) by rw [<- decide_not]; exact decide_eq_decide.2 (by omega)]
 rw [e5] at hd
 rcases dP b1 b2 b3 b4 b5 with rfl | ⟨rfl,rfl⟩ | ⟨rfl,rfl,rfl⟩ | ⟨rfl,rfl,rfl,rfl⟩ | ⟨rfl,rfl,rfl,rfl,rfl⟩ | ⟨rfl,rfl,rfl,rfl,rfl⟩
 iterate 5 (· (refine rg M (ax @e1 (ax @e2 (ax @e3 (ax @e4 (ax @c1 (ax @hd (ax @Bool.not_true @Bool.not_false))))))) ?_; refine cT rfl ?_; refine aZ M ?_; refine Jd.retT (aA.one rfl rfl ?_); rw [ji,hh]; rfl))
 have hh:xq m = true:=hh
 have l0:0 < m.start.length:=by have:=of_decide_eq_false e1; omega
 have lf:m.fin.length = m.start.length:=by have:=nE e2; exact Nat.eq_of_beq_eq_true this
 have lm:m.move.length = m.start.length:=by have:=nE e3; exact Nat.eq_of_beq_eq_true this
 have ls:m.say.length = m.start.length:=by have:=nE e4; exact Nat.eq_of_beq_eq_true this
 refine rg M (ax @e1 (ax @e2 (ax @e3 (ax @e4 (ax @c1 (ax @hd (ax @Bool.not_true @Bool.not_false))))))) ?_
 refine lF rfl ?_
 obtain ⟨r0,hr0⟩:∃ r,m.say[0]? = some r:=⟨_,List.getElem?_eq_getElem (by omega)⟩
 have hk:=iR hr0
 refine rg M (bR hr0) ?_
 refine Jd.seq ?_
 refine aZ M ?_
 refine Jd.loopB (fun k g s=>∃ i:Nat,i + k = m.start.length/\(∀ j,j < i->od m j = true)/\g = ⟨243,92,Tr.of [(44,.i .i64 (i:Int)),(43,.i .i64 (m.start.length:Int)),(4,.i .i64 (r0.length:Int)),(3,.i .i64 (m.start.length:Int)),(1,.ptr 0 0)],none,[]⟩/\s = St.of [(0,some (.cells [bF m.start,cq m.move,bF m.fin,cq m.say] 76 false))] 1) m.start.length ?_ ?_
 ·exact ⟨_,_,(To.ofL (nx2:=1) [0] [(44,.i .i64 ((0:Nat):Int)),(43,.i .i64 (m.start.length:Int)),(4,.i .i64 (r0.length:Int)),(3,.i .i64 (m.start.length:Int)),(1,.ptr 0 0)] [(0,some (.cells [bF m.start,cq m.move,bF m.fin,cq m.say] 76 false))] rfl (by decide) (by first | exact aY | exact base_one | exact base_two) (by repeat' first | exact trivial | refine ⟨⟨_,rfl,by first | exact Wk.refl _ _ | exact Wk.bare rfl | exact Wk.zero _ | exact Wk.none _⟩,?_⟩) (by repeat' first | exact trivial | refine ⟨⟨Nat.le_of_ble_eq_true rfl,_,_,rfl,rfl,by first | exact bU.same rfl | exact bU.same (fr_bare _) | exact bU.same (bs_bare _) | exact bU.same (is_bare _) | exact bU.cells rfl⟩,?_⟩)),0,by omega,fun j hj=>by omega,rfl,rfl⟩
 rintro k _ _ ⟨i,hi,hj,rfl,rfl⟩ Q' hex hret hgo
 refine aZ M ?_
 refine Jd.seq ?_
 refine Jd.cnd rfl (fun h1=>?_) (fun h1=>?_)
 rotate_left
 ·refine Jd.exitT (hex _ _ ?_)
  show Jb _ _ _ _ _ _
  have hi2:i = m.start.length:=by have:=of_decide_eq_false h1; omega
  subst hi2
  refine aZ M ?_
  refine Jd.ret (aA.one rfl rfl ?_)
  rw [ji,hh,List.all_eq_true.2 fun j hjm=>hj j (List.mem_range.1 hjm)]
  rfl
 have hil:i < m.start.length:=by have:=of_decide_eq_true h1; omega
 have bad:od m i = false->bM m = false:=fun h=>by rw [ji,hh,Bool.true_and]; exact List.all_eq_false.2 ⟨i,List.mem_range.2 hil,by rw [h]; simp⟩
 obtain ⟨mr,hmr⟩:∃ r,m.move[i]? = some r:=⟨_,List.getElem?_eq_getElem (by omega)⟩
 obtain ⟨yr,hyr⟩:∃ r,m.say[i]? = some r:=⟨_,List.getElem?_eq_getElem (by omega)⟩
 obtain ⟨x,hx⟩:∃ r,m.fin[i]? = some r:=⟨_,List.getElem?_eq_getElem (by omega)⟩
 obtain ⟨okm,lmr⟩:=m1 mr (List.mem_of_getElem? hmr)
 obtain ⟨oky,lyr⟩:=y1 yr (List.mem_of_getElem? hyr)
 have okx:=f1 x (List.mem_of_getElem? hx)
 have hrb:od m i = (decide (1 <= dj m) && Nat.beq mr.length m.start.length && Nat.beq yr.length (dj m) && (cG (iY yr) && cG (iY (mr ++ [x])))):=by
  unfold od jm
  rw [Aw hyr,AG hmr hx,List.getD_eq_getElem?_getD,hmr,List.getD_eq_getElem?_getD,hyr]
  rfl
 refine Jd.skipT ?_
 refine Jd.seq (Jd.block ?_)
 clear hex
 refine aZ M ?_
 refine Jd.seq ?_
 obtain ⟨b1,e1⟩:∃ b,(!decide ((mr.length:Int) = (m.start.length:Int))) = b:=⟨_,rfl⟩
 obtain ⟨b2,e2⟩:∃ b,(!decide ((yr.length:Int) = (r0.length:Int))) = b:=⟨_,rfl⟩
 obtain ⟨b3,e3⟩:∃ b,decide ((r0.length:Int) < 1) = b:=⟨_,rfl⟩
 rw [hk,nE e1,nE e2,show decide (1 <= r0.length) = !b3 by rw [<- e3,<- decide_not]; exact decide_eq_decide.2 (by omega)] at hrb
 rcases dP b1 b2 b3 true true with rfl | ⟨rfl,rfl⟩ | ⟨rfl,rfl,rfl⟩ | ⟨rfl,rfl,rfl,_⟩ | ⟨_,_,_,h,_⟩ | ⟨_,_,_,h,_⟩
 rotate_left 4
 ·cases h
 ·cases h
 iterate 3 (· (refine rg M (ax @Int.toNat_natCast (ax (bR hmr) (ax (bR hyr) (ax @e1 (ax @e2 @e3))))) ?_; refine cT rfl ?_; refine aZ M ?_; refine Jd.ret ?_; refine hret _ _ ?_; refine iE.r (aA.one rfl rfl ?_); rw [bad (by rw [hrb]; simp)]))
 refine rg M (ax @Int.toNat_natCast (ax (bR hmr) (ax (bR hyr) (ax @e1 (ax @e2 @e3))))) ?_
 refine lF rfl ?_
 have hlv:∀ s,ae leavingV [bF mr,.agg (rC x)] s = some (bF (mr ++ [x]),s):=bD (d:=(mr,x)) zb ⟨okm,okx,by have:=Nat.eq_of_beq_eq_true (nE e1); show 1 <= mr.length; omega,lmr⟩
 have okl:∀ z ∈ mr ++ [x],z.Ok:=fun z hz=>by
  rcases List.mem_append.1 hz with h | h
  ·exact okm z h
  rw [List.mem_singleton.1 h]; exact okx
 have hd2:=gz okl (by simp; omega)
 have hd3:=gz oky (by omega)
 obtain ⟨b4,e4⟩:∃ b,cG (iY (mr ++ [x])) = !b:=⟨!cG (iY (mr ++ [x])),by simp⟩
 obtain ⟨b5,e5⟩:∃ b,cG (iY yr) = !b:=⟨!cG (iY yr),by simp⟩
 rw [e4] at hd2
 rw [e5] at hd3
 rw [e4,e5] at hrb
 refine Jb.toL (nx2:=1) [0] [(5,.i .i64 (i:Int)),(44,.i .i64 (i:Int)),(43,.i .i64 (m.start.length:Int)),(4,.i .i64 (r0.length:Int)),(3,.i .i64 (m.start.length:Int)),(1,.ptr 0 0)] [(0,some (.cells [bF m.start,cq m.move,bF m.fin,cq m.say] 76 false))] rfl (by decide) (by first | exact aY | exact base_one | exact base_two) (by repeat' first | exact trivial | refine ⟨⟨_,rfl,by first | exact Wk.refl _ _ | exact Wk.bare rfl | exact Wk.zero _ | exact Wk.none _⟩,?_⟩) (by repeat' first | exact trivial | refine ⟨⟨Nat.le_of_ble_eq_true rfl,_,_,rfl,rfl,by first | exact bU.same rfl | exact bU.same (fr_bare _) | exact bU.same (bs_bare _) | exact bU.same (is_bare _) | exact bU.cells rfl⟩,?_⟩) ?_
 cases b4 with
 | true =>
  refine dr M [] (ax @Int.toNat_natCast (ax (bR hmr) (ax (pX hx) (ax @okx.flat (ax @fE (ax @c1 (ax @c2 (ax @hlv (ax @hd2 (ax @Bool.not_true @Bool.not_false)))))))))) ?_
  refine cT rfl ?_
  refine aZ M ?_
  refine Jd.ret ?_
  refine hret _ _ ?_
  refine iE.r (aA.one rfl rfl ?_)
  rw [bad (by rw [hrb]; simp)]
 | false =>
  cases b5 with
  | true =>
   refine dr M [] (ax @Int.toNat_natCast (ax (bR hmr) (ax (bR hyr) (ax (pX hx) (ax @okx.flat (ax @fE (ax @c1 (ax @c2 (ax @hlv (ax @hd2 (ax @hd3 (ax @Bool.not_true @Bool.not_false)))))))))))) ?_
   refine cT rfl ?_
   refine aZ M ?_
   refine Jd.ret ?_
   refine hret _ _ ?_
   refine iE.r (aA.one rfl rfl ?_)
   rw [bad (by rw [hrb]; simp)]
  | false =>
   refine dr M [] (ax @Int.toNat_natCast (ax (bR hmr) (ax (bR hyr) (ax (pX hx) (ax @okx.flat (ax @fE (ax @c1 (ax @c2 (ax @hlv (ax @hd2 (ax @hd3 (ax @Bool.not_true @Bool.not_false)))))))))))) ?_
   refine cF rfl ?_
   refine Jd.skip ?_
   refine dX.norm ?_
   show Jb _ _ _ _ _ _
   refine nZ M ?_
   refine hgo _ _ ⟨k - 1,_,_,by omega,(To.ofL (nx2:=1) [0] [(44,.i .i64 ((i + 1:Nat):Int)),(43,.i .i64 (m.start.length:Int)),(4,.i .i64 (r0.length:Int)),(3,.i .i64 (m.start.length:Int)),(1,.ptr 0 0)] [(0,some (.cells [bF m.start,cq m.move,bF m.fin,cq m.say] 76 false))] rfl (by decide) (by first | exact aY | exact base_one | exact base_two) (by repeat' first | exact trivial | refine ⟨⟨_,rfl,by first | exact Wk.refl _ _ | exact Wk.bare rfl | exact Wk.zero _ | exact Wk.none _⟩,?_⟩) (by repeat' first | exact trivial | refine ⟨⟨Nat.le_of_ble_eq_true rfl,_,_,rfl,rfl,by first | exact bU.same rfl | exact bU.same (fr_bare _) | exact bU.same (bs_bare _) | exact bU.same (is_bare _) | exact bU.cells rfl⟩,?_⟩)),i + 1,by omega,fun j hj2=>?_,rfl,rfl⟩
   rcases Nat.lt_succ_iff_lt_or_eq.1 hj2 with h | rfl
   ·exact hj j h
   rw [hrb]; rfl
def OU (l:List Int):List AV:=[.vw (is l) l.length]
noncomputable def longOV:=ofE OU (fun _=>True) fun l=>.b (decide (1000 < l.length))
theorem Dv:ag Tryz.prog 241 (ae longOV):=by
 obtain ⟨E,M⟩:=qX
 refine ai (by kernel_rfl) Tryz.func241 Tryz.ntmps241 rfl ?_
 intro args v h
 obtain ⟨l,_,rfl,rfl⟩:=aB h
 refine ⟨rfl,rfl,Nat.le_of_ble_eq_true rfl,?_⟩
 unfold OU
 rw [bT,St.of_nil]
 refine aZ M ?_
 refine aZ M ?_
 exact Jd.ret (aA.one rfl rfl (congrArg AV.b (decide_eq_decide.2 (by omega))))
noncomputable def badMV:=ofE wR MD.Ok fun m=>.b (!bM m)
theorem Du:ag Tryz.prog 242 (ae badMV):=by
 obtain ⟨E,M,c1⟩:=i3 (ae validMV) Di rfl
 refine ai (by kernel_rfl) Tryz.func242 Tryz.ntmps242 rfl ?_
 intro args v h
 obtain ⟨m,ok,rfl,rfl⟩:=aB h
 refine ⟨rfl,rfl,Nat.le_of_ble_eq_true rfl,?_⟩
 have hv:=sG ok
 unfold wR
 unfold mC at hv ⊢
 rw [bT,St.of_nil]
 refine aZ M ?_
 refine rg M (ax @c1 @hv) ?_
 exact Jd.ret (aA.one rfl rfl rfl)
def Ms (m:MD):List AV:=[.vw (mC m) 1,.vw [] 0]
theorem Js (x y:MD)(h:Ms x = Ms y):x = y:=by
 simp only [Ms,List.cons.injEq,AV.vw.injEq,and_true] at h
 exact ox _ _ h
noncomputable def checkMV:=ofE Ms MD.Ok fun m=>.i .i64 (gQ m)
noncomputable def ocM:Oc:=[(239,ae longMV),(242,ae badMV)]
theorem Lk:∀ p ∈ ocM,ag Tryz.prog p.1 p.2:=by unfold ocM; simp only [List.forall_mem_cons]; exact ⟨Gz,Du,fun p hp=>by cases hp⟩
theorem JE (m:MD) (s:St):ae (anyVM ocM) [.vw (mC m) 1,.fn 239 [] []] s = some (.b (dk m),s):=by
 have h:=pD (L:=ocM) (cell:=fX) (el:=fun x=>.agg (mC x)) (l:=[m]) (cv:=.fn 239 [] []) (p:=dk) je lp rfl (by simp) (fun x _=>⟨_,rfl,fun s=>wY x s⟩) s
 rw [show [m].flatMap fX = mC m from List.append_nil _,show [m].any dk = dk m from Bool.or_false _] at h
 exact h
theorem LW {m:MD} (ok:m.Ok) (s:St):ae (anyVM ocM) [.vw (mC m) 1,.fn 242 [] []] s = some (.b (!bM m),s):=by
 have h:=pD (L:=ocM) (cell:=fX) (el:=fun x=>.agg (mC x)) (l:=[m]) (cv:=.fn 242 [] []) (p:=fun m=>!bM m) je lp rfl (by simp) (fun x hx=>⟨_,rfl,fun s=>by rw [List.mem_singleton.1 hx]; exact bD k8 ok s⟩) s
 rw [show [m].flatMap fX = mC m from List.append_nil _,show ([m].any fun m=>!bM m) = !bM m from Bool.or_false _] at h
 exact h
noncomputable def ocO:Oc:=[(241,ae longOV)]
theorem NK (s:St):ae (anyVL ocO) [.vw [] 0,.fn 241 [] []] s = some (.b false,s) :=
 pD (L:=ocO) (cell:=jf) (el:=fun x=>.vw (is x) x.length) (l:=[]) (cv:=.fn 241 [] []) (p:=fun _=>false) oP ud rfl (by simp) (fun x hx=>by cases hx) s
theorem Dt:ag Tryz.prog 165 (ae checkMV):=by
 obtain ⟨E,M,c1,c2⟩:=y8 (ae (anyVM ocM)) (ae (anyVL ocO)) ⟨BG ocM Lk,JS ocO (by unfold ocO; simp only [List.forall_mem_cons]; exact ⟨Dv,fun p hp=>by cases hp⟩)⟩ rfl
 refine ai (by kernel_rfl) Tryz.func165 Tryz.ntmps165 rfl ?_
 intro args v h
 obtain ⟨m,ok,rfl,rfl⟩:=aB h
 refine ⟨rfl,rfl,Nat.le_of_ble_eq_true rfl,?_⟩
 unfold Ms
 rw [bS,St.of_nil]
 have h1:=JE m
 have h2:=LW ok
 have h3:=NK
 refine aZ M ?_
 obtain ⟨b1,e1⟩:∃ b,dk m = b:=⟨_,rfl⟩
 obtain ⟨b2,e2⟩:∃ b,(!bM m) = b:=⟨_,rfl⟩
 rw [e1] at h1
 rw [e2] at h2
 have hc:gQ m = if b1 = true then 5 else if b2 = false then 0 else 2:=by
  unfold gQ
  rw [e1]
  cases hv:bM m <;> rw [hv] at e2 <;> subst e2 <;> rfl
 refine Jd.seq ?_
 cases b1 with
 | true =>
  refine rg M (ax @c1 @h1) ?_
  refine cT rfl ?_
  refine aZ M ?_
  exact Jd.retT (aA.one rfl rfl (by rw [hc]; rfl))
 | false =>
  refine rg M (ax @c1 (ax @c2 (ax @h1 @h3))) ?_
  refine lF rfl ?_
  refine Jd.seq ?_
  refine rg M (ax @c1 @h2) ?_
  cases b2 with
  | true =>
   refine cT rfl ?_
   refine aZ M ?_
   exact Jd.retT (aA.one rfl rfl (by rw [hc]; rfl))
  | false =>
   refine lF rfl ?_
   refine Jd.seq ?_
   refine aZ M ?_
   refine Jd.block (Jd.loop ?_)
   refine aZ M ?_
   refine Jd.seq ?_
   refine Jd.cnd rfl (fun h=>by simp at h) (fun _=>?_)
   refine Jd.exit ?_
   refine iE.x (iE.x (dX.out ?_))
   show Jb _ _ _ _ _ _
   refine aZ M ?_
   exact Jd.ret (aA.one rfl rfl (by rw [hc]; rfl))
noncomputable def checkV1:=ofE wR MD.Ok fun m=>.i .i64 (gQ m)
theorem tV {m:MD} (ok:m.Ok) (s:St):ae checkV1 [.agg (mC m)] s = some (.i .i64 (gQ m),s):=bD k8 ok s
theorem up:ag Tryz.prog 91 (ae checkV1):=by
 obtain ⟨E,M,c1⟩:=i3 (fB checkMV) (gq Dt) rfl
 refine ai (by kernel_rfl) Tryz.func91 Tryz.ntmps91 rfl ?_
 intro args v h
 obtain ⟨m,ok,rfl,rfl⟩:=aB h
 refine ⟨rfl,rfl,Nat.le_of_ble_eq_true rfl,?_⟩
 unfold wR
 rw [bT,St.of_nil]
 have hv:fB checkMV [.sl 1 0 1 1,.snil] (St.of [(1,some (.cells (mC m) 76 false)),(0,some (.cells (mC m) 76 false))] 2) = some (.i .i64 (gQ m),St.of [(1,some (.cells (mC m) 76 false)),(0,some (.cells (mC m) 76 false))] 2) :=
  nD (xs:=Ms m) (by simp only [lR,pt,St.of_get]; rfl) (jr Js ok) rfl
 unfold mC at hv ⊢
 refine aZ M ?_
 refine rg M (ax @c1 @hv) ?_
 exact Jd.ret (aA.one rfl rfl rfl)
noncomputable def symV:=ofE wR (fun _=>True) fun m=>.i .i64 (dj m)
theorem n7 (m:MD) (s:St):ae symV [.agg (mC m)] s = some (.i .i64 (dj m),s):=bD (f:=fun m=>.i .i64 (dj m)) k8 trivial s
theorem lA:ag Tryz.prog 27 (ae symV):=by
 obtain ⟨E,M⟩:=qX
 refine ai (by kernel_rfl) Tryz.func27 Tryz.ntmps27 rfl ?_
 intro args v h
 obtain ⟨m,_,rfl,rfl⟩:=aB h
 refine ⟨rfl,rfl,Nat.le_of_ble_eq_true rfl,?_⟩
 unfold wR mC
 rw [bT,St.of_nil]
 refine aZ M ?_
 refine Jd.seq ?_
 obtain ⟨b,hb⟩:∃ b,decide ((m.say.length:Int) = 0) = b:=⟨_,rfl⟩
 refine rg M @hb ?_
 refine Jd.cnd rfl (fun h1=>?_) (fun h1=>?_)
 ·refine aZ M ?_
  refine Jd.retT (aA.one rfl rfl ?_)
  rw [vV (by subst h1; have:=of_decide_eq_true hb; omega)]
  rfl
 refine Jd.skipT ?_
 have hlt:0 < m.say.length:=by subst h1; have:=of_decide_eq_false hb; omega
 obtain ⟨r,hr⟩:∃ r,m.say[0]? = some r:=⟨_,List.getElem?_eq_getElem hlt⟩
 refine rg M (bR hr) ?_
 refine Jd.ret (aA.one rfl rfl ?_)
 rw [iR hr]
theorem Dp:ag Tryz.prog 99 (ae longMV):=by
 obtain ⟨E,M,c1⟩:=i3 (ae symV) lA rfl
 refine ai (by kernel_rfl) Tryz.func99 Tryz.ntmps99 rfl ?_
 intro args v h
 obtain ⟨m,_,rfl,rfl⟩:=aB h
 refine ⟨rfl,rfl,Nat.le_of_ble_eq_true rfl,?_⟩
 have hs:=n7 m
 unfold wR
 unfold mC at hs ⊢
 rw [bT,St.of_nil]
 obtain ⟨b1,e1⟩:∃ b,decide ((m.start.length:Int) > 40) = b:=⟨_,rfl⟩
 have g1:decide (40 < m.start.length) = b1:=by rw [<- e1]; exact decide_eq_decide.2 (by omega)
 have hl:dk m = (b1 || decide (64 < dj m)):=by unfold dk; rw [g1]
 refine aZ M ?_
 cases b1 with
 | true =>
  refine rg M @e1 ?_
  exact Jd.ret (aA.one rfl rfl (by rw [hl]; rfl))
 | false =>
  refine rg M (ax @e1 (ax @c1 @hs)) ?_
  exact Jd.ret (aA.one rfl rfl (by rw [hl,Bool.false_or]; exact congrArg AV.b (decide_eq_decide.2 (by omega))))
def wk (d:List (List RF) × Nat × Nat):List AV:=[cq d.1,.i .i64 d.2.1,.i .i64 d.2.2]
theorem Cq (x y:List (List RF) × Nat × Nat)(h:wk x = wk y):x = y:=by
 obtain ⟨a,b,c⟩:=x; obtain ⟨a',b',c'⟩:=y
 simp only [wk,List.cons.injEq,AV.i.injEq,and_true,true_and] at h
 obtain ⟨h1,h2,h3⟩:=h
 obtain rfl:=oc h1
 rw [show b = b' by omega,show c = c' by omega]
def KR (d:List (List RF) × Nat × Nat):Prop:=d.1.length <= 1000
noncomputable def rowsV:=ofE wk KR fun d=>.b (lP d.1 d.2.1 d.2.2)
theorem wj {l:List (List RF)} (n k:Nat)(h:l.length <= 1000) (s:St):ae rowsV [cq l,.i .i64 n,.i .i64 k] s = some (.b (lP l n k),s):=bD (d:=(l,n,k)) Cq h s
theorem Gx:ag Tryz.prog 174 (ae rowsV):=by
 obtain ⟨E,M⟩:=qX
 refine ai (by kernel_rfl) Tryz.func174 Tryz.ntmps174 rfl ?_
 intro args v h
 obtain ⟨⟨l,n,k⟩,hl,rfl,rfl⟩:=aB h
 have hl:l.length <= 1000:=hl
 refine ⟨rfl,rfl,Nat.le_of_ble_eq_true rfl,?_⟩
 unfold wk
 dsimp only
 rw [p8,St.of_nil]
 refine aZ M ?_
 refine Jd.seq ?_
 obtain ⟨b,hb⟩:∃ b,(!decide ((l.length:Int) = (n:Int))) = b:=⟨_,rfl⟩
 have hr:lP l n k = (!b && l.all fun r=>Nat.beq r.length k):=by unfold lP; rw [nE hb]
 refine rg M @hb ?_
 cases b with
 | true =>
  refine cT rfl ?_
  refine aZ M ?_
  exact Jd.retT (aA.one rfl rfl (by rw [hr]; rfl))
 | false =>
 refine lF rfl ?_
 have hn:l.length = n:=Nat.eq_of_beq_eq_true (nE hb)
 refine Jd.seq ?_
 refine aZ M ?_
 refine Jd.loopB (fun j g s=>∃ i:Nat,i + j = n/\(∀ r ∈ l.take i,Nat.beq r.length k = true)/\g = ⟨174,24,Tr.of [(7,.i .i64 (i:Int)),(2,.i .i64 (k:Int)),(1,.i .i64 (n:Int)),(0,cq l)],none,[]⟩/\s = St.of [] 0) n ?_ ?_
 ·exact ⟨_,_,(To.ofL (nx2:=0) [] [(7,.i .i64 ((0:Nat):Int)),(2,.i .i64 (k:Int)),(1,.i .i64 (n:Int)),(0,cq l)] [] rfl (by decide) (by first | exact aY | exact base_one | exact base_two) (by repeat' first | exact trivial | refine ⟨⟨_,rfl,by first | exact Wk.refl _ _ | exact Wk.bare rfl | exact Wk.zero _ | exact Wk.none _⟩,?_⟩) (trivial)),0,by omega,by simp,rfl,rfl⟩
 rintro j _ _ ⟨i,hi,hj,rfl,rfl⟩ Q' hex hret hgo
 refine Jd.seq ?_
 refine aZ M ?_
 refine Jd.cnd rfl (fun h1=>?_) (fun h1=>?_)
 rotate_left
 ·refine Jd.exitT (hex _ _ ?_)
  show Jb _ _ _ _ _ _
  have hi2:i = l.length:=by have:=of_decide_eq_false h1; omega
  rw [hi2,List.take_length] at hj
  refine aZ M ?_
  exact Jd.ret (aA.one rfl rfl (by rw [hr,List.all_eq_true.2 hj]; rfl))
 have hil:i < l.length:=by have:=of_decide_eq_true h1; omega
 obtain ⟨r,hx⟩:∃ r,l[i]? = some r:=⟨_,List.getElem?_eq_getElem hil⟩
 refine Jd.skipT ?_
 refine Jd.seq (Jd.block ?_)
 clear hex
 obtain ⟨b,he⟩:∃ b,(!decide ((r.length:Int) = (k:Int))) = b:=⟨_,rfl⟩
 refine rg M (ax @Int.toNat_natCast (ax (bR hx) @he)) ?_
 cases b with
 | true =>
  refine cT rfl ?_
  refine aZ M ?_
  refine Jd.ret ?_
  refine hret _ _ ?_
  refine iE.r (aA.one rfl rfl ?_)
  rw [hr,List.all_eq_false.2 ⟨r,List.mem_of_getElem? hx,by rw [nE he]; simp⟩]
  rfl
 | false =>
  refine cF rfl ?_
  refine Jd.skip ?_
  refine dX.norm ?_
  show Jb _ _ _ _ _ _
  refine nZ M ?_
  refine hgo _ _ ⟨j - 1,_,_,by omega,(To.ofL (nx2:=0) [] [(7,.i .i64 ((i + 1:Nat):Int)),(2,.i .i64 (k:Int)),(1,.i .i64 (n:Int)),(0,cq l)] [] rfl (by decide) (by first | exact aY | exact base_one | exact base_two) (by repeat' first | exact trivial | refine ⟨⟨_,rfl,by first | exact Wk.refl _ _ | exact Wk.bare rfl | exact Wk.zero _ | exact Wk.none _⟩,?_⟩) (trivial)),i + 1,by omega,fun z hz=>?_,rfl,rfl⟩
  rw [List.take_add_one,hx] at hz
  rcases List.mem_append.1 hz with h | h
  ·exact hj z h
  simp at h; subst h; exact nE he
theorem JB {P:Program} {t e:TypeId} {z:Nat} {zv:AV} (hu:P.underlying t = some (.slice e))(hz:bP P e = some zv)(hc:zk P e zv z = true) (n:Nat) (s:St) {c:List AV} (hl:c.length = n * z)(hf:c.all flat = true)(hn:1 <= n)(hm:n * z <= 1000000) :
  lH P t t .snil (.vw c n) s = some (.sl s.nx 0 n (cW + z),s.new (.cells c e true)):=by
 obtain ⟨i,hi,h1,h3,h2,h4,rfl,h6⟩:=kD hc
 have hb:0 < i.size:=by simpa [Nat.blt_eq] using h2
 unfold lH
 simp only [hu,fR,hi,hz,cA,fW hl,Option.bind_some,hf,cond_true,List.length_nil,Nat.zero_add,h1,h2,h3,h4,hl,cQ hm,Bool.true_and,Bool.and_true,Nat.mul_div_cancel _ hb]
 rw [show Nat.beq (n * i.size) 0 = false from by
  cases h:Nat.beq (n * i.size) 0 with
  | false=>rfl
  | true =>
   have h:=Nat.eq_of_beq_eq_true h
   have:1 * 1 <= n * i.size:=Nat.mul_le_mul hn hb
   omega]
 rfl
def xg (d:MD × Nat):List AV:=[.agg (mC d.1),.i .i64 d.2]
theorem CH (x y:MD × Nat)(h:xg x = xg y):x = y:=by
 obtain ⟨a,b⟩:=x; obtain ⟨a',b'⟩:=y
 simp only [xg,List.cons.injEq,AV.i.injEq,and_true,true_and] at h
 obtain ⟨h1,h2⟩:=h
 rw [ox _ _ (vy h1),show b = b' by omega]
def Lr (d:MD × Nat):Prop:=d.1.Ok/\d.2 < d.1.fin.length/\∃ r,d.1.move[d.2]? = some r/\1 <= r.length
noncomputable def leavV:=ofE xg Lr fun d=>bF (d.1.move.getD d.2 [] ++ (d.1.fin.drop d.2).take 1)
theorem II {m:MD} {i:Nat} {r:List RF} {x:RF} (ok:m.Ok)(hr:m.move[i]? = some r)(h1:1 <= r.length)(hx:m.fin[i]? = some x) (s:St):ae leavV [.agg (mC m),.i .i64 i] s = some (bF (r ++ [x]),s):=by
 have hl:=(List.getElem?_eq_some_iff.1 hx)
 refine (bD (d:=(m,i)) CH ⟨ok,hl.1,r,hr,h1⟩ s).trans ?_
 dsimp only
 rw [List.getD_eq_getElem?_getD,hr,List.drop_eq_getElem_cons hl.1,hl.2]
 rfl
theorem GG:ag Tryz.prog 175 (ae leavV):=by
 obtain ⟨E,M⟩:=qX
 refine ai (by kernel_rfl) Tryz.func175 Tryz.ntmps175 rfl ?_
 intro args v h
 obtain ⟨⟨m,i⟩,⟨ok,hi,r,hr,h1⟩,rfl,rfl⟩:=aB h
 dsimp only at ok hi hr
 refine ⟨rfl,rfl,Nat.le_of_ble_eq_true rfl,?_⟩
 obtain ⟨x,hx⟩:∃ x,m.fin[i]? = some x:=⟨_,List.getElem?_eq_getElem hi⟩
 have hxl:=(List.getElem?_eq_some_iff.1 hx)
 have e:m.move.getD i [] ++ (m.fin.drop i).take 1 = r ++ [x]:=by
  rw [List.getD_eq_getElem?_getD,hr,List.drop_eq_getElem_cons hxl.1,hxl.2]
  rfl
 dsimp only
 rw [e]
 have im:=(List.getElem?_eq_some_iff.1 hr).1
 obtain ⟨okr,lr⟩:=ok.hm.1 r (List.mem_of_getElem? hr)
 have okx:=ok.hf.1 x (List.mem_of_getElem? hx)
 have l2:=ok.hm.2
 have hl:=gg r
 have ha:=fun s=>JB (P:=Tryz.prog) Tryz.underlying31 (show bP Tryz.prog 30 = some (.agg [.b false,.snil,.snil]) by kernel_rfl) (show zk Tryz.prog 30 (.agg [.b false,.snil,.snil]) 3 = true by kernel_rfl) r.length s hl (mZ okr) h1 (by omega)
 unfold xg mC
 dsimp only
 rw [bS,St.of_nil]
 refine aZ M ?_
 refine dr M [] (ax @Int.toNat_natCast (ax (bR hr) (ax (pX hx) (ax @ha (ax @okx.flat (ax @fE (show getR (rC x) 0 3 = some (rC x) from rfl))))))) ?_
 refine Jd.freezeL (nx2:=0) 3 (jO r ++ rC x) [] [(4,.vw (jO r ++ rC x) (r.length + 1))] [] rfl ?_ rfl (by decide) (by repeat' first | exact trivial | refine ⟨⟨_,rfl,by first | exact Wk.frz_sl (off:=0) (by have:=gA; omega) | exact Wk.refl _ _ | exact Wk.bare rfl | exact Wk.zero _ | exact Wk.none _⟩,?_⟩) (trivial) ?_
 ·rw [cR,dH okr,okx.bare]; rfl
 exact Jd.ret (aA.one rfl rfl (by show _ = AV.vw (jO (r ++ [x])) (r ++ [x]).length; rw [mY,List.length_append]; rfl))
theorem FE (a b c d e f:Bool):(a = true) ∨ (a = false/\b = true) ∨ (a = false/\b = false/\c = true) ∨ (a = false/\b = false/\c = false/\d = true) ∨ (a = false/\b = false/\c = false/\d = false/\e = true) ∨ (a = false/\b = false/\c = false/\d = false/\e = false/\f = true) ∨ (a = false/\b = false/\c = false/\d = false/\e = false/\f = false):=by
 cases a <;> cases b <;> cases c <;> cases d <;> cases e <;> cases f <;> simp
theorem nL (b:Bool):∃ c,b = !c:=⟨!b,(Bool.not_not b).symm⟩
theorem N8 {n:Nat} {b:Bool} (h:decide ((n:Int) < 1) = b):decide (1 <= n) = !b:=by rw [<- h,<- decide_not]; exact decide_eq_decide.2 (by omega)
theorem Dh:ag Tryz.prog 101 (ae validMV):=by
 obtain ⟨E,M,c1,c2,c3,c4⟩:=Lo eN (ae leavV) (ae symV) (ae rowsV) ⟨um,GG,lA,Gx⟩ rfl
 refine ai (by kernel_rfl) Tryz.func101 Tryz.ntmps101 rfl ?_
 intro args v h
 obtain ⟨m,ok,rfl,rfl⟩:=aB h
 have ok0:=ok
 obtain ⟨⟨s1,s2⟩,⟨m1,m2⟩,⟨f1,f2⟩,y1,y2⟩:=ok0
 refine ⟨rfl,rfl,Nat.le_of_ble_eq_true rfl,?_⟩
 have hd:=gz s1 (by omega)
 have hs:=n7 m
 have hlv:=fun i r x hr h1 hx=>II (m:=m) (i:=i) (r:=r) (x:=x) ok hr h1 hx
 have hr1:=wj m.start.length m.start.length m2
 have hr2:=wj m.start.length (dj m) y2
 unfold wR
 unfold mC at hs hlv ⊢
 rw [bT,St.of_nil]
 refine aZ M ?_
 refine dr M [] (ax @c3 @hs) ?_
 refine Jd.seq ?_
 obtain ⟨b1,e1⟩:∃ b,decide ((m.start.length:Int) < 1) = b:=⟨_,rfl⟩
 obtain ⟨b2,e2⟩:∃ b,decide ((dj m:Int) < 1) = b:=⟨_,rfl⟩
 obtain ⟨b3,e3⟩:∃ b,(!decide ((m.fin.length:Int) = (m.start.length:Int))) = b:=⟨_,rfl⟩
 obtain ⟨b4,e4⟩:=nL (lP m.move m.start.length m.start.length)
 obtain ⟨b5,e5⟩:=nL (lP m.say m.start.length (dj m))
 obtain ⟨b6,e6⟩:=nL (cG (iY m.start))
 have hh:bM m = (!b1 && !b2 && !b3 && !b4 && !b5 && !b6 && (List.range m.start.length).all (jm m)):=by
  unfold bM uG
  rw [N8 e1,N8 e2,nE e3,e4,e5,e6]
 rw [e4] at hr1
 rw [e5] at hr2
 rw [e6] at hd
 rcases FE b1 b2 b3 b4 b5 b6 with rfl | ⟨rfl,rfl⟩ | ⟨rfl,rfl,rfl⟩ | ⟨rfl,rfl,rfl,rfl⟩ | ⟨rfl,rfl,rfl,rfl,rfl⟩ | ⟨rfl,rfl,rfl,rfl,rfl,rfl⟩ | ⟨rfl,rfl,rfl,rfl,rfl,rfl⟩
 iterate 6 (· (refine rg M (ax @e1 (ax @e2 (ax @e3 (ax @c1 (ax @c4 (ax @hd (ax @hr1 (ax @hr2 (ax @Bool.not_true @Bool.not_false))))))))) ?_; refine cT rfl ?_; refine aZ M ?_; exact Jd.retT (aA.one rfl rfl (by rw [hh]; rfl))))
 have hh:bM m = (List.range m.start.length).all (jm m):=hh
 have l0:0 < m.start.length:=by have:=of_decide_eq_false e1; omega
 have lf:m.fin.length = m.start.length:=Nat.eq_of_beq_eq_true (nE e3)
 have lm:=(kQ.1 e4)
 have ls:=(kQ.1 e5)
 refine rg M (ax @e1 (ax @e2 (ax @e3 (ax @c1 (ax @c4 (ax @hd (ax @hr1 (ax @hr2 (ax @Bool.not_true @Bool.not_false))))))))) ?_
 refine lF rfl ?_
 refine Jd.seq ?_
 refine aZ M ?_
 refine Jd.loopB (fun k g s=>∃ i:Nat,i + k = m.start.length/\(∀ j,j < i->jm m j = true)/\g = ⟨101,65,Tr.of [(5,.i .i64 (i:Int)),(4,.i .i64 (dj m:Int)),(3,.i .i64 (m.start.length:Int)),(1,.ptr 0 0)],none,[]⟩/\s = St.of [(0,some (.cells [bF m.start,cq m.move,bF m.fin,cq m.say] 76 false))] 1) m.start.length ?_ ?_
 ·exact ⟨_,_,(To.ofL (nx2:=1) [0] [(5,.i .i64 ((0:Nat):Int)),(4,.i .i64 (dj m:Int)),(3,.i .i64 (m.start.length:Int)),(1,.ptr 0 0)] [(0,some (.cells [bF m.start,cq m.move,bF m.fin,cq m.say] 76 false))] rfl (by decide) (by first | exact aY | exact base_one | exact base_two) (by repeat' first | exact trivial | refine ⟨⟨_,rfl,by first | exact Wk.refl _ _ | exact Wk.bare rfl | exact Wk.zero _ | exact Wk.none _⟩,?_⟩) (by repeat' first | exact trivial | refine ⟨⟨Nat.le_of_ble_eq_true rfl,_,_,rfl,rfl,by first | exact bU.same rfl | exact bU.same (fr_bare _) | exact bU.same (bs_bare _) | exact bU.same (is_bare _) | exact bU.cells rfl⟩,?_⟩)),0,by omega,fun j hj=>by omega,rfl,rfl⟩
 rintro k _ _ ⟨i,hi,hj,rfl,rfl⟩ Q' hex hret hgo
 refine Jd.seq ?_
 refine aZ M ?_
 refine Jd.cnd rfl (fun h1=>?_) (fun h1=>?_)
 rotate_left
 ·refine Jd.exitT (hex _ _ ?_)
  show Jb _ _ _ _ _ _
  have hi2:i = m.start.length:=by have:=of_decide_eq_false h1; omega
  subst hi2
  refine aZ M ?_
  exact Jd.ret (aA.one rfl rfl (by rw [hh,List.all_eq_true.2 fun j hjm=>hj j (List.mem_range.1 hjm)]))
 have hil:i < m.start.length:=by have:=of_decide_eq_true h1; omega
 have bad:jm m i = false->bM m = false:=fun h=>by rw [hh]; exact List.all_eq_false.2 ⟨i,List.mem_range.2 hil,by rw [h]; simp⟩
 obtain ⟨mr,hmr⟩:∃ r,m.move[i]? = some r:=⟨_,List.getElem?_eq_getElem (by omega)⟩
 obtain ⟨yr,hyr⟩:∃ r,m.say[i]? = some r:=⟨_,List.getElem?_eq_getElem (by omega)⟩
 obtain ⟨x,hx⟩:∃ r,m.fin[i]? = some r:=⟨_,List.getElem?_eq_getElem (by omega)⟩
 obtain ⟨okm,lmr⟩:=m1 mr (List.mem_of_getElem? hmr)
 obtain ⟨oky,lyr⟩:=y1 yr (List.mem_of_getElem? hyr)
 have okx:=f1 x (List.mem_of_getElem? hx)
 have hml:mr.length = m.start.length:=by have:=lm.2 i hil; rwa [List.getD_eq_getElem?_getD,hmr] at this
 have hlv:=hlv i mr x hmr (by omega) hx
 refine Jd.skipT ?_
 refine Jd.seq (Jd.block ?_)
 clear hex
 have okl:∀ z ∈ mr ++ [x],z.Ok:=fun z hz=>by
  rcases List.mem_append.1 hz with h | h
  ·exact okm z h
  rw [List.mem_singleton.1 h]; exact okx
 have hd2:=gz okl (by simp; omega)
 have hd3:=gz oky (by omega)
 obtain ⟨b4,g4⟩:=nL (cG (iY (mr ++ [x])))
 obtain ⟨b5,g5⟩:=nL (cG (iY yr))
 have hrb:jm m i = (!b5 && !b4):=by
  unfold jm
  rw [Aw hyr,AG hmr hx,g4,g5]
 rw [g4] at hd2
 rw [g5] at hd3
 rcases dP b5 b4 true true true with rfl | ⟨rfl,rfl⟩ | ⟨rfl,rfl,_⟩ | ⟨_,_,h,_⟩ | ⟨_,_,h,_⟩ | ⟨_,_,h,_⟩
 rotate_left 3
 iterate 3 (· cases h)
 iterate 2 (· (refine rg M (ax @Int.toNat_natCast (ax (bR hyr) (ax @c1 (ax @c2 (ax @hlv (ax @hd2 (ax @hd3 (ax @Bool.not_true @Bool.not_false)))))))) ?_; refine cT rfl ?_; refine aZ M ?_; refine Jd.ret ?_; refine hret _ _ ?_; exact iE.r (aA.one rfl rfl (by rw [bad (by rw [hrb]; rfl)]))))
 refine rg M (ax @Int.toNat_natCast (ax (bR hyr) (ax @c1 (ax @c2 (ax @hlv (ax @hd2 (ax @hd3 (ax @Bool.not_true @Bool.not_false)))))))) ?_
 refine cF rfl ?_
 refine Jd.skip ?_
 refine dX.norm ?_
 show Jb _ _ _ _ _ _
 refine nZ M ?_
 refine hgo _ _ ⟨k - 1,_,_,by omega,(To.ofL (nx2:=1) [0] [(5,.i .i64 ((i + 1:Nat):Int)),(4,.i .i64 (dj m:Int)),(3,.i .i64 (m.start.length:Int)),(1,.ptr 0 0)] [(0,some (.cells [bF m.start,cq m.move,bF m.fin,cq m.say] 76 false))] rfl (by decide) (by first | exact aY | exact base_one | exact base_two) (by repeat' first | exact trivial | refine ⟨⟨_,rfl,by first | exact Wk.refl _ _ | exact Wk.bare rfl | exact Wk.zero _ | exact Wk.none _⟩,?_⟩) (by repeat' first | exact trivial | refine ⟨⟨Nat.le_of_ble_eq_true rfl,_,_,rfl,rfl,by first | exact bU.same rfl | exact bU.same (fr_bare _) | exact bU.same (bs_bare _) | exact bU.same (is_bare _) | exact bU.cells rfl⟩,?_⟩)),i + 1,by omega,fun j hj2=>?_,rfl,rfl⟩
 rcases Nat.lt_succ_iff_lt_or_eq.1 hj2 with h | rfl
 ·exact hj j h
 rw [hrb]; rfl
def Np (d:MD × List Int):List AV:=[.agg (mC d.1),.vw (is d.2) d.2.length]
theorem IY (x y:MD × List Int)(h:Np x = Np y):x = y:=by
 obtain ⟨a,b⟩:=x; obtain ⟨a',b'⟩:=y
 simp only [Np,List.cons.injEq,AV.vw.injEq,and_true] at h
 rw [ox _ _ (vy h.1),oB h.2.1]
noncomputable def heardV:=ofE Np (fun d=>d.2.length <= 1000000) fun d=>.b (dM (dj d.1) d.2)
theorem Ds:ag Tryz.prog 36 (ae heardV):=by
 obtain ⟨E,M,c1⟩:=i3 (ae symV) lA rfl
 refine ai (by kernel_rfl) Tryz.func36 Tryz.ntmps36 rfl ?_
 intro args v h
 obtain ⟨⟨m,l⟩,hl,rfl,rfl⟩:=aB h
 have hl:l.length <= 1000000:=hl
 refine ⟨rfl,rfl,Nat.le_of_ble_eq_true rfl,?_⟩
 have hs:=n7 m
 unfold Np
 unfold mC at hs ⊢
 dsimp only
 rw [bS,St.of_nil]
 refine aZ M ?_
 refine Jd.seq ?_
 refine aZ M ?_
 refine Jd.loopB (fun k g s=>∃ i:Nat,i + k = l.length/\dM (dj m) (l.take i) = true/\g = ⟨36,26,Tr.of [(5,.i .i64 (i:Int)),(2,.ptr 0 0),(1,.vw (is l) l.length)],none,[]⟩/\s = St.of [(0,some (.cells [bF m.start,cq m.move,bF m.fin,cq m.say] 76 false))] 1) l.length ?_ ?_
 ·exact ⟨_,_,(To.ofL (nx2:=1) [0] [(5,.i .i64 ((0:Nat):Int)),(2,.ptr 0 0),(1,.vw (is l) l.length)] [(0,some (.cells [bF m.start,cq m.move,bF m.fin,cq m.say] 76 false))] rfl (by decide) (by first | exact aY | exact base_one | exact base_two) (by repeat' first | exact trivial | refine ⟨⟨_,rfl,by first | exact Wk.refl _ _ | exact Wk.bare rfl | exact Wk.zero _ | exact Wk.none _⟩,?_⟩) (by repeat' first | exact trivial | refine ⟨⟨Nat.le_of_ble_eq_true rfl,_,_,rfl,rfl,by first | exact bU.same rfl | exact bU.same (fr_bare _) | exact bU.same (bs_bare _) | exact bU.same (is_bare _) | exact bU.cells rfl⟩,?_⟩)),0,by omega,rfl,rfl,rfl⟩
 rintro k _ _ ⟨i,hi,hj,rfl,rfl⟩ Q' hex hret hgo
 refine Jd.seq ?_
 refine aZ M ?_
 refine Jd.cnd rfl (fun h1=>?_) (fun h1=>?_)
 rotate_left
 ·refine Jd.exitT (hex _ _ ?_)
  show Jb _ _ _ _ _ _
  have hi2:i = l.length:=by have:=of_decide_eq_false h1; omega
  rw [hi2,List.take_length] at hj
  refine aZ M ?_
  exact Jd.ret (aA.one rfl rfl (by rw [hj]))
 have hil:i < l.length:=by have:=of_decide_eq_true h1; omega
 obtain ⟨x,hx⟩:∃ r,l[i]? = some r:=⟨_,List.getElem?_eq_getElem hil⟩
 have bad:(decide (0 <= x) && decide (x < dj m)) = false->dM (dj m) l = false:=fun h=>List.all_eq_false.2 ⟨x,List.mem_of_getElem? hx,by rw [h]; simp⟩
 refine Jd.skipT ?_
 refine Jd.seq (Jd.block ?_)
 clear hex
 obtain ⟨b1,e1⟩:∃ b,decide (x < 0) = b:=⟨_,rfl⟩
 obtain ⟨b2,e2⟩:∃ b,decide (x ≥ (dj m:Int)) = b:=⟨_,rfl⟩
 have hb:(decide (0 <= x) && decide (x < dj m)) = (!b1 && !b2):=by
  rw [<- e1,<- e2,<- decide_not,<- decide_not]
  congr 1
  ·exact decide_eq_decide.2 (by omega)
  exact decide_eq_decide.2 (by omega)
 rw [hb] at bad
 cases b1 with
 | true =>
  refine dr M [] (ax @Int.toNat_natCast (ax (uX hx) @e1)) ?_
  refine cT rfl ?_
  refine aZ M ?_
  refine Jd.ret ?_
  refine hret _ _ ?_
  exact iE.r (aA.one rfl rfl (by rw [bad rfl]))
 | false =>
  refine dr M [] (ax @Int.toNat_natCast (ax (uX hx) (ax @e1 (ax @c1 (ax @hs @e2))))) ?_
  cases b2 with
  | true =>
   refine cT rfl ?_
   refine aZ M ?_
   refine Jd.ret ?_
   refine hret _ _ ?_
   exact iE.r (aA.one rfl rfl (by rw [bad rfl]))
  | false =>
   refine cF rfl ?_
   refine Jd.skip ?_
   refine dX.norm ?_
   show Jb _ _ _ _ _ _
   refine nZ M ?_
   refine hgo _ _ ⟨k - 1,_,_,by omega,(To.ofL (nx2:=1) [0] [(5,.i .i64 ((i + 1:Nat):Int)),(2,.ptr 0 0),(1,.vw (is l) l.length)] [(0,some (.cells [bF m.start,cq m.move,bF m.fin,cq m.say] 76 false))] rfl (by decide) (by first | exact aY | exact base_one | exact base_two) (by repeat' first | exact trivial | refine ⟨⟨_,rfl,by first | exact Wk.refl _ _ | exact Wk.bare rfl | exact Wk.zero _ | exact Wk.none _⟩,?_⟩) (by repeat' first | exact trivial | refine ⟨⟨Nat.le_of_ble_eq_true rfl,_,_,rfl,rfl,by first | exact bU.same rfl | exact bU.same (fr_bare _) | exact bU.same (bs_bare _) | exact bU.same (is_bare _) | exact bU.cells rfl⟩,?_⟩)),i + 1,by omega,?_,rfl,rfl⟩
   unfold dM at hj ⊢
   rw [List.take_add_one,hx,List.all_append,hj,Option.toList_some,List.all_cons,hb]
   rfl
end Go.Proofs.YtkdhppimhdemjaaGreat
