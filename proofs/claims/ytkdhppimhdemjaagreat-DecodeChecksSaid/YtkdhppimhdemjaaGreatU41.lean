/- Lemmas on the way: De3, De4, Tk2, Rc1. -/
import Derived.Test.YtkdhppimhdemjaaGreatU40
set_option linter.all false
set_option maxRecDepth 1000000
set_option maxHeartbeats 32000000
namespace Go.Proofs.YtkdhppimhdemjaaGreat
open Go.RowKit
def pH (t:TD):List AV:=[.agg (tC t)]
theorem hX (x y:TD)(h:pH x = pH y):x = y:=by
 simp only [pH,List.cons.injEq,and_true] at h
 exact qG _ _ (vy h)
noncomputable def longTV:=ofE pH TD.Ok fun t=>.b (fA t)
theorem q7 {t:TD} (ok:t.Ok) (s:St):ae longTV [.agg (tC t)] s = some (.b (fA t),s):=bD hX ok s
theorem mJ {l:List (List VD)} {i:Nat} {r:List VD} (h:l[i]? = some r):(l.map fun r=>b9 r)[i]? = some (b9 r):=by simp [h]
theorem rO {α:Type} {p:α->Bool} {l:List α} {i:Nat} {x:α} (h:l[i]? = some x)(h1:(l.take i).any p = false)(h2:p x = false):(l.take (i + 1)).any p = false:=by
 rw [List.take_add_one,h,List.any_append,h1,Option.toList_some,List.any_cons,h2]
 rfl
theorem ql {α:Type} {p:α->Bool} {l:List α} {i:Nat} {x:α} (h:l[i]? = some x)(h2:p x = true):l.any p = true:=List.any_eq_true.2 ⟨x,List.mem_of_getElem? h,h2⟩
theorem cI {α:Type} {p:α->Bool} {l:List α} {i:Nat} {x:α} (h:l[i]? = some x)(h1:(l.take i).all p = true)(h2:p x = true):(l.take (i + 1)).all p = true:=by
 rw [List.take_add_one,h,List.all_append,h1,Option.toList_some,List.all_cons,h2]
 rfl
theorem cf {α:Type} {p:α->Bool} {l:List α} {i:Nat} {x:α} (h:l[i]? = some x)(h2:p x = false):l.all p = false:=List.all_eq_false.2 ⟨x,List.mem_of_getElem? h,by rw [h2]; simp⟩
theorem CP {a:Nat} {n:Nat} {b:Bool} (h:decide ((a:Int) > (n:Int)) = b):decide (n < a) = b:=by rw [<- h]; exact decide_eq_decide.2 (by omega)
theorem Dm:ag Tryz.prog 34 (ae longTV):=by
 obtain ⟨E,M,c1⟩:=i3 (ae longMV) Dp rfl
 refine ai (by kernel_rfl) Tryz.func34 Tryz.ntmps34 rfl ?_
 intro args v h
 obtain ⟨t,ok,rfl,rfl⟩:=aB h
 have okm:=ok.hms
 have okw:=ok.hws
 have oka:=ok.hL.ham
 have f1:=oka.fn
 have f2:=oka.fd
 have hw1:bU (fun _=>True) (cB [0] 1) (.cells (tC t) 35 false) (.cells (tC t) 35 false):=bU.same (by unfold tC; simp only [aE,bare,oka.bn,oka.bd]; rfl)
 unfold tC at hw1
 refine ⟨by unfold pH tC; simp only [aE,bare,oka.bn,oka.bd]; rfl,rfl,Nat.le_of_ble_eq_true rfl,?_⟩
 unfold pH tC
 rw [bT,St.of_nil]
 obtain ⟨b1,e1⟩:∃ b,decide ((t.ms.length:Int) > 60) = b:=⟨_,rfl⟩
 obtain ⟨b2,e2⟩:∃ b,decide ((t.L.gs.length:Int) > 20000) = b:=⟨_,rfl⟩
 have hl:fA t = (b1 || b2 || t.ms.any dk || t.ws.any i5):=by unfold fA; rw [CP e1,CP e2]
 refine rg M (ax @f1 @f2) ?_
 refine Jd.seq ?_
 rcases dP b1 b2 true true true with rfl | ⟨rfl,rfl⟩ | ⟨rfl,rfl,_⟩ | ⟨_,_,h,_⟩ | ⟨_,_,h,_⟩ | ⟨_,_,h,_⟩
 rotate_left 3
 iterate 3 (· cases h)
 iterate 2 (· (refine rg M (ax @e1 @e2) ?_; refine cT rfl ?_; refine aZ M ?_; exact Jd.retT (aA.one rfl rfl (by rw [hl]; rfl))))
 refine rg M (ax @e1 @e2) ?_
 refine lF rfl ?_
 refine Jd.seq ?_
 refine aZ M ?_
 refine Jd.loopB (fun k g s=>∃ i:Nat,i + k = t.ms.length/\(t.ms.take i).any dk = false/\g = ⟨34,66,Tr.of [(3,.i .i64 (i:Int)),(1,.ptr 0 0)],none,[]⟩/\s = St.of [(0,some (.cells [.vw (pK t.ms) t.ms.length,.vw (t.ws.map fun l=>b9 l) t.ws.length,.i .i64 t.L.O,.i .i64 t.L.V,.vw (rY t.L.gs) t.L.gs.length,.i .i64 t.L.k,.b t.L.am.neg,t.L.am.n,t.L.am.d,bF t.L.mix] 35 false))] 1) t.ms.length ?_ ?_
 ·exact ⟨_,_,(To.ofL (nx2:=1) [0] [(3,.i .i64 ((0:Nat):Int)),(1,.ptr 0 0)] [(0,some (.cells [.vw (pK t.ms) t.ms.length,.vw (t.ws.map fun l=>b9 l) t.ws.length,.i .i64 t.L.O,.i .i64 t.L.V,.vw (rY t.L.gs) t.L.gs.length,.i .i64 t.L.k,.b t.L.am.neg,t.L.am.n,t.L.am.d,bF t.L.mix] 35 false))] rfl (by decide) (by first | exact aY | exact base_one | exact base_two) (by repeat' first | exact trivial | refine ⟨⟨_,rfl,by first | exact hw1 | exact Wk.refl _ _ | exact Wk.bare rfl | exact Wk.zero _ | exact Wk.none _⟩,?_⟩) (by repeat' first | exact trivial | refine ⟨⟨Nat.le_of_ble_eq_true rfl,_,_,rfl,rfl,by first | exact hw1 | exact bU.same rfl | exact bU.same (fr_bare _) | exact bU.same (bs_bare _) | exact bU.same (is_bare _) | exact bU.cells rfl⟩,?_⟩)),0,by omega,rfl,rfl,rfl⟩
 rintro k _ _ ⟨i,hi,hj,rfl,rfl⟩ Q' hex hret hgo
 refine Jd.seq ?_
 refine aZ M ?_
 refine Jd.cnd rfl (fun h1=>?_) (fun h1=>?_)
 rotate_left
 ·refine Jd.exitT (hex _ _ ?_)
  show Jb _ _ _ _ _ _
  have hi2:i = t.ms.length:=by have:=of_decide_eq_false h1; omega
  rw [hi2,List.take_length] at hj
  rw [hj] at hl
  have hl:fA t = t.ws.any i5:=hl
  clear hex hret hgo
  refine Jd.seq ?_
  refine aZ M ?_
  refine Jd.loopB (fun k g s=>∃ i:Nat,i + k = t.ws.length/\(t.ws.take i).any i5 = false/\g = ⟨34,66,Tr.of [(4,.i .i64 (i:Int)),(1,.ptr 0 0)],none,[]⟩/\s = St.of [(0,some (.cells [.vw (pK t.ms) t.ms.length,.vw (t.ws.map fun l=>b9 l) t.ws.length,.i .i64 t.L.O,.i .i64 t.L.V,.vw (rY t.L.gs) t.L.gs.length,.i .i64 t.L.k,.b t.L.am.neg,t.L.am.n,t.L.am.d,bF t.L.mix] 35 false))] 1) t.ws.length ?_ ?_
  ·exact ⟨_,_,(To.ofL (nx2:=1) [0] [(4,.i .i64 ((0:Nat):Int)),(1,.ptr 0 0)] [(0,some (.cells [.vw (pK t.ms) t.ms.length,.vw (t.ws.map fun l=>b9 l) t.ws.length,.i .i64 t.L.O,.i .i64 t.L.V,.vw (rY t.L.gs) t.L.gs.length,.i .i64 t.L.k,.b t.L.am.neg,t.L.am.n,t.L.am.d,bF t.L.mix] 35 false))] rfl (by decide) (by first | exact aY | exact base_one | exact base_two) (by repeat' first | exact trivial | refine ⟨⟨_,rfl,by first | exact hw1 | exact Wk.refl _ _ | exact Wk.bare rfl | exact Wk.zero _ | exact Wk.none _⟩,?_⟩) (by repeat' first | exact trivial | refine ⟨⟨Nat.le_of_ble_eq_true rfl,_,_,rfl,rfl,by first | exact hw1 | exact bU.same rfl | exact bU.same (fr_bare _) | exact bU.same (bs_bare _) | exact bU.same (is_bare _) | exact bU.cells rfl⟩,?_⟩)),0,by omega,rfl,rfl,rfl⟩
  rintro k _ _ ⟨i,hi,hj,rfl,rfl⟩ Q' hex hret hgo
  refine Jd.seq ?_
  refine aZ M ?_
  refine Jd.cnd rfl (fun h1=>?_) (fun h1=>?_)
  rotate_left
  ·refine Jd.exitT (hex _ _ ?_)
   show Jb _ _ _ _ _ _
   have hi2:i = t.ws.length:=by have:=of_decide_eq_false h1; omega
   rw [hi2,List.take_length] at hj
   refine aZ M ?_
   exact Jd.ret (aA.one rfl rfl (by rw [hl,hj]))
  have hil:i < t.ws.length:=by have:=of_decide_eq_true h1; omega
  obtain ⟨l,hx⟩:∃ r,t.ws[i]? = some r:=⟨_,List.getElem?_eq_getElem hil⟩
  refine Jd.skipT ?_
  refine Jd.seq (Jd.block ?_)
  clear hex
  obtain ⟨b,hb⟩:∃ b,decide ((l.length:Int) > 10) = b:=⟨_,rfl⟩
  have hlv:i5 l = (b || l.any fun v=>decide (20 < v.ph.length)):=by unfold i5; rw [CP hb]
  refine Jd.seq ?_
  refine rg M (ax @Int.toNat_natCast (ax (mJ hx) @hb)) ?_
  cases b with
  | true =>
   refine cT rfl ?_
   refine aZ M ?_
   refine Jd.ret ?_
   refine hret _ _ ?_
   exact iE.r (aA.one rfl rfl (by rw [hl,ql hx (by rw [hlv]; rfl)]))
  | false =>
  refine lF rfl ?_
  have hll:l.length <= 10:=by have:=of_decide_eq_false hb; omega
  refine aZ M ?_
  refine Jd.loopB (fun k g s=>∃ j:Nat,j + k = l.length/\(l.take j).any (fun v=>decide (20 < v.ph.length)) = false/\g = ⟨34,66,Tr.of [(5,.i .i64 (j:Int)),(4,.i .i64 (i:Int)),(1,.ptr 0 0)],none,[]⟩/\s = St.of [(0,some (.cells [.vw (pK t.ms) t.ms.length,.vw (t.ws.map fun l=>b9 l) t.ws.length,.i .i64 t.L.O,.i .i64 t.L.V,.vw (rY t.L.gs) t.L.gs.length,.i .i64 t.L.k,.b t.L.am.neg,t.L.am.n,t.L.am.d,bF t.L.mix] 35 false))] 1) l.length ?_ ?_
  ·exact ⟨_,_,(To.ofL (nx2:=1) [0] [(5,.i .i64 ((0:Nat):Int)),(4,.i .i64 (i:Int)),(1,.ptr 0 0)] [(0,some (.cells [.vw (pK t.ms) t.ms.length,.vw (t.ws.map fun l=>b9 l) t.ws.length,.i .i64 t.L.O,.i .i64 t.L.V,.vw (rY t.L.gs) t.L.gs.length,.i .i64 t.L.k,.b t.L.am.neg,t.L.am.n,t.L.am.d,bF t.L.mix] 35 false))] rfl (by decide) (by first | exact aY | exact base_one | exact base_two) (by repeat' first | exact trivial | refine ⟨⟨_,rfl,by first | exact hw1 | exact Wk.refl _ _ | exact Wk.bare rfl | exact Wk.zero _ | exact Wk.none _⟩,?_⟩) (by repeat' first | exact trivial | refine ⟨⟨Nat.le_of_ble_eq_true rfl,_,_,rfl,rfl,by first | exact hw1 | exact bU.same rfl | exact bU.same (fr_bare _) | exact bU.same (bs_bare _) | exact bU.same (is_bare _) | exact bU.cells rfl⟩,?_⟩)),0,by omega,rfl,rfl,rfl⟩
  rintro k2 _ _ ⟨j,hi2,hj2,rfl,rfl⟩ Q2 hex2 hret2 hgo2
  refine Jd.seq ?_
  refine rg M (ax @Int.toNat_natCast (mJ hx)) ?_
  refine Jd.cnd rfl (fun h1=>?_) (fun h1=>?_)
  rotate_left
  ·refine Jd.exitT (hex2 _ _ ?_)
   show Jb _ _ _ _ _ _
   have hi2:j = l.length:=by have:=of_decide_eq_false h1; omega
   rw [hi2,List.take_length] at hj2
   refine nZ M ?_
   exact hgo _ _ ⟨k - 1,_,_,by omega,(To.ofL (nx2:=1) [0] [(4,.i .i64 ((i + 1:Nat):Int)),(1,.ptr 0 0)] [(0,some (.cells [.vw (pK t.ms) t.ms.length,.vw (t.ws.map fun l=>b9 l) t.ws.length,.i .i64 t.L.O,.i .i64 t.L.V,.vw (rY t.L.gs) t.L.gs.length,.i .i64 t.L.k,.b t.L.am.neg,t.L.am.n,t.L.am.d,bF t.L.mix] 35 false))] rfl (by decide) (by first | exact aY | exact base_one | exact base_two) (by repeat' first | exact trivial | refine ⟨⟨_,rfl,by first | exact hw1 | exact Wk.refl _ _ | exact Wk.bare rfl | exact Wk.zero _ | exact Wk.none _⟩,?_⟩) (by repeat' first | exact trivial | refine ⟨⟨Nat.le_of_ble_eq_true rfl,_,_,rfl,rfl,by first | exact hw1 | exact bU.same rfl | exact bU.same (fr_bare _) | exact bU.same (bs_bare _) | exact bU.same (is_bare _) | exact bU.cells rfl⟩,?_⟩)),i + 1,by omega,rO hx hj (by rw [hlv,hj2]; rfl),rfl,rfl⟩
  have hjl:j < l.length:=by have:=of_decide_eq_true h1; omega
  obtain ⟨v,hv⟩:∃ r,l[j]? = some r:=⟨_,List.getElem?_eq_getElem hjl⟩
  refine Jd.skipT ?_
  refine Jd.seq (Jd.block ?_)
  clear hex2
  obtain ⟨b,hb2⟩:∃ b,decide ((v.ph.length:Int) > 20) = b:=⟨_,rfl⟩
  refine rg M (ax @Int.toNat_natCast (ax (mJ hx) (ax (mQ hv) @hb2))) ?_
  cases b with
  | true =>
   refine cT rfl ?_
   refine aZ M ?_
   refine Jd.ret ?_
   refine hret2 _ _ ?_
   refine hret _ _ ?_
   exact iE.r (aA.one rfl rfl (by rw [hl,ql hx (by rw [hlv,ql hv (CP hb2)]; rfl)]))
  | false =>
   refine cF rfl ?_
   refine Jd.skip ?_
   refine dX.norm ?_
   show Jb _ _ _ _ _ _
   refine nZ M ?_
   exact hgo2 _ _ ⟨k2 - 1,_,_,by omega,(To.ofL (nx2:=1) [0] [(5,.i .i64 ((j + 1:Nat):Int)),(4,.i .i64 (i:Int)),(1,.ptr 0 0)] [(0,some (.cells [.vw (pK t.ms) t.ms.length,.vw (t.ws.map fun l=>b9 l) t.ws.length,.i .i64 t.L.O,.i .i64 t.L.V,.vw (rY t.L.gs) t.L.gs.length,.i .i64 t.L.k,.b t.L.am.neg,t.L.am.n,t.L.am.d,bF t.L.mix] 35 false))] rfl (by decide) (by first | exact aY | exact base_one | exact base_two) (by repeat' first | exact trivial | refine ⟨⟨_,rfl,by first | exact hw1 | exact Wk.refl _ _ | exact Wk.bare rfl | exact Wk.zero _ | exact Wk.none _⟩,?_⟩) (by repeat' first | exact trivial | refine ⟨⟨Nat.le_of_ble_eq_true rfl,_,_,rfl,rfl,by first | exact hw1 | exact bU.same rfl | exact bU.same (fr_bare _) | exact bU.same (bs_bare _) | exact bU.same (is_bare _) | exact bU.cells rfl⟩,?_⟩)),j + 1,by omega,rO hv hj2 (CP hb2),rfl,rfl⟩
 have hil:i < t.ms.length:=by have:=of_decide_eq_true h1; omega
 obtain ⟨m,hx⟩:∃ r,t.ms[i]? = some r:=⟨_,List.getElem?_eq_getElem hil⟩
 have hlm:=wY m
 refine Jd.skipT ?_
 refine Jd.seq (Jd.block ?_)
 clear hex
 obtain ⟨b,hb⟩:∃ b,dk m = b:=⟨_,rfl⟩
 rw [hb] at hlm
 refine rg M (ax @Int.toNat_natCast (ax (ie hx) (ax @iB (ax @c1 @hlm)))) ?_
 cases b with
 | true =>
  refine cT rfl ?_
  refine aZ M ?_
  refine Jd.ret ?_
  refine hret _ _ ?_
  exact iE.r (aA.one rfl rfl (by rw [hl,ql hx hb]; rfl))
 | false =>
  refine cF rfl ?_
  refine Jd.skip ?_
  refine dX.norm ?_
  show Jb _ _ _ _ _ _
  refine nZ M ?_
  exact hgo _ _ ⟨k - 1,_,_,by omega,(To.ofL (nx2:=1) [0] [(3,.i .i64 ((i + 1:Nat):Int)),(1,.ptr 0 0)] [(0,some (.cells [.vw (pK t.ms) t.ms.length,.vw (t.ws.map fun l=>b9 l) t.ws.length,.i .i64 t.L.O,.i .i64 t.L.V,.vw (rY t.L.gs) t.L.gs.length,.i .i64 t.L.k,.b t.L.am.neg,t.L.am.n,t.L.am.d,bF t.L.mix] 35 false))] rfl (by decide) (by first | exact aY | exact base_one | exact base_two) (by repeat' first | exact trivial | refine ⟨⟨_,rfl,by first | exact hw1 | exact Wk.refl _ _ | exact Wk.bare rfl | exact Wk.zero _ | exact Wk.none _⟩,?_⟩) (by repeat' first | exact trivial | refine ⟨⟨Nat.le_of_ble_eq_true rfl,_,_,rfl,rfl,by first | exact hw1 | exact bU.same rfl | exact bU.same (fr_bare _) | exact bU.same (bs_bare _) | exact bU.same (is_bare _) | exact bU.cells rfl⟩,?_⟩)),i + 1,by omega,rO hx hj hb,rfl,rfl⟩
noncomputable def symTV:=ofE pH (fun t=>t.Ok/\0 < t.ms.length) fun t=>.i .i64 (iw t)
theorem bI {t:TD} (ok:t.Ok):aE (tC t) = true:=by unfold tC; simp only [aE,bare,ok.hL.ham.bn,ok.hL.ham.bd]; rfl
theorem JG:ag Tryz.prog 102 (ae symTV):=by
 obtain ⟨E,M,c1⟩:=i3 (ae symV) lA rfl
 refine ai (by kernel_rfl) Tryz.func102 Tryz.ntmps102 rfl ?_
 intro args v h
 obtain ⟨t,⟨ok,h0⟩,rfl,rfl⟩:=aB h
 have f1:=ok.hL.ham.fn
 have f2:=ok.hL.ham.fd
 obtain ⟨m,hx⟩:∃ r,t.ms[0]? = some r:=⟨_,List.getElem?_eq_getElem h0⟩
 refine ⟨by simp only [pH,aE,bare,bI ok]; rfl,rfl,Nat.le_of_ble_eq_true rfl,?_⟩
 unfold pH tC
 rw [bT,St.of_nil]
 have hs:=n7 m
 have hg:=ie hx
 rw [Nat.zero_mul] at hg
 refine rg M (ax @f1 @f2) ?_
 refine rg M (ax @hg (ax @iB (ax @c1 @hs))) ?_
 exact Jd.ret (aA.one rfl rfl (by rw [mX hx]))
def MG (d:List VD × Nat):List AV:=[b9 d.1,.i .i64 d.2]
theorem Ha (x y:List VD × Nat)(h:MG x = MG y):x = y:=by
 obtain ⟨a,b⟩:=x; obtain ⟨a',b'⟩:=y
 simp only [MG,List.cons.injEq,AV.i.injEq,and_true,true_and] at h
 obtain rfl:=kK h.1
 rw [show b = b' by omega]
def Ob (d:List VD × Nat):Prop:=d.1.length <= 10/\∀ v ∈ d.1,v.w.Ok/\v.ph.length <= 20
noncomputable def wordV:=ofE MG Ob fun d=>.b (g9 d.2 d.1)
def Mm (n:Nat):AV:=if n = 0 then .snil else .sl 0 0 n (cW + 3)
def Mn (r:List RF):St:=if r.length = 0 then St.of [] 0 else St.of [(0,some (.cells (jO r) 30 true))] 1
theorem C6 {r:List RF} (ok:∀ x ∈ r,x.Ok)(hl:r.length <= 1000):eN [Mm r.length] (Mn r) = some (.b (cG (iY r)),Mn r):=by
 have h1:jH (Mn r) (Mm r.length) = some (iY r):=by
  unfold jH Mm Mn
  by_cases h0:r.length = 0
  ·rw [if_pos h0,List.eq_nil_of_length_eq_zero h0]; rfl
  have:=gA
  simp only [if_neg h0,cA,St.of_get,fG,if_true,fW (gg r),jJ,cQ (show r.length <= cW + 3 by omega),cond_true,iX ok]
 unfold eN
 simp only [h1,Option.bind_some,show Nat.ble (iY r).length 1000000 = true by simp [iY]; omega,cond_true]
theorem uA {l:List RF} {i:Nat} {x:RF} (h:l[i]? = some x):l.take (i + 1) = l.take i ++ [x]:=by rw [List.take_add_one,h]; rfl
theorem JF:ag Tryz.prog 103 (ae wordV):=by
 obtain ⟨E,M,c1⟩:=i3 eN um rfl
 refine ai (by kernel_rfl) Tryz.func103 Tryz.ntmps103 rfl ?_
 intro args v h
 obtain ⟨⟨l,n⟩,⟨hl,hok⟩,rfl,rfl⟩:=aB h
 dsimp only at hl hok
 refine ⟨rfl,rfl,Nat.le_of_ble_eq_true rfl,?_⟩
 unfold MG
 dsimp only
 rw [bS,St.of_nil]
 refine aZ M ?_
 refine aZ M ?_
 refine Jd.seq ?_
 refine aZ M ?_
 obtain ⟨ws,hws⟩:∃ ws,l.map VD.w = ws:=⟨_,rfl⟩
 have okw:∀ x ∈ ws,x.Ok:=fun x hx=>by rw [<- hws] at hx; obtain ⟨v,hv,rfl⟩:=List.mem_map.1 hx; exact (hok v hv).1
 have lw:ws.length = l.length:=by rw [<- hws,List.length_map]
 obtain ⟨pB,hpB⟩:∃ p:VD->Bool,(fun v=>decide (1 <= v.ph.length) && v.ph.all (wG n)) = p:=⟨_,rfl⟩
 have hw:g9 n l = (l.all pB && cG (iY ws)):=by unfold g9 iY; rw [hpB,<- hws,List.map_map]; rfl
 refine Jd.loopB (fun k g s=>∃ i:Nat,i + k = l.length/\(l.take i).all pB = true/\g = ⟨103,62,Tr.of [(6,.i .i64 (i:Int)),(5,Mm i),(1,.i .i64 (n:Int)),(0,.vw (Aa l) l.length)],none,[]⟩/\s = Mn (ws.take i)) l.length ?_ ?_
 ·exact ⟨_,_,(To.ofL (nx2:=0) [] [(6,.i .i64 ((0:Nat):Int)),(5,.snil),(1,.i .i64 (n:Int)),(0,.vw (Aa l) l.length)] [] rfl (by decide) (by first | exact aY | exact base_one | exact base_two) (by repeat' first | exact trivial | refine ⟨⟨_,rfl,by first | exact Wk.refl _ _ | exact Wk.bare rfl | exact Wk.zero _ | exact Wk.none _⟩,?_⟩) (trivial)),0,by omega,rfl,rfl,rfl⟩
 rintro k _ _ ⟨i,hi,hj,rfl,rfl⟩ Q' hex hret hgo
 have lt:(ws.take i).length = i:=by rw [List.length_take]; omega
 obtain ⟨wv,hwv⟩:∃ x,Mm i = x:=⟨_,rfl⟩
 obtain ⟨s0,hs0⟩:∃ x,Mn (ws.take i) = x:=⟨_,rfl⟩
 rw [hwv,hs0]
 refine Jd.seq ?_
 refine aZ M ?_
 refine Jd.cnd rfl (fun h1=>?_) (fun h1=>?_)
 rotate_left
 ·refine Jd.exitT (hex _ _ ?_)
  show Jb _ _ _ _ _ _
  have hi2:i = l.length:=by have:=of_decide_eq_false h1; omega
  rw [hi2,List.take_length] at hj
  have hd:=C6 okw (by omega)
  rw [lw,<- hi2,hwv,<- show ws.take i = ws by rw [hi2,<- lw,List.take_length],hs0,show ws.take i = ws by rw [hi2,<- lw,List.take_length]] at hd
  refine rg M (ax @c1 @hd) ?_
  exact Jd.ret (aA.one rfl rfl (by rw [hw,hj]; rfl))
 have hil:i < l.length:=by have:=of_decide_eq_true h1; omega
 obtain ⟨x,hx⟩:∃ r,l[i]? = some r:=⟨_,List.getElem?_eq_getElem hil⟩
 have hp:pB x = (decide (1 <= x.ph.length) && x.ph.all (wG n)):=by rw [<- hpB]
 obtain ⟨okx,lx⟩:=hok x (List.mem_of_getElem? hx)
 refine Jd.skipT ?_
 refine Jd.seq (Jd.block ?_)
 clear hex
 obtain ⟨b,hb⟩:∃ b,decide ((x.ph.length:Int) < 1) = b:=⟨_,rfl⟩
 rw [N8 hb] at hp
 refine Jd.seq ?_
 refine rg M (ax @Int.toNat_natCast (ax (mQ hx) @hb)) ?_
 cases b with
 | true =>
  refine cT rfl ?_
  refine aZ M ?_
  refine Jd.retT ?_
  refine hret _ _ ?_
  exact iE.r (aA.one rfl rfl (by rw [hw,cf hx hp]; rfl))
 | false =>
 have hp:pB x = x.ph.all (wG n):=hp
 refine lF rfl ?_
 refine Jd.seq ?_
 refine aZ M ?_
 refine Jd.loopS x.ph.length (fun j=>[(7,.i .i64 (j:Int)),(6,.i .i64 (i:Int)),(5,wv),(1,.i .i64 (n:Int)),(0,.vw (Aa l) l.length)]) (fun j=>(x.ph.take j).all (wG n) = true) ⟨rfl,rfl,rfl,rfl,rfl,trivial⟩ rfl ?_
 intro j hjl hja Q2 hex2 hret2 hgo2
 refine Jd.seq ?_
 refine rg M (ax @Int.toNat_natCast (mQ hx)) ?_
 refine Jd.cnd rfl (fun h2=>?_) (fun h2=>?_)
 rotate_left
 ·refine Jd.exitT (hex2 _ _ ?_)
  show Jb _ _ _ _ _ _
  have hi2:j = x.ph.length:=by have:=of_decide_eq_false h2; omega
  rw [hi2,List.take_length] at hja
  rw [hja] at hp
  have hxw:ws[i]? = some x.w:=by rw [<- hws]; simp [hx]
  have okxw:=okw x.w (List.mem_of_getElem? hxw)
  have hl3:=gg (ws.take i)
  rw [lt] at hl3
  have hg:getR (rC x.w) 0 3 = some (rC x.w):=rfl
  by_cases h0:i = 0
  ·subst h0
   obtain rfl:wv = .snil:=hwv.symm
   obtain rfl:s0 = St.of [] 0:=hs0.symm
   have hfr:=D7 hx
   refine rq M (ax @Int.toNat_natCast (ax @hfr (ax @okxw.flat (ax @fE @hg)))) ?_
   refine dX.norm ?_
   show Jb _ _ _ _ _ _
   refine nZ M ?_
   refine hgo _ _ ⟨k - 1,_,_,by omega,(To.ofL (nx2:=1) [1] [(6,.i .i64 ((0 + 1:Nat):Int)),(5,.sl 0 0 1 (cW + 3)),(1,.i .i64 (n:Int)),(0,.vw (Aa l) l.length)] [(0,some (.cells (rC x.w) 30 true))] rfl (by decide) (by first | exact aY | exact base_one | exact base_two) (by repeat' first | exact trivial | refine ⟨⟨_,rfl,by first | exact bU.same okxw.bare | exact Wk.refl _ _ | exact Wk.bare rfl | exact Wk.zero _ | exact Wk.none _⟩,?_⟩) (by repeat' first | exact trivial | refine ⟨⟨Nat.le_of_ble_eq_true rfl,_,_,rfl,rfl,by first | exact bU.same okxw.bare | exact bU.same rfl | exact bU.same (fr_bare _) | exact bU.same (bs_bare _) | exact bU.same (is_bare _) | exact bU.cells rfl⟩,?_⟩)),0 + 1,by omega,cI hx hj hp,rfl,?_⟩
   rw [uA hxw]
   rfl
  obtain rfl:wv = .sl 0 0 i (cW + 3):=by rw [<- hwv]; exact if_neg h0
  obtain rfl:s0 = St.of [(0,some (.cells (jO (ws.take i)) 30 true))] 1:=by rw [<- hs0]; exact if_neg (by rw [lt]; exact h0)
  have hfr:=D7 hx
  refine rq M (ax @Int.toNat_natCast (ax @hfr (ax @okxw.flat (ax @fE (ax @hg @hl3))))) ?_
  refine dX.norm ?_
  show Jb _ _ _ _ _ _
  refine nZ M ?_
  refine hgo _ _ ⟨k - 1,_,_,by omega,(To.ofL (nx2:=1) [2] [(6,.i .i64 ((i + 1:Nat):Int)),(5,.sl 0 0 (i + 1) (cW + 3)),(1,.i .i64 (n:Int)),(0,.vw (Aa l) l.length)] [(0,some (.cells (jO (ws.take i) ++ rC x.w) 30 true))] rfl (by decide) (by first | exact aY | exact base_one | exact base_two) (by repeat' first | exact trivial | refine ⟨⟨_,rfl,by first | exact bU.same (by rw [cR,dH fun z hz=>okw z (List.mem_of_mem_take hz),okxw.bare]; rfl) | exact Wk.refl _ _ | exact Wk.bare rfl | exact Wk.zero _ | exact Wk.none _⟩,?_⟩) (by repeat' first | exact trivial | refine ⟨⟨Nat.le_of_ble_eq_true rfl,_,_,rfl,rfl,by first | exact bU.same (by rw [cR,dH fun z hz=>okw z (List.mem_of_mem_take hz),okxw.bare]; rfl) | exact bU.same rfl | exact bU.same (fr_bare _) | exact bU.same (bs_bare _) | exact bU.same (is_bare _) | exact bU.cells rfl⟩,?_⟩)),i + 1,by omega,cI hx hj hp,?_,?_⟩
  ·rw [show Mm (i + 1) = .sl 0 0 (i + 1) (cW + 3) from if_neg (by omega)]
  rw [uA hxw,<- mY]
  exact (if_neg (by rw [List.length_append,lt]; simp)).symm
 have hjl:j < x.ph.length:=by have:=of_decide_eq_true h2; omega
 obtain ⟨p,hph⟩:∃ r,x.ph[j]? = some r:=⟨_,List.getElem?_eq_getElem hjl⟩
 refine Jd.skipT ?_
 refine Jd.seq (Jd.block ?_)
 clear hex2
 obtain ⟨b1,e1⟩:∃ b,decide (p < 1) = b:=⟨_,rfl⟩
 obtain ⟨b2,e2⟩:∃ b,decide (p > (n:Int)) = b:=⟨_,rfl⟩
 have hpb:wG n p = (!b1 && !b2):=by
  unfold wG
  rw [<- e1,<- e2,<- decide_not,<- decide_not]
  congr 1
  ·exact decide_eq_decide.2 (by omega)
  exact decide_eq_decide.2 (by omega)
 rcases dP b1 b2 true true true with rfl | ⟨rfl,rfl⟩ | ⟨rfl,rfl,_⟩ | ⟨_,_,h,_⟩ | ⟨_,_,h,_⟩ | ⟨_,_,h,_⟩
 rotate_left 3
 iterate 3 (· cases h)
 iterate 2 (· (refine rg M (ax @Int.toNat_natCast (ax (mQ hx) (ax (uX hph) (ax @e1 @e2)))) ?_; refine cT rfl ?_; refine aZ M ?_; refine Jd.ret ?_; refine hret2 _ _ ?_; refine hret _ _ ?_; exact iE.r (aA.one rfl rfl (by rw [hw,cf hx (by rw [hp,cf hph hpb])]; rfl))))
 refine rg M (ax @Int.toNat_natCast (ax (mQ hx) (ax (uX hph) (ax @e1 @e2)))) ?_
 refine cF rfl ?_
 refine Jd.skip ?_
 refine dX.norm ?_
 show Jb _ _ _ _ _ _
 refine nZ M ?_
 exact hgo2 _ ⟨rfl,rfl,rfl,rfl,rfl,trivial⟩ hjl (cI hph hja hpb)
def Iq:List Oper->Nat->Option Oper
 | [],_=>none
 | o :: _,0=>some o
 | _ :: l,i + 1=>Iq l i
theorem AW (l:List Oper):∀ i,l[i]? = Iq l i:=by
 induction l with
 | nil=>intro i; rfl
 | cons o l ih =>
  intro i
  cases i with
  | zero=>rfl
  | succ i=>exact (List.getElem?_cons_succ).trans (ih i)
theorem Hk {P:Program} {md:Region.Mode} {ops:Array Oper} {Q:Exit->Act->World->Prop} {S:World->Prop} (i:Nat) {oi:Oper} (v:Value) {fuel:Nat} {listed:Array Bool} {a:Act} {w:World} (hi:Iq ops.toList i = some oi)
  (hb:(Region.noSelect ops && Region.free md ops listed i && (Region.ready md ops listed).contains i) = true)(hw:Region.wanted oi (yielded ops a.tmps) = true)(hS:S w)
  (hy:∀ w',S w'->(execOp a.eval oi).run P w' = .ok (.value v) w')(hQ:∀ c a w,Q (.panic c) (a.put oi.dst v) w->Q (.panic c) a w)
  (h:wpAnyH P md ops Q S fuel (listed.setIfInBounds i true) (a.put oi.dst v) w):wpAnyH P md ops Q S (fuel + 1) listed a w :=
 tk i v (by rw [<- AW] at hi; simpa using hi) hb hw hS hy hQ h
theorem MU {P:Program} {md:Region.Mode} {ops:Array Oper} {Q:Exit->Act->World->Prop} {S:World->Prop} (i:Nat) {oi:Oper} {fuel:Nat} {listed:Array Bool} {a:Act} {w:World} (hi:Iq ops.toList i = some oi)
  (hb:(Region.noSelect ops && Region.free md ops listed i && (Region.ready md ops listed).contains i) = true)(hw:Region.wanted oi (yielded ops a.tmps) = false)(hS:S w)
  (hQ:∀ c a w,Q (.panic c) (a.put oi.dst undef) w->Q (.panic c) a w)
  (h:wpAnyH P md ops Q S fuel (listed.setIfInBounds i true) (a.put oi.dst undef) w):wpAnyH P md ops Q S (fuel + 1) listed a w :=
 sk i (by rw [<- AW] at hi; simpa using hi) hb hw hS hQ h
theorem Nu (w:World) (v:Value) (l:List Int)(hi:Int)(h:aU w v l) :
  Calls Tryz.prog 249 #[v,.int .i64 hi] w fun e w'=>e = .returned (.bool (pM 0 hi l))/\w' = w:=by
 obtain ⟨A,ca,rfl,hlc,hcm,hA⟩:=h.open_
 have HA:=Lib.hid hA
 clear h hA
 obtain ⟨n,hn⟩:∃ n,l.length = n:=⟨_,rfl⟩
 rw [hn] at hlc ⊢
 have HN:=Lib.hid hn
 clear hn
 go_enter Tryz.func249,Tryz.ntmps249
 go_wp2_with fail
 go_loopg [5] n (fun g i wr=>∃ (j:Nat),wr = w/\i = .int .i64 j/\j + g = n/\Hid (pM 0 hi l = pM 0 hi (l.drop j)))
 case atStart=>exact ⟨0,rfl,rfl,by omega,Lib.hid rfl⟩
 obtain ⟨j,rfl,rfl,hj,HQ⟩:=hrel
 rcases Nat.eq_zero_or_pos gk with h | h
 ·obtain rfl:j = n:=by omega
  have HT:Hid (pM 0 hi l = true):=Lib.hid (by rw [HQ.out,List.drop_eq_nil_of_le (by rw [HN.out]; exact Nat.le_refl _)]; rfl)
  go_wp2_with fail
  go_ret
  exact ⟨aD HT.out.symm,rfl⟩
 obtain ⟨g,rfl⟩:∃ g,gk = g + 1:=⟨gk - 1,by omega⟩
 obtain ⟨x,hx⟩:∃ x,l[j]? = some x:=⟨_,List.getElem?_eq_getElem (by rw [HN.out]; omega)⟩
 obtain ⟨ba,oa,rfl,_,hc⟩:=HA.out j x hx
 have ST:=Lib.hid (HQ.out.trans (Fl hx))
 clear hx
 by_cases h1:0 <= x
 ·by_cases h2:x <= hi
  ·have d1:decide (x < 0) = false:=decide_eq_false (by omega)
   have d2:decide (hi < x) = false:=decide_eq_false (by omega)
   have HT:Hid (pM 0 hi l = pM 0 hi (l.drop (j + 1))):=Lib.hid (by rw [ST.out,decide_eq_true h1,decide_eq_true h2]; rfl)
   clear h1 h2
   go_wp2_with fail
   go_roundg g
   case measure=>omega
   case rel=>exact ⟨j + 1,rfl,rfl,by omega,HT⟩
  have d1:decide (x < 0) = false:=decide_eq_false (by omega)
  have d2:decide (hi < x) = true:=decide_eq_true (by omega)
  have HT:Hid (pM 0 hi l = false):=Lib.hid (by rw [ST.out,decide_eq_true h1,decide_eq_false h2]; rfl)
  clear h1 h2
  go_wp2_with fail
  go_ret
  exact ⟨aD HT.out.symm,rfl⟩
 have d1:decide (x < 0) = true:=decide_eq_true (by omega)
 have HT:Hid (pM 0 hi l = false):=Lib.hid (by rw [ST.out,decide_eq_false h1]; rfl)
 clear h1
 go_wp2_with fail
 go_ret
 exact ⟨aD HT.out.symm,rfl⟩

theorem Oo (w:World) (va vb:Value) (a b:List Int)(ha:aU w va a)(hb:aU w vb b)(hl:a.length <= b.length) :
  Calls Tryz.prog 123 #[va,vb] w fun e w'=>e = .returned (.int .i64 (ew a b))/\∃ m,w' = w.drewN m:=by
 obtain ⟨A,ca,rfl,hlc,hcm,hA⟩:=ha.open_
 obtain ⟨B,cb,rfl,hmc,hcm',hB⟩:=hb.open_
 have HA:=Lib.hid hA
 have HB:=Lib.hid hB
 clear ha hb hA hB
 obtain ⟨n,hn⟩:∃ n,a.length = n:=⟨_,rfl⟩
 obtain ⟨p,hp⟩:∃ p,b.length = p:=⟨_,rfl⟩
 rw [hn] at hlc hl ⊢
 rw [hp] at hmc hl ⊢
 have HN:=Lib.hid hn
 have HP:=Lib.hid hp
 clear hn hp
 go_enter Tryz.func123,Tryz.ntmps123
 go_wp2_with fail
 go_loopg [5] n (fun g i wr=>∃ (j:Nat),(∃ d,wr = w.drewN d)/\i = .int .i64 j/\j + g = n/\Hid (a.take j = b.take j))
 case atStart=>exact ⟨0,⟨0,rfl⟩,rfl,by omega,Lib.hid rfl⟩
 obtain ⟨j,⟨nd,rfl⟩,rfl,hj,HQ⟩:=hrel
 rcases Nat.eq_zero_or_pos gk with h | h
 ·obtain rfl:j = n:=by omega
  have HT:Hid (ew a b = 0):=Lib.hid (ET (by
   have:=HQ.out
   rw [List.take_of_length_le (by rw [HN.out]; exact Nat.le_refl _)] at this
   rw [HN.out]; exact this))
  go_wp2_with fail
  go_ret
  exact ⟨aq HT.out.symm,⟨_,by first | rfl | exact World.drewN_drewN _ _ _ | exact (congrArg (fun u=>World.drewN u _) (World.drewN_drewN _ _ _)).trans (World.drewN_drewN _ _ _)⟩⟩
 obtain ⟨g,rfl⟩:∃ g,gk = g + 1:=⟨gk - 1,by omega⟩
 obtain ⟨x,hx⟩:∃ x,a[j]? = some x:=⟨_,List.getElem?_eq_getElem (by rw [HN.out]; omega)⟩
 obtain ⟨y,hy⟩:∃ y,b[j]? = some y:=⟨_,List.getElem?_eq_getElem (by rw [HP.out]; omega)⟩
 obtain ⟨ba,oa,rfl,_,hc⟩:=HA.out j x hx
 obtain ⟨bb,ob,rfl,_,hc'⟩:=HB.out j y hy
 have HX:=Lib.hid hx
 have HY:=Lib.hid hy
 clear hx hy
 by_cases hxy:x = y
 ·subst hxy
  have hne:(x != x) = false:=by simp
  go_wp2_with fail
  go_quiet (fail)
  go_wp2_with fail
  go_roundg g
  case measure=>omega
  case rel=>exact ⟨j + 1,⟨_,rfl⟩,rfl,by omega,Lib.hid (by rw [aG _ HX.out,aG _ HY.out,HQ.out])⟩
 have hne:(x != y) = true:=by simpa using hxy
 have HF:=Lib.hid (Ih HQ.out HX.out HY.out hxy)
 clear hxy
 by_cases hlt:x < y
 ·have HF2:Hid (ew a b = -1):=Lib.hid (by rw [HF.out,if_pos hlt])
  have hd:decide (x < y) = true:=decide_eq_true hlt
  clear hlt
  go_wp2_with fail
  go_quiet (fail)
  go_wp2_with fail
  go_quiet (fail)
  go_wp2_with fail
  go_ret
  exact ⟨aq HF2.out.symm,⟨_,by first | rfl | exact World.drewN_drewN _ _ _ | exact (congrArg (fun u=>World.drewN u _) (World.drewN_drewN _ _ _)).trans (World.drewN_drewN _ _ _)⟩⟩
 have HF2:Hid (ew a b = 1):=Lib.hid (by rw [HF.out,if_neg hlt])
 have hd:decide (x < y) = false:=decide_eq_false hlt
 clear hlt
 go_wp2_with fail
 go_quiet (fail)
 go_wp2_with fail
 go_quiet (fail)
 go_wp2_with fail
 go_ret
 exact ⟨aq HF2.out.symm,⟨_,by first | rfl | exact World.drewN_drewN _ _ _ | exact (congrArg (fun u=>World.drewN u _) (World.drewN_drewN _ _ _)).trans (World.drewN_drewN _ _ _)⟩⟩


theorem qO (w:World) (O V:Int) (lv:Value) (gs:List Gr)(h:eI w lv gs) :
  Calls Tryz.prog 172 #[.agg #[.int .i64 O,.int .i64 V,lv]] w fun e w'=>e = .returned (.int .i64 (bN O V gs))/\Below w.heap.size w w':=by
 obtain ⟨A,c,rfl,hlc,hcm,hat⟩:=h.open_
 have HAT:=Lib.hid hat
 clear h hat
 obtain ⟨n,hn⟩:∃ n,gs.length = n:=⟨_,rfl⟩
 rw [hn] at hlc ⊢
 have HN:=Lib.hid hn
 clear hn
 by_cases hlong:20000 < n
 ·have hd2:decide ((20000:Int) < (n:Int)) = true:=decide_eq_true (by omega)
  have HE:Hid (bN O V gs = 5):=Lib.hid (pb (by rw [HN.out]; exact hlong))
  clear hlong
  go_enter Tryz.func172,Tryz.ntmps172
  go_wp2_with fail
  go_ret
  exact ⟨aq HE.out.symm,(Below.refl _ _).alloc (Nat.le_refl _) _⟩
 have hd2:decide ((20000:Int) < (n:Int)) = false:=decide_eq_false (by omega)
 have HL:Hid (¬ 20000 < gs.length):=Lib.hid (by rw [HN.out]; exact hlong)
 clear hlong
 go_enter Tryz.func172,Tryz.ntmps172
 go_wp2_with fail
 obtain ⟨W,hW,P0,PB,Phs⟩:=eU w 26 [.int .i64 O,.int .i64 V,.slice A n c]
 rw [<- hW]
 clear hW
 refine (KO W O V).mono ?_
 rintro e w1 ⟨rfl,hb1⟩
 have P1:=Lib.hid (P0.out.below' hb1)
 have B1:=Lib.hid (PB.out.trans (hb1.mono (by omega)))
 clear hb1 P0 PB
 obtain ⟨p0,p1,p2,_,_,_⟩:=P1.out.three
 obtain ⟨sb,hsb⟩:∃ b,cK O V = b:=⟨_,rfl⟩
 rw [hsb]
 have HSB:=Lib.hid hsb
 clear hsb
 cases sb
 ·have HE:Hid (bN O V gs = 2):=Lib.hid (pa HL.out HSB.out)
  go_wp2_with fail
  go_ret
  exact ⟨aq HE.out.symm,B1.out⟩
 clear hd2
 go_wp2_with fail
 go_loopg [3] n (fun gh i wz=>∃ (j:Nat),i = .int .i64 j/\j + gh = n/\Hid (∀ k,k < j->fe O V gs k = true)/\Hid (bw wz w.heap.size 26 [.int .i64 O,.int .i64 V,.slice A n c])/\Hid (Below w.heap.size w wz))
 case atStart=>exact ⟨0,rfl,by omega,Lib.hid (fun k hk=>by omega),P1,B1⟩
 clear p0 p1 p2 P1 B1
 obtain ⟨j,rfl,hj,HG,P1,B1⟩:=hrel
 obtain ⟨p0,p1,p2,_,_,_⟩:=P1.out.three
 have s2:w.heap.size < wr.heap.size:=P1.out.lt
 rcases Nat.eq_zero_or_pos gk with hh | hh
 ·subst hh
  obtain rfl:j = n:=by omega
  have HE:Hid (bN O V gs = 0):=Lib.hid (pc HL.out HSB.out (fun i hi=>HG.out i (by rw [HN.out] at hi; exact hi)))
  go_wp2_with fail
  go_ret
  exact ⟨aq HE.out.symm,B1.out⟩
 obtain ⟨gh,rfl⟩:∃ g,gk = g + 1:=⟨gk - 1,by omega⟩
 obtain ⟨x,hx⟩:∃ x,gs[j]? = some x:=⟨_,List.getElem?_eq_getElem (by rw [HN.out]; omega)⟩
 obtain ⟨ba,oa,a0,rfl,hba,ea0,ea1,fa⟩:=HAT.out j x hx
 have d0:=(B1.out.cell (p:=⟨ba,oa + j * 2,none⟩) hba).trans ea0
 have d1:=(B1.out.cell (p:=⟨ba,oa + j * 2 + 1,none⟩) hba).trans ea1
 have FA:=Lib.hid (fa.below B1.out)
 have HX:=Lib.hid hx
 have hz3:ba < wr.heap.size:=by omega
 clear hx ea0 ea1
 obtain ⟨A1,k1,hA1⟩:=fa.len
 subst hA1
 clear fa
 have HBAD:Hid ((¬ (x.1.length:Int) = O ∨ pM 0 V x.1 = false ∨ x.2 < 1 ∨ 1073741824 < x.2 ∨ (0 < j/\¬ ew (gs.getD (j - 1) ([],0)).1 x.1 < 0))->bN O V gs = 2):=Lib.hid (fun hc=>qF HL.out (by rw [HN.out]; omega) (nJ HX.out hc))
 obtain ⟨x1,x2⟩:=x
 simp only at d0 d1 FA HBAD
 obtain ⟨m,hm⟩:∃ m,x1.length = m:=⟨_,rfl⟩
 rw [hm] at d0
 have HM:=Lib.hid hm
 rw [hm] at HBAD
 have FA2:Hid (aU wr (.slice A1 m k1) x1):=Lib.hid (by rw [<- hm]; exact FA.out)
 clear hm FA
 go_wp2_with fail
 obtain ⟨W2,hW2,G0,GB,Ghs⟩:=eU wr 82 [.slice A1 m k1,.int .i64 x2]
 rw [<- hW2]
 clear hW2
 have P3:=Lib.hid (P1.out.below' GB.out)
 have BE:=Lib.hid (B1.out.trans (GB.out.mono B1.out.size))
 have FA3:=Lib.hid (FA2.out.below GB.out)
 have FI:Hid (∀ W',aU W' (.slice A1 m k1) x1->Calls Tryz.prog 249 #[.slice A1 m k1,.int .i64 V] W' fun e w'=>e = .returned (.bool (pM 0 V x1))/\w' = W'):=Lib.hid (fun W' h=>Nu W' _ x1 V h)
 clear p0 p1 p2 d0 d1 P1 B1 FA2 GB
 obtain ⟨p0,p1,p2,_,_,_⟩:=P3.out.three
 have g0:=G0.out.cell 0
 have g1:=G0.out.cell 1
 simp only [List.getElem?_cons_zero,List.getElem?_cons_succ] at g0 g1
 obtain ⟨ib,hib⟩:∃ b,pM 0 V x1 = b:=⟨_,rfl⟩
 rw [hib] at FI
 have HIB:=Lib.hid hib
 clear hib
 by_cases hml:(m:Int) = O
 ·have e1:((m:Int) != O) = false:=by simpa using hml
  have HML:=Lib.hid hml
  clear hml
  cases ib
  ·have HE:=Lib.hid (HBAD.out (.inr (.inl HIB.out)))
   go_quiet ((go_at_call 249; exact Calls.quiet_of_same (FI.out _ (FA3.out.drewN _))))
   go_wp2_with fail
   go_ret
   exact ⟨aq HE.out.symm,aJ BE.out _⟩
  by_cases hx1:x2 < 1
  ·have HE:=Lib.hid (HBAD.out (.inr (.inr (.inl hx1))))
   have e2:decide (x2 < 1) = true:=decide_eq_true hx1
   clear hx1
   go_quiet ((go_at_call 249; exact Calls.quiet_of_same (FI.out _ (FA3.out.drewN _))))
   go_wp2_with fail
   go_ret
   exact ⟨aq HE.out.symm,aJ BE.out _⟩
  have e2:decide (x2 < 1) = false:=decide_eq_false hx1
  by_cases hx2:1073741824 < x2
  ·have HE:=Lib.hid (HBAD.out (.inr (.inr (.inr (.inl hx2)))))
   have e3:decide (1073741824 < x2) = true:=decide_eq_true hx2
   clear hx1 hx2
   go_quiet ((go_at_call 249; exact Calls.quiet_of_same (FI.out _ (FA3.out.drewN _))))
   go_wp2_with fail
   go_ret
   exact ⟨aq HE.out.symm,aJ BE.out _⟩
  have e3:decide (1073741824 < x2) = false:=decide_eq_false hx2
  have HX12:=Lib.hid (And.intro hx1 hx2)
  clear hx1 hx2
  rcases Nat.eq_zero_or_pos j with hj0 | hj0
  ·subst hj0
   have HGT:=Lib.hid (ii (O:=O) (V:=V) HX.out (by rw [HM.out]; exact HML.out) HIB.out (by have:=HX12.out; simp only; omega) (by have:=HX12.out; simp only; omega) (fun h=>by omega))
   go_quiet ((go_at_call 249; exact Calls.quiet_of_same (FI.out _ (FA3.out.drewN _))))
   go_wp2_with fail
   go_roundg gh
   case measure=>omega
   case rel=>exact ⟨1,rfl,by omega,Lib.hid (fun k hk=>by rw [show k = 0 by omega]; exact HGT.out),Lib.hid (P3.out.drewN _),Lib.hid (aJ BE.out _)⟩
  obtain ⟨i,rfl⟩:∃ i,j = i + 1:=⟨j - 1,by omega⟩
  obtain ⟨y,hy⟩:∃ y,gs[i]? = some y:=⟨_,List.getElem?_eq_getElem (by rw [HN.out]; omega)⟩
  obtain ⟨bb,ob,b0,eb,hbb,eb0,eb1,fb⟩:=HAT.out i y hy
  cases eb
  have d0:=(BE.out.cell (p:=⟨ba,oa + i * 2,none⟩) hbb).trans eb0
  have HYL:=Lib.hid (rj hy (HG.out i (by omega)))
  obtain ⟨A2,k2,hA2⟩:=fb.len
  subst hA2
  have FB:=Lib.hid (fb.below BE.out)
  have HOL:Hid (ew y.1 x1 = ew (gs.getD (i + 1 - 1) ([],0)).1 x1):=Lib.hid (by rw [show i + 1 - 1 = i by omega,jy hy])
  obtain ⟨cv,hcv⟩:∃ c,ew y.1 x1 = c:=⟨_,rfl⟩
  rw [hcv] at HOL
  obtain ⟨p,hp⟩:∃ p,y.1.length = p:=⟨_,rfl⟩
  rw [hp] at d0 FB
  have CM:Hid (∀ W',aU W' (.slice A2 p k2) y.1->aU W' (.slice A1 m k1) x1->Calls Tryz.prog 123 #[.slice A2 p k2,.slice A1 m k1] W' fun e w'=>e = .returned (.int .i64 cv)/\∃ m,w' = W'.drewN m):=Lib.hid (fun W' h1 h2=>by
   rw [<- hcv]
   exact Oo W' _ _ _ _ h1 h2 (by have h1:=HYL.out; have h2:=HML.out; have h3:=HM.out; omega))
  have i1:IntKind.i64.wrap ((i:Int) + 1 - 1) = (i:Int):=by rw [show (i:Int) + 1 - 1 = i by omega]; exact IntWalk.i64_in _ (by omega)
  have i2:IntKind.i64.wrap (i:Int) = (i:Int):=IntWalk.i64_in _ (by omega)
  have j1:(0:Int) <= (i:Int):=by omega
  have j2:(i:Int) < (n:Int):=by omega
  have j3:decide ((0:Int) < (i:Int) + 1) = true:=decide_eq_true (by omega)
  have j4:decide (0 < i + 1) = true:=decide_eq_true (by omega)
  clear hy eb0 eb1 fb hcv hp
  by_cases hc:cv < 0
  ·have e5:decide (0 <= cv) = false:=decide_eq_false (by omega)
   have HGT:=Lib.hid (ii (O:=O) (V:=V) HX.out (by rw [HM.out]; exact HML.out) HIB.out (by have:=HX12.out; simp only; omega) (by have:=HX12.out; simp only; omega) (fun _=>by rw [<- HOL.out]; exact hc))
   clear hc
   go_quiet (first | (go_at_call 249; exact Calls.quiet_of_same (FI.out _ (FA3.out.drewN _))) | (go_at_call 123; exact Calls.quiet_of (CM.out _ (FB.out.drewN _) (FA3.out.drewN _))))
   go_wp2_with fail
   go_roundg gh
   case measure=>omega
   case rel=>exact ⟨i + 1 + 1,rfl,by omega,Lib.hid (fun k hk=>by
    by_cases e:k = i + 1
    ·rw [e]; exact HGT.out
    ·exact HG.out k (by omega)),Lib.hid (P3.out.drewN _),Lib.hid (aJ BE.out _)⟩
  have e5:decide (0 <= cv) = true:=decide_eq_true (by omega)
  have HE:=Lib.hid (HBAD.out (.inr (.inr (.inr (.inr ⟨by omega,by rw [<- HOL.out]; omega⟩)))))
  clear hc
  go_quiet (first | (go_at_call 249; exact Calls.quiet_of_same (FI.out _ (FA3.out.drewN _))) | (go_at_call 123; exact Calls.quiet_of (CM.out _ (FB.out.drewN _) (FA3.out.drewN _))))
  go_wp2_with fail
  go_ret
  exact ⟨aq HE.out.symm,aJ BE.out _⟩
 have e1:((m:Int) != O) = true:=by simpa using hml
 have HE:=Lib.hid (HBAD.out (.inl hml))
 clear hml
 go_quiet (fail)
 go_wp2_with fail
 go_ret
 exact ⟨aq HE.out.symm,aJ BE.out _⟩
end Go.Proofs.YtkdhppimhdemjaaGreat
