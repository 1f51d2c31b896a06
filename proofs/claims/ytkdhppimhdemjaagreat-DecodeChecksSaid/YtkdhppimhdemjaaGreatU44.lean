/- Lemmas on the way: Dl2, Dl3, Jf3, Df1. -/
import Derived.Test.YtkdhppimhdemjaaGreatU43
set_option linter.all false
set_option maxRecDepth 1000000
set_option maxHeartbeats 32000000
namespace Go.Proofs.YtkdhppimhdemjaaGreat
open Go.RowKit
def yx (r:List RF):Bool:=!(decide (5 < r.length)) && eK r
def Oj (m:MD):Bool:=!(decide (3 < m.start.length)) && !(decide (4 < m.move.length)) && !(decide (4 < m.say.length)) && !(decide (4 < m.fin.length)) && !(decide (4 < dj m)) && eK m.start && eK m.fin
def Ho (m:MD):Bool:=Oj m && m.move.all yx && m.say.all yx
def Hn (v:VD):Bool:=!(decide (3 < v.ph.length) && decide (v.ph.length <= 20)) && wD v.w
def Hm (l:List VD):Bool:=!(decide (3 < l.length) && decide (l.length <= 10)) && l.all Hn
def MQ (g:Gr):Bool:=!(decide (5 < g.1.length))
def MO (t:TD):Bool:=!(decide (4 < t.ms.length)) && !(decide (4 < t.ws.length)) && !(decide (30 < t.L.gs.length)) && !(decide (6 < t.L.mix.length)) && eK t.L.mix && wD t.L.am
def l8 (t:TD):Bool:=MO t && t.ms.all Ho && t.ws.all Hm && t.L.gs.all MQ
abbrev nG:Nat:=9223372036854775807
structure MD.Dx (m:MD):Prop where
 hs:(∀ x ∈ m.start,x.Dx)/\m.start.length <= nG
 hm:∀ r ∈ m.move,(∀ x ∈ r,x.Dx)/\r.length <= nG
 hf:(∀ x ∈ m.fin,x.Dx)/\m.fin.length <= nG
 hy:∀ r ∈ m.say,(∀ x ∈ r,x.Dx)/\r.length <= nG
structure TD.Dx (t:TD):Prop where
 hms:∀ m ∈ t.ms,m.Dx
 hws:∀ l ∈ t.ws,(∀ v ∈ l,v.w.Dx/\v.ph.length <= nG)/\l.length <= nG
 ham:t.L.am.Dx
 hmix:(∀ x ∈ t.L.mix,x.Dx)/\t.L.mix.length <= nG
noncomputable def smallTV:=ofE pH TD.Dx fun t=>.b (l8 t)
theorem Ek {t:TD} (h:t.Dx) (s:St):ae smallTV [.agg (tC t)] s = some (.b (l8 t),s):=bD hX h s
theorem DE {a:Nat} {n:Nat} {b:Bool} (h:decide ((a:Int) > (n:Int)) = b):(!decide (n < a)) = !b:=by rw [CP h]
theorem Lw (a b c d e f g:Bool):(a = true) ∨ (a = false/\b = true) ∨ (a = false/\b = false/\c = true) ∨ (a = false/\b = false/\c = false/\d = true) ∨ (a = false/\b = false/\c = false/\d = false/\e = true) ∨ (a = false/\b = false/\c = false/\d = false/\e = false/\f = true) ∨ (a = false/\b = false/\c = false/\d = false/\e = false/\f = false/\g = true) ∨ (a = false/\b = false/\c = false/\d = false/\e = false/\f = false/\g = false):=by
 cases a <;> cases b <;> cases c <;> cases d <;> cases e <;> cases f <;> cases g <;> simp
theorem kN {t:TD} (h:t.Dx):aE (tC t) = true:=by unfold tC; simp only [aE,bare,(bv h.ham.1).1,(bv h.ham.2).1]; rfl
theorem Dk:ag Tryz.prog 5 (ae smallTV):=by
 obtain ⟨E,M,c1,c2⟩:=y8 (fB plainV) (ae symV) ⟨gq yc,lA⟩ rfl
 refine ai (by kernel_rfl) Tryz.func5 Tryz.ntmps5 rfl ?_
 intro args v h
 obtain ⟨t,ok,rfl,rfl⟩:=aB h
 have d1:=ok.ham
 have f1:=(bv d1.1).2
 have f2:=(bv d1.2).2
 refine ⟨by simp only [pH,aE,bare,kN ok]; rfl,rfl,Nat.le_of_ble_eq_true rfl,?_⟩
 have hpl:∀ {r:List RF},(∀ x ∈ r,x.Dx)->r.length <= nG->∀ s,fB plainV [bF r] s = some (.b (eK r),s):=fun {r} h hl s=>nD (xs:=wq r) rfl (jr wm ⟨h,hl⟩) rfl
 have hmix:=hpl ok.hmix.1 ok.hmix.2
 unfold pH
 rw [show tC t = [.vw (pK t.ms) t.ms.length,.vw (t.ws.map fun l=>b9 l) t.ws.length,.i .i64 t.L.O,.i .i64 t.L.V,.vw (rY t.L.gs) t.L.gs.length,.i .i64 t.L.k,.b t.L.am.neg,t.L.am.n,t.L.am.d,bF t.L.mix] from rfl]
 rw [bT,St.of_nil]
 refine rg M (ax @f1 @f2) ?_
 refine Jd.freezeL (nx2:=0) 0 (tC t) [] [(1,.vp (tC t) 0)] [] rfl ?_ rfl (by decide) (by repeat' first | exact trivial | refine ⟨⟨_,rfl,by first | exact Wk.frz_ptr | exact Wk.refl _ _ | exact Wk.bare rfl | exact Wk.zero _ | exact Wk.none _⟩,?_⟩) (trivial) ?_
 ·exact kN ok
 have t0:(tC t)[0]? = some (.vw (pK t.ms) t.ms.length):=rfl
 have t1:(tC t)[1]? = some (.vw (t.ws.map fun l=>b9 l) t.ws.length):=rfl
 have t4:(tC t)[4]? = some (.vw (rY t.L.gs) t.L.gs.length):=rfl
 have t9:(tC t)[9]? = some (bF t.L.mix):=rfl
 have t6:getR (tC t) 6 3 = some [.b t.L.am.neg,t.L.am.n,t.L.am.d]:=rfl
 have hown:fB plainV [.sl 0 0 1 1] (St.of [(0,some (.cells [.b t.L.am.neg,t.L.am.n,t.L.am.d] 30 false))] 1) = some (.b (wD t.L.am),St.of [(0,some (.cells [.b t.L.am.neg,t.L.am.n,t.L.am.d] 30 false))] 1):=ol d1 rfl
 obtain ⟨b1,e1⟩:∃ b,decide ((t.ms.length:Int) > 4) = b:=⟨_,rfl⟩
 obtain ⟨b2,e2⟩:∃ b,decide ((t.ws.length:Int) > 4) = b:=⟨_,rfl⟩
 obtain ⟨b3,e3⟩:∃ b,decide ((t.L.gs.length:Int) > 30) = b:=⟨_,rfl⟩
 obtain ⟨b4,e4⟩:∃ b,decide ((t.L.mix.length:Int) > 6) = b:=⟨_,rfl⟩
 obtain ⟨b5,e5⟩:=nL (eK t.L.mix)
 obtain ⟨b6,e6⟩:=nL (wD t.L.am)
 have hT:MO t = (!b1 && !b2 && !b3 && !b4 && !b5 && !b6):=by unfold MO; rw [DE e1,DE e2,DE e3,DE e4,e5,e6]
 rw [e5] at hmix
 rw [e6] at hown
 obtain ⟨sm,hsm⟩:∃ b,l8 t = b:=⟨_,rfl⟩
 have hs:sm = (MO t && t.ms.all Ho && t.ws.all Hm && t.L.gs.all MQ):=hsm.symm
 rw [hsm]
 rw [hT] at hs
 refine Jd.seq ?_
 rcases FE b1 b2 b3 b4 b5 b6 with rfl | ⟨rfl,rfl⟩ | ⟨rfl,rfl,rfl⟩ | ⟨rfl,rfl,rfl,rfl⟩ | ⟨rfl,rfl,rfl,rfl,rfl⟩ | ⟨rfl,rfl,rfl,rfl,rfl,rfl⟩ | ⟨rfl,rfl,rfl,rfl,rfl,rfl⟩
 iterate 6 (· (refine rg M (ax @t0 (ax @t1 (ax @t4 (ax @t9 (ax @t6 (ax @e1 (ax @e2 (ax @e3 (ax @e4 (ax @f1 (ax @f2 (ax @c1 (ax @hmix (ax @hown (ax @Bool.not_true @Bool.not_false))))))))))))))) ?_; refine cT rfl ?_; refine aZ M ?_; refine Jd.retT (aA.one rfl rfl ?_); rw [hs]; rfl))
 have hs:sm = (t.ms.all Ho && t.ws.all Hm && t.L.gs.all MQ):=hs
 refine rg M (ax @t0 (ax @t1 (ax @t4 (ax @t9 (ax @t6 (ax @e1 (ax @e2 (ax @e3 (ax @e4 (ax @f1 (ax @f2 (ax @c1 (ax @hmix (ax @hown (ax @Bool.not_true @Bool.not_false))))))))))))))) ?_
 refine lF rfl ?_
 have l1:t.ms.length <= 4:=by have:=of_decide_eq_false e1; omega
 have l2:t.ws.length <= 4:=by have:=of_decide_eq_false e2; omega
 have l3:t.L.gs.length <= 30:=by have:=of_decide_eq_false e3; omega
 refine Jd.forget [(1,.vp (tC t) 0)] ⟨rfl,trivial⟩ rfl ?_
 refine Jd.seq ?_
 refine aZ M ?_
 refine Jd.loopS t.ms.length (fun i=>[(3,.i .i64 (i:Int)),(1,.vp (tC t) 0)]) (fun i=>(t.ms.take i).all Ho = true) ⟨rfl,rfl,trivial⟩ rfl ?_
 intro i hi hj Q' hex hret hgo
 refine Jd.seq ?_
 refine rg M @t0 ?_
 refine Jd.cnd rfl (fun h1=>?_) (fun h1=>?_)
 rotate_left
 ·refine Jd.exitT (hex _ _ ?_)
  show Jb _ _ _ _ _ _
  have hi2:i = t.ms.length:=by have:=of_decide_eq_false h1; omega
  rw [hi2,List.take_length] at hj
  rw [hj,Bool.true_and] at hs
  clear hex hret hgo
  refine Jd.seq ?_
  refine aZ M ?_
  refine Jd.loopS t.ws.length (fun i=>[(7,.i .i64 (i:Int)),(1,.vp (tC t) 0)]) (fun i=>(t.ws.take i).all Hm = true) ⟨rfl,rfl,trivial⟩ rfl ?_
  intro i hi hj Q' hex hret hgo
  refine Jd.seq ?_
  refine rg M @t1 ?_
  refine Jd.cnd rfl (fun h1=>?_) (fun h1=>?_)
  rotate_left
  ·refine Jd.exitT (hex _ _ ?_)
   show Jb _ _ _ _ _ _
   have hi2:i = t.ws.length:=by have:=of_decide_eq_false h1; omega
   rw [hi2,List.take_length] at hj
   rw [hj,Bool.true_and] at hs
   clear hex hret hgo
   refine Jd.seq ?_
   refine aZ M ?_
   refine Jd.loopS t.L.gs.length (fun i=>[(10,.i .i64 (i:Int)),(1,.vp (tC t) 0)]) (fun i=>(t.L.gs.take i).all MQ = true) ⟨rfl,rfl,trivial⟩ rfl ?_
   intro i hi hj Q' hex hret hgo
   refine Jd.seq ?_
   refine rg M @t4 ?_
   refine Jd.cnd rfl (fun h1=>?_) (fun h1=>?_)
   rotate_left
   ·refine Jd.exitT (hex _ _ ?_)
    show Jb _ _ _ _ _ _
    have hi2:i = t.L.gs.length:=by have:=of_decide_eq_false h1; omega
    rw [hi2,List.take_length] at hj
    refine aZ M ?_
    exact Jd.ret (aA.one rfl rfl (by rw [hs,hj]))
   have hil:i < t.L.gs.length:=by have:=of_decide_eq_true h1; omega
   obtain ⟨g,hx⟩:∃ r,t.L.gs[i]? = some r:=⟨_,List.getElem?_eq_getElem hil⟩
   obtain ⟨b1,g1⟩:∃ b,decide ((g.1.length:Int) > 5) = b:=⟨_,rfl⟩
   have hp:MQ g = !b1:=DE g1
   refine Jd.skipT ?_
   refine Jd.seq (Jd.block ?_)
   clear hex
   refine rg M (ax @Int.toNat_natCast (ax @t4 (ax (I1 hx) @g1))) ?_
   cases b1 with
   | true =>
    refine cT rfl ?_
    refine aZ M ?_
    refine Jd.ret ?_
    refine hret _ _ ?_
    exact iE.r (aA.one rfl rfl (by rw [hs,cf hx hp]))
   | false =>
    refine cF rfl ?_
    refine Jd.skip ?_
    refine dX.norm ?_
    show Jb _ _ _ _ _ _
    refine nZ M ?_
    exact hgo _ ⟨rfl,rfl,trivial⟩ hil (cI hx hj hp)
  have hil:i < t.ws.length:=by have:=of_decide_eq_true h1; omega
  obtain ⟨l,hx⟩:∃ r,t.ws[i]? = some r:=⟨_,List.getElem?_eq_getElem hil⟩
  obtain ⟨okl,hll⟩:=ok.hws l (List.mem_of_getElem? hx)
  have hll9:l.length <= 9223372036854775807:=hll
  have hbad:Hm l = false->sm = false:=fun h=>by rw [hs,cf hx h]; rfl
  refine Jd.skipT ?_
  refine Jd.seq (Jd.block ?_)
  clear hex
  obtain ⟨b1,g1⟩:∃ b,decide ((l.length:Int) > 3) = b:=⟨_,rfl⟩
  obtain ⟨b2,g2⟩:∃ b,decide ((l.length:Int) <= 10) = b:=⟨_,rfl⟩
  have g2':decide (l.length <= 10) = b2:=by rw [<- g2]; exact decide_eq_decide.2 (by omega)
  obtain ⟨b3,hb3⟩:∃ b,(b1 && b2) = b:=⟨_,rfl⟩
  have hw:Hm l = (!b3 && l.all Hn):=by unfold Hm; rw [CP g1,g2',hb3]
  refine Jd.seq ?_
  have key:b3 = true ∨ b3 = false:=by cases b3 <;> simp
  cases b3 with
  | true =>
   obtain ⟨rfl,rfl⟩:b1 = true/\b2 = true:=by cases b1 <;> cases b2 <;> simp_all
   refine rg M (ax @Int.toNat_natCast (ax @t1 (ax (mJ hx) (ax @g1 @g2)))) ?_
   refine cT rfl ?_
   refine aZ M ?_
   refine Jd.retT ?_
   refine hret _ _ ?_
   exact iE.r (aA.one rfl rfl (by rw [hbad (by rw [hw]; rfl)]))
  | false =>
  cases b1 <;> cases b2
  rotate_left 3
  ·cases hb3
  all_goals
   refine rg M (ax @Int.toNat_natCast (ax @t1 (ax (mJ hx) (ax @g1 @g2)))) ?_
   refine lF rfl ?_
   refine Jd.forget [(7,.i .i64 (i:Int)),(1,.vp (tC t) 0)] ⟨rfl,rfl,trivial⟩ rfl ?_
   clear key g1 g2 g2' hb3
   have hw:Hm l = l.all Hn:=hw
   refine aZ M ?_
   refine Jd.loopS l.length (fun k=>[(8,.i .i64 (k:Int)),(7,.i .i64 (i:Int)),(1,.vp (tC t) 0)]) (fun k=>(l.take k).all Hn = true) ⟨rfl,rfl,rfl,trivial⟩ rfl ?_
   intro k hk hkj Q2 hex2 hret2 hgo2
   refine Jd.seq ?_
   refine rg M (ax @Int.toNat_natCast (ax @t1 (mJ hx))) ?_
   refine Jd.cnd rfl (fun h1=>?_) (fun h1=>?_)
   rotate_left
   ·refine Jd.exitT (hex2 _ _ ?_)
    show Jb _ _ _ _ _ _
    have hi2:k = l.length:=by have:=of_decide_eq_false h1; omega
    rw [hi2,List.take_length] at hkj
    refine nZ M ?_
    exact hgo _ ⟨rfl,rfl,trivial⟩ hil (cI hx hj (by rw [hw,hkj]))
   have hkl:k < l.length:=by have:=of_decide_eq_true h1; omega
   obtain ⟨v,hv⟩:∃ r,l[k]? = some r:=⟨_,List.getElem?_eq_getElem hkl⟩
   obtain ⟨dv,hvl⟩:=okl v (List.mem_of_getElem? hv)
   have f3:=(bv dv.1).2
   have f4:=(bv dv.2).2
   have hbad:Hn v = false->sm = false:=fun h=>hbad (by rw [hw,cf hv h])
   refine Jd.skipT ?_
   refine Jd.seq (Jd.block ?_)
   clear hex2
   obtain ⟨q1,r1⟩:∃ b,decide ((v.ph.length:Int) > 3) = b:=⟨_,rfl⟩
   obtain ⟨q2,r2⟩:∃ b,decide ((v.ph.length:Int) <= 20) = b:=⟨_,rfl⟩
   obtain ⟨q3,r3⟩:=nL (wD v.w)
   have r2':decide (v.ph.length <= 20) = q2:=by rw [<- r2]; exact decide_eq_decide.2 (by omega)
   have hvv:Hn v = (!(q1 && q2) && !q3):=by unfold Hn; rw [CP r1,r2',r3]
   have hown:fB plainV [.sl 1 0 1 1] (St.of [(1,some (.cells [.b v.w.neg,v.w.n,v.w.d] 30 false)),(0,some (.cells [.vw (is v.ph) v.ph.length,.b v.w.neg,v.w.n,v.w.d] 80 false)),(0,some (.cells [.snil,.b false,.snil,.snil] 80 false))] 2) = some (.b !q3,St.of [(1,some (.cells [.b v.w.neg,v.w.n,v.w.d] 30 false)),(0,some (.cells [.vw (is v.ph) v.ph.length,.b v.w.neg,v.w.n,v.w.d] 80 false)),(0,some (.cells [.snil,.b false,.snil,.snil] 80 false))] 2):=by rw [<- r3]; exact ol dv rfl
   refine rg M (ax @Int.toNat_natCast (ax @t1 (ax (mJ hx) (ax (z8 hv) (ax @vC.eq_1 (ax @f3 @f4)))))) ?_
   have hend:∀ l',oU l' [(8,.i .i64 ((k + 1:Nat):Int)),(7,.i .i64 (i:Int)),(1,.vp (tC t) 0)]->Hn v = true->Q2 .normal ⟨5,225,Tr.of l',none,[]⟩ (St.of [] 0):=fun l' h h2=>hgo2 l' h hkl (cI hv hkj h2)
   cases q1 <;> cases q2 <;> cases q3
   all_goals
    refine rg M (ax @r1 (ax @r2 (ax @f3 (ax @f4 (ax @c1 (ax @hown (ax @Bool.not_true @Bool.not_false))))))) ?_
    first
    | (refine Jd.cnd rfl (fun _=>?_) (fun h=>absurd h (by decide)); refine aZ M ?_; refine Jd.ret ?_; refine hret2 _ _ ?_; refine hret _ _ ?_; exact iE.r (aA.one rfl rfl (by rw [hbad (by rw [hvv]; rfl)])))
    | (refine Jd.cnd rfl (fun h=>absurd h (by decide)) (fun _=>?_); refine Jd.skip ?_; refine dX.norm ?_; show Jb _ _ _ _ _ _; refine Jd.forget [(8,.i .i64 (k:Int)),(7,.i .i64 (i:Int)),(1,.vp (tC t) 0)] ⟨rfl,rfl,rfl,trivial⟩ rfl ?_; refine nZ M ?_; exact hend _ ⟨rfl,rfl,rfl,trivial⟩ (by rw [hvv]; rfl))
 have hil:i < t.ms.length:=by have:=of_decide_eq_true h1; omega
 obtain ⟨m,hx⟩:∃ r,t.ms[i]? = some r:=⟨_,List.getElem?_eq_getElem hil⟩
 have okm:=ok.hms m (List.mem_of_getElem? hx)
 refine Jd.skipT ?_
 refine Jd.seq (Jd.block ?_)
 clear hex
 have hbad:Ho m = false->sm = false:=fun h=>by rw [hs,cf hx h]; rfl
 refine rg M (ax @Int.toNat_natCast (ax @t0 (ax (ie hx) @mC.eq_1))) ?_
 refine Jd.freezeL (nx2:=0) 0 (mC m) [] [(4,.vp (mC m) 0),(3,.i .i64 (i:Int)),(1,.vp (tC t) 0)] [] rfl ?_ rfl (by decide) (by repeat' first | exact trivial | refine ⟨⟨_,rfl,by first | exact Wk.frz_ptr | exact Wk.refl _ _ | exact Wk.bare rfl | exact Wk.zero _ | exact Wk.none _⟩,?_⟩) (trivial) ?_
 ·rfl
 have m0:(mC m)[0]? = some (bF m.start):=rfl
 have m1:(mC m)[1]? = some (cq m.move):=rfl
 have m2:(mC m)[2]? = some (bF m.fin):=rfl
 have m3:(mC m)[3]? = some (cq m.say):=rfl
 have mg:getR (mC m) 0 4 = some (mC m):=rfl
 have hst:=hpl okm.hs.1 okm.hs.2
 have hfi:=hpl okm.hf.1 okm.hf.2
 have hsy:=n7 m
 obtain ⟨b1,g1⟩:∃ b,decide ((m.start.length:Int) > 3) = b:=⟨_,rfl⟩
 obtain ⟨b2,g2⟩:∃ b,decide ((m.move.length:Int) > 4) = b:=⟨_,rfl⟩
 obtain ⟨b3,g3⟩:∃ b,decide ((m.say.length:Int) > 4) = b:=⟨_,rfl⟩
 obtain ⟨b4,g4⟩:∃ b,decide ((m.fin.length:Int) > 4) = b:=⟨_,rfl⟩
 obtain ⟨b5,g5⟩:∃ b,decide ((dj m:Int) > 4) = b:=⟨_,rfl⟩
 obtain ⟨b6,g6⟩:=nL (eK m.start)
 obtain ⟨b7,g7⟩:=nL (eK m.fin)
 rw [g6] at hst
 rw [g7] at hfi
 have hh:Ho m = (!b1 && !b2 && !b3 && !b4 && !b5 && !b6 && !b7 && m.move.all yx && m.say.all yx):=by
  unfold Ho Oj
  rw [DE g1,DE g2,DE g3,DE g4,DE g5,g6,g7]
 rcases Lw b1 b2 b3 b4 b5 b6 b7 with rfl | ⟨rfl,rfl⟩ | ⟨rfl,rfl,rfl⟩ | ⟨rfl,rfl,rfl,rfl⟩ | ⟨rfl,rfl,rfl,rfl,rfl⟩ | ⟨rfl,rfl,rfl,rfl,rfl,rfl⟩ | ⟨rfl,rfl,rfl,rfl,rfl,rfl,rfl⟩ | ⟨rfl,rfl,rfl,rfl,rfl,rfl,rfl⟩
 rotate_left 7
 ·refine Jd.seq ?_
  refine rg M (ax @m0 (ax @m1 (ax @m2 (ax @m3 (ax @mg (ax @iB (ax @g1 (ax @g2 (ax @g3 (ax @g4 (ax @g5 (ax @c1 (ax @c2 (ax @hst (ax @hfi (ax @hsy (ax @Bool.not_true @Bool.not_false))))))))))))))))) ?_
  refine lF rfl ?_
  have hh:Ho m = (m.move.all yx && m.say.all yx):=hh
  have lm:m.move.length <= 4:=by have:=of_decide_eq_false g2; omega
  have ly:m.say.length <= 4:=by have:=of_decide_eq_false g3; omega
  refine Jd.seq ?_
  refine aZ M ?_
  refine Jd.loopS m.move.length (fun k=>[(5,.i .i64 (k:Int)),(4,.vp (mC m) 0),(3,.i .i64 (i:Int)),(1,.vp (tC t) 0)]) (fun k=>(m.move.take k).all yx = true) ⟨rfl,rfl,rfl,rfl,trivial⟩ rfl ?_
  intro k hk hkj Q2 hex2 hret2 hgo2
  refine Jd.seq ?_
  refine rg M @m1 ?_
  refine Jd.cnd rfl (fun h1=>?_) (fun h1=>?_)
  rotate_left
  ·refine Jd.exitT (hex2 _ _ ?_)
   show Jb _ _ _ _ _ _
   have hi2:k = m.move.length:=by have:=of_decide_eq_false h1; omega
   rw [hi2,List.take_length] at hkj
   rw [hkj,Bool.true_and] at hh
   clear hex2 hret2 hgo2
   refine aZ M ?_
   refine Jd.loopS m.say.length (fun k=>[(6,.i .i64 (k:Int)),(4,.vp (mC m) 0),(3,.i .i64 (i:Int)),(1,.vp (tC t) 0)]) (fun k=>(m.say.take k).all yx = true) ⟨rfl,rfl,rfl,rfl,trivial⟩ rfl ?_
   intro k hk hkj Q2 hex2 hret2 hgo2
   refine Jd.seq ?_
   refine rg M @m3 ?_
   refine Jd.cnd rfl (fun h1=>?_) (fun h1=>?_)
   rotate_left
   ·refine Jd.exitT (hex2 _ _ ?_)
    show Jb _ _ _ _ _ _
    have hi2:k = m.say.length:=by have:=of_decide_eq_false h1; omega
    rw [hi2,List.take_length] at hkj
    refine nZ M ?_
    exact hgo _ ⟨rfl,rfl,trivial⟩ hil (cI hx hj (by rw [hh,hkj]))
   have hkl:k < m.say.length:=by have:=of_decide_eq_true h1; omega
   obtain ⟨r,hr⟩:∃ r,m.say[k]? = some r:=⟨_,List.getElem?_eq_getElem hkl⟩
   obtain ⟨dr,hrl⟩:=okm.hy r (List.mem_of_getElem? hr)
   have hpr:=hpl dr hrl
   obtain ⟨q1,r1⟩:∃ b,decide ((r.length:Int) > 5) = b:=⟨_,rfl⟩
   obtain ⟨q2,r2⟩:=nL (eK r)
   rw [r2] at hpr
   have hrr:yx r = (!q1 && !q2):=by unfold yx; rw [DE r1,r2]
   have hbad:yx r = false->sm = false:=fun h=>hbad (by rw [hh,cf hr h])
   refine Jd.skipT ?_
   refine Jd.seq (Jd.block ?_)
   clear hex2
   rcases dP q1 q2 true true true with rfl | ⟨rfl,rfl⟩ | ⟨rfl,rfl,_⟩ | ⟨_,_,h,_⟩ | ⟨_,_,h,_⟩ | ⟨_,_,h,_⟩
   rotate_left 3
   iterate 3 (· cases h)
   iterate 2 (· (refine rg M (ax @Int.toNat_natCast (ax @m3 (ax (bR hr) (ax @r1 (ax @c1 (ax @hpr (ax @Bool.not_true @Bool.not_false))))))) ?_; refine cT rfl ?_; refine aZ M ?_; refine Jd.ret ?_; refine hret2 _ _ ?_; refine hret _ _ ?_; exact iE.r (aA.one rfl rfl (by rw [hbad (by rw [hrr]; rfl)]))))
   refine rg M (ax @Int.toNat_natCast (ax @m3 (ax (bR hr) (ax @r1 (ax @c1 (ax @hpr (ax @Bool.not_true @Bool.not_false))))))) ?_
   refine cF rfl ?_
   refine Jd.skip ?_
   refine dX.norm ?_
   show Jb _ _ _ _ _ _
   refine nZ M ?_
   exact hgo2 _ ⟨rfl,rfl,rfl,rfl,trivial⟩ hkl (cI hr hkj hrr)
  have hkl:k < m.move.length:=by have:=of_decide_eq_true h1; omega
  obtain ⟨r,hr⟩:∃ r,m.move[k]? = some r:=⟨_,List.getElem?_eq_getElem hkl⟩
  obtain ⟨dr,hrl⟩:=okm.hm r (List.mem_of_getElem? hr)
  have hpr:=hpl dr hrl
  obtain ⟨q1,r1⟩:∃ b,decide ((r.length:Int) > 5) = b:=⟨_,rfl⟩
  obtain ⟨q2,r2⟩:=nL (eK r)
  rw [r2] at hpr
  have hrr:yx r = (!q1 && !q2):=by unfold yx; rw [DE r1,r2]
  have hbad:yx r = false->sm = false:=fun h=>hbad (by rw [hh,cf hr h]; rfl)
  refine Jd.skipT ?_
  refine Jd.seq (Jd.block ?_)
  clear hex2
  rcases dP q1 q2 true true true with rfl | ⟨rfl,rfl⟩ | ⟨rfl,rfl,_⟩ | ⟨_,_,h,_⟩ | ⟨_,_,h,_⟩ | ⟨_,_,h,_⟩
  rotate_left 3
  iterate 3 (· cases h)
  iterate 2 (· (refine rg M (ax @Int.toNat_natCast (ax @m1 (ax (bR hr) (ax @r1 (ax @c1 (ax @hpr (ax @Bool.not_true @Bool.not_false))))))) ?_; refine cT rfl ?_; refine aZ M ?_; refine Jd.ret ?_; refine hret2 _ _ ?_; refine hret _ _ ?_; exact iE.r (aA.one rfl rfl (by rw [hbad (by rw [hrr]; rfl)]))))
  refine rg M (ax @Int.toNat_natCast (ax @m1 (ax (bR hr) (ax @r1 (ax @c1 (ax @hpr (ax @Bool.not_true @Bool.not_false))))))) ?_
  refine cF rfl ?_
  refine Jd.skip ?_
  refine dX.norm ?_
  show Jb _ _ _ _ _ _
  refine nZ M ?_
  exact hgo2 _ ⟨rfl,rfl,rfl,rfl,trivial⟩ hkl (cI hr hkj hrr)
 iterate 7 (· (refine Jd.seq ?_; refine rg M (ax @m0 (ax @m1 (ax @m2 (ax @m3 (ax @mg (ax @iB (ax @g1 (ax @g2 (ax @g3 (ax @g4 (ax @g5 (ax @c1 (ax @c2 (ax @hst (ax @hfi (ax @hsy (ax @Bool.not_true @Bool.not_false))))))))))))))))) ?_; refine cT rfl ?_; refine aZ M ?_; refine Jd.retT ?_; refine hret _ _ ?_; exact iE.r (aA.one rfl rfl (by rw [hbad (by rw [hh]; rfl)]))))
def Nz (d:TD × BD × List Int):Prop:=d.1.Dx/\d.2.1.r.Dx/\d.2.2.length <= nG/\(l8 d.1 = true->d.1.Ok)/\(wD d.2.1.r = true->d.2.1.r.Ok)
noncomputable def chkV:=ofE so Nz fun _=>.b true
theorem Dg (t:TD):bx t [] = lO t:=by
 unfold bx lO
 rw [show decide (1000 < ([]:List Int).length) = false from rfl,Bool.or_false,show dM (iw t) [] = true from rfl,Bool.and_true]
theorem pQ (hK:ag Tryz.prog 7 (ae (Bx [] (.b true)))):ag Tryz.prog 3 (ae chkV):=by
 obtain ⟨E,M,c1,c2,c3,c4,c5,c6,c7,c8,c9,c10,c11,c12,c13,c14,c15⟩:∃ E,Mc Tryz.prog (df [(5,ae smallTV),(6,fB plainV),(7,ae (Bx [] (.b true))),(8,ae checkTV),(9,fB refusedV),(10,ae fitsV),(11,ae weightV),(12,ae totalV),(13,ae proveV),(16,ae verifyV),(18,ae decodeV),(14,ae iU),(17,ae DC),(15,ae (Bx [.agg [.snil],.agg [.snil]] (.b true))),(19,ae (Bx [oV,oV] (.b true)))]) E/\(∀ a s,E.call 5 a s = ae smallTV a s)/\(∀ a s,E.call 6 a s = fB plainV a s)/\(∀ a s,E.call 7 a s = ae (Bx [] (.b true)) a s)/\(∀ a s,E.call 8 a s = ae checkTV a s)/\(∀ a s,E.call 9 a s = fB refusedV a s)/\(∀ a s,E.call 10 a s = ae fitsV a s)/\(∀ a s,E.call 11 a s = ae weightV a s)/\(∀ a s,E.call 12 a s = ae totalV a s)/\(∀ a s,E.call 13 a s = ae proveV a s)/\(∀ a s,E.call 16 a s = ae verifyV a s)/\(∀ a s,E.call 18 a s = ae decodeV a s)/\(∀ a s,E.call 14 a s = ae iU a s)/\(∀ a s,E.call 17 a s = ae DC a s)/\(∀ a s,E.call 15 a s = ae (Bx [.agg [.snil],.agg [.snil]] (.b true)) a s)/\(∀ a s,E.call 19 a s = ae (Bx [oV,oV] (.b true)) a s) :=
  ⟨_,pn i6 ju (by simp only [List.forall_mem_cons]; exact ⟨Dk,gq yc,hK,uo,gq zx,JO,zr,Dj,Dl,zt,zC,yb,zy,vx,su,fun p hp=>by cases hp⟩),fun _ _=>rfl,fun _ _=>rfl,fun _ _=>rfl,fun _ _=>rfl,fun _ _=>rfl,fun _ _=>rfl,fun _ _=>rfl,fun _ _=>rfl,fun _ _=>rfl,fun _ _=>rfl,fun _ _=>rfl,fun _ _=>rfl,fun _ _=>rfl,fun _ _=>rfl,fun _ _=>rfl⟩
 refine ai (by kernel_rfl) Tryz.func3 Tryz.ntmps3 rfl ?_
 intro args v h
 obtain ⟨⟨t,b,o⟩,⟨dt,db,ho,hot,hob⟩,rfl,rfl⟩:=aB h
 dsimp only at dt db ho hot hob
 have ho9:o.length <= 9223372036854775807:=ho
 have f1:=(bv dt.ham.1).2
 have f2:=(bv dt.ham.2).2
 have f3:=(bv db.1).2
 have f4:=(bv db.2).2
 have hbb:aE (bC b) = true:=by simp only [bC,aE,bare,(bv db.1).1,(bv db.2).1]; rfl
 refine ⟨by simp only [so,aE,bare,kN dt,hbb]; rfl,rfl,Nat.le_of_ble_eq_true rfl,?_⟩
 have hsm:=Ek dt
 have hkn:∀ s,ae (Bx [] (.b true)) [] s = some (.b true,s):=fun s=>rfl
 unfold so
 dsimp only
 rw [show tC t = [.vw (pK t.ms) t.ms.length,.vw (t.ws.map fun l=>b9 l) t.ws.length,.i .i64 t.L.O,.i .i64 t.L.V,.vw (rY t.L.gs) t.L.gs.length,.i .i64 t.L.k,.b t.L.am.neg,t.L.am.n,t.L.am.d,bF t.L.mix] from rfl,show bC b = [.i .i64 b.w,.b b.r.neg,b.r.n,b.r.d] from rfl]
 rw [p8,St.of_nil]
 refine rg M (ax @f1 (ax @f2 (ax @f3 @f4))) ?_
 refine Jd.freezeL (nx2:=1) 0 (tC t) [1] [(3,.vp (tC t) 0),(4,.ptr 0 0),(2,.vw (is o) o.length)] [(0,some (.cells (bC b) 37 false))] rfl ?_ rfl (by decide) (by repeat' first | exact trivial | refine ⟨⟨_,rfl,by first | exact Wk.frz_ptr | exact bU.same hbb | exact Wk.refl _ _ | exact Wk.bare rfl | exact Wk.zero _ | exact Wk.none _⟩,?_⟩) (by repeat' first | exact trivial | refine ⟨⟨Nat.le_of_ble_eq_true rfl,_,_,rfl,rfl,by first | exact Wk.frz_ptr | exact bU.same hbb | exact bU.same rfl | exact bU.same (fr_bare _) | exact bU.same (bs_bare _) | exact bU.same (is_bare _) | exact bU.cells rfl⟩,?_⟩) ?_
 ·exact kN dt
 refine Jd.freezeL (nx2:=0) 0 (bC b) [] [(3,.vp (tC t) 0),(4,.vp (bC b) 0),(2,.vw (is o) o.length)] [] rfl ?_ rfl (by decide) (by repeat' first | exact trivial | refine ⟨⟨_,rfl,by first | exact Wk.frz_ptr | exact Wk.refl _ _ | exact Wk.bare rfl | exact Wk.zero _ | exact Wk.none _⟩,?_⟩) (trivial) ?_
 ·exact hbb
 have tg:getR (tC t) 0 10 = some (tC t):=rfl
 have bg:getR (bC b) 0 4 = some (bC b):=rfl
 have b3:getR (bC b) 1 3 = some [.b b.r.neg,b.r.n,b.r.d]:=rfl
 obtain ⟨q1,e1⟩:=nL (l8 t)
 obtain ⟨q2,e2⟩:∃ b,decide ((o.length:Int) > 1100) = b:=⟨_,rfl⟩
 obtain ⟨q3,e3⟩:=nL (wD b.r)
 rw [e1] at hsm hot
 have hown:fB plainV [.sl 0 0 1 1] (St.of [(0,some (.cells [.b b.r.neg,b.r.n,b.r.d] 30 false))] 1) = some (.b (wD b.r),St.of [(0,some (.cells [.b b.r.neg,b.r.n,b.r.d] 30 false))] 1):=ol db rfl
 rw [e3] at hown hob
 refine Jd.seq ?_
 rcases dP q1 q2 q3 true true with rfl | ⟨rfl,rfl⟩ | ⟨rfl,rfl,rfl⟩ | ⟨rfl,rfl,rfl,_⟩ | ⟨_,_,_,h,_⟩ | ⟨_,_,_,h,_⟩
 rotate_left 4
 iterate 2 (· cases h)
 iterate 3 (· (refine rg M (ax @tg (ax @bg (ax @b3 (ax @e2 (ax @f3 (ax @f4 (ax @c1 (ax @c2 (ax @hsm (ax @hown (ax @Bool.not_true @Bool.not_false))))))))))) ?_; refine cT rfl ?_; refine rg M (ax @c3 @hkn) ?_; exact Jd.retT (aA.one rfl rfl rfl)))
 refine rg M (ax @tg (ax @bg (ax @b3 (ax @e2 (ax @f3 (ax @f4 (ax @c1 (ax @c2 (ax @hsm (ax @hown (ax @Bool.not_true @Bool.not_false))))))))))) ?_
 refine lF rfl ?_
 refine Jd.forget [(3,.vp (tC t) 0),(4,.vp (bC b) 0),(2,.vw (is o) o.length)] ⟨rfl,rfl,rfl,trivial⟩ rfl ?_
 have ok:=hot rfl
 have okb:=hob rfl
 have hol:o.length <= 1000000:=by have:=of_decide_eq_false e2; omega
 have hct:=tU ok
 have hrn:∀ s,fB refusedV [.agg (tC t),.snil] s = some (.i .i64 (lO t),s):=fun s=>by
  rw [<- Dg t]
  exact nD (xs:=rX (t,[])) (by simp only [lR,pt,bare,bI ok]; rfl) (jr hY (d:=(t,[])) ⟨ok,Nat.zero_le _⟩) rfl
 have hro:∀ s,fB refusedV [.agg (tC t),.vw (is o) o.length] s = some (.i .i64 (bx t o),s):=fun s =>
  nD (xs:=rX (t,o)) (by simp only [lR,pt,bare,bI ok]; rfl) (jr hY (d:=(t,o)) ⟨ok,hol⟩) rfl
 have hfi:∀ s,ae fitsV [.agg (bC b)] s = some (.b (f9 b),s):=bD qk okb
 refine Jd.seq ?_
 refine dr M [] (ax @tg (ax @c4 (ax @c5 (ax @hct (ax @hrn (ax @decide_true @Bool.not_true)))))) ?_
 refine lF rfl ?_
 refine Jd.forget [(3,.vp (tC t) 0),(4,.vp (bC b) 0),(2,.vw (is o) o.length)] ⟨rfl,rfl,rfl,trivial⟩ rfl ?_
 have hwt:bx t o ≠ 0->∀ s,ae weightV [.agg (tC t),.vw (is o) o.length,.snil] s = some (.tup [z3,.i .i64 (bx t o)],s):=fun h=>bD (d:=(t,o)) GZ ⟨ok,hol,h⟩
 have htt:bx t o ≠ 0->∀ s,ae totalV [.agg (tC t),.vw (is o) o.length] s = some (.tup [z3,.i .i64 (bx t o)],s):=fun h=>bD (d:=(t,o)) hY ⟨ok,hol,h⟩
 have hpr:bx t o ≠ 0->∀ s,ae proveV [.agg (tC t),.vw (is o) o.length] s = some (.tup [.agg [.snil],.i .i64 (bx t o)],s):=fun h=>bD (d:=(t,o)) hY ⟨ok,hol,h⟩
 have hve:bx t o ≠ 0->∀ s,ae verifyV [.agg (tC t),.vw (is o) o.length,fq ((1:Int):Rat),.agg [.snil]] s = some (.b false,s):=fun h=>bD (d:=(t,o)) Hc ⟨ok,hol,h⟩
 have hde:gO t b o ≠ 0->∀ s,ae decodeV [.agg (tC t),.agg (bC b),.vw (is o) o.length] s = some (.tup [KI,.i .i64 (gO t b o)],s):=fun h=>bD (d:=(t,b,o)) xO ⟨ok,okb,hol,h⟩
 have hd:gO t b o = if bx t o ≠ 0 then bx t o else if f9 b = true then 0 else 2:=rfl
 obtain ⟨f,hf⟩:∃ f,gO t b o = f:=⟨_,rfl⟩
 rw [hf] at hde hd
 obtain ⟨e,he⟩:∃ e,bx t o = e:=⟨_,rfl⟩
 rw [he] at hro hwt htt hpr hve hd
 unfold z3 at hwt htt
 unfold KI at hde
 have hsg:∀ s,ae iU [.agg [.b false,.snil,.snil]] s = some (.i .i64 0,s):=eY (by kernel_rfl)
 have hsp:∀ s,ae (Bx [.agg [.snil],.agg [.snil]] (.b true)) [.agg [.snil],.agg [.snil]] s = some (.b true,s):=fun s=>rfl
 have hsr:∀ s,ae (Bx [oV,oV] (.b true)) [.agg [.b false,.snil,.snil,.b false,.snil,.snil,.b false,.snil,.snil,.i .i64 0,.b false],.agg [.b false,.snil,.snil,.b false,.snil,.snil,.b false,.snil,.snil,.i .i64 0,.b false]] s = some (.b true,s):=fun s=>rfl
 refine rg M (ax @tg (ax @c5 @hro)) ?_
 refine aZ M ?_
 refine Jd.seq ?_
 obtain ⟨q,hq⟩:∃ q,decide (e = 0) = q:=⟨_,rfl⟩
 cases q with
 | false =>
  have e0:e ≠ 0:=of_decide_eq_false hq
  have hfe:f = e:=by rw [hd,if_pos e0]
  have hwt:=hwt e0
  have htt:=htt e0
  have hpr:=hpr e0
  have hve:=hve e0
  have hde:=hde (by rw [hfe]; exact e0)
  rw [hfe] at hde
  refine rg M @hq ?_
  refine lF rfl ?_
  refine Jd.seq ?_
  refine rg M (ax @hq @Bool.not_false) ?_
  refine cT rfl ?_
  refine rg M (ax @tg (ax @c7 @hwt)) ?_
  refine rg M (ax @tg (ax @c8 @htt)) ?_
  refine rg M (ax @tg (ax @c9 @hpr)) ?_
  refine Jb.toL (nx2:=3) [0,1,2] [(9,.ptr 0 0),(10,.i .i64 e),(11,.ptr 1 0),(12,.i .i64 e),(13,.ptr 2 0),(14,.i .i64 e),(7,.i .i64 e),(8,.i .i64 e),(3,.vp (tC t) 0),(4,.vp (bC b) 0),(2,.vw (is o) o.length)] [(2,some (.cells [.snil] 51 false)),(1,some (.cells [.b false,.snil,.snil] 30 false)),(0,some (.cells [.b false,.snil,.snil] 30 false))] rfl (by decide) (by first | exact aY | exact base_one | exact base_two) (by repeat' first | exact trivial | refine ⟨⟨_,rfl,by first | exact Wk.refl _ _ | exact Wk.bare rfl | exact Wk.zero _ | exact Wk.none _⟩,?_⟩) (by repeat' first | exact trivial | refine ⟨⟨Nat.le_of_ble_eq_true rfl,_,_,rfl,rfl,by first | exact bU.same rfl | exact bU.same (fr_bare _) | exact bU.same (bs_bare _) | exact bU.same (is_bare _) | exact bU.cells rfl⟩,?_⟩) ?_
  refine dr M [] (ax @decide_true (ax @Bool.not_true (ax @tg (ax @c12 (ax @hsg (ax @c14 (ax @hsp (ax @c13 (ax @Lb (ax @c10 @hve)))))))))) ?_
  refine lF rfl ?_
  refine Jd.forget [(8,.i .i64 e),(3,.vp (tC t) 0),(4,.vp (bC b) 0),(2,.vw (is o) o.length)] ⟨rfl,rfl,rfl,rfl,trivial⟩ rfl ?_
  refine Jd.seq ?_
  refine rg M @hq ?_
  refine lF rfl ?_
  refine rg M (ax @tg (ax @bg (ax @c11 @hde))) ?_
  refine rg M (ax @decide_true (ax @c15 (ax @hsr (ax @c3 @hkn)))) ?_
  exact Jd.ret (aA.one rfl rfl rfl)
 | true =>
  have e0:e = 0:=of_decide_eq_true hq
  subst e0
  have hd:f = if f9 b = true then 0 else 2:=hd
  obtain ⟨q4,e4⟩:=nL (f9 b)
  rw [e4] at hfi hd
  refine rg M (ax @decide_true (ax @bg (ax @c6 (ax @hfi @Bool.not_not)))) ?_
  cases q4 with
  | true =>
   have hd:f = 2:=hd
   subst hd
   have hde:=hde (by decide)
   refine cT rfl ?_
   refine nZ M ?_
   show Jb _ _ _ _ _ _
   refine Jd.seq ?_
   refine rg M (ax @decide_true @Bool.not_true) ?_
   refine lF rfl ?_
   refine Jd.seq ?_
   refine aZ M ?_
   refine Jd.cnd rfl (fun h=>by simp at h) (fun _=>?_)
   refine Jd.skipT ?_
   refine rg M (ax @tg (ax @bg (ax @c11 @hde))) ?_
   refine rg M (ax @decide_true (ax @c15 (ax @hsr (ax @c3 @hkn)))) ?_
   exact Jd.ret (aA.one rfl rfl rfl)
  | false =>
   refine lF rfl ?_
   refine Jd.seq ?_
   refine rg M (ax @decide_true @Bool.not_true) ?_
   refine lF rfl ?_
   refine Jd.seq ?_
   refine rg M @decide_true ?_
   refine cT rfl ?_
   refine rg M (ax @c3 @hkn) ?_
   exact Jd.retT (aA.one rfl rfl rfl)
section
section
variable {P:Program} {k:Nat} {t:TypeId} {xs:List AV}
theorem ga.bool (hu:P.underlying t = some .bool)(h:ga P k t xs):∃ b,xs = [.b b]:=by
 cases k with
 | zero=>exact h.elim
 | succ k=>simpa only [ga,hu,Nat.add_sub_cancel] using h
theorem ga.int {i:IntKind} (hu:P.underlying t = some (.int i))(h:ga P k t xs):∃ n,xs = [.i i n]/\(Lit.int i n).wf = true:=by
 cases k with
 | zero=>exact h.elim
 | succ k=>simpa only [ga,hu,Nat.add_sub_cancel] using h
theorem ga.slB {e:TypeId} (hu:P.underlying t = some (.slice e))(h:ga P k t xs):∃ ls:List (List AV),ls.length <= maxLen/\(∀ l ∈ ls,l.length = P.cellsOf e/\ga P (k - 1) e l)/\xs = [.vw ls.flatten ls.length]:=by
 cases k with
 | zero=>exact h.elim
 | succ k=>simpa only [ga,hu,Nat.add_sub_cancel] using h
theorem ga.sl {e:TypeId} (hu:P.underlying t = some (.slice e))(h:ga P k t xs):∃ ls:List (List AV),(∀ l ∈ ls,l.length = P.cellsOf e/\ga P (k - 1) e l)/\xs = [.vw ls.flatten ls.length]:=let ⟨ls,_,h1,h2⟩:=h.slB hu; ⟨ls,h1,h2⟩
theorem ga.each {α:Type} {e:TypeId} {C:α->List AV} {Q:α->Prop} (hu:P.underlying t = some (.slice e))(h:ga P k t xs)(hC:∀ l,ga P (k - 1) e l->∃ x,l = C x/\Q x):∃ l:List α,xs = [.vw (l.flatMap C) l.length]/\(∀ x ∈ l,Q x)/\l.length <= maxLen:=by
 obtain ⟨ls,hb,h1,rfl⟩:=h.slB hu
 suffices hs:∃ l:List α,l.length = ls.length/\l.flatMap C = ls.flatten/\∀ x ∈ l,Q x by
  obtain ⟨l,g1,g2,g3⟩:=hs
  exact ⟨l,by rw [g1,g2],g3,by omega⟩
 clear h hb
 induction ls with
 | nil=>exact ⟨[],rfl,rfl,fun n hn=>by cases hn⟩
 | cons x ls ih =>
  obtain ⟨l,g1,g2,g3⟩:=ih fun y hy=>h1 y (List.mem_cons_of_mem _ hy)
  obtain ⟨y,rfl,hy⟩:=hC x (h1 x List.mem_cons_self).2
  refine ⟨y :: l,by simp [g1],by rw [List.flatten_cons,List.flatMap_cons,g2],fun z hz=>?_⟩
  rcases List.mem_cons.1 hz with rfl | hz
  ·exact hy
  exact g3 z hz
theorem ga.str {fs:Array Field} (hu:P.underlying t = some (.struct fs))(h:ga P k t xs):JT (ga P (k - 1)) P.cellsOf fs.toList xs:=by
 cases k with
 | zero=>exact h.elim
 | succ k=>simpa only [ga,hu,Nat.add_sub_cancel] using h
theorem ga.i64 (hu:P.underlying t = some (.int .i64))(h:ga P k t xs):∃ n,xs = [.i .i64 n]/\-9223372036854775808 <= n/\n <= 9223372036854775807:=by
 obtain ⟨n,h1,h2⟩:=h.int hu
 simp [Lit.wf,IntKind.min,IntKind.max,IntKind.signed,IntKind.bits] at h2
 exact ⟨n,h1,by omega,by omega⟩
end
def pR (x:AV):Prop:=∃ l:List Nat,Ok l/\x = .vw (l.map fun d:Nat=>AV.i .u32 (d:Int)) l.length
theorem pR.x {x:AV} (h:pR x):xM x = true:=by
 obtain ⟨l,_,rfl⟩:=h
 simp only [xM]
 exact uj (fun _=>rfl) l
theorem C7 {l:List Nat} (h:Ok l):lY (l.map fun d:Nat=>AV.i .u32 (d:Int)) = some l:=by
 induction l with
 | nil=>rfl
 | cons d l ih =>
  have h1:Nat.blt d 4294967296 = true:=by rw [Nat.blt_eq]; exact h d List.mem_cons_self
  show cond (Nat.blt d 4294967296) ((lY (l.map fun d:Nat=>AV.i .u32 (d:Int))).map (d :: ·)) none = _
  rw [h1,ih fun e he=>h e (List.mem_cons_of_mem _ he)]
  rfl
theorem pR.nat {x:AV} (h:pR x) {m:Nat} (hm:xf x <= m)(hm2:m <= 17592186044416):∃ n,sf x = some n/\n < 2 ^ (32 * m):=by
 obtain ⟨l,hok,rfl⟩:=h
 have hl:l.length <= m:=hm
 refine ⟨val l,?_,?_⟩
 ·simp only [sf,FS,C7 hok]
  rw [show (Nat.beq l.length l.length && Nat.ble l.length 17592186044416) = true by simp; omega]
  rfl
 refine Nat.lt_of_lt_of_le (eo l hok) ?_
 rw [show (4294967296:Nat) = 2 ^ 32 from rfl,<- Nat.pow_mul]
 exact Nat.pow_le_pow_right (by omega) (by omega)
theorem pR.rat {n d:AV} (hn:pR n)(hd:pR d) {m:Nat} (h1:xf n <= m)(h2:xf d <= m)(h0:0 < m)(hm:32 * m <= mf) (neg:Bool):∃ a b,sf n = some a/\sf d = some b/\a < 2 ^ (32 * m)/\b < 2 ^ (32 * m)/\kh (.agg [.b neg,n,d]) = some (neg,a,b)/\jp (.agg [.b neg,n,d]) = some (bX neg a b):=by
 have hm2:m <= 17592186044416:=by unfold mf at hm; omega
 obtain ⟨a,ha,la⟩:=hn.nat h1 hm2
 obtain ⟨b,hb,lb⟩:=hd.nat h2 hm2
 have hs:n8 a b = true:=by
  unfold n8
  rw [Nat.ble_eq]
  have:=log2_lt la (by omega)
  have:=log2_lt lb (by omega)
  omega
 have hp:kh (.agg [.b neg,n,d]) = some (neg,a,b):=by simp only [kh,ha,hb,hs,cond_true]
 exact ⟨a,b,ha,hb,la,lb,hp,by simp only [jp,hp,Option.map_some]⟩
theorem wi {k:Nat} {xs:List AV} (h:ga Tryz.prog k 28 xs):∃ x,xs = [x]/\pR x:=by
 obtain ⟨ls,h1,rfl⟩:=h.sl Tryz.underlying28
 refine ⟨_,rfl,?_⟩
 suffices hs:∃ l:List Nat,l.length = ls.length/\Ok l/\(l.map fun d:Nat=>AV.i .u32 (d:Int)) = ls.flatten by
  obtain ⟨l,g1,g2,g3⟩:=hs
  exact ⟨l,g2,by rw [g1,g3]⟩
 clear h
 induction ls with
 | nil=>exact ⟨[],rfl,fun d hd=>(by cases hd),rfl⟩
 | cons x ls ih =>
  obtain ⟨l,g1,g2,g3⟩:=ih fun y hy=>h1 y (List.mem_cons_of_mem _ hy)
  obtain ⟨n,rfl,hw⟩:=(h1 x List.mem_cons_self).2.int Tryz.underlying199
  simp [Lit.wf,IntKind.min,IntKind.max,IntKind.signed,IntKind.bits] at hw
  obtain ⟨d,rfl⟩:∃ d:Nat,n = d:=⟨n.toNat,by omega⟩
  refine ⟨d :: l,by simp [g1],fun e he=>?_,by rw [List.flatten_cons,<- g3]; rfl⟩
  rcases List.mem_cons.1 he with rfl | he
  ·omega
  exact g2 e he
theorem Eu {k:Nat} {xs:List AV} (h:ga Tryz.prog k 30 xs):∃ neg n d,xs = [.b neg,n,d]/\pR n/\pR d:=by
 obtain ⟨a,_,rfl,_,h1,b,_,rfl,_,h2,c,_,rfl,_,h3,rfl⟩:=h.str Tryz.underlying30
 obtain ⟨neg,rfl⟩:=h1.bool Tryz.underlying4
 obtain ⟨n,rfl,h4⟩:=wi h2
 obtain ⟨d,rfl,h5⟩:=wi h3
 exact ⟨neg,n,d,rfl,h4,h5⟩
end
def RF.DO (x:RF):Prop:=pR x.n/\pR x.d
theorem RF.DO.dx {x:RF} (h:x.DO):x.Dx:=⟨h.1.x,h.2.x⟩
theorem RF.DO.ok {x:RF} (h:x.DO)(hp:wD x = true):x.Ok:=by
 unfold wD at hp
 simp only [Bool.and_eq_true,decide_eq_true_eq] at hp
 obtain ⟨a,b,h1,h2,la,lb,hpt,hr⟩:=h.1.rat h.2 hp.1 hp.2 (by omega) (by unfold mf; omega) x.neg
 have hv:lQ (.agg (rC x)) = some (bX x.neg a b):=by
  unfold lQ rC
  rw [hpt]
  simp only [Option.bind_some]
  rw [eE (show a < 2 ^ 64 by omega),eE (show b < 2 ^ 64 by omega)]
  rfl
 exact ⟨by unfold RF.q; rw [hv]; rfl,(bv h.1.x).1,(bv h.2.x).1,(bv h.1.x).2,(bv h.2.x).2⟩
theorem uE {k:Nat} {xs:List AV} (h:ga Tryz.prog k 30 xs):∃ x:RF,xs = rC x/\x.DO:=by
 obtain ⟨neg,n,d,rfl,h1,h2⟩:=Eu h
 exact ⟨⟨neg,n,d⟩,rfl,h1,h2⟩
def sw (r:List RF):Prop:=(∀ x ∈ r,x.DO)/\r.length <= maxLen
theorem pW {k:Nat} {xs:List AV} (h:ga Tryz.prog k 31 xs):∃ r:List RF,xs = [bF r]/\sw r:=by
 obtain ⟨r,h1,h2,h3⟩:=h.each Tryz.underlying31 (fun l hl=>uE hl)
 exact ⟨r,h1,h2,h3⟩
theorem wh {k:Nat} {xs:List AV} (h:ga Tryz.prog k 74 xs):∃ r:List (List RF),xs = [cq r]/\∀ x ∈ r,sw x:=by
 obtain ⟨r,h1,h2,h3⟩:=h.each (C:=fun x=>[bF x]) Tryz.underlying74 (fun l hl=>pW hl)
 exact ⟨r,by rw [h1,d7],h2⟩
def MD.DO (m:MD):Prop:=sw m.start/\(∀ r ∈ m.move,sw r)/\sw m.fin/\∀ r ∈ m.say,sw r
theorem Co {k:Nat} {xs:List AV} (h:ga Tryz.prog k 76 xs):∃ m:MD,xs = mC m/\m.DO:=by
 obtain ⟨a,_,rfl,_,h1,b,_,rfl,_,h2,c,_,rfl,_,h3,d,_,rfl,_,h4,rfl⟩:=h.str Tryz.underlying76
 obtain ⟨r1,rfl,g1⟩:=pW h1
 obtain ⟨r2,rfl,g2⟩:=wh h2
 obtain ⟨r3,rfl,g3⟩:=pW h3
 obtain ⟨r4,rfl,g4⟩:=wh h4
 exact ⟨⟨r1,r2,r3,r4⟩,rfl,g1,g2,g3,g4⟩
theorem qI {k:Nat} {xs:List AV} (h:ga Tryz.prog k 3 xs):∃ n:Int,xs = [.i .i64 n]/\-9223372036854775808 <= n/\n <= 9223372036854775807:=h.i64 Tryz.underlying3
theorem qH {k:Nat} {xs:List AV} (h:ga Tryz.prog k 38 xs):∃ l:List Int,xs = [.vw (is l) l.length]/\l.length <= maxLen:=by
 obtain ⟨r,h1,h2,h3⟩:=h.each (C:=fun x:Int=>[AV.i .i64 x]) Tryz.underlying38 (fun l hl=>qI hl)
 exact ⟨r,by rw [h1,d7]; rfl,h3⟩
def VD.DO (v:VD):Prop:=v.w.DO/\v.ph.length <= maxLen
theorem vZ {k:Nat} {xs:List AV} (h:ga Tryz.prog k 80 xs):∃ v:VD,xs = vC v/\v.DO:=by
 obtain ⟨a,_,rfl,_,h1,b,_,rfl,_,h2,rfl⟩:=h.str Tryz.underlying80
 obtain ⟨l,rfl,g1⟩:=qH h1
 obtain ⟨x,rfl,g2⟩:=uE h2
 exact ⟨⟨l,x⟩,rfl,g2,g1⟩
def OY (l:List VD):Prop:=(∀ v ∈ l,v.DO)/\l.length <= maxLen
theorem Er {k:Nat} {xs:List AV} (h:ga Tryz.prog k 78 xs):∃ l:List VD,xs = [b9 l]/\OY l:=by
 obtain ⟨r,h1,h2,h3⟩:=h.each Tryz.underlying78 (fun l hl=>vZ hl)
 exact ⟨r,h1,h2,h3⟩
theorem Et {k:Nat} {xs:List AV} (h:ga Tryz.prog k 82 xs):∃ g:Gr,xs = Km g/\True:=by
 obtain ⟨a,_,rfl,_,h1,b,_,rfl,_,h2,rfl⟩:=h.str Tryz.underlying82
 obtain ⟨l,rfl,g1⟩:=qH h1
 obtain ⟨n,rfl,_⟩:=qI h2
 exact ⟨(l,n),rfl,trivial⟩
def LG.DO (L:LG):Prop:=L.am.DO/\sw L.mix
theorem uF {k:Nat} {xs:List AV} (h:ga Tryz.prog k 33 xs):∃ L:LG,xs = L.cells/\L.DO:=by
 obtain ⟨a,_,rfl,_,h1,b,_,rfl,_,h2,c,_,rfl,_,h3,d,_,rfl,_,h4,rfl⟩:=h.str Tryz.underlying33
 obtain ⟨a,_,rfl,_,h5,b,_,rfl,_,h6,c',_,rfl,_,h7,rfl⟩:=h1.str Tryz.underlying26
 obtain ⟨O,rfl,_⟩:=qI h5
 obtain ⟨V,rfl,_⟩:=qI h6
 obtain ⟨gs,rfl,_,_⟩:=h7.each Tryz.underlying24 (fun l hl=>Et hl)
 obtain ⟨by_,rfl,_⟩:=h2.i64 Tryz.underlying27
 obtain ⟨x,rfl,g2⟩:=uE h3
 obtain ⟨mx,rfl,g3⟩:=pW h4
 exact ⟨⟨O,V,gs,by_,x,mx⟩,rfl,g2,g3⟩
def TD.DO (t:TD):Prop:=(∀ m ∈ t.ms,m.DO)/\(∀ l ∈ t.ws,OY l)/\t.L.DO
theorem Es {k:Nat} {xs:List AV} (h:ga Tryz.prog k 35 xs):∃ t:TD,xs = tC t/\t.DO:=by
 obtain ⟨a,_,rfl,_,h1,b,_,rfl,_,h2,c,_,rfl,_,h3,rfl⟩:=h.str Tryz.underlying35
 obtain ⟨ms,rfl,g1,_⟩:=h1.each Tryz.underlying22 (fun l hl=>Co hl)
 obtain ⟨ws,rfl,g2,_⟩:=h2.each (C:=fun x=>[b9 x]) Tryz.underlying23 (fun l hl=>Er hl)
 obtain ⟨L,rfl,g3⟩:=uF h3
 exact ⟨⟨ms,ws,L⟩,by rw [d7]; simp [LG.cells,tC,pK],g1,g2,g3⟩
theorem Ew {k:Nat} {xs:List AV} (h:ga Tryz.prog k 37 xs):∃ b:BD,xs = bC b/\b.r.DO:=by
 obtain ⟨a,_,rfl,_,h1,b,_,rfl,_,h2,rfl⟩:=h.str Tryz.underlying37
 obtain ⟨w,rfl,_⟩:=qI h1
 obtain ⟨x,rfl,g2⟩:=uE h2
 exact ⟨⟨w,x⟩,rfl,g2⟩
theorem MD.DO.dx {m:MD} (h:m.DO):m.Dx:=⟨⟨fun x hx=>(h.1.1 x hx).dx,h.1.2⟩,fun r hr=>⟨fun x hx=>((h.2.1 r hr).1 x hx).dx,(h.2.1 r hr).2⟩,⟨fun x hx=>(h.2.2.1.1 x hx).dx,h.2.2.1.2⟩,fun r hr=>⟨fun x hx=>((h.2.2.2 r hr).1 x hx).dx,(h.2.2.2 r hr).2⟩⟩
theorem TD.DO.dx {t:TD} (h:t.DO):t.Dx:=⟨fun m hm=>(h.1 m hm).dx,fun l hl=>⟨fun v hv=>⟨((h.2.1 l hl).1 v hv).1.dx,((h.2.1 l hl).1 v hv).2⟩,(h.2.1 l hl).2⟩,h.2.2.1.dx,⟨fun x hx=>(h.2.2.2.1 x hx).dx,h.2.2.2.2⟩⟩
theorem sw.ok {r:List RF} (h:sw r)(hp:eK r = true):∀ x ∈ r,x.Ok:=fun x hx=>(h.1 x hx).ok (List.all_eq_true.1 hp x hx)
theorem TD.DO.ok {t:TD} (h:t.DO)(hs:l8 t = true):t.Ok:=by
 unfold l8 MO at hs
 simp only [Bool.and_eq_true,Bool.not_eq_true',decide_eq_false_iff_not,List.all_eq_true] at hs
 obtain ⟨⟨⟨⟨⟨⟨⟨⟨a1,a2⟩,a3⟩,a4⟩,a5⟩,a6⟩,a7⟩,a8⟩,a9⟩:=hs
 refine ⟨⟨fun m hm=>?_,by omega⟩,⟨fun l hl=>?_,by omega⟩,⟨h.2.2.1.ok a6,⟨h.2.2.2.ok a5,by omega⟩,by omega⟩⟩
 ·have:=a7 m hm
  unfold Ho Oj at this
  simp only [Bool.and_eq_true,Bool.not_eq_true',decide_eq_false_iff_not,List.all_eq_true] at this
  obtain ⟨⟨⟨⟨⟨⟨⟨⟨c1,c2⟩,c3⟩,c4⟩,c5⟩,c6⟩,c7⟩,c8⟩,c9⟩:=this
  have row:∀ {r:List RF},sw r->yx r = true->(∀ x ∈ r,x.Ok)/\r.length <= 1000:=fun {r} hr hp=>by
   unfold yx at hp
   simp only [Bool.and_eq_true,Bool.not_eq_true',decide_eq_false_iff_not] at hp
   exact ⟨hr.ok hp.2,by omega⟩
  obtain ⟨m1,m2,m3,m4⟩:=h.1 m hm
  exact ⟨⟨m1.ok c6,by omega⟩,⟨fun r hr=>row (m2 r hr) (c8 r hr),by omega⟩,⟨m3.ok c7,by omega⟩,⟨fun r hr=>row (m4 r hr) (c9 r hr),by omega⟩⟩
 have:=a8 l hl
 unfold Hm at this
 simp only [Bool.and_eq_true,List.all_eq_true] at this
 obtain ⟨v1,v2⟩:=h.2.1 l hl
 refine ⟨fun v hv=>?_,v2⟩
 have h3:=this.2 v hv
 unfold Hn at h3
 simp only [Bool.and_eq_true] at h3
 exact ⟨(v1 v hv).1.ok h3.2,(v1 v hv).2⟩
end Go.Proofs.YtkdhppimhdemjaaGreat
