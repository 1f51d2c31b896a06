/- Lemmas on the way: Dd2, Dd3, Jx4, Dd4, Dd5, Dl1. -/
import Derived.Test.YtkdhppimhdemjaaGreatU42
set_option linter.all false
set_option maxRecDepth 1000000
set_option maxHeartbeats 32000000
namespace Go.Proofs.YtkdhppimhdemjaaGreat
open Go.RowKit
def M7 (d:Int × TD):List AV:=[.i .i64 d.1,.vp (tC d.2) 0]
theorem Ig (x y:Int × TD)(h:M7 x = M7 y):x = y:=by
 obtain ⟨a,b⟩:=x; obtain ⟨a',b'⟩:=y
 simp only [M7,List.cons.injEq,AV.i.injEq,AV.vp.injEq,and_true,true_and] at h
 rw [h.1,qG _ _ h.2]
noncomputable def ph1V:=ofE M7 (fun _=>True) fun d=>.b (!wG d.2.ms.length d.1)
theorem KX {n:Nat} {p:Int} {a b:Bool} (e1:decide (p < 1) = a) (e2:decide (p > (n:Int)) = b):wG n p = (!a && !b):=by
 unfold wG
 rw [<- e1,<- e2,<- decide_not,<- decide_not]
 congr 1
 ·exact decide_eq_decide.2 (by omega)
 exact decide_eq_decide.2 (by omega)
theorem LZ:ag Tryz.prog 97 (ae ph1V):=by
 obtain ⟨E,M⟩:=qX
 refine ai (by kernel_rfl) Tryz.func97 Tryz.ntmps97 rfl ?_
 intro args v h
 obtain ⟨⟨p,t⟩,_,rfl,rfl⟩:=aB h
 refine ⟨rfl,rfl,Nat.le_of_ble_eq_true rfl,?_⟩
 unfold M7 tC
 dsimp only
 rw [bS,St.of_nil]
 obtain ⟨b1,e1⟩:∃ b,decide (p < 1) = b:=⟨_,rfl⟩
 obtain ⟨b2,e2⟩:∃ b,decide (p > (t.ms.length:Int)) = b:=⟨_,rfl⟩
 rw [KX e1 e2]
 refine aZ M ?_
 cases b1 with
 | true =>
  refine rg M @e1 ?_
  exact Jd.ret (aA.one rfl rfl rfl)
 | false =>
  refine rg M (ax @e1 @e2) ?_
  exact Jd.ret (aA.one rfl rfl (by cases b2 <;> rfl))
noncomputable def ocP:Oc:=[(97,ae ph1V)]
theorem Li:∀ p ∈ ocP,ag Tryz.prog p.1 p.2:=by unfold ocP; simp only [List.forall_mem_cons]; exact ⟨LZ,fun p hp=>by cases hp⟩
theorem NJ (t:TD) {l:List Int} (hl:l.length <= 20) (s:St):ae (anyVI ocP) [.vw (is l) l.length,.fn 97 [] [.vp (tC t) 0]] s = some (.b (!l.all (wG t.ms.length)),s):=by
 have h:=pD (L:=ocP) (cell:=fY) (el:=fun x=>.i .i64 x) (l:=l) (cv:=.fn 97 [] [.vp (tC t) 0]) (p:=fun p=>!wG t.ms.length p) lq oQ rfl (by omega) (fun x hx=>⟨_,rfl,fun s=>bD (d:=(x,t)) Ig trivial s⟩) s
 rw [show l.flatMap fY = is l from d7 _ _,show (l.any fun p=>!wG t.ms.length p) = !l.all (wG t.ms.length) from by rw [List.not_all_eq_any_not]] at h
 exact h
theorem l6 {m:MD} (h:bM m = true):∃ r,m.say[0]? = some r/\0 < m.say.length:=by
 unfold bM uG at h
 simp only [Bool.and_eq_true,decide_eq_true_eq,kQ] at h
 have:0 < m.say.length:=by omega
 exact ⟨_,List.getElem?_eq_getElem this,this⟩
theorem A5 {l:List MD} {i:Nat} {m:MD} (h:l[i]? = some m):(pK l)[i * 4 + 3]? = some (cq m.say):=Lm h (by omega)
theorem FP {r:List RF} (ok:∀ x ∈ r,x.Ok)(hl:r.length <= 1000):eN [Kn 0 3 r.length] (St.of [(0,I6 30 r.length (jO r))] 1) = some (.b (cG (iY r)),St.of [(0,I6 30 r.length (jO r))] 1):=by
 have h1:jH (St.of [(0,I6 30 r.length (jO r))] 1) (Kn 0 3 r.length) = some (iY r):=by
  unfold jH Kn I6
  by_cases h0:r.length = 0
  ·rw [if_pos h0,List.eq_nil_of_length_eq_zero h0]; rfl
  have:=gA
  simp only [if_neg h0,cA,St.of_get,fG,if_true,fW (gg r),jJ,cQ (show r.length <= cW + 3 by omega),cond_true,iX ok]
 unfold eN
 simp only [h1,Option.bind_some,show Nat.ble (iY r).length 1000000 = true by simp [iY]; omega,cond_true]
theorem Hh {v:VD} (ok:v.w.Ok):(vC v).all flat = true:=by simp only [vC,List.all_cons,ok.fn,ok.fd]; rfl
theorem KM (v:VD):getR (vC v) 1 3 = some (rC v.w)/\(vC v)[0]? = some (.vw (is v.ph) v.ph.length)/\∀ a b c d,cY [a,b,c,d] 0 (vC v) = vC v:=⟨rfl,rfl,fun _ _ _ _=>rfl⟩
theorem uk:ag Tryz.prog 33 (ae validTV):=by
 obtain ⟨E,M,c1,c2,c3,c4⟩:=Lo (ae checkV1) eN gp (ae (anyVI ocP)) ⟨up,rQ,ul,BH ocP Li⟩ rfl
 refine ai (by kernel_rfl) Tryz.func33 Tryz.ntmps33 rfl ?_
 intro args v h
 obtain ⟨t,⟨ok,hlong⟩,rfl,rfl⟩:=aB h
 obtain ⟨l1,l2,l3,l4⟩:=pq hlong
 have f1:=ok.hL.ham.fn
 have f2:=ok.hL.ham.fd
 refine ⟨by simp only [pH,aE,bare,bI ok]; rfl,rfl,Nat.le_of_ble_eq_true rfl,?_⟩
 have hg:=tD ok.hL
 have lw:=ok.hws.2
 unfold pH
 rw [show tC t = [.vw (pK t.ms) t.ms.length,.vw (t.ws.map fun l=>b9 l) t.ws.length,.i .i64 t.L.O,.i .i64 t.L.V,.vw (rY t.L.gs) t.L.gs.length,.i .i64 t.L.k,.b t.L.am.neg,t.L.am.n,t.L.am.d,bF t.L.mix] from rfl]
 rw [bT,St.of_nil]
 obtain ⟨b1,e1⟩:∃ b,decide ((t.ms.length:Int) = 0) = b:=⟨_,rfl⟩
 obtain ⟨b2,e2⟩:∃ b,(!decide ((t.ws.length:Int) = t.L.V)) = b:=⟨_,rfl⟩
 obtain ⟨b3,e3⟩:∃ b,(!decide (t.L.err = 0)) = b:=⟨_,rfl⟩
 obtain ⟨pm,hpm⟩:∃ p:MD->Bool,(fun m=>bM m && Nat.beq (dj m) (iw t)) = p:=⟨_,rfl⟩
 have hv:bQ t = (!b1 && !b2 && !b3 && t.ms.all pm && t.ws.all (g9 t.ms.length)):=by
  unfold bQ
  rw [NY e2,NY e3,hpm,show decide (1 <= t.ms.length) = !b1 by rw [<- e1,<- decide_not]; exact decide_eq_decide.2 (by omega)]
 refine rg M (ax @f1 @f2) ?_
 refine Jd.seq ?_
 rcases dP b1 b2 b3 true true with rfl | ⟨rfl,rfl⟩ | ⟨rfl,rfl,rfl⟩ | ⟨rfl,rfl,rfl,_⟩ | ⟨_,_,_,h,_⟩ | ⟨_,_,_,h,_⟩
 rotate_left 4
 iterate 2 (· cases h)
 iterate 3 (· (refine rg M (ax @e1 (ax @e2 (ax @e3 (ax @f1 (ax @f2 (ax @c3 @hg)))))) ?_; refine cT rfl ?_; refine aZ M ?_; exact Jd.retT (aA.one rfl rfl (by rw [hv]; rfl))))
 have hv:bQ t = (t.ms.all pm && t.ws.all (g9 t.ms.length)):=hv
 have h0:0 < t.ms.length:=by have:=of_decide_eq_false e1; omega
 obtain ⟨m0,hm0⟩:∃ r,t.ms[0]? = some r:=⟨_,List.getElem?_eq_getElem h0⟩
 refine rg M (ax @e1 (ax @e2 (ax @e3 (ax @f1 (ax @f2 (ax @c3 @hg)))))) ?_
 refine lF rfl ?_
 refine Jd.freezeL (nx2:=0) 0 (tC t) [] [(1,.vp (tC t) 0)] [] rfl ?_ rfl (by decide) (by repeat' first | exact trivial | refine ⟨⟨_,rfl,by first | exact Wk.frz_ptr | exact Wk.refl _ _ | exact Wk.bare rfl | exact Wk.zero _ | exact Wk.none _⟩,?_⟩) (trivial) ?_
 ·exact bI ok
 have t0:(tC t)[0]? = some (.vw (pK t.ms) t.ms.length):=rfl
 have t1:(tC t)[1]? = some (.vw (t.ws.map fun l=>b9 l) t.ws.length):=rfl
 have hsy:=mX hm0
 refine Jd.seq ?_
 refine rg M @t0 ?_
 refine Jd.loopS t.ms.length (fun i=>[(33,.i .i64 (i:Int)),(32,.i .i64 (t.ms.length:Int)),(31,.vw (pK t.ms) t.ms.length),(1,.vp (tC t) 0)]) (fun i=>(t.ms.take i).all pm = true) ⟨rfl,rfl,rfl,rfl,trivial⟩ rfl ?_
 intro i hi hj Q' hex hret hgo
 refine aZ M ?_
 refine Jd.seq ?_
 refine Jd.cnd rfl (fun h1=>?_) (fun h1=>?_)
 rotate_left
 ·refine Jd.exitT (hex _ _ ?_)
  show Jb _ _ _ _ _ _
  have hi2:i = t.ms.length:=by have:=of_decide_eq_false h1; omega
  rw [hi2,List.take_length] at hj
  rw [hj,Bool.true_and] at hv
  clear hex hret hgo
  refine Jd.seq ?_
  refine rg M @t1 ?_
  refine Jd.loopS t.ws.length (fun i=>[(60,.i .i64 (i:Int)),(59,.i .i64 (t.ws.length:Int)),(58,.vw (t.ws.map fun l=>b9 l) t.ws.length),(1,.vp (tC t) 0)]) (fun i=>(t.ws.take i).all (g9 t.ms.length) = true) ⟨rfl,rfl,rfl,rfl,trivial⟩ rfl ?_
  intro i hi hj Q' hex hret hgo
  refine aZ M ?_
  refine Jd.seq ?_
  refine Jd.cnd rfl (fun h1=>?_) (fun h1=>?_)
  rotate_left
  ·refine Jd.exitT (hex _ _ ?_)
   show Jb _ _ _ _ _ _
   have hi2:i = t.ws.length:=by have:=of_decide_eq_false h1; omega
   rw [hi2,List.take_length] at hj
   refine aZ M ?_
   exact Jd.ret (aA.one rfl rfl (by rw [hv,hj]))
  have hil:i < t.ws.length:=by have:=of_decide_eq_true h1; omega
  obtain ⟨l,hx⟩:∃ r,t.ws[i]? = some r:=⟨_,List.getElem?_eq_getElem hil⟩
  have hlm:=List.mem_of_getElem? hx
  obtain ⟨hl,hlp⟩:=l4 l hlm
  have hok:=(ok.hws.1 l hlm).1
  refine Jd.skipT ?_
  refine Jd.seq (Jd.block ?_)
  clear hex
  refine rg M (ax @Int.toNat_natCast (mJ hx)) ?_
  refine aZ M ?_
  refine Jd.seq ?_
  refine aZ M ?_
  obtain ⟨ws,hws⟩:∃ ws,l.map VD.w = ws:=⟨_,rfl⟩
  have okw:∀ x ∈ ws,x.Ok:=fun x hx=>by rw [<- hws] at hx; obtain ⟨v,hv,rfl⟩:=List.mem_map.1 hx; exact (hok v hv).1
  have lw2:ws.length = l.length:=by rw [<- hws,List.length_map]
  obtain ⟨pB,hpB⟩:∃ p:VD->Bool,(fun v=>decide (1 <= v.ph.length) && v.ph.all (wG t.ms.length)) = p:=⟨_,rfl⟩
  have hw:g9 t.ms.length l = (l.all pB && cG (iY ws)):=by unfold g9 iY; rw [hpB,<- hws,List.map_map]; rfl
  refine Jd.loopB (fun k g s=>∃ j:Nat,j + k = l.length/\(l.take j).all pB = true/\g = ⟨33,90,Tr.of [(66,.i .i64 (j:Int)),(65,.i .i64 (l.length:Int)),(64,.vw (Aa l) l.length),(7,Kn 0 3 j),(60,.i .i64 (i:Int)),(59,.i .i64 (t.ws.length:Int)),(58,.vw (t.ws.map fun l=>b9 l) t.ws.length),(1,.vp (tC t) 0)],none,[]⟩/\s = St.of [(0,I6 30 j (jO (ws.take j)))] 1) l.length ?_ ?_
  ·exact ⟨_,_,To.pad [(66,.i .i64 ((0:Nat):Int)),(65,.i .i64 (l.length:Int)),(64,.vw (Aa l) l.length),(7,.snil),(60,.i .i64 (i:Int)),(59,.i .i64 (t.ws.length:Int)),(58,.vw (t.ws.map fun l=>b9 l) t.ws.length),(1,.vp (tC t) 0)] ⟨rfl,rfl,rfl,rfl,rfl,rfl,rfl,rfl,trivial⟩ rfl,0,by omega,rfl,rfl,rfl⟩
  rintro k _ _ ⟨j,hjk,hja,rfl,rfl⟩ Q2 hex2 hret2 hgo2
  have lt:(ws.take j).length = j:=by rw [List.length_take]; omega
  obtain ⟨wv,hwv⟩:∃ x,Kn 0 3 j = x:=⟨_,rfl⟩
  obtain ⟨ob,hob⟩:∃ x,I6 30 j (jO (ws.take j)) = x:=⟨_,rfl⟩
  rw [hwv,hob]
  refine aZ M ?_
  refine Jd.seq ?_
  refine Jd.cnd rfl (fun h2=>?_) (fun h2=>?_)
  rotate_left
  ·refine Jd.exitT (hex2 _ _ ?_)
   show Jb _ _ _ _ _ _
   have hi2:j = l.length:=by have:=of_decide_eq_false h2; omega
   rw [hi2,List.take_length] at hja
   have hd:=FP okw (by omega)
   rw [lw2,<- hi2,hwv,show I6 30 j (jO ws) = ob by rw [<- hob,hi2,<- lw2,List.take_length]] at hd
   obtain ⟨b,hb⟩:=nL (cG (iY ws))
   rw [hb] at hd
   rw [hja,hb] at hw
   refine rg M (ax @c2 @hd) ?_
   cases b with
   | true =>
    refine cT rfl ?_
    refine aZ M ?_
    refine Jd.ret ?_
    refine hret _ _ ?_
    exact iE.r (aA.one rfl rfl (by rw [hv,cf hx hw]))
   | false =>
    refine cF rfl ?_
    refine Jd.skip ?_
    refine dX.norm ?_
    show Jb _ _ _ _ _ _
    refine Jd.forget [(60,.i .i64 (i:Int)),(59,.i .i64 (t.ws.length:Int)),(58,.vw (t.ws.map fun l=>b9 l) t.ws.length),(1,.vp (tC t) 0)] ⟨rfl,rfl,rfl,rfl,trivial⟩ rfl ?_
    refine nZ M ?_
    exact hgo _ ⟨rfl,rfl,rfl,rfl,trivial⟩ hil (cI hx hj hw)
  have hjl:j < l.length:=by have:=of_decide_eq_true h2; omega
  obtain ⟨x,hv2⟩:∃ r,l[j]? = some r:=⟨_,List.getElem?_eq_getElem hjl⟩
  have hxm:=List.mem_of_getElem? hv2
  have hxw:ws[j]? = some x.w:=by rw [<- hws]; simp [hv2]
  have okxw:=okw x.w (List.mem_of_getElem? hxw)
  have hp:pB x = (decide (1 <= x.ph.length) && x.ph.all (wG t.ms.length)):=by rw [<- hpB]
  refine Jd.skipT ?_
  refine Jd.seq (Jd.block ?_)
  clear hex2
  have f3:=okxw.fn
  have f4:=okxw.fd
  have hl3:=gg (ws.take j)
  rw [lt] at hl3
  have hap:=LO (P:=Tryz.prog) (n:=j) (c:=jO (ws.take j)) (l:=rC x.w) (m:=[(2,some (.cells (rC x.w) 30 false)),(1,some (.cells (vC x) 80 false)),(1,some (.cells [.snil,.b false,.snil,.snil] 80 false)),(0,ob)]) (nx:=3) (o:=0) (o2:=2) (t2:=30) (op2:=false) Tryz.underlying31 (show bP Tryz.prog 30 = some (.agg [.b false,.snil,.snil]) by kernel_rfl) (show zk Tryz.prog 30 (.agg [.b false,.snil,.snil]) 3 = true by kernel_rfl) hl3 (by omega) hob.symm rfl rfl (fun h=>by rw [<- hob,h]; kernel_rfl)
  rw [hwv,<- mY,<- uA hxw] at hap
  obtain ⟨hv1,hv3,hv4⟩:=KM x
  have hcl:=NJ t (hlp x hxm)
  obtain ⟨b1,g1⟩:∃ b,decide ((x.ph.length:Int) = 0) = b:=⟨_,rfl⟩
  obtain ⟨b2,g2⟩:=nL (x.ph.all (wG t.ms.length))
  have hp:pB x = (!b1 && !b2):=by rw [hp,g2,show decide (1 <= x.ph.length) = !b1 by rw [<- g1,<- decide_not]; exact decide_eq_decide.2 (by omega)]
  rw [g2,Bool.not_not] at hcl
  have fl:=Hh okxw
  refine rg M (ax @Int.toNat_natCast (ax (z8 hv2) (ax @qv (ax @fl @hv4)))) ?_
  refine rg M (ax @hv1 (ax @okxw.flat (ax @fE @hap))) ?_
  have okt:∀ z ∈ ws.take (j + 1),z.Ok:=fun z hz=>okw z (List.mem_of_mem_take hz)
  rcases dP b1 b2 true true true with rfl | ⟨rfl,rfl⟩ | ⟨rfl,rfl,_⟩ | ⟨_,_,h,_⟩ | ⟨_,_,h,_⟩ | ⟨_,_,h,_⟩
  rotate_left 3
  iterate 3 (· cases h)
  iterate 2 (· (refine rg M (ax @hv3 (ax @g1 (ax @oS (ax @List.cons_append.{0} (ax @List.nil_append.{0} (ax @c4 @hcl)))))) ?_; refine cT rfl ?_; refine aZ M ?_; refine Jd.ret ?_; refine hret2 _ _ ?_; refine hret _ _ ?_; exact iE.r (aA.one rfl rfl (by rw [hv,cf hx (by rw [hw,cf hv2 hp]; rfl)]))))
  refine rg M (ax @hv3 (ax @g1 (ax @oS (ax @List.cons_append.{0} (ax @List.nil_append.{0} (ax @c4 @hcl)))))) ?_
  refine cF rfl ?_
  refine Jd.skip ?_
  refine dX.norm ?_
  show Jb _ _ _ _ _ _
  refine nZ M ?_
  refine hgo2 _ _ ⟨k - 1,_,_,by omega,(To.ofL (nx2:=1) [3] [(66,.i .i64 ((j + 1:Nat):Int)),(65,.i .i64 (l.length:Int)),(64,.vw (Aa l) l.length),(7,.sl 0 0 (j + 1) (cW + 3)),(60,.i .i64 (i:Int)),(59,.i .i64 (t.ws.length:Int)),(58,.vw (t.ws.map fun l=>b9 l) t.ws.length),(1,.vp (tC t) 0)] [(0,some (.cells (jO (ws.take (j + 1))) 30 true))] rfl (by decide) (by first | exact aY | exact base_one | exact base_two) (by repeat' first | exact trivial | refine ⟨⟨_,rfl,by first | exact bU.same (dH okt) | exact Wk.refl _ _ | exact Wk.bare rfl | exact Wk.zero _ | exact Wk.none _⟩,?_⟩) (by repeat' first | exact trivial | refine ⟨⟨Nat.le_of_ble_eq_true rfl,_,_,rfl,rfl,by first | exact bU.same (dH okt) | exact bU.same rfl | exact bU.same (fr_bare _) | exact bU.same (bs_bare _) | exact bU.same (is_bare _) | exact bU.cells rfl⟩,?_⟩)),j + 1,by omega,cI hv2 hja hp,rfl,rfl⟩
 have hil:i < t.ms.length:=by have:=of_decide_eq_true h1; omega
 obtain ⟨m,hx⟩:∃ r,t.ms[i]? = some r:=⟨_,List.getElem?_eq_getElem hil⟩
 have hmm:=List.mem_of_getElem? hx
 have okm:=ok.hms.1 m hmm
 have hcm:=tV okm
 obtain ⟨b1,g1⟩:=nL (bM m)
 have hck:decide (gQ m = 0) = !b1:=by
  rw [<- g1,Bool.eq_iff_iff,decide_eq_true_eq]
  exact F7 (l3 m hmm)
 refine Jd.skipT ?_
 refine Jd.seq (Jd.block ?_)
 clear hex
 have hvm0:i ≠ 0->bM m0 = true:=fun h=>by
  have:m0 ∈ t.ms.take i:=List.mem_of_getElem? (i:=0) (by rw [List.getElem?_take,if_pos (by omega)]; exact hm0)
  have:=List.all_eq_true.1 hj m0 this
  rw [<- hpm,Bool.and_eq_true] at this
  exact this.1
 have hp:pm m = (!b1 && Nat.beq (dj m) (iw t)):=by rw [<- hpm]; show (bM m && Nat.beq (dj m) (iw t)) = _; rw [g1]
 unfold mC at hcm
 cases b1 with
 | true =>
  refine rg M (ax @Int.toNat_natCast (ax (ie hx) @mC.eq_1)) ?_
  refine dr M [] (ax @c1 (ax @hcm (ax @hck (ax @Bool.not_true @Bool.not_false)))) ?_
  refine cT rfl ?_
  refine aZ M ?_
  refine Jd.ret ?_
  refine hret _ _ ?_
  exact iE.r (aA.one rfl rfl (by rw [hv,cf hx hp]; rfl))
 | false =>
  obtain ⟨r,hr,hr0⟩:=l6 g1
  obtain ⟨r0,hr2,hr3⟩:∃ r,m0.say[0]? = some r/\0 < m0.say.length:=by
   by_cases h:i = 0
   ·subst h; rw [hm0] at hx; cases hx; exact ⟨r,hr,hr0⟩
   exact l6 (hvm0 h)
  obtain ⟨b2,g2⟩:∃ b,(!decide ((r.length:Int) = (r0.length:Int))) = b:=⟨_,rfl⟩
  rw [iR hr,hsy,iR hr2,nE g2] at hp
  have hms0:=A5 hm0
  rw [Nat.zero_mul,Nat.zero_add] at hms0
  refine rg M (ax @Int.toNat_natCast (ax (ie hx) @mC.eq_1)) ?_
  refine dr M [] (ax @c1 (ax @hcm (ax @hck (ax @Bool.not_true (ax @Bool.not_false (ax @t0 (ax (bR hr) (ax (bR hr2) (ax @hms0 @g2))))))))) ?_
  cases b2 with
  | true =>
   refine cT rfl ?_
   refine aZ M ?_
   refine Jd.ret ?_
   refine hret _ _ ?_
   exact iE.r (aA.one rfl rfl (by rw [hv,cf hx hp]; rfl))
  | false =>
   refine cF rfl ?_
   refine Jd.skip ?_
   refine dX.norm ?_
   show Jb _ _ _ _ _ _
   refine Jd.forget [(33,.i .i64 (i:Int)),(32,.i .i64 (t.ms.length:Int)),(31,.vw (pK t.ms) t.ms.length),(1,.vp (tC t) 0)] ⟨rfl,rfl,rfl,rfl,trivial⟩ rfl ?_
   refine nZ M ?_
   exact hgo _ ⟨rfl,rfl,rfl,rfl,trivial⟩ hil (cI hx hj hp)
def Nn (d:Int × Int):List AV:=[.i .i64 d.1,.vp [.i .i64 d.2] 0]
theorem IX (x y:Int × Int)(h:Nn x = Nn y):x = y:=by
 obtain ⟨a,b⟩:=x; obtain ⟨a',b'⟩:=y
 simp only [Nn,List.cons.injEq,AV.i.injEq,AV.vp.injEq,and_true,true_and] at h
 rw [h.1,h.2]
noncomputable def hr1V:=ofE Nn (fun _=>True) fun d=>.b (!(decide (0 <= d.1) && decide (d.1 < d.2)))
theorem Lu {x k:Int} {a b:Bool} (e1:decide (x < 0) = a) (e2:decide (x ≥ k) = b):(!(decide (0 <= x) && decide (x < k))) = (a || b):=by
 rw [<- e1,<- e2,show decide (0 <= x) = !decide (x < 0) by rw [<- decide_not]; exact decide_eq_decide.2 (by omega),show decide (x < k) = !decide (x ≥ k) by rw [<- decide_not]; exact decide_eq_decide.2 (by omega),Bool.not_and,Bool.not_not,Bool.not_not]
theorem L2:ag Tryz.prog 177 (ae hr1V):=by
 obtain ⟨E,M⟩:=qX
 refine ai (by kernel_rfl) Tryz.func177 Tryz.ntmps177 rfl ?_
 intro args v h
 obtain ⟨⟨x,k⟩,_,rfl,rfl⟩:=aB h
 refine ⟨rfl,rfl,Nat.le_of_ble_eq_true rfl,?_⟩
 unfold Nn
 dsimp only
 rw [bS,St.of_nil]
 obtain ⟨b1,e1⟩:∃ b,decide (x < 0) = b:=⟨_,rfl⟩
 obtain ⟨b2,e2⟩:∃ b,decide (x ≥ k) = b:=⟨_,rfl⟩
 rw [Lu e1 e2]
 refine aZ M ?_
 cases b1 with
 | true =>
  refine rg M @e1 ?_
  exact Jd.ret (aA.one rfl rfl rfl)
 | false =>
  refine rg M (ax @e1 @e2) ?_
  exact Jd.ret (aA.one rfl rfl rfl)
noncomputable def ocH:Oc:=[(177,ae hr1V)]
theorem Ll:∀ p ∈ ocH,ag Tryz.prog p.1 p.2:=by unfold ocH; simp only [List.forall_mem_cons]; exact ⟨L2,fun p hp=>by cases hp⟩
theorem NL (k:Nat) {l:List Int} (hl:l.length <= 1000000) (s:St):ae (anyVI ocH) [.vw (is l) l.length,.fn 177 [] [.vp [.i .i64 k] 0]] s = some (.b (!dM k l),s):=by
 have h:=pD (L:=ocH) (cell:=fY) (el:=fun x=>.i .i64 x) (l:=l) (cv:=.fn 177 [] [.vp [.i .i64 k] 0]) (p:=fun x=>!(decide (0 <= x) && decide (x < (k:Int)))) lq oQ rfl (by omega) (fun x hx=>⟨_,rfl,fun s=>bD (d:=(x,(k:Int))) IX trivial s⟩) s
 rw [show l.flatMap fY = is l from d7 _ _,show (l.any fun x=>!(decide (0 <= x) && decide (x < (k:Int)))) = !dM k l from by unfold dM; rw [List.not_all_eq_any_not]] at h
 exact h
def Oy (d:TD × List Int):Prop:=d.1.Ok/\d.2.length <= 1000000/\bQ d.1 = true
noncomputable def heardTV:=ofE rX Oy fun d=>.b (dM (iw d.1) d.2)
theorem Cd {t:TD} (h:bQ t = true):∃ m r,t.ms[0]? = some m/\m.say[0]? = some r/\0 < m.say.length/\iw t = r.length:=by
 have h0:=l5 h
 obtain ⟨m,hx⟩:∃ r,t.ms[0]? = some r:=⟨_,List.getElem?_eq_getElem h0⟩
 unfold bQ at h
 simp only [Bool.and_eq_true,List.all_eq_true] at h
 obtain ⟨r,hr,hr0⟩:=l6 (h.1.2 m (List.mem_of_getElem? hx)).1
 exact ⟨m,r,hx,hr,hr0,by rw [mX hx,iR hr]⟩
theorem Dr:ag Tryz.prog 105 (ae heardTV):=by
 obtain ⟨E,M,c1⟩:=i3 (ae (anyVI ocH)) (BH ocH Ll) rfl
 refine ai (by kernel_rfl) Tryz.func105 Tryz.ntmps105 rfl ?_
 intro args v h
 obtain ⟨⟨t,o⟩,⟨ok,ho,hv⟩,rfl,rfl⟩:=aB h
 dsimp only at ok ho hv
 have f1:=ok.hL.ham.fn
 have f2:=ok.hL.ham.fd
 refine ⟨by simp only [rX,aE,bare,bI ok]; rfl,rfl,Nat.le_of_ble_eq_true rfl,?_⟩
 obtain ⟨m,r,hx,hr,hr0,hk⟩:=Cd hv
 have h0:=l5 hv
 have hms:=A5 hx
 rw [Nat.zero_mul,Nat.zero_add] at hms
 unfold rX tC
 dsimp only
 rw [bS,St.of_nil,hk]
 have hh:=NL r.length ho
 refine rg M (ax @f1 @f2) ?_
 refine rg M (ax @hms (bR hr)) ?_
 refine Jd.freezeL (nx2:=0) 1 ([.i .i64 (r.length:Int)]) [] [(5,.vp [.i .i64 (r.length:Int)] 0),(1,.vw (is o) o.length)] [] rfl ?_ rfl (by decide) (by repeat' first | exact trivial | refine ⟨⟨_,rfl,by first | exact Wk.frz_ptr | exact Wk.refl _ _ | exact Wk.bare rfl | exact Wk.zero _ | exact Wk.none _⟩,?_⟩) (trivial) ?_
 ·rfl
 refine rg M (ax @oS (ax @List.cons_append.{0} (ax @List.nil_append.{0} (ax @c1 @hh)))) ?_
 exact Jd.ret (aA.one rfl rfl (by rw [Bool.not_not]))
noncomputable def checkTV:=ofE pH TD.Ok fun t=>.i .i64 (lO t)
theorem tU {t:TD} (ok:t.Ok) (s:St):ae checkTV [.agg (tC t)] s = some (.i .i64 (lO t),s):=bD hX ok s
theorem uo:ag Tryz.prog 8 (ae checkTV):=by
 obtain ⟨E,M,c1,c2⟩:=y8 (ae longTV) (ae validTV) ⟨yd,uk⟩ rfl
 refine ai (by kernel_rfl) Tryz.func8 Tryz.ntmps8 rfl ?_
 intro args v h
 obtain ⟨t,ok,rfl,rfl⟩:=aB h
 have f1:=ok.hL.ham.fn
 have f2:=ok.hL.ham.fd
 refine ⟨by simp only [pH,aE,bare,bI ok]; rfl,rfl,Nat.le_of_ble_eq_true rfl,?_⟩
 have hl:=q7 ok
 have hv:fA t = false->∀ s,ae validTV [.agg (tC t)] s = some (.b (bQ t),s):=fun h=>bD hX ⟨ok,h⟩
 unfold pH
 unfold tC at hl hv ⊢
 rw [bT,St.of_nil]
 obtain ⟨b1,e1⟩:∃ b,fA t = b:=⟨_,rfl⟩
 have hb:lO t = if b1 = true then 5 else if bQ t = true then 0 else 2:=by unfold lO; rw [e1]
 rw [e1] at hl hv
 refine rg M (ax @f1 @f2) ?_
 refine Jd.seq ?_
 cases b1 with
 | true =>
  refine rg M (ax @f1 (ax @f2 (ax @c1 @hl))) ?_
  refine cT rfl ?_
  refine aZ M ?_
  exact Jd.retT (aA.one rfl rfl (by rw [hb]; rfl))
 | false =>
  have hv:=hv rfl
  obtain ⟨b3,e3⟩:=nL (bQ t)
  rw [e3] at hv hb
  refine rg M (ax @f1 (ax @f2 (ax @c1 @hl))) ?_
  refine lF rfl ?_
  refine Jd.seq ?_
  refine rg M (ax @f1 (ax @f2 (ax @c2 @hv))) ?_
  cases b3 with
  | true =>
   refine cT rfl ?_
   refine aZ M ?_
   exact Jd.retT (aA.one rfl rfl (by rw [hb]; rfl))
  | false =>
   refine lF rfl ?_
   refine aZ M ?_
   exact Jd.ret (aA.one rfl rfl (by rw [hb]; rfl))
noncomputable def wrongV:=ofE Gm (fun b=>b.r.Ok) fun b=>.b (!f9 b)
theorem Gv:ag Tryz.prog 133 (ae wrongV):=by
 obtain ⟨E,M,c1,c2,c3⟩:=Lp (ae iU) (ae sp) (ae DC) ⟨BF,GH,Kq⟩ rfl
 refine ai (by kernel_rfl) Tryz.func133 Tryz.ntmps133 rfl ?_
 intro args v h
 obtain ⟨b,ok,rfl,rfl⟩:=aB h
 have f1:=ok.fn
 have f2:=ok.fd
 refine ⟨by simp only [Gm,bC,aE,bare,ok.bn,ok.bd]; rfl,rfl,Nat.le_of_ble_eq_true rfl,?_⟩
 unfold Gm bC
 rw [bT,St.of_nil]
 have hs:=Ap ok
 have hc:=FW ok
 obtain ⟨b1,e1⟩:∃ t,decide (b.w < 1) = t:=⟨_,rfl⟩
 obtain ⟨b2,e2⟩:∃ t,decide (b.w > 20000) = t:=⟨_,rfl⟩
 obtain ⟨b3,e3⟩:∃ t,decide (ce b.r.q < 0) = t:=⟨_,rfl⟩
 obtain ⟨b4,e4⟩:∃ t,decide (ce (b.r.q - ((1:Int):Rat)) > 0) = t:=⟨_,rfl⟩
 have hb:f9 b = (!b1 && !b2 && !b3 && !b4):=by
  unfold f9
  rw [<- e1,<- e2,<- e3,<- e4,<- decide_not,<- decide_not,<- decide_not,<- decide_not]
  congr 1
  ·congr 1
   ·congr 1
    ·exact decide_eq_decide.2 (by omega)
    exact decide_eq_decide.2 (by omega)
   exact decide_eq_decide.2 (by omega)
  exact decide_eq_decide.2 (by omega)
 rw [hb]
 refine rg M (ax @f1 @f2) ?_
 rcases dP b1 b2 b3 b4 true with rfl | ⟨rfl,rfl⟩ | ⟨rfl,rfl,rfl⟩ | ⟨rfl,rfl,rfl,rfl⟩ | ⟨rfl,rfl,rfl,rfl,_⟩ | ⟨_,_,_,_,h⟩
 iterate 5 (· (refine dr M [] (ax @f1 (ax @f2 (ax @e1 (ax @e2 (ax @e3 (ax @e4 (ax @c1 (ax @c2 (ax @c3 (ax @hs (ax @hc (ax @Lb (ax @Bool.not_true @Bool.not_false))))))))))))) ?_; exact Jd.ret (aA.one rfl rfl rfl)))
 cases h
section
theorem pi (ρ:Nat->Nat):∀ l m:List AV,fT ρ (l ++ m) = fT ρ l ++ fT ρ m
 | [],_=>rfl
 | x :: l,m=>by rw [List.cons_append,fT,fT,pi ρ l m]; rfl
section
variable {P:Program} {c:Code} {f:FuncId} {n nx:Nat} {l:List (Nat × AV)} {m:List (Nat × Option AO)} {Q:Ex->Fr->St->Prop}
theorem Jd.freezeML (o:Nat) (es:List AE) {clock:Nat} (rl:List Nat) (l2:List (Nat × AV)) (m2:List (Nat × Option AO)) {nx2:Nat} (ho:lD m o = some (.map es clock))(hb:∀ e ∈ es,bare e.key = true/\bare e.val = true)(hn:(es.map (·.born)).Nodup)(hlt:∀ e ∈ es,e.born < clock)(hnx:rl.length = nx2)(hnd:rl.Nodup)(hT:sA (yq o es) (cB rl nx) l l2)(hS:sB (yq o es) (cB rl nx) rl.length ((o,none) :: m) m2)
  (k:Jd P c ⟨f,n,Tr.of l2,none,[]⟩ (St.of m2 nx2) Q):Jd P c ⟨f,n,Tr.of l,none,[]⟩ (St.of m nx) Q:=by
 subst hnx
 exact Jd.freezeMp rl (es:=es) (clock:=clock) ((St.of_get nx o m).trans ho) hb hn hlt (DH.of hnd hT hS) k
theorem Jd.freezeM0 (o:Nat) {clock:Nat} (rl:List Nat) (l2:List (Nat × AV)) (m2:List (Nat × Option AO)) {nx2:Nat} (ho:lD m o = some (.map [] clock))(hnx:rl.length = nx2)(hnd:rl.Nodup)(hT:sA (yq o []) (cB rl nx) l l2)(hS:sB (yq o []) (cB rl nx) rl.length ((o,none) :: m) m2)
  (k:Jd P c ⟨f,n,Tr.of l2,none,[]⟩ (St.of m2 nx2) Q):Jd P c ⟨f,n,Tr.of l,none,[]⟩ (St.of m nx) Q :=
 Jd.freezeML o [] rl l2 m2 ho (fun e he=>by cases he) .nil (fun e he=>by cases he) hnx hnd hT hS k
end
end
def GV (t:TD):List AV:=tC t ++ [.fm [] [],.i .i64 (t.L.O - 1)]
noncomputable def startedV:=ofE pH (fun t=>t.Ok/\t.L.err = 0) fun t=>.vp (GV t) 0
theorem Nv {L:LG} (h:L.err = 0):1 <= L.O/\L.O <= 4:=by
 obtain ⟨_,h2,_⟩:=iQ (xS h).1
 have:=jZ h2
 omega
theorem zw:ag Tryz.prog 106 (ae startedV):=by
 obtain ⟨E,M⟩:=qX
 refine ai (by kernel_rfl) Tryz.func106 Tryz.ntmps106 rfl ?_
 intro args v h
 obtain ⟨t,⟨ok,he⟩,rfl,rfl⟩:=aB h
 have f1:=ok.hL.ham.fn
 have f2:=ok.hL.ham.fd
 have hO:=Nv he
 refine ⟨by simp only [pH,aE,bare,bI ok]; rfl,rfl,Nat.le_of_ble_eq_true rfl,?_⟩
 unfold pH tC
 rw [bT,St.of_nil]
 refine rg M (ax @f1 @f2) ?_
 refine rg M (ax @f1 @f2) ?_
 have hwk:bU (yq 1 []) (cB [2] 3) (.cells (tC t ++ [.mp 1,.i .i64 (t.L.O - 1)]) 107 false) (.cells (GV t) 107 false):=by
  refine ⟨rfl,rfl,?_⟩
  unfold GV
  rw [pi,eP _ _ (bI ok)]
  exact (pE.refl _ _).append (.cons (Wk.frz_mp (es':=[]) .nil) (.cons (Wk.refl _ _) .nil))
 refine Jd.freezeM0 1 [2] [(2,.ptr 0 0)] [(0,some (.cells (GV t) 107 false))] rfl rfl (by decide) ⟨⟨_,rfl,Wk.refl _ _⟩,trivial⟩ ⟨⟨Nat.le_of_ble_eq_true rfl,_,_,rfl,rfl,hwk⟩,trivial⟩ ?_
 refine Jd.freezeL (nx2:=0) 0 (GV t) [] [(2,.vp (GV t) 0)] [] rfl ?_ rfl (by decide) (by repeat' first | exact trivial | refine ⟨⟨_,rfl,by first | exact Wk.frz_ptr | exact Wk.refl _ _ | exact Wk.bare rfl | exact Wk.zero _ | exact Wk.none _⟩,?_⟩) (trivial) ?_
 ·unfold GV; rw [cR,bI ok]; rfl
 exact Jd.ret (aA.one rfl rfl rfl)
noncomputable def beginV:=ofE rX MY fun d=>if bx d.1 d.2 = 0 then .tup [.vp (GV d.1) 0,.i .i64 0] else .tup [.pnil,.i .i64 (bx d.1 d.2)]
theorem kF {t:TD} {o:List Int} (ok:t.Ok)(ho:o.length <= 1000000) (s:St):ae beginV [.agg (tC t),.vw (is o) o.length] s = some (if bx t o = 0 then .tup [.vp (GV t) 0,.i .i64 0] else .tup [.pnil,.i .i64 (bx t o)],s):=bD (d:=(t,o)) hY ⟨ok,ho⟩ s
theorem yG {t:TD} (h:bQ t = true):t.L.err = 0:=by
 unfold bQ at h
 simp only [Bool.and_eq_true,decide_eq_true_eq] at h
 exact h.1.1.2
theorem kG:ag Tryz.prog 38 (ae beginV):=by
 obtain ⟨E,M,c1,c2,c3,c4⟩:=Lo (ae longTV) (ae validTV) (ae heardTV) (ae startedV) ⟨yd,uk,Dr,zw⟩ rfl
 refine ai (by kernel_rfl) Tryz.func38 Tryz.ntmps38 rfl ?_
 intro args v h
 obtain ⟨⟨t,o⟩,⟨ok,ho⟩,rfl,rfl⟩:=aB h
 dsimp only at ok ho
 have f1:=ok.hL.ham.fn
 have f2:=ok.hL.ham.fd
 refine ⟨by simp only [rX,aE,bare,bI ok]; rfl,by dsimp only; split <;> rfl,Nat.le_of_ble_eq_true rfl,?_⟩
 have hl:=q7 ok
 have hv:fA t = false->∀ s,ae validTV [.agg (tC t)] s = some (.b (bQ t),s):=fun h=>bD hX ⟨ok,h⟩
 have hh:bQ t = true->∀ s,ae heardTV [.agg (tC t),.vw (is o) o.length] s = some (.b (dM (iw t) o),s):=fun h=>bD (d:=(t,o)) hY ⟨ok,ho,h⟩
 have hst:bQ t = true->∀ s,ae startedV [.agg (tC t)] s = some (.vp (GV t) 0,s):=fun h=>bD hX ⟨ok,yG h⟩
 unfold rX
 dsimp only
 unfold tC at hl hv hh hst ⊢
 rw [bS,St.of_nil]
 obtain ⟨b1,e1⟩:∃ b,fA t = b:=⟨_,rfl⟩
 obtain ⟨b2,e2⟩:∃ b,decide ((o.length:Int) > 1000) = b:=⟨_,rfl⟩
 obtain ⟨e,he⟩:∃ e,bx t o = e:=⟨_,rfl⟩
 have hb:e = if (b1 || b2) = true then 5 else if (bQ t && dM (iw t) o) = true then 0 else 2:=by
  rw [<- he]
  unfold bx
  rw [e1,CP e2]
 rw [he]
 rw [e1] at hl hv
 refine rg M (ax @f1 @f2) ?_
 refine Jd.seq ?_
 rcases dP b1 b2 true true true with rfl | ⟨rfl,rfl⟩ | ⟨rfl,rfl,_⟩ | ⟨_,_,h,_⟩ | ⟨_,_,h,_⟩ | ⟨_,_,h,_⟩
 rotate_left 3
 iterate 3 (· cases h)
 iterate 2 (· (refine rg M (ax @f1 (ax @f2 (ax @c1 (ax @hl @e2)))) ?_; refine cT rfl ?_; refine aZ M ?_; refine Jd.retT (aA.two rfl rfl rfl ?_); subst hb; rfl))
 have hb:e = if (bQ t && dM (iw t) o) = true then 0 else 2:=hb
 have hv:=hv rfl
 refine rg M (ax @f1 (ax @f2 (ax @c1 (ax @hl @e2)))) ?_
 refine lF rfl ?_
 refine Jd.seq ?_
 obtain ⟨b3,e3⟩:=nL (bQ t)
 rw [e3] at hv hb hh hst
 cases b3 with
 | true =>
  refine rg M (ax @f1 (ax @f2 (ax @c2 @hv))) ?_
  refine cT rfl ?_
  refine aZ M ?_
  refine Jd.retT (aA.two rfl rfl rfl ?_); subst hb; rfl
 | false =>
  have hh:=hh rfl
  have hst:=hst rfl
  obtain ⟨b4,e4⟩:=nL (dM (iw t) o)
  rw [e4] at hh hb
  refine rg M (ax @f1 (ax @f2 (ax @c2 (ax @hv (ax @c3 @hh))))) ?_
  cases b4 with
  | true =>
   refine cT rfl ?_
   refine aZ M ?_
   refine Jd.retT (aA.two rfl rfl rfl ?_); subst hb; rfl
  | false =>
   refine lF rfl ?_
   refine rg M (ax @f1 (ax @f2 (ax @c4 @hst))) ?_
   refine Jd.ret (aA.two rfl rfl rfl ?_); subst hb; rfl
def z3:AV:=.agg [.b false,.snil,.snil]
def Jh (d:TD × List Int):Prop:=d.1.Ok/\d.2.length <= 1000000/\bx d.1 d.2 ≠ 0
def Mo (d:TD × List Int):List AV:=[.agg (tC d.1),.vw (is d.2) d.2.length,.snil]
theorem GZ (x y:TD × List Int)(h:Mo x = Mo y):x = y:=by
 refine hY x y ?_
 simp only [Mo,rX,List.cons.injEq,and_true] at h ⊢
 exact h
noncomputable def weightV:=ofE Mo Jh fun d=>.tup [z3,.i .i64 (bx d.1 d.2)]
noncomputable def totalV:=ofE rX Jh fun d=>.tup [z3,.i .i64 (bx d.1 d.2)]
noncomputable def proveV:=ofE rX Jh fun d=>.tup [.agg [.snil],.i .i64 (bx d.1 d.2)]
theorem Nw {e:Int} (h:e ≠ 0):(!decide (e = 0)) = true:=by simp [h]
theorem zr:ag Tryz.prog 11 (ae weightV):=by
 obtain ⟨E,M,c1⟩:=i3 (ae beginV) kG rfl
 refine ai (by kernel_rfl) Tryz.func11 Tryz.ntmps11 rfl ?_
 intro args v h
 obtain ⟨⟨t,o⟩,⟨ok,ho,he⟩,rfl,rfl⟩:=aB h
 dsimp only at ok ho he
 have f1:=ok.hL.ham.fn
 have f2:=ok.hL.ham.fd
 refine ⟨by simp only [Mo,aE,bare,bI ok]; rfl,rfl,Nat.le_of_ble_eq_true rfl,?_⟩
 have hb:=kF ok ho
 simp only [if_neg he] at hb
 have hn:=Nw he
 unfold Mo
 dsimp only
 unfold tC at hb ⊢
 rw [p8,St.of_nil]
 refine rg M (ax @f1 @f2) ?_
 refine rg M (ax @f1 (ax @f2 (ax @c1 @hb))) ?_
 refine Jd.seq ?_
 refine rg M @hn ?_
 refine cT rfl ?_
 refine aZ M ?_
 exact Jd.retT (aA.c2 rfl rfl (by simp only [↓FG,↓FF,Ej,Nat.reduceEqDiff,↓reduceIte,Nat.reduceLT,Nat.reduceAdd,qy,qx,Bool.true_or,Bool.or_true,Nat.sub_zero,Int.toNat_natCast] <;> rfl) rfl rfl)
theorem Dj:ag Tryz.prog 12 (ae totalV):=by
 obtain ⟨E,M,c1⟩:=i3 (ae beginV) kG rfl
 refine ai (by kernel_rfl) Tryz.func12 Tryz.ntmps12 rfl ?_
 intro args v h
 obtain ⟨⟨t,o⟩,⟨ok,ho,he⟩,rfl,rfl⟩:=aB h
 dsimp only at ok ho he
 have f1:=ok.hL.ham.fn
 have f2:=ok.hL.ham.fd
 refine ⟨by simp only [rX,aE,bare,bI ok]; rfl,rfl,Nat.le_of_ble_eq_true rfl,?_⟩
 have hb:=kF ok ho
 simp only [if_neg he] at hb
 have hn:=Nw he
 unfold rX
 dsimp only
 unfold tC at hb ⊢
 rw [bS,St.of_nil]
 refine rg M (ax @f1 @f2) ?_
 refine rg M (ax @f1 (ax @f2 (ax @c1 @hb))) ?_
 refine Jd.seq ?_
 refine rg M @hn ?_
 refine cT rfl ?_
 refine aZ M ?_
 exact Jd.retT (aA.c2 rfl rfl (by simp only [↓FG,↓FF,Ej,Nat.reduceEqDiff,↓reduceIte,Nat.reduceLT,Nat.reduceAdd,qy,qx,Bool.true_or,Bool.or_true,Nat.sub_zero,Int.toNat_natCast] <;> rfl) rfl rfl)
theorem Dl:ag Tryz.prog 13 (ae proveV):=by
 obtain ⟨E,M,c1⟩:=i3 (ae beginV) kG rfl
 refine ai (by kernel_rfl) Tryz.func13 Tryz.ntmps13 rfl ?_
 intro args v h
 obtain ⟨⟨t,o⟩,⟨ok,ho,he⟩,rfl,rfl⟩:=aB h
 dsimp only at ok ho he
 have f1:=ok.hL.ham.fn
 have f2:=ok.hL.ham.fd
 refine ⟨by simp only [rX,aE,bare,bI ok]; rfl,rfl,Nat.le_of_ble_eq_true rfl,?_⟩
 have hb:=kF ok ho
 simp only [if_neg he] at hb
 have hn:=Nw he
 unfold rX
 dsimp only
 unfold tC at hb ⊢
 rw [bS,St.of_nil]
 refine rg M (ax @f1 @f2) ?_
 refine rg M (ax @f1 (ax @f2 (ax @c1 @hb))) ?_
 refine Jd.seq ?_
 refine rg M @hn ?_
 refine cT rfl ?_
 refine aZ M ?_
 exact Jd.retT (aA.c2 rfl rfl (by simp only [↓FG,↓FF,Ej,Nat.reduceEqDiff,↓reduceIte,Nat.reduceLT,Nat.reduceAdd,qy,qx,Bool.true_or,Bool.or_true,Nat.sub_zero,Int.toNat_natCast] <;> rfl) rfl rfl)
def Mp (d:TD × List Int):List AV:=[.agg (tC d.1),.vw (is d.2) d.2.length,fq ((1:Int):Rat),.agg [.snil]]
theorem Hc (x y:TD × List Int)(h:Mp x = Mp y):x = y:=by
 refine hY x y ?_
 simp only [Mp,rX,List.cons.injEq,and_true] at h ⊢
 exact h
noncomputable def verifyV:=ofE Mp Jh fun _=>.b false
theorem zt:ag Tryz.prog 16 (ae verifyV):=by
 obtain ⟨E,M,c1⟩:=i3 (ae beginV) kG rfl
 refine ai (by kernel_rfl) Tryz.func16 Tryz.ntmps16 rfl ?_
 intro args v h
 obtain ⟨⟨t,o⟩,⟨ok,ho,he⟩,rfl,rfl⟩:=aB h
 dsimp only at ok ho he
 have f1:=ok.hL.ham.fn
 have f2:=ok.hL.ham.fd
 refine ⟨by simp only [Mp,aE,bare,bI ok]; rfl,rfl,Nat.le_of_ble_eq_true rfl,?_⟩
 have hb:=kF ok ho
 simp only [if_neg he] at hb
 have hn:=Nw he
 unfold Mp
 dsimp only
 unfold tC at hb ⊢
 rw [Il,St.of_nil]
 refine rg M (ax @f1 @f2) ?_
 refine rg M (ax @f1 (ax @f2 (ax @c1 @hb))) ?_
 refine Jd.seq ?_
 refine rg M @hn ?_
 refine cT rfl ?_
 refine aZ M ?_
 exact Jd.retT (aA.c1 rfl rfl (by simp only [↓FG,↓FF,Ej,Nat.reduceEqDiff,↓reduceIte,Nat.reduceLT,Nat.reduceAdd,qy,qx,Bool.true_or,Bool.or_true,Nat.sub_zero,Int.toNat_natCast] <;> rfl) rfl)
def Mr (d:TD × BD):List AV:=[.agg (tC d.1),.agg (bC d.2)]
theorem Ip (x y:TD × BD)(h:Mr x = Mr y):x = y:=by
 obtain ⟨a,b⟩:=x; obtain ⟨a',b'⟩:=y
 simp only [Mr,List.cons.injEq,and_true] at h
 rw [qG _ _ (vy h.1),qk b b' (by simp only [Gm,h.2])]
def Ou (d:TD × BD):Prop:=d.1.Ok/\d.2.r.Ok/\lO d.1 = 0/\f9 d.2 = false
noncomputable def newV:=ofE Mr Ou fun _=>.tup [.pnil,.i .i64 2]
theorem JI:ag Tryz.prog 66 (ae newV):=by
 obtain ⟨E,M,c1,c2⟩:=y8 (ae checkTV) (ae wrongV) ⟨uo,Gv⟩ rfl
 refine ai (by kernel_rfl) Tryz.func66 Tryz.ntmps66 rfl ?_
 intro args v h
 obtain ⟨⟨t,b⟩,⟨ok,okb,he,hw⟩,rfl,rfl⟩:=aB h
 dsimp only at ok okb he hw
 have f1:=ok.hL.ham.fn
 have f2:=ok.hL.ham.fd
 have f3:=okb.fn
 have f4:=okb.fd
 refine ⟨by simp only [Mr,bC,aE,bare,bI ok,okb.bn,okb.bd]; rfl,rfl,Nat.le_of_ble_eq_true rfl,?_⟩
 have hc:=tU ok
 have hww:∀ s,ae wrongV [.agg (bC b)] s = some (.b true,s):=fun s=>by rw [show true = !f9 b by rw [hw]; rfl]; exact bD qk okb s
 rw [he] at hc
 unfold Mr
 dsimp only
 unfold tC at hc ⊢
 unfold bC at hww ⊢
 rw [bS,St.of_nil]
 refine rg M (ax @f1 (ax @f2 (ax @f3 @f4))) ?_
 refine Jd.seq ?_
 refine rg M (ax @f1 (ax @f2 (ax @c1 @hc))) ?_
 refine rg M (ax @decide_true @Bool.not_true) ?_
 refine lF rfl ?_
 refine Jd.seq ?_
 refine rg M (ax @f3 (ax @f4 (ax @c2 @hww))) ?_
 refine cT rfl ?_
 refine aZ M ?_
 exact Jd.retT (aA.two rfl rfl rfl rfl)
def so (d:TD × BD × List Int):List AV:=[.agg (tC d.1),.agg (bC d.2.1),.vw (is d.2.2) d.2.2.length]
theorem xO (x y:TD × BD × List Int)(h:so x = so y):x = y:=by
 obtain ⟨a,b,c⟩:=x; obtain ⟨a',b',c'⟩:=y
 simp only [so,List.cons.injEq,AV.vw.injEq,and_true] at h
 rw [qG _ _ (vy h.1),qk b b' (by simp only [Gm,h.2.1]),oB h.2.2.1]
def gO (t:TD) (b:BD) (o:List Int):Int:=if bx t o ≠ 0 then bx t o else if f9 b = true then 0 else 2
def Nx (d:TD × BD × List Int):Prop:=d.1.Ok/\d.2.1.r.Ok/\d.2.2.length <= 1000000/\gO d.1 d.2.1 d.2.2 ≠ 0
def KI:AV:=.agg [.b false,.snil,.snil,.b false,.snil,.snil,.b false,.snil,.snil,.i .i64 0,.b false]
noncomputable def decodeV:=ofE so Nx fun d=>.tup [KI,.i .i64 (gO d.1 d.2.1 d.2.2)]
theorem zp {t:TD} {o:List Int} (h:bx t o = 0):lO t = 0:=by
 unfold bx at h
 unfold lO
 split at h
 ·cases h
 next h1 =>
 simp only [Bool.or_eq_true,not_or] at h1
 rw [if_neg h1.1]
 split at h
 ·next h2=>simp only [Bool.and_eq_true] at h2; rw [if_pos h2.1]
 cases h
theorem zC:ag Tryz.prog 18 (ae decodeV):=by
 obtain ⟨E,M,c1,c2⟩:=y8 (ae beginV) (ae newV) ⟨kG,JI⟩ rfl
 refine ai (by kernel_rfl) Tryz.func18 Tryz.ntmps18 rfl ?_
 intro args v h
 obtain ⟨⟨t,b,o⟩,⟨ok,okb,ho,he⟩,rfl,rfl⟩:=aB h
 dsimp only at ok okb ho he
 have f1:=ok.hL.ham.fn
 have f2:=ok.hL.ham.fd
 have f3:=okb.fn
 have f4:=okb.fd
 refine ⟨by simp only [so,bC,aE,bare,bI ok,okb.bn,okb.bd]; rfl,rfl,Nat.le_of_ble_eq_true rfl,?_⟩
 have hb:=kF ok ho
 have hnew:bx t o = 0->f9 b = false->∀ s,ae newV [.agg (tC t),.agg (bC b)] s = some (.tup [.pnil,.i .i64 2],s):=fun h h2=>bD (d:=(t,b)) Ip ⟨ok,okb,zp h,h2⟩
 unfold so
 dsimp only
 unfold tC at hb hnew ⊢
 unfold bC at hnew ⊢
 rw [p8,St.of_nil]
 by_cases h0:bx t o = 0
 ·rw [h0,if_pos rfl] at hb
  have hw:f9 b = false:=by
   cases h:f9 b with
   | false=>rfl
   | true=>exact absurd (by unfold gO; rw [h0,h]; rfl) he
  have hd:gO t b o = 2:=by unfold gO; rw [h0,hw]; rfl
  have hnew:=hnew h0 hw
  refine rg M (ax @f1 (ax @f2 (ax @f3 @f4))) ?_
  refine Jd.seq ?_
  refine rg M (ax @f1 (ax @f2 (ax @c1 @hb))) ?_
  refine rg M (ax @decide_true @Bool.not_true) ?_
  refine lF rfl ?_
  refine rg M (ax @f1 (ax @f2 (ax @f3 (ax @f4 (ax @c2 @hnew))))) ?_
  refine Jd.seq ?_
  refine aZ M ?_
  refine Jd.cnd rfl (fun _=>?_) (fun h=>by simp at h)
  refine aZ M ?_
  rw [hd]
  exact Jd.retT (aA.c2 rfl rfl (by simp only [↓FG,↓FF,Ej,Nat.reduceEqDiff,↓reduceIte,Nat.reduceLT,Nat.reduceAdd,qy,qx,Bool.true_or,Bool.or_true,Nat.sub_zero,Int.toNat_natCast] <;> rfl) rfl rfl)
 rw [if_neg h0] at hb
 have hn:=Nw h0
 have hd:gO t b o = bx t o:=by unfold gO; rw [if_pos h0]
 refine rg M (ax @f1 (ax @f2 (ax @f3 @f4))) ?_
 refine Jd.seq ?_
 refine rg M (ax @f1 (ax @f2 (ax @c1 @hb))) ?_
 refine rg M @hn ?_
 refine cT rfl ?_
 refine aZ M ?_
 rw [hd]
 exact Jd.retT (aA.c2 rfl rfl (by simp only [↓FG,↓FF,Ej,Nat.reduceEqDiff,↓reduceIte,Nat.reduceLT,Nat.reduceAdd,qy,qx,Bool.true_or,Bool.or_true,Nat.sub_zero,Int.toNat_natCast] <;> rfl) rfl rfl)
def RF.Dx (x:RF):Prop:=xM x.n = true/\xM x.d = true
def wD (x:RF):Bool:=decide (xf x.n <= 1) && decide (xf x.d <= 1)
def eK (l:List RF):Bool:=l.all wD
theorem RF.Dx.bare {x:RF} (h:x.Dx):aE (rC x) = true:=by simp only [rC,aE,Go.Proofs.YtkdhppimhdemjaaGreat.bare,(bv h.1).1,(bv h.2).1]; rfl
theorem RF.Dx.flat {x:RF} (h:x.Dx):(rC x).all Go.Proofs.YtkdhppimhdemjaaGreat.flat = true:=by simp only [rC,List.all_cons,(bv h.1).2,(bv h.2).2]; rfl
def wq (l:List RF):List AV:=[bF l]
theorem wm (x y:List RF)(h:wq x = wq y):x = y:=by
 simp only [wq,List.cons.injEq,and_true] at h
 exact gI h
def M6 (l:List RF):Prop:=(∀ x ∈ l,x.Dx)/\l.length <= 9223372036854775807
noncomputable def plainV:=ofE wq M6 fun l=>.b (eK l)
theorem yc:ag Tryz.prog 6 (ae plainV):=by
 obtain ⟨E,M⟩:=qX
 refine ai (by kernel_rfl) Tryz.func6 Tryz.ntmps6 rfl ?_
 intro args v h
 obtain ⟨l,⟨ok,hl⟩,rfl,rfl⟩:=aB h
 refine ⟨rfl,rfl,Nat.le_of_ble_eq_true rfl,?_⟩
 unfold wq
 rw [bT,St.of_nil]
 refine aZ M ?_
 refine Jd.seq ?_
 refine aZ M ?_
 refine Jd.loopS l.length (fun i=>[(3,.i .i64 (i:Int)),(0,bF l)]) (fun i=>(l.take i).all wD = true) ⟨rfl,rfl,trivial⟩ rfl ?_
 intro i hi hj Q' hex hret hgo
 refine Jd.seq ?_
 refine aZ M ?_
 refine Jd.cnd rfl (fun h1=>?_) (fun h1=>?_)
 rotate_left
 ·refine Jd.exitT (hex _ _ ?_)
  show Jb _ _ _ _ _ _
  have hi2:i = l.length:=by have:=of_decide_eq_false h1; omega
  rw [hi2,List.take_length] at hj
  refine aZ M ?_
  exact Jd.ret (aA.one rfl rfl (by show _ = AV.b (l.all wD); rw [hj]))
 have hil:i < l.length:=by have:=of_decide_eq_true h1; omega
 obtain ⟨x,hx⟩:∃ r,l[i]? = some r:=⟨_,List.getElem?_eq_getElem hil⟩
 obtain ⟨d1,d2⟩:=ok x (List.mem_of_getElem? hx)
 have hn1:=xL d1
 have hn2:=xL d2
 obtain ⟨b1,e1⟩:∃ b,decide ((xf x.n:Int) > 1) = b:=⟨_,rfl⟩
 obtain ⟨b2,e2⟩:∃ b,decide ((xf x.d:Int) > 1) = b:=⟨_,rfl⟩
 have hp:wD x = (!b1 && !b2):=by
  unfold wD
  rw [<- e1,<- e2,<- decide_not,<- decide_not]
  congr 1
  ·exact decide_eq_decide.2 (by omega)
  exact decide_eq_decide.2 (by omega)
 refine Jd.skipT ?_
 refine Jd.seq (Jd.block ?_)
 clear hex
 rcases dP b1 b2 true true true with rfl | ⟨rfl,rfl⟩ | ⟨rfl,rfl,_⟩ | ⟨_,_,h,_⟩ | ⟨_,_,h,_⟩ | ⟨_,_,h,_⟩
 rotate_left 3
 iterate 3 (· cases h)
 iterate 2 (· (refine rg M (ax @Int.toNat_natCast (ax (Ke hx) (ax (Kf hx) (ax @hn1 (ax @hn2 (ax @e1 @e2)))))) ?_; refine cT rfl ?_; refine aZ M ?_; refine Jd.ret ?_; refine hret _ _ ?_; exact iE.r (aA.one rfl rfl (by show _ = AV.b (l.all wD); rw [cf hx hp]))))
 refine rg M (ax @Int.toNat_natCast (ax (Ke hx) (ax (Kf hx) (ax @hn1 (ax @hn2 (ax @e1 @e2)))))) ?_
 refine cF rfl ?_
 refine Jd.skip ?_
 refine dX.norm ?_
 show Jb _ _ _ _ _ _
 refine nZ M ?_
 exact hgo _ ⟨rfl,rfl,trivial⟩ hil (cI hx hj hp)
theorem ol {x:RF} (h:x.Dx) {m:List (Nat × Option AO)} {nx o:Nat} {t:TypeId} {op:Bool} (ho:lD m o = some (.cells [.b x.neg,x.n,x.d] t op)):fB plainV [.sl o 0 1 1] (St.of m nx) = some (.b (wD x),St.of m nx):=by
 have h1:lR (St.of m nx) [.sl o 0 1 1] = some (wq [x]):=by
  have hb:aE [.b x.neg,x.n,x.d] = true:=h.bare
  simp only [lR,pt,St.of_get,ho,hb]
  rfl
 refine nD h1 ?_ rfl
 have:=jr (f:=fun l=>AV.b (eK l)) wm (d:=[x]) (show M6 [x] from ⟨fun y hy=>by rw [List.mem_singleton.1 hy]; exact h,by simp⟩)
 rw [show plainV (wq [x]) = some (.b (eK [x])) from this]
 simp [eK]
end Go.Proofs.YtkdhppimhdemjaaGreat
