/- Lemmas on the way: Ref16, Jd4, Ref17, Ref18, Ref19. -/
import Derived.Test.YtdehimgccmbfkaaGreatT27
set_option linter.all false
set_option maxRecDepth 1000000
set_option maxHeartbeats 32000000
namespace Go.Proofs.YtdehimgccmbfkaaGreat
open Go.RowKit
theorem subR (w:World) (v v':Value) (q r:Rat) (k:Nat)(h:FracAt k w v q) (h':FracAt k w v' r)(h0:0 < k)(hk:k <= 549755813888) :
  Calls Tryz.prog 110 #[v,v'] w fun e w'=>∃ u,e = .returned u/\CanNew w.heap.size w' u (q - r)/\Below w.heap.size w w':=by
 have H1:=Lib.hid h
 have H2:=Lib.hid h'
 have Q1:=Lib.hid (h.qb h0)
 have Q2:=Lib.hid (h'.qb h0)
 obtain ⟨s,vn,vd,rfl⟩:=h.shape
 obtain ⟨t,vn',vd',rfl⟩:=h'.shape
 clear h h'
 rw [Rat.sub_eq_add_neg]
 go_enter Tryz.func110,Tryz.ntmps110
 go_wp2_with fail
 obtain ⟨W,hW,P0,P1,P2,PB,Phs⟩:=box3 w 31 [.bool s,vn,vd] 31 [.bool t,vn',vd'] 31 [.bool false,.slice none 0 0,.slice none 0 0]
 rw [<- hW]
 clear hW
 obtain ⟨p0,p1,p2,_,_,_⟩:=P0.out.three
 obtain ⟨q0,q1,q2,_,_,_⟩:=P1.out.three
 go_region_held3 (fun w'=>w'.cell? ⟨w.heap.size,0,none⟩ = some (.bool s)/\w'.cell? ⟨w.heap.size,1,none⟩ = some (vn)/\w'.cell? ⟨w.heap.size,2,none⟩ = some (vd)/\w'.cell? ⟨w.heap.size + 1,0,none⟩ = some (.bool t)/\w'.cell? ⟨w.heap.size + 1,1,none⟩ = some (vn')/\w'.cell? ⟨w.heap.size + 1,2,none⟩ = some (vd')) (first | assumption | (refine six_box3 hS ?_ ?_ _ _ _ <;> omega) | go_keep)
  (first
   | (go_at_call 161; refine (negR _ _ r k (H2.out.below (PB.out.trans (below_drew_self _))) h0 (by omega)).mono ?_; rintro e w1 ⟨v1,rfl,t1,hb1⟩; have S1:Hid (Below W.heap.size W w1):=Lib.hid (by first | exact hb1 | exact below_of_drew hb1); have hs1:W.heap.size <= w1.heap.size:=S1.out.size; have T1:=Lib.hid t1; have hS:=six (P0.out.below' S1.out) (P1.out.below' S1.out); clear t1 hb1)
   | (go_at_call 22; refine (addR w1 _ _ q (-r) k ((H1.out.below PB.out).below S1.out) (T1.out.at_.frac Q2.out.neg (by omega)) h0 hk).mono ?_; rintro e w2 ⟨v2,rfl,t2,hb2⟩; have S2:Hid (Below w1.heap.size w1 w2):=Lib.hid hb2; have hs2:w1.heap.size <= w2.heap.size:=S2.out.size; have T2:=Lib.hid t2; have hS:=six (P0.out.below' (bcomp S1.out S2.out)) (P1.out.below' (bcomp S1.out S2.out)); obtain ⟨A,m,c,A',m',c',rfl,ta,tb,tc,td⟩:=t2.open_; obtain ⟨r0,r1,r2,z0,z1,z2⟩:=(P2.out.below' (bcomp S1.out S2.out)).three; have TA:=Lib.hid ta; have TB:=Lib.hid tb; have TC:=Lib.hid tc; have TD:=Lib.hid td; clear ta tb tc td; clear t2 hb2))
 go_wp2_with fail
 refine bodyPost_ret (v:=.agg #[.bool (isNeg (q + -r)),.slice A m c,.slice A' m' c']) (by simp [results,Tryz.results110,go_sem,r0,r1,r2]) rfl ⟨_,rfl,?_,below_box3 (PB.out.trans (((bcomp S1.out S2.out)).mono (by omega))) (by omega) _ _ _⟩
 exact (CanNew.box3 TA.out TB.out TC.out TD.out (by omega) _ _ _).mono (by omega)

theorem cmpR (w:World) (v v':Value) (q r:Rat) (k:Nat)(h:FracAt k w v q) (h':FracAt k w v' r)(h0:0 < k)(hk:k <= 549755813888) :
  Calls Tryz.prog 40 #[v,v'] w fun e w'=>e = .returned (.int .i64 (sgnI (q - r)))/\Below w.heap.size w w':=by
 have H1:=Lib.hid h
 have H2:=Lib.hid h'
 have Q1:=Lib.hid (h.qb h0)
 have Q2:=Lib.hid (h'.qb h0)
 obtain ⟨s,vn,vd,rfl⟩:=h.shape
 obtain ⟨t,vn',vd',rfl⟩:=h'.shape
 clear h h'
 have QS:Hid (QB (k + k + 1) (q - r)):=Lib.hid (by rw [Rat.sub_eq_add_neg]; exact Q1.out.add Q2.out.neg)
 go_enter Tryz.func40,Tryz.ntmps40
 go_wp2_with fail
 obtain ⟨W,hW,P0,P1,PB,Phs⟩:=box2 w 31 [.bool s,vn,vd] 31 [.bool t,vn',vd']
 rw [<- hW]
 clear hW
 obtain ⟨p0,p1,p2,_,_,_⟩:=P0.out.three
 obtain ⟨q0,q1,q2,_,_,_⟩:=P1.out.three
 go_wp2_with fail
 refine (subR W _ _ q r k (H1.out.below PB.out) (H2.out.below PB.out) h0 hk).mono ?_
 rintro e w1 ⟨v1,rfl,t1,hb1⟩
 have T1:=Lib.hid t1
 have S1:Hid (Below W.heap.size W w1):=Lib.hid hb1
 have hs1:W.heap.size <= w1.heap.size:=hb1.size
 clear t1 hb1
 go_wp2_with fail
 refine (signR w1 v1 (q - r) (k + k + 1) (T1.out.at_.frac QS.out (by omega)) (by omega)).mono ?_
 rintro e w2 ⟨rfl,hb2⟩
 have S2:Hid (Below w1.heap.size w1 w2):=Lib.hid hb2
 have hs2:w1.heap.size <= w2.heap.size:=hb2.size
 clear hb2
 go_wp2_with fail
 go_ret
 exact ⟨rfl,PB.out.trans (((bcomp S1.out S2.out)).mono (by omega))⟩

def dnQ (q:Rat):Nat:=if q.den = 1 then 0 else q.den
theorem can_eq (q r:Rat):q = r ↔ isNeg q = isNeg r/\q.num.natAbs = r.num.natAbs/\dnQ q = dnQ r:=by
 constructor
 ·intro h
  subst h
  exact ⟨rfl,rfl,rfl⟩
 rintro ⟨h1,h2,h3⟩
 apply Rat.ext
 ·rw [num_eq q,num_eq r,h1,h2]
 have a:=q.den_pos
 have b:=r.den_pos
 unfold dnQ at h3
 split at h3 <;> split at h3 <;> omega
theorem sameT {w:World} {va vb:Value} {a b:Nat} (ha:NatAt w va a)(hb:NatAt w vb b)(h:a = b):Calls Tryz.prog 80 #[va,vb] w fun e w'=>e = .returned (.bool true)/\Below w.heap.size w w':=by
 refine (sameDigitsR w va vb a b ha hb).mono ?_
 rw [decide_eq_true h]
 exact fun _ _ ⟨h1,h2⟩=>⟨h2,h1⟩
theorem sameF {w:World} {va vb:Value} {a b:Nat} (ha:NatAt w va a)(hb:NatAt w vb b)(h:a ≠ b):Calls Tryz.prog 80 #[va,vb] w fun e w'=>e = .returned (.bool false)/\Below w.heap.size w w':=by
 refine (sameDigitsR w va vb a b ha hb).mono ?_
 rw [decide_eq_false h]
 exact fun _ _ ⟨h1,h2⟩=>⟨h2,h1⟩

theorem sameR (w:World) (v v':Value) (q r:Rat)(h:CanAt w v q) (h':CanAt w v' r) :
  Calls Tryz.prog 23 #[v,v'] w fun e w'=>e = .returned (.bool (decide (q = r)))/\Below w.heap.size w w':=by
 have HX:=Lib.hid (can_eq q r)
 obtain ⟨vn,vd,rfl,n1,n2⟩:=h
 obtain ⟨vn',vd',rfl,m1,m2⟩:=h'
 have N1:=Lib.hid n1
 have N2:=Lib.hid (show NatAt w vd (dnQ q) from n2)
 have M1:=Lib.hid m1
 have M2:=Lib.hid (show NatAt w vd' (dnQ r) from m2)
 clear n1 n2 m1 m2
 generalize isNeg q = s at *
 generalize isNeg r = t at *
 by_cases hst:s = t
 ·subst hst
  by_cases hn:q.num.natAbs = r.num.natAbs
  ·by_cases hd:dnQ q = dnQ r
   ·have HB:Hid (decide (q = r) = true):=Lib.hid (decide_eq_true (HX.out.2 ⟨rfl,hn,hd⟩))
    have HN:=Lib.hid hn
    have HD:=Lib.hid hd
    clear hn hd
    go_enter Tryz.func23,Tryz.ntmps23
    go_wp2_with fail
    obtain ⟨W,hW,P0,P1,PB,Phs⟩:=box2 w 31 [.bool s,vn,vd] 31 [.bool s,vn',vd']
    rw [<- hW]
    clear hW
    obtain ⟨p0,p1,p2,_,_,_⟩:=P0.out.three
    obtain ⟨q0,q1,q2,_,_,_⟩:=P1.out.three
    go_wp2_with fail
    refine (sameT (N1.out.below PB.out) (M1.out.below PB.out) HN.out).mono ?_
    rintro e w1 ⟨rfl,hb1⟩
    have S1:Hid (Below W.heap.size W w1):=Lib.hid hb1
    have hs1:W.heap.size <= w1.heap.size:=hb1.size
    obtain ⟨p0',p1',p2',_,_,_⟩:=(P0.out.below' S1.out).three
    obtain ⟨q0',q1',q2',_,_,_⟩:=(P1.out.below' S1.out).three
    clear hb1
    go_wp2_with fail
    refine (sameT ((N2.out.below PB.out).below S1.out) ((M2.out.below PB.out).below S1.out) HD.out).mono ?_
    rintro e w2 ⟨rfl,hb2⟩
    have S2:Hid (Below w1.heap.size w1 w2):=Lib.hid hb2
    have hs2:w1.heap.size <= w2.heap.size:=hb2.size
    clear hb2
    go_wp2_with fail
    go_ret
    exact ⟨ret_bool HB.out.symm,PB.out.trans (((bcomp S1.out S2.out)).mono (by omega))⟩
   have HB:Hid (decide (q = r) = false):=Lib.hid (decide_eq_false (fun e=>hd (HX.out.1 e).2.2))
   have HN:=Lib.hid hn
   have HD:=Lib.hid hd
   clear hn hd
   go_enter Tryz.func23,Tryz.ntmps23
   go_wp2_with fail
   obtain ⟨W,hW,P0,P1,PB,Phs⟩:=box2 w 31 [.bool s,vn,vd] 31 [.bool s,vn',vd']
   rw [<- hW]
   clear hW
   obtain ⟨p0,p1,p2,_,_,_⟩:=P0.out.three
   obtain ⟨q0,q1,q2,_,_,_⟩:=P1.out.three
   go_wp2_with fail
   refine (sameT (N1.out.below PB.out) (M1.out.below PB.out) HN.out).mono ?_
   rintro e w1 ⟨rfl,hb1⟩
   have S1:Hid (Below W.heap.size W w1):=Lib.hid hb1
   have hs1:W.heap.size <= w1.heap.size:=hb1.size
   obtain ⟨p0',p1',p2',_,_,_⟩:=(P0.out.below' S1.out).three
   obtain ⟨q0',q1',q2',_,_,_⟩:=(P1.out.below' S1.out).three
   clear hb1
   go_wp2_with fail
   refine (sameF ((N2.out.below PB.out).below S1.out) ((M2.out.below PB.out).below S1.out) HD.out).mono ?_
   rintro e w2 ⟨rfl,hb2⟩
   have S2:Hid (Below w1.heap.size w1 w2):=Lib.hid hb2
   have hs2:w1.heap.size <= w2.heap.size:=hb2.size
   clear hb2
   go_wp2_with fail
   go_ret
   exact ⟨ret_bool HB.out.symm,PB.out.trans (((bcomp S1.out S2.out)).mono (by omega))⟩
  have HB:Hid (decide (q = r) = false):=Lib.hid (decide_eq_false (fun e=>hn (HX.out.1 e).2.1))
  have HN:=Lib.hid hn
  clear hn
  go_enter Tryz.func23,Tryz.ntmps23
  go_wp2_with fail
  obtain ⟨W,hW,P0,P1,PB,Phs⟩:=box2 w 31 [.bool s,vn,vd] 31 [.bool s,vn',vd']
  rw [<- hW]
  clear hW
  obtain ⟨p0,p1,p2,_,_,_⟩:=P0.out.three
  obtain ⟨q0,q1,q2,_,_,_⟩:=P1.out.three
  go_wp2_with fail
  refine (sameF (N1.out.below PB.out) (M1.out.below PB.out) HN.out).mono ?_
  rintro e w1 ⟨rfl,hb1⟩
  have S1:Hid (Below W.heap.size W w1):=Lib.hid hb1
  have hs1:W.heap.size <= w1.heap.size:=hb1.size
  obtain ⟨p0',p1',p2',_,_,_⟩:=(P0.out.below' S1.out).three
  obtain ⟨q0',q1',q2',_,_,_⟩:=(P1.out.below' S1.out).three
  clear hb1
  go_wp2_with fail
  go_ret
  exact ⟨ret_bool HB.out.symm,PB.out.trans ((S1.out).mono (by omega))⟩
 have HB:Hid (decide (q = r) = false):=Lib.hid (decide_eq_false (fun e=>hst (HX.out.1 e).1))
 have hst':(s == t) = false:=by cases s <;> cases t <;> simp_all
 clear hst
 go_enter Tryz.func23,Tryz.ntmps23
 go_wp2_with fail
 obtain ⟨W,hW,P0,P1,PB,Phs⟩:=box2 w 31 [.bool s,vn,vd] 31 [.bool t,vn',vd']
 rw [<- hW]
 clear hW
 obtain ⟨p0,p1,p2,_,_,_⟩:=P0.out.three
 obtain ⟨q0,q1,q2,_,_,_⟩:=P1.out.three
 go_wp2_with fail
 go_ret
 exact ⟨ret_bool HB.out.symm,PB.out⟩
section
def Done (P:Program) (fn:Func) (Q:AV->St->Prop):Ex->Fr->St->Prop:=fun ex fr s =>
 (match ex with | .exit _=>False | _=>True)/\marksOk s fr.ms = true/\∃ l,resAs P fr.T (fr.ms.foldl St.drop s) fn.results.toList = some l/\(match l with | [v]=>Q v (fr.ms.foldl St.drop s) | l=>Q (.tup l) (fr.ms.foldl St.drop s))
section
variable {P:Program} {X:Env}
theorem calls_of_jd {bb:Nat} {f:FuncId} {fn:Func} {c:Code} (hfn:P.funcs[f]? = some fn)(hc:fn.body = some c) {args:List AV} (hlen:args.length <= fn.ntmps) {s:St} {Q:AV->St->Prop} (h:Jb bb P c ⟨f,fn.ntmps,Tr.ofList args,none,[]⟩ s (Done P fn Q))
  {μ:Mu} {w:World} {vs:List Value} (n:Nat) (hR:Rel μ s w) (hvs:VRs μ args vs) (hF:∀ o,s.nx <= o->μ o = none) :
  CallsIn Fence.wide n P f vs.toArray w fun e w'=>∃ v v' s' μ',e = .returned v'/\Q v s'/\Rel μ' s' w'/\Fp bb μ s w μ' s' w'/\VR μ' v v':=by
 have hvl:=hvs.length
 refine callsIn_of_wp_marks (F:=Fence.wide) hfn hc trivial ?_ rfl
 have hT0:TR μ fn.ntmps (Tr.ofList args) (vs.toArray ++ Array.replicate (fn.ntmps - vs.toArray.size) undef):=by
  refine ⟨by simp; omega,fun t x hx=>?_⟩
  rw [Tr.get_ofList] at hx
  obtain ⟨y,h1,h2⟩:=hvs.get hx
  refine ⟨y,?_,h2⟩
  have hlt:=(List.getElem?_eq_some_iff.1 h1).1
  rw [Array.getElem?_append]
  rw [if_pos (by simpa using hlt)]
  simpa using h1
 refine h n μ w { tmps:=vs.toArray ++ Array.replicate (fn.ntmps - vs.toArray.size) undef,defers:=[] } none _ ⟨hR,hT0,by simp [DM],rfl,hF⟩ ?_
 intro ex fr s1 μ1 w1 a1 hq hA1 f1
 obtain ⟨hex,hmk,l,hres,hQ⟩:=hq
 have post:LeavesInM Fence.wide n P fn a1.tmps (fun e w'=>∃ v v' s' μ',e = .returned v'/\Q v s'/\Rel μ' s' w'/\Fp bb μ s w μ' s' w'/\VR μ' v v') a1.defers .returning w1:=by
  refine leaves_ok fr.ms a1.defers s1 w1 hA1.rel hA1.dm hmk fun w2 r2 t2=>?_
  obtain ⟨m,k1,k2⟩:=res_run (P:=P) r2 hA1.tr hres
  have key:∃ v v',(results fn a1.tmps).run P w2 = .ok v' w2/\VR μ1 v v'/\Q v (fr.ms.foldl St.drop s1):=by
   rw [results_eq,Array.mapM_eq_mapM_toList]
   simp only [Sem.run_bind,Sem.run_map,k1]
   match l,hQ,k2 with
   | [v],hQ,k2 =>
    simp only [VRs] at k2
    obtain ⟨y,ys,rfl,hy,rfl⟩:=k2
    exact ⟨v,y,by simp,hy,hQ⟩
   | [],hQ,k2 =>
    simp only [VRs] at k2
    subst k2
    exact ⟨.tup [],.tuple #[],by simp,by simp [VR,VRs],hQ⟩
   | x :: y :: l,hQ,k2 =>
    have hne:m.length ≠ 1:=by rw [<- k2.length]; simp
    exact ⟨.tup (x :: y :: l),.tuple m.toArray,by simp [hne],by simp only [VR]; exact ⟨m,rfl,k2⟩,hQ⟩
  obtain ⟨v,v',q1,q2,q3⟩:=key
  exact ⟨v',q1,v,v',_,μ1,rfl,q3,r2,f1.trans t2.fp,q2⟩
 cases ex with
 | normal=>exact post
 | ret=>exact post
 | exit id=>exact hex.elim

theorem Rel.below {μ:Mu} {s:St} {w w':World} (h:Rel μ s w)(hb:Below w.heap.size w w'):Rel μ s w':=by
 have lt:∀ o x p',s.h.get o = some x->μ o = some (.at_ p')->p'.blk < w.heap.size:=fun o x p' e m=>by
  obtain ⟨b,hb⟩:=(h.obj o x e (by rw [m]; simp)).at_ m
  exact (Array.getElem?_eq_some_iff.1 hb).1
 exact ⟨⟨fun o x e m=>(h.obj o x e m).keep (Sub.refl μ) hb.size (fun p hp=>hb.block _ (lt o x p e hp)) (fun A m c _ ad _ _ hlt=>hb.block _ hlt),h.inj,h.nat,h.wf⟩,
  fun b i v hv=>let ⟨h1,h2,h3⟩:=h.fz b i v hv; ⟨Nat.lt_of_lt_of_le h1 hb.size,by rw [<- h2]; exact World.cell?_of_block (w:=w) (hb.block b h1),h3⟩⟩
theorem Stp.below (μ:Mu) (s:St) {w w':World} (hb:Below w.heap.size w w'):Stp μ s w μ s w' :=
 ⟨Sub.refl μ,fun _ h h'=>absurd h h',Nat.le_refl _,hb.os,hb.tape,hb.output,hb.size,fun g hg _=>hb.block g hg,fun o x p h h'=>.inr ⟨o,x,p,h,h',rfl⟩,fun _ _ _=>rfl,fun _ _ _ h=>.inl h⟩
theorem Fp.below {bb:Nat} {μ μ':Mu} {s':St} {w w':World} {k:Nat} (f:Fp bb μ ⟨.nil,k⟩ w μ' s' w'):Below w.heap.size w w':=⟨f.os,f.tape,f.output,f.size,fun g hg=>f.blk g hg fun o x p e=>by cases e⟩
theorem freeze_newD {μ:Mu} {s:St} {w w':World} (h:Rel μ s w)(hb:Below w.heap.size w w'):∃ μ',Rel μ' s w'/\Stp μ s w μ' s w'/\(∀ b i v,w.heap.size <= b->w'.cell? ⟨b,i,none⟩ = some v->μ'.fz b i = some v)/\(∀ b i v,μ.fz b i = some v->w'.cell? ⟨b,i,none⟩ = some v)/\(∀ b i v,w'.cell? ⟨b,i,none⟩ = some v->noDig v = false->μ'.fz b i = some v):=by
 have hr:=h.below hb
 have lt:∀ o x p',s.h.get o = some x->μ o = some (.at_ p')->p'.blk < w.heap.size:=fun o x p' e m=>by
  obtain ⟨b,hb⟩:=(h.obj o x e (by rw [m]; simp)).at_ m
  exact (Array.getElem?_eq_some_iff.1 hb).1
 have old:∀ b i v,μ.fz b i = some v->b < w.heap.size:=fun b i v hv=>(h.fz b i v hv).1
 have stay:∀ b i v,μ.fz b i = some v->w'.cell? ⟨b,i,none⟩ = some v:=fun b i v hv=>(hr.fz b i v hv).2.1
 obtain ⟨μ1,e1⟩:∃ μ1:Mu,μ1 = ⟨μ.loc,fun b i=>if w.heap.size <= b ∨ ∃ v,w'.cell? ⟨b,i,none⟩ = some v/\noDig v = false then w'.cell? ⟨b,i,none⟩ else μ.fz b i⟩:=⟨_,rfl⟩
 have hs:Sub μ μ1:=by subst e1; exact ⟨fun _ _ h=>h,fun b i v hv=>by simp only; split; exact stay b i v hv; exact hv⟩
 have hloc:∀ k,μ1 k = μ k:=fun k=>by subst e1; rfl
 have live:∀ b i v,w'.cell? ⟨b,i,none⟩ = some v->b < w'.heap.size:=fun b i v hv=>by
  unfold World.cell? at hv
  cases e:w'.heap[b]? with
  | none=>simp [e] at hv
  | some x=>exact (Array.getElem?_eq_some_iff.1 e).1
 refine ⟨μ1,⟨⟨fun k x e m=>?_,fun k k' x x' q q' e e' m m'=>?_,fun k n A m cc k' x' q' e m1 e' m2=>?_,hr.wf⟩,fun b i v hv=>?_⟩,⟨hs,fun o h1 h2=>absurd h1 (by rw [hloc] at h2; exact h2),Nat.le_refl _,hb.os,hb.tape,hb.output,hb.size,fun g hg _=>hb.block g hg,fun o x p e m=>.inr ⟨o,x,p,e,by rw [<- hloc]; exact m,rfl⟩,fun _ _ _=>rfl,fun b i v hv=>?_⟩,fun b i v hle hv=>?_,stay,fun b i v hv hd=>?_⟩
 ·exact (hr.obj k x e (by rw [<- hloc]; exact m)).keep hs (Nat.le_refl _) (fun _ _=>rfl) (fun _ _ _ _ _ _ _ _=>rfl)
 ·exact hr.inj k k' x x' q q' e e' (by rw [<- hloc]; exact m) (by rw [<- hloc]; exact m')
 ·exact hr.nat k n A m cc k' x' q' e (by rw [<- hloc]; exact m1) e' (by rw [<- hloc]; exact m2)
 ·subst e1
  simp only at hv
  split at hv
  ·next e =>
   refine ⟨live b i v hv,hv,fun o x p e' m eb=>?_⟩
   rcases e with e | ⟨u,hu,hd⟩
   ·have:=lt o x p e' m; omega
   exact (hr.obj o x e' (by rw [show μ o = _ from m]; simp)).nodig m ⟨i,u,by rw [eb]; exact hu,hd⟩
  exact hr.fz b i v hv
 ·subst e1
  simp only at hv
  split at hv
  ·next e =>
   rcases e with e | ⟨u,hu,hd⟩
   ·exact .inr (.inl e)
   rw [hu] at hv; cases hv; exact .inr (.inr (.inr hd))
  exact .inl hv
 ·subst e1
  simp only
  rw [if_pos (.inl hle)]
  exact hv
 subst e1
 simp only
 rw [if_pos (.inr ⟨v,hv,hd⟩)]
 exact hv
theorem freeze_new {μ:Mu} {s:St} {w w':World} (h:Rel μ s w)(hb:Below w.heap.size w w'):∃ μ',Rel μ' s w'/\Stp μ s w μ' s w'/\(∀ b i v,w.heap.size <= b->w'.cell? ⟨b,i,none⟩ = some v->μ'.fz b i = some v)/\(∀ b i v,μ.fz b i = some v->w'.cell? ⟨b,i,none⟩ = some v) :=
 let ⟨μ',a,b,c,d,_⟩:=freeze_newD h hb; ⟨μ',a,b,c,d⟩

def Answers (P:Program) (f:FuncId) (g:List AV->St->Option (AV × St)):Prop:=∀ {args s v s'},g args s = some (v,s')->(CallOk P f/\s.nx <= s'.nx/\(Wf s->Wf s'))/\∀ {μ:Mu} {w:World} {vs:List Value} (n:Nat),Rel μ s w->VRs μ args vs->Fresh μ s s' ->
  CallsIn Fence.wide n P f vs.toArray w fun e w'=>∃ v' μ',e = .returned v'/\Rel μ' s' w'/\Stp μ s w μ' s' w'/\VR μ' v v'
def enterOk (P:Program) (f:FuncId):Bool:=(P.funcs[f]?).any fun fn=>fn.body.isSome && !(fn.name == "runtime.NumGoroutine")
theorem callOk_of {f:FuncId} (h:enterOk P f = true):CallOk P f:=by
 unfold enterOk at h
 rw [Option.any_eq_true] at h
 obtain ⟨fn,h1,h2⟩:=h
 simp only [Bool.and_eq_true,Bool.not_eq_true'] at h2
 obtain ⟨c,hc⟩:=Option.isSome_iff_exists.1 h2.1
 have hname:¬ fn.name = "runtime.NumGoroutine":=by simpa using h2.2
 exact fun args w=>by simp [callFunc,h1,hname,hc]
def pureA (g:List AV->Option AV) (args:List AV) (s:St):Option (AV × St):=(g args).map fun v=>(v,s)
theorem pure_of {f:FuncId} {g:List AV->Option AV} (hco:enterOk P f = true) (H:∀ {args v},g args = some v->∀ {μ:Mu} {s:St} {w:World} {vs:List Value} (n:Nat),Rel μ s w->VRs μ args vs ->
  CallsIn Fence.wide n P f vs.toArray w fun e w'=>∃ v' μ',e = .returned v'/\Rel μ' s w'/\Stp μ s w μ' s w'/\VR μ' v v'):Answers P f (pureA g):=by
 intro args s v s' h
 unfold pureA at h
 simp only [Option.map_eq_some_iff,Prod.mk.injEq] at h
 obtain ⟨v0,h1,rfl,rfl⟩:=h
 exact ⟨⟨callOk_of hco,Nat.le_refl _,id⟩,fun n hR hv _=>H h1 n hR hv⟩
theorem answers_pure {f:FuncId} {fn:Func} {c:Code} {nt:Nat} (hco:enterOk P f = true)(hfn:P.funcs[f]? = some fn)(hn:fn.ntmps = nt)(hc:fn.body = some c) {g:List AV->Option AV}
  (H:∀ {args v},g args = some v->bares args = true/\bare v = true/\args.length <= nt/\Jd P c ⟨f,nt,Tr.ofList args,none,[]⟩ ⟨.nil,0⟩ (Done P fn fun v' _=>v' = v)):Answers P f (pureA g):=by
 subst hn
 refine pure_of hco ?_
 intro args v hg μ s w vs n hR hvs
 obtain ⟨h1,h2,h3,h4⟩:=H hg
 have hR0:Rel μ.blind ⟨.nil,0⟩ w:=⟨⟨fun o x e=>(by cases e),fun o o' x x' p p' e=>(by cases e),fun o n A m c o' x' p' e=>(by cases e),fun o _=>rfl⟩,fun b i v hv=>let ⟨a,b,_⟩:=hR.fz b i v hv; ⟨a,b,fun o x p e=>(by cases e)⟩⟩
 have hv0:VRs μ.blind args vs:=bares_vr (μ:=μ) (μ':=μ.blind) (fun _ _ _ h=>h) args h1 hvs
 refine CallsIn.mono (calls_of_jd hfn hc h3 h4 n hR0 hv0 (fun _ _=>rfl)) ?_
 rintro e w' ⟨v1,v',s',μ',rfl,rfl,hR',hfp,hv'⟩
 obtain ⟨μ2,r2,t2,n2,o2,d2⟩:=freeze_newD hR hfp.below
 refine ⟨v',μ2,rfl,r2,t2,bare_vr (μ:=μ') (fun b i u hu=>?_) _ h2 hv'⟩
 rcases hfp.fz b i u hu with h | h | ⟨o,x,p,e,_⟩ | h
 ·exact t2.sub.fz b i u h
 ·exact n2 b i u h (hR'.fz b i u hu).2.1
 ·cases e
 exact d2 b i u (hR'.fz b i u hu).2.1 h
end
end
theorem CanNew.zero_ (B:Nat) (w:World):CanNew B w (.agg #[.bool false,.slice none 0 0,.slice none 0 0]) 0 :=
 ⟨_,_,by simp [isNeg],NatAt.nil_ _,by simpa using NatAt.nil_ _,From.nil_ _,From.nil_ _⟩
theorem CanNew.parts {B:Nat} {w:World} {q:Rat} {b:Bool} {A A':Option Addr} {m c m' c':Nat} (h:CanNew B w (.agg #[.bool b,.slice A m c,.slice A' m' c']) q) :
  b = isNeg q/\NatAt w (.slice A m c) q.num.natAbs/\NatAt w (.slice A' m' c') (if q.den = 1 then 0 else q.den)/\From (.slice A m c) B/\From (.slice A' m' c') B:=by
 obtain ⟨vn,vd,e,h1,h2,h3,h4⟩:=h
 injection e with e
 have e':[Value.bool b,.slice A m c,.slice A' m' c'] = [.bool (isNeg q),vn,vd]:=congrArg Array.toList e
 simp only [List.cons.injEq,and_true,Value.bool.injEq] at e'
 obtain ⟨e0,rfl,rfl⟩:=e'
 exact ⟨e0,h1,h2,h3,h4⟩
theorem FracAt.mono {k k':Nat} {w:World} {v:Value} {q:Rat} (h:FracAt k w v q)(hk:k <= k'):FracAt k' w v q:=by
 obtain ⟨s,vn,vd,ln,ld,e,h1,h2,h3,h4,h5,h6,h7⟩:=h
 exact ⟨s,vn,vd,ln,ld,e,h1,h2,h3,Nat.lt_of_lt_of_le h4 (Nat.pow_le_pow_right (by omega) hk),Nat.lt_of_lt_of_le h5 (Nat.pow_le_pow_right (by omega) hk),h6,h7⟩
theorem CanNew.drew {B:Nat} {w:World} {v:Value} {q:Rat} (h:CanNew B w v q):CanNew B w.drew v q:=h
section
open Go.RowKit
end
def CansAt (w:World) (v:Value) (qs:List Rat):Prop:=∃ cells,Sl w 3 v qs.length cells /\
 ∀ i x,qs[i]? = some x->∃ a b c,cells[i * 3]? = some a/\cells[i * 3 + 1]? = some b/\cells[i * 3 + 2]? = some c/\CanAt w (.agg #[a,b,c]) x
theorem CansAt.below {w w':World} {v:Value} {qs:List Rat} (h:CansAt w v qs)(hb:Below w.heap.size w w'):CansAt w' v qs:=by
 obtain ⟨cs,h1,h2⟩:=h
 refine ⟨cs,h1.below hb,fun i x hx=>?_⟩
 obtain ⟨a,b,c,ha,hb',hc,hf⟩:=h2 i x hx
 exact ⟨a,b,c,ha,hb',hc,hf.below hb⟩
theorem CansAt.at_ {w:World} {v:Value} {qs:List Rat} (h:CansAt w v qs):∃ A c,v = .slice A qs.length c/\qs.length <= c/\c <= 9223372036854775807 /\
  ∀ j x,qs[j]? = some x->∃ b off u0 u1 u2,A = some ⟨b,off,none⟩/\b < w.heap.size/\w.cell? ⟨b,off + j * 3,none⟩ = some u0/\w.cell? ⟨b,off + j * 3 + 1,none⟩ = some u1 /\
   w.cell? ⟨b,off + j * 3 + 2,none⟩ = some u2/\CanAt w (.agg #[u0,u1,u2]) x:=by
 obtain ⟨cells,h1,h2⟩:=h
 obtain ⟨h0,A,c,rfl,hc,hm,h5⟩:=h1
 refine ⟨A,c,rfl,hc,by unfold maxLen at hm; omega,fun j x hx=>?_⟩
 have hj:=(List.getElem?_eq_some_iff.1 hx).1
 obtain ⟨b,off,e,hlt,hcell⟩:=h5 (by omega)
 obtain ⟨u0,u1,u2,e0,e1,e2,hf⟩:=h2 j x hx
 exact ⟨b,off,u0,u1,u2,e,hlt,hcell _ _ e0,by have:=hcell _ _ e1; rwa [<- Nat.add_assoc] at this,by have:=hcell _ _ e2; rwa [<- Nat.add_assoc] at this,hf⟩
end Go.Proofs.YtdehimgccmbfkaaGreat
