/- Lemmas on the way: Ref16, Jd4, Ref17, Ref18, Ref19. -/
import Derived.Test.YtkdhppimhdemjaaGreatU24
set_option linter.all false
set_option maxRecDepth 1000000
set_option maxHeartbeats 32000000
namespace Go.Proofs.YtkdhppimhdemjaaGreat
open Go.RowKit
theorem Oi (w:World) (v v':Value) (q r:Rat) (k:Nat)(h:az k w v q) (h':az k w v' r)(h0:0 < k)(hk:k <= 549755813888) :
  Calls Tryz.prog 104 #[v,v'] w fun e w'=>∃ u,e = .returned u/\ay w.heap.size w' u (q - r)/\Below w.heap.size w w':=by
 have H1:=Lib.hid h
 have H2:=Lib.hid h'
 have Q1:=Lib.hid (h.qb h0)
 have Q2:=Lib.hid (h'.qb h0)
 obtain ⟨s,vn,vd,rfl⟩:=h.shape
 obtain ⟨t,vn',vd',rfl⟩:=h'.shape
 clear h h'
 rw [Rat.sub_eq_add_neg]
 go_enter Tryz.func104,Tryz.ntmps104
 go_wp2_with fail
 obtain ⟨W,hW,P0,P1,P2,PB,Phs⟩:=box3 w 30 [.bool s,vn,vd] 30 [.bool t,vn',vd'] 30 [.bool false,.slice none 0 0,.slice none 0 0]
 rw [<- hW]
 clear hW
 obtain ⟨p0,p1,p2,_,_,_⟩:=P0.out.three
 obtain ⟨q0,q1,q2,_,_,_⟩:=P1.out.three
 go_region_held3 (fun w'=>w'.cell? ⟨w.heap.size,0,none⟩ = some (.bool s)/\w'.cell? ⟨w.heap.size,1,none⟩ = some (vn)/\w'.cell? ⟨w.heap.size,2,none⟩ = some (vd)/\w'.cell? ⟨w.heap.size + 1,0,none⟩ = some (.bool t)/\w'.cell? ⟨w.heap.size + 1,1,none⟩ = some (vn')/\w'.cell? ⟨w.heap.size + 1,2,none⟩ = some (vd')) (first | assumption | (refine da hS ?_ ?_ _ _ _ <;> omega) | go_keep)
  (first
   | (go_at_call 176; refine (Ov _ _ r k (H2.out.below (PB.out.trans (ak _))) h0 (by omega)).mono ?_; rintro e w1 ⟨v1,rfl,t1,hb1⟩; have S1:Hid (Below W.heap.size W w1):=Lib.hid (by first | exact hb1 | exact ah hb1); have hs1:W.heap.size <= w1.heap.size:=S1.out.size; have T1:=Lib.hid t1; have hS:=iy (P0.out.below' S1.out) (P1.out.below' S1.out); clear t1 hb1)
   | (go_at_call 161; refine (NM w1 _ _ q (-r) k ((H1.out.below PB.out).below S1.out) (T1.out.at_.frac Q2.out.neg (by omega)) h0 hk).mono ?_; rintro e w2 ⟨v2,rfl,t2,hb2⟩; have S2:Hid (Below w1.heap.size w1 w2):=Lib.hid hb2; have hs2:w1.heap.size <= w2.heap.size:=S2.out.size; have T2:=Lib.hid t2; have hS:=iy (P0.out.below' (aa S1.out S2.out)) (P1.out.below' (aa S1.out S2.out)); obtain ⟨A,m,c,A',m',c',rfl,ta,tb,tc,td⟩:=t2.open_; obtain ⟨r0,r1,r2,z0,z1,z2⟩:=(P2.out.below' (aa S1.out S2.out)).three; have TA:=Lib.hid ta; have TB:=Lib.hid tb; have TC:=Lib.hid tc; have TD:=Lib.hid td; clear ta tb tc td; clear t2 hb2))
 go_wp2_with fail
 refine bodyPost_ret (v:=.agg #[.bool (ap (q + -r)),.slice A m c,.slice A' m' c']) (by simp [results,Tryz.results104,go_sem,r0,r1,r2]) rfl ⟨_,rfl,?_,ar (PB.out.trans (((aa S1.out S2.out)).mono (by omega))) (by omega) _ _ _⟩
 exact (ay.box3 TA.out TB.out TC.out TD.out (by omega) _ _ _).mono (by omega)

theorem Jq (w:World) (v v':Value) (q r:Rat) (k:Nat)(h:az k w v q) (h':az k w v' r)(h0:0 < k)(hk:k <= 549755813888) :
  Calls Tryz.prog 37 #[v,v'] w fun e w'=>e = .returned (.int .i64 (ce (q - r)))/\Below w.heap.size w w':=by
 have H1:=Lib.hid h
 have H2:=Lib.hid h'
 have Q1:=Lib.hid (h.qb h0)
 have Q2:=Lib.hid (h'.qb h0)
 obtain ⟨s,vn,vd,rfl⟩:=h.shape
 obtain ⟨t,vn',vd',rfl⟩:=h'.shape
 clear h h'
 have QS:Hid (QB (k + k + 1) (q - r)):=Lib.hid (by rw [Rat.sub_eq_add_neg]; exact Q1.out.add Q2.out.neg)
 go_enter Tryz.func37,Tryz.ntmps37
 go_wp2_with fail
 obtain ⟨W,hW,P0,P1,PB,Phs⟩:=jz w 30 [.bool s,vn,vd] 30 [.bool t,vn',vd']
 rw [<- hW]
 clear hW
 obtain ⟨p0,p1,p2,_,_,_⟩:=P0.out.three
 obtain ⟨q0,q1,q2,_,_,_⟩:=P1.out.three
 go_wp2_with fail
 refine (Oi W _ _ q r k (H1.out.below PB.out) (H2.out.below PB.out) h0 hk).mono ?_
 rintro e w1 ⟨v1,rfl,t1,hb1⟩
 have T1:=Lib.hid t1
 have S1:Hid (Below W.heap.size W w1):=Lib.hid hb1
 have hs1:W.heap.size <= w1.heap.size:=hb1.size
 clear t1 hb1
 go_wp2_with fail
 refine (iV w1 v1 (q - r) (k + k + 1) (T1.out.at_.frac QS.out (by omega)) (by omega)).mono ?_
 rintro e w2 ⟨rfl,hb2⟩
 have S2:Hid (Below w1.heap.size w1 w2):=Lib.hid hb2
 have hs2:w1.heap.size <= w2.heap.size:=hb2.size
 clear hb2
 go_wp2_with fail
 go_ret
 exact ⟨rfl,PB.out.trans (((aa S1.out S2.out)).mono (by omega))⟩

def Lz (q:Rat):Nat:=if q.den = 1 then 0 else q.den
theorem LL (q r:Rat):q = r ↔ ap q = ap r/\q.num.natAbs = r.num.natAbs/\Lz q = Lz r:=by
 constructor
 ·intro h
  subst h
  exact ⟨rfl,rfl,rfl⟩
 rintro ⟨h1,h2,h3⟩
 apply Rat.ext
 ·rw [f6 q,f6 r,h1,h2]
 have a:=q.den_pos
 have b:=r.den_pos
 unfold Lz at h3
 split at h3 <;> split at h3 <;> omega
theorem Ez {w:World} {va vb:Value} {a b:Nat} (ha:ab w va a)(hb:ab w vb b)(h:a = b):Calls Tryz.prog 88 #[va,vb] w fun e w'=>e = .returned (.bool true)/\Below w.heap.size w w':=by
 refine (pg w va vb a b ha hb).mono ?_
 rw [decide_eq_true h]
 exact fun _ _ ⟨h1,h2⟩=>⟨h2,h1⟩
theorem Kc {w:World} {va vb:Value} {a b:Nat} (ha:ab w va a)(hb:ab w vb b)(h:a ≠ b):Calls Tryz.prog 88 #[va,vb] w fun e w'=>e = .returned (.bool false)/\Below w.heap.size w w':=by
 refine (pg w va vb a b ha hb).mono ?_
 rw [decide_eq_false h]
 exact fun _ _ ⟨h1,h2⟩=>⟨h2,h1⟩

theorem MX (w:World) (v v':Value) (q r:Rat)(h:cJ w v q) (h':cJ w v' r) :
  Calls Tryz.prog 30 #[v,v'] w fun e w'=>e = .returned (.bool (decide (q = r)))/\Below w.heap.size w w':=by
 have HX:=Lib.hid (LL q r)
 obtain ⟨vn,vd,rfl,n1,n2⟩:=h
 obtain ⟨vn',vd',rfl,m1,m2⟩:=h'
 have N1:=Lib.hid n1
 have N2:=Lib.hid (show ab w vd (Lz q) from n2)
 have M1:=Lib.hid m1
 have M2:=Lib.hid (show ab w vd' (Lz r) from m2)
 clear n1 n2 m1 m2
 generalize ap q = s at *
 generalize ap r = t at *
 by_cases hst:s = t
 ·subst hst
  by_cases hn:q.num.natAbs = r.num.natAbs
  ·by_cases hd:Lz q = Lz r
   ·have HB:Hid (decide (q = r) = true):=Lib.hid (decide_eq_true (HX.out.2 ⟨rfl,hn,hd⟩))
    have HN:=Lib.hid hn
    have HD:=Lib.hid hd
    clear hn hd
    go_enter Tryz.func30,Tryz.ntmps30
    go_wp2_with fail
    obtain ⟨W,hW,P0,P1,PB,Phs⟩:=jz w 30 [.bool s,vn,vd] 30 [.bool s,vn',vd']
    rw [<- hW]
    clear hW
    obtain ⟨p0,p1,p2,_,_,_⟩:=P0.out.three
    obtain ⟨q0,q1,q2,_,_,_⟩:=P1.out.three
    go_wp2_with fail
    refine (Ez (N1.out.below PB.out) (M1.out.below PB.out) HN.out).mono ?_
    rintro e w1 ⟨rfl,hb1⟩
    have S1:Hid (Below W.heap.size W w1):=Lib.hid hb1
    have hs1:W.heap.size <= w1.heap.size:=hb1.size
    obtain ⟨p0',p1',p2',_,_,_⟩:=(P0.out.below' S1.out).three
    obtain ⟨q0',q1',q2',_,_,_⟩:=(P1.out.below' S1.out).three
    clear hb1
    go_wp2_with fail
    refine (Ez ((N2.out.below PB.out).below S1.out) ((M2.out.below PB.out).below S1.out) HD.out).mono ?_
    rintro e w2 ⟨rfl,hb2⟩
    have S2:Hid (Below w1.heap.size w1 w2):=Lib.hid hb2
    have hs2:w1.heap.size <= w2.heap.size:=hb2.size
    clear hb2
    go_wp2_with fail
    go_ret
    exact ⟨aD HB.out.symm,PB.out.trans (((aa S1.out S2.out)).mono (by omega))⟩
   have HB:Hid (decide (q = r) = false):=Lib.hid (decide_eq_false (fun e=>hd (HX.out.1 e).2.2))
   have HN:=Lib.hid hn
   have HD:=Lib.hid hd
   clear hn hd
   go_enter Tryz.func30,Tryz.ntmps30
   go_wp2_with fail
   obtain ⟨W,hW,P0,P1,PB,Phs⟩:=jz w 30 [.bool s,vn,vd] 30 [.bool s,vn',vd']
   rw [<- hW]
   clear hW
   obtain ⟨p0,p1,p2,_,_,_⟩:=P0.out.three
   obtain ⟨q0,q1,q2,_,_,_⟩:=P1.out.three
   go_wp2_with fail
   refine (Ez (N1.out.below PB.out) (M1.out.below PB.out) HN.out).mono ?_
   rintro e w1 ⟨rfl,hb1⟩
   have S1:Hid (Below W.heap.size W w1):=Lib.hid hb1
   have hs1:W.heap.size <= w1.heap.size:=hb1.size
   obtain ⟨p0',p1',p2',_,_,_⟩:=(P0.out.below' S1.out).three
   obtain ⟨q0',q1',q2',_,_,_⟩:=(P1.out.below' S1.out).three
   clear hb1
   go_wp2_with fail
   refine (Kc ((N2.out.below PB.out).below S1.out) ((M2.out.below PB.out).below S1.out) HD.out).mono ?_
   rintro e w2 ⟨rfl,hb2⟩
   have S2:Hid (Below w1.heap.size w1 w2):=Lib.hid hb2
   have hs2:w1.heap.size <= w2.heap.size:=hb2.size
   clear hb2
   go_wp2_with fail
   go_ret
   exact ⟨aD HB.out.symm,PB.out.trans (((aa S1.out S2.out)).mono (by omega))⟩
  have HB:Hid (decide (q = r) = false):=Lib.hid (decide_eq_false (fun e=>hn (HX.out.1 e).2.1))
  have HN:=Lib.hid hn
  clear hn
  go_enter Tryz.func30,Tryz.ntmps30
  go_wp2_with fail
  obtain ⟨W,hW,P0,P1,PB,Phs⟩:=jz w 30 [.bool s,vn,vd] 30 [.bool s,vn',vd']
  rw [<- hW]
  clear hW
  obtain ⟨p0,p1,p2,_,_,_⟩:=P0.out.three
  obtain ⟨q0,q1,q2,_,_,_⟩:=P1.out.three
  go_wp2_with fail
  refine (Kc (N1.out.below PB.out) (M1.out.below PB.out) HN.out).mono ?_
  rintro e w1 ⟨rfl,hb1⟩
  have S1:Hid (Below W.heap.size W w1):=Lib.hid hb1
  have hs1:W.heap.size <= w1.heap.size:=hb1.size
  obtain ⟨p0',p1',p2',_,_,_⟩:=(P0.out.below' S1.out).three
  obtain ⟨q0',q1',q2',_,_,_⟩:=(P1.out.below' S1.out).three
  clear hb1
  go_wp2_with fail
  go_ret
  exact ⟨aD HB.out.symm,PB.out.trans ((S1.out).mono (by omega))⟩
 have HB:Hid (decide (q = r) = false):=Lib.hid (decide_eq_false (fun e=>hst (HX.out.1 e).1))
 have hst':(s == t) = false:=by cases s <;> cases t <;> simp_all
 clear hst
 go_enter Tryz.func30,Tryz.ntmps30
 go_wp2_with fail
 obtain ⟨W,hW,P0,P1,PB,Phs⟩:=jz w 30 [.bool s,vn,vd] 30 [.bool t,vn',vd']
 rw [<- hW]
 clear hW
 obtain ⟨p0,p1,p2,_,_,_⟩:=P0.out.three
 obtain ⟨q0,q1,q2,_,_,_⟩:=P1.out.three
 go_wp2_with fail
 go_ret
 exact ⟨aD HB.out.symm,PB.out⟩
section
def aA (P:Program) (fn:Func) (Q:AV->St->Prop):Ex->Fr->St->Prop:=fun ex fr s =>
 (match ex with | .exit _=>False | _=>True)/\fO s fr.ms = true/\∃ l,j9 P fr.T (fr.ms.foldl St.drop s) fn.results.toList = some l/\(match l with | [v]=>Q v (fr.ms.foldl St.drop s) | l=>Q (.tup l) (fr.ms.foldl St.drop s))
section
variable {P:Program} {X:dY}
theorem pA {bb:Nat} {f:FuncId} {fn:Func} {c:Code} (hfn:P.funcs[f]? = some fn)(hc:fn.body = some c) {args:List AV} (hlen:args.length <= fn.ntmps) {s:St} {Q:AV->St->Prop} (h:Jb bb P c ⟨f,fn.ntmps,Tr.ofList args,none,[]⟩ s (aA P fn Q))
  {μ:Mu} {w:World} {vs:List Value} (n:Nat) (hR:bA μ s w) (hvs:ao μ args vs) (hF:∀ o,s.nx <= o->μ o = none) :
  CallsIn Fence.wide n P f vs.toArray w fun e w'=>∃ v v' s' μ',e = .returned v'/\Q v s'/\bA μ' s' w'/\Fp bb μ s w μ' s' w'/\VR μ' v v':=by
 have hvl:=hvs.length
 refine callsIn_of_wp_marks (F:=Fence.wide) hfn hc trivial ?_ rfl
 have hT0:TR μ fn.ntmps (Tr.ofList args) (vs.toArray ++ Array.replicate (fn.ntmps - vs.toArray.size) undef):=by
  refine ⟨by simp; omega,fun t x hx=>?_⟩
  rw [Tr.get_ofList] at hx
  obtain ⟨y,h1,h2⟩:=hvs.get hx
  refine ⟨y,?_,h2⟩
  have hlt:=(List.getElem?_eq_some_iff.1 h1).1
  rw [Array.getElem?_append]
  rw [if_pos (by simpa using hlt)]
  simpa using h1
 refine h n μ w { tmps:=vs.toArray ++ Array.replicate (fn.ntmps - vs.toArray.size) undef,defers:=[] } none _ ⟨hR,hT0,by simp [DM],rfl,hF⟩ ?_
 intro ex fr s1 μ1 w1 a1 hq hA1 f1
 obtain ⟨hex,hmk,l,hres,hQ⟩:=hq
 have post:LeavesInM Fence.wide n P fn a1.tmps (fun e w'=>∃ v v' s' μ',e = .returned v'/\Q v s'/\bA μ' s' w'/\Fp bb μ s w μ' s' w'/\VR μ' v v') a1.defers .returning w1:=by
  refine oz fr.ms a1.defers s1 w1 hA1.rel hA1.dm hmk fun w2 r2 t2=>?_
  obtain ⟨m,k1,k2⟩:=uK (P:=P) r2 hA1.tr hres
  have key:∃ v v',(results fn a1.tmps).run P w2 = .ok v' w2/\VR μ1 v v'/\Q v (fr.ms.foldl St.drop s1):=by
   rw [qL,Array.mapM_eq_mapM_toList]
   simp only [Sem.run_bind,Sem.run_map,k1]
   match l,hQ,k2 with
   | [v],hQ,k2 =>
    simp only [ao] at k2
    obtain ⟨y,ys,rfl,hy,rfl⟩:=k2
    exact ⟨v,y,by simp,hy,hQ⟩
   | [],hQ,k2 =>
    simp only [ao] at k2
    subst k2
    exact ⟨.tup [],.tuple #[],by simp,by simp [VR,ao],hQ⟩
   | x :: y :: l,hQ,k2 =>
    have hne:m.length ≠ 1:=by rw [<- k2.length]; simp
    exact ⟨.tup (x :: y :: l),.tuple m.toArray,by simp [hne],by simp only [VR]; exact ⟨m,rfl,k2⟩,hQ⟩
  obtain ⟨v,v',q1,q2,q3⟩:=key
  exact ⟨v',q1,v,v',_,μ1,rfl,q3,r2,f1.trans t2.fp,q2⟩
 cases ex with
 | normal=>exact post
 | ret=>exact post
 | exit id=>exact hex.elim

theorem bA.below {μ:Mu} {s:St} {w w':World} (h:bA μ s w)(hb:Below w.heap.size w w'):bA μ s w':=by
 have lt:∀ o x p',s.h.get o = some x->μ o = some (.at_ p')->p'.blk < w.heap.size:=fun o x p' e m=>by
  obtain ⟨b,hb⟩:=(h.obj o x e (by rw [m]; simp)).at_ m
  exact (Array.getElem?_eq_some_iff.1 hb).1
 exact ⟨⟨fun o x e m=>(h.obj o x e m).keep (gY.refl μ) hb.size (fun p hp=>hb.block _ (lt o x p e hp)) (fun A m c _ ad _ _ hlt=>hb.block _ hlt),h.inj,h.nat,h.wf⟩,
  fun b i v hv=>let ⟨h1,h2,h3⟩:=h.fz b i v hv; ⟨Nat.lt_of_lt_of_le h1 hb.size,(ij (hb.block b h1) i).trans h2,h3⟩⟩
theorem dJ.below (μ:Mu) (s:St) {w w':World} (hb:Below w.heap.size w w'):dJ μ s w μ s w' :=
 ⟨gY.refl μ,fun _ h h'=>absurd h h',Nat.le_refl _,hb.os,hb.tape,hb.output,hb.size,fun g hg _=>hb.block g hg,fun o x p h h'=>.inr ⟨o,x,p,h,h',rfl⟩,fun _ _ _=>rfl,fun _ _ _ h=>.inl h⟩
theorem Fp.below {bb:Nat} {μ μ':Mu} {s':St} {w w':World} {k:Nat} (f:Fp bb μ ⟨.nil,k⟩ w μ' s' w'):Below w.heap.size w w':=⟨f.os,f.tape,f.output,f.size,fun g hg=>f.blk g hg fun o x p e=>by cases e⟩
theorem ky {μ:Mu} {s:St} {w w':World} (h:bA μ s w)(hb:Below w.heap.size w w'):∃ μ',bA μ' s w'/\dJ μ s w μ' s w'/\(∀ b i v,w.heap.size <= b->de w' b i = some v->μ'.fz b i = some v)/\(∀ b i v,μ.fz b i = some v->de w' b i = some v)/\(∀ b i v,w'.cell? ⟨b,i,none⟩ = some v->fy v = false->μ'.fz b i = some v):=by
 have hr:=h.below hb
 have lt:∀ o x p',s.h.get o = some x->μ o = some (.at_ p')->p'.blk < w.heap.size:=fun o x p' e m=>by
  obtain ⟨b,hb⟩:=(h.obj o x e (by rw [m]; simp)).at_ m
  exact (Array.getElem?_eq_some_iff.1 hb).1
 have old:∀ b i v,μ.fz b i = some v->b < w.heap.size:=fun b i v hv=>(h.fz b i v hv).1
 have stay:∀ b i v,μ.fz b i = some v->de w' b i = some v:=fun b i v hv=>(hr.fz b i v hv).2.1
 obtain ⟨μ1,e1⟩:∃ μ1:Mu,μ1 = ⟨μ.loc,fun b i=>if w.heap.size <= b ∨ ∃ v,de w' b i = some v/\fy v = false then de w' b i else μ.fz b i⟩:=⟨_,rfl⟩
 have hs:gY μ μ1:=by subst e1; exact ⟨fun _ _ h=>h,fun b i v hv=>by simp only; split; exact stay b i v hv; exact hv⟩
 have hloc:∀ k,μ1 k = μ k:=fun k=>by subst e1; rfl
 have live:∀ b i v,de w' b i = some v->b < w'.heap.size:=fun b i v hv=>rm hv
 refine ⟨μ1,⟨⟨fun k x e m=>?_,fun k k' x x' q q' e e' m m'=>?_,fun k n A m cc k' x' q' e m1 e' m2=>?_,hr.wf⟩,fun b i v hv=>?_⟩,⟨hs,fun o h1 h2=>absurd h1 (by rw [hloc] at h2; exact h2),Nat.le_refl _,hb.os,hb.tape,hb.output,hb.size,fun g hg _=>hb.block g hg,fun o x p e m=>.inr ⟨o,x,p,e,by rw [<- hloc]; exact m,rfl⟩,fun _ _ _=>rfl,fun b i v hv=>?_⟩,fun b i v hle hv=>?_,stay,fun b i v hv hd=>?_⟩
 ·exact (hr.obj k x e (by rw [<- hloc]; exact m)).keep hs (Nat.le_refl _) (fun _ _=>rfl) (fun _ _ _ _ _ _ _ _=>rfl)
 ·exact hr.inj k k' x x' q q' e e' (by rw [<- hloc]; exact m) (by rw [<- hloc]; exact m')
 ·exact hr.nat k n A m cc k' x' q' e (by rw [<- hloc]; exact m1) e' (by rw [<- hloc]; exact m2)
 ·subst e1
  simp only at hv
  split at hv
  ·next e =>
   refine ⟨live b i v hv,hv,fun o x p e' m eb=>?_⟩
   rcases e with e | ⟨u,hu,hd⟩
   ·have:=lt o x p e' m; omega
   exact (hr.obj o x e' (by rw [show μ o = _ from m]; simp)).nodig m ⟨i,u,by rw [eb]; exact d8 hu (lj hd),hd⟩
  exact hr.fz b i v hv
 ·subst e1
  simp only at hv
  split at hv
  ·next e =>
   rcases e with e | ⟨u,hu,hd⟩
   ·exact .inr (.inl e)
   rw [hu] at hv; cases hv; exact .inr (.inr (.inr hd))
  exact .inl hv
 ·subst e1
  simp only
  rw [if_pos (.inl hle)]
  exact hv
 subst e1
 simp only
 have hv:=fI hv (lj hd)
 rw [if_pos (.inr ⟨v,hv,hd⟩)]
 exact hv
theorem zg {μ:Mu} {s:St} {w w':World} (h:bA μ s w)(hb:Below w.heap.size w w'):∃ μ',bA μ' s w'/\dJ μ s w μ' s w'/\(∀ b i v,w.heap.size <= b->w'.cell? ⟨b,i,none⟩ = some v->yB v = false->μ'.fz b i = some v)/\(∀ b i v,μ.fz b i = some v->de w' b i = some v) :=
 let ⟨μ',a,b,c,d,_⟩:=ky h hb; ⟨μ',a,b,fun b i v hle hv hm=>c b i v hle (fI hv hm),d⟩

def ag (P:Program) (f:FuncId) (g:List AV->St->Option (AV × St)):Prop:=∀ {args s v s'},g args s = some (v,s')->(kI P f/\s.nx <= s'.nx/\(Wf s->Wf s'))/\∀ {μ:Mu} {w:World} {vs:List Value} (n:Nat),bA μ s w->ao μ args vs->fD μ s s' ->
  CallsIn Fence.wide n P f vs.toArray w fun e w'=>∃ v' μ',e = .returned v'/\bA μ' s' w'/\dJ μ s w μ' s' w'/\VR μ' v v'
def cP (P:Program) (f:FuncId):Bool:=(P.funcs[f]?).any fun fn=>fn.body.isSome && !(fn.name == "runtime.NumGoroutine")
theorem fL {f:FuncId} (h:cP P f = true):kI P f:=by
 unfold cP at h
 rw [Option.any_eq_true] at h
 obtain ⟨fn,h1,h2⟩:=h
 simp only [Bool.and_eq_true,Bool.not_eq_true'] at h2
 obtain ⟨c,hc⟩:=Option.isSome_iff_exists.1 h2.1
 have hname:¬ fn.name = "runtime.NumGoroutine":=by simpa using h2.2
 exact fun args w=>by simp [callFunc,h1,hname,hc]
def ae (g:List AV->Option AV) (args:List AV) (s:St):Option (AV × St):=(g args).map fun v=>(v,s)
theorem hZ {f:FuncId} {g:List AV->Option AV} (hco:cP P f = true) (H:∀ {args v},g args = some v->∀ {μ:Mu} {s:St} {w:World} {vs:List Value} (n:Nat),bA μ s w->ao μ args vs ->
  CallsIn Fence.wide n P f vs.toArray w fun e w'=>∃ v' μ',e = .returned v'/\bA μ' s w'/\dJ μ s w μ' s w'/\VR μ' v v'):ag P f (ae g):=by
 intro args s v s' h
 unfold ae at h
 simp only [Option.map_eq_some_iff,Prod.mk.injEq] at h
 obtain ⟨v0,h1,rfl,rfl⟩:=h
 exact ⟨⟨fL hco,Nat.le_refl _,id⟩,fun n hR hv _=>H h1 n hR hv⟩
theorem ai {f:FuncId} {fn:Func} {c:Code} {nt:Nat} (hco:cP P f = true)(hfn:P.funcs[f]? = some fn)(hn:fn.ntmps = nt)(hc:fn.body = some c) {g:List AV->Option AV}
  (H:∀ {args v},g args = some v->aE args = true/\bare v = true/\args.length <= nt/\Jd P c ⟨f,nt,Tr.ofList args,none,[]⟩ ⟨.nil,0⟩ (aA P fn fun v' _=>v' = v)):ag P f (ae g):=by
 subst hn
 refine hZ hco ?_
 intro args v hg μ s w vs n hR hvs
 obtain ⟨h1,h2,h3,h4⟩:=H hg
 have hR0:bA μ.blind ⟨.nil,0⟩ w:=⟨⟨fun o x e=>(by cases e),fun o o' x x' p p' e=>(by cases e),fun o n A m c o' x' p' e=>(by cases e),fun o _=>rfl⟩,fun b i v hv=>let ⟨a,b,_⟩:=hR.fz b i v hv; ⟨a,b,fun o x p e=>(by cases e)⟩⟩
 have hv0:ao μ.blind args vs:=eF (μ:=μ) (μ':=μ.blind) (fun _ _ _ h=>h) args h1 hvs
 refine CallsIn.mono (pA hfn hc h3 h4 n hR0 hv0 (fun _ _=>rfl)) ?_
 rintro e w' ⟨v1,v',s',μ',rfl,rfl,hR',hfp,hv'⟩
 obtain ⟨μ2,r2,t2,n2,o2,d2⟩:=ky hR hfp.below
 refine ⟨v',μ2,rfl,r2,t2,fi (μ:=μ') (fun b i u hu=>?_) _ h2 hv'⟩
 rcases hfp.fz b i u hu with h | h | ⟨o,x,p,e,_⟩ | h
 ·exact t2.sub.fz b i u h
 ·exact n2 b i u h (hR'.fz b i u hu).2.1
 ·cases e
 exact d2 b i u (d8 (hR'.fz b i u hu).2.1 (lj h)) h
end
end
theorem ay.zero_ (B:Nat) (w:World):ay B w (.agg #[.bool false,.slice none 0 0,.slice none 0 0]) 0 :=
 ⟨_,_,by simp [ap],ab.nil_ _,by simpa using ab.nil_ _,bf.nil_ _,bf.nil_ _⟩
theorem ay.parts {B:Nat} {w:World} {q:Rat} {b:Bool} {A A':Option Addr} {m c m' c':Nat} (h:ay B w (.agg #[.bool b,.slice A m c,.slice A' m' c']) q) :
  b = ap q/\ab w (.slice A m c) q.num.natAbs/\ab w (.slice A' m' c') (if q.den = 1 then 0 else q.den)/\bf (.slice A m c) B/\bf (.slice A' m' c') B:=by
 obtain ⟨vn,vd,e,h1,h2,h3,h4⟩:=h
 injection e with e
 have e':[Value.bool b,.slice A m c,.slice A' m' c'] = [.bool (ap q),vn,vd]:=congrArg Array.toList e
 simp only [List.cons.injEq,and_true,Value.bool.injEq] at e'
 obtain ⟨e0,rfl,rfl⟩:=e'
 exact ⟨e0,h1,h2,h3,h4⟩
theorem az.mono {k k':Nat} {w:World} {v:Value} {q:Rat} (h:az k w v q)(hk:k <= k'):az k' w v q:=by
 obtain ⟨s,vn,vd,ln,ld,e,h1,h2,h3,h4,h5,h6,h7⟩:=h
 exact ⟨s,vn,vd,ln,ld,e,h1,h2,h3,Nat.lt_of_lt_of_le h4 (Nat.pow_le_pow_right (by omega) hk),Nat.lt_of_lt_of_le h5 (Nat.pow_le_pow_right (by omega) hk),h6,h7⟩
theorem Oh (w:World) (k:Nat) (lv:Value) (qs:List Rat)(hl:bz k w lv qs)(h0:0 < k)(hk:(qs.length + 1) * (2 * k) <= 549755813888) :
  Calls Tryz.prog 250 #[lv] w fun e w'=>∃ v',e = .returned v'/\ay w.heap.size w' v' (lC qs)/\Below w.heap.size w w':=by
 obtain ⟨A,c,rfl,hlc,hcm,hat⟩:=hl.at_
 have HAT:=Lib.hid hat
 clear hl hat
 obtain ⟨n,hn⟩:∃ n,qs.length = n:=⟨_,rfl⟩
 have HLN:=Lib.hid hn
 rw [hn] at hlc hk ⊢
 clear hn
 have HZ:Hid (QB ((0 + 1) * (2 * k)) (0:Rat)):=Lib.hid (eX (n:=0) (Nat.pow_pos (by omega)) (by omega))
 go_enter Tryz.func250,Tryz.ntmps250
 go_wp2_with fail
 obtain ⟨W,hW,P0,P1,PB,Phs⟩:=jz w 30 [.bool false,.slice none 0 0,.slice none 0 0] 30 [.bool false,.slice none 0 0,.slice none 0 0]
 rw [<- hW]
 clear hW
 go_loopg [4] n (fun g i wr=>∃ (j:Nat) (q:Rat) (b:Bool) (A1 A1':Option Addr) (m1 c1 m1' c1':Nat),i = .int .i64 j/\j + g = n/\Hid (q = lC (qs.take j))/\Hid (QB ((j + 1) * (2 * k)) q) /\
  Hid (bw wr w.heap.size 30 [.bool false,.slice none 0 0,.slice none 0 0])/\Hid (bw wr (w.heap.size + 1) 30 [.bool b,.slice A1 m1 c1,.slice A1' m1' c1'])/\Hid (ay (w.heap.size + 2) wr (.agg #[.bool b,.slice A1 m1 c1,.slice A1' m1' c1']) q)/\Hid (Below w.heap.size w wr))
 case atStart=>exact ⟨0,0,false,none,none,0,0,0,0,rfl,by omega,Lib.hid rfl,HZ,P0,P1,Lib.hid (ay.zero_ _ _),PB⟩
 obtain ⟨j,q,b,A1,A1',m1,c1,m1',c1',rfl,hj,HQ,HQB,RB,BK,NA,BEL⟩:=hrel
 have hsz:w.heap.size + 2 <= wr.heap.size:=BK.out.lt
 obtain ⟨p0,p1,p2,_,_,_⟩:=BK.out.three
 rcases Nat.eq_zero_or_pos gk with h | h
 ·obtain rfl:j = n:=by omega
  obtain ⟨r0,r1,r2,z0,z1,z2⟩:=RB.out.three
  go_wp2_with fail
  refine bodyPost_ret (v:=.agg #[.bool b,.slice A1 m1 c1,.slice A1' m1' c1']) (by simp [results,Tryz.results250,go_sem,r0,r1,r2]) rfl ⟨_,rfl,?_,ar BEL.out (Nat.le_refl _) _ _ _⟩
  obtain ⟨e0,t1,t2,t3,t4⟩:=NA.out.parts
  rw [e0]
  rw [HQ.out,List.take_of_length_le (by rw [HLN.out]; exact Nat.le_refl _)] at t1 t2 ⊢
  exact (ay.box3 t1 t2 t3 t4 (by omega) _ _ _).mono (by omega)
 obtain ⟨g,rfl⟩:∃ g,gk = g + 1:=⟨gk - 1,by omega⟩
 obtain ⟨x,hx⟩:∃ x,qs[j]? = some x:=⟨_,List.getElem?_eq_getElem (by rw [HLN.out]; omega)⟩
 obtain ⟨bb,off,neg,An,nn,cn,Ad,nd,cd,rfl,hbb,e0,e1,e2,hfr⟩:=HAT.out j x hx
 have d0:=(BEL.out.cell (p:=⟨bb,off + j * 3,none⟩) hbb).trans e0
 have d1:=(BEL.out.cell (p:=⟨bb,off + j * 3 + 1,none⟩) hbb).trans e1
 have d2:=(BEL.out.cell (p:=⟨bb,off + j * 3 + 2,none⟩) hbb).trans e2
 have FR:=Lib.hid (hfr.below BEL.out)
 have QX:=Lib.hid (hfr.qb h0)
 have HX:=Lib.hid hx
 have hjk:(j + 1) * (2 * k) <= (n + 1) * (2 * k):=Nat.mul_le_mul_right _ (by omega)
 have hjk2:(j + 1 + 1) * (2 * k) = (j + 1) * (2 * k) + 2 * k:=by rw [Nat.add_mul (j + 1) 1,Nat.one_mul]
 have HJ:Hid (k <= (j + 1) * (2 * k)/\(j + 1) * (2 * k) <= 549755813888/\0 < (j + 1) * (2 * k)):=Lib.hid (by have:1 * (2 * k) <= (j + 1) * (2 * k):=Nat.mul_le_mul_right _ (by omega); omega)
 have HJ2:=Lib.hid hjk2
 have FK:Hid (az ((j + 1) * (2 * k)) wr (.agg #[.bool neg,.slice An nn cn,.slice Ad nd cd]) x):=Lib.hid (FR.out.mono HJ.out.1)
 clear hx e0 e1 e2 hfr hjk hjk2
 go_wp2_with fail
 go_region_with (first
   | (go_at_call 161; refine (NM _ _ _ q x ((j + 1) * (2 * k)) ?_ ?_ HJ.out.2.2 HJ.out.2.1).mono ?_; (exact (NA.out.at_.frac HQB.out (by have:=HJ.out; omega)).below (ak _)); (exact FK.out.below (ak _)); rintro e w3 ⟨v3,rfl,t3,hb3'⟩; have hb3:=ah hb3'; have B3:=Lib.hid hb3; have K3:=Lib.hid (BK.out.below' hb3); have hs3:=hb3.size; obtain ⟨A3,m3,c3,A3',m3',c3',rfl,t3a,t3b,t3c,t3d⟩:=t3.open_; obtain ⟨r0,r1,r2,z0,z1,z2⟩:=K3.out.three; have TA:=Lib.hid t3a; have TB:=Lib.hid t3b; have TC:=Lib.hid (t3c.mono (show w.heap.size + 2 <= _ from hsz)); have TD:=Lib.hid (t3d.mono (show w.heap.size + 2 <= _ from hsz)); clear t3 t3a t3b t3c t3d hb3 hb3'))
 all_goals
  go_wp2_with fail
  go_roundg g
  case measure=>omega
  case rel =>
   have hx':=HX.out
   exact ⟨j + 1,_,_,A3,A3',m3,c3,m3',c3',rfl,by omega,Lib.hid (by unfold lC; rw [aG _ hx',List.foldl_append,HQ.out]; rfl),Lib.hid (by rw [HJ2.out]; exact (HQB.out.add QX.out).mono (by omega)),
    Lib.hid (bw.box3far (RB.out.below' B3.out) (by omega) _ _ _),Lib.hid (K3.out.box3 _ _ _),Lib.hid (ay.box3 TA.out TB.out TC.out TD.out (by omega) _ _ _),Lib.hid (ar (BEL.out.trans (B3.out.mono (by omega))) (Nat.le_succ _) _ _ _)⟩
theorem lW (w:World) (k:Nat) (lv:Value) (qs:List Rat)(hl:bz k w lv qs)(h0:0 < k)(hk:(qs.length + 1) * (2 * k) <= 549755813888) :
  Calls Tryz.prog 173 #[lv] w fun e w'=>e = .returned (.bool (cG qs))/\Below w.heap.size w w':=by
 obtain ⟨A,c,rfl,hlc,hcm,hat⟩:=hl.at_
 have hkl:1 * (2 * k) <= (qs.length + 1) * (2 * k):=Nat.mul_le_mul_right _ (by omega)
 have HL:=Lib.hid hl
 have HAT:=Lib.hid hat
 have SQ:Hid (QB ((qs.length + 1) * (2 * k)) (lC qs)):=Lib.hid ((yR qs (hl.qb h0) k 0 (eX (n:=0) (Nat.pow_pos (by omega)) h0)).mono (by
   have:qs.length * (k + 1) <= qs.length * (2 * k):=Nat.mul_le_mul_left _ (by omega)
   rw [Nat.add_mul]; omega))
 have Q1:Hid (QB ((qs.length + 1) * (2 * k)) ((1:Nat):Rat)):=Lib.hid (eX (Nat.one_lt_two_pow (by omega)) (by omega))
 clear hl hat
 obtain ⟨n,hn⟩:∃ n,qs.length = n:=⟨_,rfl⟩
 have HLN:=Lib.hid hn
 rw [hn] at hlc hk hkl HL SQ Q1 ⊢
 clear hn
 have HK:=Lib.hid hk
 have HKL:=Lib.hid hkl
 clear hk hkl
 unfold cG
 go_enter Tryz.func173,Tryz.ntmps173
 go_wp2_with fail
 go_loopg [3] n (fun g i wr=>∃ (j:Nat),i = .int .i64 j/\j + g = n/\Hid (ct qs 0 = ct (qs.drop j) j)/\Hid (Below w.heap.size w wr))
 case atStart=>exact ⟨0,rfl,by omega,Lib.hid rfl,Lib.hid (Below.refl _ _)⟩
 obtain ⟨j,rfl,hj,HQ,BEL⟩:=hrel
 have hsz:w.heap.size <= wr.heap.size:=BEL.out.size
 rcases Nat.eq_zero_or_pos gk with h | h
 ·obtain rfl:j = n:=by omega
  have HF:Hid (decide (0 <= ct qs 0) = false):=Lib.hid (by
   rw [HQ.out,List.drop_eq_nil_of_le (by rw [HLN.out]; exact Nat.le_refl _)]
   rfl)
  go_wp2_with fail
  refine (Oh wr k _ qs (HL.out.below BEL.out) h0 (by rw [HLN.out]; exact HK.out)).mono ?_
  rintro e w2 ⟨v2,rfl,t2,hb2⟩
  have B2:=Lib.hid (BEL.out.trans (hb2.mono hsz))
  have T2:=Lib.hid t2
  have hs2:wr.heap.size <= w2.heap.size:=hb2.size
  clear t2 hb2
  go_wp2_with fail
  refine (NW w2 1 (by omega)).mono ?_
  rintro e w3 ⟨v3,rfl,t3,hb3⟩
  have B3:=Lib.hid (B2.out.trans (hb3.mono (by omega)))
  have F2:=Lib.hid ((T2.out.below hb3).at_.frac SQ.out (by have:=HK.out; omega))
  have F3:=Lib.hid (t3.at_.frac Q1.out (by have:=HK.out; omega))
  have hs3:w2.heap.size <= w3.heap.size:=hb3.size
  clear t3 hb3
  go_wp2_with fail
  refine (Jq w3 v2 v3 (lC qs) (1:Nat) _ F2.out F3.out (by have:=HKL.out; omega) HK.out).mono ?_
  rintro e w4 ⟨rfl,hb4⟩
  have B4:=Lib.hid (B3.out.trans (hb4.mono (by omega)))
  clear hb4
  go_wp2_with fail
  go_ret
  refine ⟨?_,B4.out⟩
  rw [HF.out]
  rfl
 obtain ⟨g,rfl⟩:∃ g,gk = g + 1:=⟨gk - 1,by omega⟩
 obtain ⟨x,hx⟩:∃ x,qs[j]? = some x:=⟨_,List.getElem?_eq_getElem (by rw [HLN.out]; omega)⟩
 obtain ⟨bb,off,neg,An,nn,cn,Ad,nd,cd,rfl,hbb,e0,e1,e2,hfr⟩:=HAT.out j x hx
 have d0:=(BEL.out.cell (p:=⟨bb,off + j * 3,none⟩) hbb).trans e0
 have d1:=(BEL.out.cell (p:=⟨bb,off + j * 3 + 1,none⟩) hbb).trans e1
 have d2:=(BEL.out.cell (p:=⟨bb,off + j * 3 + 2,none⟩) hbb).trans e2
 have FR:=Lib.hid (hfr.below BEL.out)
 have DR:=Lib.hid (lU hx)
 clear hx e0 e1 e2 hfr
 have SC:=iV wr _ x k FR.out h0
 by_cases hd:ce x < 0
 ·have HN:Hid (decide (0 <= ct qs 0) = true):=Lib.hid (decide_eq_true (by rw [HQ.out,DR.out,if_pos hd]; omega))
  obtain ⟨z,hz,hz0⟩:∃ z,ce x = z/\decide (z < 0) = true:=⟨_,rfl,decide_eq_true hd⟩
  rw [hz] at SC
  clear hz hd
  go_wp2_with fail
  refine SC.mono ?_
  rintro e w1 ⟨rfl,hb1⟩
  have B1:=Lib.hid hb1
  clear hb1
  go_wp2_with fail
  go_ret
  refine ⟨aD ?_,BEL.out.trans (B1.out.mono hsz)⟩
  rw [HN.out]
  rfl
 have HN:Hid (ct qs 0 = ct (qs.drop (j + 1)) (j + 1)):=Lib.hid (by rw [HQ.out,DR.out,if_neg hd])
 obtain ⟨z,hz,hz0⟩:∃ z,ce x = z/\decide (z < 0) = false:=⟨_,rfl,decide_eq_false hd⟩
 rw [hz] at SC
 clear hz hd
 go_wp2_with fail
 refine SC.mono ?_
 rintro e w1 ⟨rfl,hb1⟩
 have B1:=Lib.hid hb1
 clear hb1
 go_wp2_with fail
 go_roundg g
 case measure=>omega
 case rel=>exact ⟨j + 1,rfl,by omega,HN,Lib.hid (BEL.out.trans (B1.out.mono hsz))⟩
def GU (w:World) (v:Value) (qs:List Rat):Prop:=∃ cells,Sl w 3 v qs.length cells /\
 ∀ i x,qs[i]? = some x->∃ a b c,cells[i * 3]? = some a/\cells[i * 3 + 1]? = some b/\cells[i * 3 + 2]? = some c/\cJ w (.agg #[a,b,c]) x
theorem GU.at_ {w:World} {v:Value} {qs:List Rat} (h:GU w v qs):∃ A c,v = .slice A qs.length c/\qs.length <= c/\c <= 9223372036854775807 /\
  ∀ j x,qs[j]? = some x->∃ b off u0 u1 u2,A = some ⟨b,off,none⟩/\b < w.heap.size/\w.cell? ⟨b,off + j * 3,none⟩ = some u0/\w.cell? ⟨b,off + j * 3 + 1,none⟩ = some u1 /\
   w.cell? ⟨b,off + j * 3 + 2,none⟩ = some u2/\cJ w (.agg #[u0,u1,u2]) x:=by
 obtain ⟨cells,h1,h2⟩:=h
 obtain ⟨h0,A,c,rfl,hc,hm,h5⟩:=h1
 refine ⟨A,c,rfl,hc,by unfold maxLen at hm; omega,fun j x hx=>?_⟩
 have hj:=(List.getElem?_eq_some_iff.1 hx).1
 obtain ⟨b,off,e,hlt,hcell⟩:=h5 (by omega)
 obtain ⟨u0,u1,u2,e0,e1,e2,hf⟩:=h2 j x hx
 exact ⟨b,off,u0,u1,u2,e,hlt,hcell _ _ e0,by have:=hcell _ _ e1; rwa [<- Nat.add_assoc] at this,by have:=hcell _ _ e2; rwa [<- Nat.add_assoc] at this,hf⟩
end Go.Proofs.YtkdhppimhdemjaaGreat
