/- Lemmas on the way: Nat3, Frac5, Frac6. -/
import Derived.Test.YtkdhppimhdemjaaGreatU18
set_option linter.all false
set_option maxRecDepth 1000000
set_option maxHeartbeats 32000000
namespace Go.Proofs.YtkdhppimhdemjaaGreat
open Go.RowKit
def ut (l m o:List Nat) (k c:Nat):Prop:=Ok o/\c <= 1/\val (o.take k) + 4294967296 ^ k * c = val (l.take k) + val (m.take k)

theorem ut.step {l m o:List Nat} {k c x y:Nat} (h:ut l m o k c)(hx:l.getD k 0 = x)(hy:m.getD k 0 = y) (xl:x < 4294967296) (yl:y < 4294967296)(hk:k < o.length) :
  ut l m (o.set k ((c + x + y) % 4294967296)) (k + 1) ((c + x + y) / 4294967296):=by
 obtain ⟨h1,h2,h3⟩:=h
 refine ⟨h1.set _ _ (Nat.mod_lt _ (by omega)),by omega,?_⟩
 rw [dG o hk,cO,aL,aL,hx,hy,List.length_take,Nat.min_eq_left (by omega)]
 have e:=Nat.div_add_mod (c + x + y) 4294967296
 generalize (c + x + y) / 4294967296 = q at *
 generalize (c + x + y) % 4294967296 = r at *
 have e2:4294967296 ^ k * (c + x + y) = 4294967296 ^ k * (4294967296 * q + r):=by rw [e]
 rw [Nat.pow_succ]
 grind

theorem ut.done {l m o:List Nat} {k c:Nat} (h:ut l m o k c)(hl:Ok l)(hm:Ok m)(ho:o.length = k)(h1:l.length + 1 <= k)(h2:m.length + 1 <= k):val o = val l + val m:=by
 obtain ⟨_,_,h3⟩:=h
 rw [aO (by omega),aO (by omega),aO (by omega)] at h3
 have a1:=eo l hl
 have a2:=eo m hm
 have a3:4294967296 ^ l.length <= 4294967296 ^ (k - 1):=Nat.pow_le_pow_right (by omega) (by omega)
 have a4:4294967296 ^ m.length <= 4294967296 ^ (k - 1):=Nat.pow_le_pow_right (by omega) (by omega)
 have a5:4294967296 ^ k = 4294967296 ^ (k - 1) * 4294967296:=by rw [<- Nat.pow_succ]; congr 1; omega
 have a6:c = 0:=by
  rcases Nat.eq_zero_or_pos c with h | h
  ·exact h
  have:4294967296 ^ k * 1 <= 4294967296 ^ k * c:=Nat.mul_le_mul_left _ h
  omega
 subst a6
 omega

theorem add (w:World) (va vb:Value) (a b k:Nat)(ha:ab w va a)(hb:ab w vb b) (la:a < 2 ^ k) (lb:b < 2 ^ k)(hk:k <= 70368744177664) :
  Calls Tryz.prog 190 #[va,vb] w fun e w'=>∃ v',e = .returned v'/\ab w' v' (a + b)/\Below w.heap.size w w':=by
 obtain ⟨l,dl,tl,rfl⟩:=ha
 obtain ⟨m,dm,tm,rfl⟩:=hb
 have ll:=tl.length_le la
 have lm:=tm.length_le lb
 clear la lb tl tm
 obtain ⟨okl,A,ca,rfl,hlc,hcm,hA⟩:=dl.open_
 obtain ⟨okm,B,cb,rfl,hmc,hcm',hB⟩:=dm.open_
 clear dl dm
 have HA:=Lib.hid hA
 have HB:=Lib.hid hB
 clear hA hB
 have HO:=Lib.hid okl
 have HP:=Lib.hid okm
 clear okl okm
 obtain ⟨n,hn⟩:∃ n,l.length = n:=⟨_,rfl⟩
 obtain ⟨p,hp⟩:∃ p,m.length = p:=⟨_,rfl⟩
 rw [hn] at hlc ll ⊢
 rw [hp] at hmc lm ⊢
 have HN:=Lib.hid hn
 have HQ:=Lib.hid hp
 clear hn hp
 obtain ⟨i0,hi,hz0,hz1,hz2⟩:=info_parts dB
 obtain ⟨N,hN1,hN2,hN3⟩:∃ N:Nat,n + 1 <= N/\p + 1 <= N/\(N <= n + 1 ∨ N <= p + 1):=⟨max n p + 1,by omega,by omega,by omega⟩
 go_enter Tryz.func190,Tryz.ntmps190
 go_wp2_with (at_make; refine aV rfl _ _ 28 rfl 199 i0 (.int .u32 0) 4 Tryz.underlying28 hi hz0 hz1 hz2 rfl .i64 .i64 _ _ N rfl rfl (by omega) (by omega) (by omega) (by unfold maxLen; omega) ?_)
 all_goals
  intro w1 hblk hbel
  go_wp2_with fail
  go_loopw [6,17] (fun c i wr=>∃ (k cc:Nat) (o:List Nat),i = .int .i64 k/\c = .int .u64 cc/\k <= N/\o.length = N/\ut l m o k cc/\bw wr w.heap.size 199 (o.map dg)/\Below w.heap.size w wr)
   (fun _ i _=>N - (intOf i).toNat)
  case atStart=>exact ⟨0,0,List.replicate N 0,rfl,rfl,by omega,by simp,⟨Ok.replicate _,by omega,by simp [val]⟩,by simpa [dg] using hblk,hbel⟩
  clear hblk hbel
  obtain ⟨k,cc,o,rfl,rfl,hk,ho,ha,hblk,hbel⟩:=hrel
  have HL:=Lib.hid ho
  clear ho
  have hcc:=ha.2.1
  have HK:=Lib.hid ha
  have HG:=Lib.hid hblk
  clear ha
  by_cases hlt:k < N
  ·obtain ⟨x,hx⟩:∃ x,l.getD k 0 = x:=⟨_,rfl⟩
   obtain ⟨y,hy⟩:∃ y,m.getD k 0 = y:=⟨_,rfl⟩
   have hx0:x < 4294967296:=by rw [<- hx]; exact HO.out.getD k
   have hy0:y < 4294967296:=by rw [<- hy]; exact HP.out.getD k
   have hz:=HG.out.cellDig (k:=k) (by rw [HL.out]; exact hlt)
   have hfz:=HG.out.frozen k
   have step:=HK.out.step hx hy hx0 hy0 (by rw [HL.out]; exact hlt)
   have STEP:=Lib.hid step
   have hcx:=bL HA.out HN.out hbel k x hx
   have hcy:=bL HB.out HQ.out hbel k y hy
   have HB2:=Lib.hid hbel
   clear hx hy step hblk hbel
   rcases hcx with ⟨h1,b,off,rfl,hb,hc1⟩ | ⟨h1,hx⟩ <;> rcases hcy with ⟨h2,b',off',rfl,hb',hc2⟩ | ⟨h2,hy⟩
   all_goals
    (go_wp2_with fail) <;> exact ⟨⟨k + 1,(cc + x + y) / 4294967296,o.set k ((cc + x + y) % 4294967296),ez (by omega),ez (by omega),by omega,by rw [List.length_set]; exact HL.out,STEP.out,HG.out.setDig (by omega),HB2.out.setCell (p:=⟨w.heap.size,k,none⟩) (Nat.le_refl _) _⟩,by simp [intOf]; omega⟩
  obtain rfl:k = N:=by omega
  have hd:=HG.out.digAt HK.out.1 HL.out (Nat.le_refl _) (by omega)
  have hv:=HK.out.done HO.out HP.out HL.out (by rw [HN.out]; omega) (by rw [HQ.out]; omega)
  have HD:=Lib.hid hd
  have HV:=Lib.hid hv
  have HB2:=Lib.hid hbel
  clear hd hv hbel hblk
  go_wp2_with (go_at_call 185; refine (jl _ _ o HD.out (by rw [HL.out]; omega)).mono ?_; rintro e w' ⟨v',rfl,hv,hb⟩)
  go_ret
  rw [HV.out] at hv
  exact ⟨v',rfl,hv,HB2.out.trans (hb.mono HB2.out.size)⟩
theorem Mb (w:World) (v v':Value) (q r:Rat) (k:Nat)(h:dU w v q) (h':dU w v' r)(hb:QB k q) (hb':QB k r)(hk:k <= 4398046511104) :
  Calls Tryz.prog 126 #[v,v'] w fun e w'=>∃ v',e = .returned v'/\cg w.heap.size w' v' (q + r)/\Below w.heap.size w w':=by
 obtain ⟨A,m,c,A',m',c',rfl,hm,hm',hp,h1,h2⟩:=h.open_
 obtain ⟨C,n,d,C',n',d',rfl,hn,hn',hp',h1',h2'⟩:=h'.open_
 have H1:=Lib.hid h1
 have H2:=Lib.hid h2
 have H1':=Lib.hid h1'
 have H2':=Lib.hid h2'
 have HB:=Lib.hid hb
 have HB':=Lib.hid hb'
 have DP:Hid (0 < q.den * r.den):=Lib.hid (Nat.mul_pos q.den_pos r.den_pos)
 have SAME:=Lib.hid (ye q r)
 have LESS:=Lib.hid (yg q r)
 have MORE:=Lib.hid (yf q r)
 have X1:=Lib.hid (aR hb.1 hb'.2)
 have X2:=Lib.hid (aR hb'.1 hb.2)
 have X3:=Lib.hid (aR hb.2 hb'.2)
 clear h h' h1 h2 h1' h2' hb hb' hp hp' hn hn' hm hm'
 generalize ap q = s at *
 generalize ap r = t at *
 go_enter Tryz.func126,Tryz.ntmps126
 go_upto_region 1 with fail
 obtain ⟨W,hW,P0,P1,P2,PB,Phs⟩:=box3 w 185 [.bool s,.slice A m c,.slice A' m' c'] 185 [.bool t,.slice C n d,.slice C' n' d'] 185 [.bool false,.slice none 0 0,.slice none 0 0]
 rw [<- hW]
 clear hW
 have N1:=Lib.hid (H1.out.below PB.out)
 have N2:=Lib.hid (H2.out.below PB.out)
 have N1':=Lib.hid (H1'.out.below PB.out)
 have N2':=Lib.hid (H2'.out.below PB.out)
 obtain ⟨p0,p1,p2,_,_,_⟩:=P0.out.three
 obtain ⟨q0,q1,q2,_,_,_⟩:=P1.out.three
 go_region_held3 (fun w'=>w'.cell? ⟨w.heap.size,0,none⟩ = some (.bool s)/\w'.cell? ⟨w.heap.size,1,none⟩ = some (.slice A m c)/\w'.cell? ⟨w.heap.size,2,none⟩ = some (.slice A' m' c')/\w'.cell? ⟨w.heap.size + 1,0,none⟩ = some (.bool t)/\w'.cell? ⟨w.heap.size + 1,1,none⟩ = some (.slice C n d)/\w'.cell? ⟨w.heap.size + 1,2,none⟩ = some (.slice C' n' d')) (first | assumption | (refine da hS ?_ ?_ _ _ _ <;> omega) | go_keep)
  (first
   | (go_at_call_of 182 (Value.slice A m c); refine (mul _ _ _ _ _ k k ?_ ?_ HB.out.1 HB'.out.2 (by omega) (by omega)).mono ?_; (exact N1.out.drew); (exact N2'.out.drew); rintro e w1 ⟨v1,rfl,t1,hb1'⟩; have hb1:=ah hb1'; have hS:=iy (P0.out.below' hb1) (P1.out.below' hb1); have T1:=Lib.hid t1; have B1:=Lib.hid hb1; clear t1 hb1 hb1')
   | (go_at_call_of 182 (Value.slice C n d); refine (mul w1 _ _ _ _ k k (N1'.out.below B1.out) (N2.out.below B1.out) HB'.out.1 HB.out.2 (by omega) (by omega)).mono ?_; rintro e w2 ⟨v2,rfl,t2,hb2⟩; have B2:=Lib.hid (B1.out.trans (hb2.mono B1.out.size)); have T1':=Lib.hid (T1.out.below hb2); have T2:=Lib.hid t2; have hS:=iy (P0.out.below' B2.out) (P1.out.below' B2.out); clear t2 hb2)
   | (go_at_call 182; refine (mul w2 _ _ _ _ k k (N2.out.below B2.out) (N2'.out.below B2.out) HB.out.2 HB'.out.2 (by omega) (by omega)).mono ?_; rintro e w3 ⟨v3,rfl,t3,hb3⟩; have B3:=Lib.hid (B2.out.trans (hb3.mono B2.out.size)); have T1'':=Lib.hid (T1'.out.below hb3); have T2'':=Lib.hid (T2.out.below hb3); have T3:=Lib.hid t3; have hS:=iy (P0.out.below' B3.out) (P1.out.below' B3.out); clear t3 hb3))
 have Q0:=Lib.hid (P0.out.below' B3.out)
 have Q1:=Lib.hid (P1.out.below' B3.out)
 have Q2:=Lib.hid (P2.out.below' B3.out)
 have hs3:=B3.out.size
 clear p0 p1 p2 q0 q1 q2
 obtain ⟨p0,p1,p2,q0,q1,q2⟩:=hS
 by_cases hst:s = t
 ·have hq:=SAME.out hst
  have HQ:=Lib.hid hq
  have XS:Hid (q.num.natAbs * r.den + r.num.natAbs * q.den < 2 ^ (k + k + 1)):=Lib.hid (by have:=X1.out; have:=X2.out; rw [Nat.pow_succ]; omega)
  have XD:Hid (q.den * r.den < 2 ^ (k + k + 1)):=Lib.hid (by have:=X3.out; rw [Nat.pow_succ]; omega)
  clear hq
  subst hst
  have hst:(s == s) = true:=by simp
  go_upto_region 3 with fail
  go_region_held3 (fun w'=>w'.cell? ⟨w.heap.size,0,none⟩ = some (.bool s)/\w'.cell? ⟨w.heap.size,1,none⟩ = some (.slice A m c)/\w'.cell? ⟨w.heap.size,2,none⟩ = some (.slice A' m' c')/\w'.cell? ⟨w.heap.size + 1,0,none⟩ = some (.bool s)/\w'.cell? ⟨w.heap.size + 1,1,none⟩ = some (.slice C n d)/\w'.cell? ⟨w.heap.size + 1,2,none⟩ = some (.slice C' n' d')) (first | assumption | (refine da hS ?_ ?_ _ _ _ <;> omega) | go_keep)
   (first
    | (go_at_call 190; refine (add _ _ _ _ _ (k + k) ?_ ?_ X1.out X2.out (by omega)).mono ?_; (exact T1''.out); (exact T2''.out); rintro e w4 ⟨v4,rfl,t4,hb4'⟩; have hb4:Below w3.heap.size w3 w4:=(by first | exact hb4' | exact ah hb4' | exact aN hb4' | exact aN (ah hb4')); have B4:=Lib.hid hb4; have hS:=iy (Q0.out.below' hb4) (Q1.out.below' hb4); have T4:=Lib.hid t4; have T4':=Lib.hid (T3.out.below hb4); clear t4 hb4 hb4')
    | (go_at_call 181; refine (kU w4 s _ _ _ _ (k + k + 1) T4.out T4'.out XS.out XD.out (by omega) DP.out).mono ?_; rintro e w5 ⟨v5,rfl,t5,hb5⟩; have B5:=Lib.hid (B4.out.trans (hb5.mono B4.out.size)); obtain ⟨A3,m3,c3,A3',m3',c3',rfl,t5a,t5b,t5c,t5d⟩:=t5.open_; obtain ⟨r0,r1,r2,z0,z1,z2⟩:=(Q2.out.below' B5.out).three; have hS:=iy (Q0.out.below' B5.out) (Q1.out.below' B5.out); have TA:=Lib.hid t5a; have TB:=Lib.hid t5b; have TC:=Lib.hid t5c; have TD:=Lib.hid t5d; clear t5 t5a t5b t5c t5d hb5))
  go_wp2_with fail
  refine bodyPost_ret (v:=.agg #[.bool (ap (mkRat (dV s (q.num.natAbs * r.den + r.num.natAbs * q.den)) (q.den * r.den))),.slice A3 m3 c3,.slice A3' m3' c3']) (by simp [results,Tryz.results126,go_sem,r0,r1,r2]) rfl ⟨_,rfl,?_,ar (PB.out.trans ((B3.out.trans (B5.out.mono hs3)).mono (by omega))) (by omega) _ _ _⟩
  rw [HQ.out]
  have hb4:=B4.out.size
  exact (cg.box3 TA.out TB.out TC.out TD.out (by omega) _ _ _).mono (by omega)
 have hst':(s == t) = false:=by simpa using hst
 rcases Nat.lt_or_ge (q.num.natAbs * r.den) (r.num.natAbs * q.den) with hlt | hge
 ·have HQ:=Lib.hid (LESS.out hst hlt)
  have CM:=Lib.hid (iq w3 _ _ _ _ T1''.out T2''.out)
  have hcm:=fP hlt
  rw [hcm] at CM
  have HLE:=Lib.hid (Nat.le_of_lt hlt)
  have XS:Hid (r.num.natAbs * q.den - q.num.natAbs * r.den < 2 ^ (k + k)):=Lib.hid (by have:=X2.out; omega)
  clear hcm hlt hst
  go_upto_region 4 with fail
  go_wp2_with (go_at_call 180; refine CM.out.mono ?_; rintro e w' ⟨rfl,nd,rfl⟩)
  go_region_held3 (fun w'=>w'.cell? ⟨w.heap.size,0,none⟩ = some (.bool s)/\w'.cell? ⟨w.heap.size,1,none⟩ = some (.slice A m c)/\w'.cell? ⟨w.heap.size,2,none⟩ = some (.slice A' m' c')/\w'.cell? ⟨w.heap.size + 1,0,none⟩ = some (.bool t)/\w'.cell? ⟨w.heap.size + 1,1,none⟩ = some (.slice C n d)/\w'.cell? ⟨w.heap.size + 1,2,none⟩ = some (.slice C' n' d')) (first | assumption | (refine da hS ?_ ?_ _ _ _ <;> omega) | go_keep)
   (first
    | (go_at_call 191; refine (sub _ _ _ _ _ (k + k) ?_ ?_ X2.out HLE.out (by omega)).mono ?_; (exact T2''.out); (exact T1''.out); rintro e w4 ⟨v4,rfl,t4,hb4'⟩; have hb4:Below w3.heap.size w3 w4:=(by first | exact hb4' | exact ah hb4' | exact aN hb4' | exact aN (ah hb4')); have B4:=Lib.hid hb4; have hS:=iy (Q0.out.below' hb4) (Q1.out.below' hb4); have T4:=Lib.hid t4; have T4':=Lib.hid (T3.out.below hb4); clear t4 hb4 hb4')
    | (go_at_call 181; refine (kU w4 t _ _ _ _ (k + k) T4.out T4'.out XS.out X3.out (by omega) DP.out).mono ?_; rintro e w5 ⟨v5,rfl,t5,hb5⟩; have B5:=Lib.hid (B4.out.trans (hb5.mono B4.out.size)); obtain ⟨A3,m3,c3,A3',m3',c3',rfl,t5a,t5b,t5c,t5d⟩:=t5.open_; obtain ⟨r0,r1,r2,z0,z1,z2⟩:=(Q2.out.below' B5.out).three; have hS:=iy (Q0.out.below' B5.out) (Q1.out.below' B5.out); have TA:=Lib.hid t5a; have TB:=Lib.hid t5b; have TC:=Lib.hid t5c; have TD:=Lib.hid t5d; clear t5 t5a t5b t5c t5d hb5))
  go_wp2_with fail
  refine bodyPost_ret (v:=.agg #[.bool (ap (mkRat (dV t (r.num.natAbs * q.den - q.num.natAbs * r.den)) (q.den * r.den))),.slice A3 m3 c3,.slice A3' m3' c3']) (by simp [results,Tryz.results126,go_sem,r0,r1,r2]) rfl ⟨_,rfl,?_,ar (PB.out.trans ((B3.out.trans (B5.out.mono hs3)).mono (by omega))) (by omega) _ _ _⟩
  rw [HQ.out]
  have hb4:=B4.out.size
  exact (cg.box3 TA.out TB.out TC.out TD.out (by omega) _ _ _).mono (by omega)
 have HQ:=Lib.hid (MORE.out hst hge)
 have CM:=Lib.hid (iq w3 _ _ _ _ T1''.out T2''.out)
 have hcm:=vf hge
 generalize fK (q.num.natAbs * r.den) (r.num.natAbs * q.den) = cc at *
 have HLE:=Lib.hid hge
 have XS:Hid (q.num.natAbs * r.den - r.num.natAbs * q.den < 2 ^ (k + k)):=Lib.hid (by have:=X1.out; omega)
 clear hge hst
 go_upto_region 4 with fail
 go_wp2_with (go_at_call 180; refine CM.out.mono ?_; rintro e w' ⟨rfl,nd,rfl⟩)
 go_region_held3 (fun w'=>w'.cell? ⟨w.heap.size,0,none⟩ = some (.bool s)/\w'.cell? ⟨w.heap.size,1,none⟩ = some (.slice A m c)/\w'.cell? ⟨w.heap.size,2,none⟩ = some (.slice A' m' c')/\w'.cell? ⟨w.heap.size + 1,0,none⟩ = some (.bool t)/\w'.cell? ⟨w.heap.size + 1,1,none⟩ = some (.slice C n d)/\w'.cell? ⟨w.heap.size + 1,2,none⟩ = some (.slice C' n' d')) (first | assumption | (refine da hS ?_ ?_ _ _ _ <;> omega) | go_keep)
  (first
   | (go_at_call 191; refine (sub _ _ _ _ _ (k + k) ?_ ?_ X1.out HLE.out (by omega)).mono ?_; (exact T1''.out); (exact T2''.out); rintro e w4 ⟨v4,rfl,t4,hb4'⟩; have hb4:Below w3.heap.size w3 w4:=(by first | exact hb4' | exact ah hb4' | exact aN hb4' | exact aN (ah hb4')); have B4:=Lib.hid hb4; have hS:=iy (Q0.out.below' hb4) (Q1.out.below' hb4); have T4:=Lib.hid t4; have T4':=Lib.hid (T3.out.below hb4); clear t4 hb4 hb4')
   | (go_at_call 181; refine (kU w4 s _ _ _ _ (k + k) T4.out T4'.out XS.out X3.out (by omega) DP.out).mono ?_; rintro e w5 ⟨v5,rfl,t5,hb5⟩; have B5:=Lib.hid (B4.out.trans (hb5.mono B4.out.size)); obtain ⟨A3,m3,c3,A3',m3',c3',rfl,t5a,t5b,t5c,t5d⟩:=t5.open_; obtain ⟨r0,r1,r2,z0,z1,z2⟩:=(Q2.out.below' B5.out).three; have hS:=iy (Q0.out.below' B5.out) (Q1.out.below' B5.out); have TA:=Lib.hid t5a; have TB:=Lib.hid t5b; have TC:=Lib.hid t5c; have TD:=Lib.hid t5d; clear t5 t5a t5b t5c t5d hb5))
 go_wp2_with fail
 refine bodyPost_ret (v:=.agg #[.bool (ap (mkRat (dV s (q.num.natAbs * r.den - r.num.natAbs * q.den)) (q.den * r.den))),.slice A3 m3 c3,.slice A3' m3' c3']) (by simp [results,Tryz.results126,go_sem,r0,r1,r2]) rfl ⟨_,rfl,?_,ar (PB.out.trans ((B3.out.trans (B5.out.mono hs3)).mono (by omega))) (by omega) _ _ _⟩
 rw [HQ.out]
 have hb4:=B4.out.size
 exact (cg.box3 TA.out TB.out TC.out TD.out (by omega) _ _ _).mono (by omega)
theorem CJ (q:Rat):ap (-q) = (!ap q && decide (0 < q.num.natAbs)):=by
 unfold ap
 rw [Rat.neg_num,Bool.eq_iff_iff]
 simp only [decide_eq_true_eq,Bool.and_eq_true,Bool.not_eq_true',decide_eq_false_iff_not]
 omega

theorem E4 (w:World) (v:Value) (q:Rat)(h:dU w v q) :
  Calls Tryz.prog 127 #[v] w fun e w'=>∃ v',e = .returned v'/\dU w' v' (-q)/\Below w.heap.size w w':=by
 obtain ⟨A,m,c,A',m',c',rfl,hm,hm',hp,h1,h2⟩:=h.open_
 have H1:=Lib.hid h1
 have H2:=Lib.hid h2
 have HN:=Lib.hid (CJ q)
 have HP:Hid (∀ W,ab W (.slice A m c) q.num.natAbs->ab W (.slice A m c) (-q).num.natAbs):=Lib.hid (fun W h=>by rwa [Rat.neg_num,Int.natAbs_neg])
 have HE:Hid (decide (0 < q.num.natAbs) = decide (0 < m)):=Lib.hid (decide_eq_decide.2 hp.symm)
 clear h h1 h2 hp
 generalize ap q = s at *
 go_enter Tryz.func127,Tryz.ntmps127
 go_upto_region 1 with fail
 obtain ⟨W,hW,P0,P1,PB,Phs⟩:=jz w 185 [.bool s,.slice A m c,.slice A' m' c'] 185 [.bool false,.slice none 0 0,.slice none 0 0]
 rw [<- hW]
 clear hW
 obtain ⟨p0,p1,p2,_,_,_⟩:=P0.out.three
 obtain ⟨r0,r1,r2,z0,z1,z2⟩:=P1.out.three
 cases s
 ·by_cases h:0 < m
  ·go_wp2_with fail
   refine bodyPost_ret (v:=.agg #[.bool true,.slice A m c,.slice A' m' c']) (by simp [results,Tryz.results127,go_sem,r0,r1,r2]) rfl ⟨_,rfl,⟨.slice A m c,.slice A' m' c',by rw [HN.out,HE.out]; simp [h],?_,?_⟩,ar PB.out (Nat.le_succ _) _ _ _⟩
   ·exact HP.out _ ((H1.out.below PB.out).box3off (H1.out.off (Nat.le_succ _)) _ _ _)
   exact (H2.out.below PB.out).box3off (H2.out.off (Nat.le_succ _)) _ _ _
  go_wp2_with fail
  refine bodyPost_ret (v:=.agg #[.bool false,.slice A m c,.slice A' m' c']) (by simp [results,Tryz.results127,go_sem,r0,r1,r2]) rfl ⟨_,rfl,⟨.slice A m c,.slice A' m' c',by rw [HN.out,HE.out]; simp [h],?_,?_⟩,ar PB.out (Nat.le_succ _) _ _ _⟩
  ·exact HP.out _ ((H1.out.below PB.out).box3off (H1.out.off (Nat.le_succ _)) _ _ _)
  exact (H2.out.below PB.out).box3off (H2.out.off (Nat.le_succ _)) _ _ _
 go_wp2_with fail
 refine bodyPost_ret (v:=.agg #[.bool false,.slice A m c,.slice A' m' c']) (by simp [results,Tryz.results127,go_sem,r0,r1,r2]) rfl ⟨_,rfl,⟨.slice A m c,.slice A' m' c',by rw [HN.out]; simp,?_,?_⟩,ar PB.out (Nat.le_succ _) _ _ _⟩
 ·exact HP.out _ ((H1.out.below PB.out).box3off (H1.out.off (Nat.le_succ _)) _ _ _)
 exact (H2.out.below PB.out).box3off (H2.out.off (Nat.le_succ _)) _ _ _

theorem IQ (q:Rat)(h:q ≠ 0):q⁻¹.num.natAbs = q.den/\q⁻¹.den = q.num.natAbs/\ap q⁻¹ = ap q:=by
 have h0:q.num ≠ 0:=fun e=>h (Rat.num_eq_zero.1 e)
 have hd:=q.den_pos
 refine ⟨?_,?_,?_⟩
 ·rw [Rat.num_inv,Int.natAbs_mul,Int.natAbs_natCast,Int.natAbs_sign_of_ne_zero h0,Nat.one_mul]
 ·rw [Rat.den_inv,if_neg h0]
 unfold ap
 rw [Rat.num_inv]
 rcases Int.lt_or_gt_of_ne h0 with h1 | h1
 ·rw [Int.sign_eq_neg_one_of_neg h1]; simp [h1]; omega
 rw [Int.sign_eq_one_of_pos h1]; simp; omega

theorem Fh (w:World) (v:Value) (q:Rat)(h:dU w v q)(h0:q ≠ 0) :
  Calls Tryz.prog 223 #[v] w fun e w'=>∃ v',e = .returned v'/\dU w' v' (q⁻¹)/\Below w.heap.size w w':=by
 obtain ⟨A,m,c,A',m',c',rfl,hm,hm',hp,h1,h2⟩:=h.open_
 have H1:=Lib.hid h1
 have H2:=Lib.hid h2
 have HI:=Lib.hid (IQ q h0)
 clear h h1 h2 hp h0
 generalize ap q = s at *
 go_enter Tryz.func223,Tryz.ntmps223
 go_upto_region 1 with fail
 obtain ⟨W,hW,P0,P1,PB,Phs⟩:=jz w 185 [.bool s,.slice A m c,.slice A' m' c'] 185 [.bool false,.slice none 0 0,.slice none 0 0]
 rw [<- hW]
 clear hW
 obtain ⟨p0,p1,p2,_,_,_⟩:=P0.out.three
 obtain ⟨r0,r1,r2,z0,z1,z2⟩:=P1.out.three
 go_wp2_with fail
 refine bodyPost_ret (v:=.agg #[.bool s,.slice A' m' c',.slice A m c]) (by simp [results,Tryz.results223,go_sem,r0,r1,r2]) rfl ⟨_,rfl,⟨_,_,by rw [HI.out.2.2],?_,?_⟩,ar PB.out (Nat.le_succ _) _ _ _⟩
 ·rw [HI.out.1]
  exact (H2.out.below PB.out).box3off (H2.out.off (Nat.le_succ _)) _ _ _
 rw [HI.out.2.1]
 exact (H1.out.below PB.out).box3off (H1.out.off (Nat.le_succ _)) _ _ _

theorem DJ (w:World) (v:Value) (q:Rat)(h:dU w v q) :
  Calls Tryz.prog 189 #[v] w fun e w'=>e = .returned (.bool (decide (q = 0)))/\Below w.heap.size w w':=by
 obtain ⟨A,m,c,A',m',c',rfl,hm,hm',hp,h1,h2⟩:=h.open_
 have HE:Hid (decide (q = 0) = decide (m = 0)):=Lib.hid (decide_eq_decide.2 (by rw [<- Rat.num_eq_zero]; omega))
 have HW:Hid (∀ o,Below w.heap.size w (w.alloc o)):=Lib.hid (fun o=>(Below.refl _ _).alloc (Nat.le_refl _) o)
 clear h h1 h2 hp
 generalize ap q = s at *
 go_enter Tryz.func189,Tryz.ntmps189
 go_wp2_with fail
 go_ret
 rw [HE.out]
 refine ⟨?_,HW.out _⟩
 by_cases h:m = 0 <;> simp [h]

def ce (q:Rat):Int:=if q = 0 then 0 else if q < 0 then -1 else 1

theorem Ka (w:World) (v:Value) (q:Rat)(h:dU w v q) :
  Calls Tryz.prog 125 #[v] w fun e w'=>e = .returned (.int .i64 (ce q))/\Below w.heap.size w w':=by
 have HZ:=Lib.hid h
 obtain ⟨A,m,c,A',m',c',rfl,hm,hm',hp,h1,h2⟩:=h.open_
 have HS:Hid (ce q = if q = 0 then 0 else if ap q = true then -1 else 1):=Lib.hid (by unfold ce; simp only [s8])
 clear h h1 h2 hp
 obtain ⟨s,hs⟩:∃ b,ap q = b:=⟨_,rfl⟩
 have HSN:=Lib.hid hs
 rw [hs]
 clear hs
 go_enter Tryz.func125,Tryz.ntmps125
 go_upto_region 1 with fail
 obtain ⟨W,hW,P0,PB,Phs⟩:=eU w 185 [.bool s,.slice A m c,.slice A' m' c']
 rw [<- hW]
 clear hW
 obtain ⟨p0,p1,p2,_,_,_⟩:=P0.out.three
 have NZ:Hid (dU W (.agg #[.bool s,.slice A m c,.slice A' m' c']) q):=Lib.hid (by have:=HZ.out.below PB.out; rwa [HSN.out] at this)
 by_cases h0:q = 0
 ·have hs:ce q = 0:=by rw [HS.out,if_pos h0]
  have ZC:=DJ W _ q NZ.out
  rw [decide_eq_true h0] at ZC
  have HZC:=Lib.hid ZC
  have HSS:=Lib.hid hs
  clear hs ZC h0
  go_wp2_with (go_at_call 189; refine HZC.out.mono ?_; rintro e w1 ⟨rfl,hb1⟩)
  go_ret
  exact ⟨aq HSS.out.symm,PB.out.trans (hb1.mono (by omega))⟩
 have hs:ce q = if s = true then -1 else 1:=by rw [HS.out,if_neg h0,HSN.out]
 have ZC:=DJ W _ q NZ.out
 rw [decide_eq_false h0] at ZC
 have HZC:=Lib.hid ZC
 have HSS:=Lib.hid hs
 clear hs ZC h0
 cases s
 ·go_wp2_with (go_at_call 189; refine HZC.out.mono ?_; rintro e w1 ⟨rfl,hb1⟩; have BB:=Lib.hid hb1; obtain ⟨p0',p1',p2',_,_,_⟩:=(P0.out.below' hb1).three; clear hb1)
  go_ret
  exact ⟨aq HSS.out.symm,PB.out.trans (BB.out.mono (by omega))⟩
 go_wp2_with (go_at_call 189; refine HZC.out.mono ?_; rintro e w1 ⟨rfl,hb1⟩; have BB:=Lib.hid hb1; obtain ⟨p0',p1',p2',_,_,_⟩:=(P0.out.below' hb1).three; clear hb1)
 go_ret
 exact ⟨aq HSS.out.symm,PB.out.trans (BB.out.mono (by omega))⟩

theorem yE (w:World) (n:Nat)(hn:n < 9223372036854775808) :
  Calls Tryz.prog 109 #[.int .i64 (n:Int)] w fun e w'=>∃ v',e = .returned v'/\cg w.heap.size w' v' (n:Rat)/\Below w.heap.size w w':=by
 have HI:Hid ((n:Rat).num.natAbs = n/\(n:Rat).den = 1/\ap (n:Rat) = false):=Lib.hid ⟨by simp,by simp,by unfold ap; exact decide_eq_false (by show ¬ ((n:Int) < 0); omega)⟩
 go_enter Tryz.func109,Tryz.ntmps109
 go_wp2_with fail
 obtain ⟨W,hW,P0,PB,Phs⟩:=eU w 185 [.bool false,.slice none 0 0,.slice none 0 0]
 rw [<- hW]
 clear hW
 refine (yO W n (by omega)).mono ?_
 rintro e w1 ⟨v1,rfl,t1,hb1,f1⟩
 have T1:=Lib.hid t1
 have B1:=Lib.hid hb1
 have F1:=Lib.hid f1
 clear t1 hb1 f1
 go_wp2_with fail
 refine (yO w1 1 (by omega)).mono ?_
 rintro e w2 ⟨v2,rfl,t2,hb2,f2⟩
 have B2:=Lib.hid (B1.out.trans (hb2.mono B1.out.size))
 obtain ⟨A,m,c,rfl,_⟩:=T1.out.len
 obtain ⟨A',m',c',rfl,_⟩:=t2.len
 have T1':=Lib.hid (T1.out.below hb2)
 have T2:=Lib.hid t2
 have F2:=Lib.hid (f2.mono B1.out.size)
 obtain ⟨r0,r1,r2,z0,z1,z2⟩:=(P0.out.below' B2.out).three
 clear t2 hb2 f2
 go_wp2_with fail
 refine bodyPost_ret (v:=.agg #[.bool false,.slice A m c,.slice A' m' c']) (by simp [results,Tryz.results109,go_sem,r0,r1,r2]) rfl ⟨_,rfl,⟨_,_,by rw [HI.out.2.2],?_,?_,F1.out.mono (by omega),F2.out.mono (by omega)⟩,ar (PB.out.trans (B2.out.mono (by omega))) (Nat.le_refl _) _ _ _⟩
 ·rw [HI.out.1]
  exact T1'.out.box3 (F1.out.mono (by omega)) _ _ _
 rw [HI.out.2.1]
 exact T2.out.box3 (F2.out.mono (by omega)) _ _ _
end Go.Proofs.YtkdhppimhdemjaaGreat
