/- Lemmas on the way: Frac4, Nat3, Frac5, Frac6. -/
import Derived.Test.YtdehimgccmbfkaaGreatT20
set_option linter.all false
set_option maxRecDepth 1000000
set_option maxHeartbeats 32000000
namespace Go.Proofs.YtdehimgccmbfkaaGreat
open Go.RowKit
theorem six {w:World} {g g':Nat} {e e':TypeId} {a b c a' b' c':Value} (h:Blk w g e [a,b,c]) (h':Blk w g' e' [a',b',c']) :
  w.cell? ⟨g,0,none⟩ = some a/\w.cell? ⟨g,1,none⟩ = some b/\w.cell? ⟨g,2,none⟩ = some c/\w.cell? ⟨g',0,none⟩ = some a'/\w.cell? ⟨g',1,none⟩ = some b'/\w.cell? ⟨g',2,none⟩ = some c' :=
 ⟨h.three.1,h.three.2.1,h.three.2.2.1,h'.three.1,h'.three.2.1,h'.three.2.2.1⟩

theorem six_box3 {w:World} {g g' B:Nat} {a b c a' b' c':Value}
  (h:w.cell? ⟨g,0,none⟩ = some a/\w.cell? ⟨g,1,none⟩ = some b/\w.cell? ⟨g,2,none⟩ = some c/\w.cell? ⟨g',0,none⟩ = some a'/\w.cell? ⟨g',1,none⟩ = some b'/\w.cell? ⟨g',2,none⟩ = some c')
  (hg:g ≠ B) (hg':g' ≠ B) (u0 u1 u2:Value) :
  (((w.setCell ⟨B,0,none⟩ u0).setCell ⟨B,1,none⟩ u1).setCell ⟨B,2,none⟩ u2).cell? ⟨g,0,none⟩ = some a/\(((w.setCell ⟨B,0,none⟩ u0).setCell ⟨B,1,none⟩ u1).setCell ⟨B,2,none⟩ u2).cell? ⟨g,1,none⟩ = some b/\(((w.setCell ⟨B,0,none⟩ u0).setCell ⟨B,1,none⟩ u1).setCell ⟨B,2,none⟩ u2).cell? ⟨g,2,none⟩ = some c/\(((w.setCell ⟨B,0,none⟩ u0).setCell ⟨B,1,none⟩ u1).setCell ⟨B,2,none⟩ u2).cell? ⟨g',0,none⟩ = some a'/\(((w.setCell ⟨B,0,none⟩ u0).setCell ⟨B,1,none⟩ u1).setCell ⟨B,2,none⟩ u2).cell? ⟨g',1,none⟩ = some b'/\(((w.setCell ⟨B,0,none⟩ u0).setCell ⟨B,1,none⟩ u1).setCell ⟨B,2,none⟩ u2).cell? ⟨g',2,none⟩ = some c' :=
 ⟨cell_box3 h.1 hg _ _ _,cell_box3 h.2.1 hg _ _ _,cell_box3 h.2.2.1 hg _ _ _,cell_box3 h.2.2.2.1 hg' _ _ _,cell_box3 h.2.2.2.2.1 hg' _ _ _,cell_box3 h.2.2.2.2.2 hg' _ _ _⟩

theorem mulN (w:World) (v v':Value) (q r:Rat) (k:Nat)(h:NumAt w v q) (h':NumAt w v' r)(hb:QB k q) (hb':QB k r)(hk:k <= 8796093022208) :
  Calls Tryz.prog 150 #[v,v'] w fun e w'=>∃ v',e = .returned v'/\NumNew w.heap.size w' v' (q * r)/\Below w.heap.size w w':=by
 obtain ⟨A,m,c,A',m',c',rfl,hm,hm',hp,h1,h2⟩:=h.open_
 obtain ⟨C,n,d,C',n',d',rfl,hn,hn',hp',h1',h2'⟩:=h'.open_
 have H1:=Lib.hid h1
 have H2:=Lib.hid h2
 have H1':=Lib.hid h1'
 have H2':=Lib.hid h2'
 have HB:=Lib.hid hb
 have HB':=Lib.hid hb'
 have MS:=Lib.hid (mul_sgn q r)
 have DP:Hid (0 < q.den * r.den):=Lib.hid (Nat.mul_pos q.den_pos r.den_pos)
 clear h h' h1 h2 h1' h2' hb hb' hp hp' hn hn' hm hm'
 generalize isNeg q = s at *
 generalize isNeg r = t at *
 go_enter Tryz.func150,Tryz.ntmps150
 go_upto_region 1 with fail
 obtain ⟨W,hW,P0,P1,P2,PB,Phs⟩:=box3 w 196 [.bool s,.slice A m c,.slice A' m' c'] 196 [.bool t,.slice C n d,.slice C' n' d'] 196 [.bool false,.slice none 0 0,.slice none 0 0]
 rw [<- hW]
 clear hW
 have N1:=Lib.hid (H1.out.below PB.out)
 have N2:=Lib.hid (H2.out.below PB.out)
 have N1':=Lib.hid (H1'.out.below PB.out)
 have N2':=Lib.hid (H2'.out.below PB.out)
 obtain ⟨p0,p1,p2,_,_,_⟩:=P0.out.three
 obtain ⟨q0,q1,q2,_,_,_⟩:=P1.out.three
 go_region_held3 (fun w'=>w'.cell? ⟨w.heap.size,0,none⟩ = some (.bool s)/\w'.cell? ⟨w.heap.size,1,none⟩ = some (.slice A m c)/\w'.cell? ⟨w.heap.size,2,none⟩ = some (.slice A' m' c')/\w'.cell? ⟨w.heap.size + 1,0,none⟩ = some (.bool t)/\w'.cell? ⟨w.heap.size + 1,1,none⟩ = some (.slice C n d)/\w'.cell? ⟨w.heap.size + 1,2,none⟩ = some (.slice C' n' d')) (first | assumption | (refine six_box3 hS ?_ ?_ _ _ _ <;> omega) | go_keep)
  (first
   | (go_at_call_of 189 (Value.slice A m c); refine (mul _ _ _ _ _ k k ?_ ?_ HB.out.1 HB'.out.1 (by omega) (by omega)).mono ?_; (exact N1.out.drew); (exact N1'.out.drew); rintro e w1 ⟨v1,rfl,t1,hb1'⟩; have hb1:=below_of_drew hb1'; have hS:=six (P0.out.below' hb1) (P1.out.below' hb1); have T1:=Lib.hid t1; have B1:=Lib.hid hb1; clear t1 hb1 hb1')
   | (go_at_call_of 189 (Value.slice A' m' c'); refine (mul w1 _ _ _ _ k k (N2.out.below B1.out) (N2'.out.below B1.out) HB.out.2 HB'.out.2 (by omega) (by omega)).mono ?_; rintro e w2 ⟨v2,rfl,t2,hb2⟩; have B2:=Lib.hid (B1.out.trans (hb2.mono B1.out.size)); have T1':=Lib.hid (T1.out.below hb2); have T2:=Lib.hid t2; have hS:=six (P0.out.below' B2.out) (P1.out.below' B2.out); clear t2 hb2)
   | (go_at_call 184; refine (reduced w2 (s != t) _ _ _ _ (k + k) T1'.out T2.out (pow_mul_lt HB.out.1 HB'.out.1) (pow_mul_lt HB.out.2 HB'.out.2) (by omega) DP.out).mono ?_; rintro e w3 ⟨v3,rfl,t3,hb3⟩; have B3:=Lib.hid (B2.out.trans (hb3.mono B2.out.size)); obtain ⟨A3,m3,c3,A3',m3',c3',rfl,t3a,t3b,t3c,t3d⟩:=t3.open_; obtain ⟨r0,r1,r2,z0,z1,z2⟩:=(P2.out.below' B3.out).three; have hS:=six (P0.out.below' B3.out) (P1.out.below' B3.out); have TA:=Lib.hid t3a; have TB:=Lib.hid t3b; have TC:=Lib.hid t3c; have TD:=Lib.hid t3d; clear t3 t3a t3b t3c t3d hb3))
 go_wp2_with fail
 refine bodyPost_ret (v:=.agg #[.bool (isNeg (mkRat (sgn (s != t) (q.num.natAbs * r.num.natAbs)) (q.den * r.den))),.slice A3 m3 c3,.slice A3' m3' c3']) (by simp [results,Tryz.results150,go_sem,r0,r1,r2]) rfl ⟨_,rfl,?_,below_box3 (PB.out.trans (B3.out.mono (by omega))) (by omega) _ _ _⟩
 rw [MS.out]
 have hb2:=B2.out.size
 exact (NumNew.box3 TA.out TB.out TC.out TD.out (by omega) _ _ _).mono (by omega)
def AddTo (l m o:List Nat) (k c:Nat):Prop:=Ok o/\c <= 1/\val (o.take k) + 4294967296 ^ k * c = val (l.take k) + val (m.take k)

theorem AddTo.step {l m o:List Nat} {k c x y:Nat} (h:AddTo l m o k c)(hx:l.getD k 0 = x)(hy:m.getD k 0 = y) (xl:x < 4294967296) (yl:y < 4294967296)(hk:k < o.length) :
  AddTo l m (o.set k ((c + x + y) % 4294967296)) (k + 1) ((c + x + y) / 4294967296):=by
 obtain ⟨h1,h2,h3⟩:=h
 refine ⟨h1.set _ _ (Nat.mod_lt _ (by omega)),by omega,?_⟩
 rw [take_set_succ o hk,val_snoc,val_take_succ,val_take_succ,hx,hy,List.length_take,Nat.min_eq_left (by omega)]
 have e:=Nat.div_add_mod (c + x + y) 4294967296
 generalize (c + x + y) / 4294967296 = q at *
 generalize (c + x + y) % 4294967296 = r at *
 have e2:4294967296 ^ k * (c + x + y) = 4294967296 ^ k * (4294967296 * q + r):=by rw [e]
 rw [Nat.pow_succ]
 grind

theorem AddTo.done {l m o:List Nat} {k c:Nat} (h:AddTo l m o k c)(hl:Ok l)(hm:Ok m)(ho:o.length = k)(h1:l.length + 1 <= k)(h2:m.length + 1 <= k):val o = val l + val m:=by
 obtain ⟨_,_,h3⟩:=h
 rw [val_take_all (by omega),val_take_all (by omega),val_take_all (by omega)] at h3
 have a1:=val_lt l hl
 have a2:=val_lt m hm
 have a3:4294967296 ^ l.length <= 4294967296 ^ (k - 1):=Nat.pow_le_pow_right (by omega) (by omega)
 have a4:4294967296 ^ m.length <= 4294967296 ^ (k - 1):=Nat.pow_le_pow_right (by omega) (by omega)
 have a5:4294967296 ^ k = 4294967296 ^ (k - 1) * 4294967296:=by rw [<- Nat.pow_succ]; congr 1; omega
 have a6:c = 0:=by
  rcases Nat.eq_zero_or_pos c with h | h
  ·exact h
  have:4294967296 ^ k * 1 <= 4294967296 ^ k * c:=Nat.mul_le_mul_left _ h
  omega
 subst a6
 omega

theorem add (w:World) (va vb:Value) (a b k:Nat)(ha:NatAt w va a)(hb:NatAt w vb b) (la:a < 2 ^ k) (lb:b < 2 ^ k)(hk:k <= 70368744177664) :
  Calls Tryz.prog 190 #[va,vb] w fun e w'=>∃ v',e = .returned v'/\NatAt w' v' (a + b)/\Below w.heap.size w w':=by
 obtain ⟨l,dl,tl,rfl⟩:=ha
 obtain ⟨m,dm,tm,rfl⟩:=hb
 have ll:=tl.length_le la
 have lm:=tm.length_le lb
 clear la lb tl tm
 obtain ⟨okl,A,ca,rfl,hlc,hcm,hA⟩:=dl.open_
 obtain ⟨okm,B,cb,rfl,hmc,hcm',hB⟩:=dm.open_
 clear dl dm
 have HA:=Lib.hid hA
 have HB:=Lib.hid hB
 clear hA hB
 have HO:=Lib.hid okl
 have HP:=Lib.hid okm
 clear okl okm
 obtain ⟨n,hn⟩:∃ n,l.length = n:=⟨_,rfl⟩
 obtain ⟨p,hp⟩:∃ p,m.length = p:=⟨_,rfl⟩
 rw [hn] at hlc ll ⊢
 rw [hp] at hmc lm ⊢
 have HN:=Lib.hid hn
 have HQ:=Lib.hid hp
 clear hn hp
 obtain ⟨i0,hi,hz0,hz1,hz2⟩:=info_parts infoU32
 obtain ⟨N,hN1,hN2,hN3⟩:∃ N:Nat,n + 1 <= N/\p + 1 <= N/\(N <= n + 1 ∨ N <= p + 1):=⟨max n p + 1,by omega,by omega,by omega⟩
 go_enter Tryz.func190,Tryz.ntmps190
 go_wp2_with (at_make; refine wpList_make_blk rfl _ _ 29 rfl 182 i0 (.int .u32 0) 4 Tryz.underlying29 hi hz0 hz1 hz2 rfl .i64 .i64 _ _ N rfl rfl (by omega) (by omega) (by omega) (by unfold maxLen; omega) ?_)
 all_goals
  intro w1 hblk hbel
  go_wp2_with fail
  go_loopw [6,17] (fun c i wr=>∃ (k cc:Nat) (o:List Nat),i = .int .i64 k/\c = .int .u64 cc/\k <= N/\o.length = N/\AddTo l m o k cc/\Blk wr w.heap.size 182 (o.map dg)/\Below w.heap.size w wr)
   (fun _ i _=>N - (intOf i).toNat)
  case atStart=>exact ⟨0,0,List.replicate N 0,rfl,rfl,by omega,by simp,⟨Ok.replicate _,by omega,by simp [val]⟩,by simpa [dg] using hblk,hbel⟩
  clear hblk hbel
  obtain ⟨k,cc,o,rfl,rfl,hk,ho,ha,hblk,hbel⟩:=hrel
  have HL:=Lib.hid ho
  clear ho
  have hcc:=ha.2.1
  have HK:=Lib.hid ha
  have HG:=Lib.hid hblk
  clear ha
  by_cases hlt:k < N
  ·obtain ⟨x,hx⟩:∃ x,l.getD k 0 = x:=⟨_,rfl⟩
   obtain ⟨y,hy⟩:∃ y,m.getD k 0 = y:=⟨_,rfl⟩
   have hx0:x < 4294967296:=by rw [<- hx]; exact HO.out.getD k
   have hy0:y < 4294967296:=by rw [<- hy]; exact HP.out.getD k
   have hz:=HG.out.cellDig (k:=k) (by rw [HL.out]; exact hlt)
   have hfz:=HG.out.frozen k
   have step:=HK.out.step hx hy hx0 hy0 (by rw [HL.out]; exact hlt)
   have STEP:=Lib.hid step
   have hcx:=dig_cell HA.out HN.out hbel k x hx
   have hcy:=dig_cell HB.out HQ.out hbel k y hy
   have HB2:=Lib.hid hbel
   clear hx hy step hblk hbel
   rcases hcx with ⟨h1,b,off,rfl,hb,hc1⟩ | ⟨h1,hx⟩ <;> rcases hcy with ⟨h2,b',off',rfl,hb',hc2⟩ | ⟨h2,hy⟩
   all_goals
    (go_wp2_with fail) <;> exact ⟨⟨k + 1,(cc + x + y) / 4294967296,o.set k ((cc + x + y) % 4294967296),int_eq (by omega),int_eq (by omega),by omega,by rw [List.length_set]; exact HL.out,STEP.out,HG.out.setDig (by omega),HB2.out.setCell (p:=⟨w.heap.size,k,none⟩) (Nat.le_refl _) _⟩,by simp [intOf]; omega⟩
  obtain rfl:k = N:=by omega
  have hd:=HG.out.digAt HK.out.1 HL.out (Nat.le_refl _) (by omega)
  have hv:=HK.out.done HO.out HP.out HL.out (by rw [HN.out]; omega) (by rw [HQ.out]; omega)
  have HD:=Lib.hid hd
  have HV:=Lib.hid hv
  have HB2:=Lib.hid hbel
  clear hd hv hbel hblk
  go_wp2_with (go_at_call 182; refine (trimmed _ _ o HD.out (by rw [HL.out]; omega)).mono ?_; rintro e w' ⟨v',rfl,hv,hb⟩)
  go_ret
  rw [HV.out] at hv
  exact ⟨v',rfl,hv,HB2.out.trans (hb.mono HB2.out.size)⟩
theorem addN (w:World) (v v':Value) (q r:Rat) (k:Nat)(h:NumAt w v q) (h':NumAt w v' r)(hb:QB k q) (hb':QB k r)(hk:k <= 4398046511104) :
  Calls Tryz.prog 152 #[v,v'] w fun e w'=>∃ v',e = .returned v'/\NumNew w.heap.size w' v' (q + r)/\Below w.heap.size w w':=by
 obtain ⟨A,m,c,A',m',c',rfl,hm,hm',hp,h1,h2⟩:=h.open_
 obtain ⟨C,n,d,C',n',d',rfl,hn,hn',hp',h1',h2'⟩:=h'.open_
 have H1:=Lib.hid h1
 have H2:=Lib.hid h2
 have H1':=Lib.hid h1'
 have H2':=Lib.hid h2'
 have HB:=Lib.hid hb
 have HB':=Lib.hid hb'
 have DP:Hid (0 < q.den * r.den):=Lib.hid (Nat.mul_pos q.den_pos r.den_pos)
 have SAME:=Lib.hid (add_same q r)
 have LESS:=Lib.hid (add_less q r)
 have MORE:=Lib.hid (add_more q r)
 have X1:=Lib.hid (pow_mul_lt hb.1 hb'.2)
 have X2:=Lib.hid (pow_mul_lt hb'.1 hb.2)
 have X3:=Lib.hid (pow_mul_lt hb.2 hb'.2)
 clear h h' h1 h2 h1' h2' hb hb' hp hp' hn hn' hm hm'
 generalize isNeg q = s at *
 generalize isNeg r = t at *
 go_enter Tryz.func152,Tryz.ntmps152
 go_upto_region 1 with fail
 obtain ⟨W,hW,P0,P1,P2,PB,Phs⟩:=box3 w 196 [.bool s,.slice A m c,.slice A' m' c'] 196 [.bool t,.slice C n d,.slice C' n' d'] 196 [.bool false,.slice none 0 0,.slice none 0 0]
 rw [<- hW]
 clear hW
 have N1:=Lib.hid (H1.out.below PB.out)
 have N2:=Lib.hid (H2.out.below PB.out)
 have N1':=Lib.hid (H1'.out.below PB.out)
 have N2':=Lib.hid (H2'.out.below PB.out)
 obtain ⟨p0,p1,p2,_,_,_⟩:=P0.out.three
 obtain ⟨q0,q1,q2,_,_,_⟩:=P1.out.three
 go_region_held3 (fun w'=>w'.cell? ⟨w.heap.size,0,none⟩ = some (.bool s)/\w'.cell? ⟨w.heap.size,1,none⟩ = some (.slice A m c)/\w'.cell? ⟨w.heap.size,2,none⟩ = some (.slice A' m' c')/\w'.cell? ⟨w.heap.size + 1,0,none⟩ = some (.bool t)/\w'.cell? ⟨w.heap.size + 1,1,none⟩ = some (.slice C n d)/\w'.cell? ⟨w.heap.size + 1,2,none⟩ = some (.slice C' n' d')) (first | assumption | (refine six_box3 hS ?_ ?_ _ _ _ <;> omega) | go_keep)
  (first
   | (go_at_call_of 189 (Value.slice A m c); refine (mul _ _ _ _ _ k k ?_ ?_ HB.out.1 HB'.out.2 (by omega) (by omega)).mono ?_; (exact N1.out.drew); (exact N2'.out.drew); rintro e w1 ⟨v1,rfl,t1,hb1'⟩; have hb1:=below_of_drew hb1'; have hS:=six (P0.out.below' hb1) (P1.out.below' hb1); have T1:=Lib.hid t1; have B1:=Lib.hid hb1; clear t1 hb1 hb1')
   | (go_at_call_of 189 (Value.slice C n d); refine (mul w1 _ _ _ _ k k (N1'.out.below B1.out) (N2.out.below B1.out) HB'.out.1 HB.out.2 (by omega) (by omega)).mono ?_; rintro e w2 ⟨v2,rfl,t2,hb2⟩; have B2:=Lib.hid (B1.out.trans (hb2.mono B1.out.size)); have T1':=Lib.hid (T1.out.below hb2); have T2:=Lib.hid t2; have hS:=six (P0.out.below' B2.out) (P1.out.below' B2.out); clear t2 hb2)
   | (go_at_call 189; refine (mul w2 _ _ _ _ k k (N2.out.below B2.out) (N2'.out.below B2.out) HB.out.2 HB'.out.2 (by omega) (by omega)).mono ?_; rintro e w3 ⟨v3,rfl,t3,hb3⟩; have B3:=Lib.hid (B2.out.trans (hb3.mono B2.out.size)); have T1'':=Lib.hid (T1'.out.below hb3); have T2'':=Lib.hid (T2.out.below hb3); have T3:=Lib.hid t3; have hS:=six (P0.out.below' B3.out) (P1.out.below' B3.out); clear t3 hb3))
 have Q0:=Lib.hid (P0.out.below' B3.out)
 have Q1:=Lib.hid (P1.out.below' B3.out)
 have Q2:=Lib.hid (P2.out.below' B3.out)
 have hs3:=B3.out.size
 clear p0 p1 p2 q0 q1 q2
 obtain ⟨p0,p1,p2,q0,q1,q2⟩:=hS
 by_cases hst:s = t
 ·have hq:=SAME.out hst
  have HQ:=Lib.hid hq
  have XS:Hid (q.num.natAbs * r.den + r.num.natAbs * q.den < 2 ^ (k + k + 1)):=Lib.hid (by have:=X1.out; have:=X2.out; rw [Nat.pow_succ]; omega)
  have XD:Hid (q.den * r.den < 2 ^ (k + k + 1)):=Lib.hid (by have:=X3.out; rw [Nat.pow_succ]; omega)
  clear hq
  subst hst
  have hst:(s == s) = true:=by simp
  go_upto_region 3 with fail
  go_region_held3 (fun w'=>w'.cell? ⟨w.heap.size,0,none⟩ = some (.bool s)/\w'.cell? ⟨w.heap.size,1,none⟩ = some (.slice A m c)/\w'.cell? ⟨w.heap.size,2,none⟩ = some (.slice A' m' c')/\w'.cell? ⟨w.heap.size + 1,0,none⟩ = some (.bool s)/\w'.cell? ⟨w.heap.size + 1,1,none⟩ = some (.slice C n d)/\w'.cell? ⟨w.heap.size + 1,2,none⟩ = some (.slice C' n' d')) (first | assumption | (refine six_box3 hS ?_ ?_ _ _ _ <;> omega) | go_keep)
   (first
    | (go_at_call 190; refine (add _ _ _ _ _ (k + k) ?_ ?_ X1.out X2.out (by omega)).mono ?_; (exact T1''.out); (exact T2''.out); rintro e w4 ⟨v4,rfl,t4,hb4'⟩; have hb4:Below w3.heap.size w3 w4:=(by first | exact hb4' | exact below_of_drew hb4' | exact below_of_drewN hb4' | exact below_of_drewN (below_of_drew hb4')); have B4:=Lib.hid hb4; have hS:=six (Q0.out.below' hb4) (Q1.out.below' hb4); have T4:=Lib.hid t4; have T4':=Lib.hid (T3.out.below hb4); clear t4 hb4 hb4')
    | (go_at_call 184; refine (reduced w4 s _ _ _ _ (k + k + 1) T4.out T4'.out XS.out XD.out (by omega) DP.out).mono ?_; rintro e w5 ⟨v5,rfl,t5,hb5⟩; have B5:=Lib.hid (B4.out.trans (hb5.mono B4.out.size)); obtain ⟨A3,m3,c3,A3',m3',c3',rfl,t5a,t5b,t5c,t5d⟩:=t5.open_; obtain ⟨r0,r1,r2,z0,z1,z2⟩:=(Q2.out.below' B5.out).three; have hS:=six (Q0.out.below' B5.out) (Q1.out.below' B5.out); have TA:=Lib.hid t5a; have TB:=Lib.hid t5b; have TC:=Lib.hid t5c; have TD:=Lib.hid t5d; clear t5 t5a t5b t5c t5d hb5))
  go_wp2_with fail
  refine bodyPost_ret (v:=.agg #[.bool (isNeg (mkRat (sgn s (q.num.natAbs * r.den + r.num.natAbs * q.den)) (q.den * r.den))),.slice A3 m3 c3,.slice A3' m3' c3']) (by simp [results,Tryz.results152,go_sem,r0,r1,r2]) rfl ⟨_,rfl,?_,below_box3 (PB.out.trans ((B3.out.trans (B5.out.mono hs3)).mono (by omega))) (by omega) _ _ _⟩
  rw [HQ.out]
  have hb4:=B4.out.size
  exact (NumNew.box3 TA.out TB.out TC.out TD.out (by omega) _ _ _).mono (by omega)
 have hst':(s == t) = false:=by simpa using hst
 rcases Nat.lt_or_ge (q.num.natAbs * r.den) (r.num.natAbs * q.den) with hlt | hge
 ·have HQ:=Lib.hid (LESS.out hst hlt)
  have CM:=Lib.hid (compare w3 _ _ _ _ T1''.out T2''.out)
  have hcm:=cmpN_lt hlt
  rw [hcm] at CM
  have HLE:=Lib.hid (Nat.le_of_lt hlt)
  have XS:Hid (r.num.natAbs * q.den - q.num.natAbs * r.den < 2 ^ (k + k)):=Lib.hid (by have:=X2.out; omega)
  clear hcm hlt hst
  go_upto_region 4 with fail
  go_wp2_with (go_at_call 186; refine CM.out.mono ?_; rintro e w' ⟨rfl,nd,rfl⟩)
  go_region_held3 (fun w'=>w'.cell? ⟨w.heap.size,0,none⟩ = some (.bool s)/\w'.cell? ⟨w.heap.size,1,none⟩ = some (.slice A m c)/\w'.cell? ⟨w.heap.size,2,none⟩ = some (.slice A' m' c')/\w'.cell? ⟨w.heap.size + 1,0,none⟩ = some (.bool t)/\w'.cell? ⟨w.heap.size + 1,1,none⟩ = some (.slice C n d)/\w'.cell? ⟨w.heap.size + 1,2,none⟩ = some (.slice C' n' d')) (first | assumption | (refine six_box3 hS ?_ ?_ _ _ _ <;> omega) | go_keep)
   (first
    | (go_at_call 191; refine (sub _ _ _ _ _ (k + k) ?_ ?_ X2.out HLE.out (by omega)).mono ?_; (exact T2''.out); (exact T1''.out); rintro e w4 ⟨v4,rfl,t4,hb4'⟩; have hb4:Below w3.heap.size w3 w4:=(by first | exact hb4' | exact below_of_drew hb4' | exact below_of_drewN hb4' | exact below_of_drewN (below_of_drew hb4')); have B4:=Lib.hid hb4; have hS:=six (Q0.out.below' hb4) (Q1.out.below' hb4); have T4:=Lib.hid t4; have T4':=Lib.hid (T3.out.below hb4); clear t4 hb4 hb4')
    | (go_at_call 184; refine (reduced w4 t _ _ _ _ (k + k) T4.out T4'.out XS.out X3.out (by omega) DP.out).mono ?_; rintro e w5 ⟨v5,rfl,t5,hb5⟩; have B5:=Lib.hid (B4.out.trans (hb5.mono B4.out.size)); obtain ⟨A3,m3,c3,A3',m3',c3',rfl,t5a,t5b,t5c,t5d⟩:=t5.open_; obtain ⟨r0,r1,r2,z0,z1,z2⟩:=(Q2.out.below' B5.out).three; have hS:=six (Q0.out.below' B5.out) (Q1.out.below' B5.out); have TA:=Lib.hid t5a; have TB:=Lib.hid t5b; have TC:=Lib.hid t5c; have TD:=Lib.hid t5d; clear t5 t5a t5b t5c t5d hb5))
  go_wp2_with fail
  refine bodyPost_ret (v:=.agg #[.bool (isNeg (mkRat (sgn t (r.num.natAbs * q.den - q.num.natAbs * r.den)) (q.den * r.den))),.slice A3 m3 c3,.slice A3' m3' c3']) (by simp [results,Tryz.results152,go_sem,r0,r1,r2]) rfl ⟨_,rfl,?_,below_box3 (PB.out.trans ((B3.out.trans (B5.out.mono hs3)).mono (by omega))) (by omega) _ _ _⟩
  rw [HQ.out]
  have hb4:=B4.out.size
  exact (NumNew.box3 TA.out TB.out TC.out TD.out (by omega) _ _ _).mono (by omega)
 have HQ:=Lib.hid (MORE.out hst hge)
 have CM:=Lib.hid (compare w3 _ _ _ _ T1''.out T2''.out)
 have hcm:=cmpN_ge hge
 generalize cmpN (q.num.natAbs * r.den) (r.num.natAbs * q.den) = cc at *
 have HLE:=Lib.hid hge
 have XS:Hid (q.num.natAbs * r.den - r.num.natAbs * q.den < 2 ^ (k + k)):=Lib.hid (by have:=X1.out; omega)
 clear hge hst
 go_upto_region 4 with fail
 go_wp2_with (go_at_call 186; refine CM.out.mono ?_; rintro e w' ⟨rfl,nd,rfl⟩)
 go_region_held3 (fun w'=>w'.cell? ⟨w.heap.size,0,none⟩ = some (.bool s)/\w'.cell? ⟨w.heap.size,1,none⟩ = some (.slice A m c)/\w'.cell? ⟨w.heap.size,2,none⟩ = some (.slice A' m' c')/\w'.cell? ⟨w.heap.size + 1,0,none⟩ = some (.bool t)/\w'.cell? ⟨w.heap.size + 1,1,none⟩ = some (.slice C n d)/\w'.cell? ⟨w.heap.size + 1,2,none⟩ = some (.slice C' n' d')) (first | assumption | (refine six_box3 hS ?_ ?_ _ _ _ <;> omega) | go_keep)
  (first
   | (go_at_call 191; refine (sub _ _ _ _ _ (k + k) ?_ ?_ X1.out HLE.out (by omega)).mono ?_; (exact T1''.out); (exact T2''.out); rintro e w4 ⟨v4,rfl,t4,hb4'⟩; have hb4:Below w3.heap.size w3 w4:=(by first | exact hb4' | exact below_of_drew hb4' | exact below_of_drewN hb4' | exact below_of_drewN (below_of_drew hb4')); have B4:=Lib.hid hb4; have hS:=six (Q0.out.below' hb4) (Q1.out.below' hb4); have T4:=Lib.hid t4; have T4':=Lib.hid (T3.out.below hb4); clear t4 hb4 hb4')
   | (go_at_call 184; refine (reduced w4 s _ _ _ _ (k + k) T4.out T4'.out XS.out X3.out (by omega) DP.out).mono ?_; rintro e w5 ⟨v5,rfl,t5,hb5⟩; have B5:=Lib.hid (B4.out.trans (hb5.mono B4.out.size)); obtain ⟨A3,m3,c3,A3',m3',c3',rfl,t5a,t5b,t5c,t5d⟩:=t5.open_; obtain ⟨r0,r1,r2,z0,z1,z2⟩:=(Q2.out.below' B5.out).three; have hS:=six (Q0.out.below' B5.out) (Q1.out.below' B5.out); have TA:=Lib.hid t5a; have TB:=Lib.hid t5b; have TC:=Lib.hid t5c; have TD:=Lib.hid t5d; clear t5 t5a t5b t5c t5d hb5))
 go_wp2_with fail
 refine bodyPost_ret (v:=.agg #[.bool (isNeg (mkRat (sgn s (q.num.natAbs * r.den - r.num.natAbs * q.den)) (q.den * r.den))),.slice A3 m3 c3,.slice A3' m3' c3']) (by simp [results,Tryz.results152,go_sem,r0,r1,r2]) rfl ⟨_,rfl,?_,below_box3 (PB.out.trans ((B3.out.trans (B5.out.mono hs3)).mono (by omega))) (by omega) _ _ _⟩
 rw [HQ.out]
 have hb4:=B4.out.size
 exact (NumNew.box3 TA.out TB.out TC.out TD.out (by omega) _ _ _).mono (by omega)
theorem isNeg_neg (q:Rat):isNeg (-q) = (!isNeg q && decide (0 < q.num.natAbs)):=by
 unfold isNeg
 rw [Rat.neg_num,Bool.eq_iff_iff]
 simp only [decide_eq_true_eq,Bool.and_eq_true,Bool.not_eq_true',decide_eq_false_iff_not]
 omega

theorem minusN (w:World) (v:Value) (q:Rat)(h:NumAt w v q) :
  Calls Tryz.prog 153 #[v] w fun e w'=>∃ v',e = .returned v'/\NumAt w' v' (-q)/\Below w.heap.size w w':=by
 obtain ⟨A,m,c,A',m',c',rfl,hm,hm',hp,h1,h2⟩:=h.open_
 have H1:=Lib.hid h1
 have H2:=Lib.hid h2
 have HN:=Lib.hid (isNeg_neg q)
 have HP:Hid (∀ W,NatAt W (.slice A m c) q.num.natAbs->NatAt W (.slice A m c) (-q).num.natAbs):=Lib.hid (fun W h=>by rwa [Rat.neg_num,Int.natAbs_neg])
 have HE:Hid (decide (0 < q.num.natAbs) = decide (0 < m)):=Lib.hid (decide_eq_decide.2 hp.symm)
 clear h h1 h2 hp
 generalize isNeg q = s at *
 go_enter Tryz.func153,Tryz.ntmps153
 go_upto_region 1 with fail
 obtain ⟨W,hW,P0,P1,PB,Phs⟩:=box2 w 196 [.bool s,.slice A m c,.slice A' m' c'] 196 [.bool false,.slice none 0 0,.slice none 0 0]
 rw [<- hW]
 clear hW
 obtain ⟨p0,p1,p2,_,_,_⟩:=P0.out.three
 obtain ⟨r0,r1,r2,z0,z1,z2⟩:=P1.out.three
 cases s
 ·by_cases h:0 < m
  ·go_wp2_with fail
   refine bodyPost_ret (v:=.agg #[.bool true,.slice A m c,.slice A' m' c']) (by simp [results,Tryz.results153,go_sem,r0,r1,r2]) rfl ⟨_,rfl,⟨.slice A m c,.slice A' m' c',by rw [HN.out,HE.out]; simp [h],?_,?_⟩,below_box3 PB.out (Nat.le_succ _) _ _ _⟩
   ·exact HP.out _ ((H1.out.below PB.out).box3off (H1.out.off (Nat.le_succ _)) _ _ _)
   exact (H2.out.below PB.out).box3off (H2.out.off (Nat.le_succ _)) _ _ _
  go_wp2_with fail
  refine bodyPost_ret (v:=.agg #[.bool false,.slice A m c,.slice A' m' c']) (by simp [results,Tryz.results153,go_sem,r0,r1,r2]) rfl ⟨_,rfl,⟨.slice A m c,.slice A' m' c',by rw [HN.out,HE.out]; simp [h],?_,?_⟩,below_box3 PB.out (Nat.le_succ _) _ _ _⟩
  ·exact HP.out _ ((H1.out.below PB.out).box3off (H1.out.off (Nat.le_succ _)) _ _ _)
  exact (H2.out.below PB.out).box3off (H2.out.off (Nat.le_succ _)) _ _ _
 go_wp2_with fail
 refine bodyPost_ret (v:=.agg #[.bool false,.slice A m c,.slice A' m' c']) (by simp [results,Tryz.results153,go_sem,r0,r1,r2]) rfl ⟨_,rfl,⟨.slice A m c,.slice A' m' c',by rw [HN.out]; simp,?_,?_⟩,below_box3 PB.out (Nat.le_succ _) _ _ _⟩
 ·exact HP.out _ ((H1.out.below PB.out).box3off (H1.out.off (Nat.le_succ _)) _ _ _)
 exact (H2.out.below PB.out).box3off (H2.out.off (Nat.le_succ _)) _ _ _

theorem inv_num (q:Rat)(h:q ≠ 0):q⁻¹.num.natAbs = q.den/\q⁻¹.den = q.num.natAbs/\isNeg q⁻¹ = isNeg q:=by
 have h0:q.num ≠ 0:=fun e=>h (Rat.num_eq_zero.1 e)
 have hd:=q.den_pos
 refine ⟨?_,?_,?_⟩
 ·rw [Rat.num_inv,Int.natAbs_mul,Int.natAbs_natCast,Int.natAbs_sign_of_ne_zero h0,Nat.one_mul]
 ·rw [Rat.den_inv,if_neg h0]
 unfold isNeg
 rw [Rat.num_inv]
 rcases Int.lt_or_gt_of_ne h0 with h1 | h1
 ·rw [Int.sign_eq_neg_one_of_neg h1]; simp [h1]; omega
 rw [Int.sign_eq_one_of_pos h1]; simp; omega

theorem inverseN (w:World) (v:Value) (q:Rat)(h:NumAt w v q)(h0:q ≠ 0) :
  Calls Tryz.prog 151 #[v] w fun e w'=>∃ v',e = .returned v'/\NumAt w' v' (q⁻¹)/\Below w.heap.size w w':=by
 obtain ⟨A,m,c,A',m',c',rfl,hm,hm',hp,h1,h2⟩:=h.open_
 have H1:=Lib.hid h1
 have H2:=Lib.hid h2
 have HI:=Lib.hid (inv_num q h0)
 clear h h1 h2 hp h0
 generalize isNeg q = s at *
 go_enter Tryz.func151,Tryz.ntmps151
 go_upto_region 1 with fail
 obtain ⟨W,hW,P0,P1,PB,Phs⟩:=box2 w 196 [.bool s,.slice A m c,.slice A' m' c'] 196 [.bool false,.slice none 0 0,.slice none 0 0]
 rw [<- hW]
 clear hW
 obtain ⟨p0,p1,p2,_,_,_⟩:=P0.out.three
 obtain ⟨r0,r1,r2,z0,z1,z2⟩:=P1.out.three
 go_wp2_with fail
 refine bodyPost_ret (v:=.agg #[.bool s,.slice A' m' c',.slice A m c]) (by simp [results,Tryz.results151,go_sem,r0,r1,r2]) rfl ⟨_,rfl,⟨_,_,by rw [HI.out.2.2],?_,?_⟩,below_box3 PB.out (Nat.le_succ _) _ _ _⟩
 ·rw [HI.out.1]
  exact (H2.out.below PB.out).box3off (H2.out.off (Nat.le_succ _)) _ _ _
 rw [HI.out.2.1]
 exact (H1.out.below PB.out).box3off (H1.out.off (Nat.le_succ _)) _ _ _

theorem zeroN (w:World) (v:Value) (q:Rat)(h:NumAt w v q) :
  Calls Tryz.prog 149 #[v] w fun e w'=>e = .returned (.bool (decide (q = 0)))/\Below w.heap.size w w':=by
 obtain ⟨A,m,c,A',m',c',rfl,hm,hm',hp,h1,h2⟩:=h.open_
 have HE:Hid (decide (q = 0) = decide (m = 0)):=Lib.hid (decide_eq_decide.2 (by rw [<- Rat.num_eq_zero]; omega))
 have HW:Hid (∀ o,Below w.heap.size w (w.alloc o)):=Lib.hid (fun o=>(Below.refl _ _).alloc (Nat.le_refl _) o)
 clear h h1 h2 hp
 generalize isNeg q = s at *
 go_enter Tryz.func149,Tryz.ntmps149
 go_wp2_with fail
 go_ret
 rw [HE.out]
 refine ⟨?_,HW.out _⟩
 by_cases h:m = 0 <;> simp [h]

def sgnI (q:Rat):Int:=if q = 0 then 0 else if q < 0 then -1 else 1

theorem signN (w:World) (v:Value) (q:Rat)(h:NumAt w v q) :
  Calls Tryz.prog 141 #[v] w fun e w'=>e = .returned (.int .i64 (sgnI q))/\Below w.heap.size w w':=by
 have HZ:=Lib.hid h
 obtain ⟨A,m,c,A',m',c',rfl,hm,hm',hp,h1,h2⟩:=h.open_
 have HS:Hid (sgnI q = if q = 0 then 0 else if isNeg q = true then -1 else 1):=Lib.hid (by unfold sgnI; simp only [isNeg_iff])
 clear h h1 h2 hp
 obtain ⟨s,hs⟩:∃ b,isNeg q = b:=⟨_,rfl⟩
 have HSN:=Lib.hid hs
 rw [hs]
 clear hs
 go_enter Tryz.func141,Tryz.ntmps141
 go_upto_region 1 with fail
 obtain ⟨W,hW,P0,PB,Phs⟩:=box1 w 196 [.bool s,.slice A m c,.slice A' m' c']
 rw [<- hW]
 clear hW
 obtain ⟨p0,p1,p2,_,_,_⟩:=P0.out.three
 have NZ:Hid (NumAt W (.agg #[.bool s,.slice A m c,.slice A' m' c']) q):=Lib.hid (by have:=HZ.out.below PB.out; rwa [HSN.out] at this)
 by_cases h0:q = 0
 ·have hs:sgnI q = 0:=by rw [HS.out,if_pos h0]
  have ZC:=zeroN W _ q NZ.out
  rw [decide_eq_true h0] at ZC
  have HZC:=Lib.hid ZC
  have HSS:=Lib.hid hs
  clear hs ZC h0
  go_wp2_with (go_at_call 149; refine HZC.out.mono ?_; rintro e w1 ⟨rfl,hb1⟩)
  go_ret
  exact ⟨ret_i64 HSS.out.symm,PB.out.trans (hb1.mono (by omega))⟩
 have hs:sgnI q = if s = true then -1 else 1:=by rw [HS.out,if_neg h0,HSN.out]
 have ZC:=zeroN W _ q NZ.out
 rw [decide_eq_false h0] at ZC
 have HZC:=Lib.hid ZC
 have HSS:=Lib.hid hs
 clear hs ZC h0
 cases s
 ·go_wp2_with (go_at_call 149; refine HZC.out.mono ?_; rintro e w1 ⟨rfl,hb1⟩; have BB:=Lib.hid hb1; obtain ⟨p0',p1',p2',_,_,_⟩:=(P0.out.below' hb1).three; clear hb1)
  go_ret
  exact ⟨ret_i64 HSS.out.symm,PB.out.trans (BB.out.mono (by omega))⟩
 go_wp2_with (go_at_call 149; refine HZC.out.mono ?_; rintro e w1 ⟨rfl,hb1⟩; have BB:=Lib.hid hb1; obtain ⟨p0',p1',p2',_,_,_⟩:=(P0.out.below' hb1).three; clear hb1)
 go_ret
 exact ⟨ret_i64 HSS.out.symm,PB.out.trans (BB.out.mono (by omega))⟩

theorem wholeN (w:World) (n:Nat)(hn:n < 9223372036854775808) :
  Calls Tryz.prog 142 #[.int .i64 (n:Int)] w fun e w'=>∃ v',e = .returned v'/\NumNew w.heap.size w' v' (n:Rat)/\Below w.heap.size w w':=by
 have HI:Hid ((n:Rat).num.natAbs = n/\(n:Rat).den = 1/\isNeg (n:Rat) = false):=Lib.hid ⟨by simp,by simp,by unfold isNeg; exact decide_eq_false (by show ¬ ((n:Int) < 0); omega)⟩
 go_enter Tryz.func142,Tryz.ntmps142
 go_wp2_with fail
 obtain ⟨W,hW,P0,PB,Phs⟩:=box1 w 196 [.bool false,.slice none 0 0,.slice none 0 0]
 rw [<- hW]
 clear hW
 refine (smallF W n (by omega)).mono ?_
 rintro e w1 ⟨v1,rfl,t1,hb1,f1⟩
 have T1:=Lib.hid t1
 have B1:=Lib.hid hb1
 have F1:=Lib.hid f1
 clear t1 hb1 f1
 go_wp2_with fail
 refine (smallF w1 1 (by omega)).mono ?_
 rintro e w2 ⟨v2,rfl,t2,hb2,f2⟩
 have B2:=Lib.hid (B1.out.trans (hb2.mono B1.out.size))
 obtain ⟨A,m,c,rfl,_⟩:=T1.out.len
 obtain ⟨A',m',c',rfl,_⟩:=t2.len
 have T1':=Lib.hid (T1.out.below hb2)
 have T2:=Lib.hid t2
 have F2:=Lib.hid (f2.mono B1.out.size)
 obtain ⟨r0,r1,r2,z0,z1,z2⟩:=(P0.out.below' B2.out).three
 clear t2 hb2 f2
 go_wp2_with fail
 refine bodyPost_ret (v:=.agg #[.bool false,.slice A m c,.slice A' m' c']) (by simp [results,Tryz.results142,go_sem,r0,r1,r2]) rfl ⟨_,rfl,⟨_,_,by rw [HI.out.2.2],?_,?_,F1.out.mono (by omega),F2.out.mono (by omega)⟩,below_box3 (PB.out.trans (B2.out.mono (by omega))) (Nat.le_refl _) _ _ _⟩
 ·rw [HI.out.1]
  exact T1'.out.box3 (F1.out.mono (by omega)) _ _ _
 rw [HI.out.2.1]
 exact T2.out.box3 (F2.out.mono (by omega)) _ _ _
end Go.Proofs.YtdehimgccmbfkaaGreat
