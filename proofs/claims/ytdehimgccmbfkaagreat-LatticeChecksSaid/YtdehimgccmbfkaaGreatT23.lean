/- Lemmas on the way: Frac9, Ref1, Ref2, Ref3, Ref4. -/
import Derived.Test.YtdehimgccmbfkaaGreatT22
set_option linter.all false
set_option maxRecDepth 1000000
set_option maxHeartbeats 32000000
namespace Go.Proofs.YtdehimgccmbfkaaGreat
open Go.RowKit
theorem divF (w:World) (v v':Value) (q r:Rat) (k:Nat)(h:FracAt k w v q) (h':FracAt k w v' r)(h0:0 < k)(hk:k <= 549755813888)(hr:r ≠ 0) :
  Calls Tryz.prog 97 #[v,v'] w fun e w'=>∃ u,e = .returned (.tuple #[u,.int .i64 0])/\CanNew w.heap.size w' u (q / r)/\Below w.heap.size w w':=by
 have H1:=Lib.hid h
 have H2:=Lib.hid h'
 have Q1:=Lib.hid (h.qb h0)
 have Q2:=Lib.hid (h'.qb h0)
 have HR:=Lib.hid hr
 obtain ⟨s,vn,vd,rfl⟩:=h.shape
 obtain ⟨t,vn',vd',rfl⟩:=h'.shape
 clear h h' hr
 rw [Rat.div_def]
 go_enter Tryz.func97,Tryz.ntmps97
 go_wp2_with fail
 obtain ⟨W,hW,P0,P1,P2,PB,Phs⟩:=box3 w 31 [.bool s,vn,vd] 31 [.bool t,vn',vd'] 31 [.bool false,.slice none 0 0,.slice none 0 0]
 rw [<- hW]
 clear hW
 refine (take W _ r k (H2.out.below PB.out) h0 (by omega)).mono ?_
 rintro e w1 ⟨v1,rfl,t1,hb1⟩
 obtain ⟨Ay,my,cy,Ay',my',cy',rfl,ta,tb,tc,td⟩:=t1.open_
 have T1:=Lib.hid t1
 have B1:=Lib.hid hb1
 have H1':=Lib.hid ((H1.out.below PB.out).below hb1)
 clear t1 hb1 ta tb tc td
 generalize isNeg r = sy at *
 go_wp2_with fail
 obtain ⟨W1,hW1⟩:∃ W1,W1 = w1.alloc (.cells #[.bool sy,.slice Ay my cy,.slice Ay' my' cy'] 196):=⟨_,rfl⟩
 rw [<- hW1]
 have Y1:Hid (Blk W1 w1.heap.size 196 [.bool sy,.slice Ay my cy,.slice Ay' my' cy']):=Lib.hid (by rw [hW1]; exact Blk.new w1 _ _)
 have BW1:Hid (Below w1.heap.size w1 W1):=Lib.hid (by rw [hW1]; exact (Below.refl _ _).alloc (Nat.le_refl _) _)
 have ZC:=zeroN W1 _ r (T1.out.at_.below BW1.out)
 rw [decide_eq_false HR.out] at ZC
 have HZC:=Lib.hid ZC
 have hs1:W.heap.size <= w1.heap.size:=B1.out.size
 clear ZC hW1
 refine HZC.out.mono ?_
 rintro e w2 ⟨rfl,hb2⟩
 have hs2:w1.heap.size + 1 <= w2.heap.size:=by have:=hb2.size; have:=Y1.out.lt; omega
 have B12:=Lib.hid (BW1.out.trans (hb2.mono (by have:=Y1.out.lt; omega)))
 have B2:=Lib.hid (B1.out.trans (B12.out.mono hs1))
 have Y2:=Lib.hid (Y1.out.below' hb2)
 have X2:=Lib.hid (P0.out.below' B2.out)
 have H1'':=Lib.hid (H1'.out.below B12.out)
 have TY:=Lib.hid (T1.out.below B12.out)
 clear hb2
 obtain ⟨y0,y1,y2,_,_,_⟩:=Y2.out.three
 obtain ⟨p0,p1,p2,_,_,_⟩:=X2.out.three
 go_wp2_with fail
 go_region_held3 (fun w'=>w'.cell? ⟨w.heap.size,0,none⟩ = some (.bool s)/\w'.cell? ⟨w.heap.size,1,none⟩ = some vn/\w'.cell? ⟨w.heap.size,2,none⟩ = some vd/\w'.cell? ⟨w1.heap.size,0,none⟩ = some (.bool sy)/\w'.cell? ⟨w1.heap.size,1,none⟩ = some (.slice Ay my cy)/\w'.cell? ⟨w1.heap.size,2,none⟩ = some (.slice Ay' my' cy')) (first | assumption | (refine six_box3 hS ?_ ?_ _ _ _ <;> omega) | go_keep)
  (first
   | (go_at_call 140; refine (take _ _ q k ?_ h0 (by omega)).mono ?_; (exact H1''.out.below (below_drew_self _)); rintro e w3 ⟨v3,rfl,t3,hb3'⟩; have hb3:=below_of_drew hb3'; have B3:=Lib.hid hb3; have hS:=six (X2.out.below' hb3) (Y2.out.below' hb3); have T3:=Lib.hid t3; have TY3:=Lib.hid (TY.out.below hb3); clear t3 hb3 hb3')
   | (go_at_call 151; refine (inverseN w3 _ r TY3.out.at_ HR.out).mono ?_; rintro e w4 ⟨v4,rfl,t4,hb4⟩; have B4:=Lib.hid (B3.out.trans (hb4.mono B3.out.size)); have hS:=six (X2.out.below' B4.out) (Y2.out.below' B4.out); have T4:=Lib.hid t4; have T3':=Lib.hid (T3.out.below hb4); clear t4 hb4)
   | (go_at_call 150; refine (mulN w4 _ _ q r⁻¹ k T3'.out.at_ T4.out Q1.out (Q2.out.inv h0) (by omega)).mono ?_; rintro e w5 ⟨v5,rfl,t5,hb5⟩; have B5:=Lib.hid (B4.out.trans (hb5.mono B4.out.size)); have hS:=six (X2.out.below' B5.out) (Y2.out.below' B5.out); have T5:=Lib.hid t5; clear t5 hb5)
   | (go_at_call 143; refine (give w5 _ (q * r⁻¹) (k + k) T5.out.at_ (Q1.out.mul (Q2.out.inv h0)) (by omega)).mono ?_; rintro e w6 ⟨v6,rfl,t6,hb6⟩; have B6:=Lib.hid (B5.out.trans (hb6.mono B5.out.size)); have hs6:w2.heap.size <= w5.heap.size:=B5.out.size; have hS:=six (X2.out.below' B6.out) (Y2.out.below' B6.out); obtain ⟨A,m,c,A',m',c',rfl,ta,tb,tc,td⟩:=t6.open_; have PR:=P2.out.below' (B2.out.trans (B6.out.mono (by omega))); obtain ⟨r0,r1,r2,z0,z1,z2⟩:=PR.three; have TA:=Lib.hid ta; have TB:=Lib.hid tb; have TC:=Lib.hid tc; have TD:=Lib.hid td; clear t6 hb6 PR ta tb tc td))
 go_wp2_with fail
 refine bodyPost_ret (v:=.tuple #[.agg #[.bool (isNeg (q * r⁻¹)),.slice A m c,.slice A' m' c'],.int .i64 0]) (by simp [results,Tryz.results97,go_sem,r0,r1,r2,List.mapM_cons]) rfl ⟨_,rfl,?_,below_box3 (PB.out.trans ((B2.out.trans (B6.out.mono (by omega))).mono (by omega))) (by omega) _ _ _⟩
 exact (CanNew.box3 TA.out TB.out TC.out TD.out (by omega) _ _ _).mono (by omega)
def Head (v v':Value):Prop:=∃ A n m c,v = .slice A n c/\v' = .slice A m c/\m <= n
theorem Head.from {v v':Value} (h:Head v v') {B:Nat} (hf:From v B):From v' B:=by
 obtain ⟨A,n,m,c,rfl,rfl,_⟩:=h
 intro ad n' c' e
 cases e
 exact hf _ _ _ rfl

theorem Trim.of_take {l:List Nat} {k:Nat} (hl:Trim l)(h:TrimTo l k)(hok:Ok l)(ht:Trim (l.take k)):k = l.length:=by
 have:=Trim.eq_of_val (hok.take k) hok ht hl h.2
 have h2:=congrArg List.length this
 rw [List.length_take] at h2
 have:=h.1
 omega

theorem trimR (w:World) (v:Value) (l:List Nat)(hd:DigAt w v l) :
  Calls Tryz.prog 74 #[v] w fun e w'=>w' = w/\∃ v',e = .returned v'/\NatAt w v' (val l)/\Head v v'/\(Trim l->v' = v):=by
 obtain ⟨hok,A,c,rfl,hlc,hcm,hA⟩:=id hd.open_
 have HD:=Lib.hid hd.1
 have HA:=Lib.hid hA
 clear hA hd
 have HO:=Lib.hid hok
 clear hok
 obtain ⟨n,hn⟩:∃ n,l.length = n:=⟨_,rfl⟩
 have HN:=Lib.hid hn
 rw [hn] at hlc ⊢
 clear hn
 have HTL:Hid (∀ k,k = l.length->Value.slice A k c = .slice A n c):=Lib.hid (fun k e=>by rw [e,HN.out])
 go_enter Tryz.func74,Tryz.ntmps74
 go_wp2_with fail
 go_loop [3] (fun i=>∃ k:Nat,i = .int .i64 k/\TrimTo l k/\k <= n) (fun i=>(intOf i).toNat)
 case atStart=>exact ⟨n,rfl,HN.out ▸ TrimTo.start l,Nat.le_refl _⟩
 obtain ⟨k,rfl,ht,hk⟩:=hrel
 have HT:=Lib.hid ht
 clear ht
 have fin:Trim (l.take k)->NatAt w (.slice A k c) (val l):=by
  intro ht'
  have hlen:(l.take k).length = k:=by rw [List.length_take,HN.out]; omega
  refine ⟨l.take k,⟨?_,HO.out.take k⟩,ht',HT.out.2⟩
  rw [hlen,List.map_take]
  exact (HN.out ▸ HD.out:Sl w 1 (.slice A n c) n (l.map dg)).cutHead hk
 have FIN:=Lib.hid fin
 clear fin
 rcases Nat.eq_zero_or_pos k with h0 | h0
 ·subst h0
  go_wp2_with fail
  go_ret
  exact ⟨rfl,_,rfl,FIN.out (by simp [Trim]),⟨A,n,0,c,rfl,rfl,by omega⟩,fun h=>HTL.out _ (Trim.of_take h HT.out HO.out (by simp [Trim]))⟩
 obtain ⟨m,rfl⟩:∃ m,k = m + 1:=⟨k - 1,by omega⟩
 have hm:m < l.length:=by rw [HN.out]; omega
 obtain ⟨d,hd⟩:∃ d,l[m]? = some d:=⟨_,List.getElem?_eq_getElem hm⟩
 have HDD:=Lib.hid hd
 obtain ⟨b,off,rfl,hc⟩:∃ b off,A = some ⟨b,off,none⟩/\w.cell? ⟨b,off + m,none⟩ = some (.int .u32 (d:Int)):=by
  rcases HA.out with h | ⟨b,off,h,_,hc⟩
  ·subst h; simp at hm
  exact ⟨b,off,h,hc m d hd⟩
 clear hd hm
 by_cases hz:d = 0
 ·subst hz
  go_wp2_with fail
  exact ⟨⟨m,rfl,HT.out.step HDD.out,by omega⟩,by simp [intOf]⟩
 have hz':((d:Int) == 0) = false:=by simpa using hz
 go_wp2_with fail
 go_ret
 exact ⟨rfl,_,rfl,FIN.out (TrimTo.trim HDD.out hz),⟨_,n,m + 1,c,rfl,rfl,hk⟩,fun h=>HTL.out _ (Trim.of_take h HT.out HO.out (TrimTo.trim HDD.out hz))⟩

theorem trimN (w:World) (v:Value) (n:Nat)(h:NatAt w v n) :
  Calls Tryz.prog 74 #[v] w fun e w'=>w' = w/\e = .returned v:=by
 obtain ⟨l,d,t,rfl⟩:=h
 refine (trimR w v l d).mono ?_
 rintro e w' ⟨rfl,v',rfl,_,_,h⟩
 exact ⟨rfl,by rw [h t]⟩
theorem orderR (w:World) (va vb:Value) (a b:Nat)(ha:NatAt w va a)(hb:NatAt w vb b) :
  Calls Tryz.prog 78 #[va,vb] w fun e w'=>e = .returned (.int .i64 (cmpN a b))/\∃ k,w' = w.drewN k:=by
 have TA:Hid (∀ W,W = w->Calls Tryz.prog 74 #[va] W fun e w'=>w' = W/\e = .returned va):=Lib.hid (fun W e=>by rw [e]; exact trimN w va a ha)
 have TB:Hid (∀ W,W = w->Calls Tryz.prog 74 #[vb] W fun e w'=>w' = W/\e = .returned vb):=Lib.hid (fun W e=>by rw [e]; exact trimN w vb b hb)
 obtain ⟨l,dl,tl,rfl⟩:=ha
 obtain ⟨m,dm,tm,rfl⟩:=hb
 obtain ⟨okl,A,ca,rfl,hlc,hcm,hA⟩:=dl.open_
 obtain ⟨okm,B,cb,rfl,hmc,hcm',hB⟩:=dm.open_
 clear dl dm
 have HA:=Lib.hid hA
 have HB:=Lib.hid hB
 clear hA hB
 have HO:=Lib.hid okl
 have HP:=Lib.hid okm
 clear okl okm
 have HT:=Lib.hid tl
 have HU:=Lib.hid tm
 clear tl tm
 obtain ⟨n,hn⟩:∃ n,l.length = n:=⟨_,rfl⟩
 obtain ⟨p,hp⟩:∃ p,m.length = p:=⟨_,rfl⟩
 rw [hn] at hlc TA ⊢
 rw [hp] at hmc TB ⊢
 have HN:=Lib.hid hn
 have HQ:=Lib.hid hp
 clear hn hp
 by_cases hlt:n < p
 ·have hne:((n:Int) != (p:Int)) = true:=by simp; omega
  have hr:=cmpN_lt (val_lt_of_length HO.out HU.out (by rw [HN.out,HQ.out]; exact hlt))
  have HR:=Lib.hid hr
  clear hr
  go_enter Tryz.func78,Tryz.ntmps78
  go_wp2_with fail
  refine (TA.out _ rfl).mono ?_
  rintro e w1 ⟨hw1,rfl⟩
  cases hw1
  go_wp2_with fail
  refine (TB.out _ rfl).mono ?_
  rintro e w1 ⟨hw1,rfl⟩
  cases hw1
  go_wp2_with fail
  go_ret
  exact ⟨ret_i64 HR.out.symm,0,rfl⟩
 by_cases hgt:p < n
 ·have hne:((n:Int) != (p:Int)) = true:=by simp; omega
  have hr:=cmpN_gt (val_lt_of_length HP.out HT.out (by rw [HN.out,HQ.out]; exact hgt))
  have HR:=Lib.hid hr
  clear hr
  go_enter Tryz.func78,Tryz.ntmps78
  go_wp2_with fail
  refine (TA.out _ rfl).mono ?_
  rintro e w1 ⟨hw1,rfl⟩
  cases hw1
  go_wp2_with fail
  refine (TB.out _ rfl).mono ?_
  rintro e w1 ⟨hw1,rfl⟩
  cases hw1
  go_wp2_with fail
  go_ret
  exact ⟨ret_i64 HR.out.symm,0,rfl⟩
 obtain rfl:n = p:=by omega
 clear hlt hgt
 go_enter Tryz.func78,Tryz.ntmps78
 go_wp2_with fail
 refine (TA.out _ rfl).mono ?_
 rintro e w1 ⟨hw1,rfl⟩
 cases hw1
 go_wp2_with fail
 refine (TB.out _ rfl).mono ?_
 rintro e w1 ⟨hw1,rfl⟩
 cases hw1
 go_wp2_with fail
 go_loopw [5] (fun i wr=>∃ q:Int,(∃ d,wr = w.drewN d)/\i = .int .i64 q/\-1 <= q/\q < n/\l.drop (q + 1).toNat = m.drop (q + 1).toNat) (fun i _=>(intOf i + 1).toNat)
 case atStart =>
  refine ⟨_,⟨0,rfl⟩,rfl,by omega,by omega,?_⟩
  rw [List.drop_eq_nil_of_le (by rw [HN.out]; omega),List.drop_eq_nil_of_le (by rw [HQ.out]; omega)]
 obtain ⟨q,⟨nd,rfl⟩,rfl,hq,hqn,hd⟩:=hrel
 have HD:=Lib.hid hd
 clear hd
 by_cases h0:q = -1
 ·subst h0
  go_wp2_with fail
  go_ret
  have he:l = m:=by simpa using HD.out
  exact ⟨ret_i64 (by rw [he,cmpN_eq]),nd,rfl⟩
 obtain ⟨k,rfl⟩:∃ k:Nat,q = k:=⟨q.toNat,by omega⟩
 clear h0 hq
 have hkl:k < l.length:=by rw [HN.out]; omega
 have hkm:k < m.length:=by rw [HQ.out]; omega
 obtain ⟨x,hx⟩:∃ x,l[k]? = some x:=⟨_,List.getElem?_eq_getElem hkl⟩
 obtain ⟨y,hy⟩:∃ y,m[k]? = some y:=⟨_,List.getElem?_eq_getElem hkm⟩
 obtain ⟨b,off,rfl,hc⟩:∃ b off,A = some ⟨b,off,none⟩/\w.cell? ⟨b,off + k,none⟩ = some (.int .u32 (x:Int)):=by
  rcases HA.out with h | ⟨b,off,h,_,hc⟩
  ·subst h; simp at hkl
  exact ⟨b,off,h,hc k x hx⟩
 obtain ⟨b',off',rfl,hc'⟩:∃ b off,B = some ⟨b,off,none⟩/\w.cell? ⟨b,off + k,none⟩ = some (.int .u32 (y:Int)):=by
  rcases HB.out with h | ⟨b,off,h,_,hc⟩
  ·subst h; simp at hkm
  exact ⟨b,off,h,hc k y hy⟩
 have HX:=Lib.hid hx
 have HY:=Lib.hid hy
 clear hx hy hkl hkm
 have hd1:l.drop (k + 1) = m.drop (k + 1):=by
  have:=HD.out
  rwa [show ((k:Int) + 1).toNat = k + 1 by omega] at this
 have HE:=Lib.hid hd1
 clear hd1
 rcases Nat.lt_trichotomy x y with h | h | h
 ·have hne:((x:Int) != (y:Int)) = true:=by simp; omega
  have hr:=cmpN_lt (val_lt_at HO.out HE.out HX.out HY.out h)
  have HR:=Lib.hid hr
  clear hr
  go_wp2_with fail
  go_quiet (fail)
  go_wp2_with fail
  go_quiet (fail)
  go_wp2_with fail
  go_ret
  exact ⟨ret_i64 HR.out.symm,_,by simp only [World.drewN_drewN]; rfl⟩
 ·subst h
  have hne:((x:Int) != (x:Int)) = false:=by simp
  go_wp2_with fail
  go_quiet (fail)
  go_wp2_with fail
  refine ⟨⟨(k:Int) - 1,⟨_,rfl⟩,rfl,by omega,by omega,?_⟩,by simp [intOf]⟩
  rw [show ((k:Int) - 1 + 1).toNat = k by omega]
  exact drop_step HX.out HY.out HE.out
 have hne:((x:Int) != (y:Int)) = true:=by simp; omega
 have hr:=cmpN_gt (val_lt_at HP.out HE.out.symm HY.out HX.out h)
 have HR:=Lib.hid hr
 clear hr
 go_wp2_with fail
 go_quiet (fail)
 go_wp2_with fail
 go_quiet (fail)
 go_wp2_with fail
 go_ret
 exact ⟨ret_i64 HR.out.symm,_,by simp only [World.drewN_drewN]; rfl⟩
def PlusTo (l m o:List Nat) (c:Nat):Prop:=Ok o/\c <= 1/\val o + 4294967296 ^ o.length * c = val (l.take o.length) + val (m.take o.length)
theorem PlusTo.step {l m o:List Nat} {k c x y:Nat} (h:PlusTo l m o c)(ho:o.length = k)(hx:l.getD k 0 = x)(hy:m.getD k 0 = y) (xl:x < 4294967296) (yl:y < 4294967296) :
  PlusTo l m (o ++ [(c + x + y) % 4294967296]) ((c + x + y) / 4294967296):=by
 obtain ⟨h1,h2,h3⟩:=h
 subst ho
 refine ⟨Ok.append.2 ⟨h1,Ok.cons.2 ⟨Nat.mod_lt _ (by omega),Ok.nil⟩⟩,by omega,?_⟩
 rw [List.length_append,List.length_singleton,val_snoc,val_take_succ,val_take_succ,hx,hy]
 have e:=Nat.div_add_mod (c + x + y) 4294967296
 generalize (c + x + y) / 4294967296 = q at *
 generalize (c + x + y) % 4294967296 = r at *
 have e2:4294967296 ^ o.length * (c + x + y) = 4294967296 ^ o.length * (4294967296 * q + r):=by rw [e]
 rw [Nat.pow_succ]
 grind
theorem PlusTo.done {l m o:List Nat} (h:PlusTo l m o 0)(h1:l.length <= o.length)(h2:m.length <= o.length):val o = val l + val m:=by
 obtain ⟨_,_,h3⟩:=h
 rw [val_take_all h1,val_take_all h2] at h3
 omega
theorem PlusTo.last {l m o:List Nat} {c N:Nat} (h:PlusTo l m o c)(hl:Ok l)(hm:Ok m)(h1:l.length <= N)(h2:m.length <= N)(ho:o.length = N + 1):c = 0:=by
 obtain ⟨_,_,h3⟩:=h
 rw [val_take_all (by omega),val_take_all (by omega),ho] at h3
 have a1:=val_lt l hl
 have a2:=val_lt m hm
 have a3:4294967296 ^ l.length <= 4294967296 ^ N:=Nat.pow_le_pow_right (by omega) h1
 have a4:4294967296 ^ m.length <= 4294967296 ^ N:=Nat.pow_le_pow_right (by omega) h2
 have a5:4294967296 ^ (N + 1) = 4294967296 ^ N * 4294967296:=Nat.pow_succ ..
 rcases Nat.eq_zero_or_pos c with h | h
 ·exact h
 have:4294967296 ^ (N + 1) * 1 <= 4294967296 ^ (N + 1) * c:=Nat.mul_le_mul_left _ h
 omega

theorem Sl.one (w:World) (x:Value) (e:TypeId):Sl (w.alloc (.cells #[x] e)) 1 (.slice (some ⟨w.heap.size,0,none⟩) 1 1) 1 [x]:=by
 have:=(Blk.new w e [x]).sl (sz:=1) (n:=1) (c:=1) (by simp) (by omega) (by unfold maxLen; omega)
 simpa using this

theorem PlusTo.grow {w wr w2:World} {base:Nat} {e:TypeId} {vo:Value} {n:Nat} {xs:List Value} {ob:Obj} (hb:Below base w wr)(ho:wr.ownsRow base e 1 vo n xs)(hg:(wr.alloc ob).grownBy w2 vo.ownBlock)(hw:base <= wr.heap.size):Below base w w2:=by
 refine (hb.alloc hw _).grown hg (by simp; omega) ?_
 intro k hk
 have hf:=From.of_own ho
 unfold Value.ownBlock at hk
 split at hk
 ·cases hk; exact hf _ _ _ rfl
 cases hk

theorem trimOwn {wr:World} {base:Nat} {e:TypeId} {vo:Value} {k:Nat} {o:List Nat} (h:wr.ownsRow base e 1 vo k (o.map dg))(hok:Ok o)(hl:o.length = k) :
  ∀ W,W = wr->Calls Tryz.prog 74 #[vo] W fun e w'=>w' = W/\∃ v',e = .returned v'/\NatAt W v' (val o)/\From v' base:=fun W e=>by
 rw [e]
 refine (trimR wr vo o ⟨by rw [hl]; exact Sl.of_own h,hok⟩).mono ?_
 rintro e w' ⟨h1,v',h2,h3,h4,_⟩
 subst h1
 exact ⟨rfl,v',h2,h3,h4.from (From.of_own h)⟩

theorem plusR (w:World) (va vb:Value) (a b k:Nat)(ha:NatAt w va a)(hb:NatAt w vb b) (la:a < 2 ^ k) (lb:b < 2 ^ k)(hk:k <= 70368744177664) :
  Calls Tryz.prog 77 #[va,vb] w fun e w'=>∃ v',e = .returned v'/\NatAt w' v' (a + b)/\Below w.heap.size w w'/\From v' w.heap.size:=by
 obtain ⟨l,dl,tl,rfl⟩:=ha
 obtain ⟨m,dm,tm,rfl⟩:=hb
 have ll:=tl.length_le la
 have lm:=tm.length_le lb
 clear la lb tl tm
 obtain ⟨okl,A,ca,rfl,hlc,hcm,hA⟩:=dl.open_
 obtain ⟨okm,B,cb,rfl,hmc,hcm',hB⟩:=dm.open_
 clear dl dm
 have HA:=Lib.hid hA
 have HB:=Lib.hid hB
 clear hA hB
 have HO:=Lib.hid okl
 have HP:=Lib.hid okm
 clear okl okm
 obtain ⟨n,hn⟩:∃ n,l.length = n:=⟨_,rfl⟩
 obtain ⟨p,hp⟩:∃ p,m.length = p:=⟨_,rfl⟩
 rw [hn] at hlc ll ⊢
 rw [hp] at hmc lm ⊢
 have HN:=Lib.hid hn
 have HQ:=Lib.hid hp
 clear hn hp
 obtain ⟨i0,hi,hz0,hz1,hz2⟩:=info_parts infoU32
 go_enter Tryz.func77,Tryz.ntmps77
 go_wp2_with fail
 obtain ⟨N,hN1,hN2,hN3⟩:∃ N:Nat,n <= N/\p <= N/\(N <= n ∨ N <= p):=⟨max n p,by omega,by omega,by omega⟩
 go_loopg [5,6,7] (N + 1) (fun g vo c i wr=>∃ (k cc:Nat) (o:List Nat),i = .int .i64 k/\c = .int .u64 cc/\k + g = N + 1/\o.length = k/\Hid (PlusTo l m o cc)/\Hid (wr.ownsRow w.heap.size 182 1 vo k (o.map dg))/\Hid (Below w.heap.size w wr))
 case atStart=>exact ⟨0,0,[],rfl,rfl,by omega,rfl,Lib.hid ⟨Ok.nil,by omega,by simp [val]⟩,Lib.hid (World.ownsRow_nil ..),Lib.hid (Below.refl _ _)⟩
 obtain ⟨k,cc,o,rfl,rfl,hg,ho,HPT,HOW,HBE⟩:=hrel
 have HL:=Lib.hid ho
 clear ho
 have hcc:=HPT.out.2.1
 obtain ⟨x,hx⟩:∃ x,l.getD k 0 = x:=⟨_,rfl⟩
 obtain ⟨y,hy⟩:∃ y,m.getD k 0 = y:=⟨_,rfl⟩
 have hx0:x < 4294967296:=by rw [<- hx]; exact HO.out.getD k
 have hy0:y < 4294967296:=by rw [<- hy]; exact HP.out.getD k
 have STEP:=Lib.hid (HPT.out.step HL.out hx hy hx0 hy0)
 have hcx:=dig_cell HA.out HN.out HBE.out k x hx
 have hcy:=dig_cell HB.out HQ.out HBE.out k y hy
 clear hx hy
 rcases hcx with ⟨h1,b,off,rfl,hb,hc1⟩ | ⟨h1,hx⟩
 ·rcases hcy with ⟨h2,b',off',rfl,hb',hc2⟩ | ⟨h2,hy⟩
  ·skip
   go_wp2_with (at_builtin; refine wpList_append_sl rfl _ _ 29 rfl w.heap.size 182 i0 (.int .u32 0) 1 4 Tryz.underlying29 hi hz0 hz1 hz2 rfl (by decide) _ _ _ rfl (HOW.out.alloc _) _ 1 [_] rfl (Sl.one _ _ _) ?c0 ?c1 ?c2 ?c3 ?_)
   case c0=>simp [Value.oneCell']
   case c1=>unfold maxLen; omega
   case c2=>omega
   case c3=>have:=HBE.out.size; simp; omega
   intro v2 w2 hown2 hgrow hnb
   have HW2:=Lib.hid hown2
   have HB3:=Lib.hid (PlusTo.grow HBE.out HOW.out hgrow HBE.out.size)
   clear hown2 hgrow hnb
   obtain ⟨g,rfl⟩:∃ g,gk = g + 1:=⟨gk - 1,by omega⟩
   go_wp2_with fail
   go_roundg g
   case measure=>omega
   case rel=>exact ⟨k + 1,(cc + x + y) / 4294967296,o ++ [(cc + x + y) % 4294967296],rfl,int_eq (by omega),by omega,by simp [HL.out],STEP,Lib.hid (by simpa [dg] using HW2.out),HB3⟩
  have HST:=STEP
  subst hy
  go_wp2_with (at_builtin; refine wpList_append_sl rfl _ _ 29 rfl w.heap.size 182 i0 (.int .u32 0) 1 4 Tryz.underlying29 hi hz0 hz1 hz2 rfl (by decide) _ _ _ rfl (HOW.out.alloc _) _ 1 [_] rfl (Sl.one _ _ _) ?c0 ?c1 ?c2 ?c3 ?_)
  case c0=>simp [Value.oneCell']
  case c1=>unfold maxLen; omega
  case c2=>omega
  case c3=>have:=HBE.out.size; simp; omega
  intro v2 w2 hown2 hgrow hnb
  have HW2:=Lib.hid hown2
  have HB3:=Lib.hid (PlusTo.grow HBE.out HOW.out hgrow HBE.out.size)
  clear hown2 hgrow hnb
  obtain ⟨g,rfl⟩:∃ g,gk = g + 1:=⟨gk - 1,by omega⟩
  go_wp2_with fail
  go_roundg g
  case measure=>omega
  case rel=>exact ⟨k + 1,(cc + x + 0) / 4294967296,o ++ [(cc + x + 0) % 4294967296],rfl,int_eq (by omega),by omega,by simp [HL.out],HST,Lib.hid (by simpa [dg] using HW2.out),HB3⟩
 rcases hcy with ⟨h2,b',off',rfl,hb',hc2⟩ | ⟨h2,hy⟩
 ·have HST:=STEP
  subst hx
  go_wp2_with (at_builtin; refine wpList_append_sl rfl _ _ 29 rfl w.heap.size 182 i0 (.int .u32 0) 1 4 Tryz.underlying29 hi hz0 hz1 hz2 rfl (by decide) _ _ _ rfl (HOW.out.alloc _) _ 1 [_] rfl (Sl.one _ _ _) ?c0 ?c1 ?c2 ?c3 ?_)
  case c0=>simp [Value.oneCell']
  case c1=>unfold maxLen; omega
  case c2=>omega
  case c3=>have:=HBE.out.size; simp; omega
  intro v2 w2 hown2 hgrow hnb
  have HW2:=Lib.hid hown2
  have HB3:=Lib.hid (PlusTo.grow HBE.out HOW.out hgrow HBE.out.size)
  clear hown2 hgrow hnb
  obtain ⟨g,rfl⟩:∃ g,gk = g + 1:=⟨gk - 1,by omega⟩
  go_wp2_with fail
  go_roundg g
  case measure=>omega
  case rel=>exact ⟨k + 1,(cc + 0 + y) / 4294967296,o ++ [(cc + 0 + y) % 4294967296],rfl,int_eq (by omega),by omega,by simp [HL.out],HST,Lib.hid (by simpa [dg] using HW2.out),HB3⟩
 subst hx
 subst hy
 rcases Nat.eq_zero_or_pos cc with hz | hz
 ·subst hz
  have TR:=Lib.hid (trimOwn HOW.out HPT.out.1 HL.out)
  have HV:=Lib.hid (HPT.out.done (by rw [HN.out,HL.out]; exact h1) (by rw [HQ.out,HL.out]; exact h2))
  go_wp2_with fail
  refine (TR.out _ rfl).mono ?_
  rintro e w2 ⟨hw2,v',rfl,hv,hf⟩
  cases hw2
  have T2:=Lib.hid hv
  have T3:=Lib.hid hf
  clear hv hf
  go_wp2_with fail
  go_ret
  exact ⟨v',rfl,HV.out ▸ T2.out,HBE.out,T3.out⟩
 obtain rfl:cc = 1:=by omega
 have hkN:k ≠ N + 1:=fun e=>by
  have:=HPT.out.last (N:=N) HO.out HP.out (by rw [HN.out]; omega) (by rw [HQ.out]; omega) (by rw [HL.out,e])
  omega
 have HST:=STEP
 go_wp2_with (at_builtin; refine wpList_append_sl rfl _ _ 29 rfl w.heap.size 182 i0 (.int .u32 0) 1 4 Tryz.underlying29 hi hz0 hz1 hz2 rfl (by decide) _ _ _ rfl (HOW.out.alloc _) _ 1 [_] rfl (Sl.one _ _ _) ?c0 ?c1 ?c2 ?c3 ?_)
 case c0=>simp [Value.oneCell']
 case c1=>unfold maxLen; omega
 case c2=>omega
 case c3=>have:=HBE.out.size; simp; omega
 intro v2 w2 hown2 hgrow hnb
 have HW2:=Lib.hid hown2
 have HB3:=Lib.hid (PlusTo.grow HBE.out HOW.out hgrow HBE.out.size)
 clear hown2 hgrow hnb
 obtain ⟨g,rfl⟩:∃ g,gk = g + 1:=⟨gk - 1,by omega⟩
 go_wp2_with fail
 go_roundg g
 case measure=>omega
 case rel=>exact ⟨k + 1,(1 + 0 + 0) / 4294967296,o ++ [(1 + 0 + 0) % 4294967296],rfl,int_eq (by omega),by omega,by simp [HL.out],HST,Lib.hid (by simpa [dg] using HW2.out),HB3⟩
def MinusTo (l m o:List Nat) (c:Nat):Prop:=Ok o/\c <= 1/\val o + val (m.take o.length) = val (l.take o.length) + 4294967296 ^ o.length * c
theorem MinusTo.step {l m o:List Nat} {k c x y:Nat} (h:MinusTo l m o c)(ho:o.length = k)(hx:l.getD k 0 = x)(hy:m.getD k 0 = y) (xl:x < 4294967296) (yl:y < 4294967296) :
  (x < c + y->MinusTo l m (o ++ [x + 4294967296 - (c + y)]) 1)/\(c + y <= x->MinusTo l m (o ++ [x - (c + y)]) 0):=by
 obtain ⟨h1,h2,h3⟩:=h
 subst ho
 refine ⟨fun hlt=>⟨Ok.append.2 ⟨h1,Ok.cons.2 ⟨by omega,Ok.nil⟩⟩,by omega,?_⟩,fun hle=>⟨Ok.append.2 ⟨h1,Ok.cons.2 ⟨by omega,Ok.nil⟩⟩,by omega,?_⟩⟩
 ·rw [List.length_append,List.length_singleton,val_snoc,val_take_succ,val_take_succ,hx,hy,Nat.pow_succ]
  obtain ⟨r,hr⟩:∃ r,x + 4294967296 = c + y + r:=⟨x + 4294967296 - (c + y),by omega⟩
  rw [hr,Nat.add_sub_cancel_left]
  have e2:4294967296 ^ o.length * (x + 4294967296) = 4294967296 ^ o.length * (c + y + r):=by rw [hr]
  grind
 rw [List.length_append,List.length_singleton,val_snoc,val_take_succ,val_take_succ,hx,hy,Nat.pow_succ]
 obtain ⟨r,hr⟩:∃ r,x = c + y + r:=⟨x - (c + y),by omega⟩
 rw [hr,Nat.add_sub_cancel_left]
 grind
theorem MinusTo.done {l m o:List Nat} {c:Nat} (h:MinusTo l m o c)(h1:l.length = o.length)(h2:m.length <= o.length)(hle:val m <= val l):val o = val l - val m:=by
 obtain ⟨h0,_,h3⟩:=h
 rw [val_take_all (by omega),val_take_all (by omega)] at h3
 have a1:=val_lt o h0
 rcases Nat.eq_zero_or_pos c with h | h
 ·subst h; omega
 have:4294967296 ^ o.length * 1 <= 4294967296 ^ o.length * c:=Nat.mul_le_mul_left _ h
 omega

theorem row_eq {w:World} {base:Nat} {e:TypeId} {v:Value} {k d:Nat} {xs:List Value} {E:Int} (h:w.ownsRow base e 1 v (k + 1) (xs ++ [Value.int .u32 E]))(hE:E = (d:Int)):w.ownsRow base e 1 v (k + 1) (xs ++ [d].map dg):=by
 rw [hE] at h
 exact h

theorem minusR (w:World) (va vb:Value) (a b k:Nat)(ha:NatAt w va a)(hb:NatAt w vb b) (la:a < 2 ^ k)(hle:b <= a)(hk:k <= 70368744177664) :
  Calls Tryz.prog 79 #[va,vb] w fun e w'=>∃ v',e = .returned v'/\NatAt w' v' (a - b)/\Below w.heap.size w w'/\From v' w.heap.size:=by
 obtain ⟨l,dl,tl,rfl⟩:=ha
 obtain ⟨m,dm,tm,rfl⟩:=hb
 have ll:=tl.length_le la
 have hlen:=length_le_of_val dl.2 tm hle
 have HLE:=Lib.hid hle
 clear la tl tm hle
 obtain ⟨okl,A,ca,rfl,hlc,hcm,hA⟩:=dl.open_
 obtain ⟨okm,B,cb,rfl,hmc,hcm',hB⟩:=dm.open_
 clear dl dm
 have HA:=Lib.hid hA
 have HB:=Lib.hid hB
 clear hA hB
 have HO:=Lib.hid okl
 have HP:=Lib.hid okm
 clear okl okm
 obtain ⟨n,hn⟩:∃ n,l.length = n:=⟨_,rfl⟩
 obtain ⟨p,hp⟩:∃ p,m.length = p:=⟨_,rfl⟩
 rw [hn] at hlc ll hlen ⊢
 rw [hp] at hmc hlen ⊢
 have HN:=Lib.hid hn
 have HQ:=Lib.hid hp
 clear hn hp
 obtain ⟨i0,hi,hz0,hz1,hz2⟩:=info_parts infoU32
 go_enter Tryz.func79,Tryz.ntmps79
 go_wp2_with fail
 go_outline
 go_loopg [5,6,7] n (fun g vo c i wr=>∃ (k cc:Nat) (o:List Nat),i = .int .i64 k/\c = .int .u64 cc/\k + g = n/\o.length = k/\Hid (MinusTo l m o cc)/\Hid (wr.ownsRow w.heap.size 182 1 vo k (o.map dg))/\Hid (Below w.heap.size w wr))
 case atStart=>exact ⟨0,0,[],rfl,rfl,by omega,rfl,Lib.hid ⟨Ok.nil,by omega,by simp [val]⟩,Lib.hid (World.ownsRow_nil ..),Lib.hid (Below.refl _ _)⟩
 obtain ⟨k,cc,o,rfl,rfl,hg,ho,HPT,HOW,HBE⟩:=hrel
 have HL:=Lib.hid ho
 clear ho
 have hcc:=HPT.out.2.1
 obtain ⟨x,hx⟩:∃ x,l.getD k 0 = x:=⟨_,rfl⟩
 obtain ⟨y,hy⟩:∃ y,m.getD k 0 = y:=⟨_,rfl⟩
 have hx0:x < 4294967296:=by rw [<- hx]; exact HO.out.getD k
 have hy0:y < 4294967296:=by rw [<- hy]; exact HP.out.getD k
 have STEP:=Lib.hid (HPT.out.step HL.out hx hy hx0 hy0)
 have hcx:=dig_cell HA.out HN.out HBE.out k x hx
 have hcy:=dig_cell HB.out HQ.out HBE.out k y hy
 clear hx hy
 rcases hcx with ⟨h1,b,off,rfl,hb,hc1⟩ | ⟨h1,hx⟩
 ·obtain ⟨g,rfl⟩:∃ g,gk = g + 1:=⟨gk - 1,by omega⟩
  rcases hcy with ⟨h2,b',off',rfl,hb',hc2⟩ | ⟨h2,hy⟩
  ·rcases Nat.lt_or_ge x (cc + y) with hlt | hge
   ·have ST:=Lib.hid (STEP.out.1 hlt)
    have hd1:decide ((x:Int) < (cc:Int) + (y:Int)) = true:=decide_eq_true (by omega)
    go_wp2_with (at_builtin; refine wpList_append_sl rfl _ _ 29 rfl w.heap.size 182 i0 (.int .u32 0) 1 4 Tryz.underlying29 hi hz0 hz1 hz2 rfl (by decide) _ _ _ rfl (HOW.out.alloc _) _ 1 [_] rfl (Sl.one _ _ _) ?c0 ?c1 ?c2 ?c3 ?_)
    case c0=>simp [Value.oneCell']
    case c1=>unfold maxLen; omega
    case c2=>omega
    case c3=>have:=HBE.out.size; simp; omega
    intro v2 w2 hown2 hgrow hnb
    have HW2:=Lib.hid hown2
    have HB3:=Lib.hid (PlusTo.grow HBE.out HOW.out hgrow HBE.out.size)
    clear hown2 hgrow hnb
    go_wp2_with fail
    go_roundg g
    case measure=>omega
    case rel=>exact ⟨k + 1,1,o ++ [x + 4294967296 - (cc + y)],rfl,rfl,by omega,by simp [HL.out],ST,Lib.hid (by rw [List.map_append]; refine row_eq HW2.out ?_; omega),HB3⟩
   have ST:=Lib.hid (STEP.out.2 hge)
   have hd1:decide ((x:Int) < (cc:Int) + (y:Int)) = false:=decide_eq_false (by omega)
   go_wp2_with (at_builtin; refine wpList_append_sl rfl _ _ 29 rfl w.heap.size 182 i0 (.int .u32 0) 1 4 Tryz.underlying29 hi hz0 hz1 hz2 rfl (by decide) _ _ _ rfl (HOW.out.alloc _) _ 1 [_] rfl (Sl.one _ _ _) ?c0 ?c1 ?c2 ?c3 ?_)
   case c0=>simp [Value.oneCell']
   case c1=>unfold maxLen; omega
   case c2=>omega
   case c3=>have:=HBE.out.size; simp; omega
   intro v2 w2 hown2 hgrow hnb
   have HW2:=Lib.hid hown2
   have HB3:=Lib.hid (PlusTo.grow HBE.out HOW.out hgrow HBE.out.size)
   clear hown2 hgrow hnb
   go_wp2_with fail
   go_roundg g
   case measure=>omega
   case rel=>exact ⟨k + 1,0,o ++ [x - (cc + y)],rfl,rfl,by omega,by simp [HL.out],ST,Lib.hid (by rw [List.map_append]; refine row_eq HW2.out ?_; omega),HB3⟩
  subst hy
  rcases Nat.lt_or_ge x (cc + 0) with hlt | hge
  ·have ST:=Lib.hid (STEP.out.1 hlt)
   have hd1:decide ((x:Int) < (cc:Int)) = true:=decide_eq_true (by omega)
   go_wp2_with (at_builtin; refine wpList_append_sl rfl _ _ 29 rfl w.heap.size 182 i0 (.int .u32 0) 1 4 Tryz.underlying29 hi hz0 hz1 hz2 rfl (by decide) _ _ _ rfl (HOW.out.alloc _) _ 1 [_] rfl (Sl.one _ _ _) ?c0 ?c1 ?c2 ?c3 ?_)
   case c0=>simp [Value.oneCell']
   case c1=>unfold maxLen; omega
   case c2=>omega
   case c3=>have:=HBE.out.size; simp; omega
   intro v2 w2 hown2 hgrow hnb
   have HW2:=Lib.hid hown2
   have HB3:=Lib.hid (PlusTo.grow HBE.out HOW.out hgrow HBE.out.size)
   clear hown2 hgrow hnb
   go_wp2_with fail
   go_roundg g
   case measure=>omega
   case rel=>exact ⟨k + 1,1,o ++ [x + 4294967296 - (cc + 0)],rfl,rfl,by omega,by simp [HL.out],ST,Lib.hid (by rw [List.map_append]; refine row_eq HW2.out ?_; omega),HB3⟩
  have ST:=Lib.hid (STEP.out.2 hge)
  have hd1:decide ((x:Int) < (cc:Int)) = false:=decide_eq_false (by omega)
  go_wp2_with (at_builtin; refine wpList_append_sl rfl _ _ 29 rfl w.heap.size 182 i0 (.int .u32 0) 1 4 Tryz.underlying29 hi hz0 hz1 hz2 rfl (by decide) _ _ _ rfl (HOW.out.alloc _) _ 1 [_] rfl (Sl.one _ _ _) ?c0 ?c1 ?c2 ?c3 ?_)
  case c0=>simp [Value.oneCell']
  case c1=>unfold maxLen; omega
  case c2=>omega
  case c3=>have:=HBE.out.size; simp; omega
  intro v2 w2 hown2 hgrow hnb
  have HW2:=Lib.hid hown2
  have HB3:=Lib.hid (PlusTo.grow HBE.out HOW.out hgrow HBE.out.size)
  clear hown2 hgrow hnb
  go_wp2_with fail
  go_roundg g
  case measure=>omega
  case rel=>exact ⟨k + 1,0,o ++ [x - (cc + 0)],rfl,rfl,by omega,by simp [HL.out],ST,Lib.hid (by rw [List.map_append]; refine row_eq HW2.out ?_; omega),HB3⟩
 obtain rfl:k = n:=by omega
 have TR:=Lib.hid (trimOwn HOW.out HPT.out.1 HL.out)
 have HV:=Lib.hid (HPT.out.done (by rw [HN.out,HL.out]) (by rw [HQ.out,HL.out]; exact hlen) HLE.out)
 go_wp2_with fail
 refine (TR.out _ rfl).mono ?_
 rintro e w2 ⟨hw2,v',rfl,hv,hf⟩
 cases hw2
 have T2:=Lib.hid hv
 have T3:=Lib.hid hf
 clear hv hf
 go_wp2_with fail
 go_ret
 exact ⟨v',rfl,HV.out ▸ T2.out,HBE.out,T3.out⟩
end Go.Proofs.YtdehimgccmbfkaaGreat
