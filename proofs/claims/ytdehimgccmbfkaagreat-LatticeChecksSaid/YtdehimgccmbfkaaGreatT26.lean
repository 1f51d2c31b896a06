/- Lemmas on the way: Ref12, Ref13. -/
import Derived.Test.YtdehimgccmbfkaaGreatT25
set_option linter.all false
set_option maxRecDepth 1000000
set_option maxHeartbeats 32000000
namespace Go.Proofs.YtdehimgccmbfkaaGreat
open Go.RowKit
theorem NatAt.digit1 (w:World) (e:TypeId) (d:Nat)(h0:d ≠ 0)(hd:d < 4294967296):NatAt (w.alloc (.cells #[.int .u32 (d:Int)] e)) (.slice (some ⟨w.heap.size,0,none⟩) 1 1) d :=
 ⟨[d],⟨Sl.one _ _ _,Ok.cons.2 ⟨hd,Ok.nil⟩⟩,by simpa [Trim] using h0,by simp [val]⟩

theorem bit_and (r:Nat) {x:Nat} (hx:x < 4294967296):bits .and .u32 ((x:Int) / 2 ^ r) 1 = ((x / 2 ^ r % 2:Nat):Int):=by
 have h1:(x:Int) / 2 ^ r = ((x / 2 ^ r:Nat):Int):=by rw [Int.natCast_ediv,Int.natCast_pow]; rfl
 rw [h1]
 exact half_and (Nat.lt_of_le_of_lt (Nat.div_le_self _ _) hx)
theorem or_bit {r y:Nat} (hr:r < 32)(h:y ||| 2 ^ r = y + 2 ^ r)(hy:y < 4294967296):bits .or .u32 (y:Int) (2 ^ r % 4294967296) = ((y + 2 ^ r:Nat):Int):=by
 have h2:2 ^ r < 4294967296:=Nat.lt_of_lt_of_le (Nat.pow_lt_pow_right (by omega) hr) (by decide)
 have h1:(2:Int) ^ r % 4294967296 = ((2 ^ r:Nat):Int):=by
  rw [show (2:Int) ^ r = ((2 ^ r:Nat):Int) by rw [Int.natCast_pow]; rfl]
  generalize 2 ^ r = z at *
  omega
 rw [h1,u32_or_nat y _ hy h2,h]
theorem bitsN_lt_len {l:List Nat} (h:Ok l) {bl:Nat} (hb:bitsN (val l) = bl):bl <= 32 * l.length:=by
 rw [<- hb]
 exact bitsN_le (by rw [Nat.pow_mul]; exact val_lt l h)

theorem divideR (w:World) (va vb:Value) (a b k:Nat)(ha:NatAt w va a)(hb:NatAt w vb b) (la:a < 2 ^ k) (lb:b < 2 ^ k)(hk:k <= 17592186044416)(hb0:0 < b) :
  Calls Tryz.prog 133 #[va,vb] w fun e w'=>∃ vq vr,e = .returned (.tuple #[vq,vr])/\NatAt w' vq (a / b)/\NatAt w' vr (a % b)/\Below w.heap.size w w'/\From vq w.heap.size/\From vr w.heap.size:=by
 have TA:Hid (∀ W,W = w->Calls Tryz.prog 74 #[va] W fun e w'=>w' = W/\e = .returned va):=Lib.hid (fun W e=>by rw [e]; exact trimN w va a ha)
 have TB:Hid (∀ W,W = w->Calls Tryz.prog 74 #[vb] W fun e w'=>w' = W/\e = .returned vb):=Lib.hid (fun W e=>by rw [e]; exact trimN w vb b hb)
 have NA:=Lib.hid ha
 have NB:=Lib.hid hb
 have LA:=Lib.hid la
 have LB:=Lib.hid lb
 obtain ⟨l,dl,tl,rfl⟩:=ha
 obtain ⟨m,dm,tm,rfl⟩:=hb
 have ll:=tl.length_le la
 clear la lb
 obtain ⟨okl,A,ca,rfl,hlc,hcm,hA⟩:=dl.open_
 obtain ⟨okm,B,cb,rfl,hmc,hcm',hB⟩:=dm.open_
 clear dl dm
 have HA:=Lib.hid hA
 have HB:=Lib.hid hB
 have HO:=Lib.hid okl
 have HP:=Lib.hid okm
 have HT:=Lib.hid tl
 have HU:=Lib.hid tm
 clear hA hB okl okm tl tm
 obtain ⟨n,hn⟩:∃ n,l.length = n:=⟨_,rfl⟩
 obtain ⟨p,hp⟩:∃ p,m.length = p:=⟨_,rfl⟩
 rw [hn] at hlc ll TA NA ⊢
 rw [hp] at hmc TB NB ⊢
 have HN:=Lib.hid hn
 have HQ:=Lib.hid hp
 clear hn hp
 have HB0:=Lib.hid hb0
 clear hb0
 obtain ⟨i0,hi,hz0,hz1,hz2⟩:=info_parts infoU32
 by_cases hp1:p = 1
 ·subst hp1
  obtain ⟨d,rfl⟩:∃ d,m = [d]:=List.length_eq_one_iff.1 HQ.out
  have hd1:d < 4294967296:=HP.out.get (k:=0) rfl
  have hd0:0 < d:=by have:=HB0.out; simpa [val] using this
  have HM:Hid (val [d] = d):=Lib.hid (by simp [val])
  obtain ⟨bB,offB,rfl,hbB,hcB0⟩:∃ b off,B = some ⟨b,off,none⟩/\b < w.heap.size/\w.cell? ⟨b,off,none⟩ = some (.int .u32 (d:Int)):=by
   rcases HB.out with h | ⟨b,off,h,h1,h2⟩
   ·cases h
   exact ⟨b,off,h,h1,h2 0 d rfl⟩
  go_enter Tryz.func133,Tryz.ntmps133
  go_wp2_with fail
  refine (TA.out _ rfl).mono ?_
  rintro e w1 ⟨hw1,rfl⟩
  cases hw1
  go_wp2_with fail
  refine (TB.out _ rfl).mono ?_
  rintro e w1 ⟨hw1,rfl⟩
  cases hw1
  go_wp2_with (at_make; refine wpList_make_blk rfl _ _ 29 rfl 182 i0 (.int .u32 0) 4 Tryz.underlying29 hi hz0 hz1 hz2 rfl .i64 .i64 _ _ n rfl rfl (by omega) (by omega) (by omega) (by unfold maxLen; omega) ?_)
  intro w1 hblk hbel
  go_wp2_with fail
  go_loopw [7,8] (fun r i wr=>∃ (q:Int) (k rr:Nat) (o:List Nat),i = .int .i64 q/\r = .int .u64 rr/\q + 1 = k/\k <= n/\OverTo l o d k rr/\DB wr w.heap.size o/\Below w.heap.size w wr)
   (fun _ i _=>(intOf i + 1).toNat)
  case atStart=>exact ⟨_,n,0,List.replicate l.length 0,rfl,rfl,by omega,by omega,HN.out ▸ OverTo.start l hd0,DB.of_blk (e:=182) (by rw [HN.out]; simpa [dg] using hblk),hbel⟩
  obtain ⟨q,k',rr,o,rfl,rfl,hq,hk',hs,hdb,hbel⟩:=hrel
  have ho:=hs.2.1
  rw [HN.out] at ho
  have HL:=Lib.hid ho
  have HS:=Lib.hid hs
  have HDB:=Lib.hid hdb
  have hrr:=hs.2.2.1
  clear ho hblk hs
  rcases Nat.eq_zero_or_pos k' with h0 | h0
  ·subst h0
   obtain rfl:q = -1:=by omega
   clear hq
   have DN:=Lib.hid HS.out.done
   have HD:=Lib.hid (HDB.out.digAt HS.out.1 (n:=n) (c:=n) (by rw [HL.out]) (Nat.le_refl _) (by omega))
   have HB2:=Lib.hid hbel
   clear hbel hdb
   have hrr':(rr:Int) % 4294967296 = rr:=by omega
   go_wp2_with fail
   refine (trimR wr _ o HD.out).mono ?_
   rintro e w2 ⟨hw2,vq,rfl,t1,t2,_⟩
   cases hw2
   have T1:=Lib.hid t1
   have F1:=Lib.hid (t2.from (B:=w.heap.size) (fun ad n' c' e=>by cases e; exact Nat.le_refl _))
   clear t1 t2
   go_wp2_with fail
   refine (trimR _ _ [rr] ⟨Sl.one _ _ _,Ok.cons.2 ⟨by omega,Ok.nil⟩⟩).mono ?_
   rintro e w2 ⟨hw2,vr,rfl,t1,t2,_⟩
   cases hw2
   have T2:=Lib.hid t1
   have F2:=Lib.hid (t2.from (B:=wr.heap.size) (fun ad n' c' e=>by cases e; exact Nat.le_refl _))
   clear t1 t2
   go_wp2_with fail
   go_ret2
   have hz:=HB2.out.size
   exact ⟨vq,vr,rfl,by rw [HM.out,<- DN.out.1]; exact T1.out.alloc _,by rw [HM.out,<- DN.out.2]; have:=T2.out; simpa [val] using this,HB2.out.alloc hz _,F1.out,F2.out.mono hz⟩
  obtain ⟨k,rfl⟩:∃ k,k' = k + 1:=⟨k' - 1,by omega⟩
  obtain rfl:q = k:=by omega
  clear hq h0
  have hkl:k < l.length:=by rw [HN.out]; omega
  obtain ⟨x,hx⟩:∃ x,l[k]? = some x:=⟨_,List.getElem?_eq_getElem hkl⟩
  have hx0:=HO.out.get hx
  have hxd:l.getD k 0 = x:=by rw [List.getD_eq_getElem?_getD,hx]; rfl
  have hk0:k < o.length:=by rw [HL.out]; omega
  have hz:=hdb.cell hk0
  have hfz:=hdb.frozen k
  have hcx:=dig_cell HA.out HN.out hbel k x hxd
  have STEP:=Lib.hid (HS.out.step hd1 hx hx0)
  have HB2:=Lib.hid hbel
  have HK0:=Lib.hid hk0
  have hcB:=(hbel.cell (p:=⟨bB,offB,none⟩) hbB).trans hcB0
  have hcB':=(HB2.out.setCell (p:=⟨w.heap.size,k,none⟩) (Nat.le_refl _) (.int .u32 (((rr:Int) * 4294967296 + (x:Int)) / (d:Int) % 4294967296))).cell (p:=⟨bB,offB,none⟩) hbB
  rw [hcB0] at hcB'
  clear hx hxd hbel hdb hk0 hkl
  rcases hcx with ⟨h1,b,off,rfl,hb,hc1⟩ | ⟨h1,hx⟩
  ·have hor:=or64 rr x (by omega) hx0
   go_wp2_with fail
   exact ⟨⟨_,k,_,_,rfl,int_eq (cast_omod _ _ _),by omega,by omega,STEP.out.1,HDB.out.set HK0.out (cast_odiv _ _ _ STEP.out.2),HB2.out.setCell (p:=⟨w.heap.size,k,none⟩) (Nat.le_refl _) _⟩,by simp [intOf]⟩
  omega
 have hp1':((p:Int) == 1) = false:=by simp; omega
 go_enter Tryz.func133,Tryz.ntmps133
 go_wp2_with fail
 refine (TA.out _ rfl).mono ?_
 rintro e w1 ⟨hw1,rfl⟩
 cases hw1
 go_wp2_with fail
 refine (TB.out _ rfl).mono ?_
 rintro e w1 ⟨hw1,rfl⟩
 cases hw1
 go_wp2_with (at_make; refine wpList_make_blk rfl _ _ 29 rfl 182 i0 (.int .u32 0) 4 Tryz.underlying29 hi hz0 hz1 hz2 rfl .i64 .i64 _ _ n rfl rfl (by omega) (by omega) (by omega) (by unfold maxLen; omega) ?_)
 intro w1 hblk hbel
 go_wp2_with fail
 refine (bitsR w1 _ _ k (NA.out.below hbel) LA.out (by omega)).mono ?_
 rintro e w2 ⟨hw2,rfl⟩
 cases hw2
 have hbl:=bitsN_le LA.out
 have BL:=Lib.hid (lt_bitsN (val l))
 have HBL0:Hid (bitsN (val l) = bitsN (val l)):=Lib.hid rfl
 generalize hbl0:bitsN (val l) = bl at *
 have HBL:=Lib.hid hbl0
 clear hbl0 HBL0
 go_wp2_with fail
 go_loopg [9,10] bl (fun g rv i wr=>∃ (q:Int) (R:Nat) (o:List Nat),i = .int .i64 q/\q + 1 = g/\g <= bl/\Hid (NatAt wr rv R/\From rv (w.heap.size + 1))/\Hid (BitTo (val l) (val m) R o n g)/\Hid (DB wr w.heap.size o)/\Hid (Below w.heap.size w wr))
 case atStart=>exact ⟨_,0,List.replicate n 0,rfl,by omega,Nat.le_refl _,Lib.hid ⟨NatAt.nil_ _,From.nil_ _⟩,Lib.hid (BitTo.start BL.out),Lib.hid (DB.of_blk (e:=182) (by simpa [dg] using hblk)),Lib.hid hbel⟩
 clear hblk hbel
 obtain ⟨q,R,o,rfl,hq,hg,HR,HBT,HDB,HBE⟩:=hrel
 rcases Nat.eq_zero_or_pos gk with h | h
 ·subst h
  obtain rfl:q = -1:=by omega
  have DN:=Lib.hid HBT.out.done
  have HD:=Lib.hid (HDB.out.digAt HBT.out.1 (n:=n) (c:=n) HBT.out.2.1 (Nat.le_refl _) (by omega))
  go_wp2_with fail
  refine (trimR wr _ o HD.out).mono ?_
  rintro e w2 ⟨hw2,vq,rfl,t1,t2,_⟩
  cases hw2
  have T1:=Lib.hid t1
  have F1:=Lib.hid (t2.from (B:=w.heap.size) (fun ad n' c' e=>by cases e; exact Nat.le_refl _))
  clear t1 t2
  go_wp2_with fail
  go_ret2
  exact ⟨vq,_,rfl,by rw [<- DN.out.1]; exact T1.out,by rw [<- DN.out.2]; exact HR.out.1,HBE.out,F1.out,HR.out.2.mono (by omega)⟩
 obtain ⟨j,rfl⟩:∃ j,gk = j + 1:=⟨gk - 1,by omega⟩
 obtain rfl:q = j:=by omega
 clear hq h
 obtain ⟨kk,r,hj,hr⟩:∃ kk r,j = 32 * kk + r/\r < 32:=⟨j / 32,j % 32,by omega,by omega⟩
 have hdv:(j:Int) / 32 = (kk:Int):=by omega
 have hmd:(j:Int) % 32 = (r:Int):=by omega
 have HJ:=Lib.hid hj
 clear hj
 have hs1:=HBE.out.size
 have hs0:w.heap.size < wr.heap.size:=HDB.out.lt
 have hRb:R < val m:=by rw [HBT.out.2.2.2]; exact Nat.mod_lt _ HB0.out
 have HRB:=Lib.hid hRb
 have HRL:Hid (R < 2 ^ k):=Lib.hid (Nat.lt_trans hRb LB.out)
 clear hRb
 obtain ⟨c,hc⟩:∃ c,val l / 2 ^ (32 * kk + r) % 2 = c:=⟨_,rfl⟩
 have hc2:c < 2:=by omega
 obtain ⟨x,hx⟩:∃ x,l.getD kk 0 = x:=⟨_,rfl⟩
 have hx0:x < 4294967296:=by rw [<- hx]; exact HO.out.getD kk
 have HBV:Hid (x / 2 ^ r % 2 = c):=Lib.hid (by rw [<- bit_val HO.out hx hr,hc])
 have hkn:kk < n:=by
  have h1:=bitsN_lt_len (l:=l) HO.out (bl:=bl) HBL.out
  rw [HN.out] at h1
  have:=HJ.out
  omega
 have HC:=Lib.hid hc
 clear hc
 go_wp2_with fail
 refine (plusR wr _ _ R R k HR.out.1 HR.out.1 HRL.out HRL.out (by omega)).mono ?_
 rintro e w2 ⟨v2,rfl,t1,t2,t3⟩
 have T2:=Lib.hid t1
 have B2:=Lib.hid (HBE.out.trans (t2.mono hs1))
 have F2:=Lib.hid (t3.mono (show w.heap.size + 1 <= wr.heap.size from hs0))
 have D2:=Lib.hid (HDB.out.below t2)
 have hs2:w.heap.size + 1 <= w2.heap.size:=Nat.le_trans (show w.heap.size + 1 <= wr.heap.size from hs0) t2.size
 clear t1 t2 t3
 have hcx:=dig_cell HA.out HN.out B2.out kk x hx
 clear hx
 rcases hcx with ⟨_,ba,offa,rfl,hba,hca⟩ | ⟨h1,_⟩
 case inr=>omega
 have hbit:bits .and .u32 ((x:Int) / 2 ^ r) 1 = (c:Int):=by rw [bit_and r hx0,HBV.out]
 rcases (show c = 0 ∨ c = 1 by omega) with hc0 | hc0
 all_goals
  have HC0:=Lib.hid hc0
  clear hc0
 case' inr =>
  have hb1:(bits .and .u32 ((x:Int) / 2 ^ r) 1 == 1) = true:=by rw [hbit,HC0.out]; rfl
  clear hbit
  go_wp2_with fail
  refine (plusR _ _ _ (R + R) 1 (k + 1) (T2.out.alloc _) (NatAt.digit1 _ _ 1 (by omega) (by omega)) (by have:=HRL.out; rw [Nat.pow_succ]; omega) (Nat.one_lt_two_pow (by omega)) (by omega)).mono ?_
  rintro e w3 ⟨v3,rfl,t1,t2,t3⟩
  rw [World.size_alloc] at t2 t3
  have T3:Hid (NatAt w3 v3 (R + R + c)):=Lib.hid (by rw [HC0.out]; exact t1)
  have B3:=Lib.hid ((B2.out.alloc (by omega) _).trans (t2.mono (by omega)))
  have F3:=Lib.hid (t3.mono (show w.heap.size + 1 <= w2.heap.size + 1 by omega))
  have D3:=Lib.hid ((D2.out.alloc _).below (by rw [World.size_alloc]; exact t2))
  have hs3:w.heap.size + 1 <= w3.heap.size:=by have:=t2.size; rw [World.size_alloc] at this; omega
  clear t1 t2 t3 T2 B2 F2 D2 hs2
 case' inl =>
  have hb1:(bits .and .u32 ((x:Int) / 2 ^ r) 1 == 1) = false:=by rw [hbit,HC0.out]; rfl
  clear hbit
  have T3:Hid (NatAt w2 v2 (R + R + c)):=Lib.hid (by rw [HC0.out]; exact T2.out)
  have B3:=B2
  have F3:=F2
  have D3:=D2
  have hs3:=hs2
  clear T2 B2 F2 D2 hs2
  obtain ⟨w3,rfl⟩:∃ w3,w3 = w2:=⟨_,rfl⟩
  obtain ⟨v3,rfl⟩:∃ v3,v3 = v2:=⟨_,rfl⟩
 all_goals
  have OC:=orderR w3 v3 _ _ _ T3.out (NB.out.below B3.out)
  rcases Nat.lt_or_ge (R + R + c) (val m) with hlt | hge
  ·rw [cmpN_lt hlt] at OC
   have HLT:=Lib.hid hlt
   clear hlt
   go_wp2_with fail
   refine OC.mono ?_
   rintro e w4 ⟨rfl,nd,rfl⟩
   go_wp2_with fail
   go_roundg j
   case measure=>omega
   case rel=>exact ⟨(j:Int) - 1,_,o,rfl,by omega,by omega,Lib.hid ⟨T3.out.drewN nd,F3.out⟩,Lib.hid (HBT.out.skip (by rw [HJ.out]; exact HC.out) HLT.out),Lib.hid (D3.out.drewN nd),Lib.hid (below_drewN B3.out nd)⟩
  obtain ⟨z,hz,hz0⟩:∃ z,cmpN (R + R + c) (val m) = z/\decide (0 <= z) = true:=⟨_,rfl,decide_eq_true (by unfold cmpN; rw [if_neg (by omega)]; split <;> omega)⟩
  rw [hz] at OC
  have HGE:=Lib.hid hge
  clear hge hz
  go_wp2_with fail
  refine OC.mono ?_
  rintro e w4 ⟨rfl,nd,rfl⟩
  go_wp2_with fail
  refine (minusR _ _ _ _ _ (k + 1) (T3.out.drewN nd) ((NB.out.below B3.out).drewN nd) (by have:=HRL.out; rw [Nat.pow_succ]; omega) HGE.out (by omega)).mono ?_
  rintro e w4 ⟨v4,rfl,t1,t2',t3⟩
  have t2:=below_of_drewN t2'
  have T4:=Lib.hid t1
  have B4:=Lib.hid (B3.out.trans (t2.mono (by omega)))
  have F4:=Lib.hid (t3.mono (show w.heap.size + 1 <= w3.heap.size from hs3))
  have D4:=Lib.hid (D3.out.below t2)
  clear t1 t2 t2' t3 T3 B3 F3 D3 hs3
  have HBT':Hid (BitTo (val l) (val m) R o n (32 * kk + r + 1)):=Lib.hid (by rw [<- HJ.out]; exact HBT.out)
  obtain ⟨y,hy⟩:∃ y,o.getD kk 0 = y:=⟨_,rfl⟩
  have HY0:Hid (y < 4294967296):=Lib.hid (by rw [<- hy]; exact HBT.out.1.getD kk)
  have STEP:=Lib.hid (HBT'.out.step hr hkn HB0.out HC.out HGE.out hy)
  have hol:kk < o.length:=by rw [HBT.out.2.1]; exact hkn
  have hoc:=D4.out.cell hol
  have hof:=D4.out.frozen kk
  rw [hy] at hoc
  have HOL:=Lib.hid hol
  clear hy hol
  go_wp2_with fail
  go_region
  go_wp2_with fail
  go_roundg j
  case measure=>omega
  case rel=>exact ⟨(j:Int) - 1,_,o.set kk (y + 2 ^ r),rfl,by omega,by omega,Lib.hid ⟨(T4.out.setFar F4.out (show w.heap.size < w.heap.size + 1 by omega) _).drew,F4.out⟩,Lib.hid (by rw [HJ.out]; exact STEP.out.2),Lib.hid ((D4.out.set HOL.out (or_bit hr STEP.out.1 HY0.out)).drewN 1),Lib.hid ((B4.out.setCell (p:=⟨w.heap.size,kk,none⟩) (Nat.le_refl _) _).drew)⟩
theorem wpList_dup_nat {w:World} {ops:Array Oper} {rest:List Oper} {o:Oper} {a:Act} {Q:Exit->Act->World->Prop} (hgd:o.guard = none) (s x:Operand)
  (ho:o.op = .call { callee:=.builtin .append,args:=#[s,x],argTypes:=#[29,29] })(hs:a.eval s = .slice none 0 0) (y:Value)(hx:a.eval x = y) (n k:Nat)(hn:NatAt w y n) (ln:n < 2 ^ k)(hk:k <= 70368744177664)
  (h:∀ A m c w',NatAt w' (.slice A m c) n->From (.slice A m c) w.heap.size->Below w.heap.size w w'->wpList Tryz.prog ops Q rest (a.put o.dst (.slice A m c)) w'):wpList Tryz.prog ops Q (o :: rest) a w:=by
 obtain ⟨i0,hi,hz0,hz1,hz2⟩:=info_parts infoU32
 obtain ⟨l,d,t,rfl⟩:=hn
 have ll:=t.length_le ln
 refine wpList_append_sl hgd s x 29 ho w.heap.size 182 i0 (.int .u32 0) 1 4 Tryz.underlying29 hi hz0 hz1 hz2 rfl (by decide) _ 0 [] hs (World.ownsRow_nil ..) y l.length (l.map dg) hx d.1 (dg_one l) (by unfold maxLen; omega) (by omega) (Nat.le_refl _) ?_
 intro v' w' hown hgr _
 have hf:=From.of_own hown
 have hN:NatAt w' v' (val l):=⟨l,⟨by have:=Sl.of_own hown; simpa using this,d.2⟩,t,rfl⟩
 obtain ⟨A,m,c,rfl,_⟩:=hN.len
 exact h A m c w' hN hf ((Below.refl _ w).grown hgr (Nat.le_refl _) (by simp [Value.ownBlock]))

theorem oneT {w:World} {v:Value} (h:NatAt w v 1):Calls Tryz.prog 131 #[v] w fun e w'=>w' = w/\e = .returned (.bool true):=oneR w v 1 h
theorem oneF {w:World} {v:Value} {a:Nat} (h:NatAt w v a)(h1:a ≠ 1):Calls Tryz.prog 131 #[v] w fun e w'=>w' = w/\e = .returned (.bool false):=by
 have:=oneR w v a h
 rwa [decide_eq_false h1] at this

theorem CanNew.of_parts {B:Nat} {w:World} {neg:Bool} {vn vd:Value} {n d:Nat} (n0:0 < n) (d0:0 < d)(h1:NatAt w vn (n / Nat.gcd n d))(h2:NatAt w vd (if d / Nat.gcd n d = 1 then 0 else d / Nat.gcd n d))(h3:From vn B)(h4:From vd B) :
  CanNew B w (.agg #[.bool neg,vn,vd]) (mkRat (sgn neg n) d):=by
 obtain ⟨r1,r2⟩:=red neg n d d0
 have hg:0 < n / Nat.gcd n d:=Nat.div_pos (Nat.gcd_le_left _ n0) (Nat.gcd_pos_of_pos_left _ n0)
 refine ⟨vn,vd,?_,?_,?_,h3,h4⟩
 ·rw [isNeg_sgn r1,decide_eq_true hg,Bool.and_true]
 ·rw [r1,sgn_natAbs]; exact h1
 rw [r2]; exact h2

theorem CanNew.zero (B:Nat) (w:World) (neg:Bool) (d:Nat):CanNew B w (.agg #[.bool false,.slice none 0 0,.slice none 0 0]) (mkRat (sgn neg 0) d):=by
 have e:mkRat (sgn neg 0) d = 0:=by cases neg <;> simp [sgn]
 rw [e]
 exact ⟨_,_,by simp [isNeg],NatAt.nil_ _,by simpa using NatAt.nil_ _,From.nil_ _,From.nil_ _⟩

theorem make1R (w:World) (neg:Bool) (vn vd:Value) (ln ld:List Nat) (k:Nat)(hn:DigAt w vn ln)(hd:DigAt w vd ld) (qn:val ln < 2 ^ k) (qd:val ld < 2 ^ k)(h0:0 < k)(hk:k <= 17592186044416) :
  Calls Tryz.prog 76 #[.bool neg,vn,vd] w fun e w'=>∃ v',e = .returned v'/\CanNew w.heap.size w' v' (fracVal neg (val ln) (val ld))/\Below w.heap.size w w':=by
 have H1:=Lib.hid hn
 have H2:=Lib.hid hd
 clear hn hd
 obtain ⟨n,hN⟩:∃ n,val ln = n:=⟨_,rfl⟩
 obtain ⟨d0,hD0⟩:∃ d,val ld = d:=⟨_,rfl⟩
 rw [hN,hD0]
 rw [hN] at qn
 rw [hD0] at qd
 have HN:=Lib.hid hN
 have HD0:=Lib.hid hD0
 clear hN hD0
 unfold fracVal
 obtain ⟨d,hD⟩:∃ d,(if d0 = 0 then 1 else d0) = d:=⟨_,rfl⟩
 rw [hD]
 have QN:=Lib.hid qn
 have QD:Hid (d < 2 ^ k):=Lib.hid (by rw [<- hD]; split; exact Nat.one_lt_two_pow (by omega); exact qd)
 have hd0:0 < d:=by rw [<- hD]; split <;> omega
 have HD:=Lib.hid hD
 clear qn qd hD
 go_enter Tryz.func76,Tryz.ntmps76
 go_wp2_with fail
 obtain ⟨W,hW,P0,PB,Phs⟩:=box1 w 31 [.bool false,.slice none 0 0,.slice none 0 0]
 rw [<- hW]
 clear hW
 refine (trimR W vn ln (H1.out.below PB.out)).mono ?_
 rintro e w1 ⟨hw1,v1,rfl,t1,_,_⟩
 cases hw1
 have T1:Hid (NatAt W v1 n):=Lib.hid (HN.out ▸ t1)
 clear t1
 go_wp2_with fail
 refine (trimR W vd ld (H2.out.below PB.out)).mono ?_
 rintro e w1 ⟨hw1,v2,rfl,t1,_,_⟩
 cases hw1
 have T2:Hid (NatAt W v2 d0):=Lib.hid (HD0.out ▸ t1)
 clear t1
 obtain ⟨A1,m1,c1,rfl,hm1,hp1⟩:=T1.out.len
 obtain ⟨A2,m2,c2,rfl,hm2,hp2⟩:=T2.out.len
 obtain ⟨r0,r1,r2,z0,z1,z2⟩:=P0.out.three
 rcases Nat.eq_zero_or_pos n with hz | hn0
 ·subst hz
  obtain rfl:m1 = 0:=by omega
  go_wp2_with fail
  refine bodyPost_ret (v:=.agg #[.bool false,.slice none 0 0,.slice none 0 0]) (by simp [results,Tryz.results76,go_sem,r0,r1,r2]) rfl ⟨_,rfl,CanNew.zero _ _ _ _,below_box3 PB.out (Nat.le_refl _) _ _ _⟩
 have hm0:((m1:Int) == 0) = false:=by simp; omega
 clear r0 r1 r2 z0 z1 z2
 go_upto_if 19 with fail
 go_cut [2] (fun dv wc=>∃ v2,v2 = dv/\Hid (NatAt wc v2 d)/\Hid (NatAt wc (.slice A1 m1 c1) n)/\Hid (Below w.heap.size w wc)/\Hid (Blk wc w.heap.size 31 [.bool false,.slice none 0 0,.slice none 0 0]))
 case first =>
  rcases Nat.eq_zero_or_pos d0 with hz | hz
  ·obtain rfl:m2 = 0:=by omega
   have HD1:Hid (d = 1):=Lib.hid (by rw [<- HD.out,if_pos hz])
   go_wp2_with fail
   go_meet
   exact ⟨_,rfl,Lib.hid (by rw [HD1.out]; exact NatAt.digit1 W 182 1 (by omega) (by omega)),Lib.hid (T1.out.alloc _),Lib.hid (PB.out.alloc (by omega) _),Lib.hid (P0.out.alloc _)⟩
  have hm3:((m2:Int) == 0) = false:=by simp; omega
  have TT2:Hid (NatAt W (.slice A2 m2 c2) d):=Lib.hid (by rw [<- HD.out,if_neg (by omega)]; exact T2.out)
  go_wp2_with fail
  go_meet
  exact ⟨_,rfl,TT2,T1,PB,P0⟩
 obtain ⟨v2,rfl,TT2,TT1,BB,R0⟩:=hcut
 clear T1 T2 PB P0 Phs
 obtain ⟨W1,rfl⟩:∃ W1,W1 = wc:=⟨_,rfl⟩
 have hsz:w.heap.size < W1.heap.size:=R0.out.lt
 have QG:Hid (Nat.gcd n d < 2 ^ k):=Lib.hid (Nat.lt_of_le_of_lt (Nat.gcd_le_left d hn0) QN.out)
 go_upto_region 7 with fail
 obtain ⟨W2,hW2⟩:∃ W2,W2 = W1.alloc (.cells #[.int .u32 1] 182):=⟨_,rfl⟩
 rw [<- hW2]
 have GB:Hid (Below W1.heap.size W1 W2):=Lib.hid (by rw [hW2]; exact (Below.refl _ W1).alloc (Nat.le_refl _) _)
 have G1:Hid (NatAt W2 (.slice (some ⟨W1.heap.size,0,none⟩) 1 1) 1):=Lib.hid (by rw [hW2]; exact NatAt.digit1 W1 182 1 (by omega) (by omega))
 have X1:=Lib.hid (TT1.out.below GB.out)
 have X2:=Lib.hid (TT2.out.below GB.out)
 have XB:=Lib.hid (BB.out.trans (GB.out.mono BB.out.size))
 have XR:=Lib.hid (R0.out.below' GB.out)
 clear TT1 TT2 BB R0 GB hW2
 obtain ⟨g0,hg0⟩:∃ v,v = Value.slice (some ⟨W1.heap.size,0,none⟩) 1 1:=⟨_,rfl⟩
 rw [<- hg0] at G1 ⊢
 clear hg0
 have hsz1:w.heap.size < W2.heap.size:=XR.out.lt
 obtain ⟨tt,htt⟩:∃ b,(decide (d ≠ 1) && decide (n ≠ 1)) = b:=⟨_,rfl⟩
 have HTT:=Lib.hid htt
 clear htt
 go_cut [29] (fun t wc=>t = .bool tt/\wc = W2)
 case first =>
  by_cases hd1:d = 1
  ·have TD:Hid (NatAt W2 v2 1):=Lib.hid (by rw [<- hd1]; exact X2.out)
   have HT2:Hid (false = tt):=Lib.hid (by rw [<- HTT.out,decide_eq_false (by omega),Bool.false_and])
   clear hd1
   go_wp2_with fail
   refine (oneT TD.out).mono ?_
   rintro e w2 ⟨hw2,rfl⟩
   cases hw2
   go_wp2_with fail
   go_meet
   exact ⟨by rw [<- HT2.out],rfl⟩
  have HD1:=Lib.hid hd1
  clear hd1
  go_wp2_with fail
  refine (oneF X2.out HD1.out).mono ?_
  rintro e w2 ⟨hw2,rfl⟩
  cases hw2
  by_cases hn1:n = 1
  ·have TN:Hid (NatAt W2 (.slice A1 m1 c1) 1):=Lib.hid (by rw [<- hn1]; exact X1.out)
   have HT2:Hid (false = tt):=Lib.hid (by rw [<- HTT.out,decide_eq_false (p:=n ≠ 1) (by omega),Bool.and_false])
   have HN1:=Lib.hid hn1
   clear hn1
   go_wp2_with fail
   refine (oneT TN.out).mono ?_
   rintro e w2 ⟨hw2,rfl⟩
   cases hw2
   go_wp2_with fail
   go_meet
   exact ⟨by rw [<- HT2.out],rfl⟩
  have HT2:Hid (true = tt):=Lib.hid (by rw [<- HTT.out,decide_eq_true HD1.out,decide_eq_true hn1]; rfl)
  have HN1:=Lib.hid hn1
  clear hn1
  go_wp2_with fail
  refine (oneF X1.out HN1.out).mono ?_
  rintro e w2 ⟨hw2,rfl⟩
  cases hw2
  go_wp2_with fail
  go_meet
  exact ⟨by rw [<- HT2.out],rfl⟩
 obtain ⟨rfl,rfl⟩:=hcut
 go_upto_if 29 with fail
 go_cut [7] (fun gv wd=>∃ vg,vg = gv/\Hid (NatAt wd vg (Nat.gcd n d))/\Hid (NatAt wd v2 d)/\Hid (NatAt wd (.slice A1 m1 c1) n)/\Hid (Below w.heap.size w wd)/\Hid (Blk wd w.heap.size 31 [.bool false,.slice none 0 0,.slice none 0 0]))
 case first =>
  cases tt with
  | false =>
   have HGG:Hid (Nat.gcd n d = 1):=Lib.hid (by
    have h1:=HTT.out
    rw [Bool.and_eq_false_iff,decide_eq_false_iff_not,decide_eq_false_iff_not,Decidable.not_not,Decidable.not_not] at h1
    rcases h1 with h1 | h1
    ·rw [h1]; exact Nat.gcd_one_right n
    ·rw [h1]; exact Nat.gcd_one_left d)
   go_wp2_with fail
   go_meet
   exact ⟨_,rfl,Lib.hid (by rw [HGG.out]; exact G1.out),X2,X1,XB,XR⟩
  | true =>
   go_wp2_with fail
   refine (gcdR _ _ _ n d k X1.out X2.out QN.out QD.out (by omega) (by omega) (by omega)).mono ?_
   rintro e w2 ⟨vg,rfl,t1,hb⟩
   have Y1:=Lib.hid (X1.out.below hb)
   have Y2:=Lib.hid (X2.out.below hb)
   have YB:=Lib.hid (XB.out.trans (hb.mono XB.out.size))
   have YR:=Lib.hid (XR.out.below' hb)
   have YG:=Lib.hid t1
   clear t1 hb
   go_wp2_with fail
   go_meet
   exact ⟨_,rfl,YG,Y2,Y1,YB,YR⟩
 obtain ⟨vg,rfl,VG,TA2,TA1,BB2,RA⟩:=hcut
 clear X1 X2 XB XR G1
 obtain ⟨w2,rfl⟩:∃ x,x = wc:=⟨_,rfl⟩
 have hsz2:w.heap.size < w2.heap.size:=RA.out.lt
 go_wp2_with fail
 refine (oneR w2 _ _ VG.out).mono ?_
 rintro e w3 ⟨hw3,rfl⟩
 cases hw3
 go_upto_if 35 with fail
 go_cut [1,2] (fun nv dv we=>∃ v1 v3,v1 = nv/\v3 = dv/\Hid (NatAt we v1 (n / Nat.gcd n d))/\Hid (NatAt we v3 (d / Nat.gcd n d))/\Hid (Below w.heap.size w we)/\Hid (Blk we w.heap.size 31 [.bool false,.slice none 0 0,.slice none 0 0]))
 case first =>
  by_cases hg:Nat.gcd n d = 1
  ·have HGG:=Lib.hid hg
   rw [decide_eq_true hg]
   clear hg
   go_wp2_with fail
   go_meet
   exact ⟨_,_,rfl,rfl,Lib.hid (by rw [HGG.out,Nat.div_one]; exact TA1.out),Lib.hid (by rw [HGG.out,Nat.div_one]; exact TA2.out),BB2,RA⟩
  have HG0:Hid (0 < Nat.gcd n d):=Lib.hid (Nat.gcd_pos_of_pos_left _ hn0)
  rw [decide_eq_false hg]
  clear hg
  go_wp2_with fail
  refine (divideR w2 _ _ n (Nat.gcd n d) k TA1.out VG.out QN.out QG.out hk HG0.out).mono ?_
  rintro e w3 ⟨vq,vr,rfl,q1,_,q3,_,_⟩
  have Q1:=Lib.hid q1
  have B3:=Lib.hid (BB2.out.trans (q3.mono (by omega)))
  have VG3:=Lib.hid (VG.out.below q3)
  have TA3:=Lib.hid (TA2.out.below q3)
  have RA3:=Lib.hid (RA.out.below' q3)
  have hs3:=q3.size
  clear q1 q3
  go_wp2_with fail
  refine (divideR w3 _ _ d (Nat.gcd n d) k TA3.out VG3.out QD.out QG.out hk HG0.out).mono ?_
  rintro e Wf ⟨v4,vr2,rfl,q1,_,q3,_,_⟩
  have U1:=Lib.hid (Q1.out.below q3)
  have U2:=Lib.hid q1
  have UB:=Lib.hid (B3.out.trans (q3.mono (by omega)))
  have UR:=Lib.hid (RA3.out.below' q3)
  clear q1 q3
  go_wp2_with fail
  go_meet
  exact ⟨_,_,rfl,rfl,U1,U2,UB,UR⟩
 obtain ⟨v1,v2,rfl,rfl,U1,U2,UB,UR⟩:=hcut
 clear VG TA2 TA1 BB2 RA
 obtain ⟨Wf,rfl⟩:∃ x,x = wc:=⟨_,rfl⟩
 have hszf:w.heap.size < Wf.heap.size:=UR.out.lt
 have UQ:Hid (n / Nat.gcd n d < 2 ^ k):=Lib.hid (Nat.lt_of_le_of_lt (Nat.div_le_self _ _) QN.out)
 have UQ2:Hid (d / Nat.gcd n d < 2 ^ k):=Lib.hid (Nat.lt_of_le_of_lt (Nat.div_le_self _ _) QD.out)
 go_wp2_with (at_builtin; refine wpList_dup_nat rfl _ _ rfl rfl _ rfl _ k U1.out UQ.out (by omega) ?_)
 intro An mn cn wn n1 n2 n3
 have N1:=Lib.hid n1
 have N2:=Lib.hid n2
 have UB2:=Lib.hid (UB.out.trans (n3.mono (by omega)))
 have UR2:=Lib.hid (UR.out.below' n3)
 have V2:=Lib.hid (U2.out.below n3)
 have hszn:Wf.heap.size <= wn.heap.size:=n3.size
 clear n1 n2 n3
 go_wp2_with fail
 obtain ⟨wb,hwb,O0,OB,Ohs⟩:=box1 wn 31 [.bool neg,.slice An mn cn,.slice none 0 0]
 rw [<- hwb]
 clear hwb
 have N3:=Lib.hid (N1.out.below OB.out)
 have V3:=Lib.hid (V2.out.below OB.out)
 have UR3:=Lib.hid (UR2.out.below' OB.out)
 have UB3:=Lib.hid (UB2.out.trans (OB.out.mono (by omega)))
 have hO:wn.heap.size ≠ w.heap.size:=by omega
 have hF:=N2.out.mono (show w.heap.size + 1 <= Wf.heap.size by omega)
 have HF:=Lib.hid hF
 clear hF
 by_cases hd2:d / Nat.gcd n d = 1
 ·have V4:Hid (NatAt wb v2 1):=Lib.hid (by rw [<- hd2]; exact V3.out)
  have HD2:=Lib.hid hd2
  clear hd2
  obtain ⟨r0,r1,r2,z0,z1,z2⟩:=UR3.out.three
  obtain ⟨o0,o1,o2,y0,y1,y2⟩:=O0.out.three
  refine (oneT V4.out).mono ?_
  rintro e w5 ⟨hw5,rfl⟩
  cases hw5
  go_wp2_with fail
  refine bodyPost_ret (v:=.agg #[.bool neg,.slice An mn cn,.slice none 0 0]) (by simp [results,Tryz.results76,go_sem,r0,r1,r2]) rfl ⟨_,rfl,CanNew.of_parts hn0 hd0 (N3.out.box3 HF.out _ _ _) (by rw [if_pos HD2.out]; exact NatAt.nil_ _) (HF.out.mono (by omega)) (From.nil_ _),below_box3 UB3.out (Nat.le_refl _) _ _ _⟩
 have HD2:=Lib.hid hd2
 clear hd2
 refine (oneF V3.out HD2.out).mono ?_
 rintro e w5 ⟨hw5,rfl⟩
 cases hw5
 obtain ⟨o0,o1,o2,y0,y1,y2⟩:=O0.out.three
 go_wp2_with (at_builtin; refine wpList_dup_nat rfl _ _ rfl rfl _ rfl _ k V3.out UQ2.out (by omega) ?_)
 intro Ad md cd wd n1 n2 n3
 have M1:=Lib.hid n1
 have M2:=Lib.hid n2
 have N4:=Lib.hid (N3.out.below n3)
 have UB4:=Lib.hid (UB3.out.trans (n3.mono (by omega)))
 have UR4:=Lib.hid (UR3.out.below' n3)
 have O4:=Lib.hid (O0.out.below' n3)
 clear n1 n2 n3 o0 o1 o2 y0 y1 y2
 have hOs:wn.heap.size < wb.heap.size:=O0.out.lt
 obtain ⟨r0,r1,r2,z0,z1,z2⟩:=UR4.out.three
 obtain ⟨o0,o1,o2,y0,y1,y2⟩:=O4.out.three
 go_wp2_with fail
 refine bodyPost_ret (v:=.agg #[.bool neg,.slice An mn cn,.slice Ad md cd]) (by simp [results,Tryz.results76,go_sem,r0,r1,r2]) rfl ⟨_,rfl,CanNew.of_parts hn0 hd0 ?_ ?_ (HF.out.mono (by omega)) (M2.out.mono (by omega)),below_box3 (UB4.out.setCell (p:=⟨wn.heap.size,2,none⟩) (by show w.heap.size <= wn.heap.size; omega) _) (Nat.le_refl _) _ _ _⟩
 ·exact (N4.out.setOff (p:=⟨wn.heap.size,2,none⟩) (N1.out.off (Nat.le_refl _)) _).box3 HF.out _ _ _
 rw [if_neg HD2.out]
 exact (M1.out.setFar (p:=⟨wn.heap.size,2,none⟩) M2.out hOs _).box3 (M2.out.mono (by omega)) _ _ _
end Go.Proofs.YtdehimgccmbfkaaGreat
