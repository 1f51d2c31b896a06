/- Lemmas. -/
import Derived.Test.YtjebfdfkjlkifaaGreatR11
set_option linter.all false
set_option maxRecDepth 1000000
set_option maxHeartbeats 32000000
namespace Go.Proofs.YtjebfdfkjlkifaaGreat
open Go.RowKit
theorem NatAt.digit1 (w:World) (e:TypeId) (d:Nat)(h0:d ≠ 0)(hd:d < 4294967296):NatAt (w.alloc (.cells #[.int .u32 (d:Int)] e)) (.slice (some ⟨w.heap.size,0,none⟩) 1 1) d :=
 ⟨[d],⟨Sl.one _ _ _,Ok.cons.2 ⟨hd,Ok.nil⟩⟩,by simpa [Trim] using h0,by simp [val]⟩

theorem uZ (r:Nat) {x:Nat} (hx:x < 4294967296):bits .and .u32 ((x:Int) / 2 ^ r) 1 = ((x / 2 ^ r % 2:Nat):Int):=by
 have h1:(x:Int) / 2 ^ r = ((x / 2 ^ r:Nat):Int):=by rw [Int.natCast_ediv,Int.natCast_pow]; rfl
 rw [h1]
 exact nf (lL (Nat.div_le_self _ _) hx)
theorem vK {r y:Nat} (hr:r < 32)(h:y ||| 2 ^ r = y + 2 ^ r)(hy:y < 4294967296):bits .or .u32 (y:Int) (2 ^ r % 4294967296) = ((y + 2 ^ r:Nat):Int):=by
 have h2:2 ^ r < 4294967296:=Nat.lt_of_lt_of_le (Nat.pow_lt_pow_right (by omega) hr) (by decide)
 have h1:(2:Int) ^ r % 4294967296 = ((2 ^ r:Nat):Int):=by
  rw [show (2:Int) ^ r = ((2 ^ r:Nat):Int) by rw [Int.natCast_pow]; rfl]
  generalize 2 ^ r = z at *
  omega
 rw [h1,u32_or_nat y _ hy h2,h]
theorem lY {l:List Nat} (h:Ok l) {bl:Nat} (hb:ck (val l) = bl):bl <= 32 * l.length:=by
 rw [<- hb]
 exact jY (by rw [Nat.pow_mul]; exact de l h)

theorem jb (w:World) (va vb:Value) (a b k:Nat)(ha:NatAt w va a)(hb:NatAt w vb b) (la:a < 2 ^ k) (lb:b < 2 ^ k)(hk:k <= 17592186044416)(hb0:0 < b) :
  Calls Tryz.prog 143 #[va,vb] w fun e w'=>∃ vq vr,e = .returned (.tuple #[vq,vr])/\NatAt w' vq (a / b)/\NatAt w' vr (a % b)/\Below w.heap.size w w'/\From vq w.heap.size/\From vr w.heap.size:=by
 have TA:Hd (∀ W,W = w->Calls Tryz.prog 98 #[va] W fun e w'=>w' = W/\e = .returned va):=aH (fun W e=>by rw [e]; exact mg w va a ha)
 have TB:Hd (∀ W,W = w->Calls Tryz.prog 98 #[vb] W fun e w'=>w' = W/\e = .returned vb):=aH (fun W e=>by rw [e]; exact mg w vb b hb)
 have NA:=aH ha
 have NB:=aH hb
 have LA:=aH la
 have LB:=aH lb
 obtain ⟨l,dl,tl,rfl⟩:=ha
 obtain ⟨m,dm,tm,rfl⟩:=hb
 have ll:=tl.length_le la
 clear la lb
 obtain ⟨okl,A,ca,rfl,hlc,hcm,hA⟩:=dl.open_
 obtain ⟨okm,B,cb,rfl,hmc,hcm',hB⟩:=dm.open_
 clear dl dm
 have HA:=aH hA
 have HB:=aH hB
 have HO:=aH okl
 have HP:=aH okm
 have HT:=aH tl
 have HU:=aH tm
 clear hA hB okl okm tl tm
 obtain ⟨n,hn⟩:=nm (l.length)
 obtain ⟨p,hp⟩:=nm (m.length)
 rw [hn] at hlc ll TA NA ⊢
 rw [hp] at hmc TB NB ⊢
 have HN:=aH hn
 have HQ:=aH hp
 clear hn hp
 have HB0:=aH hb0
 clear hb0
 obtain ⟨i0,hi,hz0,hz1,hz2⟩:=info_parts cC
 by_cases hp1:p = 1
 ·subst hp1
  obtain ⟨d,rfl⟩:∃ d,m = [d]:=List.length_eq_one_iff.1 HQ.o
  have hd1:d < 4294967296:=HP.o.get (k:=0) rfl
  have hd0:0 < d:=by have:=HB0.o; simpa [val] using this
  have HM:Hd (val [d] = d):=aH (by simp [val])
  obtain ⟨bB,offB,rfl,hbB,hcB0⟩:∃ b off,B = some ⟨b,off,none⟩/\b < w.heap.size/\w.cell? ⟨b,off,none⟩ = some (.int .u32 (d:Int)):=by
   rcases HB.o with h | ⟨b,off,h,h1,h2⟩
   ·cases h
   exact ⟨b,off,h,h1,h2 0 d rfl⟩
  go_enter Tryz.func143,Tryz.ntmps143
  go_wp2_with fail
  refine (TA.o _ rfl).mono ?_
  rintro e w1 ⟨hw1,rfl⟩
  cases hw1
  go_wp2_with fail
  refine (TB.o _ rfl).mono ?_
  rintro e w1 ⟨hw1,rfl⟩
  cases hw1
  go_wp2_with (at_make; refine ay rfl _ _ 38 rfl 181 i0 (.int .u32 0) 4 Tryz.underlying38 hi hz0 hz1 hz2 rfl .i64 .i64 _ _ n rfl rfl (by omega) (by omega) (by omega) (by unfold maxLen; omega) ?_)
  intro w1 hblk hbel
  go_wp2_with fail
  go_loopw [7,8] (fun r i wr=>∃ (q:Int) (k rr:Nat) (o:List Nat),i = .int .i64 q/\r = .int .u64 rr/\q + 1 = k/\k <= n/\OverTo l o d k rr/\DB wr w.heap.size o/\Below w.heap.size w wr)
   (fun _ i _=>(intOf i + 1).toNat)
  case atStart=>exact ⟨_,n,0,List.replicate l.length 0,rfl,rfl,by omega,by omega,HN.o ▸ OverTo.start l hd0,DB.of_blk (e:=181) (by rw [HN.o]; simpa [dg] using hblk),hbel⟩
  obtain ⟨q,k',rr,o,rfl,rfl,hq,hk',hs,hdb,hbel⟩:=hrel
  have ho:=hs.2.1
  rw [HN.o] at ho
  have HL:=aH ho
  have HS:=aH hs
  have HDB:=aH hdb
  have hrr:=hs.2.2.1
  clear ho hblk hs
  rcases zP k' with h0 | h0
  ·subst h0
   obtain rfl:q = -1:=by omega
   clear hq
   have DN:=aH HS.o.done
   have HD:=aH (HDB.o.digAt HS.o.1 (n:=n) (c:=n) (by rw [HL.o]) (nR _) (by omega))
   have HB2:=aH hbel
   clear hbel hdb
   have hrr':(rr:Int) % 4294967296 = rr:=by omega
   go_wp2_with fail
   refine (fk wr _ o HD.o).mono ?_
   rintro e w2 ⟨hw2,vq,rfl,t1,t2,_⟩
   cases hw2
   have T1:=aH t1
   have F1:=aH (t2.from (B:=w.heap.size) (fun ad n' c' e=>by cases e; exact nR _))
   clear t1 t2
   go_wp2_with fail
   refine (fk _ _ [rr] ⟨Sl.one _ _ _,Ok.cons.2 ⟨by omega,Ok.nil⟩⟩).mono ?_
   rintro e w2 ⟨hw2,vr,rfl,t1,t2,_⟩
   cases hw2
   have T2:=aH t1
   have F2:=aH (t2.from (B:=wr.heap.size) (fun ad n' c' e=>by cases e; exact nR _))
   clear t1 t2
   go_wp2_with fail
   go_ret2
   have hz:=HB2.o.size
   exact ⟨vq,vr,rfl,by rw [HM.o,<- DN.o.1]; exact T1.o.alloc _,by rw [HM.o,<- DN.o.2]; have:=T2.o; simpa [val] using this,HB2.o.alloc hz _,F1.o,F2.o.mono hz⟩
  obtain ⟨k,rfl⟩:∃ k,k' = k + 1:=⟨k' - 1,by omega⟩
  obtain rfl:q = k:=by omega
  clear hq h0
  have hkl:k < l.length:=by rw [HN.o]; omega
  obtain ⟨x,hx⟩:∃ x,l[k]? = some x:=⟨_,eG hkl⟩
  have hx0:=HO.o.get hx
  have hxd:l.getD k 0 = x:=by rw [gD,hx]; rfl
  have hk0:k < o.length:=by rw [HL.o]; omega
  have hz:=hdb.cell hk0
  have hfz:=hdb.frozen k
  have hcx:=aS HA.o HN.o hbel k x hxd
  have STEP:=aH (HS.o.step hd1 hx hx0)
  have HB2:=aH hbel
  have HK0:=aH hk0
  have hcB:=(hbel.cell (p:=⟨bB,offB,none⟩) hbB).trans hcB0
  have hcB':=(HB2.o.setCell (p:=⟨w.heap.size,k,none⟩) (nR _) (.int .u32 (((rr:Int) * 4294967296 + (x:Int)) / (d:Int) % 4294967296))).cell (p:=⟨bB,offB,none⟩) hbB
  rw [hcB0] at hcB'
  clear hx hxd hbel hdb hk0 hkl
  rcases hcx with ⟨h1,b,off,rfl,hb,hc1⟩ | ⟨h1,hx⟩
  ·have hor:=vL rr x (by omega) hx0
   go_wp2_with fail
   exact ⟨⟨_,k,_,_,rfl,di (lB _ _ _),by omega,by omega,STEP.o.1,HDB.o.set HK0.o (lC _ _ _ STEP.o.2),HB2.o.setCell (p:=⟨w.heap.size,k,none⟩) (nR _) _⟩,by simp [intOf]⟩
  omega
 have hp1':((p:Int) == 1) = false:=by simp; omega
 go_enter Tryz.func143,Tryz.ntmps143
 go_wp2_with fail
 refine (TA.o _ rfl).mono ?_
 rintro e w1 ⟨hw1,rfl⟩
 cases hw1
 go_wp2_with fail
 refine (TB.o _ rfl).mono ?_
 rintro e w1 ⟨hw1,rfl⟩
 cases hw1
 go_wp2_with (at_make; refine ay rfl _ _ 38 rfl 181 i0 (.int .u32 0) 4 Tryz.underlying38 hi hz0 hz1 hz2 rfl .i64 .i64 _ _ n rfl rfl (by omega) (by omega) (by omega) (by unfold maxLen; omega) ?_)
 intro w1 hblk hbel
 go_wp2_with fail
 refine (xh w1 _ _ k (NA.o.below hbel) LA.o (by omega)).mono ?_
 rintro e w2 ⟨hw2,rfl⟩
 cases hw2
 have hbl:=jY LA.o
 have BL:=aH (sp (val l))
 have HBL0:Hd (ck (val l) = ck (val l)):=aH rfl
 generalize hbl0:ck (val l) = bl at *
 have HBL:=aH hbl0
 clear hbl0 HBL0
 go_wp2_with fail
 go_loopg [9,10] bl (fun g rv i wr=>∃ (q:Int) (R:Nat) (o:List Nat),i = .int .i64 q/\q + 1 = g/\g <= bl/\Hd (NatAt wr rv R/\From rv (w.heap.size + 1))/\Hd (BitTo (val l) (val m) R o n g)/\Hd (DB wr w.heap.size o)/\Hd (Below w.heap.size w wr))
 case atStart=>exact ⟨_,0,List.replicate n 0,rfl,by omega,nR _,aH ⟨NatAt.nil_ _,From.nil_ _⟩,aH (BitTo.start BL.o),aH (DB.of_blk (e:=181) (by simpa [dg] using hblk)),aH hbel⟩
 clear hblk hbel
 obtain ⟨q,R,o,rfl,hq,hg,HR,HBT,HDB,HBE⟩:=hrel
 rcases zP gk with h | h
 ·subst h
  obtain rfl:q = -1:=by omega
  have DN:=aH HBT.o.done
  have HD:=aH (HDB.o.digAt HBT.o.1 (n:=n) (c:=n) HBT.o.2.1 (nR _) (by omega))
  go_wp2_with fail
  refine (fk wr _ o HD.o).mono ?_
  rintro e w2 ⟨hw2,vq,rfl,t1,t2,_⟩
  cases hw2
  have T1:=aH t1
  have F1:=aH (t2.from (B:=w.heap.size) (fun ad n' c' e=>by cases e; exact nR _))
  clear t1 t2
  go_wp2_with fail
  go_ret2
  exact ⟨vq,_,rfl,by rw [<- DN.o.1]; exact T1.o,by rw [<- DN.o.2]; exact HR.o.1,HBE.o,F1.o,HR.o.2.mono (by omega)⟩
 obtain ⟨j,rfl⟩:∃ j,gk = j + 1:=⟨gk - 1,by omega⟩
 obtain rfl:q = j:=by omega
 clear hq h
 obtain ⟨kk,r,hj,hr⟩:∃ kk r,j = 32 * kk + r/\r < 32:=⟨j / 32,j % 32,by omega,by omega⟩
 have hdv:(j:Int) / 32 = (kk:Int):=by omega
 have hmd:(j:Int) % 32 = (r:Int):=by omega
 have HJ:=aH hj
 clear hj
 have hs1:=HBE.o.size
 have hs0:w.heap.size < wr.heap.size:=HDB.o.lt
 have hRb:R < val m:=by rw [HBT.o.2.2.2]; exact Nat.mod_lt _ HB0.o
 have HRB:=aH hRb
 have HRL:Hd (R < 2 ^ k):=aH (Nat.lt_trans hRb LB.o)
 clear hRb
 obtain ⟨c,hc⟩:=nm (val l / 2 ^ (32 * kk + r) % 2)
 have hc2:c < 2:=by omega
 obtain ⟨x,hx⟩:=nm (l.getD kk 0)
 have hx0:x < 4294967296:=by rw [<- hx]; exact HO.o.getD kk
 have HBV:Hd (x / 2 ^ r % 2 = c):=aH (by rw [<- uY HO.o hx hr,hc])
 have hkn:kk < n:=by
  have h1:=lY (l:=l) HO.o (bl:=bl) HBL.o
  rw [HN.o] at h1
  have:=HJ.o
  omega
 have HC:=aH hc
 clear hc
 go_wp2_with fail
 refine (mQ wr _ _ R R k HR.o.1 HR.o.1 HRL.o HRL.o (by omega)).mono ?_
 rintro e w2 ⟨v2,rfl,t1,t2,t3⟩
 have T2:=aH t1
 have B2:=aH (HBE.o.trans (t2.mono hs1))
 have F2:=aH (t3.mono (show w.heap.size + 1 <= wr.heap.size from hs0))
 have D2:=aH (HDB.o.below t2)
 have hs2:w.heap.size + 1 <= w2.heap.size:=Nat.le_trans (show w.heap.size + 1 <= wr.heap.size from hs0) t2.size
 clear t1 t2 t3
 have hcx:=aS HA.o HN.o B2.o kk x hx
 clear hx
 rcases hcx with ⟨_,ba,offa,rfl,hba,hca⟩ | ⟨h1,_⟩
 case inr=>omega
 have hbit:bits .and .u32 ((x:Int) / 2 ^ r) 1 = (c:Int):=by rw [uZ r hx0,HBV.o]
 rcases (show c = 0 ∨ c = 1 by omega) with hc0 | hc0
 all_goals
  have HC0:=aH hc0
  clear hc0
 case' inr =>
  have hb1:(bits .and .u32 ((x:Int) / 2 ^ r) 1 == 1) = true:=by rw [hbit,HC0.o]; rfl
  clear hbit
  go_wp2_with fail
  refine (mQ _ _ _ (R + R) 1 (k + 1) (T2.o.alloc _) (NatAt.digit1 _ _ 1 (by omega) (by omega)) (by have:=HRL.o; rw [Nat.pow_succ]; omega) (Nat.one_lt_two_pow (by omega)) (by omega)).mono ?_
  rintro e w3 ⟨v3,rfl,t1,t2,t3⟩
  rw [World.size_alloc] at t2 t3
  have T3:Hd (NatAt w3 v3 (R + R + c)):=aH (by rw [HC0.o]; exact t1)
  have B3:=aH ((B2.o.alloc (by omega) _).trans (t2.mono (by omega)))
  have F3:=aH (t3.mono (show w.heap.size + 1 <= w2.heap.size + 1 by omega))
  have D3:=aH ((D2.o.alloc _).below (by rw [World.size_alloc]; exact t2))
  have hs3:w.heap.size + 1 <= w3.heap.size:=by have:=t2.size; rw [World.size_alloc] at this; omega
  clear t1 t2 t3 T2 B2 F2 D2 hs2
 case' inl =>
  have hb1:(bits .and .u32 ((x:Int) / 2 ^ r) 1 == 1) = false:=by rw [hbit,HC0.o]; rfl
  clear hbit
  have T3:Hd (NatAt w2 v2 (R + R + c)):=aH (by rw [HC0.o]; exact T2.o)
  have B3:=B2
  have F3:=F2
  have D3:=D2
  have hs3:=hs2
  clear T2 B2 F2 D2 hs2
  obtain ⟨w3,rfl⟩:∃ w3,w3 = w2:=⟨_,rfl⟩
  obtain ⟨v3,rfl⟩:∃ v3,v3 = v2:=⟨_,rfl⟩
 all_goals
  have OC:=jz w3 v3 _ _ _ T3.o (NB.o.below B3.o)
  rcases Nat.lt_or_ge (R + R + c) (val m) with hlt | hge
  ·rw [d9 hlt] at OC
   have HLT:=aH hlt
   clear hlt
   go_wp2_with fail
   refine OC.mono ?_
   rintro e w4 ⟨rfl,nd,rfl⟩
   go_wp2_with fail
   go_roundg j
   case measure=>omega
   case rel=>exact ⟨(j:Int) - 1,_,o,rfl,by omega,by omega,aH ⟨T3.o.drewN nd,F3.o⟩,aH (HBT.o.skip (by rw [HJ.o]; exact HC.o) HLT.o),aH (D3.o.drewN nd),aH (ak B3.o nd)⟩
  obtain ⟨z,hz,hz0⟩:∃ z,dX (R + R + c) (val m) = z/\decide (0 <= z) = true:=⟨_,rfl,dT (by unfold dX; rw [if_neg (by omega)]; split <;> omega)⟩
  rw [hz] at OC
  have HGE:=aH hge
  clear hge hz
  go_wp2_with fail
  refine OC.mono ?_
  rintro e w4 ⟨rfl,nd,rfl⟩
  go_wp2_with fail
  refine (gK _ _ _ _ _ (k + 1) (T3.o.drewN nd) ((NB.o.below B3.o).drewN nd) (by have:=HRL.o; rw [Nat.pow_succ]; omega) HGE.o (by omega)).mono ?_
  rintro e w4 ⟨v4,rfl,t1,t2',t3⟩
  have t2:=ar t2'
  have T4:=aH t1
  have B4:=aH (B3.o.trans (t2.mono (by omega)))
  have F4:=aH (t3.mono (show w.heap.size + 1 <= w3.heap.size from hs3))
  have D4:=aH (D3.o.below t2)
  clear t1 t2 t2' t3 T3 B3 F3 D3 hs3
  have HBT':Hd (BitTo (val l) (val m) R o n (32 * kk + r + 1)):=aH (by rw [<- HJ.o]; exact HBT.o)
  obtain ⟨y,hy⟩:=nm (o.getD kk 0)
  have HY0:Hd (y < 4294967296):=aH (by rw [<- hy]; exact HBT.o.1.getD kk)
  have STEP:=aH (HBT'.o.step hr hkn HB0.o HC.o HGE.o hy)
  have hol:kk < o.length:=by rw [HBT.o.2.1]; exact hkn
  have hoc:=D4.o.cell hol
  have hof:=D4.o.frozen kk
  rw [hy] at hoc
  have HOL:=aH hol
  clear hy hol
  go_wp2_with fail
  go_region
  go_wp2_with fail
  go_roundg j
  case measure=>omega
  case rel=>exact ⟨(j:Int) - 1,_,o.set kk (y + 2 ^ r),rfl,by omega,by omega,aH ⟨(T4.o.setFar F4.o (show w.heap.size < w.heap.size + 1 by omega) _).drew,F4.o⟩,aH (by rw [HJ.o]; exact STEP.o.2),aH ((D4.o.set HOL.o (vK hr STEP.o.1 HY0.o)).drewN 1),aH ((B4.o.setCell (p:=⟨w.heap.size,kk,none⟩) (nR _) _).drew)⟩
end Go.Proofs.YtjebfdfkjlkifaaGreat
