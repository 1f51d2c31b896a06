/- Lemmas on the way: Ref5, Ref6, Ref7, Frac10. -/
import Derived.Test.YtdehimgccmbfkaaGreatT23
set_option linter.all false
set_option maxRecDepth 1000000
set_option maxHeartbeats 32000000
namespace Go.Proofs.YtdehimgccmbfkaaGreat
open Go.RowKit
theorem cast_mac2 (c x y d:Nat):(c:Int) + (d:Int) + (x:Int) * (y:Int) = ((c + (x * y + d):Nat):Int):=by
 rw [<- cast_mac]; omega
theorem cast_div2 (c x y d:Nat):((c:Int) + (d:Int) + (x:Int) * (y:Int)) / 4294967296 = (((c + (x * y + d)) / 4294967296:Nat):Int):=by
 rw [cast_mac2]; omega
theorem cast_mod2 (c x y d:Nat):((c:Int) + (d:Int) + (x:Int) * (y:Int)) % 4294967296 = (((c + (x * y + d)) % 4294967296:Nat):Int):=by
 rw [cast_mac2]; omega

theorem timesR (w:World) (va vb:Value) (a b ka kb:Nat)(ha:NatAt w va a)(hb:NatAt w vb b) (la:a < 2 ^ ka) (lb:b < 2 ^ kb)(hka:ka <= 70368744177664)(hkb:kb <= 70368744177664) :
  Calls Tryz.prog 73 #[va,vb] w fun e w'=>∃ v',e = .returned v'/\NatAt w' v' (a * b)/\Below w.heap.size w w'/\From v' w.heap.size:=by
 obtain ⟨l,dl,tl,rfl⟩:=ha
 obtain ⟨m,dm,tm,rfl⟩:=hb
 have ll:=tl.length_le la
 have lm:=tm.length_le lb
 clear la lb tl tm
 obtain ⟨okl,A,ca,rfl,hlc,hcm,hA⟩:=dl.open_
 obtain ⟨okm,B,cb,rfl,hmc,hcm',hB⟩:=dm.open_
 clear dl dm
 have HA:=Lib.hid hA
 have HB:=Lib.hid hB
 clear hA hB
 have HO:=Lib.hid okl
 have HP:=Lib.hid okm
 clear okl okm
 obtain ⟨n,hn⟩:∃ n,l.length = n:=⟨_,rfl⟩
 obtain ⟨p,hp⟩:∃ p,m.length = p:=⟨_,rfl⟩
 rw [hn] at hlc ll ⊢
 rw [hp] at hmc lm ⊢
 have start:=RowsTo.start l m
 rw [hn,hp] at start
 have HN:=Lib.hid hn
 have HQ:=Lib.hid hp
 have HST:=Lib.hid start
 clear hn hp start
 obtain ⟨i0,hi,hz0,hz1,hz2⟩:=info_parts infoU32
 obtain ⟨N,hN1,hN2⟩:∃ N:Nat,n + p <= N/\N <= n + p:=⟨n + p,Nat.le_refl _,Nat.le_refl _⟩
 go_enter Tryz.func73,Tryz.ntmps73
 go_wp2_with (at_make; refine wpList_make_blk rfl _ _ 29 rfl 182 i0 (.int .u32 0) 4 Tryz.underlying29 hi hz0 hz1 hz2 rfl .i64 .i64 _ _ N rfl rfl (by omega) (by omega) (by omega) (by unfold maxLen; omega) ?_)
 intro w1 hblk hbel
 go_wp2_with fail
 go_loopw [6] (fun i wr=>∃ (k:Nat) (o:List Nat),i = .int .i64 k/\k <= n/\RowsTo l m o k/\DB wr w.heap.size o/\Below w.heap.size w wr)
   (fun i _=>n - (intOf i).toNat)
 case atStart=>exact ⟨0,List.replicate (n + p) 0,rfl,by omega,HST.out,DB.of_blk (e:=182) (by rw [show n + p = N by omega]; simpa [dg] using hblk),hbel⟩
 clear hblk hbel
 obtain ⟨k,o,rfl,hk,hr,hdb,hbel⟩:=hrel
 have HR:=Lib.hid hr
 have HDB:=Lib.hid hdb
 by_cases hlt:k < n
 ·obtain ⟨x,hx⟩:∃ x,l.getD k 0 = x:=⟨_,rfl⟩
  have hx0:x < 4294967296:=by rw [<- hx]; exact HO.out.getD k
  have hcx:=dig_cell HA.out HN.out hbel k x hx
  have row:=HR.out.row x
  have ROW:=Lib.hid row
  have HX:=Lib.hid hx
  have HB1:=Lib.hid hbel
  clear hx row hbel hdb hr
  rcases hcx with ⟨h1,b,off,rfl,hb,hc1⟩ | ⟨h1,hx⟩
  ·obtain ⟨wo,rfl⟩:∃ wo:World,wo = wr:=⟨_,rfl⟩
   go_wp2_with fail
   go_loopw [7,8] (fun c j wr=>∃ (q cc:Nat) (o':List Nat),j = .int .i64 q/\c = .int .u64 cc/\q <= p/\RowTo l m o' k x q cc/\DB wr w.heap.size o'/\Below w.heap.size w wr)
    (fun _ j _=>p - (intOf j).toNat)
   case atStart=>exact ⟨0,0,o,rfl,rfl,by omega,ROW.out,HDB.out,HB1.out⟩
   obtain ⟨q,cc,o',rfl,rfl,hq,hr,hdb,hbel⟩:=hrel
   have hcc:=hr.2.2.1
   have hlen:=hr.2.1
   rw [HN.out,HQ.out] at hlen
   have HLEN:=Lib.hid hlen
   have HR':=Lib.hid hr
   have HDB':=Lib.hid hdb
   clear hr hlen hdb
   by_cases hlt':q < p
   ·obtain ⟨y,hy⟩:∃ y,m.getD q 0 = y:=⟨_,rfl⟩
    have hy0:y < 4294967296:=by rw [<- hy]; exact HP.out.getD q
    obtain ⟨d,hd⟩:∃ d,o'.getD (k + q) 0 = d:=⟨_,rfl⟩
    have hd0:d < 4294967296:=by rw [<- hd]; exact HR'.out.1.getD _
    have hkq:k + q < o'.length:=by rw [HLEN.out]; omega
    have hz:=HDB'.out.cell hkq
    rw [hd] at hz
    have hfz:=HDB'.out.frozen (k + q)
    have step:=HR'.out.step hx0 hd hy hy0 (by rw [HN.out]; omega) (by rw [HQ.out]; omega)
    have STEP:=Lib.hid step
    have hcy:=dig_cell HB.out HQ.out hbel q y hy
    have HB2:=Lib.hid hbel
    have HKQ:=Lib.hid hkq
    have hcx':=dig_cell HA.out HN.out hbel k x HX.out
    have hxy:=mul_bound hx0 hy0
    have hxy1:(x:Int) * (y:Int) <= 18446744065119617025:=by
     rw [<- Int.natCast_mul]; omega
    have hxy2:0 <= (x:Int) * (y:Int):=by
     rw [<- Int.natCast_mul]; omega
    clear hd hy step hbel hkq hxy
    rcases hcy with ⟨h2,b',off',rfl,hb',hc2⟩ | ⟨h2,hy⟩
    ·rcases hcx' with ⟨_,b2,off2,heq,_,hc1'⟩ | ⟨h9,_⟩
     ·cases heq
      go_wp2_with fail
      go_quiet (fail)
      go_wp2_with fail
      exact ⟨⟨q + 1,_,_,rfl,int_eq (cast_div2 _ _ _ _),by omega,STEP.out,(HDB'.out.drewN _).set HKQ.out (cast_mod2 _ _ _ _),(below_drewN HB2.out _).setCell (p:=⟨w.heap.size,_,none⟩) (Nat.le_refl _) _⟩,by simp [intOf]; omega⟩
     omega
    omega
   obtain rfl:q = p:=by omega
   have hr2:=HR'.out
   have hx:=HX.out
   rw [<- HQ.out] at hr2
   have dn:=hr2.done hx (by rw [HN.out]; omega)
   rw [HQ.out] at dn
   have hkq:k + q < o'.length:=by rw [HLEN.out]; omega
   have hz:=HDB'.out.cell hkq
   have hfz:=HDB'.out.frozen (k + q)
   have DN:=Lib.hid dn
   have HKQ:=Lib.hid hkq
   have HB2:=Lib.hid hbel
   clear hr2 hx dn hkq hbel
   go_wp2_with fail
   exact ⟨⟨k + 1,_,rfl,by omega,DN.out,HDB'.out.set HKQ.out (by omega),HB2.out.setCell (p:=⟨w.heap.size,_,none⟩) (Nat.le_refl _) _⟩,by simp [intOf]; omega⟩
  omega
 obtain rfl:k = n:=by omega
 have hr2:=HR.out
 rw [<- HN.out] at hr2
 have hv:=hr2.done
 have hlen:=hr2.2.1
 rw [HN.out,HQ.out] at hlen
 have hd:=HDB.out.digAt hr.1 (n:=N) (c:=N) (by omega) (Nat.le_refl _) (by omega)
 have HD:=Lib.hid hd
 have HV:=Lib.hid hv
 have HB2:=Lib.hid hbel
 have HLEN:=Lib.hid hlen
 clear hd hv hbel hdb hr hr2 hlen
 have TR:Hid (∀ W,W = wr->Calls Tryz.prog 74 #[.slice (some ⟨w.heap.size,0,none⟩) N N] W fun e w'=>w' = W/\∃ v',e = .returned v'/\NatAt W v' (val o)/\From v' w.heap.size):=Lib.hid (fun W e=>by
  rw [e]
  have hd:=HD.out
  refine (trimR wr _ o hd).mono ?_
  rintro e w' ⟨h1,v',h2,h3,h4,_⟩
  subst h1
  exact ⟨rfl,v',h2,h3,h4.from (fun ad n' c' e=>by cases e; exact Nat.le_refl _)⟩)
 go_wp2_with fail
 refine (TR.out _ rfl).mono ?_
 rintro e w2 ⟨hw2,v',rfl,hv,hf⟩
 cases hw2
 have T2:=Lib.hid hv
 have T3:=Lib.hid hf
 clear hv hf
 go_wp2_with fail
 go_ret
 exact ⟨v',rfl,HV.out ▸ T2.out,HB2.out,T3.out⟩
theorem val_mod2 {l:List Nat}:val l % 2 = l.getD 0 0 % 2:=by
 cases l with
 | nil=>rfl
 | cons d l=>simp only [val,List.getD_cons_zero]; omega

theorem ret_bool {a b:Bool} (h:a = b):Ending.returned (.bool a) = .returned (.bool b):=by rw [h]

theorem evenR (w:World) (va:Value) (a:Nat)(ha:NatAt w va a) :
  Calls Tryz.prog 175 #[va] w fun e w'=>w' = w/\e = .returned (.bool (decide (a % 2 = 0))):=by
 obtain ⟨l,dl,tl,rfl⟩:=ha
 obtain ⟨okl,A,ca,rfl,hlc,hcm,hA⟩:=dl.open_
 obtain ⟨n,hn⟩:∃ n,l.length = n:=⟨_,rfl⟩
 have hcx:=dig_cell hA hn (Below.refl _ w) 0 _ rfl
 have hm:=val_mod2 (l:=l)
 generalize l.getD 0 0 = x at *
 rw [hn] at hlc ⊢
 generalize val l = a at *
 rw [hm]
 clear dl tl okl hA hn hm
 rcases hcx with ⟨h1,b,off,rfl,hb,hc⟩ | ⟨h1,rfl⟩
 ·have hd:((n:Int) == 0) = false:=by simp; omega
  have hc:w.cell? ⟨b,off,none⟩ = some (.int .u32 (x:Int)):=hc
  go_enter Tryz.func175,Tryz.ntmps175
  go_wp2_with fail
  go_ret
  exact ⟨rfl,ret_bool (by rw [Bool.eq_iff_iff]; simp; omega)⟩
 obtain rfl:n = 0:=by omega
 go_enter Tryz.func175,Tryz.ntmps175
 go_wp2_with fail
 go_ret
 exact ⟨rfl,rfl⟩

theorem val_one {l:List Nat} (t:Trim l) (ok:Ok l):val l = 1 ↔ l.length = 1/\l.getD 0 0 = 1:=by
 constructor
 ·intro h
  have:=Trim.eq_of_val ok (Ok.cons.2 ⟨(by omega:1 < 4294967296),Ok.nil⟩) t (by simp [Trim]) (show val l = val [1] by rw [h]; rfl)
  subst this
  exact ⟨rfl,rfl⟩
 rintro ⟨h1,h2⟩
 match l,h1 with
 | [d],_=>simp only [List.getD_cons_zero] at h2; subst h2; rfl

theorem oneR (w:World) (va:Value) (a:Nat)(ha:NatAt w va a) :
  Calls Tryz.prog 131 #[va] w fun e w'=>w' = w/\e = .returned (.bool (decide (a = 1))):=by
 obtain ⟨l,dl,tl,rfl⟩:=ha
 obtain ⟨okl,A,ca,rfl,hlc,hcm,hA⟩:=dl.open_
 have hv:=val_one tl okl
 obtain ⟨n,hn⟩:∃ n,l.length = n:=⟨_,rfl⟩
 have hcx:=dig_cell hA hn (Below.refl _ w) 0 _ rfl
 generalize l.getD 0 0 = x at *
 rw [hn] at hlc hv ⊢
 generalize val l = a at *
 clear dl tl okl hA hn
 by_cases h1:n = 1
 ·subst h1
  rcases hcx with ⟨h1,b,off,rfl,hb,hc⟩ | ⟨h1,_⟩
  ·have HV:=Lib.hid hv
   have hc:w.cell? ⟨b,off,none⟩ = some (.int .u32 (x:Int)):=hc
   clear hv
   go_enter Tryz.func131,Tryz.ntmps131
   go_wp2_with fail
   go_ret
   exact ⟨rfl,ret_bool (by rw [Bool.eq_iff_iff]; simp [HV.out]; omega)⟩
  omega
 have hd:((n:Int) == 1) = false:=by simp; omega
 have HV:=Lib.hid hv
 clear hv hcx
 go_enter Tryz.func131,Tryz.ntmps131
 go_wp2_with fail
 go_ret
 exact ⟨rfl,ret_bool (by rw [Bool.eq_iff_iff]; simp [HV.out,h1])⟩
def HalfTo (l o:List Nat) (k cc:Nat):Prop:=Ok o/\o.length = l.length/\o.drop k = (downs 1 l).drop k/\cc = l.getD k 0 % 2
theorem HalfTo.start (l:List Nat):HalfTo l (List.replicate l.length 0) l.length 0 :=
 ⟨Ok.replicate _,by simp,by rw [List.drop_eq_nil_of_le (by simp),List.drop_eq_nil_of_le (by rw [downs_length]; exact Nat.le_refl _)],by rw [List.getD_eq_getElem?_getD,List.getElem?_eq_none_iff.2 (Nat.le_refl _)]; rfl⟩
theorem HalfTo.step {l o:List Nat} {j cc x:Nat} (h:HalfTo l o (j + 1) cc)(hx:l.getD j 0 = x) (xl:x < 4294967296)(hj:j < l.length) :
  HalfTo l (o.set j (x / 2 + 2147483648 * cc)) j (x % 2):=by
 obtain ⟨h1,h2,h3,h4⟩:=h
 have hcc:cc <= 1:=by omega
 have hd:=downs_get 1 l j hj
 rw [hx] at hd
 refine ⟨h1.set _ _ (by omega),by simpa using h2,?_,by rw [hx]⟩
 obtain ⟨hj',hd⟩:=List.getElem?_eq_some_iff.1 hd
 rw [List.drop_eq_getElem_cons (by simp; omega),List.drop_eq_getElem_cons hj',hd,List.getElem_set_self,List.drop_set_of_lt (by omega),h3]
 congr 1
 omega
theorem HalfTo.done {l o:List Nat} {cc:Nat} (h:HalfTo l o 0 cc)(hl:Ok l):val o = val l / 2:=by
 obtain ⟨_,_,h3,_⟩:=h
 simp only [List.drop_zero] at h3
 rw [h3,downs_val 1 (by omega) l hl]

theorem half_or {x cc:Nat} (hx:x < 4294967296)(hc:cc <= 1):bits .or .u32 ((x:Int) / 2) ((cc:Int) * 2147483648) = ((x / 2 + 2147483648 * cc:Nat):Int):=by
 rw [show (x:Int) / 2 = ((x / 2:Nat):Int) by omega,show (cc:Int) * 2147483648 = ((2147483648 * cc:Nat):Int) by omega,u32_or_nat _ _ (by omega) (by omega)]
 congr 1
 exact or_add (s:=31) (by omega)
theorem half_and {x:Nat} (hx:x < 4294967296):bits .and .u32 (x:Int) 1 = ((x % 2:Nat):Int):=by
 rw [show (1:Int) = ((1:Nat):Int) by rfl,u32_and_nat _ _ (by omega) (by omega),Nat.and_one_is_mod]

theorem halfR (w:World) (va:Value) (a k:Nat)(ha:NatAt w va a) (la:a < 2 ^ k)(hk:k <= 70368744177664) :
  Calls Tryz.prog 176 #[va] w fun e w'=>∃ v',e = .returned v'/\NatAt w' v' (a / 2)/\Below w.heap.size w w'/\From v' w.heap.size:=by
 obtain ⟨l,dl,tl,rfl⟩:=ha
 have ll:=tl.length_le la
 clear la tl
 obtain ⟨okl,A,ca,rfl,hlc,hcm,hA⟩:=dl.open_
 clear dl
 have HA:=Lib.hid hA
 have HO:=Lib.hid okl
 clear hA okl
 have ST:=Lib.hid (HalfTo.start l)
 obtain ⟨n,hn⟩:∃ n,l.length = n:=⟨_,rfl⟩
 rw [hn] at hlc ll ST ⊢
 have HN:=Lib.hid hn
 clear hn
 obtain ⟨i0,hi,hz0,hz1,hz2⟩:=info_parts infoU32
 go_enter Tryz.func176,Tryz.ntmps176
 go_wp2_with (at_make; refine wpList_make_blk rfl _ _ 29 rfl 182 i0 (.int .u32 0) 4 Tryz.underlying29 hi hz0 hz1 hz2 rfl .i64 .i64 _ _ n rfl rfl (by omega) (by omega) (by omega) (by unfold maxLen; omega) ?_)
 intro w1 hblk hbel
 go_wp2_with fail
 go_loopw [4,5] (fun c i wr=>∃ (q:Int) (cc:Nat) (o:List Nat),i = .int .i64 q/\c = .int .u32 cc/\-1 <= q/\q < n/\HalfTo l o (q + 1).toNat cc/\DB wr w.heap.size o/\Below w.heap.size w wr) (fun _ i _=>(intOf i + 1).toNat)
 case atStart=>exact ⟨_,0,List.replicate n 0,rfl,rfl,by omega,by omega,by rw [show ((n:Int) - 1 + 1).toNat = n by omega]; exact ST.out,DB.of_blk (e:=182) (by simpa [dg] using hblk),hbel⟩
 clear hblk hbel
 obtain ⟨q,cc,o,rfl,rfl,hq,hqn,hr,hdb,hbel⟩:=hrel
 have HR:=Lib.hid hr
 have HDB:=Lib.hid hdb
 have hlen:=hr.2.1
 rw [HN.out] at hlen
 have HLEN:=Lib.hid hlen
 have hc1:cc <= 1:=by have:=hr.2.2.2; omega
 clear hr hlen
 by_cases h0:q = -1
 ·subst h0
  have HD:=Lib.hid (HDB.out.digAt HR.out.1 (n:=n) (c:=n) HLEN.out (Nat.le_refl _) (by omega))
  have HV:=Lib.hid (HR.out.done HO.out)
  have HB2:=Lib.hid hbel
  clear hbel hdb
  have TR:Hid (∀ W,W = wr->Calls Tryz.prog 74 #[.slice (some ⟨w.heap.size,0,none⟩) n n] W fun e w'=>w' = W/\∃ v',e = .returned v'/\NatAt W v' (val o)/\From v' w.heap.size):=Lib.hid (fun W e=>by
   rw [e]
   have hd:=HD.out
   refine (trimR wr _ o hd).mono ?_
   rintro e w' ⟨h1,v',h2,h3,h4,_⟩
   subst h1
   exact ⟨rfl,v',h2,h3,h4.from (fun ad n' c' e=>by cases e; exact Nat.le_refl _)⟩)
  go_wp2_with fail
  refine (TR.out _ rfl).mono ?_
  rintro e w2 ⟨hw2,v',rfl,hv,hf⟩
  cases hw2
  have T2:=Lib.hid hv
  have T3:=Lib.hid hf
  clear hv hf
  go_wp2_with fail
  go_ret
  exact ⟨v',rfl,HV.out ▸ T2.out,HB2.out,T3.out⟩
 obtain ⟨j,rfl⟩:∃ j:Nat,q = j:=⟨q.toNat,by omega⟩
 have HR2:=HR.out
 rw [show ((j:Int) + 1).toNat = j + 1 by omega] at HR2
 obtain ⟨x,hx⟩:∃ x,l.getD j 0 = x:=⟨_,rfl⟩
 have hx0:x < 4294967296:=by rw [<- hx]; exact HO.out.getD j
 have STEP:=Lib.hid (HR2.step hx hx0 (by rw [HN.out]; omega))
 have hcx:=dig_cell HA.out HN.out hbel j x hx
 have hz:=hdb.cell (k:=j) (by rw [HLEN.out]; omega)
 have hfz:=hdb.frozen j
 have HB2:=Lib.hid hbel
 clear HR2 hx hbel hdb h0 hq
 rcases hcx with ⟨h1,b,off,rfl,hb,hc⟩ | ⟨h1,_⟩
 ·go_wp2_with fail
  refine ⟨⟨(j:Int) - 1,x % 2,o.set j (x / 2 + 2147483648 * cc),rfl,int_eq (half_and hx0),by omega,by omega,?_,HDB.out.set (by rw [HLEN.out]; omega) (half_or hx0 hc1),HB2.out.setCell (p:=⟨w.heap.size,_,none⟩) (Nat.le_refl _) _⟩,by simp [intOf]⟩
  rw [show ((j:Int) - 1 + 1).toNat = j by omega]
  exact STEP.out
 omega
theorem negF (w:World) (v:Value) (q:Rat) (k:Nat)(h:FracAt k w v q)(h0:0 < k)(hk:k <= 17592186044416) :
  Calls Tryz.prog 123 #[v] w fun e w'=>e = .returned (.bool (decide (sgnI q < 0)))/\Below w.heap.size w w':=by
 have HF:=Lib.hid h
 obtain ⟨neg,vn,vd,rfl⟩:=h.shape
 clear h
 go_enter Tryz.func123,Tryz.ntmps123
 go_wp2_with fail
 obtain ⟨W,hW,P0,PB,Phs⟩:=box1 w 31 [.bool neg,vn,vd]
 rw [<- hW]
 clear hW
 refine (signF W _ q k (HF.out.below PB.out) h0 hk).mono ?_
 rintro e w1 ⟨rfl,hb1⟩
 have B1:=Lib.hid (PB.out.trans (hb1.mono (by omega)))
 clear hb1
 go_wp2_with fail
 go_ret
 exact ⟨rfl,B1.out⟩

def firstNeg:List Rat->Nat->Int
 | [],_=>-1
 | q :: l,j=>if sgnI q < 0 then j else firstNeg l (j + 1)

theorem firstNeg_drop {qs:List Rat} {j:Nat} {x:Rat} (h:qs[j]? = some x):firstNeg (qs.drop j) j = if sgnI x < 0 then (j:Int) else firstNeg (qs.drop (j + 1)) (j + 1):=by
 have hj:j < qs.length:=(List.getElem?_eq_some_iff.1 h).1
 rw [List.drop_eq_getElem_cons hj]
 have:qs[j] = x:=by rw [List.getElem?_eq_getElem hj] at h; injection h
 rw [this]; rfl

theorem indexNeg (w:World) (k:Nat) (lv:Value) (qs:List Rat)(hl:FracsAt k w lv qs)(h0:0 < k)(hk:k <= 17592186044416)(hn:qs.length < 9223372036854775807) :
  Calls Tryz.prog 168 #[lv,.func (.func 123) #[] #[]] w fun e w'=>e = .returned (.int .i64 (firstNeg qs 0))/\Below w.heap.size w w':=by
 obtain ⟨A,c,rfl,hlc,hcm,hat⟩:=hl.at_
 have HAT:=Lib.hid hat
 clear hl hat
 obtain ⟨n,hn'⟩:∃ n,qs.length = n:=⟨_,rfl⟩
 have HLN:=Lib.hid hn'
 rw [hn'] at hlc hn ⊢
 clear hn'
 go_enter Tryz.func168,Tryz.ntmps168
 go_wp2_with fail
 go_loopg [5,8] n (fun g _ i wr=>∃ (j:Nat),i = .int .i64 j/\j + g = n/\Hid (firstNeg qs 0 = firstNeg (qs.drop j) j)/\Below w.heap.size w wr)
 case atStart=>exact ⟨0,rfl,by omega,Lib.hid rfl,Below.refl _ _⟩
 obtain ⟨j,rfl,hj,HQ,hbel⟩:=hrel
 have BEL:=Lib.hid hbel
 have hsz:w.heap.size <= wr.heap.size:=hbel.size
 clear hbel
 rcases Nat.eq_zero_or_pos gk with h | h
 ·obtain rfl:j = n:=by omega
  go_wp2_with fail
  go_ret
  refine ⟨?_,BEL.out⟩
  rw [HQ.out,List.drop_eq_nil_of_le (by rw [HLN.out]; exact Nat.le_refl _)]
  rfl
 obtain ⟨g,rfl⟩:∃ g,gk = g + 1:=⟨gk - 1,by omega⟩
 obtain ⟨x,hx⟩:∃ x,qs[j]? = some x:=⟨_,List.getElem?_eq_getElem (by rw [HLN.out]; omega)⟩
 obtain ⟨bb,off,neg,An,nn,cn,Ad,nd,cd,rfl,hbb,e0,e1,e2,hfr⟩:=HAT.out j x hx
 have d0:=(BEL.out.cell (p:=⟨bb,off + j * 3,none⟩) hbb).trans e0
 have d1:=(BEL.out.cell (p:=⟨bb,off + j * 3 + 1,none⟩) hbb).trans e1
 have d2:=(BEL.out.cell (p:=⟨bb,off + j * 3 + 2,none⟩) hbb).trans e2
 have FR:=Lib.hid (hfr.below BEL.out)
 have DR:=Lib.hid (firstNeg_drop hx)
 clear hx e0 e1 e2 hfr
 have hlt:(j:Int) < (n:Int):=by omega
 go_wp2_with fail
 have NC:=negF wr _ x k FR.out h0 hk
 cases hd:decide (sgnI x < 0) with
 | true =>
  rw [hd] at NC
  have HD:=Lib.hid hd
  clear hd
  refine NC.mono ?_
  rintro e w1 ⟨rfl,hb1⟩
  have B1:=Lib.hid hb1
  clear hb1
  go_wp2_with fail
  go_ret
  refine ⟨?_,BEL.out.trans (B1.out.mono hsz)⟩
  rw [HQ.out,DR.out,if_pos (of_decide_eq_true HD.out)]
  rfl
 | false =>
  rw [hd] at NC
  have HD:=Lib.hid hd
  clear hd
  refine NC.mono ?_
  rintro e w1 ⟨rfl,hb1⟩
  have B1:=Lib.hid hb1
  clear hb1
  go_wp2_with fail
  go_roundg g
  case measure=>omega
  case rel =>
   refine ⟨j + 1,rfl,by omega,Lib.hid ?_,BEL.out.trans (B1.out.mono hsz)⟩
   rw [HQ.out,DR.out,if_neg (of_decide_eq_false HD.out)]

theorem containsNeg (w:World) (k:Nat) (lv:Value) (qs:List Rat)(hl:FracsAt k w lv qs)(h0:0 < k)(hk:k <= 17592186044416)(hn:qs.length < 9223372036854775807) :
  Calls Tryz.prog 122 #[lv,.func (.func 123) #[] #[]] w fun e w'=>e = .returned (.bool (decide (0 <= firstNeg qs 0)))/\Below w.heap.size w w':=by
 obtain ⟨A,c,rfl,hlc,hcm,_⟩:=hl.at_
 have IC:=indexNeg w k _ qs hl h0 hk hn
 clear hl
 generalize firstNeg qs 0 = r at *
 go_enter Tryz.func122,Tryz.ntmps122
 go_wp2_with fail
 refine IC.mono ?_
 rintro e w1 ⟨rfl,hb1⟩
 have B1:=Lib.hid hb1
 clear hb1
 go_wp2_with fail
 go_ret
 exact ⟨by simp,B1.out⟩

def distr (qs:List Rat):Bool:=!decide (0 <= firstNeg qs 0) && decide (sgnI (sumQ qs - 1) = 0)

theorem distributionF (w:World) (k:Nat) (lv:Value) (qs:List Rat)(hl:FracsAt k w lv qs)(h0:0 < k)(hk:(qs.length + 1) * (2 * k) <= 2199023255552) :
  Calls Tryz.prog 63 #[lv] w fun e w'=>e = .returned (.bool (distr qs))/\Below w.heap.size w w':=by
 have hks:(qs.length + 1) * 2 <= (qs.length + 1) * (2 * k):=Nat.mul_le_mul_left _ (by omega)
 have hkl:1 * (2 * k) <= (qs.length + 1) * (2 * k):=Nat.mul_le_mul_right _ (by omega)
 have CN:=containsNeg w k lv qs hl h0 (by omega) (by omega)
 have HL:=Lib.hid hl
 obtain ⟨A,c,rfl,hlc,hcm,_⟩:=hl.at_
 clear hl
 unfold distr
 go_enter Tryz.func63,Tryz.ntmps63
 go_wp2_with fail
 cases hd:decide (0 <= firstNeg qs 0) with
 | true =>
  rw [hd] at CN
  refine CN.mono ?_
  rintro e w1 ⟨rfl,hb1⟩
  have B1:=Lib.hid hb1
  have HD:=Lib.hid hd
  clear hb1 hd
  go_wp2_with fail
  go_ret
  exact ⟨by rw [HD.out]; rfl,B1.out⟩
 | false =>
  rw [hd] at CN
  refine CN.mono ?_
  rintro e w1 ⟨rfl,hb1⟩
  have B1:=Lib.hid hb1
  have H1:=Lib.hid (HL.out.below hb1)
  have hs1:w.heap.size <= w1.heap.size:=hb1.size
  have HD:=Lib.hid hd
  clear hb1 hd
  have QS:Hid (QB ((qs.length + 1) * (2 * k)) (sumQ qs)):=Lib.hid ((qb_sum qs (HL.out.qb h0) k 0 (qb_nat (n:=0) (Nat.pow_pos (by omega)) h0)).mono (by
   have:qs.length * (k + 1) <= qs.length * (2 * k):=Nat.mul_le_mul_left _ (by omega)
   rw [Nat.add_mul]; omega))
  have Q1:Hid (QB ((qs.length + 1) * (2 * k)) ((1:Nat):Rat)):=Lib.hid (qb_nat (Nat.one_lt_two_pow (by omega)) (by omega))
  have HZ:Hid ((decide (sgnI (sumQ qs - (1:Nat)) = 0)) = (decide (sgnI (sumQ qs - 1) = 0))):=Lib.hid rfl
  go_wp2_with fail
  refine (sumF w1 k _ qs H1.out h0 (by omega)).mono ?_
  rintro e w2 ⟨v2,rfl,t2,hb2⟩
  have B2:=Lib.hid (B1.out.trans (hb2.mono hs1))
  have T2:=Lib.hid t2
  have hs2:w1.heap.size <= w2.heap.size:=hb2.size
  clear t2 hb2
  go_wp2_with fail
  refine (ofN w2 1 (by omega)).mono ?_
  rintro e w3 ⟨v3,rfl,t3,hb3⟩
  have B3:=Lib.hid (B2.out.trans (hb3.mono (by omega)))
  have F2:=Lib.hid ((T2.out.below hb3).at_.frac QS.out (by omega))
  have F3:=Lib.hid (t3.at_.frac Q1.out (by omega))
  have hs3:w2.heap.size <= w3.heap.size:=hb3.size
  clear t3 hb3
  go_wp2_with fail
  refine (cmpF w3 v2 v3 (sumQ qs) (1:Nat) _ F2.out F3.out (by omega) (by omega)).mono ?_
  rintro e w4 ⟨rfl,hb4⟩
  have B4:=Lib.hid (B3.out.trans (hb4.mono (by omega)))
  clear hb4
  go_wp2_with fail
  go_ret
  refine ⟨?_,B4.out⟩
  rw [HD.out,<- HZ.out]
  rfl
end Go.Proofs.YtdehimgccmbfkaaGreat
