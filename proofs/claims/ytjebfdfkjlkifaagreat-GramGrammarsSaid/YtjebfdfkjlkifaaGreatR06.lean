/- Lemmas. -/
import Derived.Test.YtjebfdfkjlkifaaGreatR05
import Derived.Test.YtjebfdfkjlkifaaGreatR04
set_option linter.all false
set_option maxRecDepth 1000000
set_option maxHeartbeats 32000000
namespace Go.Proofs.YtjebfdfkjlkifaaGreat
open Go.RowKit
def MinusTo (l m o:List Nat) (c:Nat):Prop:=Ok o/\c <= 1/\val o + val (m.take o.length) = val (l.take o.length) + 4294967296 ^ o.length * c
theorem MinusTo.step {l m o:List Nat} {k c x y:Nat} (h:MinusTo l m o c)(ho:o.length = k)(hx:l.getD k 0 = x)(hy:m.getD k 0 = y) (xl:x < 4294967296) (yl:y < 4294967296) :
  (x < c + y->MinusTo l m (o ++ [x + 4294967296 - (c + y)]) 1)/\(c + y <= x->MinusTo l m (o ++ [x - (c + y)]) 0):=by
 obtain ⟨h1,h2,h3⟩:=h
 subst ho
 refine ⟨fun hlt=>⟨Ok.append.2 ⟨h1,Ok.cons.2 ⟨by omega,Ok.nil⟩⟩,by omega,?_⟩,fun hle=>⟨Ok.append.2 ⟨h1,Ok.cons.2 ⟨by omega,Ok.nil⟩⟩,by omega,?_⟩⟩
 ·rw [List.length_append,List.length_singleton,bL,ax,ax,hx,hy,Nat.pow_succ]
  obtain ⟨r,hr⟩:∃ r,x + 4294967296 = c + y + r:=⟨x + 4294967296 - (c + y),by omega⟩
  rw [hr,Nat.add_sub_cancel_left]
  have e2:4294967296 ^ o.length * (x + 4294967296) = 4294967296 ^ o.length * (c + y + r):=by rw [hr]
  grind
 rw [List.length_append,List.length_singleton,bL,ax,ax,hx,hy,Nat.pow_succ]
 obtain ⟨r,hr⟩:∃ r,x = c + y + r:=⟨x - (c + y),by omega⟩
 rw [hr,Nat.add_sub_cancel_left]
 grind
theorem MinusTo.done {l m o:List Nat} {c:Nat} (h:MinusTo l m o c)(h1:l.length = o.length)(h2:m.length <= o.length)(hle:val m <= val l):val o = val l - val m:=by
 obtain ⟨h0,_,h3⟩:=h
 rw [aB (by omega),aB (by omega)] at h3
 have a1:=de o h0
 rcases zP c with h | h
 ·subst h; omega
 have:4294967296 ^ o.length * 1 <= 4294967296 ^ o.length * c:=Nat.mul_le_mul_left _ h
 omega

theorem lK {w:World} {base:Nat} {e:TypeId} {v:Value} {k d:Nat} {xs:List Value} {E:Int} (h:w.ownsRow base e 1 v (k + 1) (xs ++ [Value.int .u32 E]))(hE:E = (d:Int)):w.ownsRow base e 1 v (k + 1) (xs ++ [d].map dg):=by
 rw [hE] at h
 exact h

theorem gK (w:World) (va vb:Value) (a b k:Nat)(ha:NatAt w va a)(hb:NatAt w vb b) (la:a < 2 ^ k)(hle:b <= a)(hk:k <= 70368744177664) :
  Calls Tryz.prog 102 #[va,vb] w fun e w'=>∃ v',e = .returned v'/\NatAt w' v' (a - b)/\Below w.heap.size w w'/\From v' w.heap.size:=by
 obtain ⟨l,dl,tl,rfl⟩:=ha
 obtain ⟨m,dm,tm,rfl⟩:=hb
 have ll:=tl.length_le la
 have hlen:=dS dl.2 tm hle
 have HLE:=aH hle
 clear la tl tm hle
 obtain ⟨okl,A,ca,rfl,hlc,hcm,hA⟩:=dl.open_
 obtain ⟨okm,B,cb,rfl,hmc,hcm',hB⟩:=dm.open_
 clear dl dm
 have HA:=aH hA
 have HB:=aH hB
 clear hA hB
 have HO:=aH okl
 have HP:=aH okm
 clear okl okm
 obtain ⟨n,hn⟩:=nm (l.length)
 obtain ⟨p,hp⟩:=nm (m.length)
 rw [hn] at hlc ll hlen ⊢
 rw [hp] at hmc hlen ⊢
 have HN:=aH hn
 have HQ:=aH hp
 clear hn hp
 obtain ⟨i0,hi,hz0,hz1,hz2⟩:=info_parts cC
 go_enter Tryz.func102,Tryz.ntmps102
 go_wp2_with fail
 go_outline
 go_loopg [5,6,7] n (fun g vo c i wr=>∃ (k cc:Nat) (o:List Nat),i = .int .i64 k/\c = .int .u64 cc/\k + g = n/\o.length = k/\Hd (MinusTo l m o cc)/\Hd (wr.ownsRow w.heap.size 181 1 vo k (o.map dg))/\Hd (Below w.heap.size w wr))
 case atStart=>exact ⟨0,0,[],rfl,rfl,by omega,rfl,aH ⟨Ok.nil,by omega,by simp [val]⟩,aH (World.ownsRow_nil ..),aH (Below.refl _ _)⟩
 obtain ⟨k,cc,o,rfl,rfl,hg,ho,HPT,HOW,HBE⟩:=hrel
 have HL:=aH ho
 clear ho
 have hcc:=HPT.o.2.1
 obtain ⟨x,hx⟩:=nm (l.getD k 0)
 obtain ⟨y,hy⟩:=nm (m.getD k 0)
 have hx0:x < 4294967296:=by rw [<- hx]; exact HO.o.getD k
 have hy0:y < 4294967296:=by rw [<- hy]; exact HP.o.getD k
 have STEP:=aH (HPT.o.step HL.o hx hy hx0 hy0)
 have hcx:=aS HA.o HN.o HBE.o k x hx
 have hcy:=aS HB.o HQ.o HBE.o k y hy
 clear hx hy
 rcases hcx with ⟨h1,b,off,rfl,hb,hc1⟩ | ⟨h1,hx⟩
 ·obtain ⟨g,rfl⟩:∃ g,gk = g + 1:=⟨gk - 1,by omega⟩
  rcases hcy with ⟨h2,b',off',rfl,hb',hc2⟩ | ⟨h2,hy⟩
  ·rcases Nat.lt_or_ge x (cc + y) with hlt | hge
   ·have ST:=aH (STEP.o.1 hlt)
    have hd1:decide ((x:Int) < (cc:Int) + (y:Int)) = true:=dT (by omega)
    go_wp2_with (at_builtin; refine al rfl _ _ 38 rfl w.heap.size 181 i0 (.int .u32 0) 1 4 Tryz.underlying38 hi hz0 hz1 hz2 rfl (by decide) _ _ _ rfl (HOW.o.alloc _) _ 1 [_] rfl (Sl.one _ _ _) ?c0 ?c1 ?c2 ?c3 ?_)
    case c0=>simp [Value.oneCell']
    case c1=>unfold maxLen; omega
    case c2=>omega
    case c3=>have:=HBE.o.size; simp; omega
    intro v2 w2 hown2 hgrow hnb
    have HW2:=aH hown2
    have HB3:=aH (PlusTo.grow HBE.o HOW.o hgrow HBE.o.size)
    clear hown2 hgrow hnb
    go_wp2_with fail
    go_roundg g
    case measure=>omega
    case rel=>exact ⟨k + 1,1,o ++ [x + 4294967296 - (cc + y)],rfl,rfl,by omega,by simp [HL.o],ST,aH (by rw [List.map_append]; refine lK HW2.o ?_; omega),HB3⟩
   have ST:=aH (STEP.o.2 hge)
   have hd1:decide ((x:Int) < (cc:Int) + (y:Int)) = false:=dF (by omega)
   go_wp2_with (at_builtin; refine al rfl _ _ 38 rfl w.heap.size 181 i0 (.int .u32 0) 1 4 Tryz.underlying38 hi hz0 hz1 hz2 rfl (by decide) _ _ _ rfl (HOW.o.alloc _) _ 1 [_] rfl (Sl.one _ _ _) ?c0 ?c1 ?c2 ?c3 ?_)
   case c0=>simp [Value.oneCell']
   case c1=>unfold maxLen; omega
   case c2=>omega
   case c3=>have:=HBE.o.size; simp; omega
   intro v2 w2 hown2 hgrow hnb
   have HW2:=aH hown2
   have HB3:=aH (PlusTo.grow HBE.o HOW.o hgrow HBE.o.size)
   clear hown2 hgrow hnb
   go_wp2_with fail
   go_roundg g
   case measure=>omega
   case rel=>exact ⟨k + 1,0,o ++ [x - (cc + y)],rfl,rfl,by omega,by simp [HL.o],ST,aH (by rw [List.map_append]; refine lK HW2.o ?_; omega),HB3⟩
  subst hy
  rcases Nat.lt_or_ge x (cc + 0) with hlt | hge
  ·have ST:=aH (STEP.o.1 hlt)
   have hd1:decide ((x:Int) < (cc:Int)) = true:=dT (by omega)
   go_wp2_with (at_builtin; refine al rfl _ _ 38 rfl w.heap.size 181 i0 (.int .u32 0) 1 4 Tryz.underlying38 hi hz0 hz1 hz2 rfl (by decide) _ _ _ rfl (HOW.o.alloc _) _ 1 [_] rfl (Sl.one _ _ _) ?c0 ?c1 ?c2 ?c3 ?_)
   case c0=>simp [Value.oneCell']
   case c1=>unfold maxLen; omega
   case c2=>omega
   case c3=>have:=HBE.o.size; simp; omega
   intro v2 w2 hown2 hgrow hnb
   have HW2:=aH hown2
   have HB3:=aH (PlusTo.grow HBE.o HOW.o hgrow HBE.o.size)
   clear hown2 hgrow hnb
   go_wp2_with fail
   go_roundg g
   case measure=>omega
   case rel=>exact ⟨k + 1,1,o ++ [x + 4294967296 - (cc + 0)],rfl,rfl,by omega,by simp [HL.o],ST,aH (by rw [List.map_append]; refine lK HW2.o ?_; omega),HB3⟩
  have ST:=aH (STEP.o.2 hge)
  have hd1:decide ((x:Int) < (cc:Int)) = false:=dF (by omega)
  go_wp2_with (at_builtin; refine al rfl _ _ 38 rfl w.heap.size 181 i0 (.int .u32 0) 1 4 Tryz.underlying38 hi hz0 hz1 hz2 rfl (by decide) _ _ _ rfl (HOW.o.alloc _) _ 1 [_] rfl (Sl.one _ _ _) ?c0 ?c1 ?c2 ?c3 ?_)
  case c0=>simp [Value.oneCell']
  case c1=>unfold maxLen; omega
  case c2=>omega
  case c3=>have:=HBE.o.size; simp; omega
  intro v2 w2 hown2 hgrow hnb
  have HW2:=aH hown2
  have HB3:=aH (PlusTo.grow HBE.o HOW.o hgrow HBE.o.size)
  clear hown2 hgrow hnb
  go_wp2_with fail
  go_roundg g
  case measure=>omega
  case rel=>exact ⟨k + 1,0,o ++ [x - (cc + 0)],rfl,rfl,by omega,by simp [HL.o],ST,aH (by rw [List.map_append]; refine lK HW2.o ?_; omega),HB3⟩
 obtain rfl:k = n:=by omega
 have TR:=aH (oT HOW.o HPT.o.1 HL.o)
 have HV:=aH (HPT.o.done (by rw [HN.o,HL.o]) (by rw [HQ.o,HL.o]; exact hlen) HLE.o)
 go_wp2_with fail
 refine (TR.o _ rfl).mono ?_
 rintro e w2 ⟨hw2,v',rfl,hv,hf⟩
 cases hw2
 have T2:=aH hv
 have T3:=aH hf
 clear hv hf
 go_wp2_with fail
 go_ret
 exact ⟨v',rfl,HV.o ▸ T2.o,HBE.o,T3.o⟩
theorem lD (c x y d:Nat):(c:Int) + (d:Int) + (x:Int) * (y:Int) = ((c + (x * y + d):Nat):Int):=by
 rw [<- jX]; omega
theorem qZ (c x y d:Nat):((c:Int) + (d:Int) + (x:Int) * (y:Int)) / 4294967296 = (((c + (x * y + d)) / 4294967296:Nat):Int):=by
 rw [lD]; omega
theorem qW (c x y d:Nat):((c:Int) + (d:Int) + (x:Int) * (y:Int)) % 4294967296 = (((c + (x * y + d)) % 4294967296:Nat):Int):=by
 rw [lD]; omega

theorem jg (w:World) (va vb:Value) (a b ka kb:Nat)(ha:NatAt w va a)(hb:NatAt w vb b) (la:a < 2 ^ ka) (lb:b < 2 ^ kb)(hka:ka <= 70368744177664)(hkb:kb <= 70368744177664) :
  Calls Tryz.prog 97 #[va,vb] w fun e w'=>∃ v',e = .returned v'/\NatAt w' v' (a * b)/\Below w.heap.size w w'/\From v' w.heap.size:=by
 obtain ⟨l,dl,tl,rfl⟩:=ha
 obtain ⟨m,dm,tm,rfl⟩:=hb
 have ll:=tl.length_le la
 have lm:=tm.length_le lb
 clear la lb tl tm
 obtain ⟨okl,A,ca,rfl,hlc,hcm,hA⟩:=dl.open_
 obtain ⟨okm,B,cb,rfl,hmc,hcm',hB⟩:=dm.open_
 clear dl dm
 have HA:=aH hA
 have HB:=aH hB
 clear hA hB
 have HO:=aH okl
 have HP:=aH okm
 clear okl okm
 obtain ⟨n,hn⟩:=nm (l.length)
 obtain ⟨p,hp⟩:=nm (m.length)
 rw [hn] at hlc ll ⊢
 rw [hp] at hmc lm ⊢
 have start:=RowsTo.start l m
 rw [hn,hp] at start
 have HN:=aH hn
 have HQ:=aH hp
 have HST:=aH start
 clear hn hp start
 obtain ⟨i0,hi,hz0,hz1,hz2⟩:=info_parts cC
 obtain ⟨N,hN1,hN2⟩:∃ N:Nat,n + p <= N/\N <= n + p:=⟨n + p,nR _,nR _⟩
 go_enter Tryz.func97,Tryz.ntmps97
 go_wp2_with (at_make; refine ay rfl _ _ 38 rfl 181 i0 (.int .u32 0) 4 Tryz.underlying38 hi hz0 hz1 hz2 rfl .i64 .i64 _ _ N rfl rfl (by omega) (by omega) (by omega) (by unfold maxLen; omega) ?_)
 intro w1 hblk hbel
 go_wp2_with fail
 go_loopw [6] (fun i wr=>∃ (k:Nat) (o:List Nat),i = .int .i64 k/\k <= n/\RowsTo l m o k/\DB wr w.heap.size o/\Below w.heap.size w wr)
   (fun i _=>n - (intOf i).toNat)
 case atStart=>exact ⟨0,List.replicate (n + p) 0,rfl,by omega,HST.o,DB.of_blk (e:=181) (by rw [show n + p = N by omega]; simpa [dg] using hblk),hbel⟩
 clear hblk hbel
 obtain ⟨k,o,rfl,hk,hr,hdb,hbel⟩:=hrel
 have HR:=aH hr
 have HDB:=aH hdb
 by_cases hlt:k < n
 ·obtain ⟨x,hx⟩:=nm (l.getD k 0)
  have hx0:x < 4294967296:=by rw [<- hx]; exact HO.o.getD k
  have hcx:=aS HA.o HN.o hbel k x hx
  have row:=HR.o.row x
  have ROW:=aH row
  have HX:=aH hx
  have HB1:=aH hbel
  clear hx row hbel hdb hr
  rcases hcx with ⟨h1,b,off,rfl,hb,hc1⟩ | ⟨h1,hx⟩
  ·obtain ⟨wo,rfl⟩:∃ wo:World,wo = wr:=⟨_,rfl⟩
   go_wp2_with fail
   go_loopw [7,8] (fun c j wr=>∃ (q cc:Nat) (o':List Nat),j = .int .i64 q/\c = .int .u64 cc/\q <= p/\RowTo l m o' k x q cc/\DB wr w.heap.size o'/\Below w.heap.size w wr)
    (fun _ j _=>p - (intOf j).toNat)
   case atStart=>exact ⟨0,0,o,rfl,rfl,by omega,ROW.o,HDB.o,HB1.o⟩
   obtain ⟨q,cc,o',rfl,rfl,hq,hr,hdb,hbel⟩:=hrel
   have hcc:=hr.2.2.1
   have hlen:=hr.2.1
   rw [HN.o,HQ.o] at hlen
   have HLEN:=aH hlen
   have HR':=aH hr
   have HDB':=aH hdb
   clear hr hlen hdb
   by_cases hlt':q < p
   ·obtain ⟨y,hy⟩:=nm (m.getD q 0)
    have hy0:y < 4294967296:=by rw [<- hy]; exact HP.o.getD q
    obtain ⟨d,hd⟩:=nm (o'.getD (k + q) 0)
    have hd0:d < 4294967296:=by rw [<- hd]; exact HR'.o.1.getD _
    have hkq:k + q < o'.length:=by rw [HLEN.o]; omega
    have hz:=HDB'.o.cell hkq
    rw [hd] at hz
    have hfz:=HDB'.o.frozen (k + q)
    have step:=HR'.o.step hx0 hd hy hy0 (by rw [HN.o]; omega) (by rw [HQ.o]; omega)
    have STEP:=aH step
    have hcy:=aS HB.o HQ.o hbel q y hy
    have HB2:=aH hbel
    have HKQ:=aH hkq
    have hcx':=aS HA.o HN.o hbel k x HX.o
    have hxy:=iK hx0 hy0
    have hxy1:(x:Int) * (y:Int) <= 18446744065119617025:=by
     rw [<- Int.natCast_mul]; omega
    have hxy2:0 <= (x:Int) * (y:Int):=by
     rw [<- Int.natCast_mul]; omega
    clear hd hy step hbel hkq hxy
    rcases hcy with ⟨h2,b',off',rfl,hb',hc2⟩ | ⟨h2,hy⟩
    ·rcases hcx' with ⟨_,b2,off2,heq,_,hc1'⟩ | ⟨h9,_⟩
     ·cases heq
      go_wp2_with fail
      go_quiet (fail)
      go_wp2_with fail
      exact ⟨⟨q + 1,_,_,rfl,di (qZ _ _ _ _),by omega,STEP.o,(HDB'.o.drewN _).set HKQ.o (qW _ _ _ _),(ak HB2.o _).setCell (p:=⟨w.heap.size,_,none⟩) (nR _) _⟩,by simp [intOf]; omega⟩
     omega
    omega
   obtain rfl:q = p:=by omega
   have hr2:=HR'.o
   have hx:=HX.o
   rw [<- HQ.o] at hr2
   have dn:=hr2.done hx (by rw [HN.o]; omega)
   rw [HQ.o] at dn
   have hkq:k + q < o'.length:=by rw [HLEN.o]; omega
   have hz:=HDB'.o.cell hkq
   have hfz:=HDB'.o.frozen (k + q)
   have DN:=aH dn
   have HKQ:=aH hkq
   have HB2:=aH hbel
   clear hr2 hx dn hkq hbel
   go_wp2_with fail
   exact ⟨⟨k + 1,_,rfl,by omega,DN.o,HDB'.o.set HKQ.o (by omega),HB2.o.setCell (p:=⟨w.heap.size,_,none⟩) (nR _) _⟩,by simp [intOf]; omega⟩
  omega
 obtain rfl:k = n:=by omega
 have hr2:=HR.o
 rw [<- HN.o] at hr2
 have hv:=hr2.done
 have hlen:=hr2.2.1
 rw [HN.o,HQ.o] at hlen
 have hd:=HDB.o.digAt hr.1 (n:=N) (c:=N) (by omega) (nR _) (by omega)
 have HD:=aH hd
 have HV:=aH hv
 have HB2:=aH hbel
 have HLEN:=aH hlen
 clear hd hv hbel hdb hr hr2 hlen
 have TR:Hd (∀ W,W = wr->Calls Tryz.prog 98 #[.slice (some ⟨w.heap.size,0,none⟩) N N] W fun e w'=>w' = W/\∃ v',e = .returned v'/\NatAt W v' (val o)/\From v' w.heap.size):=aH (fun W e=>by
  rw [e]
  have hd:=HD.o
  refine (fk wr _ o hd).mono ?_
  rintro e w' ⟨h1,v',h2,h3,h4,_⟩
  subst h1
  exact ⟨rfl,v',h2,h3,h4.from (fun ad n' c' e=>by cases e; exact nR _)⟩)
 go_wp2_with fail
 refine (TR.o _ rfl).mono ?_
 rintro e w2 ⟨hw2,v',rfl,hv,hf⟩
 cases hw2
 have T2:=aH hv
 have T3:=aH hf
 clear hv hf
 go_wp2_with fail
 go_ret
 exact ⟨v',rfl,HV.o ▸ T2.o,HB2.o,T3.o⟩
theorem rn {l:List Nat}:val l % 2 = l.getD 0 0 % 2:=by
 cases l with
 | nil=>rfl
 | cons d l=>simp only [val,List.getD_cons_zero]; omega

theorem ai {a b:Bool} (h:a = b):Ending.returned (.bool a) = .returned (.bool b):=by rw [h]

theorem kW (w:World) (va:Value) (a:Nat)(ha:NatAt w va a) :
  Calls Tryz.prog 164 #[va] w fun e w'=>w' = w/\e = .returned (.bool (decide (a % 2 = 0))):=by
 obtain ⟨l,dl,tl,rfl⟩:=ha
 obtain ⟨okl,A,ca,rfl,hlc,hcm,hA⟩:=dl.open_
 obtain ⟨n,hn⟩:=nm (l.length)
 have hcx:=aS hA hn (Below.refl _ w) 0 _ rfl
 have hm:=rn (l:=l)
 generalize l.getD 0 0 = x at *
 rw [hn] at hlc ⊢
 generalize val l = a at *
 rw [hm]
 clear dl tl okl hA hn hm
 rcases hcx with ⟨h1,b,off,rfl,hb,hc⟩ | ⟨h1,rfl⟩
 ·have hd:((n:Int) == 0) = false:=by simp; omega
  have hc:w.cell? ⟨b,off,none⟩ = some (.int .u32 (x:Int)):=hc
  go_enter Tryz.func164,Tryz.ntmps164
  go_wp2_with fail
  go_ret
  exact ⟨rfl,ai (by rw [Bool.eq_iff_iff]; simp; omega)⟩
 obtain rfl:n = 0:=by omega
 go_enter Tryz.func164,Tryz.ntmps164
 go_wp2_with fail
 go_ret
 exact ⟨rfl,rfl⟩

theorem ug {l:List Nat} (t:Trim l) (ok:Ok l):val l = 1 ↔ l.length = 1/\l.getD 0 0 = 1:=by
 constructor
 ·intro h
  have:=Trim.eq_of_val ok (Ok.cons.2 ⟨(by omega:1 < 4294967296),Ok.nil⟩) t (by simp [Trim]) (show val l = val [1] by rw [h]; rfl)
  subst this
  exact ⟨rfl,rfl⟩
 rintro ⟨h1,h2⟩
 match l,h1 with
 | [d],_=>simp only [List.getD_cons_zero] at h2; subst h2; rfl

theorem wN (w:World) (va:Value) (a:Nat)(ha:NatAt w va a) :
  Calls Tryz.prog 141 #[va] w fun e w'=>w' = w/\e = .returned (.bool (decide (a = 1))):=by
 obtain ⟨l,dl,tl,rfl⟩:=ha
 obtain ⟨okl,A,ca,rfl,hlc,hcm,hA⟩:=dl.open_
 have hv:=ug tl okl
 obtain ⟨n,hn⟩:=nm (l.length)
 have hcx:=aS hA hn (Below.refl _ w) 0 _ rfl
 generalize l.getD 0 0 = x at *
 rw [hn] at hlc hv ⊢
 generalize val l = a at *
 clear dl tl okl hA hn
 by_cases h1:n = 1
 ·subst h1
  rcases hcx with ⟨h1,b,off,rfl,hb,hc⟩ | ⟨h1,_⟩
  ·have HV:=aH hv
   have hc:w.cell? ⟨b,off,none⟩ = some (.int .u32 (x:Int)):=hc
   clear hv
   go_enter Tryz.func141,Tryz.ntmps141
   go_wp2_with fail
   go_ret
   exact ⟨rfl,ai (by rw [Bool.eq_iff_iff]; simp [HV.o]; omega)⟩
  omega
 have hd:((n:Int) == 1) = false:=by simp; omega
 have HV:=aH hv
 clear hv hcx
 go_enter Tryz.func141,Tryz.ntmps141
 go_wp2_with fail
 go_ret
 exact ⟨rfl,ai (by rw [Bool.eq_iff_iff]; simp [HV.o,h1])⟩
def HalfTo (l o:List Nat) (k cc:Nat):Prop:=Ok o/\o.length = l.length/\o.drop k = (fS 1 l).drop k/\cc = l.getD k 0 % 2
theorem HalfTo.start (l:List Nat):HalfTo l (List.replicate l.length 0) l.length 0 :=
 ⟨Ok.replicate _,by simp,by rw [dN (by simp),dN (by rw [ip]; exact nR _)],by rw [gD,nI.2 (nR _)]; rfl⟩
theorem HalfTo.step {l o:List Nat} {j cc x:Nat} (h:HalfTo l o (j + 1) cc)(hx:l.getD j 0 = x) (xl:x < 4294967296)(hj:j < l.length) :
  HalfTo l (o.set j (x / 2 + 2147483648 * cc)) j (x % 2):=by
 obtain ⟨h1,h2,h3,h4⟩:=h
 have hcc:cc <= 1:=by omega
 have hd:=li 1 l j hj
 rw [hx] at hd
 refine ⟨h1.set _ _ (by omega),by simpa using h2,?_,by rw [hx]⟩
 obtain ⟨hj',hd⟩:=sI.1 hd
 rw [List.drop_eq_getElem_cons (by simp; omega),List.drop_eq_getElem_cons hj',hd,List.getElem_set_self,List.drop_set_of_lt (by omega),h3]
 congr 1
 omega
theorem HalfTo.done {l o:List Nat} {cc:Nat} (h:HalfTo l o 0 cc)(hl:Ok l):val o = val l / 2:=by
 obtain ⟨_,_,h3,_⟩:=h
 simp only [List.drop_zero] at h3
 rw [h3,lh 1 (by omega) l hl]

theorem uO {x cc:Nat} (hx:x < 4294967296)(hc:cc <= 1):bits .or .u32 ((x:Int) / 2) ((cc:Int) * 2147483648) = ((x / 2 + 2147483648 * cc:Nat):Int):=by
 rw [show (x:Int) / 2 = ((x / 2:Nat):Int) by omega,show (cc:Int) * 2147483648 = ((2147483648 * cc:Nat):Int) by omega,u32_or_nat _ _ (by omega) (by omega)]
 congr 1
 exact jA (s:=31) (by omega)
theorem nf {x:Nat} (hx:x < 4294967296):bits .and .u32 (x:Int) 1 = ((x % 2:Nat):Int):=by
 rw [show (1:Int) = ((1:Nat):Int) by rfl,u32_and_nat _ _ (by omega) (by omega),Nat.and_one_is_mod]

theorem kT (w:World) (va:Value) (a k:Nat)(ha:NatAt w va a) (la:a < 2 ^ k)(hk:k <= 70368744177664) :
  Calls Tryz.prog 165 #[va] w fun e w'=>∃ v',e = .returned v'/\NatAt w' v' (a / 2)/\Below w.heap.size w w'/\From v' w.heap.size:=by
 obtain ⟨l,dl,tl,rfl⟩:=ha
 have ll:=tl.length_le la
 clear la tl
 obtain ⟨okl,A,ca,rfl,hlc,hcm,hA⟩:=dl.open_
 clear dl
 have HA:=aH hA
 have HO:=aH okl
 clear hA okl
 have ST:=aH (HalfTo.start l)
 obtain ⟨n,hn⟩:=nm (l.length)
 rw [hn] at hlc ll ST ⊢
 have HN:=aH hn
 clear hn
 obtain ⟨i0,hi,hz0,hz1,hz2⟩:=info_parts cC
 go_enter Tryz.func165,Tryz.ntmps165
 go_wp2_with (at_make; refine ay rfl _ _ 38 rfl 181 i0 (.int .u32 0) 4 Tryz.underlying38 hi hz0 hz1 hz2 rfl .i64 .i64 _ _ n rfl rfl (by omega) (by omega) (by omega) (by unfold maxLen; omega) ?_)
 intro w1 hblk hbel
 go_wp2_with fail
 go_loopw [4,5] (fun c i wr=>∃ (q:Int) (cc:Nat) (o:List Nat),i = .int .i64 q/\c = .int .u32 cc/\-1 <= q/\q < n/\HalfTo l o (q + 1).toNat cc/\DB wr w.heap.size o/\Below w.heap.size w wr) (fun _ i _=>(intOf i + 1).toNat)
 case atStart=>exact ⟨_,0,List.replicate n 0,rfl,rfl,by omega,by omega,by rw [show ((n:Int) - 1 + 1).toNat = n by omega]; exact ST.o,DB.of_blk (e:=181) (by simpa [dg] using hblk),hbel⟩
 clear hblk hbel
 obtain ⟨q,cc,o,rfl,rfl,hq,hqn,hr,hdb,hbel⟩:=hrel
 have HR:=aH hr
 have HDB:=aH hdb
 have hlen:=hr.2.1
 rw [HN.o] at hlen
 have HLEN:=aH hlen
 have hc1:cc <= 1:=by have:=hr.2.2.2; omega
 clear hr hlen
 by_cases h0:q = -1
 ·subst h0
  have HD:=aH (HDB.o.digAt HR.o.1 (n:=n) (c:=n) HLEN.o (nR _) (by omega))
  have HV:=aH (HR.o.done HO.o)
  have HB2:=aH hbel
  clear hbel hdb
  have TR:Hd (∀ W,W = wr->Calls Tryz.prog 98 #[.slice (some ⟨w.heap.size,0,none⟩) n n] W fun e w'=>w' = W/\∃ v',e = .returned v'/\NatAt W v' (val o)/\From v' w.heap.size):=aH (fun W e=>by
   rw [e]
   have hd:=HD.o
   refine (fk wr _ o hd).mono ?_
   rintro e w' ⟨h1,v',h2,h3,h4,_⟩
   subst h1
   exact ⟨rfl,v',h2,h3,h4.from (fun ad n' c' e=>by cases e; exact nR _)⟩)
  go_wp2_with fail
  refine (TR.o _ rfl).mono ?_
  rintro e w2 ⟨hw2,v',rfl,hv,hf⟩
  cases hw2
  have T2:=aH hv
  have T3:=aH hf
  clear hv hf
  go_wp2_with fail
  go_ret
  exact ⟨v',rfl,HV.o ▸ T2.o,HB2.o,T3.o⟩
 obtain ⟨j,rfl⟩:∃ j:Nat,q = j:=⟨q.toNat,by omega⟩
 have HR2:=HR.o
 rw [show ((j:Int) + 1).toNat = j + 1 by omega] at HR2
 obtain ⟨x,hx⟩:=nm (l.getD j 0)
 have hx0:x < 4294967296:=by rw [<- hx]; exact HO.o.getD j
 have STEP:=aH (HR2.step hx hx0 (by rw [HN.o]; omega))
 have hcx:=aS HA.o HN.o hbel j x hx
 have hz:=hdb.cell (k:=j) (by rw [HLEN.o]; omega)
 have hfz:=hdb.frozen j
 have HB2:=aH hbel
 clear HR2 hx hbel hdb h0 hq
 rcases hcx with ⟨h1,b,off,rfl,hb,hc⟩ | ⟨h1,_⟩
 ·go_wp2_with fail
  refine ⟨⟨(j:Int) - 1,x % 2,o.set j (x / 2 + 2147483648 * cc),rfl,di (nf hx0),by omega,by omega,?_,HDB.o.set (by rw [HLEN.o]; omega) (uO hx0 hc1),HB2.o.setCell (p:=⟨w.heap.size,_,none⟩) (nR _) _⟩,by simp [intOf]⟩
  rw [show ((j:Int) - 1 + 1).toNat = j by omega]
  exact STEP.o
 omega
end Go.Proofs.YtjebfdfkjlkifaaGreat
