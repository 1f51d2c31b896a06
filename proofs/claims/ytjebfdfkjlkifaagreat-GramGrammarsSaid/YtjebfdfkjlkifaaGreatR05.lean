/- Lemmas. -/
import Derived.Shelf.Small.Bits
import Derived.Shelf.Small.Wraps
import Derived.Test.YtjebfdfkjlkifaaGreatR03
import Derived.Deep.LoopGhost
set_option linter.all false
set_option maxRecDepth 1000000
set_option maxHeartbeats 32000000
namespace Go.Proofs
open Go.Shelf
def Tryz.lays133_ren:Go.Shelf.Ren:=⟨fun | 133=>196 | 128=>185 | n=>n,fun | 51=>181 | 3=>3 | 4=>4 | 46=>185 | 5=>5 | 9=>9 | n=>n,fun | n=>n⟩
theorem Tryz.lays133:Go.Proofs.Lays.n133 Tryz.prog Tryz.lays133_ren:={
 mixed:=by kernel_rfl
 f128:=Tryz.func185.trans (congrArg some (by kernel_rfl))
 f133:=Tryz.func196.trans (congrArg some (by kernel_rfl))
 t3:=Tryz.underlying3
 a3:=Tryz.isAgg3
 z3:=Tryz.sizeOf3
 v3:=Tryz.zeroValue3
 t4:=Tryz.underlying4
 a4:=Tryz.isAgg4
 z4:=Tryz.sizeOf4
 v4:=Tryz.zeroValue4
 t5:=Tryz.underlying5
 a5:=Tryz.isAgg5
 z5:=Tryz.sizeOf5
 v5:=Tryz.zeroValue5
 t9:=Tryz.underlying9
 a9:=Tryz.isAgg9
 z9:=Tryz.sizeOf9
 v9:=Tryz.zeroValue9
 t46:=Tryz.underlying185
 a46:=Tryz.isAgg185
 z46:=Tryz.sizeOf185
 v46:=Tryz.zeroValue185
 t51:=Tryz.underlying181
 a51:=Tryz.isAgg181
 z51:=Tryz.sizeOf181
 v51:=Tryz.zeroValue181 }
theorem Tryz.bits_LeadingZeros32 (x:Int) (w:World)(h0:0 <= x)(h1:x <= 4294967295) :
  Calls Tryz.prog 196 #[.int .u32 x] w fun e w'=>e = .returned (.int .i64 (32 - (Lib.bitLen x.toNat:Int)))/\w' = w:=Any.bits_LeadingZeros32 Tryz.lays133 x w h0 h1
open Go.RowKit in
def Tryz.lays122_ren:Go.Shelf.Ren:=⟨fun | 122=>138 | 215=>163 | n=>n,fun | 3=>3 | 4=>4 | n=>n,fun | n=>n⟩
theorem Tryz.lays122:Go.Proofs.Lays.n122 Tryz.prog Tryz.lays122_ren:={
 mixed:=by kernel_rfl
 f122:=Tryz.func138.trans (congrArg some (by kernel_rfl))
 f215:=Tryz.func163.trans (congrArg some (by kernel_rfl))
 t3:=Tryz.underlying3
 a3:=Tryz.isAgg3
 z3:=Tryz.sizeOf3
 v3:=Tryz.zeroValue3
 t4:=Tryz.underlying4
 a4:=Tryz.isAgg4
 z4:=Tryz.sizeOf4
 v4:=Tryz.zeroValue4 }
open Go.RowKit in
theorem Tryz.cmp_Compare_int (x y:Int) (w:World) :
  Calls Tryz.prog 138 #[.int .i64 x,.int .i64 y] w fun e w'=>e = .returned (.int .i64 (Lib.compareInt x y))/\w' = w:=Any.cmp_Compare_int Tryz.lays122 x y w
end Go.Proofs
namespace Go.Proofs.YtjebfdfkjlkifaaGreat
open Go.RowKit
def Head (v v':Value):Prop:=∃ A n m c,v = .slice A n c/\v' = .slice A m c/\m <= n
theorem Head.from {v v':Value} (h:Head v v') {B:Nat} (hf:From v B):From v' B:=by
 obtain ⟨A,n,m,c,rfl,rfl,_⟩:=h
 intro ad n' c' e
 cases e
 exact hf _ _ _ rfl

theorem Trim.of_take {l:List Nat} {k:Nat} (hl:Trim l)(h:TrimTo l k)(hok:Ok l)(ht:Trim (l.take k)):k = l.length:=by
 have:=Trim.eq_of_val (hok.take k) hok ht hl h.2
 have h2:=congrArg List.length this
 rw [List.length_take] at h2
 have:=h.1
 omega

theorem fk (w:World) (v:Value) (l:List Nat)(hd:DigAt w v l) :
  Calls Tryz.prog 98 #[v] w fun e w'=>w' = w/\∃ v',e = .returned v'/\NatAt w v' (val l)/\Head v v'/\(Trim l->v' = v):=by
 obtain ⟨hok,A,c,rfl,hlc,hcm,hA⟩:=id hd.open_
 have HD:=aH hd.1
 have HA:=aH hA
 clear hA hd
 have HO:=aH hok
 clear hok
 obtain ⟨n,hn⟩:=nm (l.length)
 have HN:=aH hn
 rw [hn] at hlc ⊢
 clear hn
 have HTL:Hd (∀ k,k = l.length->Value.slice A k c = .slice A n c):=aH (fun k e=>by rw [e,HN.o])
 go_enter Tryz.func98,Tryz.ntmps98
 go_wp2_with fail
 go_loop [3] (fun i=>∃ k:Nat,i = .int .i64 k/\TrimTo l k/\k <= n) (fun i=>(intOf i).toNat)
 case atStart=>exact ⟨n,rfl,HN.o ▸ TrimTo.start l,nR _⟩
 obtain ⟨k,rfl,ht,hk⟩:=hrel
 have HT:=aH ht
 clear ht
 have fin:Trim (l.take k)->NatAt w (.slice A k c) (val l):=by
  intro ht'
  have hlen:(l.take k).length = k:=by rw [List.length_take,HN.o]; omega
  refine ⟨l.take k,⟨?_,HO.o.take k⟩,ht',HT.o.2⟩
  rw [hlen,List.map_take]
  exact (HN.o ▸ HD.o:Sl w 1 (.slice A n c) n (l.map dg)).cutHead hk
 have FIN:=aH fin
 clear fin
 rcases zP k with h0 | h0
 ·subst h0
  go_wp2_with fail
  go_ret
  exact ⟨rfl,_,rfl,FIN.o (by simp [Trim]),⟨A,n,0,c,rfl,rfl,by omega⟩,fun h=>HTL.o _ (Trim.of_take h HT.o HO.o (by simp [Trim]))⟩
 obtain ⟨m,rfl⟩:∃ m,k = m + 1:=⟨k - 1,by omega⟩
 have hm:m < l.length:=by rw [HN.o]; omega
 obtain ⟨d,hd⟩:∃ d,l[m]? = some d:=⟨_,eG hm⟩
 have HDD:=aH hd
 obtain ⟨b,off,rfl,hc⟩:∃ b off,A = some ⟨b,off,none⟩/\w.cell? ⟨b,off + m,none⟩ = some (.int .u32 (d:Int)):=by
  rcases HA.o with h | ⟨b,off,h,_,hc⟩
  ·subst h; simp at hm
  exact ⟨b,off,h,hc m d hd⟩
 clear hd hm
 by_cases hz:d = 0
 ·subst hz
  go_wp2_with fail
  exact ⟨⟨m,rfl,HT.o.step HDD.o,by omega⟩,by simp [intOf]⟩
 have hz':((d:Int) == 0) = false:=by simpa using hz
 go_wp2_with fail
 go_ret
 exact ⟨rfl,_,rfl,FIN.o (TrimTo.trim HDD.o hz),⟨_,n,m + 1,c,rfl,rfl,hk⟩,fun h=>HTL.o _ (Trim.of_take h HT.o HO.o (TrimTo.trim HDD.o hz))⟩

theorem mg (w:World) (v:Value) (n:Nat)(h:NatAt w v n) :
  Calls Tryz.prog 98 #[v] w fun e w'=>w' = w/\e = .returned v:=by
 obtain ⟨l,d,t,rfl⟩:=h
 refine (fk w v l d).mono ?_
 rintro e w' ⟨rfl,v',rfl,_,_,h⟩
 exact ⟨rfl,by rw [h t]⟩
theorem jz (w:World) (va vb:Value) (a b:Nat)(ha:NatAt w va a)(hb:NatAt w vb b) :
  Calls Tryz.prog 101 #[va,vb] w fun e w'=>e = .returned (.int .i64 (dX a b))/\∃ k,w' = w.drewN k:=by
 have TA:Hd (∀ W,W = w->Calls Tryz.prog 98 #[va] W fun e w'=>w' = W/\e = .returned va):=aH (fun W e=>by rw [e]; exact mg w va a ha)
 have TB:Hd (∀ W,W = w->Calls Tryz.prog 98 #[vb] W fun e w'=>w' = W/\e = .returned vb):=aH (fun W e=>by rw [e]; exact mg w vb b hb)
 obtain ⟨l,dl,tl,rfl⟩:=ha
 obtain ⟨m,dm,tm,rfl⟩:=hb
 obtain ⟨okl,A,ca,rfl,hlc,hcm,hA⟩:=dl.open_
 obtain ⟨okm,B,cb,rfl,hmc,hcm',hB⟩:=dm.open_
 clear dl dm
 have HA:=aH hA
 have HB:=aH hB
 clear hA hB
 have HO:=aH okl
 have HP:=aH okm
 clear okl okm
 have HT:=aH tl
 have HU:=aH tm
 clear tl tm
 obtain ⟨n,hn⟩:=nm (l.length)
 obtain ⟨p,hp⟩:=nm (m.length)
 rw [hn] at hlc TA ⊢
 rw [hp] at hmc TB ⊢
 have HN:=aH hn
 have HQ:=aH hp
 clear hn hp
 by_cases hlt:n < p
 ·have hne:((n:Int) != (p:Int)) = true:=by simp; omega
  have hr:=d9 (bd HO.o HU.o (by rw [HN.o,HQ.o]; exact hlt))
  have HR:=aH hr
  clear hr
  go_enter Tryz.func101,Tryz.ntmps101
  go_wp2_with fail
  refine (TA.o _ rfl).mono ?_
  rintro e w1 ⟨hw1,rfl⟩
  cases hw1
  go_wp2_with fail
  refine (TB.o _ rfl).mono ?_
  rintro e w1 ⟨hw1,rfl⟩
  cases hw1
  go_wp2_with fail
  go_ret
  exact ⟨ag HR.o.symm,0,rfl⟩
 by_cases hgt:p < n
 ·have hne:((n:Int) != (p:Int)) = true:=by simp; omega
  have hr:=fc (bd HP.o HT.o (by rw [HN.o,HQ.o]; exact hgt))
  have HR:=aH hr
  clear hr
  go_enter Tryz.func101,Tryz.ntmps101
  go_wp2_with fail
  refine (TA.o _ rfl).mono ?_
  rintro e w1 ⟨hw1,rfl⟩
  cases hw1
  go_wp2_with fail
  refine (TB.o _ rfl).mono ?_
  rintro e w1 ⟨hw1,rfl⟩
  cases hw1
  go_wp2_with fail
  go_ret
  exact ⟨ag HR.o.symm,0,rfl⟩
 obtain rfl:n = p:=by omega
 clear hlt hgt
 go_enter Tryz.func101,Tryz.ntmps101
 go_wp2_with fail
 refine (TA.o _ rfl).mono ?_
 rintro e w1 ⟨hw1,rfl⟩
 cases hw1
 go_wp2_with fail
 refine (TB.o _ rfl).mono ?_
 rintro e w1 ⟨hw1,rfl⟩
 cases hw1
 go_wp2_with fail
 go_loopw [5] (fun i wr=>∃ q:Int,(∃ d,wr = w.drewN d)/\i = .int .i64 q/\-1 <= q/\q < n/\l.drop (q + 1).toNat = m.drop (q + 1).toNat) (fun i _=>(intOf i + 1).toNat)
 case atStart =>
  refine ⟨_,⟨0,rfl⟩,rfl,by omega,by omega,?_⟩
  rw [dN (by rw [HN.o]; omega),dN (by rw [HQ.o]; omega)]
 obtain ⟨q,⟨nd,rfl⟩,rfl,hq,hqn,hd⟩:=hrel
 have HD:=aH hd
 clear hd
 by_cases h0:q = -1
 ·subst h0
  go_wp2_with fail
  go_ret
  have he:l = m:=by simpa using HD.o
  exact ⟨ag (by rw [he,ir]),nd,rfl⟩
 obtain ⟨k,rfl⟩:∃ k:Nat,q = k:=⟨q.toNat,by omega⟩
 clear h0 hq
 have hkl:k < l.length:=by rw [HN.o]; omega
 have hkm:k < m.length:=by rw [HQ.o]; omega
 obtain ⟨x,hx⟩:∃ x,l[k]? = some x:=⟨_,eG hkl⟩
 obtain ⟨y,hy⟩:∃ y,m[k]? = some y:=⟨_,eG hkm⟩
 obtain ⟨b,off,rfl,hc⟩:∃ b off,A = some ⟨b,off,none⟩/\w.cell? ⟨b,off + k,none⟩ = some (.int .u32 (x:Int)):=by
  rcases HA.o with h | ⟨b,off,h,_,hc⟩
  ·subst h; simp at hkl
  exact ⟨b,off,h,hc k x hx⟩
 obtain ⟨b',off',rfl,hc'⟩:∃ b off,B = some ⟨b,off,none⟩/\w.cell? ⟨b,off + k,none⟩ = some (.int .u32 (y:Int)):=by
  rcases HB.o with h | ⟨b,off,h,_,hc⟩
  ·subst h; simp at hkm
  exact ⟨b,off,h,hc k y hy⟩
 have HX:=aH hx
 have HY:=aH hy
 clear hx hy hkl hkm
 have hd1:l.drop (k + 1) = m.drop (k + 1):=by
  have:=HD.o
  rwa [show ((k:Int) + 1).toNat = k + 1 by omega] at this
 have HE:=aH hd1
 clear hd1
 rcases Nat.lt_trichotomy x y with h | h | h
 ·have hne:((x:Int) != (y:Int)) = true:=by simp; omega
  have hr:=d9 (fW HO.o HE.o HX.o HY.o h)
  have HR:=aH hr
  clear hr
  go_wp2_with fail
  go_quiet (fail)
  go_wp2_with fail
  go_quiet (fail)
  go_wp2_with fail
  go_ret
  exact ⟨ag HR.o.symm,_,by simp only [World.drewN_drewN]; rfl⟩
 ·subst h
  have hne:((x:Int) != (x:Int)) = false:=by simp
  go_wp2_with fail
  go_quiet (fail)
  go_wp2_with fail
  refine ⟨⟨(k:Int) - 1,⟨_,rfl⟩,rfl,by omega,by omega,?_⟩,by simp [intOf]⟩
  rw [show ((k:Int) - 1 + 1).toNat = k by omega]
  exact k4 HX.o HY.o HE.o
 have hne:((x:Int) != (y:Int)) = true:=by simp; omega
 have hr:=fc (fW HP.o HE.o.symm HY.o HX.o h)
 have HR:=aH hr
 clear hr
 go_wp2_with fail
 go_quiet (fail)
 go_wp2_with fail
 go_quiet (fail)
 go_wp2_with fail
 go_ret
 exact ⟨ag HR.o.symm,_,by simp only [World.drewN_drewN]; rfl⟩
def PlusTo (l m o:List Nat) (c:Nat):Prop:=Ok o/\c <= 1/\val o + 4294967296 ^ o.length * c = val (l.take o.length) + val (m.take o.length)
theorem PlusTo.step {l m o:List Nat} {k c x y:Nat} (h:PlusTo l m o c)(ho:o.length = k)(hx:l.getD k 0 = x)(hy:m.getD k 0 = y) (xl:x < 4294967296) (yl:y < 4294967296) :
  PlusTo l m (o ++ [(c + x + y) % 4294967296]) ((c + x + y) / 4294967296):=by
 obtain ⟨h1,h2,h3⟩:=h
 subst ho
 refine ⟨Ok.append.2 ⟨h1,Ok.cons.2 ⟨Nat.mod_lt _ (by omega),Ok.nil⟩⟩,by omega,?_⟩
 rw [List.length_append,List.length_singleton,bL,ax,ax,hx,hy]
 have e:=Nat.div_add_mod (c + x + y) 4294967296
 generalize (c + x + y) / 4294967296 = q at *
 generalize (c + x + y) % 4294967296 = r at *
 have e2:4294967296 ^ o.length * (c + x + y) = 4294967296 ^ o.length * (4294967296 * q + r):=by rw [e]
 rw [Nat.pow_succ]
 grind
theorem PlusTo.done {l m o:List Nat} (h:PlusTo l m o 0)(h1:l.length <= o.length)(h2:m.length <= o.length):val o = val l + val m:=by
 obtain ⟨_,_,h3⟩:=h
 rw [aB h1,aB h2] at h3
 omega
theorem PlusTo.last {l m o:List Nat} {c N:Nat} (h:PlusTo l m o c)(hl:Ok l)(hm:Ok m)(h1:l.length <= N)(h2:m.length <= N)(ho:o.length = N + 1):c = 0:=by
 obtain ⟨_,_,h3⟩:=h
 rw [aB (by omega),aB (by omega),ho] at h3
 have a1:=de l hl
 have a2:=de m hm
 have a3:4294967296 ^ l.length <= 4294967296 ^ N:=Nat.pow_le_pow_right (by omega) h1
 have a4:4294967296 ^ m.length <= 4294967296 ^ N:=Nat.pow_le_pow_right (by omega) h2
 have a5:4294967296 ^ (N + 1) = 4294967296 ^ N * 4294967296:=Nat.pow_succ ..
 rcases zP c with h | h
 ·exact h
 have:4294967296 ^ (N + 1) * 1 <= 4294967296 ^ (N + 1) * c:=Nat.mul_le_mul_left _ h
 omega

theorem Sl.one (w:World) (x:Value) (e:TypeId):Sl (w.alloc (.cells #[x] e)) 1 (.slice (some ⟨w.heap.size,0,none⟩) 1 1) 1 [x]:=by
 have:=(Blk.new w e [x]).sl (sz:=1) (n:=1) (c:=1) (by simp) (by omega) (by unfold maxLen; omega)
 simpa using this

theorem PlusTo.grow {w wr w2:World} {base:Nat} {e:TypeId} {vo:Value} {n:Nat} {xs:List Value} {ob:Obj} (hb:Below base w wr)(ho:wr.ownsRow base e 1 vo n xs)(hg:(wr.alloc ob).grownBy w2 vo.ownBlock)(hw:base <= wr.heap.size):Below base w w2:=by
 refine (hb.alloc hw _).grown hg (by simp; omega) ?_
 intro k hk
 have hf:=From.of_own ho
 unfold Value.ownBlock at hk
 split at hk
 ·cases hk; exact hf _ _ _ rfl
 cases hk

theorem oT {wr:World} {base:Nat} {e:TypeId} {vo:Value} {k:Nat} {o:List Nat} (h:wr.ownsRow base e 1 vo k (o.map dg))(hok:Ok o)(hl:o.length = k) :
  ∀ W,W = wr->Calls Tryz.prog 98 #[vo] W fun e w'=>w' = W/\∃ v',e = .returned v'/\NatAt W v' (val o)/\From v' base:=fun W e=>by
 rw [e]
 refine (fk wr vo o ⟨by rw [hl]; exact Sl.of_own h,hok⟩).mono ?_
 rintro e w' ⟨h1,v',h2,h3,h4,_⟩
 subst h1
 exact ⟨rfl,v',h2,h3,h4.from (From.of_own h)⟩

theorem mQ (w:World) (va vb:Value) (a b k:Nat)(ha:NatAt w va a)(hb:NatAt w vb b) (la:a < 2 ^ k) (lb:b < 2 ^ k)(hk:k <= 70368744177664) :
  Calls Tryz.prog 100 #[va,vb] w fun e w'=>∃ v',e = .returned v'/\NatAt w' v' (a + b)/\Below w.heap.size w w'/\From v' w.heap.size:=by
 obtain ⟨l,dl,tl,rfl⟩:=ha
 obtain ⟨m,dm,tm,rfl⟩:=hb
 have ll:=tl.length_le la
 have lm:=tm.length_le lb
 clear la lb tl tm
 obtain ⟨okl,A,ca,rfl,hlc,hcm,hA⟩:=dl.open_
 obtain ⟨okm,B,cb,rfl,hmc,hcm',hB⟩:=dm.open_
 clear dl dm
 have HA:=aH hA
 have HB:=aH hB
 clear hA hB
 have HO:=aH okl
 have HP:=aH okm
 clear okl okm
 obtain ⟨n,hn⟩:=nm (l.length)
 obtain ⟨p,hp⟩:=nm (m.length)
 rw [hn] at hlc ll ⊢
 rw [hp] at hmc lm ⊢
 have HN:=aH hn
 have HQ:=aH hp
 clear hn hp
 obtain ⟨i0,hi,hz0,hz1,hz2⟩:=info_parts cC
 go_enter Tryz.func100,Tryz.ntmps100
 go_wp2_with fail
 obtain ⟨N,hN1,hN2,hN3⟩:∃ N:Nat,n <= N/\p <= N/\(N <= n ∨ N <= p):=⟨max n p,by omega,by omega,by omega⟩
 go_loopg [5,6,7] (N + 1) (fun g vo c i wr=>∃ (k cc:Nat) (o:List Nat),i = .int .i64 k/\c = .int .u64 cc/\k + g = N + 1/\o.length = k/\Hd (PlusTo l m o cc)/\Hd (wr.ownsRow w.heap.size 181 1 vo k (o.map dg))/\Hd (Below w.heap.size w wr))
 case atStart=>exact ⟨0,0,[],rfl,rfl,by omega,rfl,aH ⟨Ok.nil,by omega,by simp [val]⟩,aH (World.ownsRow_nil ..),aH (Below.refl _ _)⟩
 obtain ⟨k,cc,o,rfl,rfl,hg,ho,HPT,HOW,HBE⟩:=hrel
 have HL:=aH ho
 clear ho
 have hcc:=HPT.o.2.1
 obtain ⟨x,hx⟩:=nm (l.getD k 0)
 obtain ⟨y,hy⟩:=nm (m.getD k 0)
 have hx0:x < 4294967296:=by rw [<- hx]; exact HO.o.getD k
 have hy0:y < 4294967296:=by rw [<- hy]; exact HP.o.getD k
 have STEP:=aH (HPT.o.step HL.o hx hy hx0 hy0)
 have hcx:=aS HA.o HN.o HBE.o k x hx
 have hcy:=aS HB.o HQ.o HBE.o k y hy
 clear hx hy
 rcases hcx with ⟨h1,b,off,rfl,hb,hc1⟩ | ⟨h1,hx⟩
 ·rcases hcy with ⟨h2,b',off',rfl,hb',hc2⟩ | ⟨h2,hy⟩
  ·skip
   go_wp2_with (at_builtin; refine al rfl _ _ 38 rfl w.heap.size 181 i0 (.int .u32 0) 1 4 Tryz.underlying38 hi hz0 hz1 hz2 rfl (by decide) _ _ _ rfl (HOW.o.alloc _) _ 1 [_] rfl (Sl.one _ _ _) ?c0 ?c1 ?c2 ?c3 ?_)
   case c0=>simp [Value.oneCell']
   case c1=>unfold maxLen; omega
   case c2=>omega
   case c3=>have:=HBE.o.size; simp; omega
   intro v2 w2 hown2 hgrow hnb
   have HW2:=aH hown2
   have HB3:=aH (PlusTo.grow HBE.o HOW.o hgrow HBE.o.size)
   clear hown2 hgrow hnb
   obtain ⟨g,rfl⟩:∃ g,gk = g + 1:=⟨gk - 1,by omega⟩
   go_wp2_with fail
   go_roundg g
   case measure=>omega
   case rel=>exact ⟨k + 1,(cc + x + y) / 4294967296,o ++ [(cc + x + y) % 4294967296],rfl,di (by omega),by omega,by simp [HL.o],STEP,aH (by simpa [dg] using HW2.o),HB3⟩
  have HST:=STEP
  subst hy
  go_wp2_with (at_builtin; refine al rfl _ _ 38 rfl w.heap.size 181 i0 (.int .u32 0) 1 4 Tryz.underlying38 hi hz0 hz1 hz2 rfl (by decide) _ _ _ rfl (HOW.o.alloc _) _ 1 [_] rfl (Sl.one _ _ _) ?c0 ?c1 ?c2 ?c3 ?_)
  case c0=>simp [Value.oneCell']
  case c1=>unfold maxLen; omega
  case c2=>omega
  case c3=>have:=HBE.o.size; simp; omega
  intro v2 w2 hown2 hgrow hnb
  have HW2:=aH hown2
  have HB3:=aH (PlusTo.grow HBE.o HOW.o hgrow HBE.o.size)
  clear hown2 hgrow hnb
  obtain ⟨g,rfl⟩:∃ g,gk = g + 1:=⟨gk - 1,by omega⟩
  go_wp2_with fail
  go_roundg g
  case measure=>omega
  case rel=>exact ⟨k + 1,(cc + x + 0) / 4294967296,o ++ [(cc + x + 0) % 4294967296],rfl,di (by omega),by omega,by simp [HL.o],HST,aH (by simpa [dg] using HW2.o),HB3⟩
 rcases hcy with ⟨h2,b',off',rfl,hb',hc2⟩ | ⟨h2,hy⟩
 ·have HST:=STEP
  subst hx
  go_wp2_with (at_builtin; refine al rfl _ _ 38 rfl w.heap.size 181 i0 (.int .u32 0) 1 4 Tryz.underlying38 hi hz0 hz1 hz2 rfl (by decide) _ _ _ rfl (HOW.o.alloc _) _ 1 [_] rfl (Sl.one _ _ _) ?c0 ?c1 ?c2 ?c3 ?_)
  case c0=>simp [Value.oneCell']
  case c1=>unfold maxLen; omega
  case c2=>omega
  case c3=>have:=HBE.o.size; simp; omega
  intro v2 w2 hown2 hgrow hnb
  have HW2:=aH hown2
  have HB3:=aH (PlusTo.grow HBE.o HOW.o hgrow HBE.o.size)
  clear hown2 hgrow hnb
  obtain ⟨g,rfl⟩:∃ g,gk = g + 1:=⟨gk - 1,by omega⟩
  go_wp2_with fail
  go_roundg g
  case measure=>omega
  case rel=>exact ⟨k + 1,(cc + 0 + y) / 4294967296,o ++ [(cc + 0 + y) % 4294967296],rfl,di (by omega),by omega,by simp [HL.o],HST,aH (by simpa [dg] using HW2.o),HB3⟩
 subst hx
 subst hy
 rcases zP cc with hz | hz
 ·subst hz
  have TR:=aH (oT HOW.o HPT.o.1 HL.o)
  have HV:=aH (HPT.o.done (by rw [HN.o,HL.o]; exact h1) (by rw [HQ.o,HL.o]; exact h2))
  go_wp2_with fail
  refine (TR.o _ rfl).mono ?_
  rintro e w2 ⟨hw2,v',rfl,hv,hf⟩
  cases hw2
  have T2:=aH hv
  have T3:=aH hf
  clear hv hf
  go_wp2_with fail
  go_ret
  exact ⟨v',rfl,HV.o ▸ T2.o,HBE.o,T3.o⟩
 obtain rfl:cc = 1:=by omega
 have hkN:k ≠ N + 1:=fun e=>by
  have:=HPT.o.last (N:=N) HO.o HP.o (by rw [HN.o]; omega) (by rw [HQ.o]; omega) (by rw [HL.o,e])
  omega
 have HST:=STEP
 go_wp2_with (at_builtin; refine al rfl _ _ 38 rfl w.heap.size 181 i0 (.int .u32 0) 1 4 Tryz.underlying38 hi hz0 hz1 hz2 rfl (by decide) _ _ _ rfl (HOW.o.alloc _) _ 1 [_] rfl (Sl.one _ _ _) ?c0 ?c1 ?c2 ?c3 ?_)
 case c0=>simp [Value.oneCell']
 case c1=>unfold maxLen; omega
 case c2=>omega
 case c3=>have:=HBE.o.size; simp; omega
 intro v2 w2 hown2 hgrow hnb
 have HW2:=aH hown2
 have HB3:=aH (PlusTo.grow HBE.o HOW.o hgrow HBE.o.size)
 clear hown2 hgrow hnb
 obtain ⟨g,rfl⟩:∃ g,gk = g + 1:=⟨gk - 1,by omega⟩
 go_wp2_with fail
 go_roundg g
 case measure=>omega
 case rel=>exact ⟨k + 1,(1 + 0 + 0) / 4294967296,o ++ [(1 + 0 + 0) % 4294967296],rfl,di (by omega),by omega,by simp [HL.o],HST,aH (by simpa [dg] using HW2.o),HB3⟩
def sgn (neg:Bool) (n:Nat):Int:=if neg then -(n:Int) else (n:Int)

theorem fy (neg:Bool) (n:Nat):(sgn neg n).natAbs = n:=by unfold sgn; split <;> simp

theorem up (neg:Bool) (n g:Nat)(h:g ∣ n):sgn neg n / (g:Int) = sgn neg (n / g):=by
 unfold sgn
 split
 ·rw [Int.neg_ediv_of_dvd (Int.natCast_dvd_natCast.2 h),Int.natCast_ediv]
 rw [Int.natCast_ediv]

theorem red (neg:Bool) (n d:Nat)(hd:0 < d):(mkRat (sgn neg n) d).num = sgn neg (n / Nat.gcd n d)/\(mkRat (sgn neg n) d).den = d / Nat.gcd n d:=by
 rw [Rat.num_mkRat,Rat.den_mkRat,if_neg (by omega),if_neg (by omega),fy,Nat.gcd_comm d n]
 exact ⟨up _ _ _ (Nat.gcd_dvd_left n d),rfl⟩

def ae (q:Rat):Bool:=decide (q.num < 0)

theorem iM {q:Rat} {neg:Bool} {m:Nat} (h:q.num = sgn neg m):ae q = (neg && decide (0 < m)):=by
 unfold ae
 rw [h]
 unfold sgn
 cases neg <;> simp <;> omega

theorem eS (q:Rat):q.num = sgn (ae q) q.num.natAbs:=by
 unfold sgn ae
 by_cases h:q.num < 0
 ·simp [h]; omega
 simp [h]; omega

theorem kQ (q:Rat):ae q = true ↔ q < 0:=by
 unfold ae
 rw [decide_eq_true_iff,Rat.lt_iff]
 simp

def QB (k:Nat) (q:Rat):Prop:=q.num.natAbs < 2 ^ k/\q.den < 2 ^ k

theorem QB.mono {k k':Nat} {q:Rat} (h:QB k q)(hk:k <= k'):QB k' q :=
 ⟨Nat.lt_of_lt_of_le h.1 (Nat.pow_le_pow_right (by omega) hk),Nat.lt_of_lt_of_le h.2 (Nat.pow_le_pow_right (by omega) hk)⟩
theorem QB.neg {k:Nat} {q:Rat} (h:QB k q):QB k (-q):=by
 refine ⟨?_,h.2⟩
 rw [Rat.neg_num,Int.natAbs_neg]
 exact h.1
theorem QB.red {k n d:Nat} {neg:Bool} (hn:n < 2 ^ k)(hd:d < 2 ^ k)(h0:0 < d):QB k (mkRat (sgn neg n) d):=by
 obtain ⟨h1,h2⟩:=Go.Proofs.YtjebfdfkjlkifaaGreat.red neg n d h0
 refine ⟨?_,?_⟩
 ·rw [h1,fy]; exact lL (Nat.div_le_self _ _) hn
 rw [h2]; exact lL (Nat.div_le_self _ _) hd
theorem aE {a b j k:Nat} (ha:a < 2 ^ j)(hb:b < 2 ^ k):a * b < 2 ^ (j + k):=by
 rw [Nat.pow_add]
 exact Nat.mul_lt_mul'' ha hb

theorem l7 (a b:Rat):a + b = mkRat (a.num * b.den + b.num * a.den) (a.den * b.den):=Rat.add_def' a b
theorem pc (a b:Rat):a * b = mkRat (sgn (ae a != ae b) (a.num.natAbs * b.num.natAbs)) (a.den * b.den):=by
 rw [Rat.mul_def']
 congr 1
 conv=>lhs; rw [eS a,eS b]
 unfold sgn
 cases ae a <;> cases ae b <;> simp [Int.natCast_mul,Int.neg_mul,Int.mul_neg]
theorem nK (a b:Rat)(h:ae a = ae b):a + b = mkRat (sgn (ae a) (a.num.natAbs * b.den + b.num.natAbs * a.den)) (a.den * b.den):=by
 rw [l7]
 congr 1
 conv=>lhs; rw [eS a,eS b,<- h]
 unfold sgn
 cases ae a <;> simp [Int.natCast_mul,Int.natCast_add,Int.neg_mul] <;> omega
theorem nM (a b:Rat)(h:ae a ≠ ae b)(hlt:a.num.natAbs * b.den < b.num.natAbs * a.den):a + b = mkRat (sgn (ae b) (b.num.natAbs * a.den - a.num.natAbs * b.den)) (a.den * b.den):=by
 rw [l7]
 congr 1
 conv=>lhs; rw [eS a,eS b]
 unfold sgn
 cases ha:ae a <;> cases hb:ae b <;> simp_all [Int.neg_mul] <;> rw [Int.natCast_sub (by omega)] <;> simp [Int.natCast_mul] <;> omega
theorem nL (a b:Rat)(h:ae a ≠ ae b)(hlt:b.num.natAbs * a.den <= a.num.natAbs * b.den):a + b = mkRat (sgn (ae a) (a.num.natAbs * b.den - b.num.natAbs * a.den)) (a.den * b.den):=by
 rw [l7]
 congr 1
 conv=>lhs; rw [eS a,eS b]
 unfold sgn
 cases ha:ae a <;> cases hb:ae b <;> simp_all [Int.neg_mul] <;> rw [Int.natCast_sub (by omega)] <;> simp [Int.natCast_mul] <;> omega

theorem QB.mul {j k:Nat} {a b:Rat} (ha:QB j a)(hb:QB k b):QB (j + k) (a * b):=by
 rw [pc]
 exact QB.red (aE ha.1 hb.1) (aE ha.2 hb.2) (Nat.mul_pos a.den_pos b.den_pos)
theorem QB.add {j k:Nat} {a b:Rat} (ha:QB j a)(hb:QB k b):QB (j + k + 1) (a + b):=by
 have h1:=aE ha.1 hb.2
 have h2:=aE hb.1 ha.2
 rw [Nat.add_comm k j] at h2
 have h3:=aE ha.2 hb.2
 have h4:2 ^ (j + k + 1) = 2 ^ (j + k) + 2 ^ (j + k):=by rw [Nat.pow_succ]; omega
 have h0:=Nat.mul_pos a.den_pos b.den_pos
 by_cases h:ae a = ae b
 ·rw [nK a b h]
  exact QB.red (by omega) (by omega) h0
 rcases Nat.lt_or_ge (a.num.natAbs * b.den) (b.num.natAbs * a.den) with h' | h'
 ·rw [nM a b h h']
  exact QB.red (by omega) (by omega) h0
 rw [nL a b h h']
 exact QB.red (by omega) (by omega) h0
theorem QB.inv {k:Nat} {a:Rat} (ha:QB k a)(hk:0 < k):QB k a⁻¹:=by
 refine ⟨?_,?_⟩
 ·rw [Rat.num_inv,Int.natAbs_mul,Int.natAbs_natCast]
  by_cases h:a.num = 0
  ·rw [h]; simpa using Nat.pow_pos (by omega)
  rw [Int.natAbs_sign_of_ne_zero h,Nat.one_mul]; exact ha.2
 rw [Rat.den_inv]
 split
 ·exact Nat.one_lt_two_pow (by omega)
 exact ha.1
def Dn (E M:Nat) (q:Rat):Prop:=∃ z:Int,z.natAbs <= M/\q = mkRat z E
theorem Dn.mono {E M M':Nat} {q:Rat} (h:Dn E M q)(hm:M <= M'):Dn E M' q:=by
 obtain ⟨z,h1,h2⟩:=h
 exact ⟨z,by omega,h2⟩
theorem Dn.zero (E M:Nat):Dn E M 0:=⟨0,by simp,by simp⟩
theorem Dn.mul {E F M N:Nat} {q r:Rat} (h:Dn E M q) (h':Dn F N r):Dn (E * F) (M * N) (q * r):=by
 obtain ⟨z,h1,rfl⟩:=h
 obtain ⟨y,h3,rfl⟩:=h'
 refine ⟨z * y,?_,Rat.mkRat_mul_mkRat _ _ _ _⟩
 rw [Int.natAbs_mul]
 exact Nat.mul_le_mul h1 h3
theorem Dn.add {E M N:Nat} {q r:Rat} (h:Dn E M q) (h':Dn E N r)(hE:0 < E):Dn E (M + N) (q + r):=by
 obtain ⟨z,h1,rfl⟩:=h
 obtain ⟨y,h3,rfl⟩:=h'
 refine ⟨z + y,by omega,?_⟩
 rw [Rat.mkRat_add_mkRat _ _ (by omega) (by omega),<- Int.add_mul,Rat.mkRat_mul_right (by omega)]
theorem Dn.qb {E M k:Nat} {q:Rat} (h:Dn E M q)(hE:0 < E)(h1:E < 2 ^ k)(h2:M < 2 ^ k):QB k q:=by
 obtain ⟨z,h3,rfl⟩:=h
 have e:z = sgn (decide (z < 0)) z.natAbs:=by
  unfold sgn
  by_cases hz:z < 0
  ·rw [if_pos (by simpa using hz)]
   omega
  rw [if_neg (by simpa using hz)]
  omega
 rw [e]
 exact QB.red (by omega) h1 hE
def jT (qs:List Rat):Nat:=qs.foldr (fun q d=>q.den * d) 1
theorem np (qs:List Rat):0 < jT qs:=by
 induction qs with
 | nil=>simp [jT]
 | cons q qs ih=>exact Nat.mul_pos q.den_pos ih
theorem uT {k:Nat} (qs:List Rat)(h:∀ q ∈ qs,QB k q):jT qs <= 2 ^ (k * qs.length):=by
 induction qs with
 | nil=>simp [jT]
 | cons q qs ih =>
  have h1:=ih fun x hx=>h x (List.mem_cons_of_mem _ hx)
  have h2:=(h q List.mem_cons_self).2
  rw [List.length_cons,Nat.mul_succ,Nat.add_comm,Nat.pow_add]
  exact Nat.mul_le_mul (by omega) h1
theorem uS {qs:List Rat} {q:Rat} (h:q ∈ qs):q.den ∣ jT qs:=by
 induction qs with
 | nil=>simp at h
 | cons x qs ih =>
  rcases List.mem_cons.1 h with rfl | h
  ·exact Nat.dvd_mul_right _ _
  exact Nat.dvd_trans (ih h) (Nat.dvd_mul_left _ _)
theorem Dn.of_mem {k:Nat} {qs:List Rat} {q:Rat} (h:q ∈ qs)(hq:QB k q):Dn (jT qs) (jT qs * 2 ^ k) q:=by
 obtain ⟨c,hc⟩:=uS h
 have hp:=np qs
 have hc0:c ≠ 0:=by
  intro e
  rw [e,Nat.mul_zero] at hc
  omega
 refine ⟨c * q.num,?_,?_⟩
 ·rw [Int.natAbs_mul,Int.natAbs_natCast]
  exact Nat.mul_le_mul (by rw [hc]; exact Nat.le_mul_of_pos_left _ q.den_pos) (Nat.le_of_lt hq.1)
 rw [hc,Nat.mul_comm q.den c,Rat.mkRat_mul_left hc0]
 exact (Rat.mkRat_self q).symm
def SubTo (l m o:List Nat) (k c:Nat):Prop:=Ok o/\o.length = l.length/\c <= 1/\o.drop k = l.drop k/\val (o.take k) + val (m.take k) = val (l.take k) + 4294967296 ^ k * c

theorem SubTo.start (l m:List Nat)(h:Ok l):SubTo l m l 0 0:=⟨h,rfl,by omega,rfl,by simp [val]⟩

theorem SubTo.at_ {l m o:List Nat} {k c:Nat} (h:SubTo l m o k c):o.getD k 0 = l.getD k 0:=by
 have:=congrArg (fun x=>x.getD 0 0) h.2.2.2.1
 simpa [gD] using this

theorem SubTo.step {l m o:List Nat} {k c x y:Nat} (h:SubTo l m o k c)(hx:o.getD k 0 = x)(hy:m.getD k 0 = y) (xl:x < 4294967296) (yl:y < 4294967296)(hk:k < l.length) :
  SubTo l m (o.set k ((x + 4294967296 - (c + y)) % 4294967296)) (k + 1) (if x < c + y then 1 else 0):=by
 have hx':l.getD k 0 = x:=by rw [<- h.at_]; exact hx
 obtain ⟨h1,h2,h3,h4,h5⟩:=h
 refine ⟨h1.set _ _ (Nat.mod_lt _ (by omega)),by simpa using h2,by split <;> omega,?_,?_⟩
 ·rw [List.drop_set_of_lt (by omega),<- List.drop_drop,<- List.drop_drop,h4]
 rw [cM o (by omega),bL,ax,ax,hx',hy,List.length_take,Nat.min_eq_left (by omega),Nat.pow_succ]
 split
 ·next hlt =>
  rw [Nat.mod_eq_of_lt (by omega)]
  obtain ⟨r,hr⟩:∃ r,x + 4294967296 = c + y + r:=⟨x + 4294967296 - (c + y),by omega⟩
  rw [hr,Nat.add_sub_cancel_left]
  have e2:4294967296 ^ k * (x + 4294967296) = 4294967296 ^ k * (c + y + r):=by rw [hr]
  grind
 next hlt =>
 obtain ⟨r,hr⟩:∃ r,x = c + y + r:=⟨x - (c + y),by omega⟩
 have:(x + 4294967296 - (c + y)) % 4294967296 = r:=by omega
 rw [this]
 have e2:4294967296 ^ k * x = 4294967296 ^ k * (c + y + r):=by rw [hr]
 grind

theorem SubTo.done {l m o:List Nat} {k c:Nat} (h:SubTo l m o k c)(ho:l.length = k)(hm:m.length <= k)(hle:val m <= val l):val o = val l - val m:=by
 obtain ⟨h1,h2,_,_,h3⟩:=h
 rw [aB (by omega),aB (by omega),aB (by omega)] at h3
 have a1:=de o h1
 rw [h2,ho] at a1
 rcases zP c with h | h
 ·subst h; omega
 have:4294967296 ^ k * 1 <= 4294967296 ^ k * c:=Nat.mul_le_mul_left _ h
 omega

theorem dS {l m:List Nat} (hl:Ok l) (tm:Trim m)(h:val m <= val l):m.length <= l.length:=by
 rcases Nat.lt_or_ge l.length m.length with h' | h'
 ·have:=bd hl tm h'; omega
 exact h'

theorem wu (w:World) (va vb:Value) (a b k:Nat)(ha:NatAt w va a)(hb:NatAt w vb b) (la:a < 2 ^ k)(hle:b <= a)(hk:k <= 70368744177664) :
  Calls Tryz.prog 173 #[va,vb] w fun e w'=>∃ v',e = .returned v'/\NatAt w' v' (a - b)/\Below w.heap.size w w'/\From v' w.heap.size:=by
 obtain ⟨l,dl,tl,rfl⟩:=ha
 obtain ⟨m,dm,tm,rfl⟩:=hb
 have ll:=tl.length_le la
 have hlen:=dS dl.2 tm hle
 have HLE:=aH hle
 have DL:=aH dl
 clear la tl hle
 have HO:=aH dl.2
 clear dl
 obtain ⟨okm,B,cb,rfl,hmc,hcm',hB⟩:=dm.open_
 clear dm
 have HB:=aH hB
 clear hB
 have HP:=aH okm
 clear okm
 obtain ⟨n,hn⟩:=nm (l.length)
 obtain ⟨p,hp⟩:=nm (m.length)
 rw [hn] at ll hlen
 rw [hp] at hmc hlen ⊢
 have HN:=aH hn
 have HQ:=aH hp
 clear hn hp
 have cl:∀ W,W = w->Calls Tryz.prog 174 #[va] W fun e w'=>∃ v',e = .returned v'/\Sl w' 1 v' n (l.map dg)/\Below W.heap.size W w'/\∃ base,W.heap.size <= base/\w'.ownsRow base 181 1 v' n (l.map dg):=by
  intro W hW
  rw [hW]
  have:=ed w va l.length (l.map dg) DL.o.1 (gR l) (by rw [HN.o]; omega)
  rwa [HN.o] at this
 have CL:=aH cl
 clear cl
 go_enter Tryz.func173,Tryz.ntmps173
 go_wp2_with (go_at_call 174; refine (CL.o _ rfl).mono ?_; rintro e w1 ⟨v1,rfl,hv1,hb1,base,hbase,hown⟩)
 obtain ⟨A,c,rfl,hnc,hcm,hln,hod⟩:=OD.of_own hown
 have HOD:=aH hod
 have HB1:=aH hb1
 clear hown hv1 hod hb1 hln
 go_wp2_with fail
 go_simp
 go_wp2_with fail
 go_loopw [6,14] (fun bo i wr=>∃ (k cc:Nat) (o:List Nat),i = .int .i64 k/\bo = .int .u64 cc/\k <= n/\SubTo l m o k cc/\OD wr base A o/\Below w.heap.size w wr)
   (fun _ i _=>n - (intOf i).toNat)
 case atStart=>exact ⟨0,0,l,rfl,rfl,by omega,SubTo.start l m HO.o,HOD.o,HB1.o⟩
 obtain ⟨k,cc,o,rfl,rfl,hk,hs,hod,hbel⟩:=hrel
 have hcc:=hs.2.2.1
 have HS:=aH hs
 have HOD:=aH hod
 have ho:=hs.2.1
 rw [HN.o] at ho
 have HL:=aH ho
 clear hs hod ho
 by_cases hlt:k < n
 ·obtain ⟨x,hx⟩:=nm (o.getD k 0)
  obtain ⟨y,hy⟩:=nm (m.getD k 0)
  have hx0:x < 4294967296:=by rw [<- hx]; exact HS.o.1.getD k
  have hy0:y < 4294967296:=by rw [<- hy]; exact HP.o.getD k
  obtain ⟨g,rfl,hg,hdb⟩:=HOD.o.at_ (k:=k) (by rw [HL.o]; exact hlt)
  have hz:=hdb.cell (k:=k) (by rw [HL.o]; exact hlt)
  rw [hx] at hz
  have hfz:=hdb.frozen k
  have step:=HS.o.step hx hy hx0 hy0 (by rw [HN.o]; exact hlt)
  have STEP:=aH step
  have HDB:=aH hdb
  have hcy:=aS HB.o HQ.o hbel k y hy
  have HB2:=aH hbel
  clear hx hy step hdb hbel
  have close:∀ E F:Int,E = ((x + 4294967296 - (cc + y)) % 4294967296:Nat)->F = ((if x < cc + y then 1 else 0:Nat):Int)->(∃ (k' cc':Nat) (o':List Nat),Value.int .i64 ((k:Int) + 1) = .int .i64 k'/\Value.int .u64 F = .int .u64 cc'/\k' <= n/\SubTo l m o' k' cc'/\OD (wr.setCell ⟨g,k,none⟩ (.int .u32 E)) base (some ⟨g,0,none⟩) o'/\Below w.heap.size w (wr.setCell ⟨g,k,none⟩ (.int .u32 E)))/\n - (intOf (Value.int .i64 ((k:Int) + 1))).toNat < n - (intOf (Value.int .i64 (k:Int))).toNat:=by
   intro E F hE hF
   exact ⟨⟨k + 1,_,_,rfl,di hF,by omega,STEP.o,.inr ⟨g,rfl,hg,HDB.o.set (by rw [HL.o]; exact hlt) hE⟩,HB2.o.setCell (p:=⟨g,k,none⟩) (Nat.le_trans hbase hg) _⟩,by simp [intOf]; omega⟩
  have CLOSE:=aH close
  clear close
  rcases hcy with ⟨h2,b',off',rfl,hb',hc2⟩ | ⟨h2,hy⟩
  ·by_cases hxy:x < cc + y
   ·go_wp2_with fail
    exact CLOSE.o _ _ (by omega) (by rw [if_pos hxy]; rfl)
   go_wp2_with fail
   exact CLOSE.o _ _ (by omega) (by rw [if_neg hxy]; rfl)
  by_cases hxy:x < cc
  ·go_wp2_with fail
   exact CLOSE.o _ _ (by omega) (by rw [if_pos (by omega)]; rfl)
  go_wp2_with fail
  exact CLOSE.o _ _ (by omega) (by rw [if_neg (by omega)]; rfl)
 obtain rfl:k = n:=by omega
 have hd:=HOD.o.digAt HS.o.1 HL.o hnc hcm
 have hv:=HS.o.done HN.o (by rw [HQ.o]; omega) HLE.o
 have HD:=aH hd
 have HV:=aH hv
 have HB2:=aH hbel
 clear hd hv hbel
 go_wp2_with (go_at_call 167; refine (fI _ _ o HD.o (by rw [HL.o]; omega)).mono ?_; rintro e w' ⟨v',rfl,hv,hb,hf⟩)
 go_ret
 rw [HV.o] at hv
 exact ⟨v',rfl,hv,HB2.o.trans (hb.mono HB2.o.size),hf.mono HB2.o.size⟩
theorem sub (w:World) (va vb:Value) (a b k:Nat)(ha:NatAt w va a)(hb:NatAt w vb b) (la:a < 2 ^ k)(hle:b <= a)(hk:k <= 70368744177664) :
  Calls Tryz.prog 173 #[va,vb] w fun e w'=>∃ v',e = .returned v'/\NatAt w' v' (a - b)/\Below w.heap.size w w' :=
 (wu w va vb a b k ha hb la hle hk).mono fun _ _ ⟨v',h1,h2,h3,_⟩=>⟨v',h1,h2,h3⟩
end Go.Proofs.YtjebfdfkjlkifaaGreat
