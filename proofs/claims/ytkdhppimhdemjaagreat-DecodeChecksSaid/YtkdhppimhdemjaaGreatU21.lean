/- Lemmas on the way: Ref1, Ref2, Ref3, Ref4, Ref5, Ref6. -/
import Derived.Deep.LoopGhost
import Derived.Test.YtkdhppimhdemjaaGreatU05
set_option linter.all false
set_option maxRecDepth 1000000
set_option maxHeartbeats 32000000
namespace Go.Proofs.YtkdhppimhdemjaaGreat
open Go.RowKit
def Mj (v v':Value):Prop:=∃ A n m c,v = .slice A n c/\v' = .slice A m c/\m <= n
theorem Mj.from {v v':Value} (h:Mj v v') {B:Nat} (hf:bf v B):bf v' B:=by
 obtain ⟨A,n,m,c,rfl,rfl,_⟩:=h
 intro ad n' c' e
 cases e
 exact hf _ _ _ rfl

theorem cS.of_take {l:List Nat} {k:Nat} (hl:cS l)(h:fk l k)(hok:Ok l)(ht:cS (l.take k)):k = l.length:=by
 have:=cS.eq_of_val (hok.take k) hok ht hl h.2
 have h2:=congrArg List.length this
 rw [List.length_take] at h2
 have:=h.1
 omega

theorem iM (w:World) (v:Value) (l:List Nat)(hd:bW w v l) :
  Calls Tryz.prog 55 #[v] w fun e w'=>w' = w/\∃ v',e = .returned v'/\ab w v' (val l)/\Mj v v'/\(cS l->v' = v):=by
 obtain ⟨hok,A,c,rfl,hlc,hcm,hA⟩:=id hd.open_
 have HD:=Lib.hid hd.1
 have HA:=Lib.hid hA
 clear hA hd
 have HO:=Lib.hid hok
 clear hok
 obtain ⟨n,hn⟩:∃ n,l.length = n:=⟨_,rfl⟩
 have HN:=Lib.hid hn
 rw [hn] at hlc ⊢
 clear hn
 have HTL:Hid (∀ k,k = l.length->Value.slice A k c = .slice A n c):=Lib.hid (fun k e=>by rw [e,HN.out])
 go_enter Tryz.func55,Tryz.ntmps55
 go_wp2_with fail
 go_loop [3] (fun i=>∃ k:Nat,i = .int .i64 k/\fk l k/\k <= n) (fun i=>(intOf i).toNat)
 case atStart=>exact ⟨n,rfl,HN.out ▸ fk.start l,Nat.le_refl _⟩
 obtain ⟨k,rfl,ht,hk⟩:=hrel
 have HT:=Lib.hid ht
 clear ht
 have fin:cS (l.take k)->ab w (.slice A k c) (val l):=by
  intro ht'
  have hlen:(l.take k).length = k:=by rw [List.length_take,HN.out]; omega
  refine ⟨l.take k,⟨?_,HO.out.take k⟩,ht',HT.out.2⟩
  rw [hlen,List.map_take]
  exact (HN.out ▸ HD.out:Sl w 1 (.slice A n c) n (l.map dg)).cutHead hk
 have FIN:=Lib.hid fin
 clear fin
 rcases Nat.eq_zero_or_pos k with h0 | h0
 ·subst h0
  go_wp2_with fail
  go_ret
  exact ⟨rfl,_,rfl,FIN.out (by simp [cS]),⟨A,n,0,c,rfl,rfl,by omega⟩,fun h=>HTL.out _ (cS.of_take h HT.out HO.out (by simp [cS]))⟩
 obtain ⟨m,rfl⟩:∃ m,k = m + 1:=⟨k - 1,by omega⟩
 have hm:m < l.length:=by rw [HN.out]; omega
 obtain ⟨d,hd⟩:∃ d,l[m]? = some d:=⟨_,List.getElem?_eq_getElem hm⟩
 have HDD:=Lib.hid hd
 obtain ⟨b,off,rfl,hc⟩:∃ b off,A = some ⟨b,off,none⟩/\w.cell? ⟨b,off + m,none⟩ = some (.int .u32 (d:Int)):=by
  rcases HA.out with h | ⟨b,off,h,_,hc⟩
  ·subst h; simp at hm
  exact ⟨b,off,h,hc m d hd⟩
 clear hd hm
 by_cases hz:d = 0
 ·subst hz
  go_wp2_with fail
  exact ⟨⟨m,rfl,HT.out.step HDD.out,by omega⟩,by simp [intOf]⟩
 have hz':((d:Int) == 0) = false:=by simpa using hz
 go_wp2_with fail
 go_ret
 exact ⟨rfl,_,rfl,FIN.out (fk.trim HDD.out hz),⟨_,n,m + 1,c,rfl,rfl,hk⟩,fun h=>HTL.out _ (cS.of_take h HT.out HO.out (fk.trim HDD.out hz))⟩

theorem vQ (w:World) (v:Value) (n:Nat)(h:ab w v n) :
  Calls Tryz.prog 55 #[v] w fun e w'=>w' = w/\e = .returned v:=by
 obtain ⟨l,d,t,rfl⟩:=h
 refine (iM w v l d).mono ?_
 rintro e w' ⟨rfl,v',rfl,_,_,h⟩
 exact ⟨rfl,by rw [h t]⟩
theorem qS (w:World) (va vb:Value) (a b:Nat)(ha:ab w va a)(hb:ab w vb b) :
  Calls Tryz.prog 194 #[va,vb] w fun e w'=>e = .returned (.int .i64 (fK a b))/\∃ k,w' = w.drewN k:=by
 have TA:Hid (∀ W,W = w->Calls Tryz.prog 55 #[va] W fun e w'=>w' = W/\e = .returned va):=Lib.hid (fun W e=>by rw [e]; exact vQ w va a ha)
 have TB:Hid (∀ W,W = w->Calls Tryz.prog 55 #[vb] W fun e w'=>w' = W/\e = .returned vb):=Lib.hid (fun W e=>by rw [e]; exact vQ w vb b hb)
 obtain ⟨l,dl,tl,rfl⟩:=ha
 obtain ⟨m,dm,tm,rfl⟩:=hb
 obtain ⟨okl,A,ca,rfl,hlc,hcm,hA⟩:=dl.open_
 obtain ⟨okm,B,cb,rfl,hmc,hcm',hB⟩:=dm.open_
 clear dl dm
 have HA:=Lib.hid hA
 have HB:=Lib.hid hB
 clear hA hB
 have HO:=Lib.hid okl
 have HP:=Lib.hid okm
 clear okl okm
 have HT:=Lib.hid tl
 have HU:=Lib.hid tm
 clear tl tm
 obtain ⟨n,hn⟩:∃ n,l.length = n:=⟨_,rfl⟩
 obtain ⟨p,hp⟩:∃ p,m.length = p:=⟨_,rfl⟩
 rw [hn] at hlc TA ⊢
 rw [hp] at hmc TB ⊢
 have HN:=Lib.hid hn
 have HQ:=Lib.hid hp
 clear hn hp
 by_cases hlt:n < p
 ·have hne:((n:Int) != (p:Int)) = true:=by simp; omega
  have hr:=fP (bZ HO.out HU.out (by rw [HN.out,HQ.out]; exact hlt))
  have HR:=Lib.hid hr
  clear hr
  go_enter Tryz.func194,Tryz.ntmps194
  go_wp2_with fail
  refine (TA.out _ rfl).mono ?_
  rintro e w1 ⟨hw1,rfl⟩
  cases hw1
  go_wp2_with fail
  refine (TB.out _ rfl).mono ?_
  rintro e w1 ⟨hw1,rfl⟩
  cases hw1
  go_wp2_with fail
  go_ret
  exact ⟨aq HR.out.symm,0,rfl⟩
 by_cases hgt:p < n
 ·have hne:((n:Int) != (p:Int)) = true:=by simp; omega
  have hr:=ir (bZ HP.out HT.out (by rw [HN.out,HQ.out]; exact hgt))
  have HR:=Lib.hid hr
  clear hr
  go_enter Tryz.func194,Tryz.ntmps194
  go_wp2_with fail
  refine (TA.out _ rfl).mono ?_
  rintro e w1 ⟨hw1,rfl⟩
  cases hw1
  go_wp2_with fail
  refine (TB.out _ rfl).mono ?_
  rintro e w1 ⟨hw1,rfl⟩
  cases hw1
  go_wp2_with fail
  go_ret
  exact ⟨aq HR.out.symm,0,rfl⟩
 obtain rfl:n = p:=by omega
 clear hlt hgt
 go_enter Tryz.func194,Tryz.ntmps194
 go_wp2_with fail
 refine (TA.out _ rfl).mono ?_
 rintro e w1 ⟨hw1,rfl⟩
 cases hw1
 go_wp2_with fail
 refine (TB.out _ rfl).mono ?_
 rintro e w1 ⟨hw1,rfl⟩
 cases hw1
 go_wp2_with fail
 go_loopw [5] (fun i wr=>∃ q:Int,(∃ d,wr = w.drewN d)/\i = .int .i64 q/\-1 <= q/\q < n/\l.drop (q + 1).toNat = m.drop (q + 1).toNat) (fun i _=>(intOf i + 1).toNat)
 case atStart =>
  refine ⟨_,⟨0,rfl⟩,rfl,by omega,by omega,?_⟩
  rw [List.drop_eq_nil_of_le (by rw [HN.out]; omega),List.drop_eq_nil_of_le (by rw [HQ.out]; omega)]
 obtain ⟨q,⟨nd,rfl⟩,rfl,hq,hqn,hd⟩:=hrel
 have HD:=Lib.hid hd
 clear hd
 by_cases h0:q = -1
 ·subst h0
  go_wp2_with fail
  go_ret
  have he:l = m:=by simpa using HD.out
  exact ⟨aq (by rw [he,nP]),nd,rfl⟩
 obtain ⟨k,rfl⟩:∃ k:Nat,q = k:=⟨q.toNat,by omega⟩
 clear h0 hq
 have hkl:k < l.length:=by rw [HN.out]; omega
 have hkm:k < m.length:=by rw [HQ.out]; omega
 obtain ⟨x,hx⟩:∃ x,l[k]? = some x:=⟨_,List.getElem?_eq_getElem hkl⟩
 obtain ⟨y,hy⟩:∃ y,m[k]? = some y:=⟨_,List.getElem?_eq_getElem hkm⟩
 obtain ⟨b,off,rfl,hc⟩:∃ b off,A = some ⟨b,off,none⟩/\w.cell? ⟨b,off + k,none⟩ = some (.int .u32 (x:Int)):=by
  rcases HA.out with h | ⟨b,off,h,_,hc⟩
  ·subst h; simp at hkl
  exact ⟨b,off,h,hc k x hx⟩
 obtain ⟨b',off',rfl,hc'⟩:∃ b off,B = some ⟨b,off,none⟩/\w.cell? ⟨b,off + k,none⟩ = some (.int .u32 (y:Int)):=by
  rcases HB.out with h | ⟨b,off,h,_,hc⟩
  ·subst h; simp at hkm
  exact ⟨b,off,h,hc k y hy⟩
 have HX:=Lib.hid hx
 have HY:=Lib.hid hy
 clear hx hy hkl hkm
 have hd1:l.drop (k + 1) = m.drop (k + 1):=by
  have:=HD.out
  rwa [show ((k:Int) + 1).toNat = k + 1 by omega] at this
 have HE:=Lib.hid hd1
 clear hd1
 rcases Nat.lt_trichotomy x y with h | h | h
 ·have hne:((x:Int) != (y:Int)) = true:=by simp; omega
  have hr:=fP (kL HO.out HE.out HX.out HY.out h)
  have HR:=Lib.hid hr
  clear hr
  go_wp2_with fail
  go_quiet (fail)
  go_wp2_with fail
  go_quiet (fail)
  go_wp2_with fail
  go_ret
  exact ⟨aq HR.out.symm,_,by simp only [World.drewN_drewN]; rfl⟩
 ·subst h
  have hne:((x:Int) != (x:Int)) = false:=by simp
  go_wp2_with fail
  go_quiet (fail)
  go_wp2_with fail
  refine ⟨⟨(k:Int) - 1,⟨_,rfl⟩,rfl,by omega,by omega,?_⟩,by simp [intOf]⟩
  rw [show ((k:Int) - 1 + 1).toNat = k by omega]
  exact tP HX.out HY.out HE.out
 have hne:((x:Int) != (y:Int)) = true:=by simp; omega
 have hr:=ir (kL HP.out HE.out.symm HY.out HX.out h)
 have HR:=Lib.hid hr
 clear hr
 go_wp2_with fail
 go_quiet (fail)
 go_wp2_with fail
 go_quiet (fail)
 go_wp2_with fail
 go_ret
 exact ⟨aq HR.out.symm,_,by simp only [World.drewN_drewN]; rfl⟩
def ea (l m o:List Nat) (c:Nat):Prop:=Ok o/\c <= 1/\val o + 4294967296 ^ o.length * c = val (l.take o.length) + val (m.take o.length)
theorem ea.step {l m o:List Nat} {k c x y:Nat} (h:ea l m o c)(ho:o.length = k)(hx:l.getD k 0 = x)(hy:m.getD k 0 = y) (xl:x < 4294967296) (yl:y < 4294967296) :
  ea l m (o ++ [(c + x + y) % 4294967296]) ((c + x + y) / 4294967296):=by
 obtain ⟨h1,h2,h3⟩:=h
 subst ho
 refine ⟨Ok.append.2 ⟨h1,Ok.cons.2 ⟨Nat.mod_lt _ (by omega),Ok.nil⟩⟩,by omega,?_⟩
 rw [List.length_append,List.length_singleton,cO,aL,aL,hx,hy]
 have e:=Nat.div_add_mod (c + x + y) 4294967296
 generalize (c + x + y) / 4294967296 = q at *
 generalize (c + x + y) % 4294967296 = r at *
 have e2:4294967296 ^ o.length * (c + x + y) = 4294967296 ^ o.length * (4294967296 * q + r):=by rw [e]
 rw [Nat.pow_succ]
 grind
theorem ea.done {l m o:List Nat} (h:ea l m o 0)(h1:l.length <= o.length)(h2:m.length <= o.length):val o = val l + val m:=by
 obtain ⟨_,_,h3⟩:=h
 rw [aO h1,aO h2] at h3
 omega
theorem ea.last {l m o:List Nat} {c N:Nat} (h:ea l m o c)(hl:Ok l)(hm:Ok m)(h1:l.length <= N)(h2:m.length <= N)(ho:o.length = N + 1):c = 0:=by
 obtain ⟨_,_,h3⟩:=h
 rw [aO (by omega),aO (by omega),ho] at h3
 have a1:=eo l hl
 have a2:=eo m hm
 have a3:4294967296 ^ l.length <= 4294967296 ^ N:=Nat.pow_le_pow_right (by omega) h1
 have a4:4294967296 ^ m.length <= 4294967296 ^ N:=Nat.pow_le_pow_right (by omega) h2
 have a5:4294967296 ^ (N + 1) = 4294967296 ^ N * 4294967296:=Nat.pow_succ ..
 rcases Nat.eq_zero_or_pos c with h | h
 ·exact h
 have:4294967296 ^ (N + 1) * 1 <= 4294967296 ^ (N + 1) * c:=Nat.mul_le_mul_left _ h
 omega

theorem Sl.one (w:World) (x:Value) (e:TypeId):Sl (w.alloc (.cells #[x] e)) 1 (.slice (some ⟨w.heap.size,0,none⟩) 1 1) 1 [x]:=by
 have:=(bw.new w e [x]).sl (sz:=1) (n:=1) (c:=1) (by simp) (by omega) (by unfold maxLen; omega)
 simpa using this

theorem ea.grow {w wr w2:World} {base:Nat} {e:TypeId} {vo:Value} {n:Nat} {xs:List Value} {ob:Obj} (hb:Below base w wr)(ho:wr.ownsRow base e 1 vo n xs)(hg:(wr.alloc ob).grownBy w2 vo.ownBlock)(hw:base <= wr.heap.size):Below base w w2:=by
 refine (hb.alloc hw _).grown hg (by simp; omega) ?_
 intro k hk
 have hf:=bf.of_own ho
 unfold Value.ownBlock at hk
 split at hk
 ·cases hk; exact hf _ _ _ rfl
 cases hk

theorem Ag {wr:World} {base:Nat} {e:TypeId} {vo:Value} {k:Nat} {o:List Nat} (h:wr.ownsRow base e 1 vo k (o.map dg))(hok:Ok o)(hl:o.length = k) :
  ∀ W,W = wr->Calls Tryz.prog 55 #[vo] W fun e w'=>w' = W/\∃ v',e = .returned v'/\ab W v' (val o)/\bf v' base:=fun W e=>by
 rw [e]
 refine (iM wr vo o ⟨by rw [hl]; exact Sl.of_own h,hok⟩).mono ?_
 rintro e w' ⟨h1,v',h2,h3,h4,_⟩
 subst h1
 exact ⟨rfl,v',h2,h3,h4.from (bf.of_own h)⟩

theorem wC (w:World) (va vb:Value) (a b k:Nat)(ha:ab w va a)(hb:ab w vb b) (la:a < 2 ^ k) (lb:b < 2 ^ k)(hk:k <= 70368744177664) :
  Calls Tryz.prog 196 #[va,vb] w fun e w'=>∃ v',e = .returned v'/\ab w' v' (a + b)/\Below w.heap.size w w'/\bf v' w.heap.size:=by
 obtain ⟨l,dl,tl,rfl⟩:=ha
 obtain ⟨m,dm,tm,rfl⟩:=hb
 have ll:=tl.length_le la
 have lm:=tm.length_le lb
 clear la lb tl tm
 obtain ⟨okl,A,ca,rfl,hlc,hcm,hA⟩:=dl.open_
 obtain ⟨okm,B,cb,rfl,hmc,hcm',hB⟩:=dm.open_
 clear dl dm
 have HA:=Lib.hid hA
 have HB:=Lib.hid hB
 clear hA hB
 have HO:=Lib.hid okl
 have HP:=Lib.hid okm
 clear okl okm
 obtain ⟨n,hn⟩:∃ n,l.length = n:=⟨_,rfl⟩
 obtain ⟨p,hp⟩:∃ p,m.length = p:=⟨_,rfl⟩
 rw [hn] at hlc ll ⊢
 rw [hp] at hmc lm ⊢
 have HN:=Lib.hid hn
 have HQ:=Lib.hid hp
 clear hn hp
 obtain ⟨i0,hi,hz0,hz1,hz2⟩:=info_parts dB
 go_enter Tryz.func196,Tryz.ntmps196
 go_wp2_with fail
 obtain ⟨N,hN1,hN2,hN3⟩:∃ N:Nat,n <= N/\p <= N/\(N <= n ∨ N <= p):=⟨max n p,by omega,by omega,by omega⟩
 go_loopg [5,6,7] (N + 1) (fun g vo c i wr=>∃ (k cc:Nat) (o:List Nat),i = .int .i64 k/\c = .int .u64 cc/\k + g = N + 1/\o.length = k/\Hid (ea l m o cc)/\Hid (wr.ownsRow w.heap.size 199 1 vo k (o.map dg))/\Hid (Below w.heap.size w wr))
 case atStart=>exact ⟨0,0,[],rfl,rfl,by omega,rfl,Lib.hid ⟨Ok.nil,by omega,by simp [val]⟩,Lib.hid (World.ownsRow_nil ..),Lib.hid (Below.refl _ _)⟩
 obtain ⟨k,cc,o,rfl,rfl,hg,ho,HPT,HOW,HBE⟩:=hrel
 have HL:=Lib.hid ho
 clear ho
 have hcc:=HPT.out.2.1
 obtain ⟨x,hx⟩:∃ x,l.getD k 0 = x:=⟨_,rfl⟩
 obtain ⟨y,hy⟩:∃ y,m.getD k 0 = y:=⟨_,rfl⟩
 have hx0:x < 4294967296:=by rw [<- hx]; exact HO.out.getD k
 have hy0:y < 4294967296:=by rw [<- hy]; exact HP.out.getD k
 have STEP:=Lib.hid (HPT.out.step HL.out hx hy hx0 hy0)
 have hcx:=bL HA.out HN.out HBE.out k x hx
 have hcy:=bL HB.out HQ.out HBE.out k y hy
 clear hx hy
 rcases hcx with ⟨h1,b,off,rfl,hb,hc1⟩ | ⟨h1,hx⟩
 ·rcases hcy with ⟨h2,b',off',rfl,hb',hc2⟩ | ⟨h2,hy⟩
  ·skip
   go_wp2_with (at_builtin; refine aP rfl _ _ 28 rfl w.heap.size 199 i0 (.int .u32 0) 1 4 Tryz.underlying28 hi hz0 hz1 hz2 rfl (by decide) _ _ _ rfl (HOW.out.alloc _) _ 1 [_] rfl (Sl.one _ _ _) ?c0 ?c1 ?c2 ?c3 ?_)
   case c0=>simp [Value.oneCell']
   case c1=>unfold maxLen; omega
   case c2=>omega
   case c3=>have:=HBE.out.size; simp; omega
   intro v2 w2 hown2 hgrow hnb
   have HW2:=Lib.hid hown2
   have HB3:=Lib.hid (ea.grow HBE.out HOW.out hgrow HBE.out.size)
   clear hown2 hgrow hnb
   obtain ⟨g,rfl⟩:∃ g,gk = g + 1:=⟨gk - 1,by omega⟩
   go_wp2_with fail
   go_roundg g
   case measure=>omega
   case rel=>exact ⟨k + 1,(cc + x + y) / 4294967296,o ++ [(cc + x + y) % 4294967296],rfl,ez (by omega),by omega,by simp [HL.out],STEP,Lib.hid (by simpa [dg] using HW2.out),HB3⟩
  have HST:=STEP
  subst hy
  go_wp2_with (at_builtin; refine aP rfl _ _ 28 rfl w.heap.size 199 i0 (.int .u32 0) 1 4 Tryz.underlying28 hi hz0 hz1 hz2 rfl (by decide) _ _ _ rfl (HOW.out.alloc _) _ 1 [_] rfl (Sl.one _ _ _) ?c0 ?c1 ?c2 ?c3 ?_)
  case c0=>simp [Value.oneCell']
  case c1=>unfold maxLen; omega
  case c2=>omega
  case c3=>have:=HBE.out.size; simp; omega
  intro v2 w2 hown2 hgrow hnb
  have HW2:=Lib.hid hown2
  have HB3:=Lib.hid (ea.grow HBE.out HOW.out hgrow HBE.out.size)
  clear hown2 hgrow hnb
  obtain ⟨g,rfl⟩:∃ g,gk = g + 1:=⟨gk - 1,by omega⟩
  go_wp2_with fail
  go_roundg g
  case measure=>omega
  case rel=>exact ⟨k + 1,(cc + x + 0) / 4294967296,o ++ [(cc + x + 0) % 4294967296],rfl,ez (by omega),by omega,by simp [HL.out],HST,Lib.hid (by simpa [dg] using HW2.out),HB3⟩
 rcases hcy with ⟨h2,b',off',rfl,hb',hc2⟩ | ⟨h2,hy⟩
 ·have HST:=STEP
  subst hx
  go_wp2_with (at_builtin; refine aP rfl _ _ 28 rfl w.heap.size 199 i0 (.int .u32 0) 1 4 Tryz.underlying28 hi hz0 hz1 hz2 rfl (by decide) _ _ _ rfl (HOW.out.alloc _) _ 1 [_] rfl (Sl.one _ _ _) ?c0 ?c1 ?c2 ?c3 ?_)
  case c0=>simp [Value.oneCell']
  case c1=>unfold maxLen; omega
  case c2=>omega
  case c3=>have:=HBE.out.size; simp; omega
  intro v2 w2 hown2 hgrow hnb
  have HW2:=Lib.hid hown2
  have HB3:=Lib.hid (ea.grow HBE.out HOW.out hgrow HBE.out.size)
  clear hown2 hgrow hnb
  obtain ⟨g,rfl⟩:∃ g,gk = g + 1:=⟨gk - 1,by omega⟩
  go_wp2_with fail
  go_roundg g
  case measure=>omega
  case rel=>exact ⟨k + 1,(cc + 0 + y) / 4294967296,o ++ [(cc + 0 + y) % 4294967296],rfl,ez (by omega),by omega,by simp [HL.out],HST,Lib.hid (by simpa [dg] using HW2.out),HB3⟩
 subst hx
 subst hy
 rcases Nat.eq_zero_or_pos cc with hz | hz
 ·subst hz
  have TR:=Lib.hid (Ag HOW.out HPT.out.1 HL.out)
  have HV:=Lib.hid (HPT.out.done (by rw [HN.out,HL.out]; exact h1) (by rw [HQ.out,HL.out]; exact h2))
  go_wp2_with fail
  refine (TR.out _ rfl).mono ?_
  rintro e w2 ⟨hw2,v',rfl,hv,hf⟩
  cases hw2
  have T2:=Lib.hid hv
  have T3:=Lib.hid hf
  clear hv hf
  go_wp2_with fail
  go_ret
  exact ⟨v',rfl,HV.out ▸ T2.out,HBE.out,T3.out⟩
 obtain rfl:cc = 1:=by omega
 have hkN:k ≠ N + 1:=fun e=>by
  have:=HPT.out.last (N:=N) HO.out HP.out (by rw [HN.out]; omega) (by rw [HQ.out]; omega) (by rw [HL.out,e])
  omega
 have HST:=STEP
 go_wp2_with (at_builtin; refine aP rfl _ _ 28 rfl w.heap.size 199 i0 (.int .u32 0) 1 4 Tryz.underlying28 hi hz0 hz1 hz2 rfl (by decide) _ _ _ rfl (HOW.out.alloc _) _ 1 [_] rfl (Sl.one _ _ _) ?c0 ?c1 ?c2 ?c3 ?_)
 case c0=>simp [Value.oneCell']
 case c1=>unfold maxLen; omega
 case c2=>omega
 case c3=>have:=HBE.out.size; simp; omega
 intro v2 w2 hown2 hgrow hnb
 have HW2:=Lib.hid hown2
 have HB3:=Lib.hid (ea.grow HBE.out HOW.out hgrow HBE.out.size)
 clear hown2 hgrow hnb
 obtain ⟨g,rfl⟩:∃ g,gk = g + 1:=⟨gk - 1,by omega⟩
 go_wp2_with fail
 go_roundg g
 case measure=>omega
 case rel=>exact ⟨k + 1,(1 + 0 + 0) / 4294967296,o ++ [(1 + 0 + 0) % 4294967296],rfl,ez (by omega),by omega,by simp [HL.out],HST,Lib.hid (by simpa [dg] using HW2.out),HB3⟩
def jC (l m o:List Nat) (c:Nat):Prop:=Ok o/\c <= 1/\val o + val (m.take o.length) = val (l.take o.length) + 4294967296 ^ o.length * c
theorem jC.step {l m o:List Nat} {k c x y:Nat} (h:jC l m o c)(ho:o.length = k)(hx:l.getD k 0 = x)(hy:m.getD k 0 = y) (xl:x < 4294967296) (yl:y < 4294967296) :
  (x < c + y->jC l m (o ++ [x + 4294967296 - (c + y)]) 1)/\(c + y <= x->jC l m (o ++ [x - (c + y)]) 0):=by
 obtain ⟨h1,h2,h3⟩:=h
 subst ho
 refine ⟨fun hlt=>⟨Ok.append.2 ⟨h1,Ok.cons.2 ⟨by omega,Ok.nil⟩⟩,by omega,?_⟩,fun hle=>⟨Ok.append.2 ⟨h1,Ok.cons.2 ⟨by omega,Ok.nil⟩⟩,by omega,?_⟩⟩
 ·rw [List.length_append,List.length_singleton,cO,aL,aL,hx,hy,Nat.pow_succ]
  obtain ⟨r,hr⟩:∃ r,x + 4294967296 = c + y + r:=⟨x + 4294967296 - (c + y),by omega⟩
  rw [hr,Nat.add_sub_cancel_left]
  have e2:4294967296 ^ o.length * (x + 4294967296) = 4294967296 ^ o.length * (c + y + r):=by rw [hr]
  grind
 rw [List.length_append,List.length_singleton,cO,aL,aL,hx,hy,Nat.pow_succ]
 obtain ⟨r,hr⟩:∃ r,x = c + y + r:=⟨x - (c + y),by omega⟩
 rw [hr,Nat.add_sub_cancel_left]
 grind
theorem jC.done {l m o:List Nat} {c:Nat} (h:jC l m o c)(h1:l.length = o.length)(h2:m.length <= o.length)(hle:val m <= val l):val o = val l - val m:=by
 obtain ⟨h0,_,h3⟩:=h
 rw [aO (by omega),aO (by omega)] at h3
 have a1:=eo o h0
 rcases Nat.eq_zero_or_pos c with h | h
 ·subst h; omega
 have:4294967296 ^ o.length * 1 <= 4294967296 ^ o.length * c:=Nat.mul_le_mul_left _ h
 omega

theorem uJ {w:World} {base:Nat} {e:TypeId} {v:Value} {k d:Nat} {xs:List Value} {E:Int} (h:w.ownsRow base e 1 v (k + 1) (xs ++ [Value.int .u32 E]))(hE:E = (d:Int)):w.ownsRow base e 1 v (k + 1) (xs ++ [d].map dg):=by
 rw [hE] at h
 exact h

theorem me (w:World) (va vb:Value) (a b k:Nat)(ha:ab w va a)(hb:ab w vb b) (la:a < 2 ^ k)(hle:b <= a)(hk:k <= 70368744177664) :
  Calls Tryz.prog 195 #[va,vb] w fun e w'=>∃ v',e = .returned v'/\ab w' v' (a - b)/\Below w.heap.size w w'/\bf v' w.heap.size:=by
 obtain ⟨l,dl,tl,rfl⟩:=ha
 obtain ⟨m,dm,tm,rfl⟩:=hb
 have ll:=tl.length_le la
 have hlen:=fF dl.2 tm hle
 have HLE:=Lib.hid hle
 clear la tl tm hle
 obtain ⟨okl,A,ca,rfl,hlc,hcm,hA⟩:=dl.open_
 obtain ⟨okm,B,cb,rfl,hmc,hcm',hB⟩:=dm.open_
 clear dl dm
 have HA:=Lib.hid hA
 have HB:=Lib.hid hB
 clear hA hB
 have HO:=Lib.hid okl
 have HP:=Lib.hid okm
 clear okl okm
 obtain ⟨n,hn⟩:∃ n,l.length = n:=⟨_,rfl⟩
 obtain ⟨p,hp⟩:∃ p,m.length = p:=⟨_,rfl⟩
 rw [hn] at hlc ll hlen ⊢
 rw [hp] at hmc hlen ⊢
 have HN:=Lib.hid hn
 have HQ:=Lib.hid hp
 clear hn hp
 obtain ⟨i0,hi,hz0,hz1,hz2⟩:=info_parts dB
 go_enter Tryz.func195,Tryz.ntmps195
 go_wp2_with fail
 go_outline
 go_loopg [5,6,7] n (fun g vo c i wr=>∃ (k cc:Nat) (o:List Nat),i = .int .i64 k/\c = .int .u64 cc/\k + g = n/\o.length = k/\Hid (jC l m o cc)/\Hid (wr.ownsRow w.heap.size 199 1 vo k (o.map dg))/\Hid (Below w.heap.size w wr))
 case atStart=>exact ⟨0,0,[],rfl,rfl,by omega,rfl,Lib.hid ⟨Ok.nil,by omega,by simp [val]⟩,Lib.hid (World.ownsRow_nil ..),Lib.hid (Below.refl _ _)⟩
 obtain ⟨k,cc,o,rfl,rfl,hg,ho,HPT,HOW,HBE⟩:=hrel
 have HL:=Lib.hid ho
 clear ho
 have hcc:=HPT.out.2.1
 obtain ⟨x,hx⟩:∃ x,l.getD k 0 = x:=⟨_,rfl⟩
 obtain ⟨y,hy⟩:∃ y,m.getD k 0 = y:=⟨_,rfl⟩
 have hx0:x < 4294967296:=by rw [<- hx]; exact HO.out.getD k
 have hy0:y < 4294967296:=by rw [<- hy]; exact HP.out.getD k
 have STEP:=Lib.hid (HPT.out.step HL.out hx hy hx0 hy0)
 have hcx:=bL HA.out HN.out HBE.out k x hx
 have hcy:=bL HB.out HQ.out HBE.out k y hy
 clear hx hy
 rcases hcx with ⟨h1,b,off,rfl,hb,hc1⟩ | ⟨h1,hx⟩
 ·obtain ⟨g,rfl⟩:∃ g,gk = g + 1:=⟨gk - 1,by omega⟩
  rcases hcy with ⟨h2,b',off',rfl,hb',hc2⟩ | ⟨h2,hy⟩
  ·rcases Nat.lt_or_ge x (cc + y) with hlt | hge
   ·have ST:=Lib.hid (STEP.out.1 hlt)
    have hd1:decide ((x:Int) < (cc:Int) + (y:Int)) = true:=decide_eq_true (by omega)
    go_wp2_with (at_builtin; refine aP rfl _ _ 28 rfl w.heap.size 199 i0 (.int .u32 0) 1 4 Tryz.underlying28 hi hz0 hz1 hz2 rfl (by decide) _ _ _ rfl (HOW.out.alloc _) _ 1 [_] rfl (Sl.one _ _ _) ?c0 ?c1 ?c2 ?c3 ?_)
    case c0=>simp [Value.oneCell']
    case c1=>unfold maxLen; omega
    case c2=>omega
    case c3=>have:=HBE.out.size; simp; omega
    intro v2 w2 hown2 hgrow hnb
    have HW2:=Lib.hid hown2
    have HB3:=Lib.hid (ea.grow HBE.out HOW.out hgrow HBE.out.size)
    clear hown2 hgrow hnb
    go_wp2_with fail
    go_roundg g
    case measure=>omega
    case rel=>exact ⟨k + 1,1,o ++ [x + 4294967296 - (cc + y)],rfl,rfl,by omega,by simp [HL.out],ST,Lib.hid (by rw [List.map_append]; refine uJ HW2.out ?_; omega),HB3⟩
   have ST:=Lib.hid (STEP.out.2 hge)
   have hd1:decide ((x:Int) < (cc:Int) + (y:Int)) = false:=decide_eq_false (by omega)
   go_wp2_with (at_builtin; refine aP rfl _ _ 28 rfl w.heap.size 199 i0 (.int .u32 0) 1 4 Tryz.underlying28 hi hz0 hz1 hz2 rfl (by decide) _ _ _ rfl (HOW.out.alloc _) _ 1 [_] rfl (Sl.one _ _ _) ?c0 ?c1 ?c2 ?c3 ?_)
   case c0=>simp [Value.oneCell']
   case c1=>unfold maxLen; omega
   case c2=>omega
   case c3=>have:=HBE.out.size; simp; omega
   intro v2 w2 hown2 hgrow hnb
   have HW2:=Lib.hid hown2
   have HB3:=Lib.hid (ea.grow HBE.out HOW.out hgrow HBE.out.size)
   clear hown2 hgrow hnb
   go_wp2_with fail
   go_roundg g
   case measure=>omega
   case rel=>exact ⟨k + 1,0,o ++ [x - (cc + y)],rfl,rfl,by omega,by simp [HL.out],ST,Lib.hid (by rw [List.map_append]; refine uJ HW2.out ?_; omega),HB3⟩
  subst hy
  rcases Nat.lt_or_ge x (cc + 0) with hlt | hge
  ·have ST:=Lib.hid (STEP.out.1 hlt)
   have hd1:decide ((x:Int) < (cc:Int)) = true:=decide_eq_true (by omega)
   go_wp2_with (at_builtin; refine aP rfl _ _ 28 rfl w.heap.size 199 i0 (.int .u32 0) 1 4 Tryz.underlying28 hi hz0 hz1 hz2 rfl (by decide) _ _ _ rfl (HOW.out.alloc _) _ 1 [_] rfl (Sl.one _ _ _) ?c0 ?c1 ?c2 ?c3 ?_)
   case c0=>simp [Value.oneCell']
   case c1=>unfold maxLen; omega
   case c2=>omega
   case c3=>have:=HBE.out.size; simp; omega
   intro v2 w2 hown2 hgrow hnb
   have HW2:=Lib.hid hown2
   have HB3:=Lib.hid (ea.grow HBE.out HOW.out hgrow HBE.out.size)
   clear hown2 hgrow hnb
   go_wp2_with fail
   go_roundg g
   case measure=>omega
   case rel=>exact ⟨k + 1,1,o ++ [x + 4294967296 - (cc + 0)],rfl,rfl,by omega,by simp [HL.out],ST,Lib.hid (by rw [List.map_append]; refine uJ HW2.out ?_; omega),HB3⟩
  have ST:=Lib.hid (STEP.out.2 hge)
  have hd1:decide ((x:Int) < (cc:Int)) = false:=decide_eq_false (by omega)
  go_wp2_with (at_builtin; refine aP rfl _ _ 28 rfl w.heap.size 199 i0 (.int .u32 0) 1 4 Tryz.underlying28 hi hz0 hz1 hz2 rfl (by decide) _ _ _ rfl (HOW.out.alloc _) _ 1 [_] rfl (Sl.one _ _ _) ?c0 ?c1 ?c2 ?c3 ?_)
  case c0=>simp [Value.oneCell']
  case c1=>unfold maxLen; omega
  case c2=>omega
  case c3=>have:=HBE.out.size; simp; omega
  intro v2 w2 hown2 hgrow hnb
  have HW2:=Lib.hid hown2
  have HB3:=Lib.hid (ea.grow HBE.out HOW.out hgrow HBE.out.size)
  clear hown2 hgrow hnb
  go_wp2_with fail
  go_roundg g
  case measure=>omega
  case rel=>exact ⟨k + 1,0,o ++ [x - (cc + 0)],rfl,rfl,by omega,by simp [HL.out],ST,Lib.hid (by rw [List.map_append]; refine uJ HW2.out ?_; omega),HB3⟩
 obtain rfl:k = n:=by omega
 have TR:=Lib.hid (Ag HOW.out HPT.out.1 HL.out)
 have HV:=Lib.hid (HPT.out.done (by rw [HN.out,HL.out]) (by rw [HQ.out,HL.out]; exact hlen) HLE.out)
 go_wp2_with fail
 refine (TR.out _ rfl).mono ?_
 rintro e w2 ⟨hw2,v',rfl,hv,hf⟩
 cases hw2
 have T2:=Lib.hid hv
 have T3:=Lib.hid hf
 clear hv hf
 go_wp2_with fail
 go_ret
 exact ⟨v',rfl,HV.out ▸ T2.out,HBE.out,T3.out⟩
theorem uh (c x y d:Nat):(c:Int) + (d:Int) + (x:Int) * (y:Int) = ((c + (x * y + d):Nat):Int):=by
 rw [<- rJ]; omega
theorem Db (c x y d:Nat):((c:Int) + (d:Int) + (x:Int) * (y:Int)) / 4294967296 = (((c + (x * y + d)) / 4294967296:Nat):Int):=by
 rw [uh]; omega
theorem Da (c x y d:Nat):((c:Int) + (d:Int) + (x:Int) * (y:Int)) % 4294967296 = (((c + (x * y + d)) % 4294967296:Nat):Int):=by
 rw [uh]; omega

theorem yK (w:World) (va vb:Value) (a b ka kb:Nat)(ha:ab w va a)(hb:ab w vb b) (la:a < 2 ^ ka) (lb:b < 2 ^ kb)(hka:ka <= 70368744177664)(hkb:kb <= 70368744177664) :
  Calls Tryz.prog 158 #[va,vb] w fun e w'=>∃ v',e = .returned v'/\ab w' v' (a * b)/\Below w.heap.size w w'/\bf v' w.heap.size:=by
 obtain ⟨l,dl,tl,rfl⟩:=ha
 obtain ⟨m,dm,tm,rfl⟩:=hb
 have ll:=tl.length_le la
 have lm:=tm.length_le lb
 clear la lb tl tm
 obtain ⟨okl,A,ca,rfl,hlc,hcm,hA⟩:=dl.open_
 obtain ⟨okm,B,cb,rfl,hmc,hcm',hB⟩:=dm.open_
 clear dl dm
 have HA:=Lib.hid hA
 have HB:=Lib.hid hB
 clear hA hB
 have HO:=Lib.hid okl
 have HP:=Lib.hid okm
 clear okl okm
 obtain ⟨n,hn⟩:∃ n,l.length = n:=⟨_,rfl⟩
 obtain ⟨p,hp⟩:∃ p,m.length = p:=⟨_,rfl⟩
 rw [hn] at hlc ll ⊢
 rw [hp] at hmc lm ⊢
 have start:=gS.start l m
 rw [hn,hp] at start
 have HN:=Lib.hid hn
 have HQ:=Lib.hid hp
 have HST:=Lib.hid start
 clear hn hp start
 obtain ⟨i0,hi,hz0,hz1,hz2⟩:=info_parts dB
 obtain ⟨N,hN1,hN2⟩:∃ N:Nat,n + p <= N/\N <= n + p:=⟨n + p,Nat.le_refl _,Nat.le_refl _⟩
 go_enter Tryz.func158,Tryz.ntmps158
 go_wp2_with (at_make; refine aV rfl _ _ 28 rfl 199 i0 (.int .u32 0) 4 Tryz.underlying28 hi hz0 hz1 hz2 rfl .i64 .i64 _ _ N rfl rfl (by omega) (by omega) (by omega) (by unfold maxLen; omega) ?_)
 intro w1 hblk hbel
 go_wp2_with fail
 go_loopw [6] (fun i wr=>∃ (k:Nat) (o:List Nat),i = .int .i64 k/\k <= n/\gS l m o k/\DB wr w.heap.size o/\Below w.heap.size w wr)
   (fun i _=>n - (intOf i).toNat)
 case atStart=>exact ⟨0,List.replicate (n + p) 0,rfl,by omega,HST.out,DB.of_blk (e:=199) (by rw [show n + p = N by omega]; simpa [dg] using hblk),hbel⟩
 clear hblk hbel
 obtain ⟨k,o,rfl,hk,hr,hdb,hbel⟩:=hrel
 have HR:=Lib.hid hr
 have HDB:=Lib.hid hdb
 by_cases hlt:k < n
 ·obtain ⟨x,hx⟩:∃ x,l.getD k 0 = x:=⟨_,rfl⟩
  have hx0:x < 4294967296:=by rw [<- hx]; exact HO.out.getD k
  have hcx:=bL HA.out HN.out hbel k x hx
  have row:=HR.out.row x
  have ROW:=Lib.hid row
  have HX:=Lib.hid hx
  have HB1:=Lib.hid hbel
  clear hx row hbel hdb hr
  rcases hcx with ⟨h1,b,off,rfl,hb,hc1⟩ | ⟨h1,hx⟩
  ·obtain ⟨wo,rfl⟩:∃ wo:World,wo = wr:=⟨_,rfl⟩
   go_wp2_with fail
   go_loopw [7,8] (fun c j wr=>∃ (q cc:Nat) (o':List Nat),j = .int .i64 q/\c = .int .u64 cc/\q <= p/\pF l m o' k x q cc/\DB wr w.heap.size o'/\Below w.heap.size w wr)
    (fun _ j _=>p - (intOf j).toNat)
   case atStart=>exact ⟨0,0,o,rfl,rfl,by omega,ROW.out,HDB.out,HB1.out⟩
   obtain ⟨q,cc,o',rfl,rfl,hq,hr,hdb,hbel⟩:=hrel
   have hcc:=hr.2.2.1
   have hlen:=hr.2.1
   rw [HN.out,HQ.out] at hlen
   have HLEN:=Lib.hid hlen
   have HR':=Lib.hid hr
   have HDB':=Lib.hid hdb
   clear hr hlen hdb
   by_cases hlt':q < p
   ·obtain ⟨y,hy⟩:∃ y,m.getD q 0 = y:=⟨_,rfl⟩
    have hy0:y < 4294967296:=by rw [<- hy]; exact HP.out.getD q
    obtain ⟨d,hd⟩:∃ d,o'.getD (k + q) 0 = d:=⟨_,rfl⟩
    have hd0:d < 4294967296:=by rw [<- hd]; exact HR'.out.1.getD _
    have hkq:k + q < o'.length:=by rw [HLEN.out]; omega
    have hz:=HDB'.out.cell hkq
    rw [hd] at hz
    have hfz:=HDB'.out.frozen (k + q)
    have step:=HR'.out.step hx0 hd hy hy0 (by rw [HN.out]; omega) (by rw [HQ.out]; omega)
    have STEP:=Lib.hid step
    have hcy:=bL HB.out HQ.out hbel q y hy
    have HB2:=Lib.hid hbel
    have HKQ:=Lib.hid hkq
    have hcx':=bL HA.out HN.out hbel k x HX.out
    have hxy:=ow hx0 hy0
    have hxy1:(x:Int) * (y:Int) <= 18446744065119617025:=by
     rw [<- Int.natCast_mul]; omega
    have hxy2:0 <= (x:Int) * (y:Int):=by
     rw [<- Int.natCast_mul]; omega
    clear hd hy step hbel hkq hxy
    rcases hcy with ⟨h2,b',off',rfl,hb',hc2⟩ | ⟨h2,hy⟩
    ·rcases hcx' with ⟨_,b2,off2,heq,_,hc1'⟩ | ⟨h9,_⟩
     ·cases heq
      go_wp2_with fail
      go_quiet (fail)
      go_wp2_with fail
      exact ⟨⟨q + 1,_,_,rfl,ez (Db _ _ _ _),by omega,STEP.out,(HDB'.out.drewN _).set HKQ.out (Da _ _ _ _),(aJ HB2.out _).setCell (p:=⟨w.heap.size,_,none⟩) (Nat.le_refl _) _⟩,by simp [intOf]; omega⟩
     omega
    omega
   obtain rfl:q = p:=by omega
   have hr2:=HR'.out
   have hx:=HX.out
   rw [<- HQ.out] at hr2
   have dn:=hr2.done hx (by rw [HN.out]; omega)
   rw [HQ.out] at dn
   have hkq:k + q < o'.length:=by rw [HLEN.out]; omega
   have hz:=HDB'.out.cell hkq
   have hfz:=HDB'.out.frozen (k + q)
   have DN:=Lib.hid dn
   have HKQ:=Lib.hid hkq
   have HB2:=Lib.hid hbel
   clear hr2 hx dn hkq hbel
   go_wp2_with fail
   exact ⟨⟨k + 1,_,rfl,by omega,DN.out,HDB'.out.set HKQ.out (by omega),HB2.out.setCell (p:=⟨w.heap.size,_,none⟩) (Nat.le_refl _) _⟩,by simp [intOf]; omega⟩
  omega
 obtain rfl:k = n:=by omega
 have hr2:=HR.out
 rw [<- HN.out] at hr2
 have hv:=hr2.done
 have hlen:=hr2.2.1
 rw [HN.out,HQ.out] at hlen
 have hd:=HDB.out.digAt hr.1 (n:=N) (c:=N) (by omega) (Nat.le_refl _) (by omega)
 have HD:=Lib.hid hd
 have HV:=Lib.hid hv
 have HB2:=Lib.hid hbel
 have HLEN:=Lib.hid hlen
 clear hd hv hbel hdb hr hr2 hlen
 have TR:Hid (∀ W,W = wr->Calls Tryz.prog 55 #[.slice (some ⟨w.heap.size,0,none⟩) N N] W fun e w'=>w' = W/\∃ v',e = .returned v'/\ab W v' (val o)/\bf v' w.heap.size):=Lib.hid (fun W e=>by
  rw [e]
  have hd:=HD.out
  refine (iM wr _ o hd).mono ?_
  rintro e w' ⟨h1,v',h2,h3,h4,_⟩
  subst h1
  exact ⟨rfl,v',h2,h3,h4.from (fun ad n' c' e=>by cases e; exact Nat.le_refl _)⟩)
 go_wp2_with fail
 refine (TR.out _ rfl).mono ?_
 rintro e w2 ⟨hw2,v',rfl,hv,hf⟩
 cases hw2
 have T2:=Lib.hid hv
 have T3:=Lib.hid hf
 clear hv hf
 go_wp2_with fail
 go_ret
 exact ⟨v',rfl,HV.out ▸ T2.out,HB2.out,T3.out⟩
theorem Ea {l:List Nat}:val l % 2 = l.getD 0 0 % 2:=by
 cases l with
 | nil=>rfl
 | cons d l=>simp only [val,List.getD_cons_zero]; omega

theorem aD {a b:Bool} (h:a = b):Ending.returned (.bool a) = .returned (.bool b):=by rw [h]

theorem tJ (w:World) (va:Value) (a:Nat)(ha:ab w va a) :
  Calls Tryz.prog 192 #[va] w fun e w'=>w' = w/\e = .returned (.bool (decide (a % 2 = 0))):=by
 obtain ⟨l,dl,tl,rfl⟩:=ha
 obtain ⟨okl,A,ca,rfl,hlc,hcm,hA⟩:=dl.open_
 obtain ⟨n,hn⟩:∃ n,l.length = n:=⟨_,rfl⟩
 have hcx:=bL hA hn (Below.refl _ w) 0 _ rfl
 have hm:=Ea (l:=l)
 generalize l.getD 0 0 = x at *
 rw [hn] at hlc ⊢
 generalize val l = a at *
 rw [hm]
 clear dl tl okl hA hn hm
 rcases hcx with ⟨h1,b,off,rfl,hb,hc⟩ | ⟨h1,rfl⟩
 ·have hd:((n:Int) == 0) = false:=by simp; omega
  have hc:w.cell? ⟨b,off,none⟩ = some (.int .u32 (x:Int)):=hc
  go_enter Tryz.func192,Tryz.ntmps192
  go_wp2_with fail
  go_ret
  exact ⟨rfl,aD (by rw [Bool.eq_iff_iff]; simp; omega)⟩
 obtain rfl:n = 0:=by omega
 go_enter Tryz.func192,Tryz.ntmps192
 go_wp2_with fail
 go_ret
 exact ⟨rfl,rfl⟩

theorem Hf {l:List Nat} (t:cS l) (ok:Ok l):val l = 1 ↔ l.length = 1/\l.getD 0 0 = 1:=by
 constructor
 ·intro h
  have:=cS.eq_of_val ok (Ok.cons.2 ⟨(by omega:1 < 4294967296),Ok.nil⟩) t (by simp [cS]) (show val l = val [1] by rw [h]; rfl)
  subst this
  exact ⟨rfl,rfl⟩
 rintro ⟨h1,h2⟩
 match l,h1 with
 | [d],_=>simp only [List.getD_cons_zero] at h2; subst h2; rfl

theorem K8 (w:World) (va:Value) (a:Nat)(ha:ab w va a) :
  Calls Tryz.prog 130 #[va] w fun e w'=>w' = w/\e = .returned (.bool (decide (a = 1))):=by
 obtain ⟨l,dl,tl,rfl⟩:=ha
 obtain ⟨okl,A,ca,rfl,hlc,hcm,hA⟩:=dl.open_
 have hv:=Hf tl okl
 obtain ⟨n,hn⟩:∃ n,l.length = n:=⟨_,rfl⟩
 have hcx:=bL hA hn (Below.refl _ w) 0 _ rfl
 generalize l.getD 0 0 = x at *
 rw [hn] at hlc hv ⊢
 generalize val l = a at *
 clear dl tl okl hA hn
 by_cases h1:n = 1
 ·subst h1
  rcases hcx with ⟨h1,b,off,rfl,hb,hc⟩ | ⟨h1,_⟩
  ·have HV:=Lib.hid hv
   have hc:w.cell? ⟨b,off,none⟩ = some (.int .u32 (x:Int)):=hc
   clear hv
   go_enter Tryz.func130,Tryz.ntmps130
   go_wp2_with fail
   go_ret
   exact ⟨rfl,aD (by rw [Bool.eq_iff_iff]; simp [HV.out]; omega)⟩
  omega
 have hd:((n:Int) == 1) = false:=by simp; omega
 have HV:=Lib.hid hv
 clear hv hcx
 go_enter Tryz.func130,Tryz.ntmps130
 go_wp2_with fail
 go_ret
 exact ⟨rfl,aD (by rw [Bool.eq_iff_iff]; simp [HV.out,h1])⟩
end Go.Proofs.YtkdhppimhdemjaaGreat
