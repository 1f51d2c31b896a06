/- Lemmas on the way: Ref11, DivB, Ref12, Ref13. -/
import Derived.Test.YtkdhppimhdemjaaGreatU22
set_option linter.all false
set_option maxRecDepth 1000000
set_option maxHeartbeats 32000000
namespace Go.Proofs.YtkdhppimhdemjaaGreat
open Go.RowKit
theorem pg (w:World) (va vb:Value) (a b:Nat)(ha:ab w va a)(hb:ab w vb b) :
  Calls Tryz.prog 88 #[va,vb] w fun e w'=>Below w.heap.size w w'/\e = .returned (.bool (decide (a = b))):=by
 obtain ⟨l,dl,tl,rfl⟩:=ha
 obtain ⟨m,dm,tm,rfl⟩:=hb
 obtain ⟨okl,A,ca,rfl,hlc,hcm,hA⟩:=dl.open_
 obtain ⟨okm,B,cb,rfl,hmc,hcm',hB⟩:=dm.open_
 have HEQ:Hid (val l = val m ↔ l = m):=Lib.hid ⟨fun h=>cS.eq_of_val okl okm tl tm h,fun h=>by rw [h]⟩
 clear dl dm tl tm okl okm
 have HA:=Lib.hid hA
 have HB:=Lib.hid hB
 clear hA hB
 obtain ⟨n,hn⟩:∃ n,l.length = n:=⟨_,rfl⟩
 obtain ⟨p,hp⟩:∃ p,m.length = p:=⟨_,rfl⟩
 rw [hn] at hlc ⊢
 rw [hp] at hmc ⊢
 have HN:=Lib.hid hn
 have HQ:=Lib.hid hp
 clear hn hp
 by_cases hne:n = p
 ·subst hne
  go_enter Tryz.func88,Tryz.ntmps88
  go_wp2_with fail
  go_loopg [5] n (fun g i wr=>∃ (k:Nat),(∃ d,wr = w.drewN d)/\i = .int .i64 k/\k + g = n/\Hid (l.take k = m.take k))
  case atStart=>exact ⟨0,⟨0,rfl⟩,rfl,by omega,Lib.hid (by simp)⟩
  obtain ⟨k,⟨nd,rfl⟩,rfl,hk,HD⟩:=hrel
  rcases Nat.eq_zero_or_pos gk with h | h
  ·obtain rfl:k = n:=by omega
   have HT:Hid (decide (val l = val m) = true):=Lib.hid (decide_eq_true (HEQ.out.2 (by
    have:=HD.out
    rwa [List.take_of_length_le (by rw [HN.out]; exact Nat.le_refl _),List.take_of_length_le (by rw [HQ.out]; exact Nat.le_refl _)] at this)))
   go_wp2_with fail
   go_ret
   exact ⟨aJ (Below.refl _ _) _,aD HT.out.symm⟩
  obtain ⟨g,rfl⟩:∃ g,gk = g + 1:=⟨gk - 1,by omega⟩
  have hkl:k < l.length:=by rw [HN.out]; omega
  have hkm:k < m.length:=by rw [HQ.out]; omega
  obtain ⟨x,hx⟩:∃ x,l[k]? = some x:=⟨_,List.getElem?_eq_getElem hkl⟩
  obtain ⟨y,hy⟩:∃ y,m[k]? = some y:=⟨_,List.getElem?_eq_getElem hkm⟩
  obtain ⟨b,off,rfl,hc⟩:∃ b off,A = some ⟨b,off,none⟩/\w.cell? ⟨b,off + k,none⟩ = some (.int .u32 (x:Int)):=by
   rcases HA.out with h | ⟨b,off,h,_,hc⟩
   ·subst h; simp at hkl
   exact ⟨b,off,h,hc k x hx⟩
  obtain ⟨b',off',rfl,hc'⟩:∃ b off,B = some ⟨b,off,none⟩/\w.cell? ⟨b,off + k,none⟩ = some (.int .u32 (y:Int)):=by
   rcases HB.out with h | ⟨b,off,h,_,hc⟩
   ·subst h; simp at hkm
   exact ⟨b,off,h,hc k y hy⟩
  have HX:=Lib.hid hx
  have HY:=Lib.hid hy
  clear hx hy hkl hkm
  by_cases hxy:x = y
  ·subst hxy
   have hne:((x:Int) != (x:Int)) = false:=by simp
   go_wp2_with fail
   go_quiet (fail)
   go_wp2_with fail
   go_roundg g
   case measure=>omega
   case rel=>exact ⟨k + 1,⟨_,rfl⟩,rfl,by omega,Lib.hid (by rw [aG l HX.out,aG m HY.out,HD.out])⟩
  have hne:((x:Int) != (y:Int)) = true:=by simp; omega
  have HF:Hid (decide (val l = val m) = false):=Lib.hid (decide_eq_false (fun h=>hxy (by
   have:=HEQ.out.1 h
   have h1:=HX.out
   rw [this,HY.out] at h1
   injection h1 with h1
   exact h1.symm)))
  go_wp2_with fail
  go_quiet (fail)
  go_wp2_with fail
  go_ret
  exact ⟨aJ (aJ (Below.refl _ _) _) _,aD HF.out.symm⟩
 have hne':((n:Int) != (p:Int)) = true:=by simp; omega
 have HF:Hid (decide (val l = val m) = false):=Lib.hid (decide_eq_false (fun h=>hne (by rw [<- HN.out,<- HQ.out,HEQ.out.1 h])))
 go_enter Tryz.func88,Tryz.ntmps88
 go_wp2_with fail
 go_ret
 exact ⟨Below.refl _ _,aD HF.out.symm⟩
theorem xI (l:List Nat)(h:Ok l) (k:Nat):val l / 4294967296 ^ k = val (l.drop k):=by
 rcases Nat.lt_or_ge l.length k with hk | hk
 ·have h1:=eo l h
  have h2:4294967296 ^ l.length <= 4294967296 ^ k:=Nat.pow_le_pow_right (by omega) (by omega)
  rw [List.drop_eq_nil_of_le (by omega),Nat.div_eq_of_lt (by omega)]
  rfl
 have e:=fM l k hk
 have h1:=eo _ (h.take k)
 rw [List.length_take,Nat.min_eq_left hk] at h1
 rw [e,Nat.add_mul_div_left _ _ (Nat.pow_pos (by omega)),Nat.div_eq_of_lt h1]
 omega
theorem rG (l:List Nat) (k:Nat):∃ t,val (l.drop k) = l.getD k 0 + 4294967296 * t:=by
 rcases Nat.lt_or_ge k l.length with hk | hk
 ·refine ⟨val (l.drop (k + 1)),?_⟩
  rw [List.drop_eq_getElem_cons hk,List.getD_eq_getElem?_getD,List.getElem?_eq_getElem hk]
  rfl
 refine ⟨0,?_⟩
 rw [List.drop_eq_nil_of_le hk,List.getD_eq_getElem?_getD,List.getElem?_eq_none_iff.2 hk]
 rfl
theorem EO (k r:Nat):2 ^ (32 * k + r) = 4294967296 ^ k * 2 ^ r:=by rw [Nat.pow_add,Nat.pow_mul]
theorem sL {r:Nat} (hr:r < 32):(4294967296:Nat) = 2 ^ (r + 1) * 2 ^ (31 - r):=by
 rw [<- Nat.pow_add,show r + 1 + (31 - r) = 32 by omega]

theorem Jy {l:List Nat} (h:Ok l) {k r x:Nat} (hx:l.getD k 0 = x)(hr:r < 32):val l / 2 ^ (32 * k + r) % 2 = x / 2 ^ r % 2:=by
 obtain ⟨t,ht⟩:=rG l k
 rw [EO,<- Nat.div_div_eq_div_mul,xI l h,ht,hx]
 have e:4294967296 * t = 2 ^ r * (2 * (2 ^ (31 - r) * t)):=by
  conv=>lhs; rw [sL hr,Nat.pow_succ]
  grind
 rw [e,Nat.add_mul_div_left _ _ (Nat.two_pow_pos r)]
 omega

theorem Ht {o:List Nat} (h:Ok o) {k r q d:Nat} (hr:r < 32)(hk:k < o.length)(hv:val o = q * 2 ^ (32 * k + r + 1))(hd:o.getD k 0 = d) :
  d ||| 2 ^ r = d + 2 ^ r/\d + 2 ^ r < 4294967296/\val (o.set k (d + 2 ^ r)) = val o + 2 ^ (32 * k + r):=by
 have hdl:d < 4294967296:=by rw [<- hd]; exact h.getD k
 obtain ⟨t,ht⟩:=rG o k
 have e0:=xI o h k
 rw [hd] at ht
 rw [hv,ht,show 32 * k + r + 1 = 32 * k + (r + 1) by omega,EO,show q * (4294967296 ^ k * 2 ^ (r + 1)) = 4294967296 ^ k * (q * 2 ^ (r + 1)) by grind,Nat.mul_div_cancel_left _ (Nat.pow_pos (by omega))] at e0
 have hs:=sL hr
 obtain ⟨c,hc⟩:2 ^ (r + 1) ∣ d:=by
  have h1:2 ^ (r + 1) ∣ d + 4294967296 * t:=⟨q,by rw [<- e0]; grind⟩
  have h2:2 ^ (r + 1) ∣ 4294967296 * t:=⟨2 ^ (31 - r) * t,by
   conv=>lhs; rw [hs]
   rw [Nat.mul_assoc]⟩
  exact (Nat.dvd_add_iff_left h2).2 h1
 have hp:2 ^ r < 2 ^ (r + 1):=Nat.pow_lt_pow_right (by omega) (by omega)
 have hc2:c < 2 ^ (31 - r):=by
  rcases Nat.lt_or_ge c (2 ^ (31 - r)) with h | h
  ·exact h
  have:=Nat.mul_le_mul_left (2 ^ (r + 1)) h
  omega
 refine ⟨?_,?_,?_⟩
 ·rw [hc,Nat.or_comm,qT hp,Nat.add_comm]
 ·have:=Nat.mul_le_mul_left (2 ^ (r + 1)) (show c + 1 <= 2 ^ (31 - r) from hc2)
  rw [Nat.mul_add,Nat.mul_one,<- hs] at this
  omega
 have hdk:o[k]? = some d:=by rw [<- hd,List.getD_eq_getElem?_getD,List.getElem?_eq_getElem hk]; rfl
 have e:=Ab (d + 2 ^ r) hdk
 rw [EO]
 grind

def jg (A b R:Nat) (o:List Nat) (n j:Nat):Prop:=Ok o/\o.length = n/\val o = A / 2 ^ j / b * 2 ^ j/\R = A / 2 ^ j % b
theorem jg.start {A b n j:Nat} (hA:A < 2 ^ j):jg A b 0 (List.replicate n 0) n j :=
 ⟨Ok.replicate _,by simp,by rw [eB,Nat.div_eq_of_lt hA]; simp,by rw [Nat.div_eq_of_lt hA]; simp⟩
theorem jg.done {A b R n:Nat} {o:List Nat} (h:jg A b R o n 0):val o = A / b/\R = A % b:=by
 obtain ⟨_,_,h3,h4⟩:=h
 simpa using And.intro h3 h4
theorem Be (A i:Nat):A / 2 ^ i = 2 * (A / 2 ^ (i + 1)) + A / 2 ^ i % 2:=by
 have:A / 2 ^ (i + 1) = A / 2 ^ i / 2:=by rw [Nat.pow_succ,Nat.div_div_eq_div_mul]
 omega
theorem jg.skip {A b R n i c:Nat} {o:List Nat} (h:jg A b R o n (i + 1))(hc:A / 2 ^ i % 2 = c)(hlt:R + R + c < b):jg A b (R + R + c) o n i:=by
 obtain ⟨h1,h2,h3,h4⟩:=h
 have e:=Be A i
 rw [hc] at e
 have e2:=Nat.div_add_mod (A / 2 ^ (i + 1)) b
 generalize A / 2 ^ (i + 1) = X at *
 have e3:A / 2 ^ i = b * (2 * (X / b)) + (R + R + c):=by rw [e,h4]; grind
 refine ⟨h1,h2,?_,?_⟩
 ·rw [e3,Nat.mul_add_div (by omega),Nat.div_eq_of_lt hlt,h3,Nat.pow_succ]
  grind
 rw [e3,Nat.mul_add_mod,Nat.mod_eq_of_lt hlt]
theorem jg.step {A b R n k r c d:Nat} {o:List Nat} (h:jg A b R o n (32 * k + r + 1))(hr:r < 32)(hk:k < n)(hb:0 < b)(hc:A / 2 ^ (32 * k + r) % 2 = c)(hge:b <= R + R + c)(hd:o.getD k 0 = d) :
  d ||| 2 ^ r = d + 2 ^ r/\jg A b (R + R + c - b) (o.set k (d + 2 ^ r)) n (32 * k + r):=by
 obtain ⟨h1,h2,h3,h4⟩:=h
 obtain ⟨s1,s2,s3⟩:=Ht h1 hr (by omega) h3 hd
 refine ⟨s1,h1.set _ _ s2,by simpa using h2,?_,?_⟩
 all_goals
  have e:=Be A (32 * k + r)
  rw [hc] at e
  have e2:=Nat.div_add_mod (A / 2 ^ (32 * k + r + 1)) b
  have hR:R < b:=by rw [h4]; exact Nat.mod_lt _ hb
  have hlt:R + R + c - b < b:=by omega
  generalize A / 2 ^ (32 * k + r + 1) = X at *
  have e3:A / 2 ^ (32 * k + r) = b * (2 * (X / b) + 1) + (R + R + c - b):=by
   rw [e]
   obtain ⟨T,hT⟩:∃ T,R + R + c = b + T:=⟨R + R + c - b,by omega⟩
   rw [hT,Nat.add_sub_cancel_left]
   grind
 ·rw [s3,h3,e3,Nat.mul_add_div (by omega),Nat.div_eq_of_lt hlt,Nat.pow_succ]
  grind
 rw [e3,Nat.mul_add_mod,Nat.mod_eq_of_lt hlt]
theorem ab.digit1 (w:World) (e:TypeId) (d:Nat)(h0:d ≠ 0)(hd:d < 4294967296):ab (w.alloc (.cells #[.int .u32 (d:Int)] e)) (.slice (some ⟨w.heap.size,0,none⟩) 1 1) d :=
 ⟨[d],⟨Sl.one _ _ _,Ok.cons.2 ⟨hd,Ok.nil⟩⟩,by simpa [cS] using h0,by simp [val]⟩

theorem Jz (r:Nat) {x:Nat} (hx:x < 4294967296):bits .and .u32 ((x:Int) / 2 ^ r) 1 = ((x / 2 ^ r % 2:Nat):Int):=by
 have h1:(x:Int) / 2 ^ r = ((x / 2 ^ r:Nat):Int):=by rw [Int.natCast_ediv,Int.natCast_pow]; rfl
 rw [h1]
 exact xu (Nat.lt_of_le_of_lt (Nat.div_le_self _ _) hx)
theorem K2 {r y:Nat} (hr:r < 32)(h:y ||| 2 ^ r = y + 2 ^ r)(hy:y < 4294967296):bits .or .u32 (y:Int) (2 ^ r % 4294967296) = ((y + 2 ^ r:Nat):Int):=by
 have h2:2 ^ r < 4294967296:=Nat.lt_of_lt_of_le (Nat.pow_lt_pow_right (by omega) hr) (by decide)
 have h1:(2:Int) ^ r % 4294967296 = ((2 ^ r:Nat):Int):=by
  rw [show (2:Int) ^ r = ((2 ^ r:Nat):Int) by rw [Int.natCast_pow]; rfl]
  generalize 2 ^ r = z at *
  omega
 rw [h1,u32_or_nat y _ hy h2,h]
theorem vi {l:List Nat} (h:Ok l) {bl:Nat} (hb:dw (val l) = bl):bl <= 32 * l.length:=by
 rw [<- hb]
 exact rN (by rw [Nat.pow_mul]; exact eo l h)

theorem Bo (w:World) (va vb:Value) (a b k:Nat)(ha:ab w va a)(hb:ab w vb b) (la:a < 2 ^ k) (lb:b < 2 ^ k)(hk:k <= 17592186044416)(hb0:0 < b) :
  Calls Tryz.prog 132 #[va,vb] w fun e w'=>∃ vq vr,e = .returned (.tuple #[vq,vr])/\ab w' vq (a / b)/\ab w' vr (a % b)/\Below w.heap.size w w'/\bf vq w.heap.size/\bf vr w.heap.size:=by
 have TA:Hid (∀ W,W = w->Calls Tryz.prog 55 #[va] W fun e w'=>w' = W/\e = .returned va):=Lib.hid (fun W e=>by rw [e]; exact vQ w va a ha)
 have TB:Hid (∀ W,W = w->Calls Tryz.prog 55 #[vb] W fun e w'=>w' = W/\e = .returned vb):=Lib.hid (fun W e=>by rw [e]; exact vQ w vb b hb)
 have NA:=Lib.hid ha
 have NB:=Lib.hid hb
 have LA:=Lib.hid la
 have LB:=Lib.hid lb
 obtain ⟨l,dl,tl,rfl⟩:=ha
 obtain ⟨m,dm,tm,rfl⟩:=hb
 have ll:=tl.length_le la
 clear la lb
 obtain ⟨okl,A,ca,rfl,hlc,hcm,hA⟩:=dl.open_
 obtain ⟨okm,B,cb,rfl,hmc,hcm',hB⟩:=dm.open_
 clear dl dm
 have HA:=Lib.hid hA
 have HB:=Lib.hid hB
 have HO:=Lib.hid okl
 have HP:=Lib.hid okm
 have HT:=Lib.hid tl
 have HU:=Lib.hid tm
 clear hA hB okl okm tl tm
 obtain ⟨n,hn⟩:∃ n,l.length = n:=⟨_,rfl⟩
 obtain ⟨p,hp⟩:∃ p,m.length = p:=⟨_,rfl⟩
 rw [hn] at hlc ll TA NA ⊢
 rw [hp] at hmc TB NB ⊢
 have HN:=Lib.hid hn
 have HQ:=Lib.hid hp
 clear hn hp
 have HB0:=Lib.hid hb0
 clear hb0
 obtain ⟨i0,hi,hz0,hz1,hz2⟩:=info_parts dB
 by_cases hp1:p = 1
 ·subst hp1
  obtain ⟨d,rfl⟩:∃ d,m = [d]:=List.length_eq_one_iff.1 HQ.out
  have hd1:d < 4294967296:=HP.out.get (k:=0) rfl
  have hd0:0 < d:=by have:=HB0.out; simpa [val] using this
  have HM:Hid (val [d] = d):=Lib.hid (by simp [val])
  obtain ⟨bB,offB,rfl,hbB,hcB0⟩:∃ b off,B = some ⟨b,off,none⟩/\b < w.heap.size/\w.cell? ⟨b,off,none⟩ = some (.int .u32 (d:Int)):=by
   rcases HB.out with h | ⟨b,off,h,h1,h2⟩
   ·cases h
   exact ⟨b,off,h,h1,h2 0 d rfl⟩
  go_enter Tryz.func132,Tryz.ntmps132
  go_wp2_with fail
  refine (TA.out _ rfl).mono ?_
  rintro e w1 ⟨hw1,rfl⟩
  cases hw1
  go_wp2_with fail
  refine (TB.out _ rfl).mono ?_
  rintro e w1 ⟨hw1,rfl⟩
  cases hw1
  go_wp2_with (at_make; refine aV rfl _ _ 28 rfl 199 i0 (.int .u32 0) 4 Tryz.underlying28 hi hz0 hz1 hz2 rfl .i64 .i64 _ _ n rfl rfl (by omega) (by omega) (by omega) (by unfold maxLen; omega) ?_)
  intro w1 hblk hbel
  go_wp2_with fail
  go_loopw [7,8] (fun r i wr=>∃ (q:Int) (k rr:Nat) (o:List Nat),i = .int .i64 q/\r = .int .u64 rr/\q + 1 = k/\k <= n/\gU l o d k rr/\DB wr w.heap.size o/\Below w.heap.size w wr)
   (fun _ i _=>(intOf i + 1).toNat)
  case atStart=>exact ⟨_,n,0,List.replicate l.length 0,rfl,rfl,by omega,by omega,HN.out ▸ gU.start l hd0,DB.of_blk (e:=199) (by rw [HN.out]; simpa [dg] using hblk),hbel⟩
  obtain ⟨q,k',rr,o,rfl,rfl,hq,hk',hs,hdb,hbel⟩:=hrel
  have ho:=hs.2.1
  rw [HN.out] at ho
  have HL:=Lib.hid ho
  have HS:=Lib.hid hs
  have HDB:=Lib.hid hdb
  have hrr:=hs.2.2.1
  clear ho hblk hs
  rcases Nat.eq_zero_or_pos k' with h0 | h0
  ·subst h0
   obtain rfl:q = -1:=by omega
   clear hq
   have DN:=Lib.hid HS.out.done
   have HD:=Lib.hid (HDB.out.digAt HS.out.1 (n:=n) (c:=n) (by rw [HL.out]) (Nat.le_refl _) (by omega))
   have HB2:=Lib.hid hbel
   clear hbel hdb
   have hrr':(rr:Int) % 4294967296 = rr:=by omega
   go_wp2_with fail
   refine (iM wr _ o HD.out).mono ?_
   rintro e w2 ⟨hw2,vq,rfl,t1,t2,_⟩
   cases hw2
   have T1:=Lib.hid t1
   have F1:=Lib.hid (t2.from (B:=w.heap.size) (fun ad n' c' e=>by cases e; exact Nat.le_refl _))
   clear t1 t2
   go_wp2_with fail
   refine (iM _ _ [rr] ⟨Sl.one _ _ _,Ok.cons.2 ⟨by omega,Ok.nil⟩⟩).mono ?_
   rintro e w2 ⟨hw2,vr,rfl,t1,t2,_⟩
   cases hw2
   have T2:=Lib.hid t1
   have F2:=Lib.hid (t2.from (B:=wr.heap.size) (fun ad n' c' e=>by cases e; exact Nat.le_refl _))
   clear t1 t2
   go_wp2_with fail
   go_ret2
   have hz:=HB2.out.size
   exact ⟨vq,vr,rfl,by rw [HM.out,<- DN.out.1]; exact T1.out.alloc _,by rw [HM.out,<- DN.out.2]; have:=T2.out; simpa [val] using this,HB2.out.alloc hz _,F1.out,F2.out.mono hz⟩
  obtain ⟨k,rfl⟩:∃ k,k' = k + 1:=⟨k' - 1,by omega⟩
  obtain rfl:q = k:=by omega
  clear hq h0
  have hkl:k < l.length:=by rw [HN.out]; omega
  obtain ⟨x,hx⟩:∃ x,l[k]? = some x:=⟨_,List.getElem?_eq_getElem hkl⟩
  have hx0:=HO.out.get hx
  have hxd:l.getD k 0 = x:=by rw [List.getD_eq_getElem?_getD,hx]; rfl
  have hk0:k < o.length:=by rw [HL.out]; omega
  have hz:=hdb.cell hk0
  have hfz:=hdb.frozen k
  have hcx:=bL HA.out HN.out hbel k x hxd
  have STEP:=Lib.hid (HS.out.step hd1 hx hx0)
  have HB2:=Lib.hid hbel
  have HK0:=Lib.hid hk0
  have hcB:=(hbel.cell (p:=⟨bB,offB,none⟩) hbB).trans hcB0
  have hcB':=(HB2.out.setCell (p:=⟨w.heap.size,k,none⟩) (Nat.le_refl _) (.int .u32 (((rr:Int) * 4294967296 + (x:Int)) / (d:Int) % 4294967296))).cell (p:=⟨bB,offB,none⟩) hbB
  rw [hcB0] at hcB'
  clear hx hxd hbel hdb hk0 hkl
  rcases hcx with ⟨h1,b,off,rfl,hb,hc1⟩ | ⟨h1,hx⟩
  ·have hor:=K4 rr x (by omega) hx0
   go_wp2_with fail
   exact ⟨⟨_,k,_,_,rfl,ez (uf _ _ _),by omega,by omega,STEP.out.1,HDB.out.set HK0.out (ug _ _ _ STEP.out.2),HB2.out.setCell (p:=⟨w.heap.size,k,none⟩) (Nat.le_refl _) _⟩,by simp [intOf]⟩
  omega
 have hp1':((p:Int) == 1) = false:=by simp; omega
 go_enter Tryz.func132,Tryz.ntmps132
 go_wp2_with fail
 refine (TA.out _ rfl).mono ?_
 rintro e w1 ⟨hw1,rfl⟩
 cases hw1
 go_wp2_with fail
 refine (TB.out _ rfl).mono ?_
 rintro e w1 ⟨hw1,rfl⟩
 cases hw1
 go_wp2_with (at_make; refine aV rfl _ _ 28 rfl 199 i0 (.int .u32 0) 4 Tryz.underlying28 hi hz0 hz1 hz2 rfl .i64 .i64 _ _ n rfl rfl (by omega) (by omega) (by omega) (by unfold maxLen; omega) ?_)
 intro w1 hblk hbel
 go_wp2_with fail
 refine (NG w1 _ _ k (NA.out.below hbel) LA.out (by omega)).mono ?_
 rintro e w2 ⟨hw2,rfl⟩
 cases hw2
 have hbl:=rN LA.out
 have BL:=Lib.hid (E6 (val l))
 have HBL0:Hid (dw (val l) = dw (val l)):=Lib.hid rfl
 generalize hbl0:dw (val l) = bl at *
 have HBL:=Lib.hid hbl0
 clear hbl0 HBL0
 go_wp2_with fail
 go_loopg [9,10] bl (fun g rv i wr=>∃ (q:Int) (R:Nat) (o:List Nat),i = .int .i64 q/\q + 1 = g/\g <= bl/\Hid (ab wr rv R/\bf rv (w.heap.size + 1))/\Hid (jg (val l) (val m) R o n g)/\Hid (DB wr w.heap.size o)/\Hid (Below w.heap.size w wr))
 case atStart=>exact ⟨_,0,List.replicate n 0,rfl,by omega,Nat.le_refl _,Lib.hid ⟨ab.nil_ _,bf.nil_ _⟩,Lib.hid (jg.start BL.out),Lib.hid (DB.of_blk (e:=199) (by simpa [dg] using hblk)),Lib.hid hbel⟩
 clear hblk hbel
 obtain ⟨q,R,o,rfl,hq,hg,HR,HBT,HDB,HBE⟩:=hrel
 rcases Nat.eq_zero_or_pos gk with h | h
 ·subst h
  obtain rfl:q = -1:=by omega
  have DN:=Lib.hid HBT.out.done
  have HD:=Lib.hid (HDB.out.digAt HBT.out.1 (n:=n) (c:=n) HBT.out.2.1 (Nat.le_refl _) (by omega))
  go_wp2_with fail
  refine (iM wr _ o HD.out).mono ?_
  rintro e w2 ⟨hw2,vq,rfl,t1,t2,_⟩
  cases hw2
  have T1:=Lib.hid t1
  have F1:=Lib.hid (t2.from (B:=w.heap.size) (fun ad n' c' e=>by cases e; exact Nat.le_refl _))
  clear t1 t2
  go_wp2_with fail
  go_ret2
  exact ⟨vq,_,rfl,by rw [<- DN.out.1]; exact T1.out,by rw [<- DN.out.2]; exact HR.out.1,HBE.out,F1.out,HR.out.2.mono (by omega)⟩
 obtain ⟨j,rfl⟩:∃ j,gk = j + 1:=⟨gk - 1,by omega⟩
 obtain rfl:q = j:=by omega
 clear hq h
 obtain ⟨kk,r,hj,hr⟩:∃ kk r,j = 32 * kk + r/\r < 32:=⟨j / 32,j % 32,by omega,by omega⟩
 have hdv:(j:Int) / 32 = (kk:Int):=by omega
 have hmd:(j:Int) % 32 = (r:Int):=by omega
 have HJ:=Lib.hid hj
 clear hj
 have hs1:=HBE.out.size
 have hs0:w.heap.size < wr.heap.size:=HDB.out.lt
 have hRb:R < val m:=by rw [HBT.out.2.2.2]; exact Nat.mod_lt _ HB0.out
 have HRB:=Lib.hid hRb
 have HRL:Hid (R < 2 ^ k):=Lib.hid (Nat.lt_trans hRb LB.out)
 clear hRb
 obtain ⟨c,hc⟩:∃ c,val l / 2 ^ (32 * kk + r) % 2 = c:=⟨_,rfl⟩
 have hc2:c < 2:=by omega
 obtain ⟨x,hx⟩:∃ x,l.getD kk 0 = x:=⟨_,rfl⟩
 have hx0:x < 4294967296:=by rw [<- hx]; exact HO.out.getD kk
 have HBV:Hid (x / 2 ^ r % 2 = c):=Lib.hid (by rw [<- Jy HO.out hx hr,hc])
 have hkn:kk < n:=by
  have h1:=vi (l:=l) HO.out (bl:=bl) HBL.out
  rw [HN.out] at h1
  have:=HJ.out
  omega
 have HC:=Lib.hid hc
 clear hc
 go_wp2_with fail
 refine (wC wr _ _ R R k HR.out.1 HR.out.1 HRL.out HRL.out (by omega)).mono ?_
 rintro e w2 ⟨v2,rfl,t1,t2,t3⟩
 have T2:=Lib.hid t1
 have B2:=Lib.hid (HBE.out.trans (t2.mono hs1))
 have F2:=Lib.hid (t3.mono (show w.heap.size + 1 <= wr.heap.size from hs0))
 have D2:=Lib.hid (HDB.out.below t2)
 have hs2:w.heap.size + 1 <= w2.heap.size:=Nat.le_trans (show w.heap.size + 1 <= wr.heap.size from hs0) t2.size
 clear t1 t2 t3
 have hcx:=bL HA.out HN.out B2.out kk x hx
 clear hx
 rcases hcx with ⟨_,ba,offa,rfl,hba,hca⟩ | ⟨h1,_⟩
 case inr=>omega
 have hbit:bits .and .u32 ((x:Int) / 2 ^ r) 1 = (c:Int):=by rw [Jz r hx0,HBV.out]
 rcases (show c = 0 ∨ c = 1 by omega) with hc0 | hc0
 all_goals
  have HC0:=Lib.hid hc0
  clear hc0
 case' inr =>
  have hb1:(bits .and .u32 ((x:Int) / 2 ^ r) 1 == 1) = true:=by rw [hbit,HC0.out]; rfl
  clear hbit
  go_wp2_with fail
  refine (wC _ _ _ (R + R) 1 (k + 1) (T2.out.alloc _) (ab.digit1 _ _ 1 (by omega) (by omega)) (by have:=HRL.out; rw [Nat.pow_succ]; omega) (Nat.one_lt_two_pow (by omega)) (by omega)).mono ?_
  rintro e w3 ⟨v3,rfl,t1,t2,t3⟩
  rw [World.size_alloc] at t2 t3
  have T3:Hid (ab w3 v3 (R + R + c)):=Lib.hid (by rw [HC0.out]; exact t1)
  have B3:=Lib.hid ((B2.out.alloc (by omega) _).trans (t2.mono (by omega)))
  have F3:=Lib.hid (t3.mono (show w.heap.size + 1 <= w2.heap.size + 1 by omega))
  have D3:=Lib.hid ((D2.out.alloc _).below (by rw [World.size_alloc]; exact t2))
  have hs3:w.heap.size + 1 <= w3.heap.size:=by have:=t2.size; rw [World.size_alloc] at this; omega
  clear t1 t2 t3 T2 B2 F2 D2 hs2
 case' inl =>
  have hb1:(bits .and .u32 ((x:Int) / 2 ^ r) 1 == 1) = false:=by rw [hbit,HC0.out]; rfl
  clear hbit
  have T3:Hid (ab w2 v2 (R + R + c)):=Lib.hid (by rw [HC0.out]; exact T2.out)
  have B3:=B2
  have F3:=F2
  have D3:=D2
  have hs3:=hs2
  clear T2 B2 F2 D2 hs2
  obtain ⟨w3,rfl⟩:∃ w3,w3 = w2:=⟨_,rfl⟩
  obtain ⟨v3,rfl⟩:∃ v3,v3 = v2:=⟨_,rfl⟩
 all_goals
  have OC:=qS w3 v3 _ _ _ T3.out (NB.out.below B3.out)
  rcases Nat.lt_or_ge (R + R + c) (val m) with hlt | hge
  ·rw [fP hlt] at OC
   have HLT:=Lib.hid hlt
   clear hlt
   go_wp2_with fail
   refine OC.mono ?_
   rintro e w4 ⟨rfl,nd,rfl⟩
   go_wp2_with fail
   go_roundg j
   case measure=>omega
   case rel=>exact ⟨(j:Int) - 1,_,o,rfl,by omega,by omega,Lib.hid ⟨T3.out.drewN nd,F3.out⟩,Lib.hid (HBT.out.skip (by rw [HJ.out]; exact HC.out) HLT.out),Lib.hid (D3.out.drewN nd),Lib.hid (aJ B3.out nd)⟩
  obtain ⟨z,hz,hz0⟩:∃ z,fK (R + R + c) (val m) = z/\decide (0 <= z) = true:=⟨_,rfl,decide_eq_true (by unfold fK; rw [if_neg (by omega)]; split <;> omega)⟩
  rw [hz] at OC
  have HGE:=Lib.hid hge
  clear hge hz
  go_wp2_with fail
  refine OC.mono ?_
  rintro e w4 ⟨rfl,nd,rfl⟩
  go_wp2_with fail
  refine (me _ _ _ _ _ (k + 1) (T3.out.drewN nd) ((NB.out.below B3.out).drewN nd) (by have:=HRL.out; rw [Nat.pow_succ]; omega) HGE.out (by omega)).mono ?_
  rintro e w4 ⟨v4,rfl,t1,t2',t3⟩
  have t2:=aN t2'
  have T4:=Lib.hid t1
  have B4:=Lib.hid (B3.out.trans (t2.mono (by omega)))
  have F4:=Lib.hid (t3.mono (show w.heap.size + 1 <= w3.heap.size from hs3))
  have D4:=Lib.hid (D3.out.below t2)
  clear t1 t2 t2' t3 T3 B3 F3 D3 hs3
  have HBT':Hid (jg (val l) (val m) R o n (32 * kk + r + 1)):=Lib.hid (by rw [<- HJ.out]; exact HBT.out)
  obtain ⟨y,hy⟩:∃ y,o.getD kk 0 = y:=⟨_,rfl⟩
  have HY0:Hid (y < 4294967296):=Lib.hid (by rw [<- hy]; exact HBT.out.1.getD kk)
  have STEP:=Lib.hid (HBT'.out.step hr hkn HB0.out HC.out HGE.out hy)
  have hol:kk < o.length:=by rw [HBT.out.2.1]; exact hkn
  have hoc:=D4.out.cell hol
  have hof:=D4.out.frozen kk
  rw [hy] at hoc
  have HOL:=Lib.hid hol
  clear hy hol
  go_wp2_with fail
  go_region
  go_wp2_with fail
  go_roundg j
  case measure=>omega
  case rel=>exact ⟨(j:Int) - 1,_,o.set kk (y + 2 ^ r),rfl,by omega,by omega,Lib.hid ⟨(T4.out.setFar F4.out (show w.heap.size < w.heap.size + 1 by omega) _).drew,F4.out⟩,Lib.hid (by rw [HJ.out]; exact STEP.out.2),Lib.hid ((D4.out.set HOL.out (K2 hr STEP.out.1 HY0.out)).drewN 1),Lib.hid ((B4.out.setCell (p:=⟨w.heap.size,kk,none⟩) (Nat.le_refl _) _).drew)⟩
theorem jQ {w:World} {ops:Array Oper} {rest:List Oper} {o:Oper} {a:Act} {Q:Exit->Act->World->Prop} (hgd:o.guard = none) (s x:Operand)
  (ho:o.op = .call { callee:=.builtin .append,args:=#[s,x],argTypes:=#[28,28] })(hs:a.eval s = .slice none 0 0) (y:Value)(hx:a.eval x = y) (n k:Nat)(hn:ab w y n) (ln:n < 2 ^ k)(hk:k <= 70368744177664)
  (h:∀ A m c w',ab w' (.slice A m c) n->bf (.slice A m c) w.heap.size->Below w.heap.size w w'->wpList Tryz.prog ops Q rest (a.put o.dst (.slice A m c)) w'):wpList Tryz.prog ops Q (o :: rest) a w:=by
 obtain ⟨i0,hi,hz0,hz1,hz2⟩:=info_parts dB
 obtain ⟨l,d,t,rfl⟩:=hn
 have ll:=t.length_le ln
 refine aP hgd s x 28 ho w.heap.size 199 i0 (.int .u32 0) 1 4 Tryz.underlying28 hi hz0 hz1 hz2 rfl (by decide) _ 0 [] hs (World.ownsRow_nil ..) y l.length (l.map dg) hx d.1 (mD l) (by unfold maxLen; omega) (by omega) (Nat.le_refl _) ?_
 intro v' w' hown hgr _
 have hf:=bf.of_own hown
 have hN:ab w' v' (val l):=⟨l,⟨by have:=Sl.of_own hown; simpa using this,d.2⟩,t,rfl⟩
 obtain ⟨A,m,c,rfl,_⟩:=hN.len
 exact h A m c w' hN hf ((Below.refl _ w).grown hgr (Nat.le_refl _) (by simp [Value.ownBlock]))

theorem K5 {w:World} {v:Value} (h:ab w v 1):Calls Tryz.prog 130 #[v] w fun e w'=>w' = w/\e = .returned (.bool true):=K8 w v 1 h
theorem La {w:World} {v:Value} {a:Nat} (h:ab w v a)(h1:a ≠ 1):Calls Tryz.prog 130 #[v] w fun e w'=>w' = w/\e = .returned (.bool false):=by
 have:=K8 w v a h
 rwa [decide_eq_false h1] at this

theorem ay.of_parts {B:Nat} {w:World} {neg:Bool} {vn vd:Value} {n d:Nat} (n0:0 < n) (d0:0 < d)(h1:ab w vn (n / Nat.gcd n d))(h2:ab w vd (if d / Nat.gcd n d = 1 then 0 else d / Nat.gcd n d))(h3:bf vn B)(h4:bf vd B) :
  ay B w (.agg #[.bool neg,vn,vd]) (mkRat (dV neg n) d):=by
 obtain ⟨r1,r2⟩:=red neg n d d0
 have hg:0 < n / Nat.gcd n d:=Nat.div_pos (Nat.gcd_le_left _ n0) (Nat.gcd_pos_of_pos_left _ n0)
 refine ⟨vn,vd,?_,?_,?_,h3,h4⟩
 ·rw [oC r1,decide_eq_true hg,Bool.and_true]
 ·rw [r1,jn]; exact h1
 rw [r2]; exact h2

theorem ay.zero (B:Nat) (w:World) (neg:Bool) (d:Nat):ay B w (.agg #[.bool false,.slice none 0 0,.slice none 0 0]) (mkRat (dV neg 0) d):=by
 have e:mkRat (dV neg 0) d = 0:=by cases neg <;> simp [dV]
 rw [e]
 exact ⟨_,_,by simp [ap],ab.nil_ _,by simpa using ab.nil_ _,bf.nil_ _,bf.nil_ _⟩

theorem uU (w:World) (neg:Bool) (vn vd:Value) (ln ld:List Nat) (k:Nat)(hn:bW w vn ln)(hd:bW w vd ld) (qn:val ln < 2 ^ k) (qd:val ld < 2 ^ k)(h0:0 < k)(hk:k <= 17592186044416) :
  Calls Tryz.prog 63 #[.bool neg,vn,vd] w fun e w'=>∃ v',e = .returned v'/\ay w.heap.size w' v' (bX neg (val ln) (val ld))/\Below w.heap.size w w':=by
 have H1:=Lib.hid hn
 have H2:=Lib.hid hd
 clear hn hd
 obtain ⟨n,hN⟩:∃ n,val ln = n:=⟨_,rfl⟩
 obtain ⟨d0,hD0⟩:∃ d,val ld = d:=⟨_,rfl⟩
 rw [hN,hD0]
 rw [hN] at qn
 rw [hD0] at qd
 have HN:=Lib.hid hN
 have HD0:=Lib.hid hD0
 clear hN hD0
 unfold bX
 obtain ⟨d,hD⟩:∃ d,(if d0 = 0 then 1 else d0) = d:=⟨_,rfl⟩
 rw [hD]
 have QN:=Lib.hid qn
 have QD:Hid (d < 2 ^ k):=Lib.hid (by rw [<- hD]; split; exact Nat.one_lt_two_pow (by omega); exact qd)
 have hd0:0 < d:=by rw [<- hD]; split <;> omega
 have HD:=Lib.hid hD
 clear qn qd hD
 go_enter Tryz.func63,Tryz.ntmps63
 go_wp2_with fail
 obtain ⟨W,hW,P0,PB,Phs⟩:=eU w 30 [.bool false,.slice none 0 0,.slice none 0 0]
 rw [<- hW]
 clear hW
 refine (iM W vn ln (H1.out.below PB.out)).mono ?_
 rintro e w1 ⟨hw1,v1,rfl,t1,_,_⟩
 cases hw1
 have T1:Hid (ab W v1 n):=Lib.hid (HN.out ▸ t1)
 clear t1
 go_wp2_with fail
 refine (iM W vd ld (H2.out.below PB.out)).mono ?_
 rintro e w1 ⟨hw1,v2,rfl,t1,_,_⟩
 cases hw1
 have T2:Hid (ab W v2 d0):=Lib.hid (HD0.out ▸ t1)
 clear t1
 obtain ⟨A1,m1,c1,rfl,hm1,hp1⟩:=T1.out.len
 obtain ⟨A2,m2,c2,rfl,hm2,hp2⟩:=T2.out.len
 obtain ⟨r0,r1,r2,z0,z1,z2⟩:=P0.out.three
 rcases Nat.eq_zero_or_pos n with hz | hn0
 ·subst hz
  obtain rfl:m1 = 0:=by omega
  go_wp2_with fail
  refine bodyPost_ret (v:=.agg #[.bool false,.slice none 0 0,.slice none 0 0]) (by simp [results,Tryz.results63,go_sem,r0,r1,r2]) rfl ⟨_,rfl,ay.zero _ _ _ _,ar PB.out (Nat.le_refl _) _ _ _⟩
 have hm0:((m1:Int) == 0) = false:=by simp; omega
 clear r0 r1 r2 z0 z1 z2
 go_upto_if 19 with fail
 go_cut [2] (fun dv wc=>∃ v2,v2 = dv/\Hid (ab wc v2 d)/\Hid (ab wc (.slice A1 m1 c1) n)/\Hid (Below w.heap.size w wc)/\Hid (bw wc w.heap.size 30 [.bool false,.slice none 0 0,.slice none 0 0]))
 case first =>
  rcases Nat.eq_zero_or_pos d0 with hz | hz
  ·obtain rfl:m2 = 0:=by omega
   have HD1:Hid (d = 1):=Lib.hid (by rw [<- HD.out,if_pos hz])
   go_wp2_with fail
   go_meet
   exact ⟨_,rfl,Lib.hid (by rw [HD1.out]; exact ab.digit1 W 199 1 (by omega) (by omega)),Lib.hid (T1.out.alloc _),Lib.hid (PB.out.alloc (by omega) _),Lib.hid (P0.out.alloc _)⟩
  have hm3:((m2:Int) == 0) = false:=by simp; omega
  have TT2:Hid (ab W (.slice A2 m2 c2) d):=Lib.hid (by rw [<- HD.out,if_neg (by omega)]; exact T2.out)
  go_wp2_with fail
  go_meet
  exact ⟨_,rfl,TT2,T1,PB,P0⟩
 obtain ⟨v2,rfl,TT2,TT1,BB,R0⟩:=hcut
 clear T1 T2 PB P0 Phs
 obtain ⟨W1,rfl⟩:∃ W1,W1 = wc:=⟨_,rfl⟩
 have hsz:w.heap.size < W1.heap.size:=R0.out.lt
 have QG:Hid (Nat.gcd n d < 2 ^ k):=Lib.hid (Nat.lt_of_le_of_lt (Nat.gcd_le_left d hn0) QN.out)
 go_upto_region 7 with fail
 obtain ⟨W2,hW2⟩:∃ W2,W2 = W1.alloc (.cells #[.int .u32 1] 199):=⟨_,rfl⟩
 rw [<- hW2]
 have GB:Hid (Below W1.heap.size W1 W2):=Lib.hid (by rw [hW2]; exact (Below.refl _ W1).alloc (Nat.le_refl _) _)
 have G1:Hid (ab W2 (.slice (some ⟨W1.heap.size,0,none⟩) 1 1) 1):=Lib.hid (by rw [hW2]; exact ab.digit1 W1 199 1 (by omega) (by omega))
 have X1:=Lib.hid (TT1.out.below GB.out)
 have X2:=Lib.hid (TT2.out.below GB.out)
 have XB:=Lib.hid (BB.out.trans (GB.out.mono BB.out.size))
 have XR:=Lib.hid (R0.out.below' GB.out)
 clear TT1 TT2 BB R0 GB hW2
 obtain ⟨g0,hg0⟩:∃ v,v = Value.slice (some ⟨W1.heap.size,0,none⟩) 1 1:=⟨_,rfl⟩
 rw [<- hg0] at G1 ⊢
 clear hg0
 have hsz1:w.heap.size < W2.heap.size:=XR.out.lt
 obtain ⟨tt,htt⟩:∃ b,(decide (d ≠ 1) && decide (n ≠ 1)) = b:=⟨_,rfl⟩
 have HTT:=Lib.hid htt
 clear htt
 go_cut [29] (fun t wc=>t = .bool tt/\wc = W2)
 case first =>
  by_cases hd1:d = 1
  ·have TD:Hid (ab W2 v2 1):=Lib.hid (by rw [<- hd1]; exact X2.out)
   have HT2:Hid (false = tt):=Lib.hid (by rw [<- HTT.out,decide_eq_false (by omega),Bool.false_and])
   clear hd1
   go_wp2_with fail
   refine (K5 TD.out).mono ?_
   rintro e w2 ⟨hw2,rfl⟩
   cases hw2
   go_wp2_with fail
   go_meet
   exact ⟨by rw [<- HT2.out],rfl⟩
  have HD1:=Lib.hid hd1
  clear hd1
  go_wp2_with fail
  refine (La X2.out HD1.out).mono ?_
  rintro e w2 ⟨hw2,rfl⟩
  cases hw2
  by_cases hn1:n = 1
  ·have TN:Hid (ab W2 (.slice A1 m1 c1) 1):=Lib.hid (by rw [<- hn1]; exact X1.out)
   have HT2:Hid (false = tt):=Lib.hid (by rw [<- HTT.out,decide_eq_false (p:=n ≠ 1) (by omega),Bool.and_false])
   have HN1:=Lib.hid hn1
   clear hn1
   go_wp2_with fail
   refine (K5 TN.out).mono ?_
   rintro e w2 ⟨hw2,rfl⟩
   cases hw2
   go_wp2_with fail
   go_meet
   exact ⟨by rw [<- HT2.out],rfl⟩
  have HT2:Hid (true = tt):=Lib.hid (by rw [<- HTT.out,decide_eq_true HD1.out,decide_eq_true hn1]; rfl)
  have HN1:=Lib.hid hn1
  clear hn1
  go_wp2_with fail
  refine (La X1.out HN1.out).mono ?_
  rintro e w2 ⟨hw2,rfl⟩
  cases hw2
  go_wp2_with fail
  go_meet
  exact ⟨by rw [<- HT2.out],rfl⟩
 obtain ⟨rfl,rfl⟩:=hcut
 go_upto_if 29 with fail
 go_cut [7] (fun gv wd=>∃ vg,vg = gv/\Hid (ab wd vg (Nat.gcd n d))/\Hid (ab wd v2 d)/\Hid (ab wd (.slice A1 m1 c1) n)/\Hid (Below w.heap.size w wd)/\Hid (bw wd w.heap.size 30 [.bool false,.slice none 0 0,.slice none 0 0]))
 case first =>
  cases tt with
  | false =>
   have HGG:Hid (Nat.gcd n d = 1):=Lib.hid (by
    have h1:=HTT.out
    rw [Bool.and_eq_false_iff,decide_eq_false_iff_not,decide_eq_false_iff_not,Decidable.not_not,Decidable.not_not] at h1
    rcases h1 with h1 | h1
    ·rw [h1]; exact Nat.gcd_one_right n
    ·rw [h1]; exact Nat.gcd_one_left d)
   go_wp2_with fail
   go_meet
   exact ⟨_,rfl,Lib.hid (by rw [HGG.out]; exact G1.out),X2,X1,XB,XR⟩
  | true =>
   go_wp2_with fail
   refine (Oz _ _ _ n d k X1.out X2.out QN.out QD.out (by omega) (by omega) (by omega)).mono ?_
   rintro e w2 ⟨vg,rfl,t1,hb⟩
   have Y1:=Lib.hid (X1.out.below hb)
   have Y2:=Lib.hid (X2.out.below hb)
   have YB:=Lib.hid (XB.out.trans (hb.mono XB.out.size))
   have YR:=Lib.hid (XR.out.below' hb)
   have YG:=Lib.hid t1
   clear t1 hb
   go_wp2_with fail
   go_meet
   exact ⟨_,rfl,YG,Y2,Y1,YB,YR⟩
 obtain ⟨vg,rfl,VG,TA2,TA1,BB2,RA⟩:=hcut
 clear X1 X2 XB XR G1
 obtain ⟨w2,rfl⟩:∃ x,x = wc:=⟨_,rfl⟩
 have hsz2:w.heap.size < w2.heap.size:=RA.out.lt
 go_wp2_with fail
 refine (K8 w2 _ _ VG.out).mono ?_
 rintro e w3 ⟨hw3,rfl⟩
 cases hw3
 go_upto_if 35 with fail
 go_cut [1,2] (fun nv dv we=>∃ v1 v3,v1 = nv/\v3 = dv/\Hid (ab we v1 (n / Nat.gcd n d))/\Hid (ab we v3 (d / Nat.gcd n d))/\Hid (Below w.heap.size w we)/\Hid (bw we w.heap.size 30 [.bool false,.slice none 0 0,.slice none 0 0]))
 case first =>
  by_cases hg:Nat.gcd n d = 1
  ·have HGG:=Lib.hid hg
   rw [decide_eq_true hg]
   clear hg
   go_wp2_with fail
   go_meet
   exact ⟨_,_,rfl,rfl,Lib.hid (by rw [HGG.out,Nat.div_one]; exact TA1.out),Lib.hid (by rw [HGG.out,Nat.div_one]; exact TA2.out),BB2,RA⟩
  have HG0:Hid (0 < Nat.gcd n d):=Lib.hid (Nat.gcd_pos_of_pos_left _ hn0)
  rw [decide_eq_false hg]
  clear hg
  go_wp2_with fail
  refine (Bo w2 _ _ n (Nat.gcd n d) k TA1.out VG.out QN.out QG.out hk HG0.out).mono ?_
  rintro e w3 ⟨vq,vr,rfl,q1,_,q3,_,_⟩
  have Q1:=Lib.hid q1
  have B3:=Lib.hid (BB2.out.trans (q3.mono (by omega)))
  have VG3:=Lib.hid (VG.out.below q3)
  have TA3:=Lib.hid (TA2.out.below q3)
  have RA3:=Lib.hid (RA.out.below' q3)
  have hs3:=q3.size
  clear q1 q3
  go_wp2_with fail
  refine (Bo w3 _ _ d (Nat.gcd n d) k TA3.out VG3.out QD.out QG.out hk HG0.out).mono ?_
  rintro e Wf ⟨v4,vr2,rfl,q1,_,q3,_,_⟩
  have U1:=Lib.hid (Q1.out.below q3)
  have U2:=Lib.hid q1
  have UB:=Lib.hid (B3.out.trans (q3.mono (by omega)))
  have UR:=Lib.hid (RA3.out.below' q3)
  clear q1 q3
  go_wp2_with fail
  go_meet
  exact ⟨_,_,rfl,rfl,U1,U2,UB,UR⟩
 obtain ⟨v1,v2,rfl,rfl,U1,U2,UB,UR⟩:=hcut
 clear VG TA2 TA1 BB2 RA
 obtain ⟨Wf,rfl⟩:∃ x,x = wc:=⟨_,rfl⟩
 have hszf:w.heap.size < Wf.heap.size:=UR.out.lt
 have UQ:Hid (n / Nat.gcd n d < 2 ^ k):=Lib.hid (Nat.lt_of_le_of_lt (Nat.div_le_self _ _) QN.out)
 have UQ2:Hid (d / Nat.gcd n d < 2 ^ k):=Lib.hid (Nat.lt_of_le_of_lt (Nat.div_le_self _ _) QD.out)
 go_wp2_with (at_builtin; refine jQ rfl _ _ rfl rfl _ rfl _ k U1.out UQ.out (by omega) ?_)
 intro An mn cn wn n1 n2 n3
 have N1:=Lib.hid n1
 have N2:=Lib.hid n2
 have UB2:=Lib.hid (UB.out.trans (n3.mono (by omega)))
 have UR2:=Lib.hid (UR.out.below' n3)
 have V2:=Lib.hid (U2.out.below n3)
 have hszn:Wf.heap.size <= wn.heap.size:=n3.size
 clear n1 n2 n3
 go_wp2_with fail
 obtain ⟨wb,hwb,O0,OB,Ohs⟩:=eU wn 30 [.bool neg,.slice An mn cn,.slice none 0 0]
 rw [<- hwb]
 clear hwb
 have N3:=Lib.hid (N1.out.below OB.out)
 have V3:=Lib.hid (V2.out.below OB.out)
 have UR3:=Lib.hid (UR2.out.below' OB.out)
 have UB3:=Lib.hid (UB2.out.trans (OB.out.mono (by omega)))
 have hO:wn.heap.size ≠ w.heap.size:=by omega
 have hF:=N2.out.mono (show w.heap.size + 1 <= Wf.heap.size by omega)
 have HF:=Lib.hid hF
 clear hF
 by_cases hd2:d / Nat.gcd n d = 1
 ·have V4:Hid (ab wb v2 1):=Lib.hid (by rw [<- hd2]; exact V3.out)
  have HD2:=Lib.hid hd2
  clear hd2
  obtain ⟨r0,r1,r2,z0,z1,z2⟩:=UR3.out.three
  obtain ⟨o0,o1,o2,y0,y1,y2⟩:=O0.out.three
  refine (K5 V4.out).mono ?_
  rintro e w5 ⟨hw5,rfl⟩
  cases hw5
  go_wp2_with fail
  refine bodyPost_ret (v:=.agg #[.bool neg,.slice An mn cn,.slice none 0 0]) (by simp [results,Tryz.results63,go_sem,r0,r1,r2]) rfl ⟨_,rfl,ay.of_parts hn0 hd0 (N3.out.box3 HF.out _ _ _) (by rw [if_pos HD2.out]; exact ab.nil_ _) (HF.out.mono (by omega)) (bf.nil_ _),ar UB3.out (Nat.le_refl _) _ _ _⟩
 have HD2:=Lib.hid hd2
 clear hd2
 refine (La V3.out HD2.out).mono ?_
 rintro e w5 ⟨hw5,rfl⟩
 cases hw5
 obtain ⟨o0,o1,o2,y0,y1,y2⟩:=O0.out.three
 go_wp2_with (at_builtin; refine jQ rfl _ _ rfl rfl _ rfl _ k V3.out UQ2.out (by omega) ?_)
 intro Ad md cd wd n1 n2 n3
 have M1:=Lib.hid n1
 have M2:=Lib.hid n2
 have N4:=Lib.hid (N3.out.below n3)
 have UB4:=Lib.hid (UB3.out.trans (n3.mono (by omega)))
 have UR4:=Lib.hid (UR3.out.below' n3)
 have O4:=Lib.hid (O0.out.below' n3)
 clear n1 n2 n3 o0 o1 o2 y0 y1 y2
 have hOs:wn.heap.size < wb.heap.size:=O0.out.lt
 obtain ⟨r0,r1,r2,z0,z1,z2⟩:=UR4.out.three
 obtain ⟨o0,o1,o2,y0,y1,y2⟩:=O4.out.three
 go_wp2_with fail
 refine bodyPost_ret (v:=.agg #[.bool neg,.slice An mn cn,.slice Ad md cd]) (by simp [results,Tryz.results63,go_sem,r0,r1,r2]) rfl ⟨_,rfl,ay.of_parts hn0 hd0 ?_ ?_ (HF.out.mono (by omega)) (M2.out.mono (by omega)),ar (UB4.out.setCell (p:=⟨wn.heap.size,2,none⟩) (by show w.heap.size <= wn.heap.size; omega) _) (Nat.le_refl _) _ _ _⟩
 ·exact (N4.out.setOff (p:=⟨wn.heap.size,2,none⟩) (N1.out.off (Nat.le_refl _)) _).box3 HF.out _ _ _
 rw [if_neg HD2.out]
 exact (M1.out.setFar (p:=⟨wn.heap.size,2,none⟩) M2.out hOs _).box3 (M2.out.mono (by omega)) _ _ _
end Go.Proofs.YtkdhppimhdemjaaGreat
