/- Lemmas on the way: Ref7, Frac10, Ref8, Ref9, Ref10. -/
import Derived.Test.YtkdhppimhdemjaaGreatU21
import Derived.Test.YtkdhppimhdemjaaGreatU20
set_option linter.all false
set_option maxRecDepth 1000000
set_option maxHeartbeats 32000000
namespace Go.Proofs.YtkdhppimhdemjaaGreat
open Go.RowKit
def jD (l o:List Nat) (k cc:Nat):Prop:=Ok o/\o.length = l.length/\o.drop k = (kE 1 l).drop k/\cc = l.getD k 0 % 2
theorem jD.start (l:List Nat):jD l (List.replicate l.length 0) l.length 0 :=
 ⟨Ok.replicate _,by simp,by rw [List.drop_eq_nil_of_le (by simp),List.drop_eq_nil_of_le (by rw [nN]; exact Nat.le_refl _)],by rw [List.getD_eq_getElem?_getD,List.getElem?_eq_none_iff.2 (Nat.le_refl _)]; rfl⟩
theorem jD.step {l o:List Nat} {j cc x:Nat} (h:jD l o (j + 1) cc)(hx:l.getD j 0 = x) (xl:x < 4294967296)(hj:j < l.length) :
  jD l (o.set j (x / 2 + 2147483648 * cc)) j (x % 2):=by
 obtain ⟨h1,h2,h3,h4⟩:=h
 have hcc:cc <= 1:=by omega
 have hd:=tR 1 l j hj
 rw [hx] at hd
 refine ⟨h1.set _ _ (by omega),by simpa using h2,?_,by rw [hx]⟩
 obtain ⟨hj',hd⟩:=List.getElem?_eq_some_iff.1 hd
 rw [List.drop_eq_getElem_cons (by simp; omega),List.drop_eq_getElem_cons hj',hd,List.getElem_set_self,List.drop_set_of_lt (by omega),h3]
 congr 1
 omega
theorem jD.done {l o:List Nat} {cc:Nat} (h:jD l o 0 cc)(hl:Ok l):val o = val l / 2:=by
 obtain ⟨_,_,h3,_⟩:=h
 simp only [List.drop_zero] at h3
 rw [h3,tQ 1 (by omega) l hl]

theorem IZ {x cc:Nat} (hx:x < 4294967296)(hc:cc <= 1):bits .or .u32 ((x:Int) / 2) ((cc:Int) * 2147483648) = ((x / 2 + 2147483648 * cc:Nat):Int):=by
 rw [show (x:Int) / 2 = ((x / 2:Nat):Int) by omega,show (cc:Int) * 2147483648 = ((2147483648 * cc:Nat):Int) by omega,u32_or_nat _ _ (by omega) (by omega)]
 congr 1
 exact qT (s:=31) (by omega)
theorem xu {x:Nat} (hx:x < 4294967296):bits .and .u32 (x:Int) 1 = ((x % 2:Nat):Int):=by
 rw [show (1:Int) = ((1:Nat):Int) by rfl,u32_and_nat _ _ (by omega) (by omega),Nat.and_one_is_mod]

theorem tn (w:World) (va:Value) (a k:Nat)(ha:ab w va a) (la:a < 2 ^ k)(hk:k <= 70368744177664) :
  Calls Tryz.prog 193 #[va] w fun e w'=>∃ v',e = .returned v'/\ab w' v' (a / 2)/\Below w.heap.size w w'/\bf v' w.heap.size:=by
 obtain ⟨l,dl,tl,rfl⟩:=ha
 have ll:=tl.length_le la
 clear la tl
 obtain ⟨okl,A,ca,rfl,hlc,hcm,hA⟩:=dl.open_
 clear dl
 have HA:=Lib.hid hA
 have HO:=Lib.hid okl
 clear hA okl
 have ST:=Lib.hid (jD.start l)
 obtain ⟨n,hn⟩:∃ n,l.length = n:=⟨_,rfl⟩
 rw [hn] at hlc ll ST ⊢
 have HN:=Lib.hid hn
 clear hn
 obtain ⟨i0,hi,hz0,hz1,hz2⟩:=info_parts dB
 go_enter Tryz.func193,Tryz.ntmps193
 go_wp2_with (at_make; refine aV rfl _ _ 28 rfl 199 i0 (.int .u32 0) 4 Tryz.underlying28 hi hz0 hz1 hz2 rfl .i64 .i64 _ _ n rfl rfl (by omega) (by omega) (by omega) (by unfold maxLen; omega) ?_)
 intro w1 hblk hbel
 go_wp2_with fail
 go_loopw [4,5] (fun c i wr=>∃ (q:Int) (cc:Nat) (o:List Nat),i = .int .i64 q/\c = .int .u32 cc/\-1 <= q/\q < n/\jD l o (q + 1).toNat cc/\DB wr w.heap.size o/\Below w.heap.size w wr) (fun _ i _=>(intOf i + 1).toNat)
 case atStart=>exact ⟨_,0,List.replicate n 0,rfl,rfl,by omega,by omega,by rw [show ((n:Int) - 1 + 1).toNat = n by omega]; exact ST.out,DB.of_blk (e:=199) (by simpa [dg] using hblk),hbel⟩
 clear hblk hbel
 obtain ⟨q,cc,o,rfl,rfl,hq,hqn,hr,hdb,hbel⟩:=hrel
 have HR:=Lib.hid hr
 have HDB:=Lib.hid hdb
 have hlen:=hr.2.1
 rw [HN.out] at hlen
 have HLEN:=Lib.hid hlen
 have hc1:cc <= 1:=by have:=hr.2.2.2; omega
 clear hr hlen
 by_cases h0:q = -1
 ·subst h0
  have HD:=Lib.hid (HDB.out.digAt HR.out.1 (n:=n) (c:=n) HLEN.out (Nat.le_refl _) (by omega))
  have HV:=Lib.hid (HR.out.done HO.out)
  have HB2:=Lib.hid hbel
  clear hbel hdb
  have TR:Hid (∀ W,W = wr->Calls Tryz.prog 55 #[.slice (some ⟨w.heap.size,0,none⟩) n n] W fun e w'=>w' = W/\∃ v',e = .returned v'/\ab W v' (val o)/\bf v' w.heap.size):=Lib.hid (fun W e=>by
   rw [e]
   have hd:=HD.out
   refine (iM wr _ o hd).mono ?_
   rintro e w' ⟨h1,v',h2,h3,h4,_⟩
   subst h1
   exact ⟨rfl,v',h2,h3,h4.from (fun ad n' c' e=>by cases e; exact Nat.le_refl _)⟩)
  go_wp2_with fail
  refine (TR.out _ rfl).mono ?_
  rintro e w2 ⟨hw2,v',rfl,hv,hf⟩
  cases hw2
  have T2:=Lib.hid hv
  have T3:=Lib.hid hf
  clear hv hf
  go_wp2_with fail
  go_ret
  exact ⟨v',rfl,HV.out ▸ T2.out,HB2.out,T3.out⟩
 obtain ⟨j,rfl⟩:∃ j:Nat,q = j:=⟨q.toNat,by omega⟩
 have HR2:=HR.out
 rw [show ((j:Int) + 1).toNat = j + 1 by omega] at HR2
 obtain ⟨x,hx⟩:∃ x,l.getD j 0 = x:=⟨_,rfl⟩
 have hx0:x < 4294967296:=by rw [<- hx]; exact HO.out.getD j
 have STEP:=Lib.hid (HR2.step hx hx0 (by rw [HN.out]; omega))
 have hcx:=bL HA.out HN.out hbel j x hx
 have hz:=hdb.cell (k:=j) (by rw [HLEN.out]; omega)
 have hfz:=hdb.frozen j
 have HB2:=Lib.hid hbel
 clear HR2 hx hbel hdb h0 hq
 rcases hcx with ⟨h1,b,off,rfl,hb,hc⟩ | ⟨h1,_⟩
 ·go_wp2_with fail
  refine ⟨⟨(j:Int) - 1,x % 2,o.set j (x / 2 + 2147483648 * cc),rfl,ez (xu hx0),by omega,by omega,?_,HDB.out.set (by rw [HLEN.out]; omega) (IZ hx0 hc1),HB2.out.setCell (p:=⟨w.heap.size,_,none⟩) (Nat.le_refl _) _⟩,by simp [intOf]⟩
  rw [show ((j:Int) - 1 + 1).toNat = j by omega]
  exact STEP.out
 omega
theorem Ow (w:World) (v:Value) (q:Rat) (k:Nat)(h:az k w v q)(h0:0 < k)(hk:k <= 17592186044416) :
  Calls Tryz.prog 171 #[v] w fun e w'=>e = .returned (.bool (decide (ce q < 0)))/\Below w.heap.size w w':=by
 have HF:=Lib.hid h
 obtain ⟨neg,vn,vd,rfl⟩:=h.shape
 clear h
 go_enter Tryz.func171,Tryz.ntmps171
 go_wp2_with fail
 obtain ⟨W,hW,P0,PB,Phs⟩:=eU w 30 [.bool neg,vn,vd]
 rw [<- hW]
 clear hW
 refine (Av W _ q k (HF.out.below PB.out) h0 hk).mono ?_
 rintro e w1 ⟨rfl,hb1⟩
 have B1:=Lib.hid (PB.out.trans (hb1.mono (by omega)))
 clear hb1
 go_wp2_with fail
 go_ret
 exact ⟨rfl,B1.out⟩

def ct:List Rat->Nat->Int
 | [],_=>-1
 | q :: l,j=>if ce q < 0 then j else ct l (j + 1)

theorem lU {qs:List Rat} {j:Nat} {x:Rat} (h:qs[j]? = some x):ct (qs.drop j) j = if ce x < 0 then (j:Int) else ct (qs.drop (j + 1)) (j + 1):=by
 have hj:j < qs.length:=(List.getElem?_eq_some_iff.1 h).1
 rw [List.drop_eq_getElem_cons hj]
 have:qs[j] = x:=by rw [List.getElem?_eq_getElem hj] at h; injection h
 rw [this]; rfl

theorem Fj (w:World) (k:Nat) (lv:Value) (qs:List Rat)(hl:bz k w lv qs)(h0:0 < k)(hk:k <= 17592186044416)(hn:qs.length < 9223372036854775807) :
  Calls Tryz.prog 247 #[lv,.func (.func 171) #[] #[]] w fun e w'=>e = .returned (.int .i64 (ct qs 0))/\Below w.heap.size w w':=by
 obtain ⟨A,c,rfl,hlc,hcm,hat⟩:=hl.at_
 have HAT:=Lib.hid hat
 clear hl hat
 obtain ⟨n,hn'⟩:∃ n,qs.length = n:=⟨_,rfl⟩
 have HLN:=Lib.hid hn'
 rw [hn'] at hlc hn ⊢
 clear hn'
 go_enter Tryz.func247,Tryz.ntmps247
 go_wp2_with fail
 go_loopg [5,8] n (fun g _ i wr=>∃ (j:Nat),i = .int .i64 j/\j + g = n/\Hid (ct qs 0 = ct (qs.drop j) j)/\Below w.heap.size w wr)
 case atStart=>exact ⟨0,rfl,by omega,Lib.hid rfl,Below.refl _ _⟩
 obtain ⟨j,rfl,hj,HQ,hbel⟩:=hrel
 have BEL:=Lib.hid hbel
 have hsz:w.heap.size <= wr.heap.size:=hbel.size
 clear hbel
 rcases Nat.eq_zero_or_pos gk with h | h
 ·obtain rfl:j = n:=by omega
  go_wp2_with fail
  go_ret
  refine ⟨?_,BEL.out⟩
  rw [HQ.out,List.drop_eq_nil_of_le (by rw [HLN.out]; exact Nat.le_refl _)]
  rfl
 obtain ⟨g,rfl⟩:∃ g,gk = g + 1:=⟨gk - 1,by omega⟩
 obtain ⟨x,hx⟩:∃ x,qs[j]? = some x:=⟨_,List.getElem?_eq_getElem (by rw [HLN.out]; omega)⟩
 obtain ⟨bb,off,neg,An,nn,cn,Ad,nd,cd,rfl,hbb,e0,e1,e2,hfr⟩:=HAT.out j x hx
 have d0:=(BEL.out.cell (p:=⟨bb,off + j * 3,none⟩) hbb).trans e0
 have d1:=(BEL.out.cell (p:=⟨bb,off + j * 3 + 1,none⟩) hbb).trans e1
 have d2:=(BEL.out.cell (p:=⟨bb,off + j * 3 + 2,none⟩) hbb).trans e2
 have FR:=Lib.hid (hfr.below BEL.out)
 have DR:=Lib.hid (lU hx)
 clear hx e0 e1 e2 hfr
 have hlt:(j:Int) < (n:Int):=by omega
 go_wp2_with fail
 have NC:=Ow wr _ x k FR.out h0 hk
 cases hd:decide (ce x < 0) with
 | true =>
  rw [hd] at NC
  have HD:=Lib.hid hd
  clear hd
  refine NC.mono ?_
  rintro e w1 ⟨rfl,hb1⟩
  have B1:=Lib.hid hb1
  clear hb1
  go_wp2_with fail
  go_ret
  refine ⟨?_,BEL.out.trans (B1.out.mono hsz)⟩
  rw [HQ.out,DR.out,if_pos (of_decide_eq_true HD.out)]
  rfl
 | false =>
  rw [hd] at NC
  have HD:=Lib.hid hd
  clear hd
  refine NC.mono ?_
  rintro e w1 ⟨rfl,hb1⟩
  have B1:=Lib.hid hb1
  clear hb1
  go_wp2_with fail
  go_roundg g
  case measure=>omega
  case rel =>
   refine ⟨j + 1,rfl,by omega,Lib.hid ?_,BEL.out.trans (B1.out.mono hsz)⟩
   rw [HQ.out,DR.out,if_neg (of_decide_eq_false HD.out)]

theorem xQ (w:World) (k:Nat) (lv:Value) (qs:List Rat)(hl:bz k w lv qs)(h0:0 < k)(hk:k <= 17592186044416)(hn:qs.length < 9223372036854775807) :
  Calls Tryz.prog 170 #[lv,.func (.func 171) #[] #[]] w fun e w'=>e = .returned (.bool (decide (0 <= ct qs 0)))/\Below w.heap.size w w':=by
 obtain ⟨A,c,rfl,hlc,hcm,_⟩:=hl.at_
 have IC:=Fj w k _ qs hl h0 hk hn
 clear hl
 generalize ct qs 0 = r at *
 go_enter Tryz.func170,Tryz.ntmps170
 go_wp2_with fail
 refine IC.mono ?_
 rintro e w1 ⟨rfl,hb1⟩
 have B1:=Lib.hid hb1
 clear hb1
 go_wp2_with fail
 go_ret
 exact ⟨by simp,B1.out⟩

def cG (qs:List Rat):Bool:=!decide (0 <= ct qs 0) && decide (ce (lC qs - 1) = 0)

theorem lX (w:World) (k:Nat) (lv:Value) (qs:List Rat)(hl:bz k w lv qs)(h0:0 < k)(hk:(qs.length + 1) * (2 * k) <= 2199023255552) :
  Calls Tryz.prog 98 #[lv] w fun e w'=>e = .returned (.bool (cG qs))/\Below w.heap.size w w':=by
 have hks:(qs.length + 1) * 2 <= (qs.length + 1) * (2 * k):=Nat.mul_le_mul_left _ (by omega)
 have hkl:1 * (2 * k) <= (qs.length + 1) * (2 * k):=Nat.mul_le_mul_right _ (by omega)
 have CN:=xQ w k lv qs hl h0 (by omega) (by omega)
 have HL:=Lib.hid hl
 obtain ⟨A,c,rfl,hlc,hcm,_⟩:=hl.at_
 clear hl
 unfold cG
 go_enter Tryz.func98,Tryz.ntmps98
 go_wp2_with fail
 cases hd:decide (0 <= ct qs 0) with
 | true =>
  rw [hd] at CN
  refine CN.mono ?_
  rintro e w1 ⟨rfl,hb1⟩
  have B1:=Lib.hid hb1
  have HD:=Lib.hid hd
  clear hb1 hd
  go_wp2_with fail
  go_ret
  exact ⟨by rw [HD.out]; rfl,B1.out⟩
 | false =>
  rw [hd] at CN
  refine CN.mono ?_
  rintro e w1 ⟨rfl,hb1⟩
  have B1:=Lib.hid hb1
  have H1:=Lib.hid (HL.out.below hb1)
  have hs1:w.heap.size <= w1.heap.size:=hb1.size
  have HD:=Lib.hid hd
  clear hb1 hd
  have QS:Hid (QB ((qs.length + 1) * (2 * k)) (lC qs)):=Lib.hid ((yR qs (HL.out.qb h0) k 0 (eX (n:=0) (Nat.pow_pos (by omega)) h0)).mono (by
   have:qs.length * (k + 1) <= qs.length * (2 * k):=Nat.mul_le_mul_left _ (by omega)
   rw [Nat.add_mul]; omega))
  have Q1:Hid (QB ((qs.length + 1) * (2 * k)) ((1:Nat):Rat)):=Lib.hid (eX (Nat.one_lt_two_pow (by omega)) (by omega))
  have HZ:Hid ((decide (ce (lC qs - (1:Nat)) = 0)) = (decide (ce (lC qs - 1) = 0))):=Lib.hid rfl
  go_wp2_with fail
  refine (ML w1 k _ qs H1.out h0 (by omega)).mono ?_
  rintro e w2 ⟨v2,rfl,t2,hb2⟩
  have B2:=Lib.hid (B1.out.trans (hb2.mono hs1))
  have T2:=Lib.hid t2
  have hs2:w1.heap.size <= w2.heap.size:=hb2.size
  clear t2 hb2
  go_wp2_with fail
  refine (Ot w2 1 (by omega)).mono ?_
  rintro e w3 ⟨v3,rfl,t3,hb3⟩
  have B3:=Lib.hid (B2.out.trans (hb3.mono (by omega)))
  have F2:=Lib.hid ((T2.out.below hb3).at_.frac QS.out (by omega))
  have F3:=Lib.hid (t3.at_.frac Q1.out (by omega))
  have hs3:w2.heap.size <= w3.heap.size:=hb3.size
  clear t3 hb3
  go_wp2_with fail
  refine (LH w3 v2 v3 (lC qs) (1:Nat) _ F2.out F3.out (by omega) (by omega)).mono ?_
  rintro e w4 ⟨rfl,hb4⟩
  have B4:=Lib.hid (B3.out.trans (hb4.mono (by omega)))
  clear hb4
  go_wp2_with fail
  go_ret
  refine ⟨?_,B4.out⟩
  rw [HD.out,<- HZ.out]
  rfl
theorem rn {a b G:Nat} (h:Nat.gcd a b = G)(hG:G % 2 = 1)(ha:a % 2 = 0):Nat.gcd (a / 2) b = G:=by
 obtain ⟨c,rfl⟩:∃ c,a = 2 * c:=⟨a / 2,by omega⟩
 rw [Nat.mul_div_cancel_left _ (by omega)]
 apply Nat.dvd_antisymm
 ·rw [<- h]; exact Nat.dvd_gcd (Nat.dvd_trans (Nat.gcd_dvd_left _ _) (Nat.dvd_mul_left _ _)) (Nat.gcd_dvd_right _ _)
 have hco:Nat.Coprime G 2:=by
  rw [Nat.coprime_comm,Nat.Coprime,Nat.gcd_rec,hG]; rfl
 refine Nat.dvd_gcd ?_ ?_
 ·have:G ∣ 2 * c:=by rw [<- h]; exact Nat.gcd_dvd_left _ _
  exact hco.dvd_of_dvd_mul_left this
 rw [<- h]; exact Nat.gcd_dvd_right _ _
theorem tE {a b G:Nat} (h:Nat.gcd a b = G)(hG:G % 2 = 1)(hb:b % 2 = 0):Nat.gcd a (b / 2) = G:=by
 rw [Nat.gcd_comm] at h ⊢
 exact rn h hG hb
theorem li {a b G:Nat} (h:Nat.gcd a b = G)(hle:a <= b):Nat.gcd a (b - a) = G:=by
 rw [<- h,Nat.gcd_sub_self_right hle]
theorem Bg {a b:Nat} (h:¬ (a % 2 = 0/\b % 2 = 0)):Nat.gcd a b % 2 = 1:=by
 rcases Nat.mod_two_eq_zero_or_one (Nat.gcd a b) with e | e
 ·exfalso
  have h2:2 ∣ Nat.gcd a b:=Nat.dvd_of_mod_eq_zero e
  exact h ⟨Nat.mod_eq_zero_of_dvd (Nat.dvd_trans h2 (Nat.gcd_dvd_left _ _)),Nat.mod_eq_zero_of_dvd (Nat.dvd_trans h2 (Nat.gcd_dvd_right _ _))⟩
 exact e

theorem Bp (x j:Nat):x * 2 ^ j + x * 2 ^ j = x * 2 ^ (j + 1):=by
 rw [Nat.pow_succ]; grind
theorem xr {a a' t:Nat} (h:a' % 2 = 0) (e:a = a' * 2 ^ t):a = a' / 2 * 2 ^ (t + 1):=by
 obtain ⟨c,rfl⟩:∃ c,a' = 2 * c:=⟨a' / 2,by omega⟩
 rw [Nat.mul_div_cancel_left _ (by omega),e,Nat.pow_succ]
 grind

theorem Oz (w:World) (va vb:Value) (a b k:Nat)(ha:ab w va a)(hb:ab w vb b) (la:a < 2 ^ k) (lb:b < 2 ^ k) (a0:a ≠ 0) (b0:b ≠ 0)(hk:k <= 70368744177664) :
  Calls Tryz.prog 131 #[va,vb] w fun e w'=>∃ v',e = .returned v'/\ab w' v' (Nat.gcd a b)/\Below w.heap.size w w':=by
 obtain ⟨A,n,ca,rfl,hA1⟩:=ha.len
 obtain ⟨B,p,cb,rfl,hB1⟩:=hb.len
 go_enter Tryz.func131,Tryz.ntmps131
 go_wp2_with fail
 have HA0:=Lib.hid ha
 have HB0:=Lib.hid hb
 clear ha hb hA1 hB1
 go_loopg [0,1,5] k (fun g va vb t wr=>∃ (a' b' tw:Nat),t = .int .i64 tw/\Hid (ab wr va a')/\Hid (ab wr vb b')/\Hid (a = a' * 2 ^ tw)/\Hid (b = b' * 2 ^ tw)/\tw + g = k/\Hid (Below w.heap.size w wr))
 case atStart=>exact ⟨a,b,0,rfl,HA0,HB0,Lib.hid (by simp),Lib.hid (by simp),by omega,Lib.hid (Below.refl _ _)⟩
 obtain ⟨a',b',tw,rfl,HA,HB,HEA,HEB,htw,HBE⟩:=hrel
 have hla:a' < 2 ^ k:=Nat.lt_of_le_of_lt (by rw [HEA.out]; exact Nat.le_mul_of_pos_right _ (Nat.two_pow_pos _)) la
 have hlb:b' < 2 ^ k:=Nat.lt_of_le_of_lt (by rw [HEB.out]; exact Nat.le_mul_of_pos_right _ (Nat.two_pow_pos _)) lb
 have ha0:a' ≠ 0:=fun e=>a0 (by rw [HEA.out,e,Nat.zero_mul])
 have hb0:b' ≠ 0:=fun e=>b0 (by rw [HEB.out,e,Nat.zero_mul])
 have HT:tw < k:=by
  have h1:1 * 2 ^ tw <= a' * 2 ^ tw:=Nat.mul_le_mul_right _ (by omega)
  have h2:2 ^ tw < 2 ^ k:=by have:=HEA.out; omega
  exact (Nat.pow_lt_pow_iff_right (by omega)).1 h2
 have EA:=tJ wr _ a' HA.out
 have EB:=tJ wr _ b' HB.out
 have LA:=Lib.hid hla
 have LB:=Lib.hid hlb
 have LA0:=Lib.hid la
 have LB0:=Lib.hid lb
 clear hla hlb
 by_cases h1:a' % 2 = 0
 ·rw [decide_eq_true h1] at EA
  by_cases h2:b' % 2 = 0
  ·rw [decide_eq_true h2] at EB
   obtain ⟨g,rfl⟩:∃ g,gk = g + 1:=⟨gk - 1,by omega⟩
   go_wp2_with fail
   refine EA.mono ?_
   rintro e w1 ⟨rfl,rfl⟩
   go_wp2_with fail
   refine EB.mono ?_
   rintro e w2 ⟨rfl,rfl⟩
   go_wp2_with fail
   refine (tn _ _ a' k HA.out LA.out hk).mono ?_
   rintro e w3 ⟨v3,rfl,t3,hb3,f3⟩
   have T3:=Lib.hid t3
   have B3:=Lib.hid (HBE.out.trans (hb3.mono HBE.out.size))
   have T3b:=Lib.hid (HB.out.below hb3)
   clear t3 hb3 f3
   go_wp2_with fail
   refine (tn _ _ b' k T3b.out LB.out hk).mono ?_
   rintro e w4 ⟨v4,rfl,t4,hb4,f4⟩
   have T4:=Lib.hid t4
   have B4:=Lib.hid (B3.out.trans (hb4.mono B3.out.size))
   have T4a:=Lib.hid (T3.out.below hb4)
   clear t4 hb4 f4
   go_wp2_with fail
   go_roundg g
   case measure=>omega
   case rel=>exact ⟨a' / 2,b' / 2,tw + 1,rfl,T4a,T4,Lib.hid (xr h1 HEA.out),Lib.hid (xr h2 HEB.out),by omega,B4⟩
  rw [decide_eq_false h2] at EB
  go_wp2_with fail
  refine EA.mono ?_
  rintro e w1 ⟨rfl,rfl⟩
  go_wp2_with fail
  refine EB.mono ?_
  rintro e w2 ⟨rfl,rfl⟩
  go_wp2_with fail
  have HG:=Lib.hid (Bg (a:=a') (b:=b') (by omega))
  go_loopg [0,1] (a' + b') (fun g va vb wr=>∃ (x y:Nat),Hid (ab wr va x)/\Hid (ab wr vb y)/\Hid (Nat.gcd x y = Nat.gcd a' b')/\x ≠ 0/\Hid (x < 2 ^ k)/\Hid (y < 2 ^ k)/\x + y <= g/\Hid (Below w.heap.size w wr))
  case atStart=>exact ⟨a',b',HA,HB,Lib.hid rfl,ha0,LA,LB,Nat.le_refl _,HBE⟩
  obtain ⟨x,y,HX,HY,HXY,hx0,LX,LY,hxy,HBX⟩:=hrel
  obtain ⟨Ay,py,cy,rfl,hpy,hpy0⟩:=HY.out.len
  rcases Nat.eq_zero_or_pos y with hy | hy
  ·subst hy
   have hp0:py = 0:=by omega
   subst hp0
   go_wp2_with fail
   have HE:Hid (Nat.gcd a b = x * 2 ^ tw):=Lib.hid (by rw [HEA.out,HEB.out,Nat.gcd_mul_right,<- HXY.out,Nat.gcd_zero_right])
   have hle:x * 2 ^ tw <= a:=by rw [<- HE.out]; exact Nat.gcd_le_left _ (by omega)
   have HLE:=Lib.hid hle
   clear hle
   go_loopg [0,6] tw (fun g va i wr=>∃ (j:Nat),i = .int .i64 j/\j + g = tw/\Hid (ab wr va (x * 2 ^ j))/\Hid (Below w.heap.size w wr))
   case atStart=>exact ⟨0,rfl,by omega,Lib.hid (by simpa using HX.out),HBX⟩
   obtain ⟨j,rfl,hj,HXJ,HBJ⟩:=hrel
   rcases Nat.eq_zero_or_pos gk with h | h
   ·obtain rfl:j = tw:=by omega
    go_wp2_with fail
    go_ret
    exact ⟨_,rfl,HE.out ▸ HXJ.out,HBJ.out⟩
   obtain ⟨g,rfl⟩:∃ g,gk = g + 1:=⟨gk - 1,by omega⟩
   have LJ:Hid (x * 2 ^ j < 2 ^ k):=Lib.hid (Nat.lt_of_le_of_lt (Nat.le_trans (Nat.mul_le_mul_left _ (Nat.pow_le_pow_right (by omega) (by omega))) HLE.out) LA0.out)
   go_wp2_with fail
   refine (wC _ _ _ _ _ k HXJ.out HXJ.out LJ.out LJ.out hk).mono ?_
   rintro e w3 ⟨v3,rfl,t3,hb3,f3⟩
   have T3:=Lib.hid t3
   have B3:=Lib.hid (HBJ.out.trans (hb3.mono HBJ.out.size))
   clear t3 hb3 f3
   go_wp2_with fail
   go_roundg g
   case measure=>omega
   case rel=>exact ⟨j + 1,rfl,by omega,Lib.hid (Bp x j ▸ T3.out),B3⟩
  have hp1:0 < py:=hpy0.2 hy
  clear hpy0
  obtain ⟨wo,rfl⟩:∃ wo:World,wo = wr:=⟨_,rfl⟩
  go_wp2_with fail
  go_loopg [0] x (fun g va wr=>∃ (x':Nat),Hid (ab wr va x')/\Hid (ab wr (.slice Ay py cy) y)/\Hid (Nat.gcd x' y = Nat.gcd a' b')/\x' ≠ 0/\x' <= x/\x' <= g/\Hid (Below w.heap.size w wr))
  case atStart=>exact ⟨x,HX,HY,HXY,hx0,Nat.le_refl _,Nat.le_refl _,HBX⟩
  obtain ⟨x',HX',HY',HXY',hx0',hxx,hgx,HBX'⟩:=hrel
  have EX:=tJ wr _ x' HX'.out
  by_cases he:x' % 2 = 0
  ·rw [decide_eq_true he] at EX
   go_wp2_with fail
   refine EX.mono ?_
   rintro e w1 ⟨rfl,rfl⟩
   go_wp2_with fail
   refine (tn _ _ x' k HX'.out (Nat.lt_of_le_of_lt hxx LX.out) hk).mono ?_
   rintro e w3 ⟨v3,rfl,t3,hb3,f3⟩
   have T3:=Lib.hid t3
   have B3:=Lib.hid (HBX'.out.trans (hb3.mono HBX'.out.size))
   have T3b:=Lib.hid (HY'.out.below hb3)
   clear t3 hb3 f3
   go_wp2_with fail
   go_roundg (x' / 2)
   case measure=>omega
   case rel=>exact ⟨x' / 2,T3,T3b,Lib.hid (rn HXY'.out HG.out he),by omega,by omega,by omega,B3⟩
  rw [decide_eq_false he] at EX
  go_wp2_with fail
  refine EX.mono ?_
  rintro e w1 ⟨rfl,rfl⟩
  obtain ⟨wp,rfl⟩:∃ wp:World,wp = w1:=⟨_,rfl⟩
  go_wp2_with fail
  go_loopg [1] y (fun g vb wr=>∃ (y':Nat),Hid (ab wr u0 x')/\Hid (ab wr vb y')/\Hid (Nat.gcd x' y' = Nat.gcd a' b')/\y' ≠ 0/\y' <= y/\y' <= g/\Hid (Below w.heap.size w wr))
  case atStart=>exact ⟨y,HX',HY',HXY',by omega,Nat.le_refl _,Nat.le_refl _,HBX'⟩
  obtain ⟨y',HX2,HY2,HXY2,hy0',hyy,hgy,HBX2⟩:=hrel
  have EY:=tJ wr _ y' HY2.out
  by_cases hf:y' % 2 = 0
  ·rw [decide_eq_true hf] at EY
   go_wp2_with fail
   refine EY.mono ?_
   rintro e w1 ⟨rfl,rfl⟩
   go_wp2_with fail
   refine (tn _ _ y' k HY2.out (Nat.lt_of_le_of_lt hyy LY.out) hk).mono ?_
   rintro e w3 ⟨v3,rfl,t3,hb3,f3⟩
   have T3:=Lib.hid t3
   have B3:=Lib.hid (HBX2.out.trans (hb3.mono HBX2.out.size))
   have T3b:=Lib.hid (HX2.out.below hb3)
   clear t3 hb3 f3
   go_wp2_with fail
   go_roundg (y' / 2)
   case measure=>omega
   case rel=>exact ⟨y' / 2,T3b,T3,Lib.hid (tE HXY2.out HG.out hf),by omega,by omega,by omega,B3⟩
  rw [decide_eq_false hf] at EY
  have OR:=qS wr _ _ x' y' HX2.out HY2.out
  rcases Nat.lt_or_ge y' x' with hlt | hge
  ·rw [ir hlt] at OR
   go_wp2_with fail
   refine EY.mono ?_
   rintro e w1 ⟨rfl,rfl⟩
   go_wp2_with fail
   refine OR.mono ?_
   rintro e w2 ⟨rfl,nd,rfl⟩
   go_wp2_with fail
   refine (me _ _ _ x' y' k (HX2.out.drewN nd) (HY2.out.drewN nd) (Nat.lt_of_le_of_lt hxx LX.out) (by omega) hk).mono ?_
   rintro e w3 ⟨v3,rfl,t3,hb3,f3⟩
   have hb3':=aN hb3
   have T3:=Lib.hid t3
   have B3:=Lib.hid (HBX2.out.trans (hb3'.mono HBX2.out.size))
   have T3b:=Lib.hid (HY2.out.below hb3')
   clear t3 hb3 hb3' f3
   go_wp2_with fail
   go_roundg (y' + (x' - y'))
   case measure=>omega
   case rel=>exact ⟨y',x' - y',T3b,T3,Lib.hid (li (by rw [Nat.gcd_comm]; exact HXY2.out) (by omega)),hy0',Lib.hid (Nat.lt_of_le_of_lt hyy LY.out),Lib.hid (Nat.lt_of_le_of_lt (by omega) LX.out),Nat.le_refl _,B3⟩
  have hcm:(decide ((0:Int) < fK x' y')) = false:=by
   rcases Nat.lt_or_ge x' y' with h | h
   ·rw [fP h]; rfl
   rw [show x' = y' by omega,nP]; rfl
  generalize fK x' y' = cm at *
  go_wp2_with fail
  refine EY.mono ?_
  rintro e w1 ⟨rfl,rfl⟩
  go_wp2_with fail
  refine OR.mono ?_
  rintro e w2 ⟨rfl,nd,rfl⟩
  go_wp2_with fail
  refine (me _ _ _ y' x' k (HY2.out.drewN nd) (HX2.out.drewN nd) (Nat.lt_of_le_of_lt hyy LY.out) hge hk).mono ?_
  rintro e w3 ⟨v3,rfl,t3,hb3,f3⟩
  have hb3':=aN hb3
  have T3:=Lib.hid t3
  have B3:=Lib.hid (HBX2.out.trans (hb3'.mono HBX2.out.size))
  have T3b:=Lib.hid (HX2.out.below hb3')
  clear t3 hb3 hb3' f3
  go_wp2_with fail
  go_roundg (x' + (y' - x'))
  case measure=>omega
  case rel=>exact ⟨x',y' - x',T3b,T3,Lib.hid (li HXY2.out hge),hx0',Lib.hid (Nat.lt_of_le_of_lt hxx LX.out),Lib.hid (Nat.lt_of_le_of_lt (by omega) LY.out),Nat.le_refl _,B3⟩
 rw [decide_eq_false h1] at EA
 go_wp2_with fail
 refine EA.mono ?_
 rintro e w1 ⟨rfl,rfl⟩
 go_wp2_with fail
 have HG:=Lib.hid (Bg (a:=a') (b:=b') (by omega))
 go_loopg [0,1] (a' + b') (fun g va vb wr=>∃ (x y:Nat),Hid (ab wr va x)/\Hid (ab wr vb y)/\Hid (Nat.gcd x y = Nat.gcd a' b')/\x ≠ 0/\Hid (x < 2 ^ k)/\Hid (y < 2 ^ k)/\x + y <= g/\Hid (Below w.heap.size w wr))
 case atStart=>exact ⟨a',b',HA,HB,Lib.hid rfl,ha0,LA,LB,Nat.le_refl _,HBE⟩
 obtain ⟨x,y,HX,HY,HXY,hx0,LX,LY,hxy,HBX⟩:=hrel
 obtain ⟨Ay,py,cy,rfl,hpy,hpy0⟩:=HY.out.len
 rcases Nat.eq_zero_or_pos y with hy | hy
 ·subst hy
  have hp0:py = 0:=by omega
  subst hp0
  go_wp2_with fail
  have HE:Hid (Nat.gcd a b = x * 2 ^ tw):=Lib.hid (by rw [HEA.out,HEB.out,Nat.gcd_mul_right,<- HXY.out,Nat.gcd_zero_right])
  have hle:x * 2 ^ tw <= a:=by rw [<- HE.out]; exact Nat.gcd_le_left _ (by omega)
  have HLE:=Lib.hid hle
  clear hle
  go_loopg [0,6] tw (fun g va i wr=>∃ (j:Nat),i = .int .i64 j/\j + g = tw/\Hid (ab wr va (x * 2 ^ j))/\Hid (Below w.heap.size w wr))
  case atStart=>exact ⟨0,rfl,by omega,Lib.hid (by simpa using HX.out),HBX⟩
  obtain ⟨j,rfl,hj,HXJ,HBJ⟩:=hrel
  rcases Nat.eq_zero_or_pos gk with h | h
  ·obtain rfl:j = tw:=by omega
   go_wp2_with fail
   go_ret
   exact ⟨_,rfl,HE.out ▸ HXJ.out,HBJ.out⟩
  obtain ⟨g,rfl⟩:∃ g,gk = g + 1:=⟨gk - 1,by omega⟩
  have LJ:Hid (x * 2 ^ j < 2 ^ k):=Lib.hid (Nat.lt_of_le_of_lt (Nat.le_trans (Nat.mul_le_mul_left _ (Nat.pow_le_pow_right (by omega) (by omega))) HLE.out) LA0.out)
  go_wp2_with fail
  refine (wC _ _ _ _ _ k HXJ.out HXJ.out LJ.out LJ.out hk).mono ?_
  rintro e w3 ⟨v3,rfl,t3,hb3,f3⟩
  have T3:=Lib.hid t3
  have B3:=Lib.hid (HBJ.out.trans (hb3.mono HBJ.out.size))
  clear t3 hb3 f3
  go_wp2_with fail
  go_roundg g
  case measure=>omega
  case rel=>exact ⟨j + 1,rfl,by omega,Lib.hid (Bp x j ▸ T3.out),B3⟩
 have hp1:0 < py:=hpy0.2 hy
 clear hpy0
 obtain ⟨wo,rfl⟩:∃ wo:World,wo = wr:=⟨_,rfl⟩
 go_wp2_with fail
 go_loopg [0] x (fun g va wr=>∃ (x':Nat),Hid (ab wr va x')/\Hid (ab wr (.slice Ay py cy) y)/\Hid (Nat.gcd x' y = Nat.gcd a' b')/\x' ≠ 0/\x' <= x/\x' <= g/\Hid (Below w.heap.size w wr))
 case atStart=>exact ⟨x,HX,HY,HXY,hx0,Nat.le_refl _,Nat.le_refl _,HBX⟩
 obtain ⟨x',HX',HY',HXY',hx0',hxx,hgx,HBX'⟩:=hrel
 have EX:=tJ wr _ x' HX'.out
 by_cases he:x' % 2 = 0
 ·rw [decide_eq_true he] at EX
  go_wp2_with fail
  refine EX.mono ?_
  rintro e w1 ⟨rfl,rfl⟩
  go_wp2_with fail
  refine (tn _ _ x' k HX'.out (Nat.lt_of_le_of_lt hxx LX.out) hk).mono ?_
  rintro e w3 ⟨v3,rfl,t3,hb3,f3⟩
  have T3:=Lib.hid t3
  have B3:=Lib.hid (HBX'.out.trans (hb3.mono HBX'.out.size))
  have T3b:=Lib.hid (HY'.out.below hb3)
  clear t3 hb3 f3
  go_wp2_with fail
  go_roundg (x' / 2)
  case measure=>omega
  case rel=>exact ⟨x' / 2,T3,T3b,Lib.hid (rn HXY'.out HG.out he),by omega,by omega,by omega,B3⟩
 rw [decide_eq_false he] at EX
 go_wp2_with fail
 refine EX.mono ?_
 rintro e w1 ⟨rfl,rfl⟩
 obtain ⟨wp,rfl⟩:∃ wp:World,wp = w1:=⟨_,rfl⟩
 go_wp2_with fail
 go_loopg [1] y (fun g vb wr=>∃ (y':Nat),Hid (ab wr u0 x')/\Hid (ab wr vb y')/\Hid (Nat.gcd x' y' = Nat.gcd a' b')/\y' ≠ 0/\y' <= y/\y' <= g/\Hid (Below w.heap.size w wr))
 case atStart=>exact ⟨y,HX',HY',HXY',by omega,Nat.le_refl _,Nat.le_refl _,HBX'⟩
 obtain ⟨y',HX2,HY2,HXY2,hy0',hyy,hgy,HBX2⟩:=hrel
 have EY:=tJ wr _ y' HY2.out
 by_cases hf:y' % 2 = 0
 ·rw [decide_eq_true hf] at EY
  go_wp2_with fail
  refine EY.mono ?_
  rintro e w1 ⟨rfl,rfl⟩
  go_wp2_with fail
  refine (tn _ _ y' k HY2.out (Nat.lt_of_le_of_lt hyy LY.out) hk).mono ?_
  rintro e w3 ⟨v3,rfl,t3,hb3,f3⟩
  have T3:=Lib.hid t3
  have B3:=Lib.hid (HBX2.out.trans (hb3.mono HBX2.out.size))
  have T3b:=Lib.hid (HX2.out.below hb3)
  clear t3 hb3 f3
  go_wp2_with fail
  go_roundg (y' / 2)
  case measure=>omega
  case rel=>exact ⟨y' / 2,T3b,T3,Lib.hid (tE HXY2.out HG.out hf),by omega,by omega,by omega,B3⟩
 rw [decide_eq_false hf] at EY
 have OR:=qS wr _ _ x' y' HX2.out HY2.out
 rcases Nat.lt_or_ge y' x' with hlt | hge
 ·rw [ir hlt] at OR
  go_wp2_with fail
  refine EY.mono ?_
  rintro e w1 ⟨rfl,rfl⟩
  go_wp2_with fail
  refine OR.mono ?_
  rintro e w2 ⟨rfl,nd,rfl⟩
  go_wp2_with fail
  refine (me _ _ _ x' y' k (HX2.out.drewN nd) (HY2.out.drewN nd) (Nat.lt_of_le_of_lt hxx LX.out) (by omega) hk).mono ?_
  rintro e w3 ⟨v3,rfl,t3,hb3,f3⟩
  have hb3':=aN hb3
  have T3:=Lib.hid t3
  have B3:=Lib.hid (HBX2.out.trans (hb3'.mono HBX2.out.size))
  have T3b:=Lib.hid (HY2.out.below hb3')
  clear t3 hb3 hb3' f3
  go_wp2_with fail
  go_roundg (y' + (x' - y'))
  case measure=>omega
  case rel=>exact ⟨y',x' - y',T3b,T3,Lib.hid (li (by rw [Nat.gcd_comm]; exact HXY2.out) (by omega)),hy0',Lib.hid (Nat.lt_of_le_of_lt hyy LY.out),Lib.hid (Nat.lt_of_le_of_lt (by omega) LX.out),Nat.le_refl _,B3⟩
 have hcm:(decide ((0:Int) < fK x' y')) = false:=by
  rcases Nat.lt_or_ge x' y' with h | h
  ·rw [fP h]; rfl
  rw [show x' = y' by omega,nP]; rfl
 generalize fK x' y' = cm at *
 go_wp2_with fail
 refine EY.mono ?_
 rintro e w1 ⟨rfl,rfl⟩
 go_wp2_with fail
 refine OR.mono ?_
 rintro e w2 ⟨rfl,nd,rfl⟩
 go_wp2_with fail
 refine (me _ _ _ y' x' k (HY2.out.drewN nd) (HX2.out.drewN nd) (Nat.lt_of_le_of_lt hyy LY.out) hge hk).mono ?_
 rintro e w3 ⟨v3,rfl,t3,hb3,f3⟩
 have hb3':=aN hb3
 have T3:=Lib.hid t3
 have B3:=Lib.hid (HBX2.out.trans (hb3'.mono HBX2.out.size))
 have T3b:=Lib.hid (HX2.out.below hb3')
 clear t3 hb3 hb3' f3
 go_wp2_with fail
 go_roundg (x' + (y' - x'))
 case measure=>omega
 case rel=>exact ⟨x',y' - x',T3b,T3,Lib.hid (li HXY2.out hge),hx0',Lib.hid (Nat.lt_of_le_of_lt hxx LX.out),Lib.hid (Nat.lt_of_le_of_lt (by omega) LY.out),Nat.le_refl _,B3⟩
def dw:Nat->Nat
 | 0=>0
 | n + 1=>dw ((n + 1) / 2) + 1
theorem lz {n:Nat} (h:n ≠ 0):dw n = dw (n / 2) + 1:=by
 obtain ⟨m,rfl⟩:∃ m,n = m + 1:=⟨n - 1,by omega⟩
 rw [dw]
theorem x6 (k:Nat) {x:Nat} (r:Nat)(h:x ≠ 0)(hr:r < 2 ^ k):dw (r + 2 ^ k * x) = k + dw x:=by
 induction k generalizing r with
 | zero =>
  have:r = 0:=by simp at hr; exact hr
  subst this
  simp
 | succ k ih =>
  have hp:=Nat.two_pow_pos k
  have hx:2 ^ (k + 1) * x = 2 * (2 ^ k * x):=by rw [Nat.pow_succ]; grind
  have h1:1 <= 2 ^ k * x:=Nat.mul_pos hp (by omega)
  rw [lz (by omega),hx,show (r + 2 * (2 ^ k * x)) / 2 = r / 2 + 2 ^ k * x by omega,ih (r / 2) (by rw [Nat.pow_succ] at hr; omega)]
  omega
theorem Df {l:List Nat} {j d:Nat} (hok:Ok l)(hl:l.length = j + 1)(hd:l[j]? = some d)(h0:d ≠ 0):dw (val l) = 32 * j + dw d:=by
 have e:l = l.take j ++ [d]:=by rw [<- aG l hd,List.take_of_length_le (by omega)]
 have hlt:(l.take j).length = j:=by rw [List.length_take]; omega
 rw [e,cO,hlt,show (4294967296:Nat) ^ j = 2 ^ (32 * j) by rw [Nat.pow_mul]]
 refine x6 _ _ h0 ?_
 have:=eo _ (hok.take j)
 rw [hlt] at this
 rwa [Nat.pow_mul]
theorem E6 (n:Nat):n < 2 ^ dw n:=by
 induction n using Nat.strongRecOn with
 | ind n ih =>
  rcases Nat.eq_zero_or_pos n with h | h
  ·subst h; simp [dw]
  rw [lz (by omega),Nat.pow_succ]
  have:=ih (n / 2) (by omega)
  omega

theorem rN {n k:Nat} (h:n < 2 ^ k):dw n <= k:=by
 induction k generalizing n with
 | zero =>
  have:n = 0:=by simp at h; exact h
  subst this
  simp [dw]
 | succ k ih =>
  rcases Nat.eq_zero_or_pos n with h0 | h0
  ·subst h0; simp [dw]
  rw [lz (by omega)]
  have:=ih (n:=n / 2) (by rw [Nat.pow_succ] at h; omega)
  omega

theorem NG (w:World) (va:Value) (a k:Nat)(ha:ab w va a) (la:a < 2 ^ k)(hk:k <= 70368744177664) :
  Calls Tryz.prog 197 #[va] w fun e w'=>w' = w/\e = .returned (.int .i64 (dw a:Int)):=by
 have TA:Hid (∀ W,W = w->Calls Tryz.prog 55 #[va] W fun e w'=>w' = W/\e = .returned va):=Lib.hid (fun W e=>by rw [e]; exact vQ w va a ha)
 obtain ⟨l,dl,tl,rfl⟩:=ha
 have ll:=tl.length_le la
 clear la
 obtain ⟨okl,A,ca,rfl,hlc,hcm,hA⟩:=dl.open_
 clear dl
 have HA:=Lib.hid hA
 have HO:=Lib.hid okl
 have HT:=Lib.hid tl
 clear hA okl tl
 obtain ⟨n,hn⟩:∃ n,l.length = n:=⟨_,rfl⟩
 rw [hn] at hlc ll TA ⊢
 have HN:=Lib.hid hn
 clear hn
 rcases Nat.eq_zero_or_pos n with h0 | h0
 ·subst h0
  go_enter Tryz.func197,Tryz.ntmps197
  go_wp2_with fail
  refine (TA.out _ rfl).mono ?_
  rintro e w1 ⟨hw1,rfl⟩
  cases hw1
  go_wp2_with fail
  go_ret
  refine ⟨rfl,aq ?_⟩
  rw [show l = [] by simpa using HN.out]
  simp [val,dw]
 obtain ⟨j,rfl⟩:∃ j,n = j + 1:=⟨n - 1,by omega⟩
 have hjl:j < l.length:=by rw [HN.out]; omega
 obtain ⟨d,hd⟩:∃ d,l[j]? = some d:=⟨_,List.getElem?_eq_getElem hjl⟩
 have hd0:d ≠ 0:=by
  intro e
  subst e
  have:=HT.out
  unfold cS at this
  rw [List.getLast?_eq_getElem?,HN.out] at this
  exact this hd
 have HBV:=Lib.hid (Df HO.out HN.out hd hd0)
 have hdl:=HO.out.get hd
 obtain ⟨b,off,rfl,hc⟩:∃ b off,A = some ⟨b,off,none⟩/\w.cell? ⟨b,off + j,none⟩ = some (.int .u32 (d:Int)):=by
  rcases HA.out with h | ⟨b,off,h,_,hc⟩
  ·subst h; simp at hjl
  exact ⟨b,off,h,hc j d hd⟩
 clear hd hjl
 have hz:(((j + 1:Nat):Int) == 0) = false:=by simp; omega
 go_enter Tryz.func197,Tryz.ntmps197
 go_wp2_with fail
 refine (TA.out _ rfl).mono ?_
 rintro e w1 ⟨hw1,rfl⟩
 cases hw1
 go_wp2_with fail
 have hbd:dw d <= 32:=rN (by omega)
 go_loopg [3,4] d (fun g c i wr=>∃ (m x:Nat),c = .int .i64 m/\i = .int .u32 x/\m + dw x = 32 * j + dw d/\x <= g/\x < 4294967296/\wr = w)
 case atStart=>exact ⟨32 * j,d,ez (by omega),rfl,rfl,Nat.le_refl _,hdl,rfl⟩
 obtain ⟨m,x,rfl,rfl,hm,hg,hx,rfl⟩:=hrel
 rcases Nat.eq_zero_or_pos x with h | h
 ·subst h
  have hm':m = 32 * j + dw d:=by rw [<- hm]; simp [dw]
  clear hm
  generalize dw d = q at *
  go_wp2_with fail
  go_ret
  exact ⟨rfl,aq (by rw [HBV.out]; omega)⟩
 rw [lz (by omega)] at hm
 generalize dw d = q at *
 have hx0:decide ((0:Int) < (x:Int)) = true:=decide_eq_true (by omega)
 go_wp2_with fail
 go_roundg (x / 2)
 case measure=>omega
 case rel=>exact ⟨m + 1,x / 2,ez (by omega),ez (by omega),by omega,by omega,by omega,rfl⟩
theorem qW (w:World) (n:Nat)(hn:n < 18446744073709551616) :
  Calls Tryz.prog 64 #[.int .u64 (n:Int)] w fun e w'=>∃ v',e = .returned v'/\ab w' v' n/\Below w.heap.size w w':=by
 go_enter Tryz.func64,Tryz.ntmps64
 go_wp2_with fail
 have hb:=(bw.new w 199 [Value.int .u32 ((n:Int) % 4294967296),Value.int .u32 ((n:Int) / 4294967296)]).sl (sz:=1) (n:=2) (c:=2) (by simp) (by omega) (by unfold maxLen; omega)
 have hv:val [n % 4294967296,n / 4294967296] = n:=by simp only [val]; omega
 have ho:Ok [n % 4294967296,n / 4294967296]:=by
  rw [Ok.cons,Ok.cons]
  exact ⟨by omega,by omega,Ok.nil⟩
 refine (iM _ _ [n % 4294967296,n / 4294967296] ⟨?_,ho⟩).mono ?_
 ·simpa [dg] using hb
 rintro e w1 ⟨hw1,v',rfl,h1,_,_⟩
 cases hw1
 rw [hv] at h1
 clear hb hv ho
 go_wp2
 go_ret
 exact ⟨v',rfl,h1,(Below.refl _ w).alloc (Nat.le_refl _) _⟩

theorem En (w:World) (n:Nat)(hn:n < 9223372036854775808) :
  Calls Tryz.prog 65 #[.int .i64 (n:Int)] w fun e w'=>w' = w/\e = .returned (.int .u64 (n:Int)):=by
 have h0:decide ((n:Int) < 0) = false:=decide_eq_false (by omega)
 go_enter Tryz.func65,Tryz.ntmps65
 go_wp2_with fail
 go_ret
 exact ⟨rfl,rfl⟩
end Go.Proofs.YtkdhppimhdemjaaGreat
