/- Lemmas on the way: Ref8, Ref9, Ref10, Ref11, DivB. -/
import Derived.Test.YtdehimgccmbfkaaGreatT24
set_option linter.all false
set_option maxRecDepth 1000000
set_option maxHeartbeats 32000000
namespace Go.Proofs.YtdehimgccmbfkaaGreat
open Go.RowKit
theorem gcd_half {a b G:Nat} (h:Nat.gcd a b = G)(hG:G % 2 = 1)(ha:a % 2 = 0):Nat.gcd (a / 2) b = G:=by
 obtain ⟨c,rfl⟩:∃ c,a = 2 * c:=⟨a / 2,by omega⟩
 rw [Nat.mul_div_cancel_left _ (by omega)]
 apply Nat.dvd_antisymm
 ·rw [<- h]; exact Nat.dvd_gcd (Nat.dvd_trans (Nat.gcd_dvd_left _ _) (Nat.dvd_mul_left _ _)) (Nat.gcd_dvd_right _ _)
 have hco:Nat.Coprime G 2:=by
  rw [Nat.coprime_comm,Nat.Coprime,Nat.gcd_rec,hG]; rfl
 refine Nat.dvd_gcd ?_ ?_
 ·have:G ∣ 2 * c:=by rw [<- h]; exact Nat.gcd_dvd_left _ _
  exact hco.dvd_of_dvd_mul_left this
 rw [<- h]; exact Nat.gcd_dvd_right _ _
theorem gcd_halfR {a b G:Nat} (h:Nat.gcd a b = G)(hG:G % 2 = 1)(hb:b % 2 = 0):Nat.gcd a (b / 2) = G:=by
 rw [Nat.gcd_comm] at h ⊢
 exact gcd_half h hG hb
theorem gcd_minus {a b G:Nat} (h:Nat.gcd a b = G)(hle:a <= b):Nat.gcd a (b - a) = G:=by
 rw [<- h,Nat.gcd_sub_self_right hle]
theorem gcd_odd {a b:Nat} (h:¬ (a % 2 = 0/\b % 2 = 0)):Nat.gcd a b % 2 = 1:=by
 rcases Nat.mod_two_eq_zero_or_one (Nat.gcd a b) with e | e
 ·exfalso
  have h2:2 ∣ Nat.gcd a b:=Nat.dvd_of_mod_eq_zero e
  exact h ⟨Nat.mod_eq_zero_of_dvd (Nat.dvd_trans h2 (Nat.gcd_dvd_left _ _)),Nat.mod_eq_zero_of_dvd (Nat.dvd_trans h2 (Nat.gcd_dvd_right _ _))⟩
 exact e

theorem dbl_pow (x j:Nat):x * 2 ^ j + x * 2 ^ j = x * 2 ^ (j + 1):=by
 rw [Nat.pow_succ]; grind
theorem half_pow {a a' t:Nat} (h:a' % 2 = 0) (e:a = a' * 2 ^ t):a = a' / 2 * 2 ^ (t + 1):=by
 obtain ⟨c,rfl⟩:∃ c,a' = 2 * c:=⟨a' / 2,by omega⟩
 rw [Nat.mul_div_cancel_left _ (by omega),e,Nat.pow_succ]
 grind

theorem gcdR (w:World) (va vb:Value) (a b k:Nat)(ha:NatAt w va a)(hb:NatAt w vb b) (la:a < 2 ^ k) (lb:b < 2 ^ k) (a0:a ≠ 0) (b0:b ≠ 0)(hk:k <= 70368744177664) :
  Calls Tryz.prog 132 #[va,vb] w fun e w'=>∃ v',e = .returned v'/\NatAt w' v' (Nat.gcd a b)/\Below w.heap.size w w':=by
 obtain ⟨A,n,ca,rfl,hA1⟩:=ha.len
 obtain ⟨B,p,cb,rfl,hB1⟩:=hb.len
 go_enter Tryz.func132,Tryz.ntmps132
 go_wp2_with fail
 have HA0:=Lib.hid ha
 have HB0:=Lib.hid hb
 clear ha hb hA1 hB1
 go_loopg [0,1,5] k (fun g va vb t wr=>∃ (a' b' tw:Nat),t = .int .i64 tw/\Hid (NatAt wr va a')/\Hid (NatAt wr vb b')/\Hid (a = a' * 2 ^ tw)/\Hid (b = b' * 2 ^ tw)/\tw + g = k/\Hid (Below w.heap.size w wr))
 case atStart=>exact ⟨a,b,0,rfl,HA0,HB0,Lib.hid (by simp),Lib.hid (by simp),by omega,Lib.hid (Below.refl _ _)⟩
 obtain ⟨a',b',tw,rfl,HA,HB,HEA,HEB,htw,HBE⟩:=hrel
 have hla:a' < 2 ^ k:=Nat.lt_of_le_of_lt (by rw [HEA.out]; exact Nat.le_mul_of_pos_right _ (Nat.two_pow_pos _)) la
 have hlb:b' < 2 ^ k:=Nat.lt_of_le_of_lt (by rw [HEB.out]; exact Nat.le_mul_of_pos_right _ (Nat.two_pow_pos _)) lb
 have ha0:a' ≠ 0:=fun e=>a0 (by rw [HEA.out,e,Nat.zero_mul])
 have hb0:b' ≠ 0:=fun e=>b0 (by rw [HEB.out,e,Nat.zero_mul])
 have HT:tw < k:=by
  have h1:1 * 2 ^ tw <= a' * 2 ^ tw:=Nat.mul_le_mul_right _ (by omega)
  have h2:2 ^ tw < 2 ^ k:=by have:=HEA.out; omega
  exact (Nat.pow_lt_pow_iff_right (by omega)).1 h2
 have EA:=evenR wr _ a' HA.out
 have EB:=evenR wr _ b' HB.out
 have LA:=Lib.hid hla
 have LB:=Lib.hid hlb
 have LA0:=Lib.hid la
 have LB0:=Lib.hid lb
 clear hla hlb
 by_cases h1:a' % 2 = 0
 ·rw [decide_eq_true h1] at EA
  by_cases h2:b' % 2 = 0
  ·rw [decide_eq_true h2] at EB
   obtain ⟨g,rfl⟩:∃ g,gk = g + 1:=⟨gk - 1,by omega⟩
   go_wp2_with fail
   refine EA.mono ?_
   rintro e w1 ⟨rfl,rfl⟩
   go_wp2_with fail
   refine EB.mono ?_
   rintro e w2 ⟨rfl,rfl⟩
   go_wp2_with fail
   refine (halfR _ _ a' k HA.out LA.out hk).mono ?_
   rintro e w3 ⟨v3,rfl,t3,hb3,f3⟩
   have T3:=Lib.hid t3
   have B3:=Lib.hid (HBE.out.trans (hb3.mono HBE.out.size))
   have T3b:=Lib.hid (HB.out.below hb3)
   clear t3 hb3 f3
   go_wp2_with fail
   refine (halfR _ _ b' k T3b.out LB.out hk).mono ?_
   rintro e w4 ⟨v4,rfl,t4,hb4,f4⟩
   have T4:=Lib.hid t4
   have B4:=Lib.hid (B3.out.trans (hb4.mono B3.out.size))
   have T4a:=Lib.hid (T3.out.below hb4)
   clear t4 hb4 f4
   go_wp2_with fail
   go_roundg g
   case measure=>omega
   case rel=>exact ⟨a' / 2,b' / 2,tw + 1,rfl,T4a,T4,Lib.hid (half_pow h1 HEA.out),Lib.hid (half_pow h2 HEB.out),by omega,B4⟩
  rw [decide_eq_false h2] at EB
  go_wp2_with fail
  refine EA.mono ?_
  rintro e w1 ⟨rfl,rfl⟩
  go_wp2_with fail
  refine EB.mono ?_
  rintro e w2 ⟨rfl,rfl⟩
  go_wp2_with fail
  have HG:=Lib.hid (gcd_odd (a:=a') (b:=b') (by omega))
  go_loopg [0,1] (a' + b') (fun g va vb wr=>∃ (x y:Nat),Hid (NatAt wr va x)/\Hid (NatAt wr vb y)/\Hid (Nat.gcd x y = Nat.gcd a' b')/\x ≠ 0/\Hid (x < 2 ^ k)/\Hid (y < 2 ^ k)/\x + y <= g/\Hid (Below w.heap.size w wr))
  case atStart=>exact ⟨a',b',HA,HB,Lib.hid rfl,ha0,LA,LB,Nat.le_refl _,HBE⟩
  obtain ⟨x,y,HX,HY,HXY,hx0,LX,LY,hxy,HBX⟩:=hrel
  obtain ⟨Ay,py,cy,rfl,hpy,hpy0⟩:=HY.out.len
  rcases Nat.eq_zero_or_pos y with hy | hy
  ·subst hy
   have hp0:py = 0:=by omega
   subst hp0
   go_wp2_with fail
   have HE:Hid (Nat.gcd a b = x * 2 ^ tw):=Lib.hid (by rw [HEA.out,HEB.out,Nat.gcd_mul_right,<- HXY.out,Nat.gcd_zero_right])
   have hle:x * 2 ^ tw <= a:=by rw [<- HE.out]; exact Nat.gcd_le_left _ (by omega)
   have HLE:=Lib.hid hle
   clear hle
   go_loopg [0,6] tw (fun g va i wr=>∃ (j:Nat),i = .int .i64 j/\j + g = tw/\Hid (NatAt wr va (x * 2 ^ j))/\Hid (Below w.heap.size w wr))
   case atStart=>exact ⟨0,rfl,by omega,Lib.hid (by simpa using HX.out),HBX⟩
   obtain ⟨j,rfl,hj,HXJ,HBJ⟩:=hrel
   rcases Nat.eq_zero_or_pos gk with h | h
   ·obtain rfl:j = tw:=by omega
    go_wp2_with fail
    go_ret
    exact ⟨_,rfl,HE.out ▸ HXJ.out,HBJ.out⟩
   obtain ⟨g,rfl⟩:∃ g,gk = g + 1:=⟨gk - 1,by omega⟩
   have LJ:Hid (x * 2 ^ j < 2 ^ k):=Lib.hid (Nat.lt_of_le_of_lt (Nat.le_trans (Nat.mul_le_mul_left _ (Nat.pow_le_pow_right (by omega) (by omega))) HLE.out) LA0.out)
   go_wp2_with fail
   refine (plusR _ _ _ _ _ k HXJ.out HXJ.out LJ.out LJ.out hk).mono ?_
   rintro e w3 ⟨v3,rfl,t3,hb3,f3⟩
   have T3:=Lib.hid t3
   have B3:=Lib.hid (HBJ.out.trans (hb3.mono HBJ.out.size))
   clear t3 hb3 f3
   go_wp2_with fail
   go_roundg g
   case measure=>omega
   case rel=>exact ⟨j + 1,rfl,by omega,Lib.hid (dbl_pow x j ▸ T3.out),B3⟩
  have hp1:0 < py:=hpy0.2 hy
  clear hpy0
  obtain ⟨wo,rfl⟩:∃ wo:World,wo = wr:=⟨_,rfl⟩
  go_wp2_with fail
  go_loopg [0] x (fun g va wr=>∃ (x':Nat),Hid (NatAt wr va x')/\Hid (NatAt wr (.slice Ay py cy) y)/\Hid (Nat.gcd x' y = Nat.gcd a' b')/\x' ≠ 0/\x' <= x/\x' <= g/\Hid (Below w.heap.size w wr))
  case atStart=>exact ⟨x,HX,HY,HXY,hx0,Nat.le_refl _,Nat.le_refl _,HBX⟩
  obtain ⟨x',HX',HY',HXY',hx0',hxx,hgx,HBX'⟩:=hrel
  have EX:=evenR wr _ x' HX'.out
  by_cases he:x' % 2 = 0
  ·rw [decide_eq_true he] at EX
   go_wp2_with fail
   refine EX.mono ?_
   rintro e w1 ⟨rfl,rfl⟩
   go_wp2_with fail
   refine (halfR _ _ x' k HX'.out (Nat.lt_of_le_of_lt hxx LX.out) hk).mono ?_
   rintro e w3 ⟨v3,rfl,t3,hb3,f3⟩
   have T3:=Lib.hid t3
   have B3:=Lib.hid (HBX'.out.trans (hb3.mono HBX'.out.size))
   have T3b:=Lib.hid (HY'.out.below hb3)
   clear t3 hb3 f3
   go_wp2_with fail
   go_roundg (x' / 2)
   case measure=>omega
   case rel=>exact ⟨x' / 2,T3,T3b,Lib.hid (gcd_half HXY'.out HG.out he),by omega,by omega,by omega,B3⟩
  rw [decide_eq_false he] at EX
  go_wp2_with fail
  refine EX.mono ?_
  rintro e w1 ⟨rfl,rfl⟩
  obtain ⟨wp,rfl⟩:∃ wp:World,wp = w1:=⟨_,rfl⟩
  go_wp2_with fail
  go_loopg [1] y (fun g vb wr=>∃ (y':Nat),Hid (NatAt wr u0 x')/\Hid (NatAt wr vb y')/\Hid (Nat.gcd x' y' = Nat.gcd a' b')/\y' ≠ 0/\y' <= y/\y' <= g/\Hid (Below w.heap.size w wr))
  case atStart=>exact ⟨y,HX',HY',HXY',by omega,Nat.le_refl _,Nat.le_refl _,HBX'⟩
  obtain ⟨y',HX2,HY2,HXY2,hy0',hyy,hgy,HBX2⟩:=hrel
  have EY:=evenR wr _ y' HY2.out
  by_cases hf:y' % 2 = 0
  ·rw [decide_eq_true hf] at EY
   go_wp2_with fail
   refine EY.mono ?_
   rintro e w1 ⟨rfl,rfl⟩
   go_wp2_with fail
   refine (halfR _ _ y' k HY2.out (Nat.lt_of_le_of_lt hyy LY.out) hk).mono ?_
   rintro e w3 ⟨v3,rfl,t3,hb3,f3⟩
   have T3:=Lib.hid t3
   have B3:=Lib.hid (HBX2.out.trans (hb3.mono HBX2.out.size))
   have T3b:=Lib.hid (HX2.out.below hb3)
   clear t3 hb3 f3
   go_wp2_with fail
   go_roundg (y' / 2)
   case measure=>omega
   case rel=>exact ⟨y' / 2,T3b,T3,Lib.hid (gcd_halfR HXY2.out HG.out hf),by omega,by omega,by omega,B3⟩
  rw [decide_eq_false hf] at EY
  have OR:=orderR wr _ _ x' y' HX2.out HY2.out
  rcases Nat.lt_or_ge y' x' with hlt | hge
  ·rw [cmpN_gt hlt] at OR
   go_wp2_with fail
   refine EY.mono ?_
   rintro e w1 ⟨rfl,rfl⟩
   go_wp2_with fail
   refine OR.mono ?_
   rintro e w2 ⟨rfl,nd,rfl⟩
   go_wp2_with fail
   refine (minusR _ _ _ x' y' k (HX2.out.drewN nd) (HY2.out.drewN nd) (Nat.lt_of_le_of_lt hxx LX.out) (by omega) hk).mono ?_
   rintro e w3 ⟨v3,rfl,t3,hb3,f3⟩
   have hb3':=below_of_drewN hb3
   have T3:=Lib.hid t3
   have B3:=Lib.hid (HBX2.out.trans (hb3'.mono HBX2.out.size))
   have T3b:=Lib.hid (HY2.out.below hb3')
   clear t3 hb3 hb3' f3
   go_wp2_with fail
   go_roundg (y' + (x' - y'))
   case measure=>omega
   case rel=>exact ⟨y',x' - y',T3b,T3,Lib.hid (gcd_minus (by rw [Nat.gcd_comm]; exact HXY2.out) (by omega)),hy0',Lib.hid (Nat.lt_of_le_of_lt hyy LY.out),Lib.hid (Nat.lt_of_le_of_lt (by omega) LX.out),Nat.le_refl _,B3⟩
  have hcm:(decide ((0:Int) < cmpN x' y')) = false:=by
   rcases Nat.lt_or_ge x' y' with h | h
   ·rw [cmpN_lt h]; rfl
   rw [show x' = y' by omega,cmpN_eq]; rfl
  generalize cmpN x' y' = cm at *
  go_wp2_with fail
  refine EY.mono ?_
  rintro e w1 ⟨rfl,rfl⟩
  go_wp2_with fail
  refine OR.mono ?_
  rintro e w2 ⟨rfl,nd,rfl⟩
  go_wp2_with fail
  refine (minusR _ _ _ y' x' k (HY2.out.drewN nd) (HX2.out.drewN nd) (Nat.lt_of_le_of_lt hyy LY.out) hge hk).mono ?_
  rintro e w3 ⟨v3,rfl,t3,hb3,f3⟩
  have hb3':=below_of_drewN hb3
  have T3:=Lib.hid t3
  have B3:=Lib.hid (HBX2.out.trans (hb3'.mono HBX2.out.size))
  have T3b:=Lib.hid (HX2.out.below hb3')
  clear t3 hb3 hb3' f3
  go_wp2_with fail
  go_roundg (x' + (y' - x'))
  case measure=>omega
  case rel=>exact ⟨x',y' - x',T3b,T3,Lib.hid (gcd_minus HXY2.out hge),hx0',Lib.hid (Nat.lt_of_le_of_lt hxx LX.out),Lib.hid (Nat.lt_of_le_of_lt (by omega) LY.out),Nat.le_refl _,B3⟩
 rw [decide_eq_false h1] at EA
 go_wp2_with fail
 refine EA.mono ?_
 rintro e w1 ⟨rfl,rfl⟩
 go_wp2_with fail
 have HG:=Lib.hid (gcd_odd (a:=a') (b:=b') (by omega))
 go_loopg [0,1] (a' + b') (fun g va vb wr=>∃ (x y:Nat),Hid (NatAt wr va x)/\Hid (NatAt wr vb y)/\Hid (Nat.gcd x y = Nat.gcd a' b')/\x ≠ 0/\Hid (x < 2 ^ k)/\Hid (y < 2 ^ k)/\x + y <= g/\Hid (Below w.heap.size w wr))
 case atStart=>exact ⟨a',b',HA,HB,Lib.hid rfl,ha0,LA,LB,Nat.le_refl _,HBE⟩
 obtain ⟨x,y,HX,HY,HXY,hx0,LX,LY,hxy,HBX⟩:=hrel
 obtain ⟨Ay,py,cy,rfl,hpy,hpy0⟩:=HY.out.len
 rcases Nat.eq_zero_or_pos y with hy | hy
 ·subst hy
  have hp0:py = 0:=by omega
  subst hp0
  go_wp2_with fail
  have HE:Hid (Nat.gcd a b = x * 2 ^ tw):=Lib.hid (by rw [HEA.out,HEB.out,Nat.gcd_mul_right,<- HXY.out,Nat.gcd_zero_right])
  have hle:x * 2 ^ tw <= a:=by rw [<- HE.out]; exact Nat.gcd_le_left _ (by omega)
  have HLE:=Lib.hid hle
  clear hle
  go_loopg [0,6] tw (fun g va i wr=>∃ (j:Nat),i = .int .i64 j/\j + g = tw/\Hid (NatAt wr va (x * 2 ^ j))/\Hid (Below w.heap.size w wr))
  case atStart=>exact ⟨0,rfl,by omega,Lib.hid (by simpa using HX.out),HBX⟩
  obtain ⟨j,rfl,hj,HXJ,HBJ⟩:=hrel
  rcases Nat.eq_zero_or_pos gk with h | h
  ·obtain rfl:j = tw:=by omega
   go_wp2_with fail
   go_ret
   exact ⟨_,rfl,HE.out ▸ HXJ.out,HBJ.out⟩
  obtain ⟨g,rfl⟩:∃ g,gk = g + 1:=⟨gk - 1,by omega⟩
  have LJ:Hid (x * 2 ^ j < 2 ^ k):=Lib.hid (Nat.lt_of_le_of_lt (Nat.le_trans (Nat.mul_le_mul_left _ (Nat.pow_le_pow_right (by omega) (by omega))) HLE.out) LA0.out)
  go_wp2_with fail
  refine (plusR _ _ _ _ _ k HXJ.out HXJ.out LJ.out LJ.out hk).mono ?_
  rintro e w3 ⟨v3,rfl,t3,hb3,f3⟩
  have T3:=Lib.hid t3
  have B3:=Lib.hid (HBJ.out.trans (hb3.mono HBJ.out.size))
  clear t3 hb3 f3
  go_wp2_with fail
  go_roundg g
  case measure=>omega
  case rel=>exact ⟨j + 1,rfl,by omega,Lib.hid (dbl_pow x j ▸ T3.out),B3⟩
 have hp1:0 < py:=hpy0.2 hy
 clear hpy0
 obtain ⟨wo,rfl⟩:∃ wo:World,wo = wr:=⟨_,rfl⟩
 go_wp2_with fail
 go_loopg [0] x (fun g va wr=>∃ (x':Nat),Hid (NatAt wr va x')/\Hid (NatAt wr (.slice Ay py cy) y)/\Hid (Nat.gcd x' y = Nat.gcd a' b')/\x' ≠ 0/\x' <= x/\x' <= g/\Hid (Below w.heap.size w wr))
 case atStart=>exact ⟨x,HX,HY,HXY,hx0,Nat.le_refl _,Nat.le_refl _,HBX⟩
 obtain ⟨x',HX',HY',HXY',hx0',hxx,hgx,HBX'⟩:=hrel
 have EX:=evenR wr _ x' HX'.out
 by_cases he:x' % 2 = 0
 ·rw [decide_eq_true he] at EX
  go_wp2_with fail
  refine EX.mono ?_
  rintro e w1 ⟨rfl,rfl⟩
  go_wp2_with fail
  refine (halfR _ _ x' k HX'.out (Nat.lt_of_le_of_lt hxx LX.out) hk).mono ?_
  rintro e w3 ⟨v3,rfl,t3,hb3,f3⟩
  have T3:=Lib.hid t3
  have B3:=Lib.hid (HBX'.out.trans (hb3.mono HBX'.out.size))
  have T3b:=Lib.hid (HY'.out.below hb3)
  clear t3 hb3 f3
  go_wp2_with fail
  go_roundg (x' / 2)
  case measure=>omega
  case rel=>exact ⟨x' / 2,T3,T3b,Lib.hid (gcd_half HXY'.out HG.out he),by omega,by omega,by omega,B3⟩
 rw [decide_eq_false he] at EX
 go_wp2_with fail
 refine EX.mono ?_
 rintro e w1 ⟨rfl,rfl⟩
 obtain ⟨wp,rfl⟩:∃ wp:World,wp = w1:=⟨_,rfl⟩
 go_wp2_with fail
 go_loopg [1] y (fun g vb wr=>∃ (y':Nat),Hid (NatAt wr u0 x')/\Hid (NatAt wr vb y')/\Hid (Nat.gcd x' y' = Nat.gcd a' b')/\y' ≠ 0/\y' <= y/\y' <= g/\Hid (Below w.heap.size w wr))
 case atStart=>exact ⟨y,HX',HY',HXY',by omega,Nat.le_refl _,Nat.le_refl _,HBX'⟩
 obtain ⟨y',HX2,HY2,HXY2,hy0',hyy,hgy,HBX2⟩:=hrel
 have EY:=evenR wr _ y' HY2.out
 by_cases hf:y' % 2 = 0
 ·rw [decide_eq_true hf] at EY
  go_wp2_with fail
  refine EY.mono ?_
  rintro e w1 ⟨rfl,rfl⟩
  go_wp2_with fail
  refine (halfR _ _ y' k HY2.out (Nat.lt_of_le_of_lt hyy LY.out) hk).mono ?_
  rintro e w3 ⟨v3,rfl,t3,hb3,f3⟩
  have T3:=Lib.hid t3
  have B3:=Lib.hid (HBX2.out.trans (hb3.mono HBX2.out.size))
  have T3b:=Lib.hid (HX2.out.below hb3)
  clear t3 hb3 f3
  go_wp2_with fail
  go_roundg (y' / 2)
  case measure=>omega
  case rel=>exact ⟨y' / 2,T3b,T3,Lib.hid (gcd_halfR HXY2.out HG.out hf),by omega,by omega,by omega,B3⟩
 rw [decide_eq_false hf] at EY
 have OR:=orderR wr _ _ x' y' HX2.out HY2.out
 rcases Nat.lt_or_ge y' x' with hlt | hge
 ·rw [cmpN_gt hlt] at OR
  go_wp2_with fail
  refine EY.mono ?_
  rintro e w1 ⟨rfl,rfl⟩
  go_wp2_with fail
  refine OR.mono ?_
  rintro e w2 ⟨rfl,nd,rfl⟩
  go_wp2_with fail
  refine (minusR _ _ _ x' y' k (HX2.out.drewN nd) (HY2.out.drewN nd) (Nat.lt_of_le_of_lt hxx LX.out) (by omega) hk).mono ?_
  rintro e w3 ⟨v3,rfl,t3,hb3,f3⟩
  have hb3':=below_of_drewN hb3
  have T3:=Lib.hid t3
  have B3:=Lib.hid (HBX2.out.trans (hb3'.mono HBX2.out.size))
  have T3b:=Lib.hid (HY2.out.below hb3')
  clear t3 hb3 hb3' f3
  go_wp2_with fail
  go_roundg (y' + (x' - y'))
  case measure=>omega
  case rel=>exact ⟨y',x' - y',T3b,T3,Lib.hid (gcd_minus (by rw [Nat.gcd_comm]; exact HXY2.out) (by omega)),hy0',Lib.hid (Nat.lt_of_le_of_lt hyy LY.out),Lib.hid (Nat.lt_of_le_of_lt (by omega) LX.out),Nat.le_refl _,B3⟩
 have hcm:(decide ((0:Int) < cmpN x' y')) = false:=by
  rcases Nat.lt_or_ge x' y' with h | h
  ·rw [cmpN_lt h]; rfl
  rw [show x' = y' by omega,cmpN_eq]; rfl
 generalize cmpN x' y' = cm at *
 go_wp2_with fail
 refine EY.mono ?_
 rintro e w1 ⟨rfl,rfl⟩
 go_wp2_with fail
 refine OR.mono ?_
 rintro e w2 ⟨rfl,nd,rfl⟩
 go_wp2_with fail
 refine (minusR _ _ _ y' x' k (HY2.out.drewN nd) (HX2.out.drewN nd) (Nat.lt_of_le_of_lt hyy LY.out) hge hk).mono ?_
 rintro e w3 ⟨v3,rfl,t3,hb3,f3⟩
 have hb3':=below_of_drewN hb3
 have T3:=Lib.hid t3
 have B3:=Lib.hid (HBX2.out.trans (hb3'.mono HBX2.out.size))
 have T3b:=Lib.hid (HX2.out.below hb3')
 clear t3 hb3 hb3' f3
 go_wp2_with fail
 go_roundg (x' + (y' - x'))
 case measure=>omega
 case rel=>exact ⟨x',y' - x',T3b,T3,Lib.hid (gcd_minus HXY2.out hge),hx0',Lib.hid (Nat.lt_of_le_of_lt hxx LX.out),Lib.hid (Nat.lt_of_le_of_lt (by omega) LY.out),Nat.le_refl _,B3⟩
def bitsN:Nat->Nat
 | 0=>0
 | n + 1=>bitsN ((n + 1) / 2) + 1
theorem bitsN_pos {n:Nat} (h:n ≠ 0):bitsN n = bitsN (n / 2) + 1:=by
 obtain ⟨m,rfl⟩:∃ m,n = m + 1:=⟨n - 1,by omega⟩
 rw [bitsN]
theorem bitsN_shift (k:Nat) {x:Nat} (r:Nat)(h:x ≠ 0)(hr:r < 2 ^ k):bitsN (r + 2 ^ k * x) = k + bitsN x:=by
 induction k generalizing r with
 | zero =>
  have:r = 0:=by simp at hr; exact hr
  subst this
  simp
 | succ k ih =>
  have hp:=Nat.two_pow_pos k
  have hx:2 ^ (k + 1) * x = 2 * (2 ^ k * x):=by rw [Nat.pow_succ]; grind
  have h1:1 <= 2 ^ k * x:=Nat.mul_pos hp (by omega)
  rw [bitsN_pos (by omega),hx,show (r + 2 * (2 ^ k * x)) / 2 = r / 2 + 2 ^ k * x by omega,ih (r / 2) (by rw [Nat.pow_succ] at hr; omega)]
  omega
theorem bitsN_val {l:List Nat} {j d:Nat} (hok:Ok l)(hl:l.length = j + 1)(hd:l[j]? = some d)(h0:d ≠ 0):bitsN (val l) = 32 * j + bitsN d:=by
 have e:l = l.take j ++ [d]:=by rw [<- take_succ_get l hd,List.take_of_length_le (by omega)]
 have hlt:(l.take j).length = j:=by rw [List.length_take]; omega
 rw [e,val_snoc,hlt,show (4294967296:Nat) ^ j = 2 ^ (32 * j) by rw [Nat.pow_mul]]
 refine bitsN_shift _ _ h0 ?_
 have:=val_lt _ (hok.take j)
 rw [hlt] at this
 rwa [Nat.pow_mul]
theorem lt_bitsN (n:Nat):n < 2 ^ bitsN n:=by
 induction n using Nat.strongRecOn with
 | ind n ih =>
  rcases Nat.eq_zero_or_pos n with h | h
  ·subst h; simp [bitsN]
  rw [bitsN_pos (by omega),Nat.pow_succ]
  have:=ih (n / 2) (by omega)
  omega

theorem bitsN_le {n k:Nat} (h:n < 2 ^ k):bitsN n <= k:=by
 induction k generalizing n with
 | zero =>
  have:n = 0:=by simp at h; exact h
  subst this
  simp [bitsN]
 | succ k ih =>
  rcases Nat.eq_zero_or_pos n with h0 | h0
  ·subst h0; simp [bitsN]
  rw [bitsN_pos (by omega)]
  have:=ih (n:=n / 2) (by rw [Nat.pow_succ] at h; omega)
  omega

theorem bitsR (w:World) (va:Value) (a k:Nat)(ha:NatAt w va a) (la:a < 2 ^ k)(hk:k <= 70368744177664) :
  Calls Tryz.prog 177 #[va] w fun e w'=>w' = w/\e = .returned (.int .i64 (bitsN a:Int)):=by
 have TA:Hid (∀ W,W = w->Calls Tryz.prog 74 #[va] W fun e w'=>w' = W/\e = .returned va):=Lib.hid (fun W e=>by rw [e]; exact trimN w va a ha)
 obtain ⟨l,dl,tl,rfl⟩:=ha
 have ll:=tl.length_le la
 clear la
 obtain ⟨okl,A,ca,rfl,hlc,hcm,hA⟩:=dl.open_
 clear dl
 have HA:=Lib.hid hA
 have HO:=Lib.hid okl
 have HT:=Lib.hid tl
 clear hA okl tl
 obtain ⟨n,hn⟩:∃ n,l.length = n:=⟨_,rfl⟩
 rw [hn] at hlc ll TA ⊢
 have HN:=Lib.hid hn
 clear hn
 rcases Nat.eq_zero_or_pos n with h0 | h0
 ·subst h0
  go_enter Tryz.func177,Tryz.ntmps177
  go_wp2_with fail
  refine (TA.out _ rfl).mono ?_
  rintro e w1 ⟨hw1,rfl⟩
  cases hw1
  go_wp2_with fail
  go_ret
  refine ⟨rfl,ret_i64 ?_⟩
  rw [show l = [] by simpa using HN.out]
  simp [val,bitsN]
 obtain ⟨j,rfl⟩:∃ j,n = j + 1:=⟨n - 1,by omega⟩
 have hjl:j < l.length:=by rw [HN.out]; omega
 obtain ⟨d,hd⟩:∃ d,l[j]? = some d:=⟨_,List.getElem?_eq_getElem hjl⟩
 have hd0:d ≠ 0:=by
  intro e
  subst e
  have:=HT.out
  unfold Trim at this
  rw [List.getLast?_eq_getElem?,HN.out] at this
  exact this hd
 have HBV:=Lib.hid (bitsN_val HO.out HN.out hd hd0)
 have hdl:=HO.out.get hd
 obtain ⟨b,off,rfl,hc⟩:∃ b off,A = some ⟨b,off,none⟩/\w.cell? ⟨b,off + j,none⟩ = some (.int .u32 (d:Int)):=by
  rcases HA.out with h | ⟨b,off,h,_,hc⟩
  ·subst h; simp at hjl
  exact ⟨b,off,h,hc j d hd⟩
 clear hd hjl
 have hz:(((j + 1:Nat):Int) == 0) = false:=by simp; omega
 go_enter Tryz.func177,Tryz.ntmps177
 go_wp2_with fail
 refine (TA.out _ rfl).mono ?_
 rintro e w1 ⟨hw1,rfl⟩
 cases hw1
 go_wp2_with fail
 have hbd:bitsN d <= 32:=bitsN_le (by omega)
 go_loopg [3,4] d (fun g c i wr=>∃ (m x:Nat),c = .int .i64 m/\i = .int .u32 x/\m + bitsN x = 32 * j + bitsN d/\x <= g/\x < 4294967296/\wr = w)
 case atStart=>exact ⟨32 * j,d,int_eq (by omega),rfl,rfl,Nat.le_refl _,hdl,rfl⟩
 obtain ⟨m,x,rfl,rfl,hm,hg,hx,rfl⟩:=hrel
 rcases Nat.eq_zero_or_pos x with h | h
 ·subst h
  have hm':m = 32 * j + bitsN d:=by rw [<- hm]; simp [bitsN]
  clear hm
  generalize bitsN d = q at *
  go_wp2_with fail
  go_ret
  exact ⟨rfl,ret_i64 (by rw [HBV.out]; omega)⟩
 rw [bitsN_pos (by omega)] at hm
 generalize bitsN d = q at *
 have hx0:decide ((0:Int) < (x:Int)) = true:=decide_eq_true (by omega)
 go_wp2_with fail
 go_roundg (x / 2)
 case measure=>omega
 case rel=>exact ⟨m + 1,x / 2,int_eq (by omega),int_eq (by omega),by omega,by omega,by omega,rfl⟩
theorem naturalR (w:World) (n:Nat)(hn:n < 18446744073709551616) :
  Calls Tryz.prog 81 #[.int .u64 (n:Int)] w fun e w'=>∃ v',e = .returned v'/\NatAt w' v' n/\Below w.heap.size w w':=by
 go_enter Tryz.func81,Tryz.ntmps81
 go_wp2_with fail
 have hb:=(Blk.new w 182 [Value.int .u32 ((n:Int) % 4294967296),Value.int .u32 ((n:Int) / 4294967296)]).sl (sz:=1) (n:=2) (c:=2) (by simp) (by omega) (by unfold maxLen; omega)
 have hv:val [n % 4294967296,n / 4294967296] = n:=by simp only [val]; omega
 have ho:Ok [n % 4294967296,n / 4294967296]:=by
  rw [Ok.cons,Ok.cons]
  exact ⟨by omega,by omega,Ok.nil⟩
 refine (trimR _ _ [n % 4294967296,n / 4294967296] ⟨?_,ho⟩).mono ?_
 ·simpa [dg] using hb
 rintro e w1 ⟨hw1,v',rfl,h1,_,_⟩
 cases hw1
 rw [hv] at h1
 clear hb hv ho
 go_wp2
 go_ret
 exact ⟨v',rfl,h1,(Below.refl _ w).alloc (Nat.le_refl _) _⟩

theorem sizeR (w:World) (n:Nat)(hn:n < 9223372036854775808) :
  Calls Tryz.prog 82 #[.int .i64 (n:Int)] w fun e w'=>w' = w/\e = .returned (.int .u64 (n:Int)):=by
 have h0:decide ((n:Int) < 0) = false:=decide_eq_false (by omega)
 go_enter Tryz.func82,Tryz.ntmps82
 go_wp2_with fail
 go_ret
 exact ⟨rfl,rfl⟩
theorem sameDigitsR (w:World) (va vb:Value) (a b:Nat)(ha:NatAt w va a)(hb:NatAt w vb b) :
  Calls Tryz.prog 80 #[va,vb] w fun e w'=>Below w.heap.size w w'/\e = .returned (.bool (decide (a = b))):=by
 obtain ⟨l,dl,tl,rfl⟩:=ha
 obtain ⟨m,dm,tm,rfl⟩:=hb
 obtain ⟨okl,A,ca,rfl,hlc,hcm,hA⟩:=dl.open_
 obtain ⟨okm,B,cb,rfl,hmc,hcm',hB⟩:=dm.open_
 have HEQ:Hid (val l = val m ↔ l = m):=Lib.hid ⟨fun h=>Trim.eq_of_val okl okm tl tm h,fun h=>by rw [h]⟩
 clear dl dm tl tm okl okm
 have HA:=Lib.hid hA
 have HB:=Lib.hid hB
 clear hA hB
 obtain ⟨n,hn⟩:∃ n,l.length = n:=⟨_,rfl⟩
 obtain ⟨p,hp⟩:∃ p,m.length = p:=⟨_,rfl⟩
 rw [hn] at hlc ⊢
 rw [hp] at hmc ⊢
 have HN:=Lib.hid hn
 have HQ:=Lib.hid hp
 clear hn hp
 by_cases hne:n = p
 ·subst hne
  go_enter Tryz.func80,Tryz.ntmps80
  go_wp2_with fail
  go_loopg [5] n (fun g i wr=>∃ (k:Nat),(∃ d,wr = w.drewN d)/\i = .int .i64 k/\k + g = n/\Hid (l.take k = m.take k))
  case atStart=>exact ⟨0,⟨0,rfl⟩,rfl,by omega,Lib.hid (by simp)⟩
  obtain ⟨k,⟨nd,rfl⟩,rfl,hk,HD⟩:=hrel
  rcases Nat.eq_zero_or_pos gk with h | h
  ·obtain rfl:k = n:=by omega
   have HT:Hid (decide (val l = val m) = true):=Lib.hid (decide_eq_true (HEQ.out.2 (by
    have:=HD.out
    rwa [List.take_of_length_le (by rw [HN.out]; exact Nat.le_refl _),List.take_of_length_le (by rw [HQ.out]; exact Nat.le_refl _)] at this)))
   go_wp2_with fail
   go_ret
   exact ⟨below_drewN (Below.refl _ _) _,ret_bool HT.out.symm⟩
  obtain ⟨g,rfl⟩:∃ g,gk = g + 1:=⟨gk - 1,by omega⟩
  have hkl:k < l.length:=by rw [HN.out]; omega
  have hkm:k < m.length:=by rw [HQ.out]; omega
  obtain ⟨x,hx⟩:∃ x,l[k]? = some x:=⟨_,List.getElem?_eq_getElem hkl⟩
  obtain ⟨y,hy⟩:∃ y,m[k]? = some y:=⟨_,List.getElem?_eq_getElem hkm⟩
  obtain ⟨b,off,rfl,hc⟩:∃ b off,A = some ⟨b,off,none⟩/\w.cell? ⟨b,off + k,none⟩ = some (.int .u32 (x:Int)):=by
   rcases HA.out with h | ⟨b,off,h,_,hc⟩
   ·subst h; simp at hkl
   exact ⟨b,off,h,hc k x hx⟩
  obtain ⟨b',off',rfl,hc'⟩:∃ b off,B = some ⟨b,off,none⟩/\w.cell? ⟨b,off + k,none⟩ = some (.int .u32 (y:Int)):=by
   rcases HB.out with h | ⟨b,off,h,_,hc⟩
   ·subst h; simp at hkm
   exact ⟨b,off,h,hc k y hy⟩
  have HX:=Lib.hid hx
  have HY:=Lib.hid hy
  clear hx hy hkl hkm
  by_cases hxy:x = y
  ·subst hxy
   have hne:((x:Int) != (x:Int)) = false:=by simp
   go_wp2_with fail
   go_quiet (fail)
   go_wp2_with fail
   go_roundg g
   case measure=>omega
   case rel=>exact ⟨k + 1,⟨_,rfl⟩,rfl,by omega,Lib.hid (by rw [take_succ_get l HX.out,take_succ_get m HY.out,HD.out])⟩
  have hne:((x:Int) != (y:Int)) = true:=by simp; omega
  have HF:Hid (decide (val l = val m) = false):=Lib.hid (decide_eq_false (fun h=>hxy (by
   have:=HEQ.out.1 h
   have h1:=HX.out
   rw [this,HY.out] at h1
   injection h1 with h1
   exact h1.symm)))
  go_wp2_with fail
  go_quiet (fail)
  go_wp2_with fail
  go_ret
  exact ⟨below_drewN (below_drewN (Below.refl _ _) _) _,ret_bool HF.out.symm⟩
 have hne':((n:Int) != (p:Int)) = true:=by simp; omega
 have HF:Hid (decide (val l = val m) = false):=Lib.hid (decide_eq_false (fun h=>hne (by rw [<- HN.out,<- HQ.out,HEQ.out.1 h])))
 go_enter Tryz.func80,Tryz.ntmps80
 go_wp2_with fail
 go_ret
 exact ⟨Below.refl _ _,ret_bool HF.out.symm⟩
theorem drop_div (l:List Nat)(h:Ok l) (k:Nat):val l / 4294967296 ^ k = val (l.drop k):=by
 rcases Nat.lt_or_ge l.length k with hk | hk
 ·have h1:=val_lt l h
  have h2:4294967296 ^ l.length <= 4294967296 ^ k:=Nat.pow_le_pow_right (by omega) (by omega)
  rw [List.drop_eq_nil_of_le (by omega),Nat.div_eq_of_lt (by omega)]
  rfl
 have e:=val_take_drop l k hk
 have h1:=val_lt _ (h.take k)
 rw [List.length_take,Nat.min_eq_left hk] at h1
 rw [e,Nat.add_mul_div_left _ _ (Nat.pow_pos (by omega)),Nat.div_eq_of_lt h1]
 omega
theorem drop_split (l:List Nat) (k:Nat):∃ t,val (l.drop k) = l.getD k 0 + 4294967296 * t:=by
 rcases Nat.lt_or_ge k l.length with hk | hk
 ·refine ⟨val (l.drop (k + 1)),?_⟩
  rw [List.drop_eq_getElem_cons hk,List.getD_eq_getElem?_getD,List.getElem?_eq_getElem hk]
  rfl
 refine ⟨0,?_⟩
 rw [List.drop_eq_nil_of_le hk,List.getD_eq_getElem?_getD,List.getElem?_eq_none_iff.2 hk]
 rfl
theorem pow_i (k r:Nat):2 ^ (32 * k + r) = 4294967296 ^ k * 2 ^ r:=by rw [Nat.pow_add,Nat.pow_mul]
theorem two_split {r:Nat} (hr:r < 32):(4294967296:Nat) = 2 ^ (r + 1) * 2 ^ (31 - r):=by
 rw [<- Nat.pow_add,show r + 1 + (31 - r) = 32 by omega]

theorem bit_val {l:List Nat} (h:Ok l) {k r x:Nat} (hx:l.getD k 0 = x)(hr:r < 32):val l / 2 ^ (32 * k + r) % 2 = x / 2 ^ r % 2:=by
 obtain ⟨t,ht⟩:=drop_split l k
 rw [pow_i,<- Nat.div_div_eq_div_mul,drop_div l h,ht,hx]
 have e:4294967296 * t = 2 ^ r * (2 * (2 ^ (31 - r) * t)):=by
  conv=>lhs; rw [two_split hr,Nat.pow_succ]
  grind
 rw [e,Nat.add_mul_div_left _ _ (Nat.two_pow_pos r)]
 omega

theorem set_bit {o:List Nat} (h:Ok o) {k r q d:Nat} (hr:r < 32)(hk:k < o.length)(hv:val o = q * 2 ^ (32 * k + r + 1))(hd:o.getD k 0 = d) :
  d ||| 2 ^ r = d + 2 ^ r/\d + 2 ^ r < 4294967296/\val (o.set k (d + 2 ^ r)) = val o + 2 ^ (32 * k + r):=by
 have hdl:d < 4294967296:=by rw [<- hd]; exact h.getD k
 obtain ⟨t,ht⟩:=drop_split o k
 have e0:=drop_div o h k
 rw [hd] at ht
 rw [hv,ht,show 32 * k + r + 1 = 32 * k + (r + 1) by omega,pow_i,show q * (4294967296 ^ k * 2 ^ (r + 1)) = 4294967296 ^ k * (q * 2 ^ (r + 1)) by grind,Nat.mul_div_cancel_left _ (Nat.pow_pos (by omega))] at e0
 have hs:=two_split hr
 obtain ⟨c,hc⟩:2 ^ (r + 1) ∣ d:=by
  have h1:2 ^ (r + 1) ∣ d + 4294967296 * t:=⟨q,by rw [<- e0]; grind⟩
  have h2:2 ^ (r + 1) ∣ 4294967296 * t:=⟨2 ^ (31 - r) * t,by
   conv=>lhs; rw [hs]
   rw [Nat.mul_assoc]⟩
  exact (Nat.dvd_add_iff_left h2).2 h1
 have hp:2 ^ r < 2 ^ (r + 1):=Nat.pow_lt_pow_right (by omega) (by omega)
 have hc2:c < 2 ^ (31 - r):=by
  rcases Nat.lt_or_ge c (2 ^ (31 - r)) with h | h
  ·exact h
  have:=Nat.mul_le_mul_left (2 ^ (r + 1)) h
  omega
 refine ⟨?_,?_,?_⟩
 ·rw [hc,Nat.or_comm,or_add hp,Nat.add_comm]
 ·have:=Nat.mul_le_mul_left (2 ^ (r + 1)) (show c + 1 <= 2 ^ (31 - r) from hc2)
  rw [Nat.mul_add,Nat.mul_one,<- hs] at this
  omega
 have hdk:o[k]? = some d:=by rw [<- hd,List.getD_eq_getElem?_getD,List.getElem?_eq_getElem hk]; rfl
 have e:=val_set (d + 2 ^ r) hdk
 rw [pow_i]
 grind

def BitTo (A b R:Nat) (o:List Nat) (n j:Nat):Prop:=Ok o/\o.length = n/\val o = A / 2 ^ j / b * 2 ^ j/\R = A / 2 ^ j % b
theorem BitTo.start {A b n j:Nat} (hA:A < 2 ^ j):BitTo A b 0 (List.replicate n 0) n j :=
 ⟨Ok.replicate _,by simp,by rw [val_replicate,Nat.div_eq_of_lt hA]; simp,by rw [Nat.div_eq_of_lt hA]; simp⟩
theorem BitTo.done {A b R n:Nat} {o:List Nat} (h:BitTo A b R o n 0):val o = A / b/\R = A % b:=by
 obtain ⟨_,_,h3,h4⟩:=h
 simpa using And.intro h3 h4
theorem half_up (A i:Nat):A / 2 ^ i = 2 * (A / 2 ^ (i + 1)) + A / 2 ^ i % 2:=by
 have:A / 2 ^ (i + 1) = A / 2 ^ i / 2:=by rw [Nat.pow_succ,Nat.div_div_eq_div_mul]
 omega
theorem BitTo.skip {A b R n i c:Nat} {o:List Nat} (h:BitTo A b R o n (i + 1))(hc:A / 2 ^ i % 2 = c)(hlt:R + R + c < b):BitTo A b (R + R + c) o n i:=by
 obtain ⟨h1,h2,h3,h4⟩:=h
 have e:=half_up A i
 rw [hc] at e
 have e2:=Nat.div_add_mod (A / 2 ^ (i + 1)) b
 generalize A / 2 ^ (i + 1) = X at *
 have e3:A / 2 ^ i = b * (2 * (X / b)) + (R + R + c):=by rw [e,h4]; grind
 refine ⟨h1,h2,?_,?_⟩
 ·rw [e3,Nat.mul_add_div (by omega),Nat.div_eq_of_lt hlt,h3,Nat.pow_succ]
  grind
 rw [e3,Nat.mul_add_mod,Nat.mod_eq_of_lt hlt]
theorem BitTo.step {A b R n k r c d:Nat} {o:List Nat} (h:BitTo A b R o n (32 * k + r + 1))(hr:r < 32)(hk:k < n)(hb:0 < b)(hc:A / 2 ^ (32 * k + r) % 2 = c)(hge:b <= R + R + c)(hd:o.getD k 0 = d) :
  d ||| 2 ^ r = d + 2 ^ r/\BitTo A b (R + R + c - b) (o.set k (d + 2 ^ r)) n (32 * k + r):=by
 obtain ⟨h1,h2,h3,h4⟩:=h
 obtain ⟨s1,s2,s3⟩:=set_bit h1 hr (by omega) h3 hd
 refine ⟨s1,h1.set _ _ s2,by simpa using h2,?_,?_⟩
 all_goals
  have e:=half_up A (32 * k + r)
  rw [hc] at e
  have e2:=Nat.div_add_mod (A / 2 ^ (32 * k + r + 1)) b
  have hR:R < b:=by rw [h4]; exact Nat.mod_lt _ hb
  have hlt:R + R + c - b < b:=by omega
  generalize A / 2 ^ (32 * k + r + 1) = X at *
  have e3:A / 2 ^ (32 * k + r) = b * (2 * (X / b) + 1) + (R + R + c - b):=by
   rw [e]
   obtain ⟨T,hT⟩:∃ T,R + R + c = b + T:=⟨R + R + c - b,by omega⟩
   rw [hT,Nat.add_sub_cancel_left]
   grind
 ·rw [s3,h3,e3,Nat.mul_add_div (by omega),Nat.div_eq_of_lt hlt,Nat.pow_succ]
  grind
 rw [e3,Nat.mul_add_mod,Nat.mod_eq_of_lt hlt]
end Go.Proofs.YtdehimgccmbfkaaGreat
