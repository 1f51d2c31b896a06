/- Lemmas. -/
import Derived.Test.YtjebfdfkjlkifaaGreatR06
import Derived.Test.YtjebfdfkjlkifaaGreatR10
set_option linter.all false
set_option maxRecDepth 1000000
set_option maxHeartbeats 32000000
namespace Go.Proofs.YtjebfdfkjlkifaaGreat
open Go.RowKit
theorem jM {a b G:Nat} (h:Nat.gcd a b = G)(hG:G % 2 = 1)(ha:a % 2 = 0):Nat.gcd (a / 2) b = G:=by
 obtain ⟨c,rfl⟩:∃ c,a = 2 * c:=⟨a / 2,by omega⟩
 rw [Nat.mul_div_cancel_left _ (by omega)]
 apply Nat.dvd_antisymm
 ·rw [<- h]; exact Nat.dvd_gcd (Nat.dvd_trans (Nat.gcd_dvd_left _ _) (Nat.dvd_mul_left _ _)) (Nat.gcd_dvd_right _ _)
 have hco:Nat.Coprime G 2:=by
  rw [Nat.coprime_comm,Nat.Coprime,Nat.gcd_rec,hG]; rfl
 refine Nat.dvd_gcd ?_ ?_
 ·have:G ∣ 2 * c:=by rw [<- h]; exact Nat.gcd_dvd_left _ _
  exact hco.dvd_of_dvd_mul_left this
 rw [<- h]; exact Nat.gcd_dvd_right _ _
theorem kU {a b G:Nat} (h:Nat.gcd a b = G)(hG:G % 2 = 1)(hb:b % 2 = 0):Nat.gcd a (b / 2) = G:=by
 rw [Nat.gcd_comm] at h ⊢
 exact jM h hG hb
theorem gj {a b G:Nat} (h:Nat.gcd a b = G)(hle:a <= b):Nat.gcd a (b - a) = G:=by
 rw [<- h,Nat.gcd_sub_self_right hle]
theorem pi {a b:Nat} (h:¬ (a % 2 = 0/\b % 2 = 0)):Nat.gcd a b % 2 = 1:=by
 rcases Nat.mod_two_eq_zero_or_one (Nat.gcd a b) with e | e
 ·exfalso
  have h2:2 ∣ Nat.gcd a b:=Nat.dvd_of_mod_eq_zero e
  exact h ⟨Nat.mod_eq_zero_of_dvd (Nat.dvd_trans h2 (Nat.gcd_dvd_left _ _)),Nat.mod_eq_zero_of_dvd (Nat.dvd_trans h2 (Nat.gcd_dvd_right _ _))⟩
 exact e

theorem pk (x j:Nat):x * 2 ^ j + x * 2 ^ j = x * 2 ^ (j + 1):=by
 rw [Nat.pow_succ]; grind
theorem na {a a' t:Nat} (h:a' % 2 = 0) (e:a = a' * 2 ^ t):a = a' / 2 * 2 ^ (t + 1):=by
 obtain ⟨c,rfl⟩:∃ c,a' = 2 * c:=⟨a' / 2,by omega⟩
 rw [Nat.mul_div_cancel_left _ (by omega),e,Nat.pow_succ]
 grind

theorem wY (w:World) (va vb:Value) (a b k:Nat)(ha:NatAt w va a)(hb:NatAt w vb b) (la:a < 2 ^ k) (lb:b < 2 ^ k) (a0:a ≠ 0) (b0:b ≠ 0)(hk:k <= 70368744177664) :
  Calls Tryz.prog 142 #[va,vb] w fun e w'=>∃ v',e = .returned v'/\NatAt w' v' (Nat.gcd a b)/\Below w.heap.size w w':=by
 obtain ⟨A,n,ca,rfl,hA1⟩:=ha.len
 obtain ⟨B,p,cb,rfl,hB1⟩:=hb.len
 go_enter Tryz.func142,Tryz.ntmps142
 go_wp2_with fail
 have HA0:=aH ha
 have HB0:=aH hb
 clear ha hb hA1 hB1
 go_loopg [0,1,5] k (fun g va vb t wr=>∃ (a' b' tw:Nat),t = .int .i64 tw/\Hd (NatAt wr va a')/\Hd (NatAt wr vb b')/\Hd (a = a' * 2 ^ tw)/\Hd (b = b' * 2 ^ tw)/\tw + g = k/\Hd (Below w.heap.size w wr))
 case atStart=>exact ⟨a,b,0,rfl,HA0,HB0,aH (by simp),aH (by simp),by omega,aH (Below.refl _ _)⟩
 obtain ⟨a',b',tw,rfl,HA,HB,HEA,HEB,htw,HBE⟩:=hrel
 have hla:a' < 2 ^ k:=lL (by rw [HEA.o]; exact Nat.le_mul_of_pos_right _ (Nat.two_pow_pos _)) la
 have hlb:b' < 2 ^ k:=lL (by rw [HEB.o]; exact Nat.le_mul_of_pos_right _ (Nat.two_pow_pos _)) lb
 have ha0:a' ≠ 0:=fun e=>a0 (by rw [HEA.o,e,Nat.zero_mul])
 have hb0:b' ≠ 0:=fun e=>b0 (by rw [HEB.o,e,Nat.zero_mul])
 have HT:tw < k:=by
  have h1:1 * 2 ^ tw <= a' * 2 ^ tw:=Nat.mul_le_mul_right _ (by omega)
  have h2:2 ^ tw < 2 ^ k:=by have:=HEA.o; omega
  exact (Nat.pow_lt_pow_iff_right (by omega)).1 h2
 have EA:=kW wr _ a' HA.o
 have EB:=kW wr _ b' HB.o
 have LA:=aH hla
 have LB:=aH hlb
 have LA0:=aH la
 have LB0:=aH lb
 clear hla hlb
 by_cases h1:a' % 2 = 0
 ·rw [dT h1] at EA
  by_cases h2:b' % 2 = 0
  ·rw [dT h2] at EB
   obtain ⟨g,rfl⟩:∃ g,gk = g + 1:=⟨gk - 1,by omega⟩
   go_wp2_with fail
   refine EA.mono ?_
   rintro e w1 ⟨rfl,rfl⟩
   go_wp2_with fail
   refine EB.mono ?_
   rintro e w2 ⟨rfl,rfl⟩
   go_wp2_with fail
   refine (kT _ _ a' k HA.o LA.o hk).mono ?_
   rintro e w3 ⟨v3,rfl,t3,hb3,f3⟩
   have T3:=aH t3
   have B3:=aH (HBE.o.trans (hb3.mono HBE.o.size))
   have T3b:=aH (HB.o.below hb3)
   clear t3 hb3 f3
   go_wp2_with fail
   refine (kT _ _ b' k T3b.o LB.o hk).mono ?_
   rintro e w4 ⟨v4,rfl,t4,hb4,f4⟩
   have T4:=aH t4
   have B4:=aH (B3.o.trans (hb4.mono B3.o.size))
   have T4a:=aH (T3.o.below hb4)
   clear t4 hb4 f4
   go_wp2_with fail
   go_roundg g
   case measure=>omega
   case rel=>exact ⟨a' / 2,b' / 2,tw + 1,rfl,T4a,T4,aH (na h1 HEA.o),aH (na h2 HEB.o),by omega,B4⟩
  rw [dF h2] at EB
  go_wp2_with fail
  refine EA.mono ?_
  rintro e w1 ⟨rfl,rfl⟩
  go_wp2_with fail
  refine EB.mono ?_
  rintro e w2 ⟨rfl,rfl⟩
  go_wp2_with fail
  have HG:=aH (pi (a:=a') (b:=b') (by omega))
  go_loopg [0,1] (a' + b') (fun g va vb wr=>∃ (x y:Nat),Hd (NatAt wr va x)/\Hd (NatAt wr vb y)/\Hd (Nat.gcd x y = Nat.gcd a' b')/\x ≠ 0/\Hd (x < 2 ^ k)/\Hd (y < 2 ^ k)/\x + y <= g/\Hd (Below w.heap.size w wr))
  case atStart=>exact ⟨a',b',HA,HB,aH rfl,ha0,LA,LB,nR _,HBE⟩
  obtain ⟨x,y,HX,HY,HXY,hx0,LX,LY,hxy,HBX⟩:=hrel
  obtain ⟨Ay,py,cy,rfl,hpy,hpy0⟩:=HY.o.len
  rcases zP y with hy | hy
  ·subst hy
   have hp0:py = 0:=by omega
   subst hp0
   go_wp2_with fail
   have HE:Hd (Nat.gcd a b = x * 2 ^ tw):=aH (by rw [HEA.o,HEB.o,Nat.gcd_mul_right,<- HXY.o,Nat.gcd_zero_right])
   have hle:x * 2 ^ tw <= a:=by rw [<- HE.o]; exact Nat.gcd_le_left _ (by omega)
   have HLE:=aH hle
   clear hle
   go_loopg [0,6] tw (fun g va i wr=>∃ (j:Nat),i = .int .i64 j/\j + g = tw/\Hd (NatAt wr va (x * 2 ^ j))/\Hd (Below w.heap.size w wr))
   case atStart=>exact ⟨0,rfl,by omega,aH (by simpa using HX.o),HBX⟩
   obtain ⟨j,rfl,hj,HXJ,HBJ⟩:=hrel
   rcases zP gk with h | h
   ·obtain rfl:j = tw:=by omega
    go_wp2_with fail
    go_ret
    exact ⟨_,rfl,HE.o ▸ HXJ.o,HBJ.o⟩
   obtain ⟨g,rfl⟩:∃ g,gk = g + 1:=⟨gk - 1,by omega⟩
   have LJ:Hd (x * 2 ^ j < 2 ^ k):=aH (lL (Nat.le_trans (Nat.mul_le_mul_left _ (Nat.pow_le_pow_right (by omega) (by omega))) HLE.o) LA0.o)
   go_wp2_with fail
   refine (mQ _ _ _ _ _ k HXJ.o HXJ.o LJ.o LJ.o hk).mono ?_
   rintro e w3 ⟨v3,rfl,t3,hb3,f3⟩
   have T3:=aH t3
   have B3:=aH (HBJ.o.trans (hb3.mono HBJ.o.size))
   clear t3 hb3 f3
   go_wp2_with fail
   go_roundg g
   case measure=>omega
   case rel=>exact ⟨j + 1,rfl,by omega,aH (pk x j ▸ T3.o),B3⟩
  have hp1:0 < py:=hpy0.2 hy
  clear hpy0
  obtain ⟨wo,rfl⟩:∃ wo:World,wo = wr:=⟨_,rfl⟩
  go_wp2_with fail
  go_loopg [0] x (fun g va wr=>∃ (x':Nat),Hd (NatAt wr va x')/\Hd (NatAt wr (.slice Ay py cy) y)/\Hd (Nat.gcd x' y = Nat.gcd a' b')/\x' ≠ 0/\x' <= x/\x' <= g/\Hd (Below w.heap.size w wr))
  case atStart=>exact ⟨x,HX,HY,HXY,hx0,nR _,nR _,HBX⟩
  obtain ⟨x',HX',HY',HXY',hx0',hxx,hgx,HBX'⟩:=hrel
  have EX:=kW wr _ x' HX'.o
  by_cases he:x' % 2 = 0
  ·rw [dT he] at EX
   go_wp2_with fail
   refine EX.mono ?_
   rintro e w1 ⟨rfl,rfl⟩
   go_wp2_with fail
   refine (kT _ _ x' k HX'.o (lL hxx LX.o) hk).mono ?_
   rintro e w3 ⟨v3,rfl,t3,hb3,f3⟩
   have T3:=aH t3
   have B3:=aH (HBX'.o.trans (hb3.mono HBX'.o.size))
   have T3b:=aH (HY'.o.below hb3)
   clear t3 hb3 f3
   go_wp2_with fail
   go_roundg (x' / 2)
   case measure=>omega
   case rel=>exact ⟨x' / 2,T3,T3b,aH (jM HXY'.o HG.o he),by omega,by omega,by omega,B3⟩
  rw [dF he] at EX
  go_wp2_with fail
  refine EX.mono ?_
  rintro e w1 ⟨rfl,rfl⟩
  obtain ⟨wp,rfl⟩:∃ wp:World,wp = w1:=⟨_,rfl⟩
  go_wp2_with fail
  go_loopg [1] y (fun g vb wr=>∃ (y':Nat),Hd (NatAt wr u0 x')/\Hd (NatAt wr vb y')/\Hd (Nat.gcd x' y' = Nat.gcd a' b')/\y' ≠ 0/\y' <= y/\y' <= g/\Hd (Below w.heap.size w wr))
  case atStart=>exact ⟨y,HX',HY',HXY',by omega,nR _,nR _,HBX'⟩
  obtain ⟨y',HX2,HY2,HXY2,hy0',hyy,hgy,HBX2⟩:=hrel
  have EY:=kW wr _ y' HY2.o
  by_cases hf:y' % 2 = 0
  ·rw [dT hf] at EY
   go_wp2_with fail
   refine EY.mono ?_
   rintro e w1 ⟨rfl,rfl⟩
   go_wp2_with fail
   refine (kT _ _ y' k HY2.o (lL hyy LY.o) hk).mono ?_
   rintro e w3 ⟨v3,rfl,t3,hb3,f3⟩
   have T3:=aH t3
   have B3:=aH (HBX2.o.trans (hb3.mono HBX2.o.size))
   have T3b:=aH (HX2.o.below hb3)
   clear t3 hb3 f3
   go_wp2_with fail
   go_roundg (y' / 2)
   case measure=>omega
   case rel=>exact ⟨y' / 2,T3b,T3,aH (kU HXY2.o HG.o hf),by omega,by omega,by omega,B3⟩
  rw [dF hf] at EY
  have OR:=jz wr _ _ x' y' HX2.o HY2.o
  rcases Nat.lt_or_ge y' x' with hlt | hge
  ·rw [fc hlt] at OR
   go_wp2_with fail
   refine EY.mono ?_
   rintro e w1 ⟨rfl,rfl⟩
   go_wp2_with fail
   refine OR.mono ?_
   rintro e w2 ⟨rfl,nd,rfl⟩
   go_wp2_with fail
   refine (gK _ _ _ x' y' k (HX2.o.drewN nd) (HY2.o.drewN nd) (lL hxx LX.o) (by omega) hk).mono ?_
   rintro e w3 ⟨v3,rfl,t3,hb3,f3⟩
   have hb3':=ar hb3
   have T3:=aH t3
   have B3:=aH (HBX2.o.trans (hb3'.mono HBX2.o.size))
   have T3b:=aH (HY2.o.below hb3')
   clear t3 hb3 hb3' f3
   go_wp2_with fail
   go_roundg (y' + (x' - y'))
   case measure=>omega
   case rel=>exact ⟨y',x' - y',T3b,T3,aH (gj (by rw [Nat.gcd_comm]; exact HXY2.o) (by omega)),hy0',aH (lL hyy LY.o),aH (lL (by omega) LX.o),nR _,B3⟩
  have hcm:(decide ((0:Int) < dX x' y')) = false:=by
   rcases Nat.lt_or_ge x' y' with h | h
   ·rw [d9 h]; rfl
   rw [show x' = y' by omega,ir]; rfl
  generalize dX x' y' = cm at *
  go_wp2_with fail
  refine EY.mono ?_
  rintro e w1 ⟨rfl,rfl⟩
  go_wp2_with fail
  refine OR.mono ?_
  rintro e w2 ⟨rfl,nd,rfl⟩
  go_wp2_with fail
  refine (gK _ _ _ y' x' k (HY2.o.drewN nd) (HX2.o.drewN nd) (lL hyy LY.o) hge hk).mono ?_
  rintro e w3 ⟨v3,rfl,t3,hb3,f3⟩
  have hb3':=ar hb3
  have T3:=aH t3
  have B3:=aH (HBX2.o.trans (hb3'.mono HBX2.o.size))
  have T3b:=aH (HX2.o.below hb3')
  clear t3 hb3 hb3' f3
  go_wp2_with fail
  go_roundg (x' + (y' - x'))
  case measure=>omega
  case rel=>exact ⟨x',y' - x',T3b,T3,aH (gj HXY2.o hge),hx0',aH (lL hxx LX.o),aH (lL (by omega) LY.o),nR _,B3⟩
 rw [dF h1] at EA
 go_wp2_with fail
 refine EA.mono ?_
 rintro e w1 ⟨rfl,rfl⟩
 go_wp2_with fail
 have HG:=aH (pi (a:=a') (b:=b') (by omega))
 go_loopg [0,1] (a' + b') (fun g va vb wr=>∃ (x y:Nat),Hd (NatAt wr va x)/\Hd (NatAt wr vb y)/\Hd (Nat.gcd x y = Nat.gcd a' b')/\x ≠ 0/\Hd (x < 2 ^ k)/\Hd (y < 2 ^ k)/\x + y <= g/\Hd (Below w.heap.size w wr))
 case atStart=>exact ⟨a',b',HA,HB,aH rfl,ha0,LA,LB,nR _,HBE⟩
 obtain ⟨x,y,HX,HY,HXY,hx0,LX,LY,hxy,HBX⟩:=hrel
 obtain ⟨Ay,py,cy,rfl,hpy,hpy0⟩:=HY.o.len
 rcases zP y with hy | hy
 ·subst hy
  have hp0:py = 0:=by omega
  subst hp0
  go_wp2_with fail
  have HE:Hd (Nat.gcd a b = x * 2 ^ tw):=aH (by rw [HEA.o,HEB.o,Nat.gcd_mul_right,<- HXY.o,Nat.gcd_zero_right])
  have hle:x * 2 ^ tw <= a:=by rw [<- HE.o]; exact Nat.gcd_le_left _ (by omega)
  have HLE:=aH hle
  clear hle
  go_loopg [0,6] tw (fun g va i wr=>∃ (j:Nat),i = .int .i64 j/\j + g = tw/\Hd (NatAt wr va (x * 2 ^ j))/\Hd (Below w.heap.size w wr))
  case atStart=>exact ⟨0,rfl,by omega,aH (by simpa using HX.o),HBX⟩
  obtain ⟨j,rfl,hj,HXJ,HBJ⟩:=hrel
  rcases zP gk with h | h
  ·obtain rfl:j = tw:=by omega
   go_wp2_with fail
   go_ret
   exact ⟨_,rfl,HE.o ▸ HXJ.o,HBJ.o⟩
  obtain ⟨g,rfl⟩:∃ g,gk = g + 1:=⟨gk - 1,by omega⟩
  have LJ:Hd (x * 2 ^ j < 2 ^ k):=aH (lL (Nat.le_trans (Nat.mul_le_mul_left _ (Nat.pow_le_pow_right (by omega) (by omega))) HLE.o) LA0.o)
  go_wp2_with fail
  refine (mQ _ _ _ _ _ k HXJ.o HXJ.o LJ.o LJ.o hk).mono ?_
  rintro e w3 ⟨v3,rfl,t3,hb3,f3⟩
  have T3:=aH t3
  have B3:=aH (HBJ.o.trans (hb3.mono HBJ.o.size))
  clear t3 hb3 f3
  go_wp2_with fail
  go_roundg g
  case measure=>omega
  case rel=>exact ⟨j + 1,rfl,by omega,aH (pk x j ▸ T3.o),B3⟩
 have hp1:0 < py:=hpy0.2 hy
 clear hpy0
 obtain ⟨wo,rfl⟩:∃ wo:World,wo = wr:=⟨_,rfl⟩
 go_wp2_with fail
 go_loopg [0] x (fun g va wr=>∃ (x':Nat),Hd (NatAt wr va x')/\Hd (NatAt wr (.slice Ay py cy) y)/\Hd (Nat.gcd x' y = Nat.gcd a' b')/\x' ≠ 0/\x' <= x/\x' <= g/\Hd (Below w.heap.size w wr))
 case atStart=>exact ⟨x,HX,HY,HXY,hx0,nR _,nR _,HBX⟩
 obtain ⟨x',HX',HY',HXY',hx0',hxx,hgx,HBX'⟩:=hrel
 have EX:=kW wr _ x' HX'.o
 by_cases he:x' % 2 = 0
 ·rw [dT he] at EX
  go_wp2_with fail
  refine EX.mono ?_
  rintro e w1 ⟨rfl,rfl⟩
  go_wp2_with fail
  refine (kT _ _ x' k HX'.o (lL hxx LX.o) hk).mono ?_
  rintro e w3 ⟨v3,rfl,t3,hb3,f3⟩
  have T3:=aH t3
  have B3:=aH (HBX'.o.trans (hb3.mono HBX'.o.size))
  have T3b:=aH (HY'.o.below hb3)
  clear t3 hb3 f3
  go_wp2_with fail
  go_roundg (x' / 2)
  case measure=>omega
  case rel=>exact ⟨x' / 2,T3,T3b,aH (jM HXY'.o HG.o he),by omega,by omega,by omega,B3⟩
 rw [dF he] at EX
 go_wp2_with fail
 refine EX.mono ?_
 rintro e w1 ⟨rfl,rfl⟩
 obtain ⟨wp,rfl⟩:∃ wp:World,wp = w1:=⟨_,rfl⟩
 go_wp2_with fail
 go_loopg [1] y (fun g vb wr=>∃ (y':Nat),Hd (NatAt wr u0 x')/\Hd (NatAt wr vb y')/\Hd (Nat.gcd x' y' = Nat.gcd a' b')/\y' ≠ 0/\y' <= y/\y' <= g/\Hd (Below w.heap.size w wr))
 case atStart=>exact ⟨y,HX',HY',HXY',by omega,nR _,nR _,HBX'⟩
 obtain ⟨y',HX2,HY2,HXY2,hy0',hyy,hgy,HBX2⟩:=hrel
 have EY:=kW wr _ y' HY2.o
 by_cases hf:y' % 2 = 0
 ·rw [dT hf] at EY
  go_wp2_with fail
  refine EY.mono ?_
  rintro e w1 ⟨rfl,rfl⟩
  go_wp2_with fail
  refine (kT _ _ y' k HY2.o (lL hyy LY.o) hk).mono ?_
  rintro e w3 ⟨v3,rfl,t3,hb3,f3⟩
  have T3:=aH t3
  have B3:=aH (HBX2.o.trans (hb3.mono HBX2.o.size))
  have T3b:=aH (HX2.o.below hb3)
  clear t3 hb3 f3
  go_wp2_with fail
  go_roundg (y' / 2)
  case measure=>omega
  case rel=>exact ⟨y' / 2,T3b,T3,aH (kU HXY2.o HG.o hf),by omega,by omega,by omega,B3⟩
 rw [dF hf] at EY
 have OR:=jz wr _ _ x' y' HX2.o HY2.o
 rcases Nat.lt_or_ge y' x' with hlt | hge
 ·rw [fc hlt] at OR
  go_wp2_with fail
  refine EY.mono ?_
  rintro e w1 ⟨rfl,rfl⟩
  go_wp2_with fail
  refine OR.mono ?_
  rintro e w2 ⟨rfl,nd,rfl⟩
  go_wp2_with fail
  refine (gK _ _ _ x' y' k (HX2.o.drewN nd) (HY2.o.drewN nd) (lL hxx LX.o) (by omega) hk).mono ?_
  rintro e w3 ⟨v3,rfl,t3,hb3,f3⟩
  have hb3':=ar hb3
  have T3:=aH t3
  have B3:=aH (HBX2.o.trans (hb3'.mono HBX2.o.size))
  have T3b:=aH (HY2.o.below hb3')
  clear t3 hb3 hb3' f3
  go_wp2_with fail
  go_roundg (y' + (x' - y'))
  case measure=>omega
  case rel=>exact ⟨y',x' - y',T3b,T3,aH (gj (by rw [Nat.gcd_comm]; exact HXY2.o) (by omega)),hy0',aH (lL hyy LY.o),aH (lL (by omega) LX.o),nR _,B3⟩
 have hcm:(decide ((0:Int) < dX x' y')) = false:=by
  rcases Nat.lt_or_ge x' y' with h | h
  ·rw [d9 h]; rfl
  rw [show x' = y' by omega,ir]; rfl
 generalize dX x' y' = cm at *
 go_wp2_with fail
 refine EY.mono ?_
 rintro e w1 ⟨rfl,rfl⟩
 go_wp2_with fail
 refine OR.mono ?_
 rintro e w2 ⟨rfl,nd,rfl⟩
 go_wp2_with fail
 refine (gK _ _ _ y' x' k (HY2.o.drewN nd) (HX2.o.drewN nd) (lL hyy LY.o) hge hk).mono ?_
 rintro e w3 ⟨v3,rfl,t3,hb3,f3⟩
 have hb3':=ar hb3
 have T3:=aH t3
 have B3:=aH (HBX2.o.trans (hb3'.mono HBX2.o.size))
 have T3b:=aH (HX2.o.below hb3')
 clear t3 hb3 hb3' f3
 go_wp2_with fail
 go_roundg (x' + (y' - x'))
 case measure=>omega
 case rel=>exact ⟨x',y' - x',T3b,T3,aH (gj HXY2.o hge),hx0',aH (lL hxx LX.o),aH (lL (by omega) LY.o),nR _,B3⟩
def ck:Nat->Nat
 | 0=>0
 | n + 1=>ck ((n + 1) / 2) + 1
theorem gu {n:Nat} (h:n ≠ 0):ck n = ck (n / 2) + 1:=by
 obtain ⟨m,rfl⟩:∃ m,n = m + 1:=⟨n - 1,by omega⟩
 rw [ck]
theorem nG (k:Nat) {x:Nat} (r:Nat)(h:x ≠ 0)(hr:r < 2 ^ k):ck (r + 2 ^ k * x) = k + ck x:=by
 induction k generalizing r with
 | zero =>
  have:r = 0:=by simp at hr; exact hr
  subst this
  simp
 | succ k ih =>
  have hp:=Nat.two_pow_pos k
  have hx:2 ^ (k + 1) * x = 2 * (2 ^ k * x):=by rw [Nat.pow_succ]; grind
  have h1:1 <= 2 ^ k * x:=Nat.mul_pos hp (by omega)
  rw [gu (by omega),hx,show (r + 2 * (2 ^ k * x)) / 2 = r / 2 + 2 ^ k * x by omega,ih (r / 2) (by rw [Nat.pow_succ] at hr; omega)]
  omega
theorem q8 {l:List Nat} {j d:Nat} (hok:Ok l)(hl:l.length = j + 1)(hd:l[j]? = some d)(h0:d ≠ 0):ck (val l) = 32 * j + ck d:=by
 have e:l = l.take j ++ [d]:=by rw [<- ah l hd,tL (by omega)]
 have hlt:(l.take j).length = j:=by rw [List.length_take]; omega
 rw [e,bL,hlt,show (4294967296:Nat) ^ j = 2 ^ (32 * j) by rw [Nat.pow_mul]]
 refine nG _ _ h0 ?_
 have:=de _ (hok.take j)
 rw [hlt] at this
 rwa [Nat.pow_mul]
theorem sp (n:Nat):n < 2 ^ ck n:=by
 induction n using Nat.strongRecOn with
 | ind n ih =>
  rcases zP n with h | h
  ·subst h; simp [ck]
  rw [gu (by omega),Nat.pow_succ]
  have:=ih (n / 2) (by omega)
  omega

theorem jY {n k:Nat} (h:n < 2 ^ k):ck n <= k:=by
 induction k generalizing n with
 | zero =>
  have:n = 0:=by simp at h; exact h
  subst this
  simp [ck]
 | succ k ih =>
  rcases zP n with h0 | h0
  ·subst h0; simp [ck]
  rw [gu (by omega)]
  have:=ih (n:=n / 2) (by rw [Nat.pow_succ] at h; omega)
  omega

theorem xh (w:World) (va:Value) (a k:Nat)(ha:NatAt w va a) (la:a < 2 ^ k)(hk:k <= 70368744177664) :
  Calls Tryz.prog 166 #[va] w fun e w'=>w' = w/\e = .returned (.int .i64 (ck a:Int)):=by
 have TA:Hd (∀ W,W = w->Calls Tryz.prog 98 #[va] W fun e w'=>w' = W/\e = .returned va):=aH (fun W e=>by rw [e]; exact mg w va a ha)
 obtain ⟨l,dl,tl,rfl⟩:=ha
 have ll:=tl.length_le la
 clear la
 obtain ⟨okl,A,ca,rfl,hlc,hcm,hA⟩:=dl.open_
 clear dl
 have HA:=aH hA
 have HO:=aH okl
 have HT:=aH tl
 clear hA okl tl
 obtain ⟨n,hn⟩:=nm (l.length)
 rw [hn] at hlc ll TA ⊢
 have HN:=aH hn
 clear hn
 rcases zP n with h0 | h0
 ·subst h0
  go_enter Tryz.func166,Tryz.ntmps166
  go_wp2_with fail
  refine (TA.o _ rfl).mono ?_
  rintro e w1 ⟨hw1,rfl⟩
  cases hw1
  go_wp2_with fail
  go_ret
  refine ⟨rfl,ag ?_⟩
  rw [show l = [] by simpa using HN.o]
  simp [val,ck]
 obtain ⟨j,rfl⟩:∃ j,n = j + 1:=⟨n - 1,by omega⟩
 have hjl:j < l.length:=by rw [HN.o]; omega
 obtain ⟨d,hd⟩:∃ d,l[j]? = some d:=⟨_,eG hjl⟩
 have hd0:d ≠ 0:=by
  intro e
  subst e
  have:=HT.o
  unfold Trim at this
  rw [List.getLast?_eq_getElem?,HN.o] at this
  exact this hd
 have HBV:=aH (q8 HO.o HN.o hd hd0)
 have hdl:=HO.o.get hd
 obtain ⟨b,off,rfl,hc⟩:∃ b off,A = some ⟨b,off,none⟩/\w.cell? ⟨b,off + j,none⟩ = some (.int .u32 (d:Int)):=by
  rcases HA.o with h | ⟨b,off,h,_,hc⟩
  ·subst h; simp at hjl
  exact ⟨b,off,h,hc j d hd⟩
 clear hd hjl
 have hz:(((j + 1:Nat):Int) == 0) = false:=by simp; omega
 go_enter Tryz.func166,Tryz.ntmps166
 go_wp2_with fail
 refine (TA.o _ rfl).mono ?_
 rintro e w1 ⟨hw1,rfl⟩
 cases hw1
 go_wp2_with fail
 have hbd:ck d <= 32:=jY (by omega)
 go_loopg [3,4] d (fun g c i wr=>∃ (m x:Nat),c = .int .i64 m/\i = .int .u32 x/\m + ck x = 32 * j + ck d/\x <= g/\x < 4294967296/\wr = w)
 case atStart=>exact ⟨32 * j,d,di (by omega),rfl,rfl,nR _,hdl,rfl⟩
 obtain ⟨m,x,rfl,rfl,hm,hg,hx,rfl⟩:=hrel
 rcases zP x with h | h
 ·subst h
  have hm':m = 32 * j + ck d:=by rw [<- hm]; simp [ck]
  clear hm
  generalize ck d = q at *
  go_wp2_with fail
  go_ret
  exact ⟨rfl,ag (by rw [HBV.o]; omega)⟩
 rw [gu (by omega)] at hm
 generalize ck d = q at *
 have hx0:decide ((0:Int) < (x:Int)) = true:=dT (by omega)
 go_wp2_with fail
 go_roundg (x / 2)
 case measure=>omega
 case rel=>exact ⟨m + 1,x / 2,di (by omega),di (by omega),by omega,by omega,by omega,rfl⟩
theorem jC (w:World) (n:Nat)(hn:n < 18446744073709551616) :
  Calls Tryz.prog 95 #[.int .u64 (n:Int)] w fun e w'=>∃ v',e = .returned v'/\NatAt w' v' n/\Below w.heap.size w w':=by
 go_enter Tryz.func95,Tryz.ntmps95
 go_wp2_with fail
 have hb:=(Blk.new w 181 [Value.int .u32 ((n:Int) % 4294967296),Value.int .u32 ((n:Int) / 4294967296)]).sl (sz:=1) (n:=2) (c:=2) (by simp) (by omega) (by unfold maxLen; omega)
 have hv:val [n % 4294967296,n / 4294967296] = n:=by simp only [val]; omega
 have ho:Ok [n % 4294967296,n / 4294967296]:=by
  rw [Ok.cons,Ok.cons]
  exact ⟨by omega,by omega,Ok.nil⟩
 refine (fk _ _ [n % 4294967296,n / 4294967296] ⟨?_,ho⟩).mono ?_
 ·simpa [dg] using hb
 rintro e w1 ⟨hw1,v',rfl,h1,_,_⟩
 cases hw1
 rw [hv] at h1
 clear hb hv ho
 go_wp2
 go_ret
 exact ⟨v',rfl,h1,(Below.refl _ w).alloc (nR _) _⟩

theorem rG (w:World) (n:Nat)(hn:n < 9223372036854775808) :
  Calls Tryz.prog 96 #[.int .i64 (n:Int)] w fun e w'=>w' = w/\e = .returned (.int .u64 (n:Int)):=by
 have h0:decide ((n:Int) < 0) = false:=dF (by omega)
 go_enter Tryz.func96,Tryz.ntmps96
 go_wp2_with fail
 go_ret
 exact ⟨rfl,rfl⟩
theorem iV (w:World) (va vb:Value) (a b:Nat)(ha:NatAt w va a)(hb:NatAt w vb b) :
  Calls Tryz.prog 111 #[va,vb] w fun e w'=>Below w.heap.size w w'/\e = .returned (.bool (decide (a = b))):=by
 obtain ⟨l,dl,tl,rfl⟩:=ha
 obtain ⟨m,dm,tm,rfl⟩:=hb
 obtain ⟨okl,A,ca,rfl,hlc,hcm,hA⟩:=dl.open_
 obtain ⟨okm,B,cb,rfl,hmc,hcm',hB⟩:=dm.open_
 have HEQ:Hd (val l = val m ↔ l = m):=aH ⟨fun h=>Trim.eq_of_val okl okm tl tm h,fun h=>by rw [h]⟩
 clear dl dm tl tm okl okm
 have HA:=aH hA
 have HB:=aH hB
 clear hA hB
 obtain ⟨n,hn⟩:=nm (l.length)
 obtain ⟨p,hp⟩:=nm (m.length)
 rw [hn] at hlc ⊢
 rw [hp] at hmc ⊢
 have HN:=aH hn
 have HQ:=aH hp
 clear hn hp
 by_cases hne:n = p
 ·subst hne
  go_enter Tryz.func111,Tryz.ntmps111
  go_wp2_with fail
  go_loopg [5] n (fun g i wr=>∃ (k:Nat),(∃ d,wr = w.drewN d)/\i = .int .i64 k/\k + g = n/\Hd (l.take k = m.take k))
  case atStart=>exact ⟨0,⟨0,rfl⟩,rfl,by omega,aH (by simp)⟩
  obtain ⟨k,⟨nd,rfl⟩,rfl,hk,HD⟩:=hrel
  rcases zP gk with h | h
  ·obtain rfl:k = n:=by omega
   have HT:Hd (decide (val l = val m) = true):=aH (dT (HEQ.o.2 (by
    have:=HD.o
    rwa [tL (by rw [HN.o]; exact nR _),tL (by rw [HQ.o]; exact nR _)] at this)))
   go_wp2_with fail
   go_ret
   exact ⟨ak (Below.refl _ _) _,ai HT.o.symm⟩
  obtain ⟨g,rfl⟩:∃ g,gk = g + 1:=⟨gk - 1,by omega⟩
  have hkl:k < l.length:=by rw [HN.o]; omega
  have hkm:k < m.length:=by rw [HQ.o]; omega
  obtain ⟨x,hx⟩:∃ x,l[k]? = some x:=⟨_,eG hkl⟩
  obtain ⟨y,hy⟩:∃ y,m[k]? = some y:=⟨_,eG hkm⟩
  obtain ⟨b,off,rfl,hc⟩:∃ b off,A = some ⟨b,off,none⟩/\w.cell? ⟨b,off + k,none⟩ = some (.int .u32 (x:Int)):=by
   rcases HA.o with h | ⟨b,off,h,_,hc⟩
   ·subst h; simp at hkl
   exact ⟨b,off,h,hc k x hx⟩
  obtain ⟨b',off',rfl,hc'⟩:∃ b off,B = some ⟨b,off,none⟩/\w.cell? ⟨b,off + k,none⟩ = some (.int .u32 (y:Int)):=by
   rcases HB.o with h | ⟨b,off,h,_,hc⟩
   ·subst h; simp at hkm
   exact ⟨b,off,h,hc k y hy⟩
  have HX:=aH hx
  have HY:=aH hy
  clear hx hy hkl hkm
  by_cases hxy:x = y
  ·subst hxy
   have hne:((x:Int) != (x:Int)) = false:=by simp
   go_wp2_with fail
   go_quiet (fail)
   go_wp2_with fail
   go_roundg g
   case measure=>omega
   case rel=>exact ⟨k + 1,⟨_,rfl⟩,rfl,by omega,aH (by rw [ah l HX.o,ah m HY.o,HD.o])⟩
  have hne:((x:Int) != (y:Int)) = true:=by simp; omega
  have HF:Hd (decide (val l = val m) = false):=aH (dF (fun h=>hxy (by
   have:=HEQ.o.1 h
   have h1:=HX.o
   rw [this,HY.o] at h1
   injection h1 with h1
   exact h1.symm)))
  go_wp2_with fail
  go_quiet (fail)
  go_wp2_with fail
  go_ret
  exact ⟨ak (ak (Below.refl _ _) _) _,ai HF.o.symm⟩
 have hne':((n:Int) != (p:Int)) = true:=by simp; omega
 have HF:Hd (decide (val l = val m) = false):=aH (dF (fun h=>hne (by rw [<- HN.o,<- HQ.o,HEQ.o.1 h])))
 go_enter Tryz.func111,Tryz.ntmps111
 go_wp2_with fail
 go_ret
 exact ⟨Below.refl _ _,ai HF.o.symm⟩
end Go.Proofs.YtjebfdfkjlkifaaGreat
