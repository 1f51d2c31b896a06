/- Lemmas. -/
import Derived.Test.YtjebfdfkjlkifaaGreatR46
set_option linter.all false
set_option maxRecDepth 1000000
set_option maxHeartbeats 32000000
namespace Go.Proofs.YtjebfdfkjlkifaaGreat
open Go.RowKit
theorem canonR (w:World) (v:Value) (q:Rat) (k:Nat)(h:FracAt k w v q)(h0:0 < k)(hk:k <= 17592186044416) :
  Calls Tryz.prog 154 #[v] w fun e w'=>∃ v',e = .returned v'/\CanNew w.heap.size w' v' (q)/\Below w.heap.size w w':=by
 obtain ⟨s,vn,vd,ln,ld,n,d,rfl,h1,h2,h3,h4,h5,h6,h7,h8,h9⟩:=h.parts h0
 have H1:=aH h1
 have H2:=aH h2
 have H3:=aH h3
 have H4:=aH h4
 have H5:=aH h5
 have H6:=aH h6
 have H7:=aH h7
 have H8:=aH h8
 have H9:=aH h9
 clear h h1 h2 h3 h4 h5 h6 h7 h8 h9
 have HQ:Hd (q = dM s (val ln) (val ld)):=aH (by rw [H5.o,<- H4.o,<- H3.o]; rfl)
 rw [HQ.o]
 go_enter Tryz.func154,Tryz.ntmps154
 go_wp2_with fail
 obtain ⟨W,hW,P0,P1,PB,Phs⟩:=cP w 40 [.bool s,vn,vd] 40 [.bool false,.slice none 0 0,.slice none 0 0]
 rw [<- hW]
 clear hW
 obtain ⟨p0,p1,p2,_,_,_⟩:=P0.o.three
 go_wp2_with fail
 refine (oE W s _ _ ln ld k (H1.o.below PB.o) (H2.o.below PB.o) (by rw [H3.o]; exact H6.o) H9.o h0 hk).mono ?_
 rintro e w1 ⟨v1,rfl,t1,hb1⟩
 have T1:=aH t1
 have S1:Hd (Below W.heap.size W w1):=aH hb1
 have hs1:W.heap.size <= w1.heap.size:=hb1.size
 obtain ⟨A,m,c,A',m',c',rfl,ta,tb,tc,td⟩:=t1.open_
 obtain ⟨r0,r1,r2,z0,z1,z2⟩:=(P1.o.below' S1.o).three
 have TA:=aH ta
 have TB:=aH tb
 have TC:=aH tc
 have TD:=aH td
 clear ta tb tc td
 clear t1 hb1
 go_wp2_with fail
 refine bodyPost_ret (v:=.agg #[.bool (ae (dM s (val ln) (val ld))),.slice A m c,.slice A' m' c']) (by simp [results,Tryz.results154,go_sem,r0,r1,r2]) rfl ⟨_,rfl,?_,af (PB.o.trans ((S1.o).mono (by omega))) (by omega) _ _ _⟩
 exact (CanNew.box3 TA.o TB.o TC.o TD.o (by omega) _ _ _).mono (by omega)
theorem sentG (w:World) (v:Value) (l:List Int)(hi:Int)(h:IntsAt w v l) :
  Calls Tryz.prog 48 #[v,.int .i64 hi] w fun e w'=>e = .returned (.bool (inR 1 hi l))/\Below w.heap.size w w':=by
 obtain ⟨A,ca,rfl,hlc,hcm,hA⟩:=h.open_
 have HA:=aH hA
 clear h hA
 obtain ⟨n,hn⟩:=nm (l.length)
 rw [hn] at hlc ⊢
 have HN:=aH hn
 clear hn
 go_enter Tryz.func48,Tryz.ntmps48
 go_wp2_with fail
 go_loopg [5] n (fun g i wr=>∃ (j:Nat),wr = w/\i = .int .i64 j/\j + g = n/\Hd (inR 1 hi l = inR 1 hi (l.drop j)))
 case atStart=>exact ⟨0,rfl,rfl,by omega,aH rfl⟩
 obtain ⟨j,rfl,rfl,hj,HQ⟩:=hrel
 rcases zP gk with h | h
 ·obtain rfl:j = n:=by omega
  have HT:Hd (inR 1 hi l = true):=aH (by rw [HQ.o,dN (by rw [HN.o]; exact nR _)]; rfl)
  go_wp2_with fail
  go_ret
  exact ⟨ai HT.o.symm,Below.refl _ _⟩
 obtain ⟨g,rfl⟩:∃ g,gk = g + 1:=⟨gk - 1,by omega⟩
 obtain ⟨x,hx⟩:∃ x,l[j]? = some x:=⟨_,eG (by rw [HN.o]; omega)⟩
 obtain ⟨ba,oa,rfl,_,hc⟩:=HA.o j x hx
 have ST:=aH (HQ.o.trans (m9 hx))
 clear hx
 by_cases h1:1 <= x
 ·by_cases h2:x <= hi
  ·have d1:decide (x < 1) = false:=dF (by omega)
   have d2:decide (hi < x) = false:=dF (by omega)
   have HT:Hd (inR 1 hi l = inR 1 hi (l.drop (j + 1))):=aH (by rw [ST.o,dT h1,dT h2]; rfl)
   clear h1 h2
   go_wp2_with fail
   go_roundg g
   case measure=>omega
   case rel=>exact ⟨j + 1,rfl,rfl,by omega,HT⟩
  have d1:decide (x < 1) = false:=dF (by omega)
  have d2:decide (hi < x) = true:=dT (by omega)
  have HT:Hd (inR 1 hi l = false):=aH (by rw [ST.o,dT h1,dF h2]; rfl)
  clear h1 h2
  go_wp2_with fail
  go_ret
  exact ⟨ai HT.o.symm,Below.refl _ _⟩
 have d1:decide (x < 1) = true:=dT (by omega)
 have HT:Hd (inR 1 hi l = false):=aH (by rw [ST.o,dF h1]; rfl)
 clear h1
 go_wp2_with fail
 go_ret
 exact ⟨ai HT.o.symm,Below.refl _ _⟩
theorem oo (w:World) (va vb:Value) (a b:List Int)(ha:IntsAt w va a)(hb:IntsAt w vb b) :
  Calls Tryz.prog 29 #[va,vb] w fun e w'=>e = .returned (.bool (decide (a = b)))/\Below w.heap.size w w':=by
 by_cases hl:a.length = b.length
 ·have OC:=aH (p9 w va vb a b ha hb (by omega))
  obtain ⟨A,ca,rfl,hlc,hcm,_⟩:=ha.open_
  obtain ⟨B,cb,rfl,hmc,hcm',_⟩:=hb.open_
  clear ha hb
  have HE:Hd (aN a b = 0 ↔ a = b):=aH (hZ hl)
  generalize aN a b = z at *
  generalize a.length = n at *
  generalize b.length = m at *
  subst hl
  by_cases hz:z = 0
  ·have HD:Hd (decide (a = b) = true):=aH (dT (HE.o.1 hz))
   have hz':(z == 0) = true:=by simpa using hz
   clear hz
   go_enter Tryz.func29,Tryz.ntmps29
   go_wp2_with fail
   refine OC.o.mono ?_
   rintro e w1 ⟨rfl,hb1⟩
   have B1:=aH hb1
   clear hb1
   go_wp2_with fail
   go_ret
   exact ⟨ai HD.o.symm,B1.o⟩
  have HD:Hd (decide (a = b) = false):=aH (dF (fun e=>hz (HE.o.2 e)))
  have hz':(z == 0) = false:=by simpa using hz
  clear hz
  go_enter Tryz.func29,Tryz.ntmps29
  go_wp2_with fail
  refine OC.o.mono ?_
  rintro e w1 ⟨rfl,hb1⟩
  have B1:=aH hb1
  clear hb1
  go_wp2_with fail
  go_ret
  exact ⟨ai HD.o.symm,B1.o⟩
 obtain ⟨A,ca,rfl,hlc,hcm,_⟩:=ha.open_
 obtain ⟨B,cb,rfl,hmc,hcm',_⟩:=hb.open_
 clear ha hb
 have HD:Hd (decide (a = b) = false):=aH (dF (fun e=>hl (by rw [e])))
 generalize a.length = n at *
 generalize b.length = m at *
 have hne:((n:Int) == (m:Int)) = false:=by simp; omega
 clear hl
 go_enter Tryz.func29,Tryz.ntmps29
 go_wp2_with fail
 go_ret
 exact ⟨ai HD.o.symm,Below.refl _ _⟩
theorem nice_pick (c:Rat->Rat->Bool):ke (fun a b=>if c a b then a else b):=by
 intro E M N a b _ h h'
 simp only
 split
 ·exact h.mono (by omega)
 exact h'.mono (by omega)
theorem sgnI_gt {q:Rat} (h:0 < q):0 < aU q:=by
 unfold aU
 split
 ·next e=>exact absurd e (fh h)
 split
 ·next h1=>exact absurd h (Rat.not_lt.2 (Rat.le_of_lt h1))
 omega
theorem Same.set3 {F b:Nat} (w:World)(hb:b < F) (i j k:Nat) (u0 u1 u2:Value):Same F w (((w.setCell ⟨b,i,none⟩ u0).setCell ⟨b,j,none⟩ u1).setCell ⟨b,k,none⟩ u2):=by
 have e:∀ (w:World) (i:Nat) (u:Value),Same F w (w.setCell ⟨b,i,none⟩ u):=fun w i u =>
  ⟨by simp,fun c hc _=>Below.heap_setCell w ⟨b,i,none⟩ u c (by show c ≠ b; omega)⟩
 exact ((e w i u0).trans (e _ j u1)).trans (e _ k u2)
theorem own_lt {w:World} {base:Nat} {e:TypeId} {sz:Nat} {v:Value} {n:Nat} {xs:List Value} (h:w.ownsRow base e sz v n xs) {b:Nat} (hb:v.ownBlock = some b):b < w.heap.size:=by
 obtain ⟨_,⟨rfl,_⟩ | ⟨g,cap,cur,rfl,_,hh,_⟩⟩:=h
 ·simp [Value.ownBlock] at hb
 simp [Value.ownBlock] at hb
 subst hb
 exact (Array.getElem?_eq_some_iff.1 hh).1
theorem sgn_le {q r:Rat} (h:q <= r):aU (q - r) <= 0:=by
 unfold aU
 split
 ·omega
 split
 ·omega
 next h1 h2=>exact absurd h (fun h=>by grind)
end Go.Proofs.YtjebfdfkjlkifaaGreat
