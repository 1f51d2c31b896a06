/- Lemmas. -/
import Derived.Test.YtjebfdfkjlkifaaGreatR26
import Derived.Test.YtjebfdfkjlkifaaGreatR25
set_option linter.all false
set_option maxRecDepth 1000000
set_option maxHeartbeats 32000000
namespace Go.Proofs.YtjebfdfkjlkifaaGreat
open Go.RowKit
def eA (L V:Int) (rs:List bP) (sl:List Int):Int :=
 if 500 < sl.length ∨ 500 < rs.length then 5 else if aR L V rs ≠ 0 then aR L V rs else if inR 1 V sl then 0 else 2

theorem jV (w:World) (L V:Int) (v sv:Value) (rs:List bP) (sl:List Int) (k:Nat)(h:RulesAt k w v rs)(hs:IntsAt w sv sl)(h0:0 < k)(hk:k <= 1000000) :
  Calls Tryz.prog 117 #[.agg #[.int .i64 L,.int .i64 V,v],sv] w fun e w'=>e = .returned (.int .i64 (eA L V rs sl))/\Below w.heap.size w w':=by
 have HR:=aH h
 have HI:=aH hs
 obtain ⟨A,c,rfl,hlc,hcm,_⟩:=h.open_
 clear h hs
 obtain ⟨n,hn⟩:=nm (rs.length)
 have HN:=aH hn
 have HR':Hd (RulesAt k w (.slice A n c) rs):=aH (by have:=HR.o; rwa [hn] at this)
 rw [hn] at hlc ⊢
 clear hn HR
 by_cases h5:500 < sl.length
 ·have b5:decide (500 < sl.length) = true:=dT h5
  have HB:Hd (eA L V rs sl = 5):=aH (by unfold eA; rw [if_pos (.inl h5)])
  clear h5
  go_enter Tryz.func117,Tryz.ntmps117
  go_wp2_with fail
  obtain ⟨W,hW,P0,PB,Phs⟩:=aA w 73 [.int .i64 L,.int .i64 V,.slice A n c]
  rw [<- hW]
  clear hW
  obtain ⟨p0,p1,p2,_,_,_⟩:=P0.o.three
  go_wp2_with fail
  have TL:=fl W sv sl (HI.o.below PB.o)
  rw [b5] at TL
  refine TL.mono ?_
  rintro e w1 ⟨rfl,hb1⟩
  have P1:=aH (P0.o.below' hb1)
  have B1:=aH (PB.o.trans (hb1.mono (by omega)))
  clear hb1 p0 p1 p2
  obtain ⟨p0,p1,p2,_,_,_⟩:=P1.o.three
  go_wp2_with fail
  go_ret
  exact ⟨ag HB.o.symm,B1.o⟩
 have b5:decide (500 < sl.length) = false:=dF h5
 by_cases h6:500 < n
 ·have b6:decide ((500:Int) < (n:Int)) = true:=dT (by omega)
  have HB:Hd (eA L V rs sl = 5):=aH (by unfold eA; rw [if_pos (.inr (by rw [HN.o]; exact h6))])
  clear h5 h6
  go_enter Tryz.func117,Tryz.ntmps117
  go_wp2_with fail
  obtain ⟨W,hW,P0,PB,Phs⟩:=aA w 73 [.int .i64 L,.int .i64 V,.slice A n c]
  rw [<- hW]
  clear hW
  obtain ⟨p0,p1,p2,_,_,_⟩:=P0.o.three
  go_wp2_with fail
  have TL:=fl W sv sl (HI.o.below PB.o)
  rw [b5] at TL
  refine TL.mono ?_
  rintro e w1 ⟨rfl,hb1⟩
  have P1:=aH (P0.o.below' hb1)
  have B1:=aH (PB.o.trans (hb1.mono (by omega)))
  clear hb1 p0 p1 p2
  obtain ⟨p0,p1,p2,_,_,_⟩:=P1.o.three
  go_wp2_with fail
  go_ret
  exact ⟨ag HB.o.symm,B1.o⟩
 have b6:decide ((500:Int) < (n:Int)) = false:=dF (by omega)
 have HS:Hd (eA L V rs sl = if aR L V rs ≠ 0 then aR L V rs else if inR 1 V sl then 0 else 2):=aH (by
  unfold eA
  rw [if_neg (by rintro (h | h); exact h5 h; rw [HN.o] at h; exact h6 h)])
 have CG:=aH (fun (U:World) (hU:Below w.heap.size w U)=>kw U L V (.slice A n c) rs k (HR'.o.below hU) h0 hk)
 clear h5 h6
 generalize aR L V rs = ce at *
 by_cases hc:ce = 0
 ·have bc:(ce != 0) = false:=by simp [hc]
  rcases hr:inR 1 V sl with _ | _
  all_goals
   have HB:=aH (HS.o.trans (by rw [if_neg (by simpa using hc),hr]))
   clear hc
   go_enter Tryz.func117,Tryz.ntmps117
   go_wp2_with fail
   obtain ⟨W,hW,P0,PB,Phs⟩:=aA w 73 [.int .i64 L,.int .i64 V,.slice A n c]
   rw [<- hW]
   clear hW
   obtain ⟨p0,p1,p2,_,_,_⟩:=P0.o.three
   go_wp2_with fail
   have TL:=fl W sv sl (HI.o.below PB.o)
   rw [b5] at TL
   refine TL.mono ?_
   rintro e w1 ⟨rfl,hb1⟩
   have P1:=aH (P0.o.below' hb1)
   have B1:=aH (PB.o.trans (hb1.mono (by omega)))
   clear hb1 p0 p1 p2 TL
   obtain ⟨p0,p1,p2,_,_,_⟩:=P1.o.three
   have hs1:w.heap.size <= w1.heap.size:=B1.o.size
   go_wp2_with fail
   refine (CG.o w1 B1.o).mono ?_
   rintro e w2 ⟨rfl,hb2⟩
   have P2:=aH (P1.o.below' hb2)
   have B2:=aH (B1.o.trans (hb2.mono hs1))
   clear hb2 p0 p1 p2
   obtain ⟨p0,p1,p2,_,_,_⟩:=P2.o.three
   have hs2:w.heap.size <= w2.heap.size:=B2.o.size
   go_wp2_with fail
   have WG:=gU w2 sv sl 1 V (HI.o.below B2.o)
   rw [hr] at WG
   refine WG.mono ?_
   rintro e w3 ⟨rfl,hb3⟩
   have B3:=aH (B2.o.trans (hb3.mono hs2))
   clear hb3 WG hr
   go_wp2_with fail
   go_ret
   exact ⟨ag HB.o.symm,B3.o⟩
 have bc:(ce != 0) = true:=by simpa using hc
 have HB:Hd (eA L V rs sl = ce):=aH (HS.o.trans (by rw [if_pos (by simpa using hc)]))
 clear hc
 go_enter Tryz.func117,Tryz.ntmps117
 go_wp2_with fail
 obtain ⟨W,hW,P0,PB,Phs⟩:=aA w 73 [.int .i64 L,.int .i64 V,.slice A n c]
 rw [<- hW]
 clear hW
 obtain ⟨p0,p1,p2,_,_,_⟩:=P0.o.three
 go_wp2_with fail
 have TL:=fl W sv sl (HI.o.below PB.o)
 rw [b5] at TL
 refine TL.mono ?_
 rintro e w1 ⟨rfl,hb1⟩
 have P1:=aH (P0.o.below' hb1)
 have B1:=aH (PB.o.trans (hb1.mono (by omega)))
 clear hb1 p0 p1 p2 TL
 obtain ⟨p0,p1,p2,_,_,_⟩:=P1.o.three
 have hs1:w.heap.size <= w1.heap.size:=B1.o.size
 go_wp2_with fail
 refine (CG.o w1 B1.o).mono ?_
 rintro e w2 ⟨rfl,hb2⟩
 have B2:=aH (B1.o.trans (hb2.mono hs1))
 clear hb2
 go_wp2_with fail
 go_ret
 exact ⟨ag HB.o.symm,B2.o⟩
theorem iH {a e n m k:Nat} (h:a <= 2 ^ e)(hm:n <= m)(hk:e * m < k):a ^ n < 2 ^ k:=by
 have h1:a ^ n <= (2 ^ e) ^ n:=Nat.pow_le_pow_left h n
 rw [<- Nat.pow_mul] at h1
 exact lL h1 (Nat.pow_lt_pow_right (by omega) (lL (Nat.mul_le_mul_left e hm) hk))
theorem rL {N K:Nat} (hN:1280 <= N)(hK:10 * N + 700 <= K) {join:Rat->Rat->Rat} (hj:ke join) {Ln:Nat} {rs:List bP} {sl:List Int} (hq:∀ r ∈ rs,QB 64 r.q)(hn:rs.length <= 20)(hs:sl.length <= 9) (g:Nat)(hg:g <= sl.length) :
  (∀ i,∀ x ∈ eP join Ln (rs.take i) sl (match g with | 0=>[] | g + 1=>eo join Ln rs sl g) (sl.length - g),QB K x) /\
  (∀ r ∈ rs,∀ q,eM sl (match g with | 0=>[] | g + 1=>eo join Ln rs sl g) (sl.length - g) r = some q->QB K q)/\∀ x ∈ eo join Ln rs sl g,QB K x:=by
 have hE:=np (rs.map (·.q))
 have hEl:jT (rs.map (·.q)) <= 2 ^ N:=by
  refine Nat.le_trans (uT (k:=64) _ (fun q h=>?_)) (Nat.pow_le_pow_right (by omega) (by rw [List.length_map]; omega))
  obtain ⟨r,hr,rfl⟩:=List.mem_map.1 h
  exact hq r hr
 have hw:∀ r ∈ rs,Dn (jT (rs.map (·.q))) (jT (rs.map (·.q)) * 2 ^ 64) r.q:=fun r hr=>Dn.of_mem (List.mem_map.2 ⟨r,hr,rfl⟩) (hq r hr)
 generalize jT (rs.map (·.q)) = E at hE hEl hw
 have hWl:E * 2 ^ 64 <= 2 ^ (N + 64):=by
  have:=Nat.mul_le_mul_right (2 ^ 64) hEl
  rwa [<- Nat.pow_add] at this
 generalize E * 2 ^ 64 = W at hw hWl
 have key:=ux hj (Ln:=Ln) (rs:=rs) (sl:=sl) hE hw rfl
 have hnW:rs.length * W <= 2 ^ (5 + (N + 64)):=by
  have h1:rs.length <= 2 ^ 5:=by omega
  have:=Nat.mul_le_mul h1 hWl
  rwa [<- Nat.pow_add] at this
 have e1:∀ g,g <= 9->E ^ (g + 1) < 2 ^ K:=fun g hg=>iH (e:=N) (m:=10) hEl (by omega) (by omega)
 have e2:∀ g,g <= 9->(rs.length * W) ^ (g + 1) < 2 ^ K:=fun g hg=>iH (e:=5 + (N + 64)) (m:=10) hnW (by omega) (by omega)
 have whole:∀ g,g <= sl.length->∀ x ∈ eo join Ln rs sl g,QB K x:=fun g hg x hx=>((key g hg).1 x hx).qb (Nat.pow_pos hE) (e1 g (by omega)) (e2 g (by omega))
 refine ⟨fun i x hx=>?_,fun r hr q hq'=>?_,whole g hg⟩
 ·have hi:∀ i,i <= rs.length->∀ x ∈ eP join Ln (rs.take i) sl (match g with | 0=>[] | g + 1=>eo join Ln rs sl g) (sl.length - g),QB K x:=by
   intro i hi x hx
   refine ((key g hg).2 i x hx).qb (Nat.pow_pos hE) (e1 g (by omega)) (lL ?_ (e2 g (by omega)))
   have:i * (W * (rs.length * W) ^ g) <= rs.length * (W * (rs.length * W) ^ g):=Nat.mul_le_mul_right _ hi
   rw [Nat.pow_succ,Nat.mul_comm ((rs.length * W) ^ g),Nat.mul_assoc]
   exact this
  by_cases h:i <= rs.length
  ·exact hi i h x hx
  rw [tL (by omega)] at hx
  exact hi rs.length (nR _) x (by rw [tL (nR _)]; exact hx)
 cases g with
 | zero =>
  have e:q = r.q:=kE (rest:=[]) (by simpa using hq')
  rw [e]
  exact (hw r hr).qb hE (by have:=e1 0 (by omega); simpa using this) (lL hWl (Nat.pow_lt_pow_right (by omega) (by omega)))
 | succ g =>
  have e:=mE (by omega) hq'
  rw [e]
  have h1:=(hw r hr).mul (ph (key g (by omega)).1 r.t.toNat)
  refine h1.qb (Nat.mul_pos hE (Nat.pow_pos hE)) ?_ ?_
  ·have:=e1 (g + 1) (by omega)
   rwa [Nat.pow_succ,Nat.mul_comm] at this
  have h2:=e2 g (by omega)
  refine lL (Nat.mul_le_mul_right _ hWl) ?_
  refine Nat.lt_of_lt_of_le (Nat.mul_lt_mul_of_pos_left (iH (n:=g + 1) (m:=9) (k:=(5 + (N + 64)) * 9 + 1) hnW (by omega) (by omega)) (Nat.pow_pos (by omega))) ?_
  rw [<- Nat.pow_add]
  exact Nat.pow_le_pow_right (by omega) (by omega)
theorem uv {join:Rat->Rat->Rat} (hj:ke join) {Ln:Nat} {rs:List bP} {sl:List Int} (hq:∀ r ∈ rs,QB 64 r.q)(hn:rs.length <= 20)(hs:sl.length <= 9) (g:Nat)(hg:g <= sl.length) :
  (∀ i,∀ x ∈ eP join Ln (rs.take i) sl (match g with | 0=>[] | g + 1=>eo join Ln rs sl g) (sl.length - g),QB 20000 x) /\
  (∀ r ∈ rs,∀ q,eM sl (match g with | 0=>[] | g + 1=>eo join Ln rs sl g) (sl.length - g) r = some q->QB 20000 q)/\∀ x ∈ eo join Ln rs sl g,QB 20000 x :=
 rL (N:=1280) (K:=20000) (by omega) (by omega) hj hq hn hs g hg

theorem ur {L V:Int} {rs:List bP} {sl:List Int} (h:eA L V rs sl = 0):sl.length <= 500/\aR L V rs = 0/\inR 1 V sl = true:=by
 unfold eA at h
 split at h
 ·omega
 next h1 =>
 split at h
 ·omega
 next h2 =>
 split at h
 ·next h3=>exact ⟨by omega,by omega,h3⟩
 omega
theorem lA {L V:Int} {rs:List bP} (h:aR L V rs = 0):rs.length <= 500/\1 <= L/\L <= 60/\1 <= V/\V <= 2000/\(∀ r ∈ rs,0 <= r.f/\r.f < L/\0 <= r.t/\r.t < L/\0 <= r.w/\r.w <= V/\(r.w = 0->r.t = 0)/\0 <= r.q)/\∀ q ∈ bZ L.toNat rs,q = 1:=by
 unfold aR at h
 split at h
 ·omega
 next h1 =>
 split at h
 ·next h2 =>
  refine ⟨by omega,h2.1,h2.2.1,h2.2.2.1,h2.2.2.2.1,fun r hr=>?_,fun q hq=>?_⟩
  ·have:=List.all_eq_true.1 h2.2.2.2.2.1 r hr
   unfold jo at this
   exact of_decide_eq_true this
  exact of_decide_eq_true (List.all_eq_true.1 h2.2.2.2.2.2 q hq)
 omega
theorem RulesAt.qb {k:Nat} {w:World} {v:Value} {rs:List bP} (h:RulesAt k w v rs)(h0:0 < k):∀ r ∈ rs,QB k r.q:=by
 intro r hr
 obtain ⟨i,hi,e⟩:=List.getElem_of_mem hr
 obtain ⟨cells,_,h2⟩:=h
 obtain ⟨a,b,c,_,_,_,_,_,_,hf⟩:=h2 i r (by rw [eG hi,e])
 exact hf.qb h0

theorem tj (w:World) (Ln:Nat) (V:Int) (v sv:Value) (rs:List bP) (sl:List Int) (F:Nat) (caps:Array Value) (join:Rat->Rat->Rat)(h:RulesAt 64 w v rs)(hs:IntsAt w sv sl)(hn:rs.length <= 20)(hsl:sl.length <= 9)(hc:aR Ln V rs = 0)
  (hF:∀ (W:World) (args:Array Value),(callFunc F args).run Tryz.prog W = .ok (.enter F args) W)(hnj:ke join)
  (hj:∀ W a b qa qb,FracAt 20000 W a qa->FracAt 20000 W b qb->QB 20000 (join qa qb)->Calls Tryz.prog F (#[a,b] ++ caps) W fun e w'=>∃ u,e = .returned u/\FracAt 20000 w' u (join qa qb)/\Below W.heap.size W w') :
  Calls Tryz.prog 119 #[.agg #[.int .i64 Ln,.int .i64 V,v],sv,.func (.func F) #[] caps] w fun e w'=>∃ b rb m,e = .returned (.slice (some ⟨b,0,none⟩) m m)/\w'.cell? ⟨b,0,none⟩ = some (.slice (some ⟨rb,0,none⟩) Ln Ln)/\FArk 20000 w' rb (eo join Ln rs sl sl.length)/\b < w'.heap.size/\m = sl.length + 1/\Below w.heap.size w w'/\RowsAt 20000 w' b Ln sl.length 0 (fun j=>eo join Ln rs sl (sl.length - j)):=by
 have hg:=lA hc
 have hb:=uv hnj (Ln:=Ln) (rs:=rs) (sl:=sl) (h.qb (by omega)) hn hsl
 refine (tn w Ln V v sv rs sl 64 20000 F caps join h hs (by omega) (by omega) (fun r hr=>by have:=hg.2.2.2.2.2.1 r hr; exact ⟨this.1,this.2.1,this.2.2.1,this.2.2.2.1⟩) hF
  (fun W a b qa qb _ ha hb' hq=>hj W a b qa qb ha hb' hq) (by omega) (by omega) (by omega) (fun g hg'=>(hb g hg').1) (fun g hg'=>(hb g hg').2.1)).mono ?_
 rintro e w' ⟨b,m,rfl,rfl,hr,hb'⟩
 obtain ⟨rb,e,hf,hl⟩:=hr.row (Nat.zero_le 0) (Nat.zero_le _)
 exact ⟨b,rb,_,rfl,e,hf,hl,rfl,hb',hr⟩
theorem tT (W:World) (args:Array Value):(callFunc 120 args).run Tryz.prog W = .ok (.enter 120 args) W:=by kernel_rfl
theorem xy (W:World) (a b:Value) (qa qb:Rat)(ha:FracAt 20000 W a qa)(hb:FracAt 20000 W b qb)(hq:QB 20000 (qa + qb)):Calls Tryz.prog 120 (#[a,b] ++ #[]) W fun e w'=>∃ u,e = .returned u/\FracAt 20000 w' u (qa + qb)/\Below W.heap.size W w':=by
 refine (l8 W a b qa qb 20000 ha hb (by omega) (by omega)).mono ?_
 rintro e w' ⟨u,rfl,hu,hb⟩
 exact ⟨u,rfl,hu.at_.frac hq (by omega),hb⟩
theorem uX (w:World):CanAt w (.agg #[.bool false,.slice none 0 0,.slice none 0 0]) 0:=⟨_,_,rfl,NatAt.nil_ w,NatAt.nil_ w⟩
def jn (L V:Int) (rs:List bP) (sl:List Int):Rat:=if eA L V rs sl = 0 then (eo (· + ·) L.toNat rs sl sl.length).getD 0 0 else 0

theorem CanNew.setBox3 {B g:Nat} {w:World} {q:Rat} {A A':Option Addr} {m c m' c':Nat} (h1:NatAt w (.slice A m c) q.num.natAbs)(h2:NatAt w (.slice A' m' c') (if q.den = 1 then 0 else q.den))(h3:From (.slice A m c) B)(h4:From (.slice A' m' c') B)(hg:g < B) (u0 u1 u2:Value) :
  CanAt (((w.setCell ⟨g,0,none⟩ u0).setCell ⟨g,1,none⟩ u1).setCell ⟨g,2,none⟩ u2) (.agg #[.bool (ae q),.slice A m c,.slice A' m' c']) q :=
 ⟨_,_,rfl,NatAt.box3 h1 (h3.mono (by omega)) _ _ _,NatAt.box3 h2 (h4.mono (by omega)) _ _ _⟩

theorem wG (w:World) (L V:Int) (v sv:Value) (rs:List bP) (sl:List Int)(h:RulesAt 64 w v rs)(hs:IntsAt w sv sl)(hf:eA L V rs sl = 0->rs.length <= 20/\sl.length <= 8) :
  Calls Tryz.prog 49 #[.agg #[.int .i64 L,.int .i64 V,v],sv] w fun e w'=>∃ u,e = .returned (.tuple #[u,.int .i64 (eA L V rs sl)])/\CanAt w' u (jn L V rs sl)/\Below w.heap.size w w':=by
 obtain ⟨A,c,rfl,hlc,hcm,_⟩:=h.open_
 have HR:=aH h
 have HI:=aH hs
 have HF:=aH hf
 clear h hs hf
 obtain ⟨n,hn⟩:=nm (rs.length)
 have HN:=aH hn
 have HR':Hd (RulesAt 64 w (.slice A n c) rs):=aH (by have:=HR.o; rwa [hn] at this)
 rw [hn] at hlc ⊢
 clear hn HR
 obtain ⟨ev,hev⟩:=nm (eA L V rs sl)
 have HE:=aH hev
 rw [hev]
 clear hev
 by_cases hz:ev = 0
 ·have bz:(ev != 0) = false:=by simpa using hz
  have HZ:=aH hz
  clear hz
  have hok:=ur (by rw [HE.o,HZ.o]:eA L V rs sl = 0)
  have hck:=lA hok.2.1
  obtain ⟨Ln,hLn⟩:∃ Ln:Nat,L = Ln:=⟨L.toNat,by omega⟩
  have hfew:=HF.o (by rw [HE.o,HZ.o])
  have HOK:=aH hok
  have HFEW:=aH hfew
  have hL1:0 < Ln:=by omega
  have hL2:Ln <= 60:=by omega
  have HQ:Hd (jn L V rs sl = (eo (· + ·) Ln rs sl sl.length).getD 0 0):=aH (by unfold jn; rw [if_pos (by rw [HE.o,HZ.o]),hLn,Int.toNat_natCast])
  subst hLn
  clear hok hck hfew
  go_enter Tryz.func49,Tryz.ntmps49
  go_wp2_with fail
  obtain ⟨W,hW,P0,P1,PB,Phs⟩:=cP w 73 [.int .i64 (Ln:Int),.int .i64 V,.slice A n c] 40 [.bool false,.slice none 0 0,.slice none 0 0]
  rw [<- hW]
  clear hW
  obtain ⟨p0,p1,p2,_,_,_⟩:=P0.o.three
  go_wp2_with fail
  refine (jV W Ln V _ sv rs sl 64 (HR'.o.below PB.o) (HI.o.below PB.o) (by omega) (by omega)).mono ?_
  rintro e w1 ⟨rfl,hb1⟩
  rw [HE.o]
  have P01:=aH (P0.o.below' hb1)
  have P11:=aH (P1.o.below' hb1)
  have B1:=aH (PB.o.trans (hb1.mono (by omega)))
  have s1:w.heap.size + 2 <= w1.heap.size:=Nat.le_trans Phs hb1.size
  clear hb1 p0 p1 p2
  obtain ⟨p0,p1,p2,_,_,_⟩:=P01.o.three
  go_wp2_with fail
  refine (tj w1 Ln V _ sv rs sl 120 #[] (· + ·) (HR'.o.below B1.o) (HI.o.below B1.o) HFEW.o.1 (by have:=HFEW.o.2; omega) HOK.o.2.1 tT r8 xy).mono ?_
  rintro e w2 ⟨b,rb,m,rfl,hc2,hf2,hbl,rfl,hb2,_⟩
  have P12:=aH (P11.o.below' hb2)
  have B2:=aH (B1.o.trans (hb2.mono (by omega)))
  have F2:=aH hf2
  have s2:w1.heap.size <= w2.heap.size:=hb2.size
  obtain ⟨q,hq⟩:∃ q,(eo (· + ·) Ln rs sl sl.length)[0]? = some q:=⟨_,eG (by rw [iX]; omega)⟩
  have HQ2:Hd (jn (Ln:Int) V rs sl = q):=aH (by rw [HQ.o,gD,hq]; rfl)
  obtain ⟨s',B,mm,c',B',m',c'',a0,a1,a2,_,_,_,hfq⟩:=hf2.get hq
  simp only [Nat.zero_mul,Nat.zero_add] at a0 a1 a2
  have FQ:=aH hfq
  have hp1:0 < sl.length + 1:=by omega
  clear hb2 hf2 p0 p1 p2 hq hfq
  go_wp2_with fail
  refine (xg w2 _ q 20000 FQ.o (by omega) (by omega)).mono ?_
  rintro e w3 ⟨v3,rfl,hcn,hb3⟩
  obtain ⟨A3,m3,c3,A3',m3',c3',rfl,ta,tb,tc,td⟩:=hcn.open_
  have TA:=aH ta
  have TB:=aH tb
  have TC:=aH tc
  have TD:=aH td
  have P13:=aH (P12.o.below' hb3)
  have B3:=aH (B2.o.trans (hb3.mono (by omega)))
  clear hb3 hcn ta tb tc td a0 a1 a2 hc2
  obtain ⟨r0,r1,r2,z0,z1,z2⟩:=P13.o.three
  go_wp2_with fail
  refine bodyPost_ret (v:=.tuple #[.agg #[.bool (ae q),.slice A3 m3 c3,.slice A3' m3' c3'],.int .i64 ev]) (by simp [results,Tryz.results49,go_sem,r0,r1,r2,List.mapM_cons,HZ.o]) rfl ⟨_,rfl,?_,af B3.o (by omega) _ _ _⟩
  rw [HQ2.o]
  exact CanNew.setBox3 TA.o TB.o TC.o TD.o (by omega) _ _ _
 have bz:(ev != 0) = true:=by simpa using hz
 have HQ:Hd (jn L V rs sl = 0):=aH (by unfold jn; rw [if_neg (by rw [HE.o]; exact hz)])
 clear hz
 go_enter Tryz.func49,Tryz.ntmps49
 go_wp2_with fail
 obtain ⟨W,hW,P0,P1,PB,Phs⟩:=cP w 73 [.int .i64 L,.int .i64 V,.slice A n c] 40 [.bool false,.slice none 0 0,.slice none 0 0]
 rw [<- hW]
 clear hW
 obtain ⟨p0,p1,p2,_,_,_⟩:=P0.o.three
 go_wp2_with fail
 refine (jV W L V _ sv rs sl 64 (HR'.o.below PB.o) (HI.o.below PB.o) (by omega) (by omega)).mono ?_
 rintro e w1 ⟨rfl,hb1⟩
 rw [HE.o]
 have P11:=aH (P1.o.below' hb1)
 have B1:=aH (PB.o.trans (hb1.mono (by omega)))
 have s1:w.heap.size + 2 <= w1.heap.size:=Nat.le_trans Phs hb1.size
 clear hb1 p0 p1 p2
 obtain ⟨r0,r1,r2,z0,z1,z2⟩:=P11.o.three
 go_wp2_with fail
 refine bodyPost_ret (v:=.tuple #[.agg #[.bool false,.slice none 0 0,.slice none 0 0],.int .i64 ev]) (by simp [results,Tryz.results49,go_sem,r0,r1,r2,List.mapM_cons]) rfl ⟨_,rfl,?_,af B1.o (by omega) _ _ _⟩
 rw [HQ.o]
 exact uX _
end Go.Proofs.YtjebfdfkjlkifaaGreat
