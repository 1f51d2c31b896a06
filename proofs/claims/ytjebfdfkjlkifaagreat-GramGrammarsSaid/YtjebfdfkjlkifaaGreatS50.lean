/- Lemmas. -/
import Derived.Test.YtjebfdfkjlkifaaGreatS49
set_option linter.all false
set_option maxRecDepth 1000000
set_option maxHeartbeats 32000000
namespace Go.Proofs.YtjebfdfkjlkifaaGreat
open Go.RowKit
def bestE (L V:Int) (rs:List bP) (sl:List Int):Int:=if eA L V rs sl = 0 then (if bestQ rs sl L.toNat = 0 then 7 else 0) else eA L V rs sl
def bestA (L V:Int) (rs:List bP) (sl:List Int):List Int × Rat:=if eA L V rs sl = 0/\bestQ rs sl L.toNat ≠ 0 then (bestP rs sl L.toNat,bestQ rs sl L.toNat) else ([],0)
theorem sgn_pick (a b:Rat):decide (0 < aU (b - a)) = !decide (b <= a):=by
 rw [Bool.eq_iff_iff]
 simp only [decide_eq_true_eq,Bool.not_eq_true',decide_eq_false_iff_not]
 constructor
 ·intro h hle
  have:=sgn_le hle
  omega
 intro h
 exact sgnI_gt (by have:=Rat.not_le.1 h; grind)
theorem nxt_qb {Ln:Nat} {rs:List bP} {sl:List Int} (hq:∀ r ∈ rs,QB 64 r.q)(hn:rs.length <= 20)(hs:sl.length <= 9) {t:Nat} (ht:t <= sl.length) {r:bP} (hr:r ∈ rs) {q:Rat} (h:eM sl (nxtT pickJ Ln rs sl t) t r = some q):QB 20000 q:=by
 have h1:=(uv (Ln:=Ln) nice_pickJ hq hn hs (sl.length - t) (by omega)).2.1 r hr q
 rw [show sl.length - (sl.length - t) = t by omega] at h1
 refine h1 ?_
 unfold nxtT at h
 split at h
 ·next hlt =>
  obtain ⟨g,hg⟩:∃ g,sl.length - t = g + 1:=⟨sl.length - t - 1,by omega⟩
  unfold rowT at h
  rw [hg]
  rw [show sl.length - (t + 1) = g by omega] at h
  exact h
 next hlt =>
 rw [show sl.length - t = 0 by omega]
 exact h
theorem rowT_length (join:Rat->Rat->Rat) (Ln:Nat) (rs:List bP) (sl:List Int) (t:Nat):(rowT join Ln rs sl t).length = Ln:=iX _ _ _ _ _
theorem findIdx_at {p:bP->Bool}:∀ {rs:List bP} {i:Nat} {r:bP},(∀ (k:Nat) (x:bP),k < i->rs[k]? = some x->p x = false)->rs[i]? = some r->p r = true->rs.findIdx? p = some i:=by
 intro rs
 induction rs with
 | nil=>intro i r _ h; simp at h
 | cons y rs ih =>
  intro i r h1 h2 h3
  rw [List.findIdx?_cons]
  cases i with
  | zero =>
   simp at h2
   subst h2
   rw [h3]
   rfl
  | succ i =>
   rw [h1 0 y (by omega) rfl]
   have:=ih (i:=i) (r:=r) (fun k x hk hx=>h1 (k + 1) x (by omega) (by simpa using hx)) (by simpa using h2) h3
   rw [this]
   rfl
theorem findIdx_no {p:bP->Bool} {rs:List bP} (h:∀ (k:Nat) (x:bP),rs[k]? = some x->p x = false):rs.findIdx? p = none:=by
 rw [List.findIdx?_eq_none_iff]
 intro x hx
 obtain ⟨k,hk⟩:=List.mem_iff_getElem?.1 hx
 exact h k x hk

theorem pickC (W:World) (a b:Value) (qa qb:Rat)(ha:FracAt 20000 W a qa)(hb:FracAt 20000 W b qb) (_:QB 20000 (pickJ qa qb)):Calls Tryz.prog 123 (#[a,b] ++ #[]) W fun e w'=>∃ u,e = .returned u/\FracAt 20000 w' u (pickJ qa qb)/\Below W.heap.size W w':=by
 obtain ⟨s,vn,vd,rfl⟩:=ha.shape
 obtain ⟨s',vn',vd',rfl⟩:=hb.shape
 obtain ⟨sA,A,m,c,A',m',c',e1,rfl,rfl⟩:=ha.cells3
 obtain ⟨sB,B,n,d,B',n',d',e2,rfl,rfl⟩:=hb.cells3
 clear e1 e2
 have HA:=aH ha
 have HB:=aH hb
 obtain ⟨tk,htk⟩:=nm (decide (0 < aU (qb - qa)))
 have HP:Hd (pickJ qa qb = if tk = true then qb else qa):=aH (by
  unfold pickJ
  rw [<- htk,sgn_pick]
  cases decide (qb <= qa) <;> rfl)
 obtain ⟨sg,hsg⟩:=nm (aU (qb - qa))
 rw [hsg] at htk
 have HSG:=aH hsg
 clear ha hb hsg
 show Calls Tryz.prog 123 #[_,_] W _
 go_enter Tryz.func123,Tryz.ntmps123
 go_upto_region 1 with fail
 obtain ⟨W1,hW1,P0,P1,P2,PB,Phs⟩:=box3 W 40 [.bool s,.slice A m c,.slice A' m' c'] 40 [.bool s',.slice B n d,.slice B' n' d'] 40 [.bool false,.slice none 0 0,.slice none 0 0]
 rw [<- hW1]
 clear hW1
 obtain ⟨a0,a1,a2,_,_,_⟩:=P0.o.three
 obtain ⟨b0,b1,b2,_,_,_⟩:=P1.o.three
 go_wp2_with fail
 refine (vX W1 _ _ qb qa 20000 (HB.o.below PB.o) (HA.o.below PB.o) (by omega) (by omega)).mono ?_
 rintro e w2 ⟨rfl,hb2⟩
 rw [HSG.o]
 have Q0:=aH (P0.o.below' hb2)
 have Q1:=aH (P1.o.below' hb2)
 have Q2:=aH (P2.o.below' hb2)
 have B2:=aH (PB.o.trans (hb2.mono PB.o.size))
 clear a0 a1 a2 b0 b1 b2 P0 P1 P2 PB hb2
 obtain ⟨a0,a1,a2,_,_,_⟩:=Q0.o.three
 obtain ⟨b0,b1,b2,_,_,_⟩:=Q1.o.three
 obtain ⟨r0,r1,r2,z0,z1,z2⟩:=Q2.o.three
 cases tk with
 | true =>
  have RN:Hd (FracAt 20000 (((w2.setCell ⟨W.heap.size + 2,0,none⟩ (.bool s')).setCell ⟨W.heap.size + 2,1,none⟩ (.slice B n d)).setCell ⟨W.heap.size + 2,2,none⟩ (.slice B' n' d')) (.agg #[.bool s',.slice B n d,.slice B' n' d']) (pickJ qa qb)):=aH (by
   rw [HP.o,if_pos rfl]
   obtain ⟨ln,ld,h1,h2⟩:=HB.o.digs
   exact (((HB.o.below B2.o).setOff (p:=⟨W.heap.size + 2,0,none⟩) (h1.1.off (show W.heap.size <= W.heap.size + 2 by omega)) (h2.1.off (show W.heap.size <= W.heap.size + 2 by omega)) _).setOff (p:=⟨W.heap.size + 2,1,none⟩) (h1.1.off (show W.heap.size <= W.heap.size + 2 by omega)) (h2.1.off (show W.heap.size <= W.heap.size + 2 by omega)) _).setOff (p:=⟨W.heap.size + 2,2,none⟩) (h1.1.off (show W.heap.size <= W.heap.size + 2 by omega)) (h2.1.off (show W.heap.size <= W.heap.size + 2 by omega)) _)
  go_wp2_with fail
  exact bodyPost_ret (v:=.agg #[.bool s',.slice B n d,.slice B' n' d']) (by simp [results,Tryz.results123,go_sem,r0,r1,r2]) rfl ⟨_,rfl,RN.o,af B2.o (by omega) _ _ _⟩
 | false =>
  have RN:Hd (FracAt 20000 (((w2.setCell ⟨W.heap.size + 2,0,none⟩ (.bool s)).setCell ⟨W.heap.size + 2,1,none⟩ (.slice A m c)).setCell ⟨W.heap.size + 2,2,none⟩ (.slice A' m' c')) (.agg #[.bool s,.slice A m c,.slice A' m' c']) (pickJ qa qb)):=aH (by
   rw [HP.o,if_neg (by decide)]
   obtain ⟨ln,ld,h1,h2⟩:=HA.o.digs
   exact (((HA.o.below B2.o).setOff (p:=⟨W.heap.size + 2,0,none⟩) (h1.1.off (show W.heap.size <= W.heap.size + 2 by omega)) (h2.1.off (show W.heap.size <= W.heap.size + 2 by omega)) _).setOff (p:=⟨W.heap.size + 2,1,none⟩) (h1.1.off (show W.heap.size <= W.heap.size + 2 by omega)) (h2.1.off (show W.heap.size <= W.heap.size + 2 by omega)) _).setOff (p:=⟨W.heap.size + 2,2,none⟩) (h1.1.off (show W.heap.size <= W.heap.size + 2 by omega)) (h2.1.off (show W.heap.size <= W.heap.size + 2 by omega)) _)
  go_wp2_with fail
  exact bodyPost_ret (v:=.agg #[.bool s,.slice A m c,.slice A' m' c']) (by simp [results,Tryz.results123,go_sem,r0,r1,r2]) rfl ⟨_,rfl,RN.o,af B2.o (by omega) _ _ _⟩
theorem callsPick (W:World) (args:Array Value):(callFunc 123 args).run Tryz.prog W = .ok (.enter 123 args) W:=by kernel_rfl
theorem path_place {L:Int} {Ln:Nat} (hLn:L.toNat = Ln)(hL:1 <= L) {rs:List bP} (hr:RulesOk L rs) (sl:List Int) (t:Nat):0 <= (pathN rs sl Ln t).2/\(pathN rs sl Ln t).2 < L:=by
 induction t with
 | zero=>exact ⟨Int.le_refl 0,by show (0:Int) < L; omega⟩
 | succ t ih =>
  rw [pathN_succ]
  unfold pathS
  split
  ·next i hi =>
   obtain ⟨r,h1,_,_⟩:=findIdx_first hi
   have hm:=hr r (mG h1)
   rw [gD,h1]
   exact ⟨hm.2.2.1,hm.2.2.2.1⟩
  exact ih
theorem path_hit {rs:List bP} {sl:List Int} {Ln t i:Nat} {r:bP} {pl:List Int} {z:Int} (hp:pathN rs sl Ln t = (pl,z))(h1:∀ (k:Nat) (x:bP),k < i->rs[k]? = some x->hitB rs sl Ln t z x = false)(h2:rs[i]? = some r)(h3:hitB rs sl Ln t z r = true):pathN rs sl Ln (t + 1) = (pl ++ [(i:Int)],r.t):=by
 rw [pathN_succ,hp]
 unfold pathS
 simp only
 rw [findIdx_at h1 h2 h3]
 simp only
 rw [gD,h2]
 rfl
theorem path_stay {rs:List bP} {sl:List Int} {Ln t:Nat} {pl:List Int} {z:Int} (hp:pathN rs sl Ln t = (pl,z))(h1:∀ (k:Nat) (x:bP),rs[k]? = some x->hitB rs sl Ln t z x = false):pathN rs sl Ln (t + 1) = (pl,z):=by
 rw [pathN_succ,hp]
 unfold pathS
 simp only
 rw [findIdx_no h1]

theorem bestG (w:World) (L V:Int) (v sv:Value) (rs:List bP) (sl:List Int)(h:RulesAt 64 w v rs)(hs:IntsAt w sv sl)(hf:eA L V rs sl = 0->rs.length <= 20/\sl.length <= 9) :
  Calls Tryz.prog 52 #[.agg #[.int .i64 L,.int .i64 V,v],sv] w fun e w'=>∃ pv u,e = .returned (.tuple #[pv,u,.int .i64 (bestE L V rs sl)])/\IntsAt w' pv (bestA L V rs sl).1/\CanAt w' u (bestA L V rs sl).2/\Below w.heap.size w w':=by
 obtain ⟨A,c,rfl,hlc,hcm,hat⟩:=h.open_
 obtain ⟨SA,sc,rfl,hsc,hscm,_⟩:=hs.open_
 have hqb:=h.qb (by omega)
 obtain ⟨n,hn⟩:=nm (rs.length)
 obtain ⟨p,hp⟩:=nm (sl.length)
 have HN:=aH hn
 have HP:=aH hp
 have HAT:=aH hat
 have HQ6:=aH hqb
 rw [hn] at hlc
 rw [hp] at hsc
 have HR:Hd (RulesAt 64 w (.slice A n c) rs):=aH (by rw [<- hn]; exact h)
 have HI:Hd (IntsAt w (.slice SA p sc) sl):=aH (by rw [<- hp]; exact hs)
 have HF:=aH hf
 rw [hn,hp]
 obtain ⟨E,hE⟩:=nm (bestE L V rs sl)
 obtain ⟨AS,hS⟩:=nm (bestA L V rs sl)
 obtain ⟨ev,hev⟩:=nm (eA L V rs sl)
 rw [hE,hS]
 have HE:=aH hE
 have HS:=aH hS
 have HEV:=aH hev
 clear h hs hf hn hp hat hqb hE hS hev
 by_cases hz:ev = 0
 ·subst hz
  have hok:=ur HEV.o
  have hck:=lA hok.2.1
  obtain ⟨Ln,rfl⟩:∃ Ln:Nat,L = Ln:=⟨L.toNat,by omega⟩
  have hfew:=HF.o HEV.o
  rw [HN.o,HP.o] at hfew
  have HOK:=aH hok
  have hL1:1 <= Ln:=by omega
  have hL2:Ln <= 60:=by omega
  have HRO:Hd (RulesOk Ln rs):=aH (fun r hr=>by
   have:=hck.2.2.2.2.2.1 r hr
   exact ⟨this.1,this.2.1,this.2.2.1,this.2.2.2.1,this.2.2.2.2.1,this.2.2.2.2.2.2.2⟩)
  obtain ⟨hn20,hp9⟩:=hfew
  obtain ⟨q,hq⟩:=nm (bestQ rs sl Ln)
  have HQ:=aH hq
  have HE0:Hd (q = 0->E = 7/\AS = ([],0)):=aH (fun h0=>by
   rw [<- HE.o,<- HS.o]
   unfold bestE bestA
   rw [Int.toNat_natCast,hq,if_pos HEV.o,if_pos h0,if_neg (fun h=>h.2 h0)]
   exact ⟨rfl,rfl⟩)
  have HE1:Hd (q ≠ 0->E = 0/\AS = (bestP rs sl Ln,q)):=aH (fun h0=>by
   rw [<- HE.o,<- HS.o]
   unfold bestE bestA
   rw [Int.toNat_natCast,hq,if_pos HEV.o,if_neg h0,if_pos ⟨HEV.o,h0⟩]
   exact ⟨rfl,rfl⟩)
  clear hok hck hq
  go_enter Tryz.func52,Tryz.ntmps52
  go_upto_region 1 with fail
  obtain ⟨W,hW,P0,P1,PB,Phs⟩:=cP w 73 [.int .i64 (Ln:Int),.int .i64 V,.slice A n c] 40 [.bool false,.slice none 0 0,.slice none 0 0]
  rw [<- hW]
  clear hW
  obtain ⟨p0,p1,p2,_,_,_⟩:=P0.o.three
  go_wp2_with fail
  refine (jV W Ln V _ _ rs sl 64 (HR.o.below PB.o) (HI.o.below PB.o) (by omega) (by omega)).mono ?_
  rintro e w1 ⟨rfl,hb1⟩
  rw [HEV.o]
  have P01:=aH (P0.o.below' hb1)
  have P11:=aH (P1.o.below' hb1)
  have B1:=aH (PB.o.trans (hb1.mono (by omega)))
  clear hb1 p0 p1 p2 P0 P1 PB Phs
  obtain ⟨p0,p1,p2,_,_,_⟩:=P01.o.three
  go_wp2_with fail
  refine (tj w1 Ln V _ _ rs sl 123 #[] pickJ (HR.o.below B1.o) (HI.o.below B1.o) (by rw [HN.o]; exact hn20) (by rw [HP.o]; omega) HOK.o.2.1 callsPick nice_pickJ pickC).mono ?_
  rintro e w2 ⟨b,rb,m,rfl,hc2,hf2,hbl,hm,hb2,hrows⟩
  rw [HP.o] at hm hrows
  subst hm
  have P02:=aH (P01.o.below' hb2)
  have P12:=aH (P11.o.below' hb2)
  have B2:=aH (B1.o.trans (hb2.mono B1.o.size))
  have ROWS:Hd (RowsAt 20000 w2 b Ln p 0 (fun j=>rowT pickJ Ln rs sl j)):=aH (by
   have:(fun j=>eo pickJ Ln rs sl (p - j)) = (fun j=>rowT pickJ Ln rs sl j):=by
    funext j
    unfold rowT
    rw [HP.o]
   rwa [this] at hrows)
  obtain ⟨q',hq'⟩:∃ q,(eo pickJ Ln rs sl sl.length)[0]? = some q:=⟨_,eG (by rw [iX]; omega)⟩
  have hqq:q' = q:=by
   rw [<- HQ.o]
   unfold bestQ
   rw [gD,hq']
   rfl
  rw [hqq] at hq'
  obtain ⟨s',B,mm,c',B',m',c'',a0,a1,a2,_,_,_,hfq⟩:=hf2.get hq'
  simp only [Nat.zero_mul,Nat.zero_add] at a0 a1 a2
  have FQ:=aH hfq
  have hp1:0 < p + 1:=by omega
  have j0:(0:Int) < (p:Int) + 1:=by omega
  clear hb2 hf2 p0 p1 p2 hq' hfq hrows hqq P01 P11 B1
  go_wp2_with fail
  refine (xg w2 _ q 20000 FQ.o (by omega) (by omega)).mono ?_
  rintro e w3 ⟨v3,rfl,hcn,hb3⟩
  obtain ⟨A3,m3,c3,A3',m3',c3',rfl⟩:=hcn.at_.open_
  have T3:=aH hcn.at_
  have P03:=aH (P02.o.below' hb3)
  have P13:=aH (P12.o.below' hb3)
  have B3:=aH (B2.o.trans (hb3.mono B2.o.size))
  have RW3:=aH (ROWS.o.below hb3)
  have QQ:=aH (FQ.o.qb (by omega))
  clear hb3 hcn a0 a1 a2 hc2 hbl P02 P12 B2 ROWS FQ
  go_upto_region 6 with fail
  obtain ⟨W4,hW4,X0,XB,Xhs⟩:=aA w3 40 [.bool (ae q),.slice A3 m3 c3,.slice A3' m3' c3']
  rw [<- hW4]
  clear hW4
  have XB4:Hd (BoxC W4 w3.heap.size q):=aH (BoxC.of X0.o (T3.o.below XB.o))
  have P04:=aH (P03.o.below' XB.o)
  have P14:=aH (P13.o.below' XB.o)
  have B4:=aH (B3.o.trans (XB.o.mono B3.o.size))
  have RW4:=aH (RW3.o.below XB.o)
  obtain ⟨bw,hbw⟩:=nm (w3.heap.size)
  rw [hbw] at XB4 ⊢
  clear hbw T3 P03 P13 B3 RW3 X0 XB Xhs
  obtain ⟨Ar,mr,cr,Ar',mr',cr',x0,x1,x2,_,_,_,tr⟩:=XB4.o.get
  have TR:=aH (tr.frac (k:=20000) QQ.o (by omega))
  clear tr
  obtain ⟨sg,hsg⟩:=nm (aU q)
  have HSG:=aH hsg
  have HSZ:Hd (sg = 0 ↔ q = 0):=aH (by rw [<- hsg]; exact pQ q)
  clear hsg
  go_wp2_with fail
  refine (jk W4 _ q 20000 TR.o (by omega) (by omega)).mono ?_
  rintro e w5 ⟨rfl,hb5⟩
  rw [HSG.o]
  have XB5:=aH (XB4.o.below hb5)
  have P05:=aH (P04.o.below' hb5)
  have P15:=aH (P14.o.below' hb5)
  have B5:=aH (B4.o.trans (hb5.mono B4.o.size))
  have RW5:=aH (RW4.o.below hb5)
  clear hb5 x0 x1 x2 XB4 P04 P14 B4 RW4 TR
  by_cases h0:sg = 0
  ·have n0:(sg == 0) = true:=by simpa using h0
   obtain ⟨rfl,rfl⟩:=HE0.o (HSZ.o.1 h0)
   obtain ⟨r0,r1,r2,z0,z1,z2⟩:=P15.o.three
   clear h0
   go_wp2_with fail
   exact bodyPost_ret (v:=.tuple #[.slice none 0 0,.agg #[.bool false,.slice none 0 0,.slice none 0 0],.int .i64 7]) (by simp [results,Tryz.results52,go_sem,r0,r1,r2,List.mapM_cons]) rfl ⟨_,_,rfl,IntsAt.nil_ _,uX _,af B5.o (by omega) _ _ _⟩
  have n0:(sg == 0) = false:=by simpa using h0
  obtain ⟨rfl,rfl⟩:=HE1.o (fun h=>h0 (HSZ.o.2 h))
  have i8:IntKind.i64.wrap ((p:Int) + 1) = (p:Int) + 1:=iI _ (by omega)
  obtain ⟨B0,hB0⟩:=nm (w5.heap.size)
  have sbw:bw < w5.heap.size:=XB5.o.lt
  have swr:w.heap.size + 1 < w5.heap.size:=P15.o.lt
  clear h0
  go_wp2_with fail
  go_loopg [40,10,11,12,13,14,15,16] (p + 1) (fun gh s40 s10 s11 _ _ _ _ _ wz=>∃ (t m:Nat) (A9:Option Addr) (c9:Nat) (pl:List Int) (z:Int),s40 = .int .i64 t/\s10 = .slice A9 m c9/\s11 = .int .i64 z/\t + gh = p + 1/\m <= t/\Hd (pl.length = m)/\Hd (pathN rs sl Ln t = (pl,z))/\Hd (wz.ownsRow B0 3 1 (.slice A9 m c9) m (pl.map (Value.int .i64)))/\Hd (Below w5.heap.size w5 wz))
  case atStart=>exact ⟨0,0,none,0,[],0,rfl,rfl,rfl,by omega,by omega,aH rfl,aH rfl,aH (World.ownsRow_nil ..),aH (Below.refl _ _)⟩
  obtain ⟨w6,rfl⟩:∃ x,x = wr:=⟨_,rfl⟩
  obtain ⟨t,m,A9,c9,pl,z,rfl,rfl,rfl,ht,hm,HPL,HPN,OW,BW⟩:=hrel
  have P06:=aH (P05.o.below' BW.o)
  obtain ⟨p0,p1,p2,_,_,_⟩:=P06.o.three
  rcases zP gk with hh | hh
  ·subst hh
   obtain rfl:t = p + 1:=by omega
   have XB6:=aH (XB5.o.below BW.o)
   have P16:=aH (P15.o.below' BW.o)
   have B6:=aH (B5.o.trans (BW.o.mono B5.o.size))
   have HBP:Hd (bestP rs sl Ln = pl):=aH (by
    unfold bestP
    rw [HP.o,HPN.o])
   obtain ⟨Ar,mr,cr,Ar',mr',cr',x0,x1,x2,_,_,_,tr⟩:=XB6.o.get
   obtain ⟨r0,r1,r2,z0,z1,z2⟩:=P16.o.three
   have RN:=aH (FArc.keeps (BoxC.of (q:=0) P16.o (uX w6)) tr 0 1 2 (ae q) Ar Ar' mr cr mr' cr')
   have II:Hd (IntsAt w6 (.slice A9 m c9) pl):=aH (by
    unfold IntsAt
    rw [HPL.o]
    exact Sl.of_own OW.o)
   have FO:=aH (From.of_own OW.o)
   have sb:w.heap.size + 1 < B0:=by omega
   clear tr
   go_wp2_with fail
   go_region
   all_goals
    go_wp2_with fail
    refine bodyPost_ret (v:=.tuple #[.slice A9 m c9,.agg #[.bool (ae q),.slice Ar mr cr,.slice Ar' mr' cr'],.int .i64 0]) (by simp [results,Tryz.results52,go_sem,r0,r1,r2,List.mapM_cons]) rfl ⟨_,_,rfl,by rw [HBP.o]; exact II.o.same FO.o (Same.set3 _ sb 0 1 2 _ _ _),RN.o,by first | exact af B6.o (Nat.le_succ _) _ _ _ | exact (af B6.o (Nat.le_succ _) _ _ _).drew⟩
  obtain ⟨gh,rfl⟩:∃ g,gk = g + 1:=⟨gk - 1,by omega⟩
  have i4:(t:Int) < (p:Int) + 1:=by omega
  have i9:IntKind.i64.wrap ((t:Int) + 1) = (t:Int) + 1:=iI _ (by omega)
  have HZ:Hd (0 <= z/\z < (Ln:Int)):=aH (by
   have:=path_place (L:=Ln) (Ln:=Ln) (by simp) (by omega) HRO.o sl t
   rwa [HPN.o] at this)
  go_wp2_with fail
  go_loopg [46,10,11,13,14,15,16] n (fun g s46 s10 s11 _ _ _ _ wz=>∃ (i:Nat),s46 = .int .i64 i/\s10 = .slice A9 m c9/\s11 = .int .i64 z/\i + g = n/\Hd (∀ (k:Nat) (x:bP),k < i->rs[k]? = some x->hitB rs sl Ln t z x = false)/\Hd (wz.ownsRow B0 3 1 (.slice A9 m c9) m (pl.map (Value.int .i64)))/\Hd (Below w5.heap.size w5 wz))
  case atStart=>exact ⟨0,rfl,rfl,rfl,by omega,aH (fun k x hk=>by omega),OW,BW⟩
  clear OW BW P06 p0 p1 p2
  obtain ⟨w7,rfl⟩:∃ x,x = wr:=⟨_,rfl⟩
  obtain ⟨i,rfl,rfl,rfl,hi,HNO,OW,BW⟩:=hrel
  have P07:=aH (P05.o.below' BW.o)
  obtain ⟨p0,p1,p2,_,_,_⟩:=P07.o.three
  rcases zP gk with hh2 | hh2
  ·subst hh2
   obtain rfl:i = n:=by omega
   have HNX:Hd (pathN rs sl Ln (t + 1) = (pl,z)):=aH (path_stay HPN.o (fun k x hx=>HNO.o k x (by have:=(sI.1 hx).1; rw [HN.o] at this; exact this) hx))
   go_wp2_with fail
   go_roundg gh
   case measure=>omega
   case rel=>exact ⟨t + 1,m,A9,c9,pl,z,rfl,rfl,rfl,by omega,by omega,HPL,HNX,OW,BW⟩
  obtain ⟨g,rfl⟩:∃ g,gk = g + 1:=⟨gk - 1,by omega⟩
  obtain ⟨r,hr⟩:∃ r,rs[i]? = some r:=⟨_,eG (by rw [HN.o]; omega)⟩
  obtain ⟨ba,oa,s,An,nn,cn,Ad,nd,cd,rfl,hba,e0,e1,e2,e3,e4,e5,_⟩:=HAT.o i r hr
  have B7:=aH (B5.o.trans (BW.o.mono B5.o.size))
  have RW7:=aH (RW5.o.below BW.o)
  have c0:=(B7.o.cell (p:=⟨ba,oa + i * 6,none⟩) hba).trans e0
  have c1:=(B7.o.cell (p:=⟨ba,oa + i * 6 + 1,none⟩) hba).trans e1
  have c2:=(B7.o.cell (p:=⟨ba,oa + i * 6 + 2,none⟩) hba).trans e2
  have c3:=(B7.o.cell (p:=⟨ba,oa + i * 6 + 3,none⟩) hba).trans e3
  have c4:=(B7.o.cell (p:=⟨ba,oa + i * 6 + 4,none⟩) hba).trans e4
  have c5:=(B7.o.cell (p:=⟨ba,oa + i * 6 + 5,none⟩) hba).trans e5
  have HX:=aH hr
  have HMR:=aH (mG hr)
  have HRK:=aH (HRO.o r (mG hr))
  have k0:(0:Int) <= (i:Int):=by omega
  have k1:(i:Int) < (n:Int):=by omega
  have k9:IntKind.i64.wrap ((i:Int) + 1) = (i:Int) + 1:=iI _ (by omega)
  clear hr e0 e1 e2 e3 e4 e5
  go_upto_region 16 with fail
  obtain ⟨W8,hW8,G0,GB,Ghs⟩:=aA w7 111 [.int .i64 r.f,.int .i64 r.w,.int .i64 r.t,.bool s,.slice An nn cn,.slice Ad nd cd]
  rw [<- hW8]
  clear hW8
  have OW8:=aH (bK OW.o GB.o)
  have BW8:=aH (BW.o.trans (GB.o.mono BW.o.size))
  have B8:=aH (B7.o.trans (GB.o.mono B7.o.size))
  have RW8:=aH (RW7.o.below GB.o)
  have P08:=aH (P07.o.below' GB.o)
  have HL8:Hd (∀ q,(Value.slice A9 m c9).ownBlock = some q->q < w7.heap.size):=aH (fun q e=>own_lt OW.o e)
  clear OW BW B7 RW7 P07 p0 p1 p2 c0 c1 c2 c3 c4 c5 Ghs GB
  obtain ⟨p0,p1,p2,_,_,_⟩:=P08.o.three
  obtain ⟨row,hrow⟩:=nm (nxtT pickJ Ln rs sl t)
  have HROW:=aH hrow
  have HRB:Hd (∃ rb,t + 1 <= p->(W8.cell? ⟨b,t + 1,none⟩ = some (.slice (some ⟨rb,0,none⟩) Ln Ln)/\FArk 20000 W8 rb row/\row.length = Ln)):=aH (by
   by_cases ht1:t + 1 <= p
   ·obtain ⟨rb,e,hf,_⟩:=RW8.o.row (j:=t + 1) (Nat.zero_le _) ht1
    refine ⟨rb,fun _=>⟨e,?_⟩⟩
    have:rowT pickJ Ln rs sl (t + 1) = row:=by
     rw [<- hrow]
     unfold nxtT
     rw [if_pos (by rw [HP.o]; omega)]
    rw [this] at hf
    exact ⟨hf,by rw [<- this]; exact rowT_length _ _ _ _ _⟩
   exact ⟨0,fun h=>absurd h ht1⟩)
  obtain ⟨rb,hrb⟩:=HRB.o
  have HRB2:=aH hrb
  have sb8:b < W8.heap.size:=by obtain ⟨_,_,_,h⟩:=RW8.o.row (j:=0) (Nat.zero_le _) (Nat.zero_le _); exact h
  clear hrow hrb HRB
  go_wp2_with fail
  refine (ww W8 Ln V _ _ rs sl b rb (p + 1) Ln t i 64 20000 20000 row r (HR.o.below B8.o) (HI.o.below B8.o) HX.o (by rw [HP.o]; omega) (by rw [HP.o]; omega) (fun _ h=>by
   have ht1:t + 1 <= p:=by have:=(sI.1 h).1; rw [HP.o] at this; omega
   obtain ⟨e1,e2,e3⟩:=HRB2.o ht1
   exact ⟨e1,sb8,by omega,by omega,e2,e3,hL2,HRK.o.2.2.1,HRK.o.2.2.2.1⟩) (by omega) (by omega) (by omega) (by omega) (by omega) (fun q hq=>nxt_qb (t:=t) HQ6.o (by rw [HN.o]; exact hn20) (by rw [HP.o]; exact hp9) (by rw [HP.o]; omega) HMR.o (by rw [HROW.o]; exact hq))).mono ?_
  have HHIT:Hd (hitB rs sl Ln t z r = (decide (r.f = z) && decide (eM sl row t r = some ((rowT pickJ Ln rs sl t).getD z.toNat 0)))):=aH (by unfold hitB; rw [HROW.o])
  rintro e w9 ⟨sg9,A9',m9,c9',A9'',m9',c9'',hb9,⟨qx,ho,rfl,hf9⟩ | ⟨ho,rfl⟩⟩
  ·have HO:=aH ho
   have F9:=aH hf9
   have OW9:=aH (bK OW8.o hb9)
   have BW9:=aH (BW8.o.trans (hb9.mono BW8.o.size))
   have G9:=aH (G0.o.below' hb9)
   have RW9:=aH (RW8.o.below hb9)
   clear hb9 ho hf9 p0 p1 p2 OW8 BW8 G0 RW8 P08 HRB2
   go_upto_region 17 with fail
   obtain ⟨W10,hW10,U0,UB,Uhs⟩:=aA w9 40 [.bool sg9,.slice A9' m9 c9',.slice A9'' m9' c9'']
   rw [<- hW10]
   clear hW10
   have F10:=aH (F9.o.below UB.o)
   have OW10:=aH (bK OW9.o UB.o)
   have BW10:=aH (BW9.o.trans (UB.o.mono BW9.o.size))
   have G10:=aH (G9.o.below' UB.o)
   have RW10:=aH (RW9.o.below UB.o)
   obtain ⟨u0,u1,u2,_,_,_⟩:=U0.o.three
   obtain ⟨g0,g1,g2,g3,g4,g5⟩:=six_at G10.o
   clear F9 OW9 BW9 G9 RW9 UB Uhs
   obtain ⟨tk,htk⟩:=nm (hitB rs sl Ln t z r)
   have HTK:=aH htk
   have sU:w9.heap.size < W10.heap.size:=U0.o.lt
   clear htk
   go_cut [78] (fun s78 wc=>s78 = .bool tk/\Hd (Below W10.heap.size W10 wc))
   case first =>
    by_cases hrf:r.f = z
    ·obtain ⟨zN,hzN⟩:∃ zN:Nat,z = zN:=⟨z.toNat,by have:=HZ.o; omega⟩
     subst hzN
     have b1:(r.f == (zN:Int)) = true:=by simpa using hrf
     obtain ⟨rb2,hrc,hrk,_⟩:=RW10.o.row (j:=t) (Nat.zero_le _) (by omega)
     obtain ⟨y,hy⟩:∃ y,(rowT pickJ Ln rs sl t)[zN]? = some y:=⟨_,eG (by rw [rowT_length]; have:=HZ.o; omega)⟩
     obtain ⟨sY,AY,mY,cY,AY',mY',cY',y0,y1,y2,_,_,_,hfy⟩:=hrk.get hy
     have FY:=aH hfy
     have sR:rb2 < W10.heap.size:=hrk.lt
     obtain ⟨sg,hsg⟩:=nm (aU (qx - y))
     have HSG:=aH hsg
     have HTT:Hd (tk = (sg == 0)):=aH (by
      rw [<- HTK.o,HHIT.o,HO.o,dT hrf,Bool.true_and,Int.toNat_natCast,gD,hy,Option.getD_some,<- hsg,Bool.eq_iff_iff,decide_eq_true_eq,beq_iff_eq,Option.some.injEq,pQ]
      constructor
      ·intro h; rw [h,Rat.sub_self]
      intro h; grind)
     have z0:(0:Int) <= (zN:Int):=by omega
     have z1:(zN:Int) < (Ln:Int):=by have:=HZ.o; omega
     have t0:(0:Int) <= (t:Int):=by omega
     have sb10:b < W10.heap.size:=by obtain ⟨_,_,_,h⟩:=RW10.o.row (j:=0) (Nat.zero_le _) (Nat.zero_le _); exact h
     have BB:=aH (Below.refl W10.heap.size W10)
     have sG:w7.heap.size < W10.heap.size:=G10.o.lt
     have HSET:Hd (∀ w',Below W10.heap.size W10 w'->(fun w'=>w'.cell? ⟨w7.heap.size,0,none⟩ = some (.int .i64 r.f)/\w'.cell? ⟨w9.heap.size,0,none⟩ = some (.bool sg9)/\w'.cell? ⟨w9.heap.size,1,none⟩ = some (.slice A9' m9 c9')/\w'.cell? ⟨w9.heap.size,2,none⟩ = some (.slice A9'' m9' c9'')/\w'.cell? ⟨b,t,none⟩ = some (.slice (some ⟨rb2,0,none⟩) Ln Ln)/\w'.cell? ⟨rb2,zN * 3,none⟩ = some (.bool sY)/\w'.cell? ⟨rb2,zN * 3 + 1,none⟩ = some (.slice AY mY cY)/\w'.cell? ⟨rb2,zN * 3 + 2,none⟩ = some (.slice AY' mY' cY')) w'):=aH (fun w' hb=>⟨(hb.cell (p:=⟨w7.heap.size,0,none⟩) sG).trans g0,(hb.cell (p:=⟨w9.heap.size,0,none⟩) sU).trans u0,(hb.cell (p:=⟨w9.heap.size,1,none⟩) sU).trans u1,(hb.cell (p:=⟨w9.heap.size,2,none⟩) sU).trans u2,(hb.cell (p:=⟨b,t,none⟩) sb10).trans hrc,(hb.cell (p:=⟨rb2,zN * 3,none⟩) sR).trans y0,(hb.cell (p:=⟨rb2,zN * 3 + 1,none⟩) sR).trans y1,(hb.cell (p:=⟨rb2,zN * 3 + 2,none⟩) sR).trans y2⟩)
     have hS:=HSET.o W10 BB.o
     clear hrf hy hfy hsg hrc hrk y0 y1 y2 u0 u1 u2 g0 g1 g2 g3 g4 g5
     go_region_held3 (fun w'=>w'.cell? ⟨w7.heap.size,0,none⟩ = some (.int .i64 r.f)/\w'.cell? ⟨w9.heap.size,0,none⟩ = some (.bool sg9)/\w'.cell? ⟨w9.heap.size,1,none⟩ = some (.slice A9' m9 c9')/\w'.cell? ⟨w9.heap.size,2,none⟩ = some (.slice A9'' m9' c9'')/\w'.cell? ⟨b,t,none⟩ = some (.slice (some ⟨rb2,0,none⟩) Ln Ln)/\w'.cell? ⟨rb2,zN * 3,none⟩ = some (.bool sY)/\w'.cell? ⟨rb2,zN * 3 + 1,none⟩ = some (.slice AY mY cY)/\w'.cell? ⟨rb2,zN * 3 + 2,none⟩ = some (.slice AY' mY' cY'))
      (first | assumption | exact hS | go_keep)
      (first
       | (go_at_call 108; refine (vX _ _ _ qx y 20000 (F10.o.below (bS _)) (FY.o.below (bS _)) (by omega) (by omega)).mono ?_; rintro e wl ⟨rfl,hb'⟩; rw [HSG.o]; have hb:=bO hb'; replace BB:=aH hb; have hS:=HSET.o _ BB.o; clear hb hb'))
     all_goals
      go_wp2_with fail
      go_meet
      exact ⟨by rw [HTT.o],BB⟩
    have b1:(r.f == z) = false:=by simpa using hrf
    obtain rfl:tk = false:=by rw [<- HTK.o,HHIT.o,dF hrf,Bool.false_and]
    clear hrf
    go_quiet (fail)
    go_wp2_with fail
    go_meet
    exact ⟨rfl,aH (ak (Below.refl _ W10) nq)⟩
   obtain ⟨rfl,hcc⟩:=hcut
   obtain ⟨w11,rfl⟩:∃ x,x = wc:=⟨_,rfl⟩
   have OW11:=aH (bK OW10.o hcc.o)
   have BW11:=aH (BW10.o.trans (hcc.o.mono BW10.o.size))
   have G11:=aH (G10.o.below' hcc.o)
   clear hcc OW10 BW10 G10 RW10 F10 U0 u0 u1 u2 g0 g1 g2 g3 g4 g5
   cases tk with
   | false =>
    go_wp2_with fail
    go_roundg g
    case measure=>omega
    case rel=>exact ⟨i + 1,rfl,rfl,rfl,by omega,aH (fun k x hk hx=>by
     rcases Nat.lt_or_ge k i with h | h
     ·exact HNO.o k x h hx
     obtain rfl:k = i:=by omega
     rw [HX.o] at hx
     cases hx
     exact HTK.o),OW11,BW11⟩
   | true =>
    have HNX:Hd (pathN rs sl Ln (t + 1) = (pl ++ [(i:Int)],r.t)):=aH (path_hit HPN.o HNO.o HX.o HTK.o)
    obtain ⟨xs,hxs⟩:=nm (pl.map (Value.int .i64))
    have HTL:Hd ((pl ++ [(i:Int)]).map (Value.int .i64) = xs ++ [.int .i64 i]):=aH (by rw [List.map_append,hxs]; rfl)
    rw [hxs] at OW11
    have HPL2:Hd ((pl ++ [(i:Int)]).length = m + 1):=aH (by rw [List.length_append,HPL.o]; rfl)
    obtain ⟨i0,gi,gz0,gz1,gz2⟩:=info_parts eD
    have s11:w5.heap.size <= w11.heap.size:=BW11.o.size
    have sG:w7.heap.size < w11.heap.size:=G11.o.lt
    clear hxs
    go_wp2_with (at_builtin; refine al rfl (.tmp 79) (.tmp 81) 44 rfl B0 3 i0 (.int .i64 0) 1 8 Tryz.underlying44 gi gz0 gz1 gz2 rfl (by decide) _ _ _ rfl (bK OW11.o (Below.alloc (Below.refl _ _) (nR _) _)) _ 1 [.int .i64 i] rfl (Sl.one _ _ _) (by simp [Value.oneCell']) (by unfold maxLen; omega) (by omega) (by simp; omega) ?_)
    intro v3 w12 t1 t2 t3
    obtain ⟨gb,cap,rfl⟩:=g9 t1 (by omega)
    have hnk:∀ q,(Value.slice A9 m c9).ownBlock = some q->B0 <= q:=ao (From.of_own OW11.o)
    have OW12:Hd (w12.ownsRow B0 3 1 (.slice (some ⟨gb,0,none⟩) (m + 1) cap) (m + 1) ((pl ++ [(i:Int)]).map (Value.int .i64))):=aH (by rw [HTL.o]; exact t1)
    have G12:=aH ((G11.o.alloc (.cells #[.int .i64 i] 3)).grown t2 (fun e=>by have:=HL8.o _ e.symm; omega))
    have BW12:=aH ((BW11.o.alloc s11 (.cells #[.int .i64 i] 3)).grown t2 (by simp; omega) (fun q e=>by have:=hnk _ e; omega))
    clear t1 t2 t3 hnk OW11 G11 BW11
    obtain ⟨g0,g1,g2,g3,g4,g5⟩:=six_at G12.o
    go_wp2_with fail
    go_roundg gh
    case measure=>omega
    case rel=>exact ⟨t + 1,m + 1,some ⟨gb,0,none⟩,cap,pl ++ [(i:Int)],r.t,rfl,rfl,rfl,by omega,by omega,HPL2,HNX,OW12,BW12⟩
  have HMISS:Hd (hitB rs sl Ln t z r = false):=aH (by rw [HHIT.o,ho]; simp)
  have OW9:=aH (bK OW8.o hb9)
  have BW9:=aH (BW8.o.trans (hb9.mono BW8.o.size))
  clear hb9 ho p0 p1 p2 OW8 BW8
  go_upto_region 17 with fail
  obtain ⟨W10,hW10,U0,UB,Uhs⟩:=aA w9 40 [.bool sg9,.slice A9' m9 c9',.slice A9'' m9' c9'']
  rw [<- hW10]
  clear hW10
  have OW10:=aH (bK OW9.o UB.o)
  have BW10:=aH (BW9.o.trans (UB.o.mono BW9.o.size))
  go_quiet (fail)
  go_wp2_with fail
  go_roundg g
  case measure=>omega
  case rel=>exact ⟨i + 1,rfl,rfl,rfl,by omega,aH (fun k x hk hx=>by
   rcases Nat.lt_or_ge k i with h | h
   ·exact HNO.o k x h hx
   obtain rfl:k = i:=by omega
   rw [HX.o] at hx
   cases hx
   exact HMISS.o),aH (bK OW10.o (ak (Below.refl _ W10) nq)),aH (ak BW10.o nq)⟩
 have bz:(ev != 0) = true:=by simpa using hz
 obtain rfl:E = ev:=by rw [<- HE.o]; unfold bestE; rw [if_neg (by rw [HEV.o]; exact hz),HEV.o]
 obtain rfl:AS = ([],0):=by rw [<- HS.o]; unfold bestA; rw [if_neg (fun h=>hz (by rw [<- HEV.o]; exact h.1))]
 clear hz
 go_enter Tryz.func52,Tryz.ntmps52
 go_upto_region 1 with fail
 obtain ⟨W,hW,P0,P1,PB,Phs⟩:=cP w 73 [.int .i64 L,.int .i64 V,.slice A n c] 40 [.bool false,.slice none 0 0,.slice none 0 0]
 rw [<- hW]
 clear hW
 obtain ⟨p0,p1,p2,_,_,_⟩:=P0.o.three
 go_wp2_with fail
 refine (jV W L V _ _ rs sl 64 (HR.o.below PB.o) (HI.o.below PB.o) (by omega) (by omega)).mono ?_
 rintro e w1 ⟨rfl,hb1⟩
 rw [HEV.o]
 have P11:=aH (P1.o.below' hb1)
 have B1:=aH (PB.o.trans (hb1.mono (by omega)))
 clear hb1 p0 p1 p2
 obtain ⟨r0,r1,r2,z0,z1,z2⟩:=P11.o.three
 go_wp2_with fail
 exact bodyPost_ret (v:=.tuple #[.slice none 0 0,.agg #[.bool false,.slice none 0 0,.slice none 0 0],.int .i64 E]) (by simp [results,Tryz.results52,go_sem,r0,r1,r2,List.mapM_cons]) rfl ⟨_,_,rfl,IntsAt.nil_ _,uX _,af B1.o (by omega) _ _ _⟩
theorem bestQ_qb {Ln:Nat} {rs:List bP} {sl:List Int} (hq:∀ r ∈ rs,QB 64 r.q)(hn:rs.length <= 20)(hs:sl.length <= 9):QB 20000 (bestQ rs sl Ln):=by
 have h:=(uv (Ln:=Ln) nice_pickJ hq hn hs sl.length (nR _)).2.2
 unfold bestQ
 rw [gD]
 cases hh:(eo pickJ Ln rs sl sl.length)[0]? with
 | none=>exact cB 20000 (by omega)
 | some q=>exact h q (mG hh)
end Go.Proofs.YtjebfdfkjlkifaaGreat
