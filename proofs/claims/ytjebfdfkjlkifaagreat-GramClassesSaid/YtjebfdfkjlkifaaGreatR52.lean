/- Lemmas. -/
import Derived.Test.YtjebfdfkjlkifaaGreatR51
set_option linter.all false
set_option maxRecDepth 1000000
set_option maxHeartbeats 32000000
namespace Go.Proofs.YtjebfdfkjlkifaaGreat
open Go.RowKit
def dq (k:Int) (T:Nat->List Int->Int->Int) (v:Nat) (a:Rat) (n:Nat)(h:List Int):List Rat:=if k = 4 then bw T v n h else bJ T v a n h
def bR (C:Int->Int):Nat->Nat
 | 0=>0
 | j + 1=>if C (j:Int) = 0 then bR C j else bR C j + 1
theorem jG (C:Int->Int) (v:Nat):bR C (v + 1) = aF C v:=by
 induction v with
 | zero =>
  rw [ep]
  show (if C ((0:Nat):Int) = 0 then 0 else 0 + 1) = _
  rfl
 | succ v ih =>
  rw [er,<- ih]
  show (if C ((v + 1:Nat):Int) = 0 then bR C (v + 1) else bR C (v + 1) + 1) = _
  split <;> rfl
theorem kO (C:Int->Int) (j:Nat):bR C j <= j:=by
 induction j with
 | zero=>exact nR _
 | succ j ih =>
  unfold bR
  split <;> omega

theorem gX (k:Int) (T:Nat->List Int->Int->Int) (v:Nat) (a:Rat) (n:Nat)(h:List Int):(dq k T v a n h).length = v + 1:=by
 unfold dq
 split
 ·exact cL ..
 exact bN ..
theorem rP {k:Int} {T:Nat->List Int->Int->Int} (hT:∀ n h,Mild (T n h)) {v:Nat} (hv:v <= 8) {a:Rat} (ha:QB 64 a) {n:Nat} (hn:n <= 4)(h:List Int):∀ q ∈ dq k T v a n h,QB 5000000 q:=by
 have:=po hn
 unfold dq
 split
 ·exact fun q hq=>(iB hT hv n h q hq).mono (by omega)
 exact fun q hq=>(jS hT hv ha n h q hq).mono (by omega)
theorem ot {k:Int} (hk:k = 3 ∨ k = 4) {T:Nat->List Int->Int->Int} (hT:∀ n h,Mild (T n h)) (v:Nat) (a:Rat) (n:Nat)(h:List Int) {S:Int} (hS:aM (T (n + 1) h) v = S) :
  dq k T v a (n + 1) h = (List.range (v + 1)).map (fun x=>fj k v a ((dq k T v a n (h.drop 1)).getD x 0) (aY (T (n + 1) h) (dq k T v a n (h.drop 1)) (v + 1)) (T (n + 1) h x) S (bR (T (n + 1) h) (v + 1):Nat)):=by
 subst hS
 rw [jG]
 have hkp:=dU (hT (n + 1) h) v
 have hK:=dV (T (n + 1) h) v
 by_cases hs:aM (T (n + 1) h) v = 0
 ·have e:∀ x:Nat,fj k v a ((dq k T v a n (h.drop 1)).getD x 0) (aY (T (n + 1) h) (dq k T v a n (h.drop 1)) (v + 1)) (T (n + 1) h x) (aM (T (n + 1) h) v) (aF (T (n + 1) h) v:Nat) = (dq k T v a n (h.drop 1)).getD x 0:=fun x=>by
   unfold fj
   rw [if_pos hs]
  rw [List.map_congr_left (fun x _=>e x),js _ (gX ..)]
  unfold dq
  rcases hk with rfl | rfl
  ·rw [if_neg (by decide),if_neg (by decide)]
   show (if aF (T (n + 1) h) v = v + 1 then _ else if aM (T (n + 1) h) v = 0 then _ else _) = _
   rw [if_neg (by omega),if_pos hs]
  rw [if_pos rfl,if_pos rfl]
  show (if aM (T (n + 1) h) v = 0 then _ else _) = _
  rw [if_pos hs]
 rcases hk with rfl | rfl
 ·unfold dq
  rw [if_neg (by decide),if_neg (by decide)]
  show (if aF (T (n + 1) h) v = v + 1 then _ else if aM (T (n + 1) h) v = 0 then _ else _) = _
  by_cases hv:aF (T (n + 1) h) v = v + 1
  ·rw [if_pos hv]
   refine List.map_congr_left (fun x _=>?_)
   unfold fj
   rw [if_neg hs,if_neg (by decide),if_pos (show ((aF (T (n + 1) h) v:Nat):Int) = (v:Int) + 1 by omega)]
  rw [if_neg hv,if_neg hs]
  refine List.map_congr_left (fun x _=>?_)
  unfold fj fU
  rw [if_neg hs,if_neg (show ¬ (3:Int) = 4 by decide),if_neg (show ¬ ((aF (T (n + 1) h) v:Nat):Int) = (v:Int) + 1 by omega),Rat.intCast_natCast]
 unfold dq
 rw [if_pos rfl,if_pos rfl]
 show (if aM (T (n + 1) h) v = 0 then _ else _) = _
 rw [if_neg hs]
 refine List.map_congr_left (fun x _=>?_)
 unfold fj iA
 rw [if_neg hs,if_pos rfl,Rat.intCast_natCast]
theorem uz {k:Int} (hk:k = 3 ∨ k = 4) {T:Nat->List Int->Int->Int} (hT:∀ n h,Mild (T n h)) {v:Nat} {a:Rat} (ha:k = 3->0 < a/\a < 1) (n:Nat) (h h':List Int)(h4:k ≠ 4)(hK:((bR (T (n + 1) h) (v + 1):Nat):Int) ≠ (v:Int) + 1):aY (T (n + 1) h) (dq k T v a n h') (v + 1) ≠ 0:=by
 obtain rfl:k = 3:=by omega
 rw [jG] at hK
 obtain ⟨x,hx,hc⟩:=lF (C:=T (n + 1) h) (v:=v) (by omega)
 have e:dq 3 T v a n h' = bJ T v a n h':=by unfold dq; rw [if_neg (by decide)]
 rw [e]
 exact fh (gc (gn hT (ha rfl).1 (ha rfl).2 n h') (by omega) (by rw [bN]; omega) hc)
def NoU (x:Value):Prop:=∀ z,x ≠ .int .u32 z
theorem DigAt.offU {w:World} {v:Value} {l:List Nat} {b:Nat} {e:TypeId} {xs:List Value} (h:DigAt w v l)(hb:Blk w b e xs)(hx:∀ x ∈ xs,NoU x):Off v b:=by
 obtain ⟨⟨h0,A,c,rfl,_,_,h5⟩,_⟩:=h
 intro ad n' c' e' hn
 cases e'
 obtain ⟨b',off,e',_,hc⟩:=h5 hn
 cases e'
 simp only
 intro hbb
 subst hbb
 cases l with
 | nil=>simp at hn
 | cons d l =>
  have h1:=hc 0 (dg d) rfl
  rw [hb.cell] at h1
  exact hx _ (mG h1) _ rfl
theorem CanAt.putU {w:World} {v:Value} {q:Rat} {g:Nat} {e:TypeId} {xs:List Value} (h:CanAt w v q)(hb:Blk w g e xs)(hx:∀ x ∈ xs,NoU x) (i:Nat) (u:Value):CanAt (w.setCell ⟨g,i,none⟩ u) v q:=by
 obtain ⟨vn,vd,e,h1,h2⟩:=h
 have o1:Off vn g:=by obtain ⟨l,h,_⟩:=h1; exact h.offU hb hx
 have o2:Off vd g:=by obtain ⟨l,h,_⟩:=h2; exact h.offU hb hx
 exact ⟨vn,vd,e,h1.setOff (p:=⟨g,i,none⟩) o1 u,h2.setOff (p:=⟨g,i,none⟩) o2 u⟩
theorem lO {xs:List Value} (hx:∀ x ∈ xs,NoU x) (i:Nat) {u:Value} (hu:NoU u):∀ x ∈ xs.set i u,NoU x:=by
 intro x h
 rcases List.mem_or_eq_of_mem_set h with h | rfl
 ·exact hx x h
 exact hu
theorem pa (z:Int):NoU (.int .i64 z):=fun _ e=>by cases e
theorem FArc.farU1 {w:World} {b:Nat} {qs:List Rat} (h:FArc w b qs) {g:Nat} {e:TypeId} {xs:List Value} (hb:Blk w g e xs)(hx:∀ x ∈ xs,NoU x)(hne:b ≠ g) (i:Nat) (u:Value):FArc (w.setCell ⟨g,i,none⟩ u) b qs:=by
 obtain ⟨ys,g1,g2,gx,g3⟩:=h
 refine ⟨ys,g1.far (p:=⟨g,i,none⟩) hne u,g2,gx,fun j r hr=>?_⟩
 obtain ⟨A1,m1,c1,A1',m1',c1',e0,e1,e2,e3⟩:=g3 j r hr
 exact ⟨A1,m1,c1,A1',m1',c1',e0,e1,e2,e3.putU hb hx _ _⟩
theorem FArc.far3U {w:World} {b:Nat} {qs:List Rat} (h:FArc w b qs) {g:Nat} {e:TypeId} {xs:List Value} (hb:Blk w g e xs)(hx:∀ x ∈ xs,NoU x)(hne:b ≠ g) (i j k:Nat) (u0 u1 u2:Value)(h0:NoU u0)(h1:NoU u1) :
  FArc (((w.setCell ⟨g,i,none⟩ u0).setCell ⟨g,j,none⟩ u1).setCell ⟨g,k,none⟩ u2) b qs :=
 ((h.farU1 hb hx hne i u0).farU1 (hb.set_ i u0) (lO hx i h0) hne j u1).farU1 ((hb.set_ i u0).set_ j u1) (lO (lO hx i h0) j h1) hne k u2
theorem wO (a b c:Int) (Al:Option Addr) (nl cl:Nat) (s:Bool) (A A':Option Addr) (m c1 m' c':Nat) (Am:Option Addr) (ml cm:Nat):∀ x ∈ [Value.int .i64 a,.int .i64 b,.slice Al nl cl,.int .i64 c,.bool s,.slice A m c1,.slice A' m' c',.slice Am ml cm],NoU x:=by
 intro x hx
 simp only [List.mem_cons,List.not_mem_nil,or_false] at hx
 rcases hx with rfl | rfl | rfl | rfl | rfl | rfl | rfl | rfl <;> exact fun _ e=>by cases e

def rowX (k:Int) (T:Nat->List Int->Int->Int) (v:Nat) (a:Rat) (mix:List Rat) (n:Nat)(h:List Int):List Rat:=if k = 2 then dR T v mix n h else dq k T v a n h

theorem wL (O v:Nat) (gs:List Gr) (k:Int) (s:Bool) (A A':Option Addr) (m c m' c':Nat) (Am:Option Addr) (ml cm:Nat) (a:Rat) (mix:List Rat)(hk:k = 2 ∨ k = 3 ∨ k = 4)(hO:1 <= O/\O <= 4)(hT:SmallT gs v)(hS:iw v O gs)(ha:k = 3->0 < a/\a < 1) (n:Nat):∀ (w:World) (Al:Option Addr) (nl cl:Nat)(hv:Value)(h:List Int),n <= O->GramsAt w (.slice Al nl cl) (dE gs (O - n))->IntsAt w hv h->h.length = n - 1->FracAt 64 w (.agg #[.bool s,.slice A m c,.slice A' m' c']) a->(k = 2->n = O/\FracsAt 64 w (.slice Am ml cm) mix/\mix.length = O + 1) ->
  Calls Tryz.prog 43 #[aG n v (.slice Al nl cl) k s A A' m c m' c' (.slice Am ml cm),hv] w (dj w v (rowX k (ap O gs) v a mix n h)):=by
 have hv8:=hT.2.2.2
 induction n with
 | zero =>
  intro w Al nl cl hv h _ _ hI _ _ hM
  have hk2:k ≠ 2:=fun e=>by have:=(hM e).1; omega
  obtain ⟨Ah,ch,rfl,_,_,_⟩:=hI.open_
  have:=wJ w v Al nl cl k s A A' m c m' c' Am ml cm _ Ah h.length ch rfl hv8
  unfold rowX
  rw [if_neg hk2]
  unfold dq
  rcases hk with rfl | rfl | rfl
  ·exact absurd rfl hk2
  ·exact this
  exact this
 | succ n ih =>
  intro w Al nl cl hv h hn hG hI hl hF hM
  have HMM:=aH hM
  have HTS:=aH hS
  have hO1:=hO.1
  have hO4:=hO.2
  have hTL:=oU (O - (n + 1)) (n:=n + 1) (v:=v) (gs:=gs) (by rw [show n + 1 + (O - (n + 1)) = O by omega]; exact hS)
  have hlow:dE gs (O - n) = bV [] (cE (dE gs (O - (n + 1)))):=by
   rw [show O - n = (O - (n + 1)) + 1 by omega]
   rfl
  obtain ⟨tb,htb⟩:=nm (dE gs (O - (n + 1)))
  rw [htb] at hTL hlow hG
  have HTB:=aH htb
  have hC:(fun x=>tot 0 tb (h ++ [x])) = ap O gs (n + 1) h:=by
   funext x
   rw [hTL.2]
   unfold ap
   rw [Nat.zero_add]
  obtain ⟨Ah,ch,rfl,hhc,hhm,_⟩:=hI.open_
  have hln:h.length = n:=by omega
  rw [hln] at hI hhc ⊢
  have hnl:tb.length = nl:=by
   obtain ⟨_,_,e,_⟩:=hG.open_
   injection e with _ e2
   exact e2.symm
  have HG:=aH hG
  have HI:=aH hI
  have HF:=aH hF
  have HTL:=aH hTL
  have HLOW:=aH hlow
  have HC:=aH hC
  have HLN:=aH hln
  have HNL:=aH hnl
  have IH:=aH ih
  have HT:=aH hT
  have HAA:=aH ha
  have HPT:=aH (fun j=>jE hTL.1 j)
  have k1:(k == 1) = false:=by rcases hk with rfl | rfl | rfl <;> rfl
  have HK3:=aH hk
  have n0:(((n:Int) + 1) == 0) = false:=by simpa using (show ¬ (n:Int) + 1 = 0 by omega)
  have v1:IntKind.i64.wrap ((v:Int) + 1) = (v:Int) + 1:=iI _ (by omega)
  clear hG hI hF hTL hlow hC htb ih hT hS ha hl hln hnl hM hk hO
  unfold aG
  go_enter Tryz.func43,Tryz.ntmps43
  go_wp2_with (at_make; refine aD rfl _ _ rfl ((v:Int) + 1) (v + 1) rfl rfl (by omega) (by omega) ?_)
  obtain ⟨W,hW,P0,PB,Phs⟩:=aA w 43 [.int .i64 ((n:Int) + 1),.int .i64 v,.slice Al nl cl,.int .i64 k,.bool s,.slice A m c,.slice A' m' c',.slice Am ml cm]
  rw [<- hW]
  clear hW
  intro w1 hf1 hb1
  have F1:=aH hf1.arc
  have P1:=aH (P0.o.below hb1 (by omega))
  have B1:=aH (PB.o.trans (hb1.mono (by omega)))
  clear hf1 hb1 P0 PB
  obtain ⟨p0,p1,p2,p3,p4,p5,p6,p7⟩:=an P1.o
  go_wp2_with fail
  refine (mH w1 (n + 1) v (.slice Al nl cl) tb (.slice Ah n ch) h (HG.o.below B1.o) (HI.o.below B1.o) HTL.o.1.1 (by omega) hv8 (by rw [HLN.o])).mono ?_
  rw [HC.o]
  rintro e w2 ⟨cb,rfl,hcb,hct,hb2⟩
  obtain ⟨S,hS0⟩:=nm (aM (ap O gs (n + 1) h) v)
  rw [hS0]
  have HS:=aH hS0
  have CT:=aH hct
  have F2:=aH (F1.o.below hb2)
  have P2:=aH (P1.o.below' hb2)
  have B2:=aH (B1.o.trans (hb2.mono B1.o.size))
  have so:w.heap.size + 1 < w1.heap.size:=F1.o.lt
  clear p0 p1 p2 p3 p4 p5 p6 p7 hb2 hct hS0 F1 P1 B1
  obtain ⟨p0,p1,p2,p3,p4,p5,p6,p7⟩:=an P2.o
  go_upto_region 17 with fail
  obtain ⟨W2,hW2,Q0,QB,Qhs⟩:=aA w2 43 [.int .i64 ((n:Int) + 1),.int .i64 v,.slice Al nl cl,.int .i64 k,.bool s,.slice A m c,.slice A' m' c',.slice Am ml cm]
  rw [<- hW2]
  clear hW2
  have F3:=aH (F2.o.below QB.o)
  have P3:=aH (P2.o.below' QB.o)
  have C3:Hd (CntAt W2 cb v (ap O gs (n + 1) h)):=aH (Blk.below' CT.o QB.o)
  have B3:=aH (B2.o.trans (QB.o.mono B2.o.size))
  have sc:cb < w2.heap.size:=Blk.lt CT.o
  have sf:w.heap.size + 1 < w2.heap.size:=F2.o.lt
  obtain ⟨bl,hbl⟩:=nm (w2.heap.size)
  rw [hbl] at Q0 sc sf ⊢
  have QL:=aH Q0.o.lt
  clear hbl F2 P2 CT B2 p0 p1 p2 p3 p4 p5 p6 p7 QB
  obtain ⟨p0,p1,p2,p3,p4,p5,p6,p7⟩:=an P3.o
  have e1:((n:Int) + 1 - 1) = (n:Int):=by omega
  go_wp2_with fail
  refine (sq W2 ((n:Int) + 1) v Al cl nl n tb (HG.o.below B3.o) HNL.o (fun g hg=>⟨(HTL.o.1.1.2 g hg).1,(HTL.o.1.1.2 g hg).2.2⟩) (by have:=HTL.o.1.1.1; have:=HNL.o; omega) (by omega) (by omega) HPT.o).mono ?_
  rintro e w3 ⟨lv,rfl,hgo,_,hb3⟩
  rw [e1]
  rw [<- HLOW.o] at hgo
  obtain ⟨Ao,co,rfl⟩:=hgo.len
  obtain ⟨lo,hlo⟩:=nm ((dE gs (O - n)).length)
  rw [hlo] at hgo ⊢
  have G4:=aH hgo
  have F4:=aH (F3.o.below hb3)
  have P4:=aH (P3.o.below' hb3)
  have C4:Hd (CntAt w3 cb v (ap O gs (n + 1) h)):=aH (Blk.below' C3.o hb3)
  have B4:=aH (B3.o.trans (hb3.mono B3.o.size))
  have Q4:=aH (Q0.o.below' hb3)
  clear hlo hgo hb3 F3 P3 C3 B3 Q0 p0 p1 p2 p3 p4 p5 p6 p7
  obtain ⟨p0,p1,p2,p3,p4,p5,p6,p7⟩:=an P4.o
  obtain ⟨q0,q1,q2,q3,q4,q5,q6,q7⟩:=an Q4.o
  have z0:=Q4.o.frozen 0
  have z1:=Q4.o.frozen 1
  have z2:=Q4.o.frozen 2
  go_upto_if 84 with fail
  obtain ⟨W4,hW4⟩:∃ z,((w3.setCell ⟨bl,0,none⟩ (.int .i64 n)).setCell ⟨bl,1,none⟩ (.int .i64 v)).setCell ⟨bl,2,none⟩ (.slice Ao lo co) = z:=⟨_,rfl⟩
  rw [hW4]
  have F5:Hd (FArc W4 (w.heap.size + 1) (List.replicate (v + 1) 0)):=aH (by rw [<- hW4]; exact F4.o.far3U Q4.o (wO _ _ _ _ _ _ _ _ _ _ _ _ _ _ _ _) (by omega) _ _ _ _ _ _ (pa _) (pa _))
  have G5:Hd (GramsAt W4 (.slice Ao lo co) (dE gs (O - n))):=aH (by rw [<- hW4]; have:=QL.o; exact (((G4.o.setFar (p:=⟨bl,0,none⟩) (by show bl < W2.heap.size + 3; omega) _).setFar (p:=⟨bl,1,none⟩) (by show bl < W2.heap.size + 3; omega) _).setFar (p:=⟨bl,2,none⟩) (by show bl < W2.heap.size + 3; omega) _).at_)
  have P5:Hd (Blk W4 w.heap.size 43 [.int .i64 ((n:Int) + 1),.int .i64 v,.slice Al nl cl,.int .i64 k,.bool s,.slice A m c,.slice A' m' c',.slice Am ml cm]):=aH (by rw [<- hW4]; exact P4.o.far3 (by omega) _ _ _ _ _ _)
  have C5:Hd (CntAt W4 cb v (ap O gs (n + 1) h)):=aH (by rw [<- hW4]; exact Blk.far3 C4.o (by omega) _ _ _ _ _ _)
  have Q5:Hd (Blk W4 bl 43 [.int .i64 n,.int .i64 v,.slice Ao lo co,.int .i64 k,.bool s,.slice A m c,.slice A' m' c',.slice Am ml cm]):=aH (by rw [<- hW4]; exact ((Q4.o.set_ 0 _).set_ 1 _).set_ 2 _)
  have B5:Hd (Below w.heap.size w W4):=aH (by rw [<- hW4]; exact aL B4.o (by omega) _ _ _ _ _ _)
  have hs4:bl < W4.heap.size:=Q5.o.lt
  clear hW4 F4 G4 P4 C4 Q4 B4 p0 p1 p2 p3 p4 p5 p6 p7 q0 q1 q2 q3 q4 q5 q6 q7 z0 z1 z2
  go_cut [12] (fun hs wc=>wc = W4/\∃ (Ah2:Option Addr) (ch2:Nat),hs = .slice Ah2 (n - 1) ch2/\Hd (IntsAt W4 hs (h.drop 1)))
  case first =>
   have IA:=aH (HI.o.below B5.o)
   rcases zP n with h0 | h0
   ·subst h0
    go_wp2_with fail
    go_meet
    exact ⟨rfl,_,_,rfl,aH (by rw [List.eq_nil_of_length_eq_zero (l:=h.drop 1) (by rw [List.length_drop,HLN.o])]; exact IntsAt.nil_ _)⟩
   have d1:decide ((0:Int) < (n:Int)) = true:=dT (by omega)
   have d2:decide (0 < n) = true:=dT h0
   obtain ⟨ba,oa,rfl,tl⟩:=IA.o.tail1 HLN.o h0
   have m0:min (1:Int) (n:Int) = 1:=by omega
   have n1:(1:Int) <= (n:Int):=by omega
   have n2:(n:Int) <= (ch:Int):=by omega
   rcases Nat.lt_or_ge 1 ch with hc0 | hc0
   ·have hc1:¬ ch = 1:=by omega
    rw [if_neg hc1] at tl
    have TL:=aH tl
    clear tl
    go_wp2_with fail
    go_meet
    exact ⟨rfl,_,_,rfl,TL⟩
   obtain rfl:ch = 1:=by omega
   obtain rfl:n = 1:=by omega
   rw [if_pos rfl] at tl
   have TL:=aH tl
   clear tl
   go_wp2_with fail
   go_meet
   exact ⟨rfl,_,_,rfl,TL⟩
  obtain ⟨rfl,Ah2,ch2,rfl,HI2⟩:=hcut
  obtain ⟨p0,p1,p2,p3,p4,p5,p6,p7⟩:=an P5.o
  obtain ⟨q0,q1,q2,q3,q4,q5,q6,q7⟩:=an Q5.o
  by_cases hk2:k = 2
  ·subst hk2
   obtain ⟨rfl,hm1,hm2⟩:=HMM.o rfl
   have hgs:gs = tb:=by
    have h1:=HTB.o
    rw [Nat.sub_self] at h1
    exact h1
   rw [<- hgs] at HG
   have MR:=aH (vO wc (n + 1) v gs 2 s A A' m c m' c' Am ml cm mix ⟨by omega,hO4⟩ HT.o HTS.o Al nl cl (.slice Ah n ch) h (HG.o.below B5.o) (HI.o.below B5.o) (by rw [HLN.o]) (hm1.below B5.o) hm2)
   unfold aG at MR
   clear hm1 hm2 hgs
   go_wp2_with fail
   refine MR.o.mono ?_
   rintro e w6 ⟨b6,rfl,hb6,f6,hbb⟩
   have FB:=aH f6
   have B6:=aH (B5.o.trans (hbb.mono B5.o.size))
   clear f6 hbb
   go_wp2_with fail
   go_ret
   exact ⟨_,rfl,by have:=B5.o.size; omega,FB.o,B6.o⟩
  have k2:(k == 2) = false:=by simpa using hk2
  have HKK:Hd (k = 3 ∨ k = 4):=aH (by have:=HK3.o; omega)
  have HNX:Hd (∀ n h,rowX k (ap O gs) v a mix n h = dq k (ap O gs) v a n h):=aH (fun n h=>by unfold rowX; rw [if_neg hk2])
  have HK2:=aH hk2
  clear hk2
  go_wp2_with fail
  refine (IH.o wc Ao lo co (.slice Ah2 (n - 1) ch2) (h.drop 1) (by omega) G5.o HI2.o (by rw [List.length_drop,HLN.o]) (HF.o.below B5.o) (fun h2=>absurd h2 HK2.o)).mono ?_
  rw [HNX.o]
  rintro e w6 ⟨b6,rfl,hb6,f6,hbb⟩
  obtain ⟨w0,rfl⟩:∃ x,x = w:=⟨_,rfl⟩
  obtain ⟨CF,hCF⟩:=nm (ap O gs (n + 1) h)
  obtain ⟨low,hlow⟩:=nm (dq k (ap O gs) v a n (h.drop 1))
  rw [hCF] at C5 HS
  rw [hlow] at f6
  have HCF:=aH hCF
  have HLW:=aH hlow
  have FB:=aH f6
  have F6:=aH (F5.o.below hbb)
  have P6:=aH (P5.o.below' hbb)
  have C6:Hd (CntAt w6 cb v CF):=aH (Blk.below' C5.o hbb)
  have B6:=aH (B5.o.trans (hbb.mono B5.o.size))
  have hb6':bl < b6:=by omega
  have LEN:Hd (low.length = v + 1):=aH (by rw [<- hlow]; exact gX ..)
  have QB5:Hd (∀ q ∈ low,QB 5000000 q):=aH (by rw [<- hlow]; exact rP (fun n h=>HT.o.mild O n h) hv8 (HF.o.qb (by omega)) (by omega) _)
  have QR:Hd (∀ q,q <= v + 1->QB 50000000 (aY CF low q)):=aH (fun q hq=>(jq CF (B:=5000000) (by omega) QB5.o q).mono (by omega))
  have ML:Hd (Mild CF):=aH (by rw [<- hCF]; exact HT.o.mild O (n + 1) h)
  clear hCF hlow f6 hbb F5 G5 P5 C5 Q5 B5 hb6 p0 p1 p2 p3 p4 p5 p6 p7 q0 q1 q2 q3 q4 q5 q6 q7
  go_upto_region 26 with fail
  obtain ⟨WA,hWA,R0,RB,Rhs⟩:=aA w6 40 [.bool false,.slice none 0 0,.slice none 0 0]
  rw [<- hWA]
  clear hWA
  have BX:Hd (BoxC WA w6.heap.size (aY CF low 0)):=aH (BoxC.of (q:=0) R0.o ((CanNew.zero_ 0 WA).at_))
  have CE:Hd (CntAt WA cb v CF):=aH (Blk.below' C6.o RB.o)
  have FE:=aH (F6.o.below RB.o)
  have FL:=aH (FB.o.below RB.o)
  have PE:=aH (P6.o.below' RB.o)
  have BE:=aH (B6.o.trans (RB.o.mono B6.o.size))
  have ob1:=FB.o.lt
  obtain ⟨bx,hbx⟩:=nm (w6.heap.size)
  rw [hbx] at BX ob1 ⊢
  clear hbx C6 F6 FB P6 B6 R0 RB Rhs
  obtain ⟨p0,p1,p2,p3,p4,p5,p6,p7⟩:=an PE.o
  go_wp2_with fail
  go_loopg [14,16] (v + 1) (fun gh kd i wz=>∃ (q:Nat),i = .int .i64 q/\kd = .int .i64 ((bR CF q:Nat):Int)/\q + gh = v + 1/\Hd (BoxC wz bx (aY CF low q))/\Hd (CntAt wz cb v CF)/\Hd (FArc wz b6 low)/\Hd (FArc wz (w0.heap.size + 1) (List.replicate (v + 1) 0))/\Hd (Blk wz w0.heap.size 43 [.int .i64 ((n:Int) + 1),.int .i64 v,.slice Al nl cl,.int .i64 k,.bool s,.slice A m c,.slice A' m' c',.slice Am ml cm])/\Hd (Below w0.heap.size w0 wz))
  case atStart=>exact ⟨0,rfl,rfl,by omega,BX,CE,FL,FE,PE,BE⟩
  clear BX CE FL FE PE BE p0 p1 p2 p3 p4 p5 p6 p7
  obtain ⟨q,rfl,rfl,hq,BX,CE,FL,FE,PE,BE⟩:=hrel
  have sX:bx < wr.heap.size:=BX.o.lt
  have sF:b6 < wr.heap.size:=FL.o.lt
  rcases zP gk with hh | hh
  ·subst hh
   obtain rfl:q = v + 1:=by omega
   have d1:decide ((v:Int) + 1 <= (v:Int)) = false:=dF (by omega)
   have d2:decide (v + 1 <= v) = false:=dF (by omega)
   go_wp2_with fail
   obtain ⟨R,hR⟩:=nm (aY CF low (v + 1))
   obtain ⟨K,hK0⟩:=nm (bR CF (v + 1))
   have hkn:=kO CF (v + 1)
   have QRR:Hd (QB 50000000 R):=aH (by rw [<- hR]; exact QR.o _ (nR _))
   have hsb:=bH ML.o v
   rw [HS.o] at hsb
   have HRST:Hd (k ≠ 4->((K:Nat):Int) ≠ (v:Int) + 1->R ≠ 0):=aH (fun h4 hK=>by
    have:=uz HKK.o (T:=ap O gs) (fun n h=>HT.o.mild O n h) (v:=v) HAA.o n h (h.drop 1) h4
    rw [HCF.o,HLW.o,hK0,hR] at this
    exact this hK)
   rw [hK0] at hkn ⊢
   rw [hR] at BX
   have HRR:=aH hR
   have HK0:=aH hK0
   obtain ⟨fw,hfw⟩:∃ f:Nat->Rat,f = fun x=>fj k v a (low.getD x 0) R (CF x) S (K:Nat):=⟨_,rfl⟩
   have FW:=aH hfw
   clear hR hK0 hfw
   go_loopg [17] (v + 1) (fun gh i wz=>∃ (q:Nat),i = .int .i64 q/\q + gh = v + 1/\Hd (BoxC wz bx R)/\Hd (CntAt wz cb v CF)/\Hd (FArc wz b6 low)/\Hd (FArc wz (w0.heap.size + 1) ((List.range q).map fw ++ List.replicate gh 0))/\Hd (Blk wz w0.heap.size 43 [.int .i64 ((n:Int) + 1),.int .i64 v,.slice Al nl cl,.int .i64 k,.bool s,.slice A m c,.slice A' m' c',.slice Am ml cm])/\Hd (Below w0.heap.size w0 wz))
   case atStart=>exact ⟨0,rfl,by omega,BX,CE,FL,aH (by simpa using FE.o),PE,BE⟩
   clear BX CE FL FE PE BE
   obtain ⟨w9,rfl⟩:∃ x,x = wr:=⟨_,rfl⟩
   obtain ⟨q,rfl,hq,BX,CE,FL,FE,PE,BE⟩:=hrel
   rcases zP gk with hh | hh
   ·subst hh
    obtain rfl:q = v + 1:=by omega
    go_wp2_with fail
    go_ret
    exact ⟨_,rfl,by omega,by
     have h1:=FE.o
     rw [List.replicate_zero,List.append_nil,FW.o] at h1
     have e:=ot HKK.o (T:=ap O gs) (fun n h=>HT.o.mild O n h) v a n h (S:=S) (by rw [HCF.o]; exact HS.o)
     rw [HCF.o,HLW.o,HK0.o,HRR.o] at e
     rw [HNX.o,e]
     exact h1,BE.o⟩
   obtain ⟨gh,rfl⟩:∃ g,gk = g + 1:=⟨gk - 1,by omega⟩
   have d3:decide ((q:Int) <= (v:Int)) = true:=dT (by omega)
   have d4:decide (q <= v) = true:=dT (by omega)
   have j1:IntKind.i64.wrap ((q:Int) + 1) = (q:Int) + 1:=iI _ (by omega)
   have kq:=CE.o.cell (x:=q) (by omega)
   obtain ⟨cq,hcq⟩:=nm (CF (q:Int))
   rw [hcq] at kq
   have hc0:0 <= cq/\cq <= 21474836480000:=by rw [<- hcq]; exact ML.o _
   have z1:(0:Int) <= (q:Int):=by omega
   have z2:(q:Int) < (v:Int) + 1:=by omega
   obtain ⟨pq,hpq⟩:∃ p,low[q]? = some p:=⟨_,eG (by rw [LEN.o]; omega)⟩
   have QPQ:=aH (QB5.o pq (mG hpq))
   obtain ⟨Ap,mp,cp,Ap',mp',cp',g0,g1,g2,_,_,_,tp⟩:=FL.o.get hpq
   obtain ⟨Ar,mr,cr,Ar',mr',cr',x0,x1,x2,_,_,_,tr⟩:=BX.o.get
   have HFQ:Hd (fj k v a pq R cq S (K:Nat) = fw q):=aH (by
    rw [FW.o,<- hcq]
    show _ = fj k v a (low.getD q 0) R (CF (q:Int)) S (K:Nat)
    rw [gD,hpq]
    rfl)
   have sX:bx < w9.heap.size:=BX.o.lt
   have sF:b6 < w9.heap.size:=FL.o.lt
   have sC:cb < w9.heap.size:=Blk.lt CE.o
   have sW:w0.heap.size < w9.heap.size:=PE.o.lt
   obtain ⟨p0,p1,p2,p3,p4,p5,p6,p7⟩:=an PE.o
   have HSET:Hd (∀ w',Below w9.heap.size w9 w'->(fun w'=>w'.cell? ⟨w0.heap.size,0,none⟩ = some (.int .i64 ((n:Int) + 1))/\w'.cell? ⟨w0.heap.size,1,none⟩ = some (.int .i64 v)/\w'.cell? ⟨w0.heap.size,2,none⟩ = some (.slice Al nl cl)/\w'.cell? ⟨w0.heap.size,3,none⟩ = some (.int .i64 k)/\w'.cell? ⟨w0.heap.size,4,none⟩ = some (.bool s)/\w'.cell? ⟨w0.heap.size,5,none⟩ = some (.slice A m c)/\w'.cell? ⟨w0.heap.size,6,none⟩ = some (.slice A' m' c')/\w'.cell? ⟨w0.heap.size,7,none⟩ = some (.slice Am ml cm)/\w'.cell? ⟨cb,q,none⟩ = some (.int .i64 cq)/\w'.cell? ⟨b6,q * 3,none⟩ = some (.bool (ae pq))/\w'.cell? ⟨b6,q * 3 + 1,none⟩ = some (.slice Ap mp cp)/\w'.cell? ⟨b6,q * 3 + 2,none⟩ = some (.slice Ap' mp' cp')/\w'.cell? ⟨bx,0,none⟩ = some (.bool (ae R))/\w'.cell? ⟨bx,1,none⟩ = some (.slice Ar mr cr)/\w'.cell? ⟨bx,2,none⟩ = some (.slice Ar' mr' cr')) w'):=aH (fun w' hb=>⟨(hb.cell (p:=⟨w0.heap.size,0,none⟩) sW).trans p0,(hb.cell (p:=⟨w0.heap.size,1,none⟩) sW).trans p1,(hb.cell (p:=⟨w0.heap.size,2,none⟩) sW).trans p2,(hb.cell (p:=⟨w0.heap.size,3,none⟩) sW).trans p3,(hb.cell (p:=⟨w0.heap.size,4,none⟩) sW).trans p4,(hb.cell (p:=⟨w0.heap.size,5,none⟩) sW).trans p5,(hb.cell (p:=⟨w0.heap.size,6,none⟩) sW).trans p6,(hb.cell (p:=⟨w0.heap.size,7,none⟩) sW).trans p7,(hb.cell (p:=⟨cb,q,none⟩) sC).trans kq,(hb.cell (p:=⟨b6,q * 3,none⟩) sF).trans g0,(hb.cell (p:=⟨b6,q * 3 + 1,none⟩) sF).trans g1,(hb.cell (p:=⟨b6,q * 3 + 2,none⟩) sF).trans g2,(hb.cell (p:=⟨bx,0,none⟩) sX).trans x0,(hb.cell (p:=⟨bx,1,none⟩) sX).trans x1,(hb.cell (p:=⟨bx,2,none⟩) sX).trans x2⟩)
   have TP:=aH tp
   have TR:=aH tr
   have BB:=aH (Below.refl w9.heap.size w9)
   have hS:=HSET.o w9 BB.o
   clear hcq hpq tp tr g0 g1 g2 x0 x1 x2 p0 p1 p2 p3 p4 p5 p6 p7 kq
   go_wp2_with fail
   go_region_held3 (fun w'=>w'.cell? ⟨w0.heap.size,0,none⟩ = some (.int .i64 ((n:Int) + 1))/\w'.cell? ⟨w0.heap.size,1,none⟩ = some (.int .i64 v)/\w'.cell? ⟨w0.heap.size,2,none⟩ = some (.slice Al nl cl)/\w'.cell? ⟨w0.heap.size,3,none⟩ = some (.int .i64 k)/\w'.cell? ⟨w0.heap.size,4,none⟩ = some (.bool s)/\w'.cell? ⟨w0.heap.size,5,none⟩ = some (.slice A m c)/\w'.cell? ⟨w0.heap.size,6,none⟩ = some (.slice A' m' c')/\w'.cell? ⟨w0.heap.size,7,none⟩ = some (.slice Am ml cm)/\w'.cell? ⟨cb,q,none⟩ = some (.int .i64 cq)/\w'.cell? ⟨b6,q * 3,none⟩ = some (.bool (ae pq))/\w'.cell? ⟨b6,q * 3 + 1,none⟩ = some (.slice Ap mp cp)/\w'.cell? ⟨b6,q * 3 + 2,none⟩ = some (.slice Ap' mp' cp')/\w'.cell? ⟨bx,0,none⟩ = some (.bool (ae R))/\w'.cell? ⟨bx,1,none⟩ = some (.slice Ar mr cr)/\w'.cell? ⟨bx,2,none⟩ = some (.slice Ar' mr' cr'))
    (first | assumption | exact ⟨aj hS.1 (show w0.heap.size ≠ w0.heap.size + 1 by omega) _ _ _ _ _ _,aj hS.2.1 (show w0.heap.size ≠ w0.heap.size + 1 by omega) _ _ _ _ _ _,aj hS.2.2.1 (show w0.heap.size ≠ w0.heap.size + 1 by omega) _ _ _ _ _ _,aj hS.2.2.2.1 (show w0.heap.size ≠ w0.heap.size + 1 by omega) _ _ _ _ _ _,aj hS.2.2.2.2.1 (show w0.heap.size ≠ w0.heap.size + 1 by omega) _ _ _ _ _ _,aj hS.2.2.2.2.2.1 (show w0.heap.size ≠ w0.heap.size + 1 by omega) _ _ _ _ _ _,aj hS.2.2.2.2.2.2.1 (show w0.heap.size ≠ w0.heap.size + 1 by omega) _ _ _ _ _ _,aj hS.2.2.2.2.2.2.2.1 (show w0.heap.size ≠ w0.heap.size + 1 by omega) _ _ _ _ _ _,aj hS.2.2.2.2.2.2.2.2.1 (show cb ≠ w0.heap.size + 1 by omega) _ _ _ _ _ _,aj hS.2.2.2.2.2.2.2.2.2.1 (show b6 ≠ w0.heap.size + 1 by omega) _ _ _ _ _ _,aj hS.2.2.2.2.2.2.2.2.2.2.1 (show b6 ≠ w0.heap.size + 1 by omega) _ _ _ _ _ _,aj hS.2.2.2.2.2.2.2.2.2.2.2.1 (show b6 ≠ w0.heap.size + 1 by omega) _ _ _ _ _ _,aj hS.2.2.2.2.2.2.2.2.2.2.2.2.1 (show bx ≠ w0.heap.size + 1 by omega) _ _ _ _ _ _,aj hS.2.2.2.2.2.2.2.2.2.2.2.2.2.1 (show bx ≠ w0.heap.size + 1 by omega) _ _ _ _ _ _,aj hS.2.2.2.2.2.2.2.2.2.2.2.2.2.2 (show bx ≠ w0.heap.size + 1 by omega) _ _ _ _ _ _⟩ | exact hS)
    (first
     | (go_at_call 116; refine (uf _ ((n:Int) + 1) v Al nl cl k s A A' m c m' c' Am ml cm a pq R cq S (K:Nat) _ _ ((HF.o.below BE.o).below (bS _)) (TP.o.below (bS _)) (TR.o.below (bS _)) QPQ.o QRR.o (by omega) (by omega) (by omega) (by omega) (fun _ h4 h5 _=>HRST.o h4 h5)).mono ?_; rintro e wl ⟨u1,rfl,t,hb⟩; rw [HFQ.o] at t; have hb0:=hb; (first | replace hb:=below_new_drew hb | replace hb:=below_new hb | replace hb:=bO hb | skip); (try (first | replace AB:=aH (AB.o.below' hb) | replace AB:=aH (AB.o.below hb))); (first | have AB:=aH ((BoxC.zero _).below hb0) | have AB:=aH ((BoxC.zero _).below (bO hb0)) | skip); replace BB:=aH (BB.o.trans (hb.mono BB.o.size)); have hs:=BB.o.size; clear hb0; obtain ⟨Au,mu,cu,Au',mu',cu',rfl⟩:=t.open_; have T3:=aH t; have hS:=HSET.o _ BB.o; obtain ⟨_,_,_,_,_,_,f0,f1,f2,y0,y1,y2,_⟩:=(FE.o.below BB.o).get (ff fw q gh); clear t hb))
   go_wp2_with fail
   go_roundg gh
   case measure=>omega
   case rel =>
    have F8:=FE.o.below BB.o
    exact ⟨q + 1,rfl,by omega,aH (FArc.far (BX.o.below BB.o) F8 (show bx ≠ w0.heap.size + 1 by omega) _ _ _ _ _ _ _ _ _ _),aH (Blk.far3 (Blk.below' CE.o BB.o) (show cb ≠ w0.heap.size + 1 by omega) _ _ _ _ _ _),aH (FArc.far (FL.o.below BB.o) F8 (show b6 ≠ w0.heap.size + 1 by omega) _ _ _ _ _ _ _ _ _ _),aH (by
     have:=F8.put (i:=q) (by simp) rfl T3.o
     rwa [eO fw q gh rfl] at this),aH ((PE.o.below' BB.o).far3 (show w0.heap.size ≠ w0.heap.size + 1 by omega) _ _ _ _ _ _),aH (aL (BE.o.trans (BB.o.mono BE.o.size)) (by omega) _ _ _ _ _ _)⟩
  obtain ⟨gh,rfl⟩:∃ g,gk = g + 1:=⟨gk - 1,by omega⟩
  have d1:decide ((q:Int) <= (v:Int)) = true:=dT (by omega)
  have d2:decide (q <= v) = true:=dT (by omega)
  have j1:IntKind.i64.wrap ((q:Int) + 1) = (q:Int) + 1:=iI _ (by omega)
  have hkn:=kO CF q
  have j2:IntKind.i64.wrap (((bR CF q:Nat):Int) + 1) = ((bR CF q:Nat):Int) + 1:=iI _ (by omega)
  have kq:=CE.o.cell (x:=q) (by omega)
  obtain ⟨cq,hcq⟩:=nm (CF (q:Int))
  rw [hcq] at kq
  have hc0:0 <= cq:=by rw [<- hcq]; exact (ML.o _).1
  have z1:(0:Int) <= (q:Int):=by omega
  have z2:(q:Int) < (v:Int) + 1:=by omega
  by_cases h0:cq = 0
  ·subst h0
   have HCQ:=aH hcq
   obtain ⟨pq,hpq⟩:∃ p,low[q]? = some p:=⟨_,eG (by rw [LEN.o]; omega)⟩
   obtain ⟨rq,hrq⟩:=nm (aY CF low q)
   have HRQ:Hd (rq + pq = aY CF low (q + 1)):=aH (by
    rw [<- hrq]
    show _ = if CF (q:Int) = 0 then aY CF low q + low.getD q 0 else aY CF low q
    rw [if_pos hcq,gD,hpq]
    rfl)
   have HKQ:Hd (bR CF (q + 1) = bR CF q):=aH (by
    show (if CF (q:Int) = 0 then bR CF q else bR CF q + 1) = _
    rw [if_pos hcq])
   have QRQ:Hd (QB 50000000 rq):=aH (by rw [<- hrq]; exact QR.o q (by omega))
   have QPQ:Hd (QB 50000000 pq):=aH ((QB5.o pq (mG hpq)).mono (by omega))
   rw [hrq] at BX
   obtain ⟨Ar,mr,cr,Ar',mr',cr',r0,r1,r2,_,_,_,tr⟩:=BX.o.get
   obtain ⟨Ap,mp,cp,Ap',mp',cp',g0,g1,g2,_,_,_,tp⟩:=FL.o.get hpq
   have TR:=aH (tr.frac (k:=50000000) QRQ.o (by omega))
   have TP:=aH (tp.frac (k:=50000000) QPQ.o (by omega))
   have nb:b6 ≠ bx:=by omega
   have HSET:Hd (∀ w',Below wr.heap.size wr w'->(fun w'=>w'.cell? ⟨b6,q * 3,none⟩ = some (.bool (ae pq))/\w'.cell? ⟨b6,q * 3 + 1,none⟩ = some (.slice Ap mp cp)/\w'.cell? ⟨b6,q * 3 + 2,none⟩ = some (.slice Ap' mp' cp')) w'):=aH (fun w' hb=>⟨(hb.cell (p:=⟨b6,q * 3,none⟩) sF).trans g0,(hb.cell (p:=⟨b6,q * 3 + 1,none⟩) sF).trans g1,(hb.cell (p:=⟨b6,q * 3 + 2,none⟩) sF).trans g2⟩)
   have d3:decide ((0:Int) < 0) = false:=rfl
   clear hcq hpq hrq tr tp g0 g1 g2 hkn hc0
   go_wp2_with fail
   refine wp_region_held_drew (S:=(fun w'=>w'.cell? ⟨b6,q * 3,none⟩ = some (.bool (ae pq))/\w'.cell? ⟨b6,q * 3 + 1,none⟩ = some (.slice Ap mp cp)/\w'.cell? ⟨b6,q * 3 + 2,none⟩ = some (.slice Ap' mp' cp'))) (by kernel_rfl) (HSET.o _ (bS wr)) (fun hHeld=>?_)
   refine tjj 1 ?_ rfl (by kernel_rfl) rfl ‹_› ?_ (fun _ _ _ h=>h) (tjj 2 ?_ rfl (by kernel_rfl) rfl ‹_› ?_ (fun _ _ _ h=>h) (tjj 3 ?_ rfl (by kernel_rfl) rfl ‹_› ?_ (fun _ _ _ h=>h) (tjj 4 ?_ rfl (by kernel_rfl) rfl ‹_› ?_ (fun _ _ _ h=>h) ?_)))
   iterate 4 (rotate_left; · (intro w' hSw; (try dsimp only at hSw); (try go_frame); go_simp <;> with_reducible rfl))
   go_frame
   refine wpAnyH_ready (rs:=[0]) (by kernel_rfl) (by simp) ?_
   refine AllReadyH.cons rfl (fun K hK=>?_) AllReadyH.nil
   go_simp
   refine hK.out _ _ hHeld (fun _=>?_)
   clear hK K r0 r1 r2
   try go_frame
   refine wpAnyH_ready (rs:=[5]) (by kernel_rfl) (by simp) ?_
   refine AllReadyH.cons rfl (fun K hK=>?_) AllReadyH.nil
   go_simp
   clear hHeld
   refine (nO _ _ _ rq pq 50000000 (TR.o.below (bS _)) (TP.o.below (bS _)) (by omega) (by omega)).mono ?_
   rintro e wl ⟨u,rfl,t,hb'⟩
   rw [HRQ.o] at t
   have hb:=bO hb'
   have BB:=aH hb
   obtain ⟨As,ms,cs,As',ms',cs',rfl⟩:=t.at_.open_
   have T2:=aH t.at_
   clear t hb'
   have hS:=HSET.o wl hb
   try go_simp
   refine hK.out _ _ hS (fun hHeld=>?_)
   clear hK K hS
   try go_frame
   obtain ⟨_,_,_,_,_,_,u0,u1,u2,y0,y1,y2,_⟩:=(BX.o.below BB.o).get
   refine wpAnyH_ready (rs:=[6]) (by kernel_rfl) (by simp) ?_
   refine AllReadyH.cons rfl (fun K hK=>?_) AllReadyH.nil
   go_simp
   refine hK.out _ _ ⟨aj hHeld.1 nb _ _ _ _ _ _,aj hHeld.2.1 nb _ _ _ _ _ _,aj hHeld.2.2 nb _ _ _ _ _ _⟩ (fun _=>?_)
   clear hK K hHeld
   try go_frame
   refine wpAnyH_done (by kernel_rfl) ?_ _
   go_wp2_with fail
   go_roundg gh
   case measure=>omega
   case rel =>
    have B8:=BX.o.below BB.o
    exact ⟨q + 1,rfl,by rw [HKQ.o],by omega,aH (B8.put rfl T2.o),aH (Blk.far3 (Blk.below' CE.o BB.o) (show cb ≠ bx by omega) _ _ _ _ _ _),aH ((FL.o.below BB.o).far B8 nb _ _ _ _ _ _ _ _ _ _),aH ((FE.o.below BB.o).far B8 (show w0.heap.size + 1 ≠ bx by omega) _ _ _ _ _ _ _ _ _ _),aH ((PE.o.below' BB.o).far3 (show w0.heap.size ≠ bx by omega) _ _ _ _ _ _),aH (aL (BE.o.trans (BB.o.mono BE.o.size)) (show w0.heap.size <= bx by omega) _ _ _ _ _ _)⟩
  have d3:decide (0 < cq) = true:=dT (by omega)
  have HRQ:Hd (aY CF low (q + 1) = aY CF low q):=aH (by
   show (if CF (q:Int) = 0 then aY CF low q + low.getD q 0 else aY CF low q) = _
   rw [if_neg (by rw [hcq]; exact h0)])
  have HKQ:Hd (((bR CF q:Nat):Int) + 1 = ((bR CF (q + 1):Nat):Int)):=aH (by
   show _ = (((if CF (q:Int) = 0 then bR CF q else bR CF q + 1):Nat):Int)
   rw [if_neg (by rw [hcq]; exact h0)]
   omega)
  clear hcq h0 hkn hc0
  go_wp2_with fail
  go_roundg gh
  case measure=>omega
  case rel=>exact ⟨q + 1,rfl,by rw [HKQ.o],by omega,aH (by rw [HRQ.o]; exact BX.o),CE,FL,FE,PE,BE⟩
theorem wH (w:World) (O v:Nat) (gs:List Gr) (s:Bool) (A A':Option Addr) (m c m' c':Nat) (Am:Option Addr) (ml cm:Nat) (a:Rat) (mix:List Rat)(hO:1 <= O/\O <= 4)(hT:SmallT gs v)(hS:iw v O gs) (Al:Option Addr) (nl cl:Nat)(hv:Value)(h:List Int)(hG:GramsAt w (.slice Al nl cl) gs)(hI:IntsAt w hv h)(hl:h.length + 1 = O)(hF:FracAt 64 w (.agg #[.bool s,.slice A m c,.slice A' m' c']) a)(hM:FracsAt 64 w (.slice Am ml cm) mix)(hml:mix.length = O + 1) :
  Calls Tryz.prog 43 #[aG O v (.slice Al nl cl) 2 s A A' m c m' c' (.slice Am ml cm),hv] w (dj w v (dR (ap O gs) v mix O h)) :=
 wL O v gs 2 s A A' m c m' c' Am ml cm a mix (.inl rfl) hO hT hS (fun h=>absurd h (by decide)) O w Al nl cl hv h (nR _) (by rw [Nat.sub_self]; exact hG) hI (by omega) hF (fun _=>⟨rfl,hM,hml⟩)
theorem wI (w:World) (O v:Nat) (gs:List Gr) (s:Bool) (A A':Option Addr) (m c m' c':Nat) (Am:Option Addr) (ml cm:Nat) (a:Rat)(hO:1 <= O/\O <= 4)(hT:SmallT gs v)(hS:iw v O gs)(ha:0 < a) (Al:Option Addr) (nl cl:Nat)(hv:Value)(h:List Int)(hG:GramsAt w (.slice Al nl cl) gs)(hI:IntsAt w hv h)(hl:h.length + 1 = O)(hF:FracAt 64 w (.agg #[.bool s,.slice A m c,.slice A' m' c']) a) :
  Calls Tryz.prog 43 #[aG O v (.slice Al nl cl) 1 s A A' m c m' c' (.slice Am ml cm),hv] w (dj w v (cQ (fun x=>tot 0 gs (h ++ [x])) v a)):=by
 have hv8:=hT.2.2.2
 have hC:=fun x=>(jd (gs:=gs) (fun g hg=>hT.1 g hg) hT.2.1 0 h) x
 obtain ⟨Ah,ch,rfl,hhc,hhm,_⟩:=hI.open_
 obtain ⟨nh,hln⟩:=nm (h.length)
 rw [hln] at hI hhc hl ⊢
 have HG:=aH hG
 have HI:=aH hI
 have HF:=aH hF
 have HLN:=aH hln
 have HT:=aH hT
 have HTS:=aH hS
 have HA0:=aH ha
 have n0:((O:Int) == 0) = false:=by simpa using (show ¬ (O:Int) = 0 by omega)
 have n1:(O == 0) = false:=by simpa using (show ¬ O = 0 by omega)
 have v1:IntKind.i64.wrap ((v:Int) + 1) = (v:Int) + 1:=iI _ (by omega)
 obtain ⟨CF,hCF⟩:=nm ((fun x=>tot 0 gs (h ++ [x])))
 have ML:Hd (Mild CF):=aH (by rw [<- hCF]; exact hC)
 rw [hCF]
 have HCF:=aH hCF
 clear hG hI hF hT hS ha hln hCF hC
 unfold aG
 go_enter Tryz.func43,Tryz.ntmps43
 go_wp2_with (at_make; refine aD rfl _ _ rfl ((v:Int) + 1) (v + 1) rfl rfl (by omega) (by omega) ?_)
 obtain ⟨W,hW,P0,PB,Phs⟩:=aA w 43 [.int .i64 O,.int .i64 v,.slice Al nl cl,.int .i64 1,.bool s,.slice A m c,.slice A' m' c',.slice Am ml cm]
 rw [<- hW]
 clear hW
 intro w1 hf1 hb1
 have F1:=aH hf1.arc
 have P1:=aH (P0.o.below hb1 (by omega))
 have B1:=aH (PB.o.trans (hb1.mono (by omega)))
 clear hf1 hb1 P0 PB
 obtain ⟨p0,p1,p2,p3,p4,p5,p6,p7⟩:=an P1.o
 go_wp2_with fail
 refine (mH w1 O v (.slice Al nl cl) gs (.slice Ah nh ch) h (HG.o.below B1.o) (HI.o.below B1.o) HTS.o.1 (by omega) hv8 (by rw [HLN.o]; exact hl)).mono ?_
 rw [HCF.o]
 rintro e w2 ⟨cb,rfl,hcb,hct,hb2⟩
 obtain ⟨S,hS0⟩:=nm (aM CF v)
 rw [hS0]
 have hsb:=bH ML.o v
 rw [hS0] at hsb
 have HS:=aH hS0
 have CT:Hd (CntAt w2 cb v CF):=aH hct
 have F2:=aH (F1.o.below hb2)
 have P2:=aH (P1.o.below' hb2)
 have B2:=aH (B1.o.trans (hb2.mono B1.o.size))
 have so:w.heap.size + 1 < w1.heap.size:=F1.o.lt
 clear p0 p1 p2 p3 p4 p5 p6 p7 hb2 hct hS0 F1 P1 B1
 obtain ⟨p0,p1,p2,p3,p4,p5,p6,p7⟩:=an P2.o
 obtain ⟨VR,hVR⟩:∃ x:Rat,(((v:Int) + 1:Int):Rat) = x:=⟨_,rfl⟩
 obtain ⟨SR,hSR⟩:∃ x:Rat,((S:Int):Rat) = x:=⟨_,rfl⟩
 obtain ⟨X3,hX3⟩:∃ x:Rat,a * VR = x:=⟨_,rfl⟩
 obtain ⟨X4,hX4⟩:∃ x:Rat,SR + X3 = x:=⟨_,rfl⟩
 have QA:=aH (HF.o.qb (by omega))
 have QV:Hd (QB 64 VR):=aH (by rw [<- hVR]; exact dA (by omega) (by omega))
 have QS:Hd (QB 64 SR):=aH (by rw [<- hSR]; exact dA (by omega) (by omega))
 have Q3:Hd (QB 200 X3):=aH (by rw [<- hX3]; exact (QA.o.mul QV.o).mono (by omega))
 have Q4:Hd (QB 300 X4):=aH (by rw [<- hX4]; exact (QS.o.add Q3.o).mono (by omega))
 have X40:Hd (X4 ≠ 0):=aH (by
  have h1:(0:Rat) <= SR:=by rw [<- hSR]; exact_mod_cast hsb.1
  have h2:(0:Rat) < VR:=by rw [<- hVR]; exact_mod_cast (show (0:Int) < (v:Int) + 1 by omega)
  have h3:0 < X3:=by rw [<- hX3]; exact Rat.mul_pos HA0.o h2
  rw [<- hX4]
  exact fh (by grind))
 obtain ⟨fw,hfw⟩:∃ f:Nat->Rat,f = fun (x:Nat)=>(((CF (x:Int):Int):Rat) + a) / X4:=⟨_,rfl⟩
 have FW:=aH hfw
 have HVR:=aH hVR
 have HSR:=aH hSR
 have HX3:=aH hX3
 have HX4:=aH hX4
 clear hfw hVR hSR hX3 hX4
 go_wp2_with fail
 go_loopg [10] (v + 1) (fun gh i wz=>∃ (q:Nat),i = .int .i64 q/\q + gh = v + 1/\Hd (CntAt wz cb v CF)/\Hd (FArc wz (w.heap.size + 1) ((List.range q).map fw ++ List.replicate gh 0))/\Hd (Blk wz w.heap.size 43 [.int .i64 O,.int .i64 v,.slice Al nl cl,.int .i64 1,.bool s,.slice A m c,.slice A' m' c',.slice Am ml cm])/\Hd (Below w.heap.size w wz))
 case atStart=>exact ⟨0,rfl,by omega,CT,aH (by simpa using F2.o),P2,B2⟩
 clear CT F2 P2 B2 p0 p1 p2 p3 p4 p5 p6 p7
 obtain ⟨w9,rfl⟩:∃ x,x = wr:=⟨_,rfl⟩
 obtain ⟨q,rfl,hq,CE,FE,PE,BE⟩:=hrel
 rcases zP gk with hh | hh
 ·subst hh
  obtain rfl:q = v + 1:=by omega
  have d1:decide ((v:Int) + 1 <= (v:Int)) = false:=dF (by omega)
  have d2:decide (v + 1 <= v) = false:=dF (by omega)
  go_wp2_with fail
  go_ret
  exact ⟨_,rfl,by omega,by
   have h1:=FE.o
   rw [List.replicate_zero,List.append_nil,FW.o] at h1
   have h2:(aM CF v:Rat) + a * ((v + 1:Nat):Rat) = X4:=by
    rw [HS.o,HSR.o,<- HX4.o,<- HX3.o,<- HVR.o,show ((v + 1:Nat):Rat) = (((v:Int) + 1:Int):Rat) from (Rat.intCast_natCast (v + 1)).symm]
   unfold cQ
   rw [h2]
   exact h1,BE.o⟩
 obtain ⟨gh,rfl⟩:∃ g,gk = g + 1:=⟨gk - 1,by omega⟩
 have d3:decide ((q:Int) <= (v:Int)) = true:=dT (by omega)
 have d4:decide (q <= v) = true:=dT (by omega)
 have j1:IntKind.i64.wrap ((q:Int) + 1) = (q:Int) + 1:=iI _ (by omega)
 have kq:=CE.o.cell (x:=q) (by omega)
 obtain ⟨cq,hcq⟩:=nm (CF (q:Int))
 rw [hcq] at kq
 have hc0:0 <= cq/\cq <= 21474836480000:=by rw [<- hcq]; exact ML.o _
 have z1:(0:Int) <= (q:Int):=by omega
 have z2:(q:Int) < (v:Int) + 1:=by omega
 have QC:Hd (QB 64 (cq:Rat)):=aH (dA (by omega) (by omega))
 obtain ⟨X5,hX5⟩:∃ x:Rat,(cq:Rat) + a = x:=⟨_,rfl⟩
 have Q5:Hd (QB 200 X5):=aH (by rw [<- hX5]; exact (QC.o.add QA.o).mono (by omega))
 have HX5:=aH hX5
 have HX6:Hd (X5 / X4 = fw q):=aH (by rw [FW.o,<- hX5,<- hcq])
 have sC:cb < w9.heap.size:=Blk.lt CE.o
 have sW:w.heap.size < w9.heap.size:=PE.o.lt
 obtain ⟨p0,p1,p2,p3,p4,p5,p6,p7⟩:=an PE.o
 have HSET:Hd (∀ w',Below w9.heap.size w9 w'->(fun w'=>w'.cell? ⟨w.heap.size,4,none⟩ = some (.bool s)/\w'.cell? ⟨w.heap.size,5,none⟩ = some (.slice A m c)/\w'.cell? ⟨w.heap.size,6,none⟩ = some (.slice A' m' c')/\w'.cell? ⟨cb,q,none⟩ = some (.int .i64 cq)) w'):=aH (fun w' hb=>⟨(hb.cell (p:=⟨w.heap.size,4,none⟩) sW).trans p4,(hb.cell (p:=⟨w.heap.size,5,none⟩) sW).trans p5,(hb.cell (p:=⟨w.heap.size,6,none⟩) sW).trans p6,(hb.cell (p:=⟨cb,q,none⟩) sC).trans kq⟩)
 have TA:=aH ((HF.o.below BE.o).mono (show 64 <= 1000000000 by omega))
 have BB:=aH (Below.refl w9.heap.size w9)
 have hS:=HSET.o w9 BB.o
 clear hcq hX5 p0 p1 p2 p3 p4 p5 p6 p7 kq
 go_wp2_with fail
 go_region_held3 (fun w'=>w'.cell? ⟨w.heap.size,4,none⟩ = some (.bool s)/\w'.cell? ⟨w.heap.size,5,none⟩ = some (.slice A m c)/\w'.cell? ⟨w.heap.size,6,none⟩ = some (.slice A' m' c')/\w'.cell? ⟨cb,q,none⟩ = some (.int .i64 cq))
  (first | assumption | exact ⟨aj hS.1 (show w.heap.size ≠ w.heap.size + 1 by omega) _ _ _ _ _ _,aj hS.2.1 (show w.heap.size ≠ w.heap.size + 1 by omega) _ _ _ _ _ _,aj hS.2.2.1 (show w.heap.size ≠ w.heap.size + 1 by omega) _ _ _ _ _ _,aj hS.2.2.2 (show cb ≠ w.heap.size + 1 by omega) _ _ _ _ _ _⟩ | exact hS)
  (first
    | (go_at_call_of 33 (Value.int .i64 cq); refine (ko _ cq (by omega) (by omega)).mono ?_; rintro e wl ⟨u,rfl,t,hb⟩; (try replace hb:=bO hb); replace BB:=aH (BB.o.trans (hb.mono BB.o.size)); have hs:=BB.o.size; have T1:=aH (t.at_.frac (k:=1000000000) (QC.o.mono (by omega)) (by omega)); have hS:=HSET.o _ BB.o; clear t hb)
    | (go_at_call 34; refine (nO _ _ _ (cq:Rat) a 1000000000 ?_ ?_ (by omega) (by omega)).mono ?_; (first | exact T1.o | exact T1.o.below (bS _)); (first | exact TA.o.below BB.o | exact (TA.o.below BB.o).below (bS _)); rintro e wl ⟨u,rfl,t,hb⟩; rw [HX5.o] at t; (try replace hb:=bO hb); replace BB:=aH (BB.o.trans (hb.mono BB.o.size)); have hs:=BB.o.size; have T2:=aH (t.at_.frac (k:=1000000000) (Q5.o.mono (by omega)) (by omega)); have hS:=HSET.o _ BB.o; (try (obtain ⟨_,_,_,_,_,_,f0,f1,f2,y0,y1,y2,_⟩:=(FE.o.below BB.o).get (ff fw q gh))); clear t hb)
    | (go_at_call_of 33 (Value.int .i64 S); refine (ko _ S (by omega) (by omega)).mono ?_; rintro e wl ⟨u,rfl,t,hb⟩; rw [HSR.o] at t; (try replace hb:=bO hb); replace T2:=aH (T2.o.below hb); replace BB:=aH (BB.o.trans (hb.mono BB.o.size)); have hs:=BB.o.size; have T3:=aH (t.at_.frac (k:=1000000000) (QS.o.mono (by omega)) (by omega)); have hS:=HSET.o _ BB.o; clear t hb)
    | (go_at_call 33; refine (ko _ ((v:Int) + 1) (by omega) (by omega)).mono ?_; rintro e wl ⟨u,rfl,t,hb⟩; rw [HVR.o] at t; (try replace hb:=bO hb); replace T2:=aH (T2.o.below hb); replace T3:=aH (T3.o.below hb); replace BB:=aH (BB.o.trans (hb.mono BB.o.size)); have hs:=BB.o.size; have T4:=aH (t.at_.frac (k:=1000000000) (QV.o.mono (by omega)) (by omega)); have hS:=HSET.o _ BB.o; clear t hb)
    | (go_at_call 91; refine (mV _ _ _ a VR 1000000000 ?_ ?_ (by omega) (by omega)).mono ?_; (first | exact TA.o.below BB.o | exact (TA.o.below BB.o).below (bS _)); (first | exact T4.o | exact T4.o.below (bS _)); rintro e wl ⟨u,rfl,t,hb⟩; rw [HX3.o] at t; (try replace hb:=bO hb); replace T2:=aH (T2.o.below hb); replace T3:=aH (T3.o.below hb); replace BB:=aH (BB.o.trans (hb.mono BB.o.size)); have hs:=BB.o.size; have T5:=aH (t.at_.frac (k:=1000000000) (Q3.o.mono (by omega)) (by omega)); have hS:=HSET.o _ BB.o; (try (obtain ⟨_,_,_,_,_,_,f0,f1,f2,y0,y1,y2,_⟩:=(FE.o.below BB.o).get (ff fw q gh))); clear t hb)
    | (go_at_call 34; refine (nO _ _ _ SR X3 1000000000 ?_ ?_ (by omega) (by omega)).mono ?_; (first | exact T3.o | exact T3.o.below (bS _)); (first | exact T5.o | exact T5.o.below (bS _)); rintro e wl ⟨u,rfl,t,hb⟩; rw [HX4.o] at t; (try replace hb:=bO hb); replace T2:=aH (T2.o.below hb); replace BB:=aH (BB.o.trans (hb.mono BB.o.size)); have hs:=BB.o.size; have T6:=aH (t.at_.frac (k:=1000000000) (Q4.o.mono (by omega)) (by omega)); have hS:=HSET.o _ BB.o; (try (obtain ⟨_,_,_,_,_,_,f0,f1,f2,y0,y1,y2,_⟩:=(FE.o.below BB.o).get (ff fw q gh))); clear t hb)
    | (go_at_call 31; refine (tF _ _ _ X5 X4 1000000000 ?_ ?_ (by omega) (by omega) X40.o).mono ?_; (first | exact T2.o | exact T2.o.below (bS _)); (first | exact T6.o | exact T6.o.below (bS _)); rintro e wl ⟨u,rfl,t,hb⟩; rw [HX6.o] at t; (try replace hb:=bO hb); replace BB:=aH (BB.o.trans (hb.mono BB.o.size)); have hs:=BB.o.size; obtain ⟨As,ms,cs,As',ms',cs',rfl⟩:=t.at_.open_; have T9:=aH t.at_; have hS:=HSET.o _ BB.o; (try (obtain ⟨_,_,_,_,_,_,f0,f1,f2,y0,y1,y2,_⟩:=(FE.o.below BB.o).get (ff fw q gh))); clear t hb))
 go_wp2_with fail
 go_roundg gh
 case measure=>omega
 case rel =>
  have F8:=FE.o.below BB.o
  exact ⟨q + 1,rfl,by omega,aH (Blk.far3 (Blk.below' CE.o BB.o) (show cb ≠ w.heap.size + 1 by omega) _ _ _ _ _ _),aH (by
   have:=F8.put (i:=q) (by simp) rfl T9.o
   rwa [eO fw q gh rfl] at this),aH ((PE.o.below' BB.o).far3 (show w.heap.size ≠ w.heap.size + 1 by omega) _ _ _ _ _ _),aH (aL (BE.o.trans (BB.o.mono BE.o.size)) (by omega) _ _ _ _ _ _)⟩
theorem uk {gs:List Gr} {c:Int} (h:∀ g ∈ gs,g.2 <= c):cT gs <= (gs.length:Int) * c:=by
 induction gs with
 | nil=>show cT [] <= _; rw [show cT [] = 0 from rfl]; simp
 | cons x gs ih =>
  rw [bE,List.length_cons]
  have h1:=ih (fun g hg=>h g (by simp [hg]))
  have h2:=h x (by simp)
  have e:((gs.length + 1:Nat):Int) * c = (gs.length:Int) * c + c:=by
   rw [show ((gs.length + 1:Nat):Int) = (gs.length:Int) + 1 by omega,Int.add_mul,Int.one_mul]
  omega
theorem uj {O v:Nat} {gs:List Gr} (h:aP O v gs = 0)(hl:gs.length <= 60):iw v O gs:=by
 obtain ⟨h1,h2,h3,h4,h5,h6,h7⟩:=fY h
 refine ⟨⟨hl,fun g hg=>?_⟩,fun g hg=>?_,?_⟩
 ·have:=h6 g hg
  exact ⟨by omega,this.2.1,by omega,by omega⟩
 ·have:=h6 g hg
  omega
 have:=uk (gs:=gs) (c:=1073741824) (fun g hg=>(h6 g hg).2.2.2)
 have h8:(gs.length:Int) * 1073741824 <= 60 * 1073741824:=Int.mul_le_mul_of_nonneg_right (by omega) (by omega)
 omega

theorem lN (w:World) (O v:Nat) (lv:Value) (gs:List Gr) (k:Int) (s:Bool) (A A':Option Addr) (m c m' c':Nat) (mv:Value) (a:Rat) (mix:List Rat)(hv:Value)(hl:List Int)(h:LangAt w lv gs s A A' m c m' c' a mv mix)(hh:IntsAt w hv hl)(hE:bM O v gs k a mix hl = 0)(hv8:v <= 8)(h60:gs.length <= 60) :
  Calls Tryz.prog 43 #[aG O v lv k s A A' m c m' c' mv,hv] w (dj w v (fA k O gs v a mix hl)):=by
 obtain ⟨h1,h2,h3,h4⟩:=bI hE
 obtain ⟨_,o1,o2,_⟩:=fY h1
 obtain ⟨Al,cl,rfl,_,_,_⟩:=h.grams.open_
 obtain ⟨Am,cm,rfl,_,_,_⟩:=h.mixes.open_
 have hS:=uj h1 h60
 have hT:=bY h1 hv8
 have hG:=h.grams
 have hM:=h.mixes
 have hF:=h.amount
 unfold fA
 rcases gH h2 with rfl | rfl | rfl | rfl
 ·rw [if_pos rfl]
  have e:ap O gs O hl = fun x=>tot 0 gs (hl ++ [x]):=by funext x; unfold ap; rw [Nat.sub_self]
  rw [e]
  exact wI w O v gs s A A' m c m' c' Am _ cm a ⟨by omega,by omega⟩ hT hS (eW h2).1 Al _ cl hv hl hG hh (by omega) hF
 ·rw [if_neg (by decide),if_pos rfl]
  exact wH w O v gs s A A' m c m' c' Am _ cm a mix ⟨by omega,by omega⟩ hT hS Al _ cl hv hl hG hh (by omega) hF hM (fH h2).1
 ·have:=wL O v gs 3 s A A' m c m' c' Am mix.length cm a mix (.inr (.inl rfl)) ⟨by omega,by omega⟩ hT hS (fun _=>⟨(eK h2).1,(eK h2).2.1⟩) O w Al _ cl hv hl (nR _) (by rw [Nat.sub_self]; exact hG) hh (by omega) hF (fun h=>absurd h (by decide))
  unfold rowX dq at this
  rw [if_neg (by decide),if_neg (by decide)] at this
  rw [if_neg (by decide),if_neg (by decide),if_pos rfl]
  exact this
 have:=wL O v gs 4 s A A' m c m' c' Am mix.length cm a mix (.inr (.inr rfl)) ⟨by omega,by omega⟩ hT hS (fun h=>absurd h (by decide)) O w Al _ cl hv hl (nR _) (by rw [Nat.sub_self]; exact hG) hh (by omega) hF (fun h=>absurd h (by decide))
 unfold rowX dq at this
 rw [if_neg (by decide),if_pos rfl] at this
 rw [if_neg (by decide),if_neg (by decide),if_neg (by decide)]
 exact this
end Go.Proofs.YtjebfdfkjlkifaaGreat
