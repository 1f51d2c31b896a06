/- Lemmas. -/
import Derived.Test.YtjebfdfkjlkifaaGreatR28
import Derived.Test.YtjebfdfkjlkifaaGreatR24
import Derived.Maps.OwnSet
import Derived.Deep.DrawnRows
set_option linter.all false
set_option maxRecDepth 1000000
set_option maxHeartbeats 32000000
namespace Go.Proofs.YtjebfdfkjlkifaaGreat
open Go.RowKit
def SeenAt (w:World) (mv:Value) (L:List (Int × Int)):Prop:=(mv = .map none/\L = []) ∨ ∃ b,mv = .map (some b)/\TMap (Value.int .i64) (Value.int .i64) w 3 b L
theorem SeenAt.below {w w':World} {mv:Value} {L:List (Int × Int)} (h:SeenAt w mv L)(hb:Below w.heap.size w w'):SeenAt w' mv L:=by
 rcases h with ⟨h1,h2⟩ | ⟨b,h1,h2⟩
 ·exact .inl ⟨h1,h2⟩
 exact .inr ⟨b,h1,h2.below hb⟩

theorem LevO.none_ {w:World} {b base n:Nat} {S:List (List Int × Int)} {outer:List (List Int × Nat)} (h:LevO w b base n S outer) {T:List Int->Int} (hC:Cnt S T) {hs:List Int} (hl:hs.length = n - 1)(hn:aC outer hs = none):ix [] (fun x=>T (hs ++ [x])):=by
 refine tM fun x=>?_
 by_cases h0:T (hs ++ [x]) = 0
 ·exact h0
 exfalso
 have h1:=h.2.2.2.2.2.1 _ (hC.mem h0)
 simp only at h1
 rw [<- hl,List.take_left] at h1
 obtain ⟨e,he,he2⟩:=List.mem_map.1 h1
 have h2:=dK h.1.nodup he
 rw [he2,hn] at h2
 cases h2
theorem pO (L:List (Int × Int)) (e:Int × Int):el (L ++ [e]) = el L + e.2:=by
 unfold el
 rw [List.map_append,List.sum_append]
 simp
def iz (L:List (Int × Int)) (vis:List Nat):List (Int × Int):=vis.map fun i=>L.getD i (0,0)
theorem pw (L:List (Int × Int)) (vis:List Nat) {j:Nat} {e:Int × Int} (h:L[j]? = some e):iz L (vis ++ [j]) = iz L vis ++ [e]:=by
 unfold iz
 rw [List.map_append,List.map_singleton,gD,h]
 rfl
theorem px {L:List (Int × Int)} {vis:List Nat} (hn:vis.Nodup)(hv:∀ i ∈ vis,i < L.length)(hall:∀ j,j < L.length->j ∈ vis):(iz L vis).Perm L:=by
 have hp:vis.Perm (List.range L.length):=(List.perm_ext_iff_of_nodup hn List.nodup_range).2 (fun a=>⟨fun h=>List.mem_range.2 (hv a h),fun h=>hall a (List.mem_range.1 h)⟩)
 have h1:=hp.map (fun i=>L.getD i (0,0))
 have h2:(List.range L.length).map (fun i=>L.getD i (0,0)) = L:=by
  apply List.ext_getElem?
  intro i
  rw [List.getElem?_map]
  by_cases hi:i < L.length
  ·rw [List.getElem?_range hi,eG hi]
   simp [gD,hi]
  rw [nI.2 (by simpa using hi),nI.2 (by omega)]
  rfl
 rw [h2] at h1
 exact h1

theorem mI (w:World) (O n:Nat) (b:Nat) (wd:Int)(hv:Value) (gs:List Gr)(h:List Int)(hL:LvsAt w b O 0 gs)(hn:1 <= n/\n <= O)(hO:O <= 4)(hi:IntsAt w hv h)(hl:h.length = n - 1)(hk:NiceK h) :
  Calls Tryz.prog 219 #[.agg #[.slice (some ⟨b,0,none⟩) (O + 1) (O + 1),.int .i64 wd],.int .i64 n,hv] w fun e w'=>∃ mv L,e = .returned (.tuple #[mv,.int .i64 (el L)])/\SeenAt w' mv L/\ix L (fun x=>tot (O - n) gs (h ++ [x]))/\(el L <= 429496729600000000/\∀ e ∈ L,e.2 <= 21474836480000)/\Below w.heap.size w w':=by
 obtain ⟨xs,hx1,hx2,hx3⟩:=hL
 obtain ⟨bj,base,S,e,hlv,hS,hC,hSl⟩:=hx3 n (by omega) hn.2
 have c0:w.cell? ⟨b,n,none⟩ = some (.map (some bj)):=(hx1.cell n).trans e
 have hb:b < w.heap.size:=hx1.lt
 have j1:(0:Int) <= (n:Int):=by omega
 have j2:(n:Int) < (O:Int) + 1:=by omega
 obtain ⟨outer,hlo⟩:=hlv
 have HLO:=aH hlo
 have HS:=aH hS
 have HC:=aH hC
 have HI:=aH hi
 have HK:=aH hk
 clear hx1 hx2 hx3 e hlo hS hC hi hk
 go_enter Tryz.func219,Tryz.ntmps219
 go_wp2_with fail
 obtain ⟨W,hW,P0,PB,Phs⟩:=aA w 172 [.slice (some ⟨b,0,none⟩) (O + 1) (O + 1),.int .i64 wd]
 rw [<- hW]
 clear hW
 have p0:=P0.o.cell 0
 have p1:=P0.o.cell 1
 simp only [List.getElem?_cons_zero,List.getElem?_cons_succ] at p0 p1
 have c1:=(PB.o.cell (p:=⟨b,n,none⟩) hb).trans c0
 go_upto_region 1 with fail
 go_cut [8] (fun mv wc=>mv = (aC outer h).elim (.map none) tV/\Hd (Below w.heap.size w wc))
 case first =>
  go_region_with (first
   | (go_at_call 81; refine (lS _ _ _ (HI.o.below (PB.o.trans (bS _))) HK.o.1 (fun z hz=>by have:=HK.o.2 z hz; omega)).mono ?_; rintro e w2 ⟨rfl,hb2'⟩; have hb2:=bO hb2'; have B2:=aH (aa PB.o hb2); have hlook:=(HLO.o.below B2.o).look HK.o; have c2:=(B2.o.cell (p:=⟨b,n,none⟩) hb).trans c0; have q0:=(P0.o.below' hb2).cell 0; have q1:=(P0.o.below' hb2).cell 1; simp only [List.getElem?_cons_zero,List.getElem?_cons_succ] at q0 q1; clear hb2 hb2'))
  all_goals
   go_wp2_with fail
   go_meet
   exact ⟨rfl,B2⟩
 obtain ⟨rfl,B2⟩:=hcut
 have O2:=aH (HLO.o.below B2.o)
 cases hlk:aC outer h with
 | none =>
  have HE:=aH (HLO.o.none_ HC.o hl hlk)
  simp only [Option.elim_none]
  clear hlk p0 p1 c1
  have hrn:=kg (P:=Tryz.prog) wc 206 3 3 Tryz.underlying206
  go_wp2_with fail
  go_loopg [9,11] 0 (fun _ s9 _ wz=>s9 = .int .i64 0/\Hd (wz.heap[wc.heap.size]? = some (.mapIter none 0 #[] 0))/\Hd (Below w.heap.size w wz))
  case atStart=>exact ⟨rfl,aH (World.alloc_heap_new _ _),aH (B2.o.trans (((Below.refl _ wc).alloc (nR _) _).mono B2.o.size))⟩
  obtain ⟨rfl,I3,B3⟩:=hrel
  have hnx:=lI (P:=Tryz.prog) 0 I3.o
  go_wp2_with fail
  go_ret2
  exact ⟨_,[],rfl,.inl ⟨rfl,rfl⟩,HE.o,⟨by simp [el],fun e he=>by cases he⟩,B3.o⟩
 | some bi =>
  have hm:=br hlk
  have HT:=aH (O2.o.2.2.2.2.1 _ hm)
  have HCI:=aH (oH (h:=h) HS.o HC.o (by omega) hl)
  have HLE:Hd ((bT n S h).length <= 20000/\∀ e ∈ bT n S h,0 < e.2/\e.2 <= 21474836480000):=aH ⟨by
   unfold bT
   rw [List.length_map]
   exact Nat.le_trans (List.length_filter_le _ _) hSl,fun e he=>by
    have h1:=HS.o.2 _ (gL HS.o (by omega) (x:=e.1) (c:=e.2) he)
    exact h1.2.2⟩
  simp only [Option.elim_some,tV]
  generalize bT n S h = L at *
  clear hlk p0 p1 c1 hm hSl
  have s2:w.heap.size <= wc.heap.size:=B2.o.size
  go_wp2_with (refine eJ rfl _ _ rfl 3 3 Tryz.underlying206 bi _ rfl HT.o ?_)
  intro w4 hm4 hi4 hb4 hs4
  have I4:Hd (IterAt w4 wc.heap.size bi L.length []):=aH (by simpa [cR] using hi4)
  have M4:Hd (TMap (Value.int .i64) (Value.int .i64) w4 3 bi L):=aH hm4
  have B4:Hd (Below w.heap.size w w4):=aH (B2.o.trans (hb4.mono s2))
  clear hm4 hi4 hb4 hs4
  go_wp2_with fail
  go_loopg [9,11] L.length (fun gh s9 _ wz=>∃ vis:List Nat,s9 = .int .i64 (el (iz L vis))/\vis.length + gh = L.length/\Hd (vis.Nodup/\∀ i ∈ vis,i < L.length)/\Hd (0 <= el (iz L vis)/\el (iz L vis) <= vis.length * 21474836480000)/\Hd (IterAt wz wc.heap.size bi L.length vis)/\Hd (TMap (Value.int .i64) (Value.int .i64) wz 3 bi L)/\Hd (Below w.heap.size w wz))
  case atStart=>exact ⟨[],rfl,by simp,aH ⟨List.nodup_nil,fun i hi=>by cases hi⟩,aH ⟨by simp [iz,el],by simp [iz,el]⟩,I4,M4,B4⟩
  clear I4 M4 B4
  obtain ⟨vis,rfl,hvl,VIS,SB,I4,M4,B4⟩:=hrel
  have I5:Hd (IterAt wr wc.heap.size bi (cR (Value.int .i64) (Value.int .i64) L).length vis):=aH (by simpa [cR] using I4.o)
  go_wp2_with (refine fe rfl _ rfl 3 bi wc.heap.size (cR (Value.int .i64) (Value.int .i64) L) vis rfl M4.o I5.o ?done ?more)
  case done =>
   intro hdone
   have HPM:=aH (px VIS.o.1 VIS.o.2 (fun j hj=>hdone j (by simpa [cR] using hj)))
   have HSE:Hd (el (iz L vis) = el L):=aH (by unfold el; exact mA (HPM.o.map _))
   clear hdone I5
   rw [HSE.o]
   go_wp2_with fail
   go_ret2
   exact ⟨_,L,rfl,.inr ⟨bi,rfl,M4.o⟩,HCI.o,⟨by have h1:=SB.o.2; rw [HSE.o] at h1; have h2:=HLE.o.1; omega,fun e he=>(HLE.o.2 e he).2⟩,B4.o⟩
  case more =>
   intro i xk xv w5 hx hiv hm5 hi5 hent hg5 hs5
   rw [fq] at hx
   obtain ⟨e,he,rfl,rfl⟩:∃ e,L[i]? = some e/\Value.int .i64 e.1 = xk/\Value.int .i64 e.2 = xv:=by
    cases h:L[i]? with
    | none=>rw [h] at hx; cases hx
    | some e=>rw [h] at hx; simp only [Option.map_some,Option.some.injEq,Prod.mk.injEq] at hx; exact ⟨e,rfl,hx.1,hx.2⟩
   have hil:=(sI.1 he).1
   have heb:=HLE.o.2 e (mG he)
   have VIS5:Hd ((vis ++ [i]).Nodup/\∀ k ∈ vis ++ [i],k < L.length):=aH ⟨List.nodup_append.2 ⟨VIS.o.1,by simp,fun a ha b hb e=>by simp at hb; subst hb; subst e; exact hiv ha⟩,fun k hk=>by rcases List.mem_append.1 hk with hk | hk; exact VIS.o.2 k hk; rw [List.mem_singleton.1 hk]; exact hil⟩
   have hgk:0 < gk:=by have:=jB VIS5.o.1 VIS5.o.2; rw [List.length_append,List.length_singleton] at this; omega
   have HSN:Hd (el (iz L (vis ++ [i])) = el (iz L vis) + e.2):=aH (by rw [pw L vis he,pO])
   have J5:Hd (IterAt w5 wc.heap.size bi L.length (vis ++ [i])):=aH (by simpa [cR] using hi5)
   have M5:Hd (TMap (Value.int .i64) (Value.int .i64) w5 3 bi L):=aH hm5
   have B5:Hd (Below w.heap.size w w5):=aH (B4.o.grown hg5 B4.o.size (fun k e=>by cases e; exact s2))
   have hsb:=SB.o
   have hl2:vis.length < 20000:=by have:=HLE.o.1; omega
   obtain ⟨u,hu⟩:=nm (el (iz L vis))
   rw [hu] at hsb HSN ⊢
   clear hx hm5 hi5 hg5 hs5 he hu SB I5 I4 M4
   obtain ⟨ex,ec⟩:=e
   simp only at hent heb HSN
   have hb1:u + ec <= 9223372036854775807:=by omega
   have hb2:-9223372036854775808 <= u + ec:=by omega
   go_wp2_with fail
   go_roundg (gk - 1)
   case measure=>omega
   case rel=>exact ⟨vis ++ [i],by rw [HSN.o],by rw [List.length_append,List.length_singleton]; omega,VIS5,aH (by rw [HSN.o,List.length_append,List.length_singleton]; omega),J5,M5,B5⟩
theorem mS (w:World) (v v':Value) (q r:Rat) (k:Nat)(h:FracAt k w v q) (h':FracAt k w v' r)(h0:0 < k)(hk:k <= 549755813888)(hr:r ≠ 0) :
  Calls Tryz.prog 223 #[v,v'] w fun e w'=>∃ u,e = .returned u/\CanNew w.heap.size w' u (q / r)/\Below w.heap.size w w':=by
 have H1:=aH h
 have H2:=aH h'
 have HR:=aH hr
 obtain ⟨s,vn,vd,rfl⟩:=h.shape
 obtain ⟨t,vn',vd',rfl⟩:=h'.shape
 clear h h' hr
 go_enter Tryz.func223,Tryz.ntmps223
 go_wp2_with fail
 obtain ⟨W,hW,P0,P1,P2,PB,Phs⟩:=box3 w 40 [.bool s,vn,vd] 40 [.bool t,vn',vd'] 40 [.bool false,.slice none 0 0,.slice none 0 0]
 rw [<- hW]
 clear hW
 obtain ⟨p0,p1,p2,_,_,_⟩:=P0.o.three
 obtain ⟨q0,q1,q2,_,_,_⟩:=P1.o.three
 go_wp2_with fail
 refine (xb W _ _ q r k (H1.o.below PB.o) (H2.o.below PB.o) h0 hk HR.o).mono ?_
 rintro e w1 ⟨u,rfl,t1,hb1⟩
 obtain ⟨A,m,c,A',m',c',rfl,ta,tb,tc,td⟩:=t1.open_
 have T1:=aH t1
 have P2':=aH (P2.o.below' hb1)
 have B1:=aH (PB.o.trans (hb1.mono (by omega)))
 have s1:w.heap.size + 3 <= w1.heap.size:=Nat.le_trans Phs hb1.size
 have TA:=aH ta
 have TB:=aH tb
 have TC:=aH tc
 have TD:=aH td
 clear p0 p1 p2 q0 q1 q2 ta tb tc td t1 hb1
 go_upto_region 2 with fail
 obtain ⟨W2,hW2,G0,GB,Ghs⟩:=aA w1 40 [.bool (ae (q / r)),.slice A m c,.slice A' m' c']
 rw [<- hW2]
 clear hW2
 obtain ⟨g0,g1,g2,_,_,_⟩:=G0.o.three
 obtain ⟨r0,r1,r2,z0,z1,z2⟩:=(P2'.o.below' GB.o).three
 have B2:=aH (B1.o.trans (GB.o.mono (by omega)))
 have UA:=aH (TA.o.below GB.o)
 have UB:=aH (TB.o.below GB.o)
 go_wp2_with fail
 refine bodyPost_ret (v:=.agg #[.bool (ae (q / r)),.slice A m c,.slice A' m' c']) (by simp [results,Tryz.results223,go_sem,r0,r1,r2]) rfl ⟨_,rfl,?_,af B2.o (by omega) _ _ _⟩
 exact (CanNew.box3 UA.o UB.o TC.o TD.o (by omega) _ _ _).mono (by omega)
theorem tA (w:World) (lv:Value) (n:Nat)(hn:0 < n) (hn':n <= 1000000)(hlv:lv.oneCell' = true) (A0:Option Addr) (m0 c0:Nat)(hv:lv = .slice A0 m0 c0) :
  Calls Tryz.prog 217 #[.agg #[lv,.int .i64 n]] w fun e w'=>∃ b,e = .returned (.slice (some ⟨b,0,none⟩) n n)/\w.heap.size <= b/\FArr (b + 1) w' b (List.replicate n ((1:Rat) / (n:Rat)))/\Below w.heap.size w w':=by
 subst hv
 clear hlv
 go_enter Tryz.func217,Tryz.ntmps217
 go_wp2_with (at_make; refine aD rfl _ _ rfl n n rfl rfl rfl (by omega) ?_)
 obtain ⟨W,hW,P0,PB,Phs⟩:=aA w 172 [.slice A0 m0 c0,.int .i64 n]
 rw [<- hW]
 clear hW
 intro w1 hf hb1
 have F1:=aH hf
 have P1:=aH (P0.o.below hb1 (by omega))
 have B1:=aH (PB.o.trans (hb1.mono (by omega)))
 clear hf hb1
 go_wp2_with fail
 have s1:w.heap.size + 1 <= W.heap.size:=Phs
 go_loopg [4,10] n (fun gh _ i wz=>∃ (j:Nat),i = .int .i64 j/\j + gh = n/\Hd (FArr (w.heap.size + 1 + 1) wz (w.heap.size + 1) (List.replicate j ((1:Rat) / (n:Rat)) ++ List.replicate gh 0))/\Hd (Blk wz w.heap.size 172 [.slice A0 m0 c0,.int .i64 n])/\Hd (Below w.heap.size w wz))
 case atStart=>exact ⟨0,rfl,by omega,aH (by simpa using F1.o),P1,B1⟩
 clear F1 P1 B1
 obtain ⟨j,rfl,hj,F1,P1,B1⟩:=hrel
 have p0:=P1.o.cell 0
 have p1:=P1.o.cell 1
 simp only [List.getElem?_cons_zero,List.getElem?_cons_succ] at p0 p1
 rcases zP gk with h | h
 ·subst h
  obtain rfl:j = n:=by omega
  go_wp2_with fail
  go_ret
  exact ⟨_,rfl,by omega,by simpa using F1.o,B1.o⟩
 obtain ⟨gh,rfl⟩:∃ g,gk = g + 1:=⟨gk - 1,by omega⟩
 go_wp2_with fail
 refine (vj wr 1 n (by omega) (by omega) (by omega)).mono ?_
 rintro e w3 ⟨u,rfl,t3,hb3⟩
 obtain ⟨A,m,c,A',m',c',rfl,ta,tb,tc,td⟩:=t3.open_
 have T3:=aH t3
 have F3:=aH (F1.o.below hb3)
 have P3:=aH (P1.o.below' hb3)
 have B3:=aH (B1.o.trans (hb3.mono B1.o.size))
 have hW:w.heap.size + 1 < wr.heap.size:=F1.o.lt
 obtain ⟨_,_,_,_,_,_,v0,v1,v2,z0,z1,z2,_⟩:=F3.o.get (i:=j) (q:=0) (by rw [List.getElem?_append_right (by simp),List.length_replicate,Nat.sub_self]; rfl)
 clear ta tb tc td t3 hb3 p0 p1
 go_wp2_with fail
 go_roundg gh
 case measure=>omega
 case rel =>
  have hp:=F3.o.put (i:=j) (by simp) rfl (T3.o.mono (by omega))
  exact ⟨j + 1,rfl,by omega,aH (by
   have e:(List.replicate j ((1:Rat) / (n:Rat)) ++ List.replicate (gh + 1) 0).set j ((1:Rat) / (n:Rat)) = List.replicate (j + 1) ((1:Rat) / (n:Rat)) ++ List.replicate gh 0:=by
    rw [List.set_append_right _ _ (by simp),List.length_replicate,Nat.sub_self,List.replicate_succ,List.set_cons_zero,List.replicate_succ',List.append_assoc]
    rfl
   rw [<- e]
   exact hp),aH (((P3.o.far (show w.heap.size ≠ w.heap.size + 1 by omega) _).far (show w.heap.size ≠ w.heap.size + 1 by omega) _).far (show w.heap.size ≠ w.heap.size + 1 by omega) _),aH (((B3.o.setCell (show w.heap.size <= w.heap.size + 1 by omega) _).setCell (show w.heap.size <= w.heap.size + 1 by omega) _).setCell (show w.heap.size <= w.heap.size + 1 by omega) _)⟩
section
theorem NatAt.offBlk {w:World} {v:Value} {n b:Nat} {e:TypeId} {xs:List Value} (h:NatAt w v n)(hb:Blk w b e xs)(hx:∀ x ∈ xs,bh x):Off v b:=by
 obtain ⟨l,h1,_⟩:=h
 exact h1.offBlk hb hx
theorem CanAt.putBlk {w:World} {v:Value} {q:Rat} {g:Nat} {e:TypeId} {xs:List Value} (h:CanAt w v q)(hb:Blk w g e xs)(hx:∀ x ∈ xs,bh x) (i:Nat) (u:Value):CanAt (w.setCell ⟨g,i,none⟩ u) v q:=by
 obtain ⟨vn,vd,e,h1,h2⟩:=h
 exact ⟨vn,vd,e,h1.setOff (p:=⟨g,i,none⟩) (h1.offBlk hb hx) u,h2.setOff (p:=⟨g,i,none⟩) (h2.offBlk hb hx) u⟩
theorem CanAt.put3 {w:World} {v:Value} {q:Rat} {b:Nat} {e:TypeId} {xs:List Value} (h:CanAt w v q)(hb:Blk w b e xs)(hx:∀ x ∈ xs,bh x) (i j k:Nat) (s:Bool) (A A':Option Addr) (m c m' c':Nat) :
  CanAt (((w.setCell ⟨b,i,none⟩ (.bool s)).setCell ⟨b,j,none⟩ (.slice A m c)).setCell ⟨b,k,none⟩ (.slice A' m' c')) v q :=
 ((h.putBlk hb hx i _).putBlk (hb.set_ _ _) (aO hx _ (show bh (.bool s) from trivial)) j _).putBlk ((hb.set_ _ _).set_ _ _) (aO (aO hx _ (show bh (.bool s) from trivial)) _ (show bh (.slice A m c) from trivial)) k _
theorem CanAt.open_ {w:World} {v:Value} {q:Rat} (h:CanAt w v q):∃ A m c A' m' c',v = .agg #[.bool (ae q),.slice A m c,.slice A' m' c']:=by
 obtain ⟨vn,vd,rfl,h1,h2⟩:=h
 obtain ⟨_,⟨⟨_,A,c,rfl,_⟩,_⟩,_⟩:=h1
 obtain ⟨_,⟨⟨_,A',c',rfl,_⟩,_⟩,_⟩:=h2
 exact ⟨_,_,_,_,_,_,rfl⟩

def FArc (w:World) (b:Nat) (qs:List Rat):Prop:=∃ xs,Blk w b 40 xs/\xs.length = qs.length * 3/\(∀ x ∈ xs,bh x) /\
 ∀ (i:Nat) (q:Rat),qs[i]? = some q->∃ A m c A' m' c',xs[i * 3]? = some (.bool (ae q))/\xs[i * 3 + 1]? = some (.slice A m c)/\xs[i * 3 + 2]? = some (.slice A' m' c')/\CanAt w (.agg #[.bool (ae q),.slice A m c,.slice A' m' c']) q
section
variable {w w':World} {b:Nat} {qs:List Rat}
theorem FArr.arc {base:Nat} (h:FArr base w b qs):FArc w b qs:=by
 obtain ⟨_,xs,h1,h2,h3⟩:=h
 refine ⟨xs,h1,h2,fun x hx=>?_,fun i q hq=>?_⟩
 ·obtain ⟨j,hj⟩:=List.mem_iff_getElem?.1 hx
  have hjl:=(sI.1 hj).1
  obtain ⟨q,hq⟩:∃ q,qs[j / 3]? = some q:=⟨_,eG (by omega)⟩
  obtain ⟨A,m,c,A',m',c',e0,e1,e2,_⟩:=h3 _ q hq
  have hm:j = j / 3 * 3 ∨ j = j / 3 * 3 + 1 ∨ j = j / 3 * 3 + 2:=by omega
  rcases hm with e | e | e
  ·rw [e,e0] at hj; cases hj; trivial
  ·rw [e,e1] at hj; cases hj; trivial
  rw [e,e2] at hj; cases hj; trivial
 obtain ⟨A,m,c,A',m',c',e0,e1,e2,e3⟩:=h3 i q hq
 exact ⟨A,m,c,A',m',c',e0,e1,e2,e3.at_⟩
theorem FArc.lt (h:FArc w b qs):b < w.heap.size:=by
 obtain ⟨xs,hb,_⟩:=h
 exact hb.lt
theorem FArc.below (h:FArc w b qs)(hb:Below w.heap.size w w'):FArc w' b qs:=by
 obtain ⟨xs,h1,h2,hx,h3⟩:=h
 refine ⟨xs,h1.below' hb,h2,hx,fun i q hq=>?_⟩
 obtain ⟨A,m,c,A',m',c',e0,e1,e2,e3⟩:=h3 i q hq
 exact ⟨A,m,c,A',m',c',e0,e1,e2,e3.below hb⟩
theorem FArc.get (h:FArc w b qs) {i:Nat} {q:Rat} (hq:qs[i]? = some q):∃ A m c A' m' c',w.cell? ⟨b,i * 3,none⟩ = some (.bool (ae q))/\w.cell? ⟨b,i * 3 + 1,none⟩ = some (.slice A m c)/\w.cell? ⟨b,i * 3 + 2,none⟩ = some (.slice A' m' c') /\
  w.frozen? ⟨b,i * 3,none⟩ = false/\w.frozen? ⟨b,i * 3 + 1,none⟩ = false/\w.frozen? ⟨b,i * 3 + 2,none⟩ = false/\CanAt w (.agg #[.bool (ae q),.slice A m c,.slice A' m' c']) q:=by
 obtain ⟨xs,h1,_,_,h3⟩:=h
 obtain ⟨A,m,c,A',m',c',e0,e1,e2,e3⟩:=h3 i q hq
 exact ⟨A,m,c,A',m',c',(h1.cell _).trans e0,(h1.cell _).trans e1,(h1.cell _).trans e2,h1.frozen _,h1.frozen _,h1.frozen _,e3⟩
theorem FArc.keeps (h:FArc w b qs) {v:Value} {q:Rat} (hv:CanAt w v q) (i j k:Nat) (s:Bool) (A A':Option Addr) (m c m' c':Nat) :
  CanAt (((w.setCell ⟨b,i,none⟩ (.bool s)).setCell ⟨b,j,none⟩ (.slice A m c)).setCell ⟨b,k,none⟩ (.slice A' m' c')) v q:=by
 obtain ⟨xs,h1,_,hx,_⟩:=h
 exact hv.put3 h1 hx i j k s A A' m c m' c'
theorem FArc.blk (h:FArc w b qs):∃ xs,Blk w b 40 xs/\∀ x ∈ xs,bh x:=by
 obtain ⟨xs,h1,_,hx,_⟩:=h
 exact ⟨xs,h1,hx⟩
theorem FArc.far1 (h:FArc w b qs) {g:Nat} {e:TypeId} {xs:List Value} (hb:Blk w g e xs)(hx:∀ x ∈ xs,bh x)(hne:b ≠ g) (i:Nat) (u:Value):FArc (w.setCell ⟨g,i,none⟩ u) b qs:=by
 obtain ⟨ys,g1,g2,gx,g3⟩:=h
 refine ⟨ys,g1.far (p:=⟨g,i,none⟩) hne u,g2,gx,fun j r hr=>?_⟩
 obtain ⟨A1,m1,c1,A1',m1',c1',e0,e1,e2,e3⟩:=g3 j r hr
 exact ⟨A1,m1,c1,A1',m1',c1',e0,e1,e2,e3.putBlk hb hx _ _⟩
theorem FArc.far {g:Nat} {rs:List Rat} (h:FArc w b qs)(hg:FArc w g rs)(hne:b ≠ g) (i j k:Nat) (s:Bool) (A A':Option Addr) (m c m' c':Nat) :
  FArc (((w.setCell ⟨g,i,none⟩ (.bool s)).setCell ⟨g,j,none⟩ (.slice A m c)).setCell ⟨g,k,none⟩ (.slice A' m' c')) b qs:=by
 obtain ⟨xs,h1,hx⟩:=hg.blk
 exact ((h.far1 h1 hx hne i _).far1 (h1.set_ _ _) (aO hx _ (show bh (.bool s) from trivial)) hne j _).far1 ((h1.set_ _ _).set_ _ _) (aO (aO hx _ (show bh (.bool s) from trivial)) _ (show bh (.slice A m c) from trivial)) hne k _
theorem FArc.put (h:FArc w b qs) {i:Nat} (hi:i < qs.length) {q:Rat} {s:Bool} {A A':Option Addr} {m c m' c':Nat} (hs:s = ae q)(hq:CanAt w (.agg #[.bool s,.slice A m c,.slice A' m' c']) q) :
  FArc (((w.setCell ⟨b,i * 3,none⟩ (.bool s)).setCell ⟨b,i * 3 + 1,none⟩ (.slice A m c)).setCell ⟨b,i * 3 + 2,none⟩ (.slice A' m' c')) b (qs.set i q):=by
 subst hs
 obtain ⟨xs,h1,h2,hx,h3⟩:=h
 have jH:=((h1.set_ (i * 3) (.bool (ae q))).set_ (i * 3 + 1) (.slice A m c)).set_ (i * 3 + 2) (.slice A' m' c')
 have nd:=aO (aO (aO hx (i * 3) (show bh (.bool (ae q)) from trivial)) (i * 3 + 1) (show bh (.slice A m c) from trivial)) (i * 3 + 2) (show bh (.slice A' m' c') from trivial)
 have keep:∀ {v r},CanAt w v r->CanAt (((w.setCell ⟨b,i * 3,none⟩ (.bool (ae q))).setCell ⟨b,i * 3 + 1,none⟩ (.slice A m c)).setCell ⟨b,i * 3 + 2,none⟩ (.slice A' m' c')) v r:=fun h=>h.put3 h1 hx _ _ _ _ _ _ _ _ _ _
 refine ⟨_,jH,by simpa using h2,nd,fun j r hr=>?_⟩
 by_cases hj:i = j
 ·subst hj
  rw [List.getElem?_set_self hi] at hr
  cases hr
  refine ⟨A,m,c,A',m',c',?_,?_,?_,keep hq⟩
  ·rw [sN (by omega),sN (by omega),List.getElem?_set_self (by omega)]
  ·rw [sN (by omega),List.getElem?_set_self (by simp; omega)]
  rw [List.getElem?_set_self (by simp; omega)]
 rw [sN hj] at hr
 obtain ⟨A1,m1,c1,A1',m1',c1',e0,e1,e2,e3⟩:=h3 j r hr
 refine ⟨A1,m1,c1,A1',m1',c1',?_,?_,?_,keep e3⟩
 ·rw [sN (by omega),sN (by omega),sN (by omega)]; exact e0
 ·rw [sN (by omega),sN (by omega),sN (by omega)]; exact e1
 rw [sN (by omega),sN (by omega),sN (by omega)]; exact e2
theorem FArc.cans (h:FArc w b qs) {c:Nat} (hc:qs.length <= c)(hm:c <= 9223372036854775807):CansAt w (.slice (some ⟨b,0,none⟩) qs.length c) qs:=by
 obtain ⟨xs,h1,h2,hx,h3⟩:=h
 refine ⟨xs.take (qs.length * 3),h1.sl (by omega) hc (by unfold maxLen; omega),fun i q hq=>?_⟩
 have hi:=(sI.1 hq).1
 obtain ⟨A,m,c,A',m',c',e0,e1,e2,e3⟩:=h3 i q hq
 exact ⟨_,_,_,by rw [List.getElem?_take_of_lt (by omega)]; exact e0,by rw [List.getElem?_take_of_lt (by omega)]; exact e1,by rw [List.getElem?_take_of_lt (by omega)]; exact e2,e3⟩
end

def BoxC (w:World) (b:Nat) (q:Rat):Prop:=FArc w b [q]
section
variable {w w':World} {b:Nat} {q:Rat}
theorem BoxC.below (h:BoxC w b q)(hb:Below w.heap.size w w'):BoxC w' b q:=FArc.below h hb
theorem BoxC.lt (h:BoxC w b q):b < w.heap.size:=FArc.lt h
theorem BoxC.get (h:BoxC w b q):∃ A m c A' m' c',w.cell? ⟨b,0,none⟩ = some (.bool (ae q))/\w.cell? ⟨b,1,none⟩ = some (.slice A m c)/\w.cell? ⟨b,2,none⟩ = some (.slice A' m' c') /\
  w.frozen? ⟨b,0,none⟩ = false/\w.frozen? ⟨b,1,none⟩ = false/\w.frozen? ⟨b,2,none⟩ = false/\CanAt w (.agg #[.bool (ae q),.slice A m c,.slice A' m' c']) q:=by
 have:=FArc.get h (i:=0) (q:=q) rfl
 simpa using this
theorem BoxC.put (h:BoxC w b q) {r:Rat} {s:Bool} {A A':Option Addr} {m c m' c':Nat} (hs:s = ae r)(hr:CanAt w (.agg #[.bool s,.slice A m c,.slice A' m' c']) r) :
  BoxC (((w.setCell ⟨b,0,none⟩ (.bool s)).setCell ⟨b,1,none⟩ (.slice A m c)).setCell ⟨b,2,none⟩ (.slice A' m' c')) b r:=by
 have:=FArc.put h (i:=0) (by simp) hs hr
 unfold BoxC
 simpa using this
theorem BoxC.of {A A':Option Addr} {m c m' c':Nat} (h:Blk w b 40 [.bool (ae q),.slice A m c,.slice A' m' c'])(hq:CanAt w (.agg #[.bool (ae q),.slice A m c,.slice A' m' c']) q):BoxC w b q:=by
 refine ⟨_,h,rfl,?_,fun i r hr=>?_⟩
 ·intro x hx
  simp only [List.mem_cons,List.not_mem_nil,or_false] at hx
  rcases hx with rfl | rfl | rfl <;> trivial
 cases i with
 | succ i=>simp at hr
 | zero =>
  cases hr
  exact ⟨A,m,c,A',m',c',rfl,rfl,rfl,hq⟩
theorem BoxC.new {A A':Option Addr} {m c m' c':Nat} (hq:CanAt w (.agg #[.bool (ae q),.slice A m c,.slice A' m' c']) q):BoxC (w.alloc (.cells #[.bool (ae q),.slice A m c,.slice A' m' c'] 40)) w.heap.size q:=by
 refine ⟨_,Blk.new w 40 [.bool (ae q),.slice A m c,.slice A' m' c'],rfl,?_,fun i r hr=>?_⟩
 ·intro x hx
  simp only [List.mem_cons,List.not_mem_nil,or_false] at hx
  rcases hx with rfl | rfl | rfl <;> trivial
 cases i with
 | succ i=>simp at hr
 | zero =>
  cases hr
  exact ⟨A,m,c,A',m',c',rfl,rfl,rfl,hq.below ((Below.refl _ w).alloc (nR _) _)⟩
theorem BoxC.zero (w:World):BoxC (w.alloc (.cells #[.bool false,.slice none 0 0,.slice none 0 0] 40)) w.heap.size 0:=BoxC.new (w:=w) (q:=0) ((CanNew.zero_ 0 w).at_)
end
theorem aj {w:World} {B g o:Nat} {x:Value} (h:w.cell? ⟨g,o,none⟩ = some x)(hp:g ≠ B) (i j k:Nat) (u0 u1 u2:Value):(((w.setCell ⟨B,i,none⟩ u0).setCell ⟨B,j,none⟩ u1).setCell ⟨B,k,none⟩ u2).cell? ⟨g,o,none⟩ = some x:=by
 have e:∀ (w:World) (i:Nat) (u:Value),(w.setCell ⟨B,i,none⟩ u).cell? ⟨g,o,none⟩ = w.cell? ⟨g,o,none⟩:=fun w i u=>by
  unfold World.cell?
  rw [show (w.setCell ⟨B,i,none⟩ u).heap[(⟨g,o,none⟩:Addr).block]? = w.heap[(⟨g,o,none⟩:Addr).block]? from Below.heap_setCell w ⟨B,i,none⟩ u g hp]
 rw [e,e,e,h]
theorem FArc.int_ne {w:World} {b g o:Nat} {qs:List Rat} {k:IntKind} {z:Int} (h:FArc w b qs)(hc:w.cell? ⟨g,o,none⟩ = some (.int k z)):g ≠ b:=by
 intro e
 subst e
 obtain ⟨xs,h1,hx⟩:=h.blk
 rw [h1.cell] at hc
 exact hx _ (mG hc)
theorem eO (f:Nat->Rat) (j g:Nat) {x:Rat} (hx:x = f j):((List.range j).map f ++ List.replicate (g + 1) 0).set j x = (List.range (j + 1)).map f ++ List.replicate g 0:=by
 subst hx
 rw [List.set_append_right _ _ (by simp),List.length_map,List.length_range,Nat.sub_self,List.replicate_succ,List.set_cons_zero,List.range_succ,List.map_append,List.append_assoc]
 rfl
theorem ff (f:Nat->Rat) (j g:Nat):((List.range j).map f ++ List.replicate (g + 1) (0:Rat))[j]? = some 0:=by
 rw [List.getElem?_append_right (by simp),List.length_map,List.length_range,Nat.sub_self]
 rfl
theorem cN (f:Nat->Rat) (l:List Rat) {j:Nat} (hj:j < l.length) {x:Rat} (hx:x = f j):((List.range j).map f ++ l.drop j).set j x = (List.range (j + 1)).map f ++ l.drop (j + 1):=by
 subst hx
 rw [List.set_append_right _ _ (by simp),List.length_map,List.length_range,Nat.sub_self,List.drop_eq_getElem_cons hj,List.set_cons_zero,List.range_succ,List.map_append,List.append_assoc]
 rfl
theorem fz (f:Nat->Rat) (l:List Rat) {j:Nat} (hj:j < l.length):((List.range j).map f ++ l.drop j)[j]? = some (l.getD j 0):=by
 rw [List.getElem?_append_right (by simp),List.length_map,List.length_range,Nat.sub_self,List.getElem?_drop,gD,Nat.add_zero,eG hj]
 rfl
theorem aL {w w':World} {B0 B:Nat} (h:Below B0 w w')(hb:B0 <= B) (i j k:Nat) (u0 u1 u2:Value):Below B0 w (((w'.setCell ⟨B,i,none⟩ u0).setCell ⟨B,j,none⟩ u1).setCell ⟨B,k,none⟩ u2) :=
 ((h.setCell (p:=⟨B,i,none⟩) hb _).setCell (p:=⟨B,j,none⟩) hb _).setCell (p:=⟨B,k,none⟩) hb _
theorem FArc.keepsF {w:World} {b:Nat} {qs:List Rat} (h:FArc w b qs) {n:Nat} {x y z:Value} {q:Rat} (hv:FracAt n w (.agg #[x,y,z]) q) (i j k:Nat) (s:Bool) (A A':Option Addr) (m c m' c':Nat) :
  FracAt n (((w.setCell ⟨b,i,none⟩ (.bool s)).setCell ⟨b,j,none⟩ (.slice A m c)).setCell ⟨b,k,none⟩ (.slice A' m' c')) (.agg #[x,y,z]) q:=by
 obtain ⟨xs,h1,hx⟩:=h.blk
 exact ((hv.setBlk h1 hx i _).setBlk (h1.set_ _ _) (aO hx _ (show bh (.bool s) from trivial)) j _).setBlk ((h1.set_ _ _).set_ _ _) (aO (aO hx _ (show bh (.bool s) from trivial)) _ (show bh (.slice A m c) from trivial)) k _
theorem SeenAt.far3 {w:World} {g:Nat} {rs:List Rat} {mv:Value} {L:List (Int × Int)} (h:SeenAt w mv L)(hg:FArc w g rs) (i j k:Nat) (u0 u1 u2:Value):SeenAt (((w.setCell ⟨g,i,none⟩ u0).setCell ⟨g,j,none⟩ u1).setCell ⟨g,k,none⟩ u2) mv L:=by
 obtain ⟨xs,h1,hx⟩:=hg.blk
 rcases h with ⟨e1,e2⟩ | ⟨b,e1,hm⟩
 ·exact .inl ⟨e1,e2⟩
 have hne:b ≠ g:=by
  intro e
  subst e
  have h2:=hm.1
  unfold Blk at h1
  rw [h1] at h2
  cases h2
 exact .inr ⟨b,e1,((hm.far (p:=⟨g,i,none⟩) hne _).far (p:=⟨g,j,none⟩) hne _).far (p:=⟨g,k,none⟩) hne _⟩
theorem Blk.far3 {w:World} {g B:Nat} {e:TypeId} {xs:List Value} (h:Blk w g e xs)(hne:g ≠ B) (i j k:Nat) (u0 u1 u2:Value):Blk (((w.setCell ⟨B,i,none⟩ u0).setCell ⟨B,j,none⟩ u1).setCell ⟨B,k,none⟩ u2) g e xs :=
 ((h.far (p:=⟨B,i,none⟩) hne _).far (p:=⟨B,j,none⟩) hne _).far (p:=⟨B,k,none⟩) hne _
end
theorem SeenAt.look {w:World} {mv:Value} {L:List (Int × Int)} {C:Int->Int} (h:SeenAt w mv L)(hC:ix L C) {x:Int} (hx:0 <= x/\x <= 1000000) :
  (Instr.lookup 206 mv (.int .i64 x) false).run Tryz.prog w = .ok (.int .i64 (C x)) w:=by
 have hg:=m5 (x:=x) (by omega) (by omega)
 rcases h with ⟨rfl,rfl⟩ | ⟨b,rfl,hm⟩
 ·obtain ⟨kl,hkl⟩:=hg
  have h1:=Maps.look_nil (w:=w) false oG (show Tryz.prog.underlying 206 = some (.map 3 3) from Tryz.underlying206) (fV w) hkl
  rw [h1,<- hC.2.1 x]
  rfl
 have h1:=TMap.look (e:=3) (k:=x) hm oG (show Tryz.prog.underlying 206 = some (.map 3 3) from Tryz.underlying206) (fV w) hg (fun y _ he=>by injection he)
 rw [h1,<- hC.2.1 x]
 cases aC L x <;> rfl
theorem SeenAt.len {w:World} {mv:Value} {L:List (Int × Int)} (h:SeenAt w mv L) (ty:TypeId):(Builtin.len_ #[206] ty #[mv]).run Tryz.prog w = .ok (.int .i64 (L.length:Int)) w:=by
 rcases h with ⟨rfl,rfl⟩ | ⟨b,rfl,hm⟩
 ·exact Maps.len_nil (show Tryz.prog.underlying 206 = some (.map 3 3) from Tryz.underlying206) ty
 have h1:=MapAt.len hm (show Tryz.prog.underlying 206 = some (.map 3 3) from Tryz.underlying206) ty
 rw [h1]
 simp [cR]
theorem SeenAt.drew {w:World} {mv:Value} {L:List (Int × Int)} (h:SeenAt w mv L):SeenAt w.drew mv L:=h

theorem sr {gs:List (List Int × Int)} {d v:Nat} {h:List Int} {L:List (Int × Int)} (hg:∀ g ∈ gs,0 < g.2)(hw:∀ g ∈ gs,∀ x ∈ g.1,x <= (v:Int))(hC:ix L (fun x=>tot d gs (h ++ [x]))):∀ e ∈ L,e.1 <= (v:Int):=by
 intro e he
 have h1:=dK hC.1 he
 have h2:=hC.2.1 e.1
 rw [h1] at h2
 have h3:e.2 = tot d gs (h ++ [e.1]):=h2
 have h4:=(hC.2.2 e he).1
 rw [h3] at h4
 obtain ⟨g,hg1,hg2⟩:=(mi hg).1 h4
 have h5:g.1.drop d = h ++ [e.1]:=by simpa using hg2
 exact hw g hg1 _ (List.mem_of_mem_drop (i:=d) (by rw [h5]; simp))

theorem below_new {w w':World} {o:Obj} (h:Below (w.alloc o).heap.size (w.alloc o) w'):Below w.heap.size w w':=((Below.refl _ w).alloc (nR _) o).trans (h.mono (by simp))
theorem below_new_drew {w w':World} {o:Obj} (h:Below (w.alloc o).drew.heap.size (w.alloc o).drew w'):Below w.heap.size w w':=below_new (bO h)
theorem bA (w:World) (o:Obj):Below w.heap.size w (w.alloc o):=(Below.refl _ w).alloc (nR _) o
theorem below_alloc_drew (w:World) (o:Obj):Below w.heap.size w (w.alloc o).drew:=(bA w o).trans ⟨rfl,rfl,rfl,nR _,fun _ _=>rfl⟩
theorem ofI (w:World) (z:Int)(h0:0 <= z)(h1:z < 9223372036854775808) :
  Calls Tryz.prog 110 #[.int .i64 z] w fun e w'=>∃ v',e = .returned v'/\CanNew w.heap.size w' v' (z:Rat)/\Below w.heap.size w w':=by
 obtain ⟨n,rfl⟩:=Int.eq_ofNat_of_zero_le h0
 have:=ofN w n (by omega)
 rwa [show ((n:Int):Rat) = (n:Rat) from Rat.intCast_natCast n]
end Go.Proofs.YtjebfdfkjlkifaaGreat
