/- Lemmas on the way: Sn1, Ov1, FArr, Gg1, FArk, Gg3, Db, Fol. -/
import Derived.Test.YtdehimgccmbfkaaGreatT37
set_option linter.all false
set_option maxRecDepth 1000000
set_option maxHeartbeats 32000000
namespace Go.Proofs.YtdehimgccmbfkaaGreat
open Go.RowKit
def SeenAt (w:World) (mv:Value) (L:List (Int × Int)):Prop:=(mv = .map none/\L = []) ∨ ∃ b,mv = .map (some b)/\TMap (Value.int .i64) (Value.int .i64) w 3 b L
theorem SeenAt.below {w w':World} {mv:Value} {L:List (Int × Int)} (h:SeenAt w mv L)(hb:Below w.heap.size w w'):SeenAt w' mv L:=by
 rcases h with ⟨h1,h2⟩ | ⟨b,h1,h2⟩
 ·exact .inl ⟨h1,h2⟩
 exact .inr ⟨b,h1,h2.below hb⟩

theorem LevO.none_ {w:World} {b base n:Nat} {S:List (List Int × Int)} {outer:List (List Int × Nat)} (h:LevO w b base n S outer) {T:List Int->Int} (hC:Cnt S T) {hs:List Int} (hl:hs.length = n - 1)(hn:lookT outer hs = none):CntI [] (fun x=>T (hs ++ [x])):=by
 refine cntI_nil fun x=>?_
 by_cases h0:T (hs ++ [x]) = 0
 ·exact h0
 exfalso
 have h1:=h.2.2.2.2.2.1 _ (hC.mem h0)
 simp only at h1
 rw [<- hl,List.take_left] at h1
 obtain ⟨e,he,he2⟩:=List.mem_map.1 h1
 have h2:=nodup_at h.1.nodup he
 rw [he2,hn] at h2
 cases h2
theorem sumI_snoc (L:List (Int × Int)) (e:Int × Int):sumI (L ++ [e]) = sumI L + e.2:=by
 unfold sumI
 rw [List.map_append,List.sum_append]
 simp
def visI (L:List (Int × Int)) (vis:List Nat):List (Int × Int):=vis.map fun i=>L.getD i (0,0)
theorem visI_snoc (L:List (Int × Int)) (vis:List Nat) {j:Nat} {e:Int × Int} (h:L[j]? = some e):visI L (vis ++ [j]) = visI L vis ++ [e]:=by
 unfold visI
 rw [List.map_append,List.map_singleton,List.getD_eq_getElem?_getD,h]
 rfl
theorem visI_perm {L:List (Int × Int)} {vis:List Nat} (hn:vis.Nodup)(hv:∀ i ∈ vis,i < L.length)(hall:∀ j,j < L.length->j ∈ vis):(visI L vis).Perm L:=by
 have hp:vis.Perm (List.range L.length):=(List.perm_ext_iff_of_nodup hn List.nodup_range).2 (fun a=>⟨fun h=>List.mem_range.2 (hv a h),fun h=>hall a (List.mem_range.1 h)⟩)
 have h1:=hp.map (fun i=>L.getD i (0,0))
 have h2:(List.range L.length).map (fun i=>L.getD i (0,0)) = L:=by
  apply List.ext_getElem?
  intro i
  rw [List.getElem?_map]
  by_cases hi:i < L.length
  ·rw [List.getElem?_range hi,List.getElem?_eq_getElem hi]
   simp [List.getD_eq_getElem?_getD,hi]
  rw [List.getElem?_eq_none_iff.2 (by simpa using hi),List.getElem?_eq_none_iff.2 (by omega)]
  rfl
 rw [h2] at h1
 exact h1

theorem seenG (w:World) (O n:Nat) (b:Nat) (wd:Int)(hv:Value) (gs:List Gr)(h:List Int)(hL:LvsAt w b O 0 gs)(hn:1 <= n/\n <= O)(hO:O <= 4)(hi:IntsAt w hv h)(hl:h.length = n - 1)(hk:NiceK h) :
  Calls Tryz.prog 255 #[.agg #[.slice (some ⟨b,0,none⟩) (O + 1) (O + 1),.int .i64 wd],.int .i64 n,hv] w fun e w'=>∃ mv L,e = .returned (.tuple #[mv,.int .i64 (sumI L)])/\SeenAt w' mv L/\CntI L (fun x=>tot (O - n) gs (h ++ [x]))/\(sumI L <= 429496729600000000/\∀ e ∈ L,e.2 <= 21474836480000)/\Below w.heap.size w w':=by
 obtain ⟨xs,hx1,hx2,hx3⟩:=hL
 obtain ⟨bj,base,S,e,hlv,hS,hC,hSl⟩:=hx3 n (by omega) hn.2
 have c0:w.cell? ⟨b,n,none⟩ = some (.map (some bj)):=(hx1.cell n).trans e
 have hb:b < w.heap.size:=hx1.lt
 have j1:(0:Int) <= (n:Int):=by omega
 have j2:(n:Int) < (O:Int) + 1:=by omega
 obtain ⟨outer,hlo⟩:=hlv
 have HLO:=Lib.hid hlo
 have HS:=Lib.hid hS
 have HC:=Lib.hid hC
 have HI:=Lib.hid hi
 have HK:=Lib.hid hk
 clear hx1 hx2 hx3 e hlo hS hC hi hk
 go_enter Tryz.func255,Tryz.ntmps255
 go_wp2_with fail
 obtain ⟨W,hW,P0,PB,Phs⟩:=box1 w 278 [.slice (some ⟨b,0,none⟩) (O + 1) (O + 1),.int .i64 wd]
 rw [<- hW]
 clear hW
 have p0:=P0.out.cell 0
 have p1:=P0.out.cell 1
 simp only [List.getElem?_cons_zero,List.getElem?_cons_succ] at p0 p1
 have c1:=(PB.out.cell (p:=⟨b,n,none⟩) hb).trans c0
 go_upto_region 1 with fail
 go_cut [8] (fun mv wc=>mv = (lookT outer h).elim (.map none) bmap/\Hid (Below w.heap.size w wc))
 case first =>
  go_region_with (first
   | (go_at_call 230; refine (keyedG _ _ _ (HI.out.below (PB.out.trans (below_drew_self _))) HK.out.1 (fun z hz=>by have:=HK.out.2 z hz; omega)).mono ?_; rintro e w2 ⟨rfl,hb2'⟩; have hb2:=below_of_drew hb2'; have B2:=Lib.hid (bcomp PB.out hb2); have hlook:=(HLO.out.below B2.out).look HK.out; have c2:=(B2.out.cell (p:=⟨b,n,none⟩) hb).trans c0; have q0:=(P0.out.below' hb2).cell 0; have q1:=(P0.out.below' hb2).cell 1; simp only [List.getElem?_cons_zero,List.getElem?_cons_succ] at q0 q1; clear hb2 hb2'))
  all_goals
   go_wp2_with fail
   go_meet
   exact ⟨rfl,B2⟩
 obtain ⟨rfl,B2⟩:=hcut
 have O2:=Lib.hid (HLO.out.below B2.out)
 cases hlk:lookT outer h with
 | none =>
  have HE:=Lib.hid (HLO.out.none_ HC.out hl hlk)
  simp only [Option.elim_none]
  clear hlk p0 p1 c1
  have hrn:=run_range_nil (P:=Tryz.prog) wc 303 3 3 Tryz.underlying303
  go_wp2_with fail
  go_loopg [9,11] 0 (fun _ s9 _ wz=>s9 = .int .i64 0/\Hid (wz.heap[wc.heap.size]? = some (.mapIter none 0 #[] 0))/\Hid (Below w.heap.size w wz))
  case atStart=>exact ⟨rfl,Lib.hid (World.alloc_heap_new _ _),Lib.hid (B2.out.trans (((Below.refl _ wc).alloc (Nat.le_refl _) _).mono B2.out.size))⟩
  obtain ⟨rfl,I3,B3⟩:=hrel
  have hnx:=run_next_nil (P:=Tryz.prog) 0 I3.out
  go_wp2_with fail
  go_ret2
  exact ⟨_,[],rfl,.inl ⟨rfl,rfl⟩,HE.out,⟨by simp [sumI],fun e he=>by cases he⟩,B3.out⟩
 | some bi =>
  have hm:=lookT_mem hlk
  have HT:=Lib.hid (O2.out.2.2.2.2.1 _ hm)
  have HCI:=Lib.hid (innerL_cnt (h:=h) HS.out HC.out (by omega) hl)
  have HLE:Hid ((innerL n S h).length <= 20000/\∀ e ∈ innerL n S h,0 < e.2/\e.2 <= 21474836480000):=Lib.hid ⟨by
   unfold innerL
   rw [List.length_map]
   exact Nat.le_trans (List.length_filter_le _ _) hSl,fun e he=>by
    have h1:=HS.out.2 _ (innerL_mem HS.out (by omega) (x:=e.1) (c:=e.2) he)
    exact h1.2.2⟩
  simp only [Option.elim_some,bmap]
  generalize innerL n S h = L at *
  clear hlk p0 p1 c1 hm hSl
  have s2:w.heap.size <= wc.heap.size:=B2.out.size
  go_wp2_with (refine wpList_range_k rfl _ _ rfl 3 3 Tryz.underlying303 bi _ rfl HT.out ?_)
  intro w4 hm4 hi4 hb4 hs4
  have I4:Hid (IterAt w4 wc.heap.size bi L.length []):=Lib.hid (by simpa [encM] using hi4)
  have M4:Hid (TMap (Value.int .i64) (Value.int .i64) w4 3 bi L):=Lib.hid hm4
  have B4:Hid (Below w.heap.size w w4):=Lib.hid (B2.out.trans (hb4.mono s2))
  clear hm4 hi4 hb4 hs4
  go_wp2_with fail
  go_loopg [9,11] L.length (fun gh s9 _ wz=>∃ vis:List Nat,s9 = .int .i64 (sumI (visI L vis))/\vis.length + gh = L.length/\Hid (vis.Nodup/\∀ i ∈ vis,i < L.length)/\Hid (0 <= sumI (visI L vis)/\sumI (visI L vis) <= vis.length * 21474836480000)/\Hid (IterAt wz wc.heap.size bi L.length vis)/\Hid (TMap (Value.int .i64) (Value.int .i64) wz 3 bi L)/\Hid (Below w.heap.size w wz))
  case atStart=>exact ⟨[],rfl,by simp,Lib.hid ⟨List.nodup_nil,fun i hi=>by cases hi⟩,Lib.hid ⟨by simp [visI,sumI],by simp [visI,sumI]⟩,I4,M4,B4⟩
  clear I4 M4 B4
  obtain ⟨vis,rfl,hvl,VIS,SB,I4,M4,B4⟩:=hrel
  have I5:Hid (IterAt wr wc.heap.size bi (encM (Value.int .i64) (Value.int .i64) L).length vis):=Lib.hid (by simpa [encM] using I4.out)
  go_wp2_with (refine wpList_next_k rfl _ rfl 3 bi wc.heap.size (encM (Value.int .i64) (Value.int .i64) L) vis rfl M4.out I5.out ?done ?more)
  case done =>
   intro hdone
   have HPM:=Lib.hid (visI_perm VIS.out.1 VIS.out.2 (fun j hj=>hdone j (by simpa [encM] using hj)))
   have HSE:Hid (sumI (visI L vis) = sumI L):=Lib.hid (by unfold sumI; exact sum_perm (HPM.out.map _))
   clear hdone I5
   rw [HSE.out]
   go_wp2_with fail
   go_ret2
   exact ⟨_,L,rfl,.inr ⟨bi,rfl,M4.out⟩,HCI.out,⟨by have h1:=SB.out.2; rw [HSE.out] at h1; have h2:=HLE.out.1; omega,fun e he=>(HLE.out.2 e he).2⟩,B4.out⟩
  case more =>
   intro i xk xv w5 hx hiv hm5 hi5 hent hg5 hs5
   rw [encM_get] at hx
   obtain ⟨e,he,rfl,rfl⟩:∃ e,L[i]? = some e/\Value.int .i64 e.1 = xk/\Value.int .i64 e.2 = xv:=by
    cases h:L[i]? with
    | none=>rw [h] at hx; cases hx
    | some e=>rw [h] at hx; simp only [Option.map_some,Option.some.injEq,Prod.mk.injEq] at hx; exact ⟨e,rfl,hx.1,hx.2⟩
   have hil:=(List.getElem?_eq_some_iff.1 he).1
   have heb:=HLE.out.2 e (List.mem_of_getElem? he)
   have VIS5:Hid ((vis ++ [i]).Nodup/\∀ k ∈ vis ++ [i],k < L.length):=Lib.hid ⟨List.nodup_append.2 ⟨VIS.out.1,by simp,fun a ha b hb e=>by simp at hb; subst hb; subst e; exact hiv ha⟩,fun k hk=>by rcases List.mem_append.1 hk with hk | hk; exact VIS.out.2 k hk; rw [List.mem_singleton.1 hk]; exact hil⟩
   have hgk:0 < gk:=by have:=nodup_lt VIS5.out.1 VIS5.out.2; rw [List.length_append,List.length_singleton] at this; omega
   have HSN:Hid (sumI (visI L (vis ++ [i])) = sumI (visI L vis) + e.2):=Lib.hid (by rw [visI_snoc L vis he,sumI_snoc])
   have J5:Hid (IterAt w5 wc.heap.size bi L.length (vis ++ [i])):=Lib.hid (by simpa [encM] using hi5)
   have M5:Hid (TMap (Value.int .i64) (Value.int .i64) w5 3 bi L):=Lib.hid hm5
   have B5:Hid (Below w.heap.size w w5):=Lib.hid (B4.out.grown hg5 B4.out.size (fun k e=>by cases e; exact s2))
   have hsb:=SB.out
   have hl2:vis.length < 20000:=by have:=HLE.out.1; omega
   obtain ⟨u,hu⟩:∃ u,sumI (visI L vis) = u:=⟨_,rfl⟩
   rw [hu] at hsb HSN ⊢
   clear hx hm5 hi5 hg5 hs5 he hu SB I5 I4 M4
   obtain ⟨ex,ec⟩:=e
   simp only at hent heb HSN
   have hb1:u + ec <= 9223372036854775807:=by omega
   have hb2:-9223372036854775808 <= u + ec:=by omega
   go_wp2_with fail
   go_roundg (gk - 1)
   case measure=>omega
   case rel=>exact ⟨vis ++ [i],by rw [HSN.out],by rw [List.length_append,List.length_singleton]; omega,VIS5,Lib.hid (by rw [HSN.out,List.length_append,List.length_singleton]; omega),J5,M5,B5⟩
theorem overG (w:World) (v v':Value) (q r:Rat) (k:Nat)(h:FracAt k w v q) (h':FracAt k w v' r)(h0:0 < k)(hk:k <= 549755813888)(hr:r ≠ 0) :
  Calls Tryz.prog 258 #[v,v'] w fun e w'=>∃ u,e = .returned u/\CanNew w.heap.size w' u (q / r)/\Below w.heap.size w w':=by
 have H1:=Lib.hid h
 have H2:=Lib.hid h'
 have HR:=Lib.hid hr
 obtain ⟨s,vn,vd,rfl⟩:=h.shape
 obtain ⟨t,vn',vd',rfl⟩:=h'.shape
 clear h h' hr
 go_enter Tryz.func258,Tryz.ntmps258
 go_wp2_with fail
 obtain ⟨W,hW,P0,P1,P2,PB,Phs⟩:=box3 w 31 [.bool s,vn,vd] 31 [.bool t,vn',vd'] 31 [.bool false,.slice none 0 0,.slice none 0 0]
 rw [<- hW]
 clear hW
 obtain ⟨p0,p1,p2,_,_,_⟩:=P0.out.three
 obtain ⟨q0,q1,q2,_,_,_⟩:=P1.out.three
 go_wp2_with fail
 refine (divF W _ _ q r k (H1.out.below PB.out) (H2.out.below PB.out) h0 hk HR.out).mono ?_
 rintro e w1 ⟨u,rfl,t1,hb1⟩
 obtain ⟨A,m,c,A',m',c',rfl,ta,tb,tc,td⟩:=t1.open_
 have T1:=Lib.hid t1
 have P2':=Lib.hid (P2.out.below' hb1)
 have B1:=Lib.hid (PB.out.trans (hb1.mono (by omega)))
 have s1:w.heap.size + 3 <= w1.heap.size:=Nat.le_trans Phs hb1.size
 have TA:=Lib.hid ta
 have TB:=Lib.hid tb
 have TC:=Lib.hid tc
 have TD:=Lib.hid td
 clear p0 p1 p2 q0 q1 q2 ta tb tc td t1 hb1
 go_upto_region 2 with fail
 obtain ⟨W2,hW2,G0,GB,Ghs⟩:=box1 w1 31 [.bool (isNeg (q / r)),.slice A m c,.slice A' m' c']
 rw [<- hW2]
 clear hW2
 obtain ⟨g0,g1,g2,_,_,_⟩:=G0.out.three
 obtain ⟨r0,r1,r2,z0,z1,z2⟩:=(P2'.out.below' GB.out).three
 have B2:=Lib.hid (B1.out.trans (GB.out.mono (by omega)))
 have UA:=Lib.hid (TA.out.below GB.out)
 have UB:=Lib.hid (TB.out.below GB.out)
 go_wp2_with fail
 refine bodyPost_ret (v:=.agg #[.bool (isNeg (q / r)),.slice A m c,.slice A' m' c']) (by simp [results,Tryz.results258,go_sem,r0,r1,r2]) rfl ⟨_,rfl,?_,below_box3 B2.out (by omega) _ _ _⟩
 exact (CanNew.box3 UA.out UB.out TC.out TD.out (by omega) _ _ _).mono (by omega)
section
theorem infoFrac:(Tryz.prog.info? 31).map (fun i=>(i.zero,i.size,i.bytes)) = some (some (.agg #[.bool false,.slice none 0 0,.slice none 0 0]),3,56):=by kernel_rfl

def FArr (base:Nat) (w:World) (b:Nat) (qs:List Rat):Prop:=b < base/\∃ xs,Blk w b 31 xs/\xs.length = qs.length * 3 /\
 ∀ (i:Nat) (q:Rat),qs[i]? = some q->∃ A m c A' m' c',xs[i * 3]? = some (.bool (isNeg q))/\xs[i * 3 + 1]? = some (.slice A m c)/\xs[i * 3 + 2]? = some (.slice A' m' c')/\CanNew base w (.agg #[.bool (isNeg q),.slice A m c,.slice A' m' c']) q
section
variable {base:Nat} {w w':World} {b:Nat} {qs:List Rat}
theorem FArr.lt (h:FArr base w b qs):b < w.heap.size:=by
 obtain ⟨_,xs,hb,_⟩:=h
 exact hb.lt
theorem FArr.below (h:FArr base w b qs)(hb:Below w.heap.size w w'):FArr base w' b qs:=by
 obtain ⟨h0,xs,h1,h2,h3⟩:=h
 refine ⟨h0,xs,h1.below' hb,h2,fun i q hq=>?_⟩
 obtain ⟨A,m,c,A',m',c',e0,e1,e2,e3⟩:=h3 i q hq
 exact ⟨A,m,c,A',m',c',e0,e1,e2,e3.below hb⟩
theorem FArr.drew (h:FArr base w b qs):FArr base w.drew b qs:=h
theorem FArr.get (h:FArr base w b qs) {i:Nat} {q:Rat} (hq:qs[i]? = some q):∃ A m c A' m' c',w.cell? ⟨b,i * 3,none⟩ = some (.bool (isNeg q))/\w.cell? ⟨b,i * 3 + 1,none⟩ = some (.slice A m c)/\w.cell? ⟨b,i * 3 + 2,none⟩ = some (.slice A' m' c') /\
  w.frozen? ⟨b,i * 3,none⟩ = false/\w.frozen? ⟨b,i * 3 + 1,none⟩ = false/\w.frozen? ⟨b,i * 3 + 2,none⟩ = false/\CanNew base w (.agg #[.bool (isNeg q),.slice A m c,.slice A' m' c']) q:=by
 obtain ⟨_,xs,h1,_,h3⟩:=h
 obtain ⟨A,m,c,A',m',c',e0,e1,e2,e3⟩:=h3 i q hq
 exact ⟨A,m,c,A',m',c',(h1.cell _).trans e0,(h1.cell _).trans e1,(h1.cell _).trans e2,h1.frozen _,h1.frozen _,h1.frozen _,e3⟩
theorem CanNew.far {B:Nat} {v:Value} {q:Rat} (h:CanNew B w v q) {p:Addr} (hp:p.block < B) (u:Value):CanNew B (w.setCell p u) v q:=by
 obtain ⟨vn,vd,e,h1,h2,h3,h4⟩:=h
 exact ⟨vn,vd,e,h1.setFar h3 hp u,h2.setFar h4 hp u,h3,h4⟩
theorem FArr.far (h:FArr base w b qs) {p:Addr} (hp:p.block < base)(hb:b ≠ p.block) (u:Value):FArr base (w.setCell p u) b qs:=by
 obtain ⟨h0,xs,h1,h2,h3⟩:=h
 refine ⟨h0,xs,h1.far hb u,h2,fun i q hq=>?_⟩
 obtain ⟨A,m,c,A',m',c',e0,e1,e2,e3⟩:=h3 i q hq
 exact ⟨A,m,c,A',m',c',e0,e1,e2,e3.far hp u⟩
theorem FArr.put (h:FArr base w b qs) {i:Nat} (hi:i < qs.length) {q:Rat} {s:Bool} {A A':Option Addr} {m c m' c':Nat} (hs:s = isNeg q)(hq:CanNew base w (.agg #[.bool s,.slice A m c,.slice A' m' c']) q) :
  FArr base (((w.setCell ⟨b,i * 3,none⟩ (.bool s)).setCell ⟨b,i * 3 + 1,none⟩ (.slice A m c)).setCell ⟨b,i * 3 + 2,none⟩ (.slice A' m' c')) b (qs.set i q):=by
 subst hs
 obtain ⟨h0,xs,h1,h2,h3⟩:=h
 have hset:=((h1.set_ (i * 3) (.bool (isNeg q))).set_ (i * 3 + 1) (.slice A m c)).set_ (i * 3 + 2) (.slice A' m' c')
 refine ⟨h0,_,hset,by simpa using h2,fun j r hr=>?_⟩
 have far:∀ {v r},CanNew base w v r->CanNew base (((w.setCell ⟨b,i * 3,none⟩ (.bool (isNeg q))).setCell ⟨b,i * 3 + 1,none⟩ (.slice A m c)).setCell ⟨b,i * 3 + 2,none⟩ (.slice A' m' c')) v r :=
  fun h=>((h.far (p:=⟨b,i * 3,none⟩) h0 _).far (p:=⟨b,i * 3 + 1,none⟩) h0 _).far (p:=⟨b,i * 3 + 2,none⟩) h0 _
 by_cases hj:i = j
 ·subst hj
  rw [List.getElem?_set_self hi] at hr
  cases hr
  refine ⟨A,m,c,A',m',c',?_,?_,?_,far hq⟩
  ·rw [List.getElem?_set_ne (by omega),List.getElem?_set_ne (by omega),List.getElem?_set_self (by omega)]
  ·rw [List.getElem?_set_ne (by omega),List.getElem?_set_self (by simp; omega)]
  rw [List.getElem?_set_self (by simp; omega)]
 rw [List.getElem?_set_ne hj] at hr
 obtain ⟨A1,m1,c1,A1',m1',c1',e0,e1,e2,e3⟩:=h3 j r hr
 refine ⟨A1,m1,c1,A1',m1',c1',?_,?_,?_,far e3⟩
 ·rw [List.getElem?_set_ne (by omega),List.getElem?_set_ne (by omega),List.getElem?_set_ne (by omega)]; exact e0
 ·rw [List.getElem?_set_ne (by omega),List.getElem?_set_ne (by omega),List.getElem?_set_ne (by omega)]; exact e1
 rw [List.getElem?_set_ne (by omega),List.getElem?_set_ne (by omega),List.getElem?_set_ne (by omega)]; exact e2
theorem made3 (x y z:Value) (n i:Nat)(h:i < n):(madeCells #[x,y,z] (n * 3)).toList[i * 3]? = some x/\(madeCells #[x,y,z] (n * 3)).toList[i * 3 + 1]? = some y/\(madeCells #[x,y,z] (n * 3)).toList[i * 3 + 2]? = some z:=by
 have key:∀ j,j < n * 3->(madeCells #[x,y,z] (n * 3)).toList[j]? = some (#[x,y,z][j % 3]!):=by
  intro j hj
  simp [madeCells,hj]
 refine ⟨?_,?_,?_⟩
 ·rw [key _ (by omega),show i * 3 % 3 = 0 by omega]; rfl
 ·rw [key _ (by omega),show (i * 3 + 1) % 3 = 1 by omega]; rfl
 rw [key _ (by omega),show (i * 3 + 2) % 3 = 2 by omega]; rfl
theorem wpList_make_fracs {ops:Array Oper} {rest:List Oper} {o:Oper} {a:Act} {Q:Exit->Act->World->Prop} (hg:o.guard = none) (l c:Operand)(hop:o.op = Op.makeSlice 32 l c)
  (L:Int) (n:Nat) (hl:a.eval l = .int .i64 L) (hc:a.eval c = .int .i64 L) (hL:L = (n:Int)) (hn:n <= 1000000)
  (hK:∀ w',FArr (w.heap.size + 1) w' w.heap.size (List.replicate n (0:Rat))->Below w.heap.size w w'->wpList Tryz.prog ops Q rest (a.put o.dst (.slice (some ⟨w.heap.size,0,none⟩) n n)) w') :
  wpList Tryz.prog ops Q (o :: rest) a w:=by
 obtain ⟨i0,h2,h3,h4,h5⟩:=info_parts infoFrac
 refine wpList_make_full w hg l c 32 hop w.heap.size 31 i0 _ 3 Tryz.underlying32 h2 h3 h4 .i64 .i64 L L n hl hc hL hL (by rw [h5]; omega) (by unfold maxLen; omega) (Nat.le_refl _) fun w' hown hgr=>?_
 refine hK w' ?_ ((Below.refl _ w).grown hgr (Nat.le_refl _) (by simp))
 obtain ⟨hl0,h | ⟨g,cap,cur,hv,_,hh,hn',_,hsz,ht⟩⟩:=hown
 ·cases h.1
 injection hv with hv1 hv2 hv3
 injection hv1 with hv1
 injection hv1 with hv1
 subst hv1
 subst hv3
 refine ⟨by omega,cur.toList,hh,?_,?_⟩
 ·rw [List.length_replicate]
  simpa using hsz
 intro i q hq
 have hi:i < n:=by have:=(List.getElem?_eq_some_iff.1 hq).1; simpa using this
 have hq0:q = 0:=by rw [List.getElem?_replicate_of_lt hi] at hq; exact (Option.some.inj hq).symm
 subst hq0
 have hm:=made3 (.bool false) (.slice none 0 0) (.slice none 0 0) n i hi
 have hcl:(Value.agg #[.bool false,.slice none 0 0,.slice none 0 0]).cells = #[.bool false,.slice none 0 0,.slice none 0 0]:=rfl
 rw [hcl] at ht
 rw [List.take_of_length_le (by simp at hsz ⊢; omega)] at ht
 rw [ht]
 exact ⟨none,0,0,none,0,0,by rw [hm.1]; rfl,hm.2.1,hm.2.2,CanNew.zero_ _ _⟩
end
end
structure Rule where
 f:Int
 w:Int
 t:Int
 q:Rat
def RulesAt (k:Nat) (w:World) (v:Value) (rs:List Rule):Prop:=∃ cells,Sl w 6 v rs.length cells/\∀ (i:Nat) (r:Rule),rs[i]? = some r->∃ a b c,cells[i * 6]? = some (.int .i64 r.f)/\cells[i * 6 + 1]? = some (.int .i64 r.w)/\cells[i * 6 + 2]? = some (.int .i64 r.t) /\
 cells[i * 6 + 3]? = some a/\cells[i * 6 + 4]? = some b/\cells[i * 6 + 5]? = some c/\FracAt k w (.agg #[a,b,c]) r.q
theorem RulesAt.below {k:Nat} {w w':World} {v:Value} {rs:List Rule} (h:RulesAt k w v rs)(hb:Below w.heap.size w w'):RulesAt k w' v rs:=by
 obtain ⟨cells,h1,h2⟩:=h
 refine ⟨cells,h1.below hb,fun i r hr=>?_⟩
 obtain ⟨a,b,c,e0,e1,e2,e3,e4,e5,hf⟩:=h2 i r hr
 exact ⟨a,b,c,e0,e1,e2,e3,e4,e5,hf.below hb⟩
theorem FracAt.cells3 {k:Nat} {w:World} {a b c:Value} {q:Rat} (h:FracAt k w (.agg #[a,b,c]) q):∃ s A n cn A' n' cn',a = .bool s/\b = .slice A n cn/\c = .slice A' n' cn':=by
 obtain ⟨neg,vn,vd,ln,ld,e,hn,hd,_⟩:=h
 obtain ⟨_,An,cn,rfl,_⟩:=hn.open_
 obtain ⟨_,Ad,cd,rfl,_⟩:=hd.open_
 injection e with e
 have e':[a,b,c] = [.bool neg,.slice An ln.length cn,.slice Ad ld.length cd]:=congrArg Array.toList e
 simp only [List.cons.injEq,and_true] at e'
 obtain ⟨rfl,rfl,rfl⟩:=e'
 exact ⟨_,_,_,_,_,_,_,rfl,rfl,rfl⟩
theorem RulesAt.open_ {k:Nat} {w:World} {v:Value} {rs:List Rule} (h:RulesAt k w v rs):∃ A c,v = .slice A rs.length c/\rs.length <= c/\c <= 9223372036854775807 /\
  ∀ (j:Nat) (r:Rule),rs[j]? = some r->∃ b off s An nn cn Ad nd cd,A = some ⟨b,off,none⟩/\b < w.heap.size/\w.cell? ⟨b,off + j * 6,none⟩ = some (.int .i64 r.f)/\w.cell? ⟨b,off + j * 6 + 1,none⟩ = some (.int .i64 r.w)/\w.cell? ⟨b,off + j * 6 + 2,none⟩ = some (.int .i64 r.t) /\
   w.cell? ⟨b,off + j * 6 + 3,none⟩ = some (.bool s)/\w.cell? ⟨b,off + j * 6 + 4,none⟩ = some (.slice An nn cn)/\w.cell? ⟨b,off + j * 6 + 5,none⟩ = some (.slice Ad nd cd)/\FracAt k w (.agg #[.bool s,.slice An nn cn,.slice Ad nd cd]) r.q:=by
 obtain ⟨cells,h1,h2⟩:=h
 obtain ⟨h0,A,c,rfl,hc,hm,h5⟩:=h1
 refine ⟨A,c,rfl,hc,by unfold maxLen at hm; omega,fun j r hr=>?_⟩
 have hj:=(List.getElem?_eq_some_iff.1 hr).1
 obtain ⟨b,off,e,hlt,hcell⟩:=h5 (by omega)
 obtain ⟨x,y,z,e0,e1,e2,e3,e4,e5,hf⟩:=h2 j r hr
 obtain ⟨s,An,nn,cn,Ad,nd,cd,rfl,rfl,rfl⟩:=hf.cells3
 exact ⟨b,off,s,An,nn,cn,Ad,nd,cd,e,hlt,hcell _ _ e0,by rw [Nat.add_assoc]; exact hcell _ _ e1,by rw [Nat.add_assoc]; exact hcell _ _ e2,by rw [Nat.add_assoc]; exact hcell _ _ e3,by rw [Nat.add_assoc]; exact hcell _ _ e4,by rw [Nat.add_assoc]; exact hcell _ _ e5,hf⟩
section
def NoDig:Value->Prop
 | .bool _=>True
 | .slice _ _ _=>True
 | _=>False
theorem DigAt.offBlk {w:World} {v:Value} {l:List Nat} {b:Nat} {e:TypeId} {xs:List Value} (h:DigAt w v l)(hb:Blk w b e xs)(hx:∀ x ∈ xs,NoDig x):Off v b:=by
 obtain ⟨⟨h0,A,c,rfl,_,_,h5⟩,_⟩:=h
 intro ad n' c' e' hn
 cases e'
 obtain ⟨b',off,e',_,hc⟩:=h5 hn
 cases e'
 simp only
 intro hbb
 subst hbb
 cases l with
 | nil=>simp at hn
 | cons d l =>
  have h1:=hc 0 (dg d) rfl
  rw [hb.cell] at h1
  exact hx _ (List.mem_of_getElem? h1)
theorem FracAt.setOff {k:Nat} {w:World} {a b c:Value} {q:Rat} (h:FracAt k w (.agg #[a,b,c]) q) {p:Addr} (h1:Off b p.block)(h2:Off c p.block) (u:Value):FracAt k (w.setCell p u) (.agg #[a,b,c]) q:=by
 obtain ⟨s,vn,vd,ln,ld,e,hn,hd,hr⟩:=h
 injection e with e
 have e':[a,b,c] = [.bool s,vn,vd]:=congrArg Array.toList e
 simp only [List.cons.injEq,and_true] at e'
 obtain ⟨rfl,rfl,rfl⟩:=e'
 exact ⟨s,_,_,ln,ld,rfl,⟨hn.1.setOff h1 u,hn.2⟩,⟨hd.1.setOff h2 u,hd.2⟩,hr⟩
theorem FracAt.digs {k:Nat} {w:World} {a b c:Value} {q:Rat} (h:FracAt k w (.agg #[a,b,c]) q):∃ ln ld,DigAt w b ln/\DigAt w c ld:=by
 obtain ⟨s,vn,vd,ln,ld,e,hn,hd,hr⟩:=h
 injection e with e
 have e':[a,b,c] = [.bool s,vn,vd]:=congrArg Array.toList e
 simp only [List.cons.injEq,and_true] at e'
 obtain ⟨rfl,rfl,rfl⟩:=e'
 exact ⟨ln,ld,hn,hd⟩

def FArk (k:Nat) (w:World) (b:Nat) (qs:List Rat):Prop:=∃ xs,Blk w b 31 xs/\xs.length = qs.length * 3/\(∀ x ∈ xs,NoDig x) /\
 ∀ (i:Nat) (q:Rat),qs[i]? = some q->∃ s A m c A' m' c',xs[i * 3]? = some (.bool s)/\xs[i * 3 + 1]? = some (.slice A m c)/\xs[i * 3 + 2]? = some (.slice A' m' c')/\FracAt k w (.agg #[.bool s,.slice A m c,.slice A' m' c']) q
section
variable {k:Nat} {w w':World} {b:Nat} {qs:List Rat}
theorem FArk.lt (h:FArk k w b qs):b < w.heap.size:=by
 obtain ⟨xs,hb,_⟩:=h
 exact hb.lt
theorem FArk.below (h:FArk k w b qs)(hb:Below w.heap.size w w'):FArk k w' b qs:=by
 obtain ⟨xs,h1,h2,hx,h3⟩:=h
 refine ⟨xs,h1.below' hb,h2,hx,fun i q hq=>?_⟩
 obtain ⟨s,A,m,c,A',m',c',e0,e1,e2,e3⟩:=h3 i q hq
 exact ⟨s,A,m,c,A',m',c',e0,e1,e2,e3.below hb⟩
theorem FArk.drew (h:FArk k w b qs):FArk k w.drew b qs:=h
theorem FArk.get (h:FArk k w b qs) {i:Nat} {q:Rat} (hq:qs[i]? = some q):∃ s A m c A' m' c',w.cell? ⟨b,i * 3,none⟩ = some (.bool s)/\w.cell? ⟨b,i * 3 + 1,none⟩ = some (.slice A m c)/\w.cell? ⟨b,i * 3 + 2,none⟩ = some (.slice A' m' c') /\
  w.frozen? ⟨b,i * 3,none⟩ = false/\w.frozen? ⟨b,i * 3 + 1,none⟩ = false/\w.frozen? ⟨b,i * 3 + 2,none⟩ = false/\FracAt k w (.agg #[.bool s,.slice A m c,.slice A' m' c']) q:=by
 obtain ⟨xs,h1,_,_,h3⟩:=h
 obtain ⟨s,A,m,c,A',m',c',e0,e1,e2,e3⟩:=h3 i q hq
 exact ⟨s,A,m,c,A',m',c',(h1.cell _).trans e0,(h1.cell _).trans e1,(h1.cell _).trans e2,h1.frozen _,h1.frozen _,h1.frozen _,e3⟩
theorem FracAt.setBlk {e:TypeId} {xs:List Value} {x y z:Value} {q:Rat} (h:FracAt k w (.agg #[x,y,z]) q)(hb:Blk w b e xs)(hx:∀ x ∈ xs,NoDig x) (o:Nat) (u:Value):FracAt k (w.setCell ⟨b,o,none⟩ u) (.agg #[x,y,z]) q:=by
 obtain ⟨ln,ld,h1,h2⟩:=h.digs
 exact h.setOff (p:=⟨b,o,none⟩) (h1.offBlk hb hx) (h2.offBlk hb hx) u
theorem noDig_set {xs:List Value} (hx:∀ x ∈ xs,NoDig x) (i:Nat) {u:Value} (hu:NoDig u):∀ x ∈ xs.set i u,NoDig x:=by
 intro x h
 rcases List.mem_or_eq_of_mem_set h with h | rfl
 ·exact hx x h
 exact hu
theorem FracAt.put3 {e:TypeId} {xs:List Value} {x y z:Value} {q:Rat} (h:FracAt k w (.agg #[x,y,z]) q)(hb:Blk w b e xs)(hx:∀ x ∈ xs,NoDig x) (i:Nat) (s:Bool) (A A':Option Addr) (m c m' c':Nat) :
  FracAt k (((w.setCell ⟨b,i * 3,none⟩ (.bool s)).setCell ⟨b,i * 3 + 1,none⟩ (.slice A m c)).setCell ⟨b,i * 3 + 2,none⟩ (.slice A' m' c')) (.agg #[x,y,z]) q :=
 ((h.setBlk hb hx (i * 3) _).setBlk (hb.set_ _ _) (noDig_set hx _ (show NoDig (.bool s) from trivial)) (i * 3 + 1) _).setBlk ((hb.set_ _ _).set_ _ _) (noDig_set (noDig_set hx _ (show NoDig (.bool s) from trivial)) _ (show NoDig (.slice A m c) from trivial)) (i * 3 + 2) _
theorem FArk.put (h:FArk k w b qs) {i:Nat} (hi:i < qs.length) {q:Rat} {s:Bool} {A A':Option Addr} {m c m' c':Nat} (hq:FracAt k w (.agg #[.bool s,.slice A m c,.slice A' m' c']) q) :
  FArk k (((w.setCell ⟨b,i * 3,none⟩ (.bool s)).setCell ⟨b,i * 3 + 1,none⟩ (.slice A m c)).setCell ⟨b,i * 3 + 2,none⟩ (.slice A' m' c')) b (qs.set i q):=by
 obtain ⟨xs,h1,h2,hx,h3⟩:=h
 have hset:=((h1.set_ (i * 3) (.bool s)).set_ (i * 3 + 1) (.slice A m c)).set_ (i * 3 + 2) (.slice A' m' c')
 refine ⟨_,hset,by simpa using h2,noDig_set (noDig_set (noDig_set hx _ (show NoDig (.bool s) from trivial)) _ (show NoDig (.slice A m c) from trivial)) _ (show NoDig (.slice A' m' c') from trivial),fun j r hr=>?_⟩
 by_cases hj:i = j
 ·subst hj
  rw [List.getElem?_set_self hi] at hr
  cases hr
  refine ⟨s,A,m,c,A',m',c',?_,?_,?_,hq.put3 h1 hx _ _ _ _ _ _ _ _⟩
  ·rw [List.getElem?_set_ne (by omega),List.getElem?_set_ne (by omega),List.getElem?_set_self (by omega)]
  ·rw [List.getElem?_set_ne (by omega),List.getElem?_set_self (by simp; omega)]
  rw [List.getElem?_set_self (by simp; omega)]
 rw [List.getElem?_set_ne hj] at hr
 obtain ⟨s1,A1,m1,c1,A1',m1',c1',e0,e1,e2,e3⟩:=h3 j r hr
 refine ⟨s1,A1,m1,c1,A1',m1',c1',?_,?_,?_,e3.put3 h1 hx _ _ _ _ _ _ _ _⟩
 ·rw [List.getElem?_set_ne (by omega),List.getElem?_set_ne (by omega),List.getElem?_set_ne (by omega)]; exact e0
 ·rw [List.getElem?_set_ne (by omega),List.getElem?_set_ne (by omega),List.getElem?_set_ne (by omega)]; exact e1
 rw [List.getElem?_set_ne (by omega),List.getElem?_set_ne (by omega),List.getElem?_set_ne (by omega)]; exact e2
theorem FArk.put_other {b':Nat} {qs':List Rat} (h':FArk k w b' qs')(h:FArk k w b qs)(hb:b' ≠ b) (i:Nat) (s:Bool) (A A':Option Addr) (m c m' c':Nat) :
  FArk k (((w.setCell ⟨b,i * 3,none⟩ (.bool s)).setCell ⟨b,i * 3 + 1,none⟩ (.slice A m c)).setCell ⟨b,i * 3 + 2,none⟩ (.slice A' m' c')) b' qs':=by
 obtain ⟨xs,h1,h2,hx,h3⟩:=h
 obtain ⟨ys,g1,g2,gx,g3⟩:=h'
 refine ⟨ys,((g1.far (p:=⟨b,i * 3,none⟩) hb _).far (p:=⟨b,i * 3 + 1,none⟩) hb _).far (p:=⟨b,i * 3 + 2,none⟩) hb _,g2,gx,fun j r hr=>?_⟩
 obtain ⟨s1,A1,m1,c1,A1',m1',c1',e0,e1,e2,e3⟩:=g3 j r hr
 exact ⟨s1,A1,m1,c1,A1',m1',c1',e0,e1,e2,e3.put3 h1 hx _ _ _ _ _ _ _ _⟩
theorem FArk.mono {k':Nat} (h:FArk k w b qs)(hk:k <= k'):FArk k' w b qs:=by
 obtain ⟨xs,h1,h2,hx,h3⟩:=h
 refine ⟨xs,h1,h2,hx,fun i q hq=>?_⟩
 obtain ⟨s,A,m,c,A',m',c',e0,e1,e2,e3⟩:=h3 i q hq
 exact ⟨s,A,m,c,A',m',c',e0,e1,e2,e3.mono hk⟩
theorem FArr.zeros {base n:Nat} (h:FArr base w b (List.replicate n 0))(hk:0 < k) (hk':k <= 17592186044416):FArk k w b (List.replicate n 0):=by
 obtain ⟨_,xs,h1,h2,h3⟩:=h
 refine ⟨xs,h1,h2,fun x hx=>?_,fun i q hq=>?_⟩
 ·obtain ⟨j,hj,rfl⟩:=List.getElem_of_mem hx
  rw [List.length_replicate] at h2
  obtain ⟨A,m,c,A',m',c',e0,e1,e2,_⟩:=h3 (j / 3) 0 (by rw [List.getElem?_replicate_of_lt (by omega)])
  rcases (show j = j / 3 * 3 ∨ j = j / 3 * 3 + 1 ∨ j = j / 3 * 3 + 2 by omega) with h | h | h
  ·rw [<- h,List.getElem?_eq_getElem hj] at e0; injection e0 with e0; rw [e0]; trivial
  ·rw [<- h,List.getElem?_eq_getElem hj] at e1; injection e1 with e1; rw [e1]; trivial
  rw [<- h,List.getElem?_eq_getElem hj] at e2; injection e2 with e2; rw [e2]; trivial
 obtain ⟨A,m,c,A',m',c',e0,e1,e2,e3⟩:=h3 i q hq
 have hq0:q = 0:=List.eq_of_mem_replicate (List.mem_of_getElem? hq)
 exact ⟨_,A,m,c,A',m',c',e0,e1,e2,e3.at_.frac (by rw [hq0]; exact qb_nat (n:=0) (Nat.pow_pos (by omega)) hk) hk'⟩
end
end
section
open Go.RowKit
end
def Dn (E M:Nat) (q:Rat):Prop:=∃ z:Int,z.natAbs <= M/\q = mkRat z E
theorem Dn.mono {E M M':Nat} {q:Rat} (h:Dn E M q)(hm:M <= M'):Dn E M' q:=by
 obtain ⟨z,h1,h2⟩:=h
 exact ⟨z,by omega,h2⟩
theorem Dn.zero (E M:Nat):Dn E M 0:=⟨0,by simp,by simp⟩
theorem Dn.mul {E F M N:Nat} {q r:Rat} (h:Dn E M q) (h':Dn F N r):Dn (E * F) (M * N) (q * r):=by
 obtain ⟨z,h1,rfl⟩:=h
 obtain ⟨y,h3,rfl⟩:=h'
 refine ⟨z * y,?_,Rat.mkRat_mul_mkRat _ _ _ _⟩
 rw [Int.natAbs_mul]
 exact Nat.mul_le_mul h1 h3
theorem Dn.add {E M N:Nat} {q r:Rat} (h:Dn E M q) (h':Dn E N r)(hE:0 < E):Dn E (M + N) (q + r):=by
 obtain ⟨z,h1,rfl⟩:=h
 obtain ⟨y,h3,rfl⟩:=h'
 refine ⟨z + y,by omega,?_⟩
 rw [Rat.mkRat_add_mkRat _ _ (by omega) (by omega),<- Int.add_mul,Rat.mkRat_mul_right (by omega)]
theorem Dn.qb {E M k:Nat} {q:Rat} (h:Dn E M q)(hE:0 < E)(h1:E < 2 ^ k)(h2:M < 2 ^ k):QB k q:=by
 obtain ⟨z,h3,rfl⟩:=h
 have e:z = sgn (decide (z < 0)) z.natAbs:=by
  unfold sgn
  by_cases hz:z < 0
  ·rw [if_pos (by simpa using hz)]
   omega
  rw [if_neg (by simpa using hz)]
  omega
 rw [e]
 exact QB.red (by omega) h1 hE
def denP (qs:List Rat):Nat:=qs.foldr (fun q d=>q.den * d) 1
theorem denP_pos (qs:List Rat):0 < denP qs:=by
 induction qs with
 | nil=>simp [denP]
 | cons q qs ih=>exact Nat.mul_pos q.den_pos ih
theorem den_dvd {qs:List Rat} {q:Rat} (h:q ∈ qs):q.den ∣ denP qs:=by
 induction qs with
 | nil=>simp at h
 | cons x qs ih =>
  rcases List.mem_cons.1 h with rfl | h
  ·exact Nat.dvd_mul_right _ _
  exact Nat.dvd_trans (ih h) (Nat.dvd_mul_left _ _)
theorem Dn.of_mem {k:Nat} {qs:List Rat} {q:Rat} (h:q ∈ qs)(hq:QB k q):Dn (denP qs) (denP qs * 2 ^ k) q:=by
 obtain ⟨c,hc⟩:=den_dvd h
 have hp:=denP_pos qs
 have hc0:c ≠ 0:=by
  intro e
  rw [e,Nat.mul_zero] at hc
  omega
 refine ⟨c * q.num,?_,?_⟩
 ·rw [Int.natAbs_mul,Int.natAbs_natCast]
  exact Nat.mul_le_mul (by rw [hc]; exact Nat.le_mul_of_pos_left _ q.den_pos) (Nat.le_of_lt hq.1)
 rw [hc,Nat.mul_comm q.den c,Rat.mkRat_mul_left hc0]
 exact (Rat.mkRat_self q).symm

end Go.Proofs.YtdehimgccmbfkaaGreat
