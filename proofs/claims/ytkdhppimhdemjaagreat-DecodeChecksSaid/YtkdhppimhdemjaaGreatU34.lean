/- Lemmas on the way: Sn1, Ov1, FArr, Gg1, FArk, Gg3, Db, Fol, FRow, Fl1, RwQ, Sn2, Ct1. -/
import Derived.Test.YtkdhppimhdemjaaGreatU32
import Derived.Test.YtkdhppimhdemjaaGreatU33
import Derived.Maps.OwnSet
import Derived.Deep.DrawnRows
set_option linter.all false
set_option maxRecDepth 1000000
set_option maxHeartbeats 32000000
namespace Go.Proofs.YtkdhppimhdemjaaGreat
open Go.RowKit
def d9 (w:World) (mv:Value) (L:List (Int × Int)):Prop:=(mv = .map none/\L = []) ∨ ∃ b,mv = .map (some b)/\bO (Value.int .i64) (Value.int .i64) w 3 b L
theorem d9.below {w w':World} {mv:Value} {L:List (Int × Int)} (h:d9 w mv L)(hb:Below w.heap.size w w'):d9 w' mv L:=by
 rcases h with ⟨h1,h2⟩ | ⟨b,h1,h2⟩
 ·exact .inl ⟨h1,h2⟩
 exact .inr ⟨b,h1,h2.below hb⟩

theorem gZ.none_ {w:World} {b base n:Nat} {S:List (List Int × Int)} {outer:List (List Int × Nat)} (h:gZ w b base n S outer) {T:List Int->Int} (hC:g8 S T) {hs:List Int} (hl:hs.length = n - 1)(hn:bq outer hs = none):yv [] (fun x=>T (hs ++ [x])):=by
 refine FV fun x=>?_
 by_cases h0:T (hs ++ [x]) = 0
 ·exact h0
 exfalso
 have h1:=h.2.2.2.2.2.1 _ (hC.mem h0)
 simp only at h1
 rw [<- hl,List.take_left] at h1
 obtain ⟨e,he,he2⟩:=List.mem_map.1 h1
 have h2:=e9 h.1.nodup he
 rw [he2,hn] at h2
 cases h2
theorem Cj (L:List (Int × Int)) (e:Int × Int):iT (L ++ [e]) = iT L + e.2:=by
 unfold iT
 rw [List.map_append,List.sum_append]
 simp
def n5 (L:List (Int × Int)) (vis:List Nat):List (Int × Int):=vis.map fun i=>L.getD i (0,0)
theorem B8 (L:List (Int × Int)) (vis:List Nat) {j:Nat} {e:Int × Int} (h:L[j]? = some e):n5 L (vis ++ [j]) = n5 L vis ++ [e]:=by
 unfold n5
 rw [List.map_append,List.map_singleton,List.getD_eq_getElem?_getD,h]
 rfl
theorem Cb {L:List (Int × Int)} {vis:List Nat} (hn:vis.Nodup)(hv:∀ i ∈ vis,i < L.length)(hall:∀ j,j < L.length->j ∈ vis):(n5 L vis).Perm L:=by
 have hp:vis.Perm (List.range L.length):=(List.perm_ext_iff_of_nodup hn List.nodup_range).2 (fun a=>⟨fun h=>List.mem_range.2 (hv a h),fun h=>hall a (List.mem_range.1 h)⟩)
 have h1:=hp.map (fun i=>L.getD i (0,0))
 have h2:(List.range L.length).map (fun i=>L.getD i (0,0)) = L:=by
  apply List.ext_getElem?
  intro i
  rw [List.getElem?_map]
  by_cases hi:i < L.length
  ·rw [List.getElem?_range hi,List.getElem?_eq_getElem hi]
   simp [List.getD_eq_getElem?_getD,hi]
  rw [List.getElem?_eq_none_iff.2 (by simpa using hi),List.getElem?_eq_none_iff.2 (by omega)]
  rfl
 rw [h2] at h1
 exact h1

theorem MV (w:World) (O n:Nat) (b:Nat) (wd:Int)(hv:Value) (gs:List Gr)(h:List Int)(hL:gc w b O 0 gs)(hn:1 <= n/\n <= O)(hO:O <= 4)(hi:aU w hv h)(hl:h.length = n - 1)(hk:fC h) :
  Calls Tryz.prog 338 #[.agg #[.slice (some ⟨b,0,none⟩) (O + 1) (O + 1),.int .i64 wd],.int .i64 n,hv] w fun e w'=>∃ mv L,e = .returned (.tuple #[mv,.int .i64 (iT L)])/\d9 w' mv L/\yv L (fun x=>tot (O - n) gs (h ++ [x]))/\(iT L <= 429496729600000000/\∀ e ∈ L,e.2 <= 21474836480000)/\Below w.heap.size w w':=by
 obtain ⟨xs,hx1,hx2,hx3⟩:=hL
 obtain ⟨bj,base,S,e,hlv,hS,hC,hSl⟩:=hx3 n (by omega) hn.2
 have c0:w.cell? ⟨b,n,none⟩ = some (.map (some bj)):=(hx1.cell n).trans e
 have hb:b < w.heap.size:=hx1.lt
 have j1:(0:Int) <= (n:Int):=by omega
 have j2:(n:Int) < (O:Int) + 1:=by omega
 obtain ⟨outer,hlo⟩:=hlv
 have HLO:=Lib.hid hlo
 have HS:=Lib.hid hS
 have HC:=Lib.hid hC
 have HI:=Lib.hid hi
 have HK:=Lib.hid hk
 clear hx1 hx2 hx3 e hlo hS hC hi hk
 go_enter Tryz.func338,Tryz.ntmps338
 go_wp2_with fail
 obtain ⟨W,hW,P0,PB,Phs⟩:=eU w 352 [.slice (some ⟨b,0,none⟩) (O + 1) (O + 1),.int .i64 wd]
 rw [<- hW]
 clear hW
 have p0:=P0.out.cell 0
 have p1:=P0.out.cell 1
 simp only [List.getElem?_cons_zero,List.getElem?_cons_succ] at p0 p1
 have c1:=(PB.out.cell (p:=⟨b,n,none⟩) hb).trans c0
 go_upto_region 1 with fail
 go_cut [8] (fun mv wc=>mv = (bq outer h).elim (.map none) Gd/\Hid (Below w.heap.size w wc))
 case first =>
  go_region_with (first
   | (go_at_call 293; refine (Fb _ _ _ (HI.out.below (PB.out.trans (ak _))) HK.out.1 (fun z hz=>by have:=HK.out.2 z hz; omega)).mono ?_; rintro e w2 ⟨rfl,hb2'⟩; have hb2:=ah hb2'; have B2:=Lib.hid (aa PB.out hb2); have hlook:=(HLO.out.below B2.out).look HK.out; have c2:=(B2.out.cell (p:=⟨b,n,none⟩) hb).trans c0; have q0:=(P0.out.below' hb2).cell 0; have q1:=(P0.out.below' hb2).cell 1; simp only [List.getElem?_cons_zero,List.getElem?_cons_succ] at q0 q1; clear hb2 hb2'))
  all_goals
   go_wp2_with fail
   go_meet
   exact ⟨rfl,B2⟩
 obtain ⟨rfl,B2⟩:=hcut
 have O2:=Lib.hid (HLO.out.below B2.out)
 cases hlk:bq outer h with
 | none =>
  have HE:=Lib.hid (HLO.out.none_ HC.out hl hlk)
  simp only [Option.elim_none]
  clear hlk p0 p1 c1
  have hrn:=r8 (P:=Tryz.prog) wc 402 3 3 Tryz.underlying402
  go_wp2_with fail
  go_loopg [9,11] 0 (fun _ s9 _ wz=>s9 = .int .i64 0/\Hid (wz.heap[wc.heap.size]? = some (.mapIter none 0 #[] 0))/\Hid (Below w.heap.size w wz))
  case atStart=>exact ⟨rfl,Lib.hid (World.alloc_heap_new _ _),Lib.hid (B2.out.trans (((Below.refl _ wc).alloc (Nat.le_refl _) _).mono B2.out.size))⟩
  obtain ⟨rfl,I3,B3⟩:=hrel
  have hnx:=uI (P:=Tryz.prog) 0 I3.out
  go_wp2_with fail
  go_ret2
  exact ⟨_,[],rfl,.inl ⟨rfl,rfl⟩,HE.out,⟨by simp [iT],fun e he=>by cases he⟩,B3.out⟩
 | some bi =>
  have hm:=cN hlk
  have HT:=Lib.hid (O2.out.2.2.2.2.1 _ hm)
  have HCI:=Lib.hid (ze (h:=h) HS.out HC.out (by omega) hl)
  have HLE:Hid ((cU n S h).length <= 20000/\∀ e ∈ cU n S h,0 < e.2/\e.2 <= 21474836480000):=Lib.hid ⟨by
   unfold cU
   rw [List.length_map]
   exact Nat.le_trans (List.length_filter_le _ _) hSl,fun e he=>by
    have h1:=HS.out.2 _ (mi HS.out (by omega) (x:=e.1) (c:=e.2) he)
    exact h1.2.2⟩
  simp only [Option.elim_some,Gd]
  generalize cU n S h = L at *
  clear hlk p0 p1 c1 hm hSl
  have s2:w.heap.size <= wc.heap.size:=B2.out.size
  go_wp2_with (refine jP rfl _ _ rfl 3 3 Tryz.underlying402 bi _ rfl HT.out ?_)
  intro w4 hm4 hi4 hb4 hs4
  have I4:Hid (b8 w4 wc.heap.size bi L.length []):=Lib.hid (by simpa [ft] using hi4)
  have M4:Hid (bO (Value.int .i64) (Value.int .i64) w4 3 bi L):=Lib.hid hm4
  have B4:Hid (Below w.heap.size w w4):=Lib.hid (B2.out.trans (hb4.mono s2))
  clear hm4 hi4 hb4 hs4
  go_wp2_with fail
  go_loopg [9,11] L.length (fun gh s9 _ wz=>∃ vis:List Nat,s9 = .int .i64 (iT (n5 L vis))/\vis.length + gh = L.length/\Hid (vis.Nodup/\∀ i ∈ vis,i < L.length)/\Hid (0 <= iT (n5 L vis)/\iT (n5 L vis) <= vis.length * 21474836480000)/\Hid (b8 wz wc.heap.size bi L.length vis)/\Hid (bO (Value.int .i64) (Value.int .i64) wz 3 bi L)/\Hid (Below w.heap.size w wz))
  case atStart=>exact ⟨[],rfl,by simp,Lib.hid ⟨List.nodup_nil,fun i hi=>by cases hi⟩,Lib.hid ⟨by simp [n5,iT],by simp [n5,iT]⟩,I4,M4,B4⟩
  clear I4 M4 B4
  obtain ⟨vis,rfl,hvl,VIS,SB,I4,M4,B4⟩:=hrel
  have I5:Hid (b8 wr wc.heap.size bi (ft (Value.int .i64) (Value.int .i64) L).length vis):=Lib.hid (by simpa [ft] using I4.out)
  go_wp2_with (refine lJ rfl _ rfl 3 bi wc.heap.size (ft (Value.int .i64) (Value.int .i64) L) vis rfl M4.out I5.out ?done ?more)
  case done =>
   intro hdone
   have HPM:=Lib.hid (Cb VIS.out.1 VIS.out.2 (fun j hj=>hdone j (by simpa [ft] using hj)))
   have HSE:Hid (iT (n5 L vis) = iT L):=Lib.hid (by unfold iT; exact vW (HPM.out.map _))
   clear hdone I5
   rw [HSE.out]
   go_wp2_with fail
   go_ret2
   exact ⟨_,L,rfl,.inr ⟨bi,rfl,M4.out⟩,HCI.out,⟨by have h1:=SB.out.2; rw [HSE.out] at h1; have h2:=HLE.out.1; omega,fun e he=>(HLE.out.2 e he).2⟩,B4.out⟩
  case more =>
   intro i xk xv w5 hx hiv hm5 hi5 hent hg5 hs5
   rw [kC] at hx
   obtain ⟨e,he,rfl,rfl⟩:∃ e,L[i]? = some e/\Value.int .i64 e.1 = xk/\Value.int .i64 e.2 = xv:=by
    cases h:L[i]? with
    | none=>rw [h] at hx; cases hx
    | some e=>rw [h] at hx; simp only [Option.map_some,Option.some.injEq,Prod.mk.injEq] at hx; exact ⟨e,rfl,hx.1,hx.2⟩
   have hil:=(List.getElem?_eq_some_iff.1 he).1
   have heb:=HLE.out.2 e (List.mem_of_getElem? he)
   have VIS5:Hid ((vis ++ [i]).Nodup/\∀ k ∈ vis ++ [i],k < L.length):=Lib.hid ⟨List.nodup_append.2 ⟨VIS.out.1,by simp,fun a ha b hb e=>by simp at hb; subst hb; subst e; exact hiv ha⟩,fun k hk=>by rcases List.mem_append.1 hk with hk | hk; exact VIS.out.2 k hk; rw [List.mem_singleton.1 hk]; exact hil⟩
   have hgk:0 < gk:=by have:=wQ VIS5.out.1 VIS5.out.2; rw [List.length_append,List.length_singleton] at this; omega
   have HSN:Hid (iT (n5 L (vis ++ [i])) = iT (n5 L vis) + e.2):=Lib.hid (by rw [B8 L vis he,Cj])
   have J5:Hid (b8 w5 wc.heap.size bi L.length (vis ++ [i])):=Lib.hid (by simpa [ft] using hi5)
   have M5:Hid (bO (Value.int .i64) (Value.int .i64) w5 3 bi L):=Lib.hid hm5
   have B5:Hid (Below w.heap.size w w5):=Lib.hid (B4.out.grown hg5 B4.out.size (fun k e=>by cases e; exact s2))
   have hsb:=SB.out
   have hl2:vis.length < 20000:=by have:=HLE.out.1; omega
   obtain ⟨u,hu⟩:∃ u,iT (n5 L vis) = u:=⟨_,rfl⟩
   rw [hu] at hsb HSN ⊢
   clear hx hm5 hi5 hg5 hs5 he hu SB I5 I4 M4
   obtain ⟨ex,ec⟩:=e
   simp only at hent heb HSN
   have hb1:u + ec <= 9223372036854775807:=by omega
   have hb2:-9223372036854775808 <= u + ec:=by omega
   go_wp2_with fail
   go_roundg (gk - 1)
   case measure=>omega
   case rel=>exact ⟨vis ++ [i],by rw [HSN.out],by rw [List.length_append,List.length_singleton]; omega,VIS5,Lib.hid (by rw [HSN.out,List.length_append,List.length_singleton]; omega),J5,M5,B5⟩
theorem M8 (w:World) (v v':Value) (q r:Rat) (k:Nat)(h:az k w v q) (h':az k w v' r)(h0:0 < k)(hk:k <= 549755813888)(hr:r ≠ 0) :
  Calls Tryz.prog 341 #[v,v'] w fun e w'=>∃ u,e = .returned u/\ay w.heap.size w' u (q / r)/\Below w.heap.size w w':=by
 have H1:=Lib.hid h
 have H2:=Lib.hid h'
 have HR:=Lib.hid hr
 obtain ⟨s,vn,vd,rfl⟩:=h.shape
 obtain ⟨t,vn',vd',rfl⟩:=h'.shape
 clear h h' hr
 go_enter Tryz.func341,Tryz.ntmps341
 go_wp2_with fail
 obtain ⟨W,hW,P0,P1,P2,PB,Phs⟩:=box3 w 30 [.bool s,vn,vd] 30 [.bool t,vn',vd'] 30 [.bool false,.slice none 0 0,.slice none 0 0]
 rw [<- hW]
 clear hW
 obtain ⟨p0,p1,p2,_,_,_⟩:=P0.out.three
 obtain ⟨q0,q1,q2,_,_,_⟩:=P1.out.three
 go_wp2_with fail
 refine (OE W _ _ q r k (H1.out.below PB.out) (H2.out.below PB.out) h0 hk HR.out).mono ?_
 rintro e w1 ⟨u,rfl,t1,hb1⟩
 obtain ⟨A,m,c,A',m',c',rfl,ta,tb,tc,td⟩:=t1.open_
 have T1:=Lib.hid t1
 have P2':=Lib.hid (P2.out.below' hb1)
 have B1:=Lib.hid (PB.out.trans (hb1.mono (by omega)))
 have s1:w.heap.size + 3 <= w1.heap.size:=Nat.le_trans Phs hb1.size
 have TA:=Lib.hid ta
 have TB:=Lib.hid tb
 have TC:=Lib.hid tc
 have TD:=Lib.hid td
 clear p0 p1 p2 q0 q1 q2 ta tb tc td t1 hb1
 go_upto_region 2 with fail
 obtain ⟨W2,hW2,G0,GB,Ghs⟩:=eU w1 30 [.bool (ap (q / r)),.slice A m c,.slice A' m' c']
 rw [<- hW2]
 clear hW2
 obtain ⟨g0,g1,g2,_,_,_⟩:=G0.out.three
 obtain ⟨r0,r1,r2,z0,z1,z2⟩:=(P2'.out.below' GB.out).three
 have B2:=Lib.hid (B1.out.trans (GB.out.mono (by omega)))
 have UA:=Lib.hid (TA.out.below GB.out)
 have UB:=Lib.hid (TB.out.below GB.out)
 go_wp2_with fail
 refine bodyPost_ret (v:=.agg #[.bool (ap (q / r)),.slice A m c,.slice A' m' c']) (by simp [results,Tryz.results341,go_sem,r0,r1,r2]) rfl ⟨_,rfl,?_,ar B2.out (by omega) _ _ _⟩
 exact (ay.box3 UA.out UB.out TC.out TD.out (by omega) _ _ _).mono (by omega)
section
theorem Fi:(Tryz.prog.info? 30).map (fun i=>(i.zero,i.size,i.bytes)) = some (some (.agg #[.bool false,.slice none 0 0,.slice none 0 0]),3,56):=by kernel_rfl

def GS (base:Nat) (w:World) (b:Nat) (qs:List Rat):Prop:=b < base/\∃ xs,bw w b 30 xs/\xs.length = qs.length * 3 /\
 ∀ (i:Nat) (q:Rat),qs[i]? = some q->∃ A m c A' m' c',xs[i * 3]? = some (.bool (ap q))/\xs[i * 3 + 1]? = some (.slice A m c)/\xs[i * 3 + 2]? = some (.slice A' m' c')/\ay base w (.agg #[.bool (ap q),.slice A m c,.slice A' m' c']) q
section
variable {base:Nat} {w w':World} {b:Nat} {qs:List Rat}
theorem GS.get (h:GS base w b qs) {i:Nat} {q:Rat} (hq:qs[i]? = some q):∃ A m c A' m' c',w.cell? ⟨b,i * 3,none⟩ = some (.bool (ap q))/\w.cell? ⟨b,i * 3 + 1,none⟩ = some (.slice A m c)/\w.cell? ⟨b,i * 3 + 2,none⟩ = some (.slice A' m' c') /\
  w.frozen? ⟨b,i * 3,none⟩ = false/\w.frozen? ⟨b,i * 3 + 1,none⟩ = false/\w.frozen? ⟨b,i * 3 + 2,none⟩ = false/\ay base w (.agg #[.bool (ap q),.slice A m c,.slice A' m' c']) q:=by
 obtain ⟨_,xs,h1,_,h3⟩:=h
 obtain ⟨A,m,c,A',m',c',e0,e1,e2,e3⟩:=h3 i q hq
 exact ⟨A,m,c,A',m',c',(h1.cell _).trans e0,(h1.cell _).trans e1,(h1.cell _).trans e2,h1.frozen _,h1.frozen _,h1.frozen _,e3⟩
theorem Nj (x y z:Value) (n i:Nat)(h:i < n):(madeCells #[x,y,z] (n * 3)).toList[i * 3]? = some x/\(madeCells #[x,y,z] (n * 3)).toList[i * 3 + 1]? = some y/\(madeCells #[x,y,z] (n * 3)).toList[i * 3 + 2]? = some z:=by
 have key:∀ j,j < n * 3->(madeCells #[x,y,z] (n * 3)).toList[j]? = some (#[x,y,z][j % 3]!):=by
  intro j hj
  simp [madeCells,hj]
 refine ⟨?_,?_,?_⟩
 ·rw [key _ (by omega),show i * 3 % 3 = 0 by omega]; rfl
 ·rw [key _ (by omega),show (i * 3 + 1) % 3 = 1 by omega]; rfl
 rw [key _ (by omega),show (i * 3 + 2) % 3 = 2 by omega]; rfl
theorem mM {ops:Array Oper} {rest:List Oper} {o:Oper} {a:Act} {Q:Exit->Act->World->Prop} (hg:o.guard = none) (l c:Operand)(hop:o.op = Op.makeSlice 31 l c)
  (L:Int) (n:Nat) (hl:a.eval l = .int .i64 L) (hc:a.eval c = .int .i64 L) (hL:L = (n:Int)) (hn:n <= 1000000)
  (hK:∀ w',GS (w.heap.size + 1) w' w.heap.size (List.replicate n (0:Rat))->Below w.heap.size w w'->wpList Tryz.prog ops Q rest (a.put o.dst (.slice (some ⟨w.heap.size,0,none⟩) n n)) w') :
  wpList Tryz.prog ops Q (o :: rest) a w:=by
 obtain ⟨i0,h2,h3,h4,h5⟩:=info_parts Fi
 refine wpList_make_full w hg l c 31 hop w.heap.size 30 i0 _ 3 Tryz.underlying31 h2 h3 h4 .i64 .i64 L L n hl hc hL hL (by rw [h5]; omega) (by unfold maxLen; omega) (Nat.le_refl _) fun w' hown hgr=>?_
 refine hK w' ?_ ((Below.refl _ w).grown hgr (Nat.le_refl _) (by simp))
 obtain ⟨hl0,h | ⟨g,cap,cur,hv,_,hh,hn',_,hsz,ht⟩⟩:=hown
 ·cases h.1
 injection hv with hv1 hv2 hv3
 injection hv1 with hv1
 injection hv1 with hv1
 subst hv1
 subst hv3
 refine ⟨by omega,cur.toList,hh,?_,?_⟩
 ·rw [List.length_replicate]
  simpa using hsz
 intro i q hq
 have hi:i < n:=by have:=(List.getElem?_eq_some_iff.1 hq).1; simpa using this
 have hq0:q = 0:=by rw [List.getElem?_replicate_of_lt hi] at hq; exact (Option.some.inj hq).symm
 subst hq0
 have hm:=Nj (.bool false) (.slice none 0 0) (.slice none 0 0) n i hi
 have hcl:(Value.agg #[.bool false,.slice none 0 0,.slice none 0 0]).cells = #[.bool false,.slice none 0 0,.slice none 0 0]:=rfl
 rw [hcl] at ht
 rw [List.take_of_length_le (by simp at hsz ⊢; omega)] at ht
 rw [ht]
 exact ⟨none,0,0,none,0,0,by rw [hm.1]; rfl,hm.2.1,hm.2.2,ay.zero_ _ _⟩
end
end
theorem az.cells3 {k:Nat} {w:World} {a b c:Value} {q:Rat} (h:az k w (.agg #[a,b,c]) q):∃ s A n cn A' n' cn',a = .bool s/\b = .slice A n cn/\c = .slice A' n' cn':=by
 obtain ⟨neg,vn,vd,ln,ld,e,hn,hd,_⟩:=h
 obtain ⟨_,An,cn,rfl,_⟩:=hn.open_
 obtain ⟨_,Ad,cd,rfl,_⟩:=hd.open_
 injection e with e
 have e':[a,b,c] = [.bool neg,.slice An ln.length cn,.slice Ad ld.length cd]:=congrArg Array.toList e
 simp only [List.cons.injEq,and_true] at e'
 obtain ⟨rfl,rfl,rfl⟩:=e'
 exact ⟨_,_,_,_,_,_,_,rfl,rfl,rfl⟩
section
def dD:Value->Prop
 | .bool _=>True
 | .slice _ _ _=>True
 | _=>False
theorem bW.offBlk {w:World} {v:Value} {l:List Nat} {b:Nat} {e:TypeId} {xs:List Value} (h:bW w v l)(hb:bw w b e xs)(hx:∀ x ∈ xs,dD x):rZ v b:=by
 obtain ⟨⟨h0,A,c,rfl,_,_,h5⟩,_⟩:=h
 intro ad n' c' e' hn
 cases e'
 obtain ⟨b',off,e',_,hc⟩:=h5 hn
 cases e'
 simp only
 intro hbb
 subst hbb
 cases l with
 | nil=>simp at hn
 | cons d l =>
  have h1:=hc 0 (dg d) rfl
  rw [hb.cell] at h1
  exact hx _ (List.mem_of_getElem? h1)
theorem az.setOff {k:Nat} {w:World} {a b c:Value} {q:Rat} (h:az k w (.agg #[a,b,c]) q) {p:Addr} (h1:rZ b p.block)(h2:rZ c p.block) (u:Value):az k (w.setCell p u) (.agg #[a,b,c]) q:=by
 obtain ⟨s,vn,vd,ln,ld,e,hn,hd,hr⟩:=h
 injection e with e
 have e':[a,b,c] = [.bool s,vn,vd]:=congrArg Array.toList e
 simp only [List.cons.injEq,and_true] at e'
 obtain ⟨rfl,rfl,rfl⟩:=e'
 exact ⟨s,_,_,ln,ld,rfl,⟨hn.1.setOff h1 u,hn.2⟩,⟨hd.1.setOff h2 u,hd.2⟩,hr⟩
theorem az.digs {k:Nat} {w:World} {a b c:Value} {q:Rat} (h:az k w (.agg #[a,b,c]) q):∃ ln ld,bW w b ln/\bW w c ld:=by
 obtain ⟨s,vn,vd,ln,ld,e,hn,hd,hr⟩:=h
 injection e with e
 have e':[a,b,c] = [.bool s,vn,vd]:=congrArg Array.toList e
 simp only [List.cons.injEq,and_true] at e'
 obtain ⟨rfl,rfl,rfl⟩:=e'
 exact ⟨ln,ld,hn,hd⟩

def vJ (k:Nat) (w:World) (b:Nat) (qs:List Rat):Prop:=∃ xs,bw w b 30 xs/\xs.length = qs.length * 3/\(∀ x ∈ xs,dD x) /\
 ∀ (i:Nat) (q:Rat),qs[i]? = some q->∃ s A m c A' m' c',xs[i * 3]? = some (.bool s)/\xs[i * 3 + 1]? = some (.slice A m c)/\xs[i * 3 + 2]? = some (.slice A' m' c')/\az k w (.agg #[.bool s,.slice A m c,.slice A' m' c']) q
section
variable {k:Nat} {w w':World} {b:Nat} {qs:List Rat}
theorem vJ.lt (h:vJ k w b qs):b < w.heap.size:=by
 obtain ⟨xs,hb,_⟩:=h
 exact hb.lt
theorem vJ.get (h:vJ k w b qs) {i:Nat} {q:Rat} (hq:qs[i]? = some q):∃ s A m c A' m' c',w.cell? ⟨b,i * 3,none⟩ = some (.bool s)/\w.cell? ⟨b,i * 3 + 1,none⟩ = some (.slice A m c)/\w.cell? ⟨b,i * 3 + 2,none⟩ = some (.slice A' m' c') /\
  w.frozen? ⟨b,i * 3,none⟩ = false/\w.frozen? ⟨b,i * 3 + 1,none⟩ = false/\w.frozen? ⟨b,i * 3 + 2,none⟩ = false/\az k w (.agg #[.bool s,.slice A m c,.slice A' m' c']) q:=by
 obtain ⟨xs,h1,_,_,h3⟩:=h
 obtain ⟨s,A,m,c,A',m',c',e0,e1,e2,e3⟩:=h3 i q hq
 exact ⟨s,A,m,c,A',m',c',(h1.cell _).trans e0,(h1.cell _).trans e1,(h1.cell _).trans e2,h1.frozen _,h1.frozen _,h1.frozen _,e3⟩
theorem az.setBlk {e:TypeId} {xs:List Value} {x y z:Value} {q:Rat} (h:az k w (.agg #[x,y,z]) q)(hb:bw w b e xs)(hx:∀ x ∈ xs,dD x) (o:Nat) (u:Value):az k (w.setCell ⟨b,o,none⟩ u) (.agg #[x,y,z]) q:=by
 obtain ⟨ln,ld,h1,h2⟩:=h.digs
 exact h.setOff (p:=⟨b,o,none⟩) (h1.offBlk hb hx) (h2.offBlk hb hx) u
theorem cM {xs:List Value} (hx:∀ x ∈ xs,dD x) (i:Nat) {u:Value} (hu:dD u):∀ x ∈ xs.set i u,dD x:=by
 intro x h
 rcases List.mem_or_eq_of_mem_set h with h | rfl
 ·exact hx x h
 exact hu
theorem vJ.mono {k':Nat} (h:vJ k w b qs)(hk:k <= k'):vJ k' w b qs:=by
 obtain ⟨xs,h1,h2,hx,h3⟩:=h
 refine ⟨xs,h1,h2,hx,fun i q hq=>?_⟩
 obtain ⟨s,A,m,c,A',m',c',e0,e1,e2,e3⟩:=h3 i q hq
 exact ⟨s,A,m,c,A',m',c',e0,e1,e2,e3.mono hk⟩
end
end
end Go.Proofs.YtkdhppimhdemjaaGreat

namespace Go.Proofs.YtkdhppimhdemjaaGreat
open Go.RowKit
def Dn (E M:Nat) (q:Rat):Prop:=∃ z:Int,z.natAbs <= M/\q = mkRat z E
theorem Dn.mono {E M M':Nat} {q:Rat} (h:Dn E M q)(hm:M <= M'):Dn E M' q:=by
 obtain ⟨z,h1,h2⟩:=h
 exact ⟨z,by omega,h2⟩
end Go.Proofs.YtkdhppimhdemjaaGreat

namespace Go.Proofs.YtkdhppimhdemjaaGreat
open Go.RowKit
def NR (K:Nat) (w:World) (b cur Ln p t:Nat) (R:Nat->List Rat) (part:List Rat):Prop:=∃ xs,bw w b 31 xs/\xs.length = p + 1/\(∀ x ∈ xs,dD x)/\xs[t]? = some (.slice (some ⟨cur,0,none⟩) Ln Ln)/\b < cur/\vJ K w cur part /\
 ∀ j,t + 1 <= j->j <= p->∃ rb,xs[j]? = some (.slice (some ⟨rb,0,none⟩) Ln Ln)/\b < rb/\rb < cur/\vJ K w rb (R j)
theorem NR.cell {K:Nat} {w:World} {b cur Ln p t:Nat} {R:Nat->List Rat} {part:List Rat} (h:NR K w b cur Ln p t R part):w.cell? ⟨b,t,none⟩ = some (.slice (some ⟨cur,0,none⟩) Ln Ln)/\cur < w.heap.size/\b < w.heap.size:=by
 obtain ⟨xs,h1,h2,h3,h4,h5,h6,_⟩:=h
 exact ⟨(h1.cell t).trans h4,h6.lt,h1.lt⟩
end Go.Proofs.YtkdhppimhdemjaaGreat

namespace Go.Proofs.YtkdhppimhdemjaaGreat
open Go.RowKit
def Dy (C:Int->Int):Prop:=∀ x,0 <= C x/\C x <= 21474836480000
theorem Cm (C:Int->Int) (v:Nat):pI C (v + 1) = pI C v + C ((v + 1:Nat):Int):=by
 unfold pI
 rw [List.range_succ,List.map_append,List.sum_append]
 simp
theorem Ck (C:Int->Int):pI C 0 = C 0:=by
 unfold pI
 simp
theorem Aj {C:Int->Int} (h:Dy C) (v:Nat):0 <= pI C v/\pI C v <= ((v + 1:Nat):Int) * 21474836480000:=by
 induction v with
 | zero=>rw [Ck]; have:=h 0; omega
 | succ v ih=>rw [Cm]; have:=h ((v + 1:Nat):Int); omega
theorem yS {k:Nat} {z:Int} (h:z.natAbs < 2 ^ k)(hk:0 < k):QB k (z:Rat):=⟨by simpa using h,by simpa using Nat.one_lt_two_pow (n:=k) (by omega)⟩
theorem Dy.qb {C:Int->Int} (h:Dy C) (x:Int):QB 64 (C x:Rat):=yS (by have:=h x; omega) (by omega)
theorem Dy.qbsum {C:Int->Int} (h:Dy C) {v:Nat} (hv:v <= 8):QB 64 (pI C v:Rat):=yS (by have:=Aj h v; omega) (by omega)

def Og (C:Int->Int) (v:Nat) (p:Rat) (x:Nat):Rat:=((C x:Rat) + (Fa C v:Rat) * p) / ((pI C v + Fa C v:Int):Rat)
theorem Eh {gs:List (List Int × Int)} (hg:∀ g ∈ gs,0 < g.2/\g.2 <= 1073741824)(hl:gs.length <= 20000) (d:Nat)(h:List Int):Dy (fun x=>tot d gs (h ++ [x])):=by
 intro x
 have h1:=o5 (p:=fun y=>y.drop d == h ++ [x]) (gs:=gs) (fun g hh=>Int.le_of_lt (hg g hh).1)
 have h2:=Ai (p:=fun y=>y.drop d == h ++ [x]) (gs:=gs) (M:=1073741824) (fun g hh=>⟨Int.le_of_lt (hg g hh).1,(hg g hh).2⟩)
 simp only [tot]
 omega
theorem d9.look {w:World} {mv:Value} {L:List (Int × Int)} {C:Int->Int} (h:d9 w mv L)(hC:yv L C) {x:Int} (hx:0 <= x/\x <= 1000000) :
  (Instr.lookup 402 mv (.int .i64 x) false).run Tryz.prog w = .ok (.int .i64 (C x)) w:=by
 have hg:=xm (x:=x) (by omega) (by omega)
 rcases h with ⟨rfl,rfl⟩ | ⟨b,rfl,hm⟩
 ·obtain ⟨kl,hkl⟩:=hg
  have h1:=Maps.look_nil (w:=w) false zd (show Tryz.prog.underlying 402 = some (.map 3 3) from Tryz.underlying402) (pS w) hkl
  rw [h1,<- hC.2.1 x]
  rfl
 have h1:=bO.look (e:=3) (k:=x) hm zd (show Tryz.prog.underlying 402 = some (.map 3 3) from Tryz.underlying402) (pS w) hg (fun y _ he=>by injection he)
 rw [h1,<- hC.2.1 x]
 cases bq L x <;> rfl
theorem d9.len {w:World} {mv:Value} {L:List (Int × Int)} (h:d9 w mv L) (ty:TypeId):(Builtin.len_ #[402] ty #[mv]).run Tryz.prog w = .ok (.int .i64 (L.length:Int)) w:=by
 rcases h with ⟨rfl,rfl⟩ | ⟨b,rfl,hm⟩
 ·exact Maps.len_nil (show Tryz.prog.underlying 402 = some (.map 3 3) from Tryz.underlying402) ty
 have h1:=aQ.len hm (show Tryz.prog.underlying 402 = some (.map 3 3) from Tryz.underlying402) ty
 rw [h1]
 simp [ft]
theorem d9.drew {w:World} {mv:Value} {L:List (Int × Int)} (h:d9 w mv L):d9 w.drew mv L:=h

theorem Ls {gs:List (List Int × Int)} {d v:Nat} {h:List Int} {L:List (Int × Int)} (hg:∀ g ∈ gs,0 < g.2)(hw:∀ g ∈ gs,∀ x ∈ g.1,x <= (v:Int))(hC:yv L (fun x=>tot d gs (h ++ [x]))):∀ e ∈ L,e.1 <= (v:Int):=by
 intro e he
 have h1:=e9 hC.1 he
 have h2:=hC.2.1 e.1
 rw [h1] at h2
 have h3:e.2 = tot d gs (h ++ [e.1]):=h2
 have h4:=(hC.2.2 e he).1
 rw [h3] at h4
 obtain ⟨g,hg1,hg2⟩:=(vR hg).1 h4
 have h5:g.1.drop d = h ++ [e.1]:=by simpa using hg2
 exact hw g hg1 _ (List.mem_of_mem_drop (i:=d) (by rw [h5]; simp))

theorem ci {w w':World} {o:Obj} (h:Below (w.alloc o).heap.size (w.alloc o) w'):Below w.heap.size w w':=((Below.refl _ w).alloc (Nat.le_refl _) o).trans (h.mono (by simp))
theorem aX {w w':World} {o:Obj} (h:Below (w.alloc o).drew.heap.size (w.alloc o).drew w'):Below w.heap.size w w':=ci (ah h)
theorem bh (w:World) (o:Obj):Below w.heap.size w (w.alloc o):=(Below.refl _ w).alloc (Nat.le_refl _) o
theorem NX (w:World) (z:Int)(h0:0 <= z)(h1:z < 9223372036854775808) :
  Calls Tryz.prog 40 #[.int .i64 z] w fun e w'=>∃ v',e = .returned v'/\ay w.heap.size w' v' (z:Rat)/\Below w.heap.size w w':=by
 obtain ⟨n,rfl⟩:=Int.eq_ofNat_of_zero_le h0
 have:=Ot w n (by omega)
 rwa [show ((n:Int):Rat) = (n:Rat) from Rat.intCast_natCast n]
def fe (O V:Int) (gs:List Gr) (i:Nat):Bool :=
 decide (((gs.getD i ([],0)).1.length:Int) = O) && pM 0 V (gs.getD i ([],0)).1 && decide (1 <= (gs.getD i ([],0)).2) && decide ((gs.getD i ([],0)).2 <= 1073741824) &&
  (decide (i = 0) || decide (ew (gs.getD (i - 1) ([],0)).1 (gs.getD i ([],0)).1 < 0))
def bN (O V:Int) (gs:List Gr):Int:=if 20000 < gs.length then 5 else if cK O V = true/\(List.range gs.length).all (fe O V gs) = true then 0 else 2
theorem pb {O V:Int} {gs:List Gr} (h:20000 < gs.length):bN O V gs = 5:=if_pos h
theorem pa {O V:Int} {gs:List Gr} (h:¬ 20000 < gs.length)(hs:cK O V = false):bN O V gs = 2:=by
 unfold bN
 rw [if_neg h,if_neg]
 intro hc
 rw [hs] at hc
 cases hc.1
theorem qF {O V:Int} {gs:List Gr} {i:Nat} (h:¬ 20000 < gs.length)(hi:i < gs.length)(hb:fe O V gs i = false):bN O V gs = 2:=by
 unfold bN
 rw [if_neg h,if_neg]
 intro hc
 have:=List.all_eq_true.1 hc.2 i (List.mem_range.2 hi)
 rw [hb] at this
 cases this
theorem pc {O V:Int} {gs:List Gr} (h:¬ 20000 < gs.length)(hs:cK O V = true)(hb:∀ i,i < gs.length->fe O V gs i = true):bN O V gs = 0:=by
 unfold bN
 rw [if_neg h,if_pos ⟨hs,List.all_eq_true.2 fun i hi=>hb i (List.mem_range.1 hi)⟩]
theorem jy {gs:List Gr} {i:Nat} {g:Gr} (h:gs[i]? = some g):gs.getD i ([],0) = g:=by rw [List.getD_eq_getElem?_getD,h]; rfl
theorem nJ {O V:Int} {gs:List Gr} {i:Nat} {g:Gr} (hg:gs[i]? = some g)(h:¬ (g.1.length:Int) = O ∨ pM 0 V g.1 = false ∨ g.2 < 1 ∨ 1073741824 < g.2 ∨ (0 < i/\¬ ew (gs.getD (i - 1) ([],0)).1 g.1 < 0)):fe O V gs i = false:=by
 unfold fe
 rw [jy hg]
 rcases h with h | h | h | h | ⟨h,h'⟩
 ·rw [decide_eq_false h]; rfl
 ·rw [h,Bool.and_false]; rfl
 ·rw [decide_eq_false (show ¬ 1 <= g.2 by omega),Bool.and_false]; rfl
 ·rw [decide_eq_false (show ¬ g.2 <= 1073741824 by omega),Bool.and_false]; rfl
 rw [decide_eq_false (show ¬ i = 0 by omega),decide_eq_false h',Bool.or_self,Bool.and_false]
theorem ii {O V:Int} {gs:List Gr} {i:Nat} {g:Gr} (hg:gs[i]? = some g)(h1:(g.1.length:Int) = O)(h2:pM 0 V g.1 = true)(h3:¬ g.2 < 1)(h4:¬ 1073741824 < g.2)(h5:0 < i->ew (gs.getD (i - 1) ([],0)).1 g.1 < 0):fe O V gs i = true:=by
 unfold fe
 rw [jy hg,decide_eq_true h1,h2,decide_eq_true (show 1 <= g.2 by omega),decide_eq_true (show g.2 <= 1073741824 by omega)]
 rcases Nat.eq_zero_or_pos i with h | h
 ·rw [decide_eq_true h]; rfl
 rw [decide_eq_true (h5 h),Bool.or_true]; rfl
theorem rj {O V:Int} {gs:List Gr} {i:Nat} {g:Gr} (hg:gs[i]? = some g)(h:fe O V gs i = true):(g.1.length:Int) = O:=by
 unfold fe at h
 rw [jy hg] at h
 simp only [Bool.and_eq_true,decide_eq_true_eq] at h
 exact h.1.1.1.1

theorem xT (w:World) (O V:Int) (lv:Value) (gs:List Gr)(h:eI w lv gs) :
  Calls Tryz.prog 168 #[.agg #[.int .i64 O,.int .i64 V,lv]] w fun e w'=>e = .returned (.int .i64 (bN O V gs))/\Below w.heap.size w w':=by
 obtain ⟨A,c,rfl,hlc,hcm,hat⟩:=h.open_
 have HAT:=Lib.hid hat
 clear h hat
 obtain ⟨n,hn⟩:∃ n,gs.length = n:=⟨_,rfl⟩
 rw [hn] at hlc ⊢
 have HN:=Lib.hid hn
 clear hn
 by_cases hlong:20000 < n
 ·have hd:decide (20000 < n) = true:=decide_eq_true hlong
  have hd2:decide ((20000:Int) < (n:Int)) = true:=decide_eq_true (by omega)
  have HE:Hid (bN O V gs = 5):=Lib.hid (pb (by rw [HN.out]; exact hlong))
  clear hlong
  go_enter Tryz.func168,Tryz.ntmps168
  go_wp2_with fail
  go_ret
  exact ⟨aq HE.out.symm,(Below.refl _ _).alloc (Nat.le_refl _) _⟩
 have hd:decide (20000 < n) = false:=decide_eq_false hlong
 have hd2:decide ((20000:Int) < (n:Int)) = false:=decide_eq_false (by omega)
 have HL:Hid (¬ 20000 < gs.length):=Lib.hid (by rw [HN.out]; exact hlong)
 clear hlong
 go_enter Tryz.func168,Tryz.ntmps168
 go_wp2_with fail
 obtain ⟨W,hW,P0,PB,Phs⟩:=eU w 26 [.int .i64 O,.int .i64 V,.slice A n c]
 rw [<- hW]
 clear hW
 obtain ⟨p0,p1,p2,_,_,_⟩:=P0.out.three
 go_wp2_with fail
 refine (KP W O V).mono ?_
 rintro e w1 ⟨rfl,hb1⟩
 have P1:=Lib.hid (P0.out.below' hb1)
 have B1:=Lib.hid (PB.out.trans (hb1.mono (by omega)))
 clear p0 p1 p2 hb1 P0 PB
 obtain ⟨p0,p1,p2,_,_,_⟩:=P1.out.three
 obtain ⟨sb,hsb⟩:∃ b,cK O V = b:=⟨_,rfl⟩
 rw [hsb]
 have HSB:=Lib.hid hsb
 clear hsb
 cases sb
 ·have HE:Hid (bN O V gs = 2):=Lib.hid (pa HL.out HSB.out)
  go_wp2_with fail
  go_ret
  exact ⟨aq HE.out.symm,B1.out⟩
 clear hd hd2
 go_wp2_with fail
 have s1:w.heap.size < w1.heap.size:=P1.out.lt
 go_loopg [3,4,18] n (fun gh _ _ i wz=>∃ (j:Nat),i = .int .i64 j/\j + gh = n/\Hid (∀ k,k < j->fe O V gs k = true)/\Hid (bw wz w.heap.size 26 [.int .i64 O,.int .i64 V,.slice A n c])/\Hid (Below w.heap.size w wz))
 case atStart=>exact ⟨0,rfl,by omega,Lib.hid (fun k hk=>by omega),P1,B1⟩
 clear p0 p1 p2 P1 B1
 obtain ⟨j,rfl,hj,HG,P1,B1⟩:=hrel
 obtain ⟨p0,p1,p2,_,_,_⟩:=P1.out.three
 have s2:w.heap.size < wr.heap.size:=P1.out.lt
 have s3:w.heap.size <= wr.heap.size:=by omega
 rcases Nat.eq_zero_or_pos gk with hh | hh
 ·subst hh
  obtain rfl:j = n:=by omega
  have HE:Hid (bN O V gs = 0):=Lib.hid (pc HL.out HSB.out (fun i hi=>HG.out i (by rw [HN.out] at hi; exact hi)))
  go_wp2_with fail
  go_ret
  exact ⟨aq HE.out.symm,B1.out⟩
 obtain ⟨gh,rfl⟩:∃ g,gk = g + 1:=⟨gk - 1,by omega⟩
 obtain ⟨x,hx⟩:∃ x,gs[j]? = some x:=⟨_,List.getElem?_eq_getElem (by rw [HN.out]; omega)⟩
 obtain ⟨ba,oa,a0,rfl,hba,ea0,ea1,fa⟩:=HAT.out j x hx
 have d0:=(B1.out.cell (p:=⟨ba,oa + j * 2,none⟩) hba).trans ea0
 have d1:=(B1.out.cell (p:=⟨ba,oa + j * 2 + 1,none⟩) hba).trans ea1
 have FA:=Lib.hid (fa.below B1.out)
 have HX:=Lib.hid hx
 have hz3:ba < wr.heap.size:=by omega
 clear hx ea0 ea1
 obtain ⟨A1,k1,hA1⟩:=fa.len
 subst hA1
 clear fa
 have HBAD:Hid ((¬ (x.1.length:Int) = O ∨ pM 0 V x.1 = false ∨ x.2 < 1 ∨ 1073741824 < x.2 ∨ (0 < j/\¬ ew (gs.getD (j - 1) ([],0)).1 x.1 < 0))->bN O V gs = 2):=Lib.hid (fun hc=>qF HL.out (by rw [HN.out]; omega) (nJ HX.out hc))
 obtain ⟨x1,x2⟩:=x
 simp only at d0 d1 FA HBAD
 obtain ⟨m,hm⟩:∃ m,x1.length = m:=⟨_,rfl⟩
 rw [hm] at d0
 have HM:=Lib.hid hm
 rw [hm] at HBAD
 clear hm
 by_cases hml:(m:Int) = O
 ·have e1:((m:Int) != O) = false:=by simpa using hml
  have HML:=Lib.hid hml
  clear hml
  go_wp2_with fail
  obtain ⟨W2,hW2,G0,GB,Ghs⟩:=eU wr 82 [.slice A1 m k1,.int .i64 x2]
  rw [<- hW2]
  clear hW2
  refine (z7 W2 _ x1 0 V (by rw [HM.out] at FA; exact FA.out.below GB.out)).mono ?_
  rintro e w3 ⟨rfl,hb3⟩
  have G3:=Lib.hid (G0.out.below' hb3)
  have P3:=Lib.hid ((P1.out.below' GB.out).below' hb3)
  have BE:=Lib.hid (B1.out.trans ((GB.out.trans (hb3.mono GB.out.size)).mono B1.out.size))
  have BR3:=Lib.hid (GB.out.trans (hb3.mono GB.out.size))
  clear d0 d1 p0 p1 p2 hb3 G0 GB P1 B1
  obtain ⟨p0,p1,p2,_,_,_⟩:=P3.out.three
  have g0:=G3.out.cell 0
  have g1:=G3.out.cell 1
  simp only [List.getElem?_cons_zero,List.getElem?_cons_succ] at g0 g1
  obtain ⟨ib,hib⟩:∃ b,pM 0 V x1 = b:=⟨_,rfl⟩
  rw [hib]
  have HIB:=Lib.hid hib
  clear hib
  cases ib
  ·have HE:=Lib.hid (HBAD.out (.inr (.inl HIB.out)))
   go_wp2_with fail
   go_ret
   exact ⟨aq HE.out.symm,BE.out⟩
  by_cases hx1:x2 < 1
  ·have HE:=Lib.hid (HBAD.out (.inr (.inr (.inl hx1))))
   have e2:decide (x2 < 1) = true:=decide_eq_true hx1
   clear hx1
   go_wp2_with fail
   go_ret
   exact ⟨aq HE.out.symm,BE.out⟩
  have e2:decide (x2 < 1) = false:=decide_eq_false hx1
  by_cases hx2:1073741824 < x2
  ·have HE:=Lib.hid (HBAD.out (.inr (.inr (.inr (.inl hx2)))))
   have e3:decide (1073741824 < x2) = true:=decide_eq_true hx2
   clear hx1 hx2
   go_wp2_with fail
   go_ret
   exact ⟨aq HE.out.symm,BE.out⟩
  have e3:decide (1073741824 < x2) = false:=decide_eq_false hx2
  have HX12:=Lib.hid (And.intro hx1 hx2)
  clear hx1 hx2
  go_wp2_with fail
  clear e2 e3
  rcases Nat.eq_zero_or_pos j with hj0 | hj0
  ·subst hj0
   have HGT:=Lib.hid (ii (O:=O) (V:=V) HX.out (by rw [HM.out]; exact HML.out) HIB.out (by have:=HX12.out; simp only; omega) (by have:=HX12.out; simp only; omega) (fun h=>by omega))
   go_quiet (fail)
   go_wp2_with fail
   go_roundg gh
   case measure=>omega
   case rel=>exact ⟨1,rfl,by omega,Lib.hid (fun k hk=>by rw [show k = 0 by omega]; exact HGT.out),Lib.hid (P3.out.drewN _),Lib.hid (aJ BE.out _)⟩
  obtain ⟨i,rfl⟩:∃ i,j = i + 1:=⟨j - 1,by omega⟩
  obtain ⟨y,hy⟩:∃ y,gs[i]? = some y:=⟨_,List.getElem?_eq_getElem (by rw [HN.out]; omega)⟩
  obtain ⟨bb,ob,b0,eb,hbb,eb0,eb1,fb⟩:=HAT.out i y hy
  cases eb
  have d0:=(BE.out.cell (p:=⟨ba,oa + i * 2,none⟩) hbb).trans eb0
  have HYL:=Lib.hid (rj hy (HG.out i (by omega)))
  obtain ⟨A2,k2,hA2⟩:=fb.len
  subst hA2
  have FB:=Lib.hid (fb.below BE.out)
  have FA3:Hid (aU w3 (.slice A1 m k1) x1):=Lib.hid (by rw [<- HM.out]; exact FA.out.below BR3.out)
  have HOL:Hid (jb y.1 x1 = ew (gs.getD (i + 1 - 1) ([],0)).1 x1):=Lib.hid (by
   rw [show i + 1 - 1 = i by omega,jy hy]
   exact F0 (by have h1:=HYL.out; have h2:=HML.out; have h3:=HM.out; omega))
  obtain ⟨cv,hcv⟩:∃ c,jb y.1 x1 = c:=⟨_,rfl⟩
  rw [hcv] at HOL
  obtain ⟨p,hp⟩:∃ p,y.1.length = p:=⟨_,rfl⟩
  rw [hp] at d0 FB
  have CM:Hid (∀ W',aU W' (.slice A2 p k2) y.1->aU W' (.slice A1 m k1) x1->Calls Tryz.prog 119 #[.slice A2 p k2,.slice A1 m k1] W' fun e w'=>e = .returned (.int .i64 cv)/\w' = W'):=Lib.hid (fun W' h1 h2=>by
   rw [<- hcv]
   exact (OH W' _ _ _ _ h1 h2).mono (fun e w' ⟨a,b⟩=>⟨a,b.symm⟩))
  have i1:IntKind.i64.wrap ((i:Int) + 1 - 1) = (i:Int):=by rw [show (i:Int) + 1 - 1 = i by omega]; exact IntWalk.i64_in _ (by omega)
  have i2:IntKind.i64.wrap (i:Int) = (i:Int):=IntWalk.i64_in _ (by omega)
  have j1:(0:Int) <= (i:Int):=by omega
  have j2:(i:Int) < (n:Int):=by omega
  have j3:decide ((0:Int) < (i:Int) + 1) = true:=decide_eq_true (by omega)
  have j4:decide (0 < i + 1) = true:=decide_eq_true (by omega)
  clear hy eb0 eb1 fb hcv hp
  by_cases hc:cv < 0
  ·have e5:decide (0 <= cv) = false:=decide_eq_false (by omega)
   have HGT:=Lib.hid (ii (O:=O) (V:=V) HX.out (by rw [HM.out]; exact HML.out) HIB.out (by have:=HX12.out; simp only; omega) (by have:=HX12.out; simp only; omega) (fun _=>by rw [<- HOL.out]; exact hc))
   clear hc
   go_quiet ((go_at_call 119; exact Calls.quiet_of_same (CM.out _ (FB.out.drewN _) (FA3.out.drewN _))))
   go_wp2_with fail
   go_roundg gh
   case measure=>omega
   case rel=>exact ⟨i + 1 + 1,rfl,by omega,Lib.hid (fun k hk=>by
    by_cases e:k = i + 1
    ·rw [e]; exact HGT.out
    ·exact HG.out k (by omega)),Lib.hid (P3.out.drewN _),Lib.hid (aJ BE.out _)⟩
  have e5:decide (0 <= cv) = true:=decide_eq_true (by omega)
  have HE:=Lib.hid (HBAD.out (.inr (.inr (.inr (.inr ⟨by omega,by rw [<- HOL.out]; omega⟩)))))
  clear hc
  go_quiet ((go_at_call 119; exact Calls.quiet_of_same (CM.out _ (FB.out.drewN _) (FA3.out.drewN _))))
  go_wp2_with fail
  go_ret
  exact ⟨aq HE.out.symm,aJ BE.out _⟩
 have e1:((m:Int) != O) = true:=by simpa using hml
 have HE:=Lib.hid (HBAD.out (.inl hml))
 have BE:=Lib.hid (B1.out.trans ((bh wr (.cells #[.slice A1 m k1,.int .i64 x2] 82)).mono B1.out.size))
 clear hml
 go_wp2_with fail
 go_ret
 exact ⟨aq HE.out.symm,BE.out⟩
end Go.Proofs.YtkdhppimhdemjaaGreat
