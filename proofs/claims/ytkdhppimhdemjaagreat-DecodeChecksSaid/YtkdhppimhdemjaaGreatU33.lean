/- Lemmas on the way: Lv1. -/
import Derived.Test.YtkdhppimhdemjaaGreatU31
import Derived.RangeFuncOwn
import Derived.Laws.CopyOwn
set_option linter.all false
set_option maxRecDepth 1000000
set_option maxHeartbeats 32000000
namespace Go.Proofs.YtkdhppimhdemjaaGreat
open Go.RowKit
theorem CO:(Tryz.prog.info? 401).map (fun i=>(i.zero,i.size,i.bytes)) = some (some (.map none),1,8):=by kernel_rfl

def gc (w:World) (b O n:Nat) (gs:List (List Int × Int)):Prop:=∃ xs,bw w b 401 xs/\xs.length = O + 1 /\
 ∀ j,n < j->j <= O->∃ bj base S,xs[j]? = some (.map (some bj))/\gV w bj base j S/\jL j S/\g8 S (tot (O - j) gs)/\S.length <= 20000
theorem gc.below {w w':World} {b O n:Nat} {gs:List (List Int × Int)} (h:gc w b O n gs)(hb:Below w.heap.size w w'):gc w' b O n gs:=by
 obtain ⟨xs,h1,h2,h3⟩:=h
 refine ⟨xs,h1.below' hb,h2,fun j hj hj'=>?_⟩
 obtain ⟨bj,base,S,e,hl,hr⟩:=h3 j hj hj'
 exact ⟨bj,base,S,e,hl.below hb,hr⟩
theorem gc.step {w:World} {b O d:Nat} {gs:List (List Int × Int)} (h:gc w b O (d + 1) gs) {bj base:Nat} {S:List (List Int × Int)} (hc:w.cell? ⟨b,d + 1,none⟩ = some (.map (some bj)))(hl:gV w bj base (d + 1) S)(hs:jL (d + 1) S)(hn:g8 S (tot (O - (d + 1)) gs))(hlen:S.length <= 20000):gc w b O d gs:=by
 obtain ⟨xs,h1,h2,h3⟩:=h
 refine ⟨xs,h1,h2,fun j hj hj'=>?_⟩
 by_cases e:j = d + 1
 ·subst e
  exact ⟨bj,base,S,(h1.cell _).symm.trans hc,hl,hs,hn,hlen⟩
 exact h3 j (by omega) hj'
theorem It {O d:Nat} {m S nx:List (List Int × Int)} {gs:List Gr} (hd:d + 1 <= O)(hg:∀ g ∈ gs,0 < g.2/\g.2 <= 1073741824)(hl:gs.length <= 20000)(hm:g8 m (tot (O - (d + 1)) gs))(hp:S.Perm m) {nv:Nat} (h1:DG d nv nx)(h2:g8 nx (fun k=>dK (fun x=>x.drop 1 == k) S)):jL d nx/\g8 nx (tot (O - d) gs):=by
 have hT:∀ k,dK (fun x=>x.drop 1 == k) S = tot (O - d) gs k:=by
  intro k
  rw [Ch hp,Cg hm (fun g h=>(hg g h).1),show O - (d + 1) + 1 = O - d by omega]
 have hc:=h2.congr hT
 refine ⟨⟨hc.1,fun e he=>?_⟩,hc⟩
 have:=h1.2 e he
 refine ⟨this.1,this.2.1,this.2.2.1,?_⟩
 rw [<- hc.of_mem he]
 have h5:=Ai (p:=fun x=>x.drop (O - d) == e.1) (gs:=gs) (M:=1073741824) (fun g h=>⟨Int.le_of_lt (hg g h).1,(hg g h).2⟩)
 unfold tot
 have h6:(gs.length:Int) * 1073741824 <= 21474836480000:=by omega
 exact Int.le_trans h5 h6

theorem IE (w:World) (O:Nat) (V:Int) (lv:Value) (gs:List Gr)(h:eI w lv gs)(hn:∀ g ∈ gs,g.1.length = O/\(∀ x ∈ g.1,0 <= x/\x <= 1000000)/\0 < g.2/\g.2 <= 1073741824)(hO:1 <= O/\O <= 4)(hl:gs.length <= 20000)(hd:(gs.map Prod.fst).Nodup) :
  Calls Tryz.prog 253 #[.agg #[.int .i64 O,.int .i64 V,lv]] w fun e w'=>∃ b,e = .returned (.slice (some ⟨b,0,none⟩) (O + 1) (O + 1))/\gc w' b O 0 gs/\Below w.heap.size w w':=by
 obtain ⟨A,c,rfl,hlc,hcm,hat⟩:=h.open_
 have HAT:=Lib.hid hat
 have HNI:=Lib.hid hn
 have HD:=Lib.hid hd
 clear h hat hn hd
 obtain ⟨p,hp⟩:∃ p,gs.length = p:=⟨_,rfl⟩
 rw [hp] at hlc hl ⊢
 have HP:=Lib.hid hp
 clear hp
 have hmm:=@run_makeMap Tryz.prog
 obtain ⟨i1,ki,kz0,kz1,kz2⟩:=info_parts CO
 have i8:IntKind.i64.wrap ((O:Int) + 1) = (O:Int) + 1:=IntWalk.i64_in _ (by omega)
 go_enter Tryz.func253,Tryz.ntmps253
 go_wp2_with (at_make; refine aV rfl _ _ 350 rfl 401 i1 (.map none) 8 Tryz.underlying350 ki kz0 kz1 kz2 rfl .i64 .i64 _ _ (O + 1) rfl rfl (by omega) (by omega) (by omega) (by unfold maxLen; omega) ?_)
 obtain ⟨W,hW,P0,PB,Phs⟩:=eU w 26 [.int .i64 O,.int .i64 V,.slice A p c]
 rw [<- hW]
 clear hW
 intro w1 hblk hb1
 have P1:=Lib.hid (P0.out.below hb1 (by omega))
 have B1:=Lib.hid (PB.out.trans (hb1.mono (by omega)))
 have LB:=Lib.hid hblk
 clear hblk hb1
 obtain ⟨p0,p1,p2,_,_,_⟩:=P1.out.three
 have s1:w.heap.size + 1 < w1.heap.size:=LB.out.lt
 have s1':w.heap.size < w1.heap.size:=P1.out.lt
 go_wp2_with fail
 obtain ⟨W2,hW2⟩:∃ W2,W2 = w1.alloc (.map #[] 0):=⟨_,rfl⟩
 have M0:Hid (bO dA (Value.int .i64) W2 398 w1.heap.size ([]:List (List Int × Int))):=Lib.hid (by rw [hW2]; exact bO.made _ _ _ _)
 have b2:Below w1.heap.size w1 W2:=by rw [hW2]; exact (Below.refl _ w1).alloc (Nat.le_refl _) _
 have B2:=Lib.hid (B1.out.trans (b2.mono (by omega)))
 have P2:=Lib.hid (P1.out.below' b2)
 have LB2:=Lib.hid (LB.out.below' b2)
 rw [<- hW2]
 clear hW2 b2 p0 p1 p2 B1 P1 LB
 go_loopg [21] p (fun gh i wr=>∃ (j:Nat),i = .int .i64 j/\j + gh = p/\Hid (∃ m,bO dA (Value.int .i64) wr 398 w1.heap.size m/\jL O m/\g8 m (tot 0 (gs.take j))/\m.length <= j)/\Hid (bw wr w.heap.size 26 [.int .i64 O,.int .i64 V,.slice A p c])/\Hid (bw wr (w.heap.size + 1) 401 (List.replicate (O + 1) (.map none)))/\Hid (Below w.heap.size w wr))
 case atStart=>exact ⟨0,rfl,by omega,Lib.hid ⟨[],M0.out,⟨List.nodup_nil,fun e he=>by cases he⟩,g8.nil.congr (fun k=>rfl),by simp⟩,P2,LB2,B2⟩
 clear M0 P2 LB2 B2
 obtain ⟨j,rfl,hj,HM,P2,LB2,BEL⟩:=hrel
 have hwz:w.heap.size <= wr.heap.size:=BEL.out.size
 have hmlt:w1.heap.size < wr.heap.size:=by obtain ⟨m,h,_⟩:=HM.out; exact h.lt
 rcases Nat.eq_zero_or_pos gk with h | h
 ·obtain rfl:j = p:=by omega
  obtain ⟨p0,p1,p2,_,_,_⟩:=P2.out.three
  obtain ⟨m0,hm0,hm0s,hm0c,hm0l⟩:=HM.out
  have MLEN:=Lib.hid hm0l
  have MM:=Lib.hid hm0
  have MS:=Lib.hid hm0s
  have MC:Hid (g8 m0 (tot 0 gs)):=Lib.hid (by rwa [List.take_of_length_le (by rw [HP.out]; exact Nat.le_refl _)] at hm0c)
  clear HM hm0 hm0s hm0c hm0l hj
  go_wp2_with fail
  have LV0:Hid (gc wr (w.heap.size + 1) O O gs):=Lib.hid ⟨_,LB2.out,by simp,fun j h1 h2=>by omega⟩
  go_loopg [4,7] O (fun n v i wz=>i = .int .i64 n/\n <= O/\Hid (gc wz (w.heap.size + 1) O n gs)/\Hid (∃ bs m,v = .map (some bs)/\bO dA (Value.int .i64) wz 398 bs m/\jL n m/\g8 m (tot (O - n) gs)/\m.length <= j)/\Hid (Below w.heap.size w wz))
  case atStart=>exact ⟨rfl,Nat.le_refl _,LV0,Lib.hid ⟨_,_,rfl,MM.out,MS.out,MC.out.congr (fun k=>by rw [Nat.sub_self]),MLEN.out⟩,BEL⟩
  clear LV0 MM MS MC MLEN BEL p0 p1 p2 P2 LB2 hwz hmlt
  obtain ⟨rfl,hnO,LV,MM,BEL⟩:=hrel
  rcases Nat.eq_zero_or_pos gk with h' | h'
  ·subst h'
   have b0:decide (((0:Nat):Int) > 0) = false:=decide_eq_false (by omega)
   go_wp2_with fail
   go_ret
   exact ⟨_,rfl,LV.out,BEL.out⟩
  obtain ⟨d,rfl⟩:∃ d,gk = d + 1:=⟨gk - 1,by omega⟩
  have b0:decide (0 < d + 1) = true:=decide_eq_true h'
  have b1:decide ((0:Int) < ((d + 1:Nat):Int)) = true:=decide_eq_true (by omega)
  have b2:decide ((0:Int) < (d:Int) + 1) = true:=decide_eq_true (by omega)
  obtain ⟨bs,m,rfl,hm,hms,hmc,hml⟩:=MM.out
  obtain ⟨xs,hx1,hx2,hx3⟩:=LV.out
  have hwz:w.heap.size <= wr.heap.size:=BEL.out.size
  have hbo:w.heap.size + 1 < wr.heap.size:=hx1.lt
  obtain ⟨u0,c0⟩:∃ u0,wr.cell? ⟨w.heap.size + 1,(d + 1),none⟩ = some u0:=⟨_,(hx1.cell (d + 1)).trans (List.getElem?_eq_getElem (by omega))⟩
  have z0:=hx1.frozen (d + 1)
  have j1:(0:Int) <= ((d + 1:Nat):Int):=by omega
  have j2:((d + 1:Nat):Int) < (O:Int) + 1:=by omega
  have j3:(0:Int) <= (d:Int) + 1:=by omega
  have j4:(d:Int) + 1 < (O:Int) + 1:=by omega
  have j5:((d:Int) + 1).toNat = d + 1:=by omega
  have hbs:bs < wr.heap.size:=hm.lt
  obtain ⟨W3,hW3⟩:∃ W3,W3 = ((wr.setCell ⟨w.heap.size + 1,(d + 1),none⟩ (.map (some wr.heap.size))).alloc (.map #[] 0)).alloc (.map #[] 0):=⟨_,rfl⟩
  have hs3:W3.heap.size = wr.heap.size + 2:=by rw [hW3]; simp
  -- what lies below is as it was,but for the one cell
  obtain ⟨Ws,hWs⟩:∃ Ws,Ws = wr.setCell ⟨w.heap.size + 1,d + 1,none⟩ (.map (some wr.heap.size)):=⟨_,rfl⟩
  have hss:Ws.heap.size = wr.heap.size:=by rw [hWs]; simp
  have B3:Hid (Below wr.heap.size Ws W3):=Lib.hid (by
   rw [hW3,<- hWs]
   exact ((Below.refl _ _).alloc (by omega) _).alloc (by simp; omega) _)
  have L3:Hid (gZ W3 wr.heap.size (wr.heap.size + 3) (d + 1) [] []):=Lib.hid (by
   rw [hW3,<- hWs]
   have:=gZ.start Ws (d + 1) (wr.heap.size + 3) (by omega)
   rw [hss] at this
   exact this.below ((Below.refl _ _).alloc (Nat.le_refl _) _))
  have N3:Hid (bO dA (Value.int .i64) W3 398 (wr.heap.size + 1) ([]:List (List Int × Int))):=Lib.hid (by
   rw [hW3,<- hWs]
   have:=bO.made (Ws.alloc (.map #[] 0)) dA (Value.int .i64) 398
   rwa [World.size_alloc,hss] at this)
  have LVS:Hid (gc Ws (w.heap.size + 1) O (d + 1) gs):=Lib.hid (by
   rw [hWs]
   refine ⟨_,hx1.set_ (d + 1) _,by simpa using hx2,fun j h1 h2=>?_⟩
   obtain ⟨bj,base,S,e,hl,hr⟩:=hx3 j h1 h2
   exact ⟨bj,base,S,by rw [List.getElem?_set_ne (by omega)]; exact e,hl.far c0 _,hr⟩)
  have CS:Hid (Ws.cell? ⟨w.heap.size + 1,d + 1,none⟩ = some (.map (some wr.heap.size))):=Lib.hid (by
   rw [hWs]
   exact World.cell?_setCell_same' _ _ _ (by rw [c0]; rfl))
  have MS:Hid (bO dA (Value.int .i64) Ws 398 bs m):=Lib.hid (by rw [hWs]; exact hm.far (p:=⟨w.heap.size + 1,d + 1,none⟩) (hm.ne c0) _)
  have BS:Hid (Below w.heap.size w Ws):=Lib.hid (by rw [hWs]; exact BEL.out.setCell (p:=⟨w.heap.size + 1,d + 1,none⟩) (show w.heap.size <= w.heap.size + 1 by omega) _)
  have HSS:=Lib.hid hss
  have M3:=Lib.hid (MS.out.low hbs B3.out)
  have HMS:=Lib.hid hms
  have HMC:=Lib.hid hmc
  have HML:=Lib.hid hml
  clear hm hms hmc hml hx1 hx2 hx3 MM LV hss hWs
  go_upto_region 13 with fail
  rw [<- hW3]
  clear hW3 c0 z0
  go_wp2_with (refine jP rfl _ _ rfl 398 3 Tryz.underlying397 bs _ rfl M3.out ?_)
  intro w4 hm4 hi4 hb4' hs4
  have hb4:Below W3.heap.size W3 w4:=by rw [hs3]; exact hb4'
  obtain ⟨wo,hwo⟩:∃ wo,wo = wr:=⟨_,rfl⟩
  subst hwo
  have I4:Hid (b8 w4 (wo.heap.size + 2) bs m.length []):=Lib.hid (by simpa [ft] using hi4)
  have L4:Hid (gV w4 wo.heap.size (wo.heap.size + 3) (d + 1) []):=Lib.hid ⟨[],L3.out.below hb4⟩
  have N4:Hid (∃ nx,bO dA (Value.int .i64) w4 398 (wo.heap.size + 1) nx/\DG d 0 nx/\g8 nx (fun k=>dK (fun x=>x.drop 1 == k) [])):=Lib.hid ⟨[],N3.out.below hb4,⟨by simp,fun e he=>by cases he⟩,g8.nil.congr (fun k=>rfl)⟩
  have B4:Hid (Below wo.heap.size Ws w4):=Lib.hid (B3.out.trans (hb4.mono (by omega)))
  have hs4':wo.heap.size + 3 <= w4.heap.size:=by omega
  clear hm4 hi4 hb4 hb4' hs4 L3 N3 M3 B3 hs3
  go_wp2_with fail
  go_loopg [9,10,11,12] m.length (fun gh _ _ _ _ wz=>∃ vis:List Nat,vis.length + gh = m.length/\Hid (vis.Nodup/\∀ i ∈ vis,i < m.length)/\Hid (b8 wz (wo.heap.size + 2) bs m.length vis)/\Hid (gV wz wo.heap.size (wo.heap.size + 3) (d + 1) (gB m vis)) /\
   Hid (∃ nx,bO dA (Value.int .i64) wz 398 (wo.heap.size + 1) nx/\DG d vis.length nx/\g8 nx (fun k=>dK (fun x=>x.drop 1 == k) (gB m vis)))/\Hid (Below wo.heap.size Ws wz)/\wo.heap.size + 3 <= wz.heap.size)
  case atStart=>exact ⟨[],by simp,Lib.hid ⟨List.nodup_nil,fun i hi=>by cases hi⟩,I4,L4,N4,B4,hs4'⟩
  clear I4 L4 N4 B4 BEL hs4'
  obtain ⟨vis,hvl,VIS,I4,L4,N4,B4,hs4'⟩:=hrel
  have M4:=Lib.hid (MS.out.low hbs B4.out)
  have I5:Hid (b8 wr (wo.heap.size + 2) bs (ft dA (Value.int .i64) m).length vis):=Lib.hid (by simpa [ft] using I4.out)
  go_wp2_with (refine lJ rfl _ rfl 398 bs (wo.heap.size + 2) (ft dA (Value.int .i64) m) vis rfl M4.out I5.out ?done ?more)
  case done =>
   intro hdone
   have HPM:Hid ((gB m vis).Perm m):=Lib.hid (BW VIS.out.1 VIS.out.2 (fun j hj=>hdone j (by simpa [ft] using hj)))
   clear hdone I5
   go_wp2_with fail
   go_roundg d
   case measure=>omega
   case rel =>
    obtain ⟨nx,hn1,hn2,hn3⟩:=N4.out
    have hnx:=It hnO (fun g hg=>(HNI.out g hg).2.2) (by rw [HP.out]; exact hl) HMC.out HPM.out hn2 hn3
    have hbw:Below Ws.heap.size Ws wr:=by rw [HSS.out]; exact B4.out
    exact ⟨by simp,by omega,Lib.hid ((LVS.out.below hbw).step ((hbw.cell (p:=⟨w.heap.size + 1,d + 1,none⟩) (by rw [HSS.out]; exact hbo)).trans CS.out) L4.out (HMS.out.of_perm HPM.out) (HMC.out.of_perm HPM.out) (by rw [HPM.out.length_eq]; have:=HML.out; omega)),Lib.hid ⟨_,nx,rfl,hn1,hnx.1,hnx.2,by have:=hn2.1; have:=HML.out; omega⟩,Lib.hid (BS.out.trans (B4.out.mono hwz))⟩
  case more =>
   intro i xk xv w5 hx hiv hm5 hi5 hent hg5 hs5
   rw [kC] at hx
   obtain ⟨e,he,rfl,rfl⟩:∃ e,m[i]? = some e/\dA e.1 = xk/\Value.int .i64 e.2 = xv:=by
    cases h:m[i]? with
    | none=>rw [h] at hx; cases hx
    | some e=>rw [h] at hx; simp only [Option.map_some,Option.some.injEq,Prod.mk.injEq] at hx; exact ⟨e,rfl,hx.1,hx.2⟩
   clear hx
   have hne:=HMS.out.2 e (List.mem_of_getElem? he)
   have HNE:=Lib.hid hne
   have hil:=(List.getElem?_eq_some_iff.1 he).1
   have VIS5:Hid ((vis ++ [i]).Nodup/\∀ k ∈ vis ++ [i],k < m.length):=Lib.hid ⟨List.nodup_append.2 ⟨VIS.out.1,by simp,fun a ha b hb e=>by simp at hb; subst hb; subst e; exact hiv ha⟩,fun k hk=>by rcases List.mem_append.1 hk with hk | hk; exact VIS.out.2 k hk; rw [List.mem_singleton.1 hk]; exact hil⟩
   have hgk:0 < gk:=by have:=wQ VIS5.out.1 VIS5.out.2; rw [List.length_append,List.length_singleton] at this; omega
   have HFR:=Lib.hid (yF HMS.out.1 VIS.out.2 hiv he)
   have HSN:=Lib.hid (BV m vis he)
   have HSL:Hid (∀ x ∈ gB m vis,x.1.length = d + 1):=Lib.hid (fun x hx=>(HMS.out.2 x (D6 VIS.out.2 x hx)).1)
   have hs5':wo.heap.size + 3 <= w5.heap.size:=by omega
   have J5:Hid (b8 w5 (wo.heap.size + 2) bs m.length (vis ++ [i])):=Lib.hid (by simpa [ft] using hi5)
   have L5:Hid (gV w5 wo.heap.size (wo.heap.size + 3) (d + 1) (gB m vis)):=Lib.hid (L4.out.kept hg5 (by omega) (by omega))
   have N5:Hid (∃ nx,bO dA (Value.int .i64) w5 398 (wo.heap.size + 1) nx/\DG d vis.length nx/\g8 nx (fun k=>dK (fun x=>x.drop 1 == k) (gB m vis))):=Lib.hid (by
    obtain ⟨nx,h1,h2,h3⟩:=N4.out
    exact ⟨nx,h1.kept hg5 (fun e=>by injection e; omega),h2,h3⟩)
   have B5:Hid (Below wo.heap.size Ws w5):=Lib.hid (B4.out.grown hg5 (by omega) (fun k e=>by cases e; omega))
   clear hm5 hi5 hg5 he hne I5 I4 hs5 L4 N4 B4 M4
   obtain ⟨ks,c⟩:=e
   simp only at hent HNE HFR
   obtain ⟨a0,a1,a2,a3,hks⟩:=Fx (dp (by rw [HNE.out.1]; omega:ks.length <= 4))
   have hkv:dA ks = .agg #[.int .i64 a0,.int .i64 a1,.int .i64 a2,.int .i64 a3]:=by unfold dA; rw [hks]; rfl
   rw [hkv] at hent ⊢
   have HKV:=Lib.hid hkv
   have HKS:=Lib.hid hks
   clear hkv hks
   have q0:(0:Int) <= (d:Int):=by omega
   have q1:(d:Int) < 4:=by omega
   have HKD:Hid ([Value.int .i64 a0,.int .i64 a1,.int .i64 a2,.int .i64 a3][d]? = some (.int .i64 (ks.getD d 0 + 1))):=Lib.hid (by
    have h1:=IM (l:=ks) (d:=d) (by rw [HNE.out.1]; omega)
    rw [HKS.out] at h1
    have h2:=congrArg (Option.map (Value.int .i64)) h1
    rw [<- List.getElem?_map] at h2
    exact h2)
   obtain ⟨b0',b1',b2',b3',hbs⟩:=Fx (dp (l:=ks.take d) (by rw [List.length_take]; omega))
   have HHV:Hid (dA (ks.take d) = .agg #[.int .i64 b0',.int .i64 b1',.int .i64 b2',.int .i64 b3']):=Lib.hid (by unfold dA; rw [hbs]; rfl)
   have HHS:Hid ([Value.int .i64 a0,.int .i64 a1,.int .i64 a2,.int .i64 a3].set d (.int .i64 0) = [.int .i64 b0',.int .i64 b1',.int .i64 b2',.int .i64 b3']):=Lib.hid (by
    have h1:=Fe HNE.out.1 (by rw [HNE.out.1]; omega)
    rw [hbs,HKS.out] at h1
    have h2:=congrArg (List.map (Value.int .i64)) h1
    rw [List.map_set] at h2
    exact h2)
   have HNT:Hid (fC (ks.take d)):=Lib.hid ⟨by rw [List.length_take]; omega,fun z hz=>HNE.out.2.1.2 z (List.mem_of_mem_take hz)⟩
   clear hbs
   go_upto_region 17 with fail
   obtain ⟨W5,hW5,K0,K1,KB,Khs⟩:=jz w5 398 [.int .i64 a0,.int .i64 a1,.int .i64 a2,.int .i64 a3] 398 [.int .i64 a0,.int .i64 a1,.int .i64 a2,.int .i64 a3]
   rw [<- hW5]
   clear hW5
   have f0:W5.cell? ⟨w5.heap.size + 1,d,none⟩ = some (.int .i64 (ks.getD d 0 + 1)):=(K1.out.cell d).trans HKD.out
   have f1:=K1.out.frozen d
   obtain ⟨W6,hW6⟩:∃ W6,W6 = W5.setCell ⟨w5.heap.size + 1,d,none⟩ (.int .i64 0):=⟨_,rfl⟩
   go_upto_region 18 with fail
   rw [<- hW6]
   have k6:w5.heap.size + 2 <= W6.heap.size:=by rw [hW6,World.size_setCell]; exact Khs
   have B56:Hid (Below w5.heap.size w5 W6):=Lib.hid (by rw [hW6]; exact KB.out.setCell (p:=⟨w5.heap.size + 1,d,none⟩) (show w5.heap.size <= w5.heap.size + 1 by omega) _)
   have H6:Hid (bw W6 (w5.heap.size + 1) 398 [.int .i64 b0',.int .i64 b1',.int .i64 b2',.int .i64 b3']):=Lib.hid (by rw [hW6,<- HHS.out]; exact K1.out.set_ d _)
   have K6:Hid (bw W6 w5.heap.size 398 [.int .i64 a0,.int .i64 a1,.int .i64 a2,.int .i64 a3]):=Lib.hid (by rw [hW6]; exact K0.out.far (p:=⟨w5.heap.size + 1,d,none⟩) (show w5.heap.size ≠ w5.heap.size + 1 by omega) _)
   have B6:=Lib.hid (B5.out.trans (B56.out.mono (by omega)))
   have J6:=Lib.hid (J5.out.below B56.out)
   have L6:=Lib.hid (L5.out.below B56.out)
   have N6:Hid (∃ nx,bO dA (Value.int .i64) W6 398 (wo.heap.size + 1) nx/\DG d vis.length nx/\g8 nx (fun k=>dK (fun x=>x.drop 1 == k) (gB m vis))):=Lib.hid (by
    obtain ⟨nx,h1,h2,h3⟩:=N5.out
    exact ⟨nx,h1.below B56.out,h2,h3⟩)
   generalize w5.heap.size = z5 at *
   have k5:z5 + 2 <= W6.heap.size:=k6
   clear hW6 f0 f1 hent K0 K1 KB Khs B56 J5 L5 N5 B5
   obtain ⟨outer,ho6⟩:=L6.out
   have O6:=Lib.hid ho6
   have o6:W6.cell? ⟨w.heap.size + 1,d + 1,none⟩ = some (.map (some wo.heap.size)):=(B6.out.cell (p:=⟨w.heap.size + 1,d + 1,none⟩) hbo).trans CS.out
   have h60:=H6.out.cell 0
   have h61:=H6.out.cell 1
   have h62:=H6.out.cell 2
   have h63:=H6.out.cell 3
   simp only [List.getElem?_cons_zero,List.getElem?_cons_succ] at h60 h61 h62 h63
   have v1:w.heap.size + 1 < W6.heap.size:=by omega
   have v2:z5 + 1 < W6.heap.size:=by omega
   clear ho6 L6
   obtain ⟨ov,hov⟩:∃ ov,bq outer (ks.take d) = ov:=⟨_,rfl⟩
   have HOV:=Lib.hid hov
   obtain ⟨vv,hvv⟩:∃ vv,ov.elim (.map none) Gd = vv:=⟨_,rfl⟩
   obtain ⟨tb,htb⟩:∃ tb,ov.isNone = tb:=⟨_,rfl⟩
   have hlook2:∀ n,(Instr.lookup 401 (.map (some wo.heap.size)) (.agg #[.int .i64 b0',.int .i64 b1',.int .i64 b2',.int .i64 b3']) false).run Tryz.prog (W6.drewN n) = .ok vv (W6.drewN n):=fun n=>by
    have:=(O6.out.below (aJ (Below.refl _ _) n)).look HNT.out
    rw [HHV.out,hov,hvv] at this
    exact this
   have hmn:∀ w,(binOp BinOp.eql 402 vv (Value.map none)).run Tryz.prog w = .ok (.bool tb) w:=fun w=>by
    cases ov with
    | none=>rw [<- hvv,<- htb]; exact Ix w
    | some b=>rw [<- hvv,<- htb]; exact Iw b w
   have hgd:∀ w,(eqGuard BinOp.eql 402 (Operand.tmp 59) (Operand.const (Value.map none)) vv (Value.map none)).run Tryz.prog w = .ok () w:=fun w=>by
    cases ov with
    | none=>rw [<- hvv]; kernel_rfl
    | some b=>rw [<- hvv]; kernel_rfl
   have HTB:=Lib.hid htb
   clear hov hvv htb
   go_quiet (fail)
   go_upto_if 60 with fail
   obtain ⟨W7,hW7⟩:∃ W7,W7 = W6.drewN nq:=⟨_,rfl⟩
   have B67:Hid (Below W6.heap.size W6 W7):=Lib.hid (by rw [hW7]; exact aJ (Below.refl _ _) _)
   rw [<- hW7]
   have B7:=Lib.hid (B6.out.trans (B67.out.mono (by omega)))
   have J7:=Lib.hid (J6.out.below B67.out)
   have O7:=Lib.hid (O6.out.below B67.out)
   have N7:Hid (∃ nx,bO dA (Value.int .i64) W7 398 (wo.heap.size + 1) nx/\DG d vis.length nx/\g8 nx (fun k=>dK (fun x=>x.drop 1 == k) (gB m vis))):=Lib.hid (by
    obtain ⟨nx,h1,h2,h3⟩:=N6.out
    exact ⟨nx,h1.below B67.out,h2,h3⟩)
   have H7:=Lib.hid (H6.out.below' B67.out)
   have K7:=Lib.hid (K6.out.below' B67.out)
   have k7:z5 + 2 <= W7.heap.size:=Nat.le_trans k5 B67.out.size
   clear hW7 hlook2 hmn hgd h60 h61 h62 h63 o6 v1 v2 B67 B6 J6 O6 N6 H6 K6 k5 k6
   go_cut [60] (fun _ wc=>Hid (Below wo.heap.size Ws wc)/\Hid (b8 wc (wo.heap.size + 2) bs m.length (vis ++ [i]))/\Hid (∃ nx,bO dA (Value.int .i64) wc 398 (wo.heap.size + 1) nx/\DG d vis.length nx/\g8 nx (fun k=>dK (fun x=>x.drop 1 == k) (gB m vis))) /\
    Hid (∃ outer bi,gZ wc wo.heap.size (wo.heap.size + 3) (d + 1) (gB m vis) outer/\bq outer (ks.take d) = some bi)/\Hid (bw wc z5 398 [.int .i64 a0,.int .i64 a1,.int .i64 a2,.int .i64 a3])/\Hid (bw wc (z5 + 1) 398 [.int .i64 b0',.int .i64 b1',.int .i64 b2',.int .i64 b3'])/\z5 + 2 <= wc.heap.size)
   case first =>
    cases ov with
    | some bi =>
     cases HTB.out
     go_wp2_with fail
     go_meet
     exact ⟨B7,J7,N7,Lib.hid ⟨outer,bi,O7.out,HOV.out⟩,K7,H7,k7⟩
    | none =>
     cases HTB.out
     go_wp2_with fail
     have o7:W7.cell? ⟨w.heap.size + 1,d + 1,none⟩ = some (.map (some wo.heap.size)):=(B7.out.cell (p:=⟨w.heap.size + 1,d + 1,none⟩) hbo).trans CS.out
     have h70:=H7.out.cell 0
     have h71:=H7.out.cell 1
     have h72:=H7.out.cell 2
     have h73:=H7.out.cell 3
     simp only [List.getElem?_cons_zero,List.getElem?_cons_succ] at h70 h71 h72 h73
     have A7:Below W7.heap.size W7 (W7.alloc (.map #[] 0)).drew:=((Below.refl W7.heap.size W7).alloc (Nat.le_refl _) (.map #[] 0)).drew
     have O8':=Lib.hid (O7.out.below A7)
     have hm7:bO (Value.int .i64) (Value.int .i64) (W7.alloc (.map #[] 0)).drew 3 W7.heap.size ([]:List (Int × Int)):=(bO.made W7 _ _ _).drew
     have hfr7:∀ e ∈ outer,e.2 ≠ W7.heap.size:=fun e he h=>by have:=(O7.out.2.2.2.2.1 e he).lt; omega
     obtain ⟨W8,hup,hO8,hg8⟩:=O8'.out.insert HNT.out HOV.out hm7 (by omega) hfr7
     rw [HHV.out] at hup
     have u1:w.heap.size + 1 < W7.heap.size:=by omega
     have u2:z5 + 1 < W7.heap.size:=by omega
     have HL8:Hid (bq (outer ++ [(ks.take d,W7.heap.size)]) (ks.take d) = some W7.heap.size):=Lib.hid (by
      rw [nB,HOV.out]
      simp [bq])
     have O8:=Lib.hid hO8
     have G8:=Lib.hid hg8
     have B78:=Lib.hid A7
     have s78:W7.heap.size <= (W7.alloc (.map #[] 0)).drew.heap.size:=A7.size
     clear hm7 hfr7 A7 hO8 hg8
     go_region_with (fail)
     all_goals
      go_wp2_with fail
      go_meet
      exact ⟨Lib.hid ((B7.out.trans (B78.out.mono (by omega))).grown G8.out (by omega) (fun k e=>by cases e; omega)),Lib.hid ((J7.out.below B78.out).kept G8.out (fun e=>by injection e; omega)),Lib.hid (by obtain ⟨nx,h1,h2,h3⟩:=N7.out; exact ⟨nx,(h1.below B78.out).kept G8.out (fun e=>by injection e; omega),h2,h3⟩),Lib.hid ⟨_,_,O8.out,HL8.out⟩,Lib.hid ((K7.out.below' B78.out).grown G8.out (fun e=>by injection e; omega)),Lib.hid ((H7.out.below' B78.out).grown G8.out (fun e=>by injection e; omega)),Nat.le_trans (by omega) G8.out.size⟩
   obtain ⟨B9,J9,N9,O9,K9,H9,k9⟩:=hcut
   obtain ⟨outer',bi,ho9,hl9⟩:=O9.out
   have HNX:Hid (0 <= ks.getD d 0/\ks.getD d 0 <= 1000000):=Lib.hid (by
    rw [List.getD_eq_getElem?_getD,List.getElem?_eq_getElem (by rw [HNE.out.1]; omega)]
    exact HNE.out.2.1.2 _ (List.getElem_mem _))
   obtain ⟨y,hy⟩:∃ y,ks.getD d 0 = y:=⟨_,rfl⟩
   have HY:=Lib.hid hy
   rw [hy] at HNX HKD
   have y0:=HNX.out.1
   have y1:=HNX.out.2
   have o9:wc.cell? ⟨w.heap.size + 1,d + 1,none⟩ = some (.map (some wo.heap.size)):=(B9.out.cell (p:=⟨w.heap.size + 1,d + 1,none⟩) hbo).trans CS.out
   have h90:=H9.out.cell 0
   have h91:=H9.out.cell 1
   have h92:=H9.out.cell 2
   have h93:=H9.out.cell 3
   simp only [List.getElem?_cons_zero,List.getElem?_cons_succ] at h90 h91 h92 h93
   have k90:wc.cell? ⟨z5,d,none⟩ = some (.int .i64 (y + 1)):=(K9.out.cell d).trans HKD.out
   have hlook:(Instr.lookup 401 (.map (some wo.heap.size)) (.agg #[.int .i64 b0',.int .i64 b1',.int .i64 b2',.int .i64 b3']) false).run Tryz.prog wc.drew = .ok (.map (some bi)) wc.drew:=by
    have:=(ho9.below (ak wc)).look HNT.out
    rw [HHV.out,hl9] at this
    exact this
   obtain ⟨WA,hup,hoA,hgA⟩:=(ho9.below (ak wc)).put (e:=(ks,c)) (bi:=bi) (by omega) HNE.out.1 HNE.out.2.1 (fun x hx=>⟨HSL.out x hx,HFR.out x hx⟩) hl9
   have hup2:(Instr.mapUpdate 402 (.map (some bi)) (.int .i64 y) (.int .i64 c)).run Tryz.prog wc.drew = .ok () WA:=by
    rw [<- HY.out]; exact hup
   have OA:=Lib.hid hoA
   have GA:=Lib.hid hgA
   have hbi:wo.heap.size + 3 <= bi:=ho9.2.2.2.1 _ (cN hl9)
   have hne1:bi ≠ z5:=(ho9.2.2.2.2.1 _ (cN hl9)).ne (p:=⟨z5,d,none⟩) k90
   have q2:(0:Int) <= (d:Int) + 1 - 1:=by omega
   clear hup hoA hgA ho9 hl9 hy O9
   have x1:IntKind.i64.wrap ((d:Int) + 1 - 1) = (d:Int):=by rw [Int.add_sub_cancel]; exact IntWalk.i64_in _ (by omega)
   have x2:IntKind.i64.wrap (y + 1 - 1) = y:=by rw [Int.add_sub_cancel]; exact IntWalk.i64_in _ (by omega)
   have x3:IntKind.i64.wrap (d:Int) = (d:Int):=IntWalk.i64_in _ (by omega)
   have x4:IntKind.i64.wrap y = y:=IntWalk.i64_in _ (by omega)
   go_upto_region 20 with fail
   go_cut [67] (fun _ wd=>Hid (Below wo.heap.size Ws wd)/\Hid (b8 wd (wo.heap.size + 2) bs m.length (vis ++ [i]))/\Hid (∃ nx,bO dA (Value.int .i64) wd 398 (wo.heap.size + 1) nx/\DG d vis.length nx/\g8 nx (fun k=>dK (fun x=>x.drop 1 == k) (gB m vis))) /\
    Hid (gV wd wo.heap.size (wo.heap.size + 3) (d + 1) (gB m (vis ++ [i])))/\Hid (bw wd z5 398 [.int .i64 a0,.int .i64 a1,.int .i64 a2,.int .i64 a3])/\z5 + 2 <= wd.heap.size)
   case first =>
    go_region_with (fail)
    all_goals
     go_wp2_with fail
     go_meet
     have D9:Below wc.heap.size wc wc.drew:=ak _
     exact ⟨Lib.hid (B9.out.drew.grown GA.out (by show wo.heap.size <= wc.heap.size; omega) (fun k e=>by cases e; omega)),Lib.hid ((J9.out.below D9).kept GA.out (fun e=>by injection e; omega)),Lib.hid (by obtain ⟨nx,h1,h2,h3⟩:=N9.out; exact ⟨nx,(h1.below D9).kept GA.out (fun e=>by injection e; omega),h2,h3⟩),Lib.hid ⟨_,by rw [HSN.out]; exact OA.out⟩,Lib.hid ((K9.out.below' D9).grown GA.out (fun e=>by injection e; omega)),Nat.le_trans k9 GA.out.size⟩
   clear x1 x2 x3 x4 B9 J9 N9 K9 H9 k9 OA GA hup2 hlook h90 h91 h92 h93 k90 o9 hne1 hbi
   obtain ⟨B9,J9,N9,L9,K9,k9⟩:=hcut
   go_wp2_with fail
   obtain ⟨WD,hWD,D0,DB,Dhs⟩:=eU wc 398 [.int .i64 0,.int .i64 0,.int .i64 0,.int .i64 0]
   rw [<- hWD]
   clear hWD
   have KD:=Lib.hid (K9.out.below' DB.out)
   have HG:WD.drew.heap[wc.heap.size]? = some (.cells [Value.int .i64 0,.int .i64 0,.int .i64 0,.int .i64 0].toArray 398 (0,0)):=D0.out
   obtain ⟨cs,hcs⟩:∃ cs,cs = (((eT ks).drop 1).take d).map (Value.int .i64):=⟨_,rfl⟩
   have hcl:cs.length = d:=by
    have:=dp (l:=ks) (by rw [HNE.out.1]; omega)
    rw [hcs,List.length_map,List.length_take,List.length_drop]
    omega
   have HCL:=Lib.hid hcl
   have HC1:Hid (∀ j v,cs[j]? = some v->WD.drew.cell? ((⟨z5,1,none⟩:Addr).add j) = some v):=Lib.hid (by
    intro j v hv
    rw [hcs,List.getElem?_map] at hv
    have hj:j < d:=by
     have h1:=(List.getElem?_eq_some_iff.1 (by rw [hcs,List.getElem?_map]; exact hv:cs[j]? = some v)).1
     omega
    rw [List.getElem?_take_of_lt hj,List.getElem?_drop,<- List.getElem?_map] at hv
    rw [Addr.add_lit]
    refine (KD.out.cell (1 + j)).trans ?_
    have e:(eT ks).map (Value.int .i64) = [.int .i64 a0,.int .i64 a1,.int .i64 a2,.int .i64 a3]:=by rw [HKS.out]; rfl
    rw [<- e]
    exact hv)
   have HC2:Hid (∀ v ∈ cs,v.oneCell' = true):=Lib.hid (fun v hv=>by
    rw [hcs] at hv
    obtain ⟨x,_,rfl⟩:=List.mem_map.1 hv
    rfl)
   have HCS:=Lib.hid hcs
   clear hcl hcs
   have x1:((d:Int) + 1).toNat = d + 1:=by omega
   have x2:(0:Int) <= (d:Int) + 1:=by omega
   have x3:(1:Int) <= (d:Int) + 1:=by omega
   have x4:(d:Int) + 1 <= 4:=by omega
   go_region_law (refine step_copy_splice rfl (.tmp 79) (.tmp 81) 38 38 rfl 3 Tryz.underlying38 (by kernel_rfl) (some ⟨wc.heap.size,0,none⟩) (some ⟨z5,1,none⟩) 4 4 d 3 rfl rfl wc.heap.size 0 [.int .i64 0,.int .i64 0,.int .i64 0,.int .i64 0] 398 HG cs (by rw [HCL.out]; exact (Nat.min_eq_left (by omega)).symm) (fun _=>⟨rfl,_,rfl,HC1.out⟩) (by rw [HCL.out]; simp; omega) HC2.out wc.heap.size WD (Below.refl _ _).drew (Nat.le_refl _) ?_; intro w4 hg4 hb4)
   go_upto_region 23 with fail
   obtain ⟨c0',c1',c2',c3',hcc⟩:=Fx (dp (l:=ks.drop 1) (by rw [List.length_drop,HNE.out.1]; omega))
   have HCV:Hid (dA (ks.drop 1) = .agg #[.int .i64 c0',.int .i64 c1',.int .i64 c2',.int .i64 c3']):=Lib.hid (by unfold dA; rw [hcc]; rfl)
   have Q4:Hid (bw w4 wc.heap.size 398 [.int .i64 c0',.int .i64 c1',.int .i64 c2',.int .i64 c3']):=Lib.hid (by
    have e:splice [Value.int .i64 0,.int .i64 0,.int .i64 0,.int .i64 0] 0 cs = [.int .i64 c0',.int .i64 c1',.int .i64 c2',.int .i64 c3']:=by
     have h1:=Fd (l:=ks) (d:=d) HNE.out.1 (by omega)
     rw [hcc] at h1
     have h2:=congrArg (List.map (Value.int .i64)) h1
     rw [List.map_append,<- HCS.out] at h2
     unfold splice
     rw [HCL.out,List.take_zero,List.nil_append,Nat.zero_add]
     have h3:([Value.int .i64 0,.int .i64 0,.int .i64 0,.int .i64 0]:List Value).drop d = (List.replicate (4 - d) (0:Int)).map (Value.int .i64):=by
      rw [List.map_replicate]
      have:[Value.int .i64 0,.int .i64 0,.int .i64 0,.int .i64 0] = List.replicate 4 (Value.int .i64 0):=rfl
      rw [this,List.drop_replicate]
     rw [h3,h2]
     rfl
    unfold bw
    rw [<- e]
    exact hg4.out)
   have HND:Hid (fC (ks.drop 1)/\(ks.drop 1).length = d):=Lib.hid ⟨⟨by rw [List.length_drop,HNE.out.1]; omega,fun z hz=>HNE.out.2.1.2 z (List.mem_of_mem_drop hz)⟩,by rw [List.length_drop,HNE.out.1]; omega⟩
   have B4:Hid (Below wc.heap.size wc w4.drew):=Lib.hid (DB.out.trans hb4).drew
   have B10:=Lib.hid (B9.out.trans (B4.out.mono (by omega)))
   have J10:=Lib.hid (J9.out.below B4.out)
   have L10:=Lib.hid (L9.out.below B4.out)
   have q40:=Q4.out.cell 0
   have q41:=Q4.out.cell 1
   have q42:=Q4.out.cell 2
   have q43:=Q4.out.cell 3
   simp only [List.getElem?_cons_zero,List.getElem?_cons_succ] at q40 q41 q42 q43
   obtain ⟨nx,hnx1,hnx2,hnx3⟩:=N9.out
   obtain ⟨v,hv⟩:∃ v,(bq nx (ks.drop 1)).getD 0 = v:=⟨_,rfl⟩
   have HV:=Lib.hid hv
   have hvb:0 <= v/\v <= vis.length * 21474836480000:=by
    rw [<- hv]
    cases hl:bq nx (ks.drop 1) with
    | none=>exact ⟨Int.le_refl _,by show (0:Int) <= _; omega⟩
    | some u=>have:=hnx2.2 _ (cN hl); exact ⟨Int.le_of_lt this.2.2.1,this.2.2.2⟩
   have hvl2:vis.length <= 20000:=by have:=HML.out; omega
   have hcb:=HNE.out.2.2
   have hwrap:IntKind.i64.wrap (v + c) = v + c:=IntWalk.i64_in _ (by omega)
   have HM2:bO dA (Value.int .i64) w4.drew 398 (wo.heap.size + 1) nx:=hnx1.below B4.out
   have inj:∀ e ∈ nx,dA e.1 = dA (ks.drop 1)->e.1 = ks.drop 1:=fun e he h=>(hnx2.2 e he).2.1.inj HND.out.1 h
   have hlook:=HM2.look re Tryz.underlying397 (pS w4.drew) HND.out.1.good inj
   obtain ⟨jj,w3,hent,hmid,hg3,hlook3⟩:=HM2.entry re Tryz.underlying397 pS HND.out.1.good inj
   rw [C5,HV.out,HCV.out] at hlook hent hlook3
   obtain ⟨wE,hst,hTE,hgE⟩:=hmid.store (t:=397) (v + c)
   have TE:=Lib.hid hTE
   have GE:Hid (∃ w3,w4.drew.grownBy w3 (some (wo.heap.size + 1))/\w3.grownBy wE (some (wo.heap.size + 1))):=Lib.hid ⟨w3,hg3,hgE⟩
   have HNX1:Hid (DG d (vis.length + 1) (gJ nx (ks.drop 1) (v + c))):=Lib.hid (by
    have:=hnx2.add HND.out.2 HND.out.1 HNE.out.2.2
    unfold yi at this
    simp only at this
    rw [hv] at this
    exact this)
   have HNX2:Hid (g8 (gJ nx (ks.drop 1) (v + c)) (fun k=>dK (fun x=>x.drop 1 == k) (gB m (vis ++ [i])))):=Lib.hid (Im hnx3 HSN.out HNE.out.2.2.1 hv)
   clear HM2 inj hmid hg3 hTE hgE hnx1 hnx2 hnx3 hv hg4 hb4 HG hcc B9 J9 L9 N9 K9 D0 KD hcb hvb x1 x2 x3 x4
   go_region_with (fail)
   all_goals
    go_wp2_with fail
    go_roundg (gk - 1)
    case measure=>omega
    case rel =>
     obtain ⟨w3',hgA,hgB⟩:=GE.out
     have hsz1:w4.drew.heap.size <= w3'.heap.size:=hgA.size
     have hsz2:wc.heap.size <= w4.drew.heap.size:=B4.out.size
     exact ⟨vis ++ [i],by rw [List.length_append,List.length_singleton]; omega,VIS5,Lib.hid ((J10.out.kept hgA (fun e=>by injection e; omega)).kept hgB (fun e=>by injection e; omega)),Lib.hid ((L10.out.kept hgA (by omega) (by omega)).kept hgB (by omega) (by omega)),Lib.hid ⟨_,TE.out,by rw [List.length_append,List.length_singleton]; exact HNX1.out,HNX2.out⟩,Lib.hid ((B10.out.grown hgA (by omega) (fun k e=>by cases e; omega)).grown hgB (by omega) (fun k e=>by cases e; omega)),Nat.le_trans (by omega) hgB.size⟩
 obtain ⟨gh,rfl⟩:∃ g,gk = g + 1:=⟨gk - 1,by omega⟩
 obtain ⟨x,hx⟩:∃ x,gs[j]? = some x:=⟨_,List.getElem?_eq_getElem (by rw [HP.out]; omega)⟩
 obtain ⟨ba,oa,c0,rfl,hba,e0,e1,hi⟩:=HAT.out j x hx
 have d0:=(BEL.out.cell (p:=⟨ba,oa + j * 2,none⟩) hba).trans e0
 have d1:=(BEL.out.cell (p:=⟨ba,oa + j * 2 + 1,none⟩) hba).trans e1
 have HNX:=Lib.hid (HNI.out x (List.mem_of_getElem? hx))
 obtain ⟨A1,c1,rfl,hc1,hc1m,hat1⟩:=hi.open_
 obtain ⟨N,hN⟩:∃ N,x.2 = N:=⟨_,rfl⟩
 rw [hN] at d1
 have HI:=Lib.hid (hi.below BEL.out)
 have HK:Hid (fC x.1):=Lib.hid ⟨by rw [HNX.out.1]; omega,HNX.out.2.1⟩
 have HX:=Lib.hid hx
 have HNN:=Lib.hid hN
 rw [HNX.out.1] at hc1 d0 HI
 obtain ⟨m,hm,hms,hmc,hml⟩:=HM.out
 have HT0:Hid (tot 0 (gs.take j) x.1 = 0):=Lib.hid (Ef (fun y hy he=>by
  obtain ⟨i,hi,ey⟩:=List.getElem_of_mem hy
  have hi2:i < j:=by rw [List.length_take] at hi; omega
  have h1:(gs.map Prod.fst)[i]? = some x.1:=by
   rw [List.getElem?_map,<- List.getElem?_take_of_lt hi2,List.getElem?_eq_getElem hi,ey,<- he]; rfl
  have h2:(gs.map Prod.fst)[j]? = some x.1:=by rw [List.getElem?_map,HX.out]; rfl
  have:=(List.getElem?_inj (l:=gs.map Prod.fst) (by rw [List.length_map,HP.out]; omega) HD.out).1 (h1.trans h2.symm)
  omega))
 have HMM:=Lib.hid hm
 have HMS:=Lib.hid hms
 have HMC:=Lib.hid hmc
 have HTJ:Hid (∀ k,tot 0 (gs.take (j + 1)) k = tot 0 (gs.take j) k + if k = x.1 then N else 0):=Lib.hid (by
  intro k
  rw [aG _ HX.out,Eg,List.drop_zero,HNN.out]
  by_cases e:x.1 = k
  ·rw [if_pos e,if_pos e.symm]
  ·rw [if_neg e,if_neg (fun h=>e h.symm)])
 have HNP:Hid (0 < N/\N <= 1073741824):=Lib.hid (by rw [<- HNN.out]; exact HNX.out.2.2)
 have HS3:Hid ((gJ m x.1 N).length <= j + 1):=Lib.hid (by
   unfold gJ
   split
   ·rw [List.length_map]; omega
   ·rw [List.length_append]; exact Nat.succ_le_succ hml)
 have HS2:Hid (g8 (gJ m x.1 N) (tot 0 (gs.take (j + 1)))):=Lib.hid ((HMC.out.new HT0.out HNP.out.1).congr (fun k=>(HTJ.out k).symm))
 have HS1:Hid (jL O (gJ m x.1 N)):=Lib.hid ⟨qP hms.1 _ _,fun e he=>by
  rcases qQ he with he | rfl
  ·exact hms.2 e he
  exact ⟨HNX.out.1,HK.out,HNP.out.1,by simp only; have:=HNP.out.2; omega⟩⟩
 clear hx e0 e1 hi hat1 hN HM hm hms hmc hml
 generalize x.1 = ks at *
 go_wp2_with fail
 obtain ⟨W3,hW3,G0,GB,Ghs⟩:=eU wr 82 [.slice A1 O c1,.int .i64 N]
 rw [<- hW3]
 clear hW3
 have g0:=G0.out.cell 0
 have g1:=G0.out.cell 1
 simp only [List.getElem?_cons_zero,List.getElem?_cons_succ] at g0 g1
 go_region_with (first
  | (go_at_call 293; refine (Fb _ _ _ (HI.out.below (GB.out.trans (ak _))) HK.out.1 (fun z hz=>by have:=HK.out.2 z hz; omega)).mono ?_; rintro e w2 ⟨rfl,hb2'⟩; have hb2:=ah hb2'; have HM2:bO dA (Value.int .i64) w2 398 w1.heap.size m:=HMM.out.below (aa GB.out hb2); have inj:∀ e ∈ m,dA e.1 = dA ks->e.1 = ks:=fun e he h=>(HMS.out.2 e he).2.1.inj HK.out h; obtain ⟨w4,hst,hT4,hg4⟩:=HM2.update (t:=397) re Tryz.underlying397 HK.out.good inj N; have GB2:=G0.out.below' hb2; have g12:=GB2.cell 1; simp only [List.getElem?_cons_zero,List.getElem?_cons_succ] at g12; have T4:=Lib.hid hT4; have G4:=Lib.hid hg4; have B42:=Lib.hid (aa GB.out hb2); clear HM2 inj hT4 hg4 GB2 hb2 hb2'))
 all_goals
  go_wp2_with fail
  go_roundg gh
  case measure=>omega
  case rel =>
   have s4:w1.heap.size < w2.heap.size:=Nat.lt_of_lt_of_le hmlt B42.out.size
   exact ⟨j + 1,rfl,by omega,Lib.hid ⟨_,T4.out,HS1.out,HS2.out,HS3.out⟩,Lib.hid ((P2.out.below' B42.out).grown G4.out (by simp; omega)),Lib.hid ((LB2.out.below' B42.out).grown G4.out (by simp; omega)),Lib.hid ((BEL.out.trans (B42.out.mono hwz)).grown G4.out (by omega) (fun k e=>by cases e; omega))⟩
end Go.Proofs.YtkdhppimhdemjaaGreat
