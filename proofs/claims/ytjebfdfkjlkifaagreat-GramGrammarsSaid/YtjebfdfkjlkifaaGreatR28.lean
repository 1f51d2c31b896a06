/- Lemmas. -/
import Derived.Test.YtjebfdfkjlkifaaGreatR22
import Derived.RangeFuncOwn
import Derived.Laws.CopyOwn
set_option linter.all false
set_option maxRecDepth 1000000
set_option maxHeartbeats 32000000
namespace Go.Proofs.YtjebfdfkjlkifaaGreat
open Go.RowKit
theorem qw:(Tryz.prog.info? 205).map (fun i=>(i.zero,i.size,i.bytes)) = some (some (.map none),1,8):=by kernel_rfl

def LvsAt (w:World) (b O n:Nat) (gs:List (List Int × Int)):Prop:=∃ xs,Blk w b 205 xs/\xs.length = O + 1 /\
 ∀ j,n < j->j <= O->∃ bj base S,xs[j]? = some (.map (some bj))/\LevAt w bj base j S/\NiceS j S/\Cnt S (tot (O - j) gs)/\S.length <= 20000
theorem LvsAt.below {w w':World} {b O n:Nat} {gs:List (List Int × Int)} (h:LvsAt w b O n gs)(hb:Below w.heap.size w w'):LvsAt w' b O n gs:=by
 obtain ⟨xs,h1,h2,h3⟩:=h
 refine ⟨xs,h1.below' hb,h2,fun j hj hj'=>?_⟩
 obtain ⟨bj,base,S,e,hl,hr⟩:=h3 j hj hj'
 exact ⟨bj,base,S,e,hl.below hb,hr⟩
theorem LvsAt.lt {w:World} {b O n:Nat} {gs:List (List Int × Int)} (h:LvsAt w b O n gs):b < w.heap.size:=by
 obtain ⟨xs,h1,_⟩:=h
 exact h1.lt

theorem LvsAt.step {w:World} {b O d:Nat} {gs:List (List Int × Int)} (h:LvsAt w b O (d + 1) gs) {bj base:Nat} {S:List (List Int × Int)} (hc:w.cell? ⟨b,d + 1,none⟩ = some (.map (some bj)))(hl:LevAt w bj base (d + 1) S)(hs:NiceS (d + 1) S)(hn:Cnt S (tot (O - (d + 1)) gs))(hlen:S.length <= 20000):LvsAt w b O d gs:=by
 obtain ⟨xs,h1,h2,h3⟩:=h
 refine ⟨xs,h1,h2,fun j hj hj'=>?_⟩
 by_cases e:j = d + 1
 ·subst e
  exact ⟨bj,base,S,(h1.cell _).symm.trans hc,hl,hs,hn,hlen⟩
 exact h3 j (by omega) hj'
theorem uG {O d:Nat} {m S nx:List (List Int × Int)} {gs:List Gr} (hd:d + 1 <= O)(hg:∀ g ∈ gs,0 < g.2/\g.2 <= 1073741824)(hl:gs.length <= 20000)(hm:Cnt m (tot (O - (d + 1)) gs))(hp:S.Perm m) {nv:Nat} (h1:NxS d nv nx)(h2:Cnt nx (fun k=>cA (fun x=>x.drop 1 == k) S)):NiceS d nx/\Cnt nx (tot (O - d) gs):=by
 have hT:∀ k,cA (fun x=>x.drop 1 == k) S = tot (O - d) gs k:=by
  intro k
  rw [pJ hp,pH hm (fun g h=>(hg g h).1),show O - (d + 1) + 1 = O - d by omega]
 have hc:=h2.congr hT
 refine ⟨⟨hc.1,fun e he=>?_⟩,hc⟩
 have:=h1.2 e he
 refine ⟨this.1,this.2.1,this.2.2.1,?_⟩
 rw [<- hc.of_mem he]
 have h5:=oV (p:=fun x=>x.drop (O - d) == e.1) (gs:=gs) (M:=1073741824) (fun g h=>⟨Int.le_of_lt (hg g h).1,(hg g h).2⟩)
 unfold tot
 have h6:(gs.length:Int) * 1073741824 <= 21474836480000:=by omega
 exact Int.le_trans h5 h6

theorem uK (w:World) (O:Nat) (V:Int) (lv:Value) (gs:List Gr)(h:GramsAt w lv gs)(hn:∀ g ∈ gs,g.1.length = O/\(∀ x ∈ g.1,0 <= x/\x <= 1000000)/\0 < g.2/\g.2 <= 1073741824)(hO:1 <= O/\O <= 4)(hl:gs.length <= 20000)(hd:(gs.map Prod.fst).Nodup) :
  Calls Tryz.prog 140 #[.agg #[.int .i64 O,.int .i64 V,lv]] w fun e w'=>∃ b,e = .returned (.slice (some ⟨b,0,none⟩) (O + 1) (O + 1))/\LvsAt w' b O 0 gs/\Below w.heap.size w w':=by
 obtain ⟨A,c,rfl,hlc,hcm,hat⟩:=h.open_
 have HAT:=aH hat
 have HNI:=aH hn
 have HD:=aH hd
 clear h hat hn hd
 obtain ⟨p,hp⟩:=nm (gs.length)
 rw [hp] at hlc hl ⊢
 have HP:=aH hp
 clear hp
 have hmm:=@run_makeMap Tryz.prog
 obtain ⟨i1,ki,kz0,kz1,kz2⟩:=info_parts qw
 have i8:IntKind.i64.wrap ((O:Int) + 1) = (O:Int) + 1:=iI _ (by omega)
 go_enter Tryz.func140,Tryz.ntmps140
 go_wp2_with (at_make; refine ay rfl _ _ 170 rfl 205 i1 (.map none) 8 Tryz.underlying170 ki kz0 kz1 kz2 rfl .i64 .i64 _ _ (O + 1) rfl rfl (by omega) (by omega) (by omega) (by unfold maxLen; omega) ?_)
 obtain ⟨W,hW,P0,PB,Phs⟩:=aA w 27 [.int .i64 O,.int .i64 V,.slice A p c]
 rw [<- hW]
 clear hW
 intro w1 hblk hb1
 have P1:=aH (P0.o.below hb1 (by omega))
 have B1:=aH (PB.o.trans (hb1.mono (by omega)))
 have LB:=aH hblk
 clear hblk hb1
 obtain ⟨p0,p1,p2,_,_,_⟩:=P1.o.three
 have s1:w.heap.size + 1 < w1.heap.size:=LB.o.lt
 have s1':w.heap.size < w1.heap.size:=P1.o.lt
 go_wp2_with fail
 obtain ⟨W2,hW2⟩:∃ W2,W2 = w1.alloc (.map #[] 0):=⟨_,rfl⟩
 have M0:Hd (TMap aV (Value.int .i64) W2 120 w1.heap.size ([]:List (List Int × Int))):=aH (by rw [hW2]; exact TMap.made _ _ _ _)
 have b2:Below w1.heap.size w1 W2:=by rw [hW2]; exact (Below.refl _ w1).alloc (nR _) _
 have B2:=aH (B1.o.trans (b2.mono (by omega)))
 have P2:=aH (P1.o.below' b2)
 have LB2:=aH (LB.o.below' b2)
 rw [<- hW2]
 clear hW2 b2 p0 p1 p2 B1 P1 LB
 go_loopg [21] p (fun gh i wr=>∃ (j:Nat),i = .int .i64 j/\j + gh = p/\Hd (∃ m,TMap aV (Value.int .i64) wr 120 w1.heap.size m/\NiceS O m/\Cnt m (tot 0 (gs.take j))/\m.length <= j)/\Hd (Blk wr w.heap.size 27 [.int .i64 O,.int .i64 V,.slice A p c])/\Hd (Blk wr (w.heap.size + 1) 205 (List.replicate (O + 1) (.map none)))/\Hd (Below w.heap.size w wr))
 case atStart=>exact ⟨0,rfl,by omega,aH ⟨[],M0.o,⟨List.nodup_nil,fun e he=>by cases he⟩,Cnt.nil.congr (fun k=>rfl),by simp⟩,P2,LB2,B2⟩
 clear M0 P2 LB2 B2
 obtain ⟨j,rfl,hj,HM,P2,LB2,BEL⟩:=hrel
 have hwz:w.heap.size <= wr.heap.size:=BEL.o.size
 have hmlt:w1.heap.size < wr.heap.size:=by obtain ⟨m,h,_⟩:=HM.o; exact h.lt
 rcases zP gk with h | h
 ·obtain rfl:j = p:=by omega
  obtain ⟨p0,p1,p2,_,_,_⟩:=P2.o.three
  obtain ⟨m0,hm0,hm0s,hm0c,hm0l⟩:=HM.o
  have MLEN:=aH hm0l
  have MM:=aH hm0
  have MS:=aH hm0s
  have MC:Hd (Cnt m0 (tot 0 gs)):=aH (by rwa [tL (by rw [HP.o]; exact nR _)] at hm0c)
  clear HM hm0 hm0s hm0c hm0l hj
  go_wp2_with fail
  have LV0:Hd (LvsAt wr (w.heap.size + 1) O O gs):=aH ⟨_,LB2.o,by simp,fun j h1 h2=>by omega⟩
  go_loopg [4,7] O (fun n v i wz=>i = .int .i64 n/\n <= O/\Hd (LvsAt wz (w.heap.size + 1) O n gs)/\Hd (∃ bs m,v = .map (some bs)/\TMap aV (Value.int .i64) wz 120 bs m/\NiceS n m/\Cnt m (tot (O - n) gs)/\m.length <= j)/\Hd (Below w.heap.size w wz))
  case atStart=>exact ⟨rfl,nR _,LV0,aH ⟨_,_,rfl,MM.o,MS.o,MC.o.congr (fun k=>by rw [Nat.sub_self]),MLEN.o⟩,BEL⟩
  clear LV0 MM MS MC MLEN BEL p0 p1 p2 P2 LB2 hwz hmlt
  obtain ⟨rfl,hnO,LV,MM,BEL⟩:=hrel
  rcases zP gk with h' | h'
  ·subst h'
   have b0:decide (((0:Nat):Int) > 0) = false:=dF (by omega)
   go_wp2_with fail
   go_ret
   exact ⟨_,rfl,LV.o,BEL.o⟩
  obtain ⟨d,rfl⟩:∃ d,gk = d + 1:=⟨gk - 1,by omega⟩
  have b0:decide (0 < d + 1) = true:=dT h'
  have b1:decide ((0:Int) < ((d + 1:Nat):Int)) = true:=dT (by omega)
  have b2:decide ((0:Int) < (d:Int) + 1) = true:=dT (by omega)
  obtain ⟨bs,m,rfl,hm,hms,hmc,hml⟩:=MM.o
  obtain ⟨xs,hx1,hx2,hx3⟩:=LV.o
  have hwz:w.heap.size <= wr.heap.size:=BEL.o.size
  have hbo:w.heap.size + 1 < wr.heap.size:=hx1.lt
  obtain ⟨u0,c0⟩:∃ u0,wr.cell? ⟨w.heap.size + 1,(d + 1),none⟩ = some u0:=⟨_,(hx1.cell (d + 1)).trans (eG (by omega))⟩
  have z0:=hx1.frozen (d + 1)
  have j1:(0:Int) <= ((d + 1:Nat):Int):=by omega
  have j2:((d + 1:Nat):Int) < (O:Int) + 1:=by omega
  have j3:(0:Int) <= (d:Int) + 1:=by omega
  have j4:(d:Int) + 1 < (O:Int) + 1:=by omega
  have j5:((d:Int) + 1).toNat = d + 1:=by omega
  have hbs:bs < wr.heap.size:=hm.lt
  obtain ⟨W3,hW3⟩:∃ W3,W3 = ((wr.setCell ⟨w.heap.size + 1,(d + 1),none⟩ (.map (some wr.heap.size))).alloc (.map #[] 0)).alloc (.map #[] 0):=⟨_,rfl⟩
  have hs3:W3.heap.size = wr.heap.size + 2:=by rw [hW3]; simp
  -- what lies below is as it was,but for the one cell
  obtain ⟨Ws,hWs⟩:∃ Ws,Ws = wr.setCell ⟨w.heap.size + 1,d + 1,none⟩ (.map (some wr.heap.size)):=⟨_,rfl⟩
  have hss:Ws.heap.size = wr.heap.size:=by rw [hWs]; simp
  have B3:Hd (Below wr.heap.size Ws W3):=aH (by
   rw [hW3,<- hWs]
   exact ((Below.refl _ _).alloc (by omega) _).alloc (by simp; omega) _)
  have L3:Hd (LevO W3 wr.heap.size (wr.heap.size + 3) (d + 1) [] []):=aH (by
   rw [hW3,<- hWs]
   have:=LevO.start Ws (d + 1) (wr.heap.size + 3) (by omega)
   rw [hss] at this
   exact this.below ((Below.refl _ _).alloc (nR _) _))
  have N3:Hd (TMap aV (Value.int .i64) W3 120 (wr.heap.size + 1) ([]:List (List Int × Int))):=aH (by
   rw [hW3,<- hWs]
   have:=TMap.made (Ws.alloc (.map #[] 0)) aV (Value.int .i64) 120
   rwa [World.size_alloc,hss] at this)
  have LVS:Hd (LvsAt Ws (w.heap.size + 1) O (d + 1) gs):=aH (by
   rw [hWs]
   refine ⟨_,hx1.set_ (d + 1) _,by simpa using hx2,fun j h1 h2=>?_⟩
   obtain ⟨bj,base,S,e,hl,hr⟩:=hx3 j h1 h2
   exact ⟨bj,base,S,by rw [sN (by omega)]; exact e,hl.far c0 _,hr⟩)
  have CS:Hd (Ws.cell? ⟨w.heap.size + 1,d + 1,none⟩ = some (.map (some wr.heap.size))):=aH (by
   rw [hWs]
   exact World.cell?_setCell_same' _ _ _ (by rw [c0]; rfl))
  have MS:Hd (TMap aV (Value.int .i64) Ws 120 bs m):=aH (by rw [hWs]; exact hm.far (p:=⟨w.heap.size + 1,d + 1,none⟩) (hm.ne c0) _)
  have BS:Hd (Below w.heap.size w Ws):=aH (by rw [hWs]; exact BEL.o.setCell (p:=⟨w.heap.size + 1,d + 1,none⟩) (show w.heap.size <= w.heap.size + 1 by omega) _)
  have HSS:=aH hss
  have M3:=aH (MS.o.low hbs B3.o)
  have HMS:=aH hms
  have HMC:=aH hmc
  have HML:=aH hml
  clear hm hms hmc hml hx1 hx2 hx3 MM LV hss hWs
  go_upto_region 13 with fail
  rw [<- hW3]
  clear hW3 c0 z0
  go_wp2_with (refine eJ rfl _ _ rfl 120 3 Tryz.underlying115 bs _ rfl M3.o ?_)
  intro w4 hm4 hi4 hb4' hs4
  have hb4:Below W3.heap.size W3 w4:=by rw [hs3]; exact hb4'
  obtain ⟨wo,hwo⟩:∃ wo,wo = wr:=⟨_,rfl⟩
  subst hwo
  have I4:Hd (IterAt w4 (wo.heap.size + 2) bs m.length []):=aH (by simpa [cR] using hi4)
  have L4:Hd (LevAt w4 wo.heap.size (wo.heap.size + 3) (d + 1) []):=aH ⟨[],L3.o.below hb4⟩
  have N4:Hd (∃ nx,TMap aV (Value.int .i64) w4 120 (wo.heap.size + 1) nx/\NxS d 0 nx/\Cnt nx (fun k=>cA (fun x=>x.drop 1 == k) [])):=aH ⟨[],N3.o.below hb4,⟨by simp,fun e he=>by cases he⟩,Cnt.nil.congr (fun k=>rfl)⟩
  have B4:Hd (Below wo.heap.size Ws w4):=aH (B3.o.trans (hb4.mono (by omega)))
  have hs4':wo.heap.size + 3 <= w4.heap.size:=by omega
  clear hm4 hi4 hb4 hb4' hs4 L3 N3 M3 B3 hs3
  go_wp2_with fail
  go_loopg [9,10,11,12] m.length (fun gh _ _ _ _ wz=>∃ vis:List Nat,vis.length + gh = m.length/\Hd (vis.Nodup/\∀ i ∈ vis,i < m.length)/\Hd (IterAt wz (wo.heap.size + 2) bs m.length vis)/\Hd (LevAt wz wo.heap.size (wo.heap.size + 3) (d + 1) (cS m vis)) /\
   Hd (∃ nx,TMap aV (Value.int .i64) wz 120 (wo.heap.size + 1) nx/\NxS d vis.length nx/\Cnt nx (fun k=>cA (fun x=>x.drop 1 == k) (cS m vis)))/\Hd (Below wo.heap.size Ws wz)/\wo.heap.size + 3 <= wz.heap.size)
  case atStart=>exact ⟨[],by simp,aH ⟨List.nodup_nil,fun i hi=>by cases hi⟩,I4,L4,N4,B4,hs4'⟩
  clear I4 L4 N4 B4 BEL hs4'
  obtain ⟨vis,hvl,VIS,I4,L4,N4,B4,hs4'⟩:=hrel
  have M4:=aH (MS.o.low hbs B4.o)
  have I5:Hd (IterAt wr (wo.heap.size + 2) bs (cR aV (Value.int .i64) m).length vis):=aH (by simpa [cR] using I4.o)
  go_wp2_with (refine fe rfl _ rfl 120 bs (wo.heap.size + 2) (cR aV (Value.int .i64) m) vis rfl M4.o I5.o ?done ?more)
  case done =>
   intro hdone
   have HPM:Hd ((cS m vis).Perm m):=aH (kA VIS.o.1 VIS.o.2 (fun j hj=>hdone j (by simpa [cR] using hj)))
   clear hdone I5
   go_wp2_with fail
   go_roundg d
   case measure=>omega
   case rel =>
    obtain ⟨nx,hn1,hn2,hn3⟩:=N4.o
    have hnx:=uG hnO (fun g hg=>(HNI.o g hg).2.2) (by rw [HP.o]; exact hl) HMC.o HPM.o hn2 hn3
    have hbw:Below Ws.heap.size Ws wr:=by rw [HSS.o]; exact B4.o
    exact ⟨by simp,by omega,aH ((LVS.o.below hbw).step ((hbw.cell (p:=⟨w.heap.size + 1,d + 1,none⟩) (by rw [HSS.o]; exact hbo)).trans CS.o) L4.o (HMS.o.of_perm HPM.o) (HMC.o.of_perm HPM.o) (by rw [HPM.o.length_eq]; have:=HML.o; omega)),aH ⟨_,nx,rfl,hn1,hnx.1,hnx.2,by have:=hn2.1; have:=HML.o; omega⟩,aH (BS.o.trans (B4.o.mono hwz))⟩
  case more =>
   intro i xk xv w5 hx hiv hm5 hi5 hent hg5 hs5
   rw [fq] at hx
   obtain ⟨e,he,rfl,rfl⟩:∃ e,m[i]? = some e/\aV e.1 = xk/\Value.int .i64 e.2 = xv:=by
    cases h:m[i]? with
    | none=>rw [h] at hx; cases hx
    | some e=>rw [h] at hx; simp only [Option.map_some,Option.some.injEq,Prod.mk.injEq] at hx; exact ⟨e,rfl,hx.1,hx.2⟩
   clear hx
   have hne:=HMS.o.2 e (mG he)
   have HNE:=aH hne
   have hil:=(sI.1 he).1
   have VIS5:Hd ((vis ++ [i]).Nodup/\∀ k ∈ vis ++ [i],k < m.length):=aH ⟨List.nodup_append.2 ⟨VIS.o.1,by simp,fun a ha b hb e=>by simp at hb; subst hb; subst e; exact hiv ha⟩,fun k hk=>by rcases List.mem_append.1 hk with hk | hk; exact VIS.o.2 k hk; rw [List.mem_singleton.1 hk]; exact hil⟩
   have hgk:0 < gk:=by have:=jB VIS5.o.1 VIS5.o.2; rw [List.length_append,List.length_singleton] at this; omega
   have HFR:=aH (nW HMS.o.1 VIS.o.2 hiv he)
   have HSN:=aH (kz m vis he)
   have HSL:Hd (∀ x ∈ cS m vis,x.1.length = d + 1):=aH (fun x hx=>(HMS.o.2 x (rm VIS.o.2 x hx)).1)
   have hs5':wo.heap.size + 3 <= w5.heap.size:=by omega
   have J5:Hd (IterAt w5 (wo.heap.size + 2) bs m.length (vis ++ [i])):=aH (by simpa [cR] using hi5)
   have L5:Hd (LevAt w5 wo.heap.size (wo.heap.size + 3) (d + 1) (cS m vis)):=aH (L4.o.kept hg5 (by omega) (by omega))
   have N5:Hd (∃ nx,TMap aV (Value.int .i64) w5 120 (wo.heap.size + 1) nx/\NxS d vis.length nx/\Cnt nx (fun k=>cA (fun x=>x.drop 1 == k) (cS m vis))):=aH (by
    obtain ⟨nx,h1,h2,h3⟩:=N4.o
    exact ⟨nx,h1.kept hg5 (fun e=>by injection e; omega),h2,h3⟩)
   have B5:Hd (Below wo.heap.size Ws w5):=aH (B4.o.grown hg5 (by omega) (fun k e=>by cases e; omega))
   clear hm5 hi5 hg5 he hne I5 I4 hs5 L4 N4 B4 M4
   obtain ⟨ks,c⟩:=e
   simp only at hent HNE HFR
   obtain ⟨a0,a1,a2,a3,hks⟩:=oK (bD (by rw [HNE.o.1]; omega:ks.length <= 4))
   have hkv:aV ks = .agg #[.int .i64 a0,.int .i64 a1,.int .i64 a2,.int .i64 a3]:=by unfold aV; rw [hks]; rfl
   rw [hkv] at hent ⊢
   have HKV:=aH hkv
   have HKS:=aH hks
   clear hkv hks
   have q0:(0:Int) <= (d:Int):=by omega
   have q1:(d:Int) < 4:=by omega
   have HKD:Hd ([Value.int .i64 a0,.int .i64 a1,.int .i64 a2,.int .i64 a3][d]? = some (.int .i64 (ks.getD d 0 + 1))):=aH (by
    have h1:=pf (l:=ks) (d:=d) (by rw [HNE.o.1]; omega)
    rw [HKS.o] at h1
    have h2:=congrArg (Option.map (Value.int .i64)) h1
    rw [<- List.getElem?_map] at h2
    exact h2)
   obtain ⟨b0',b1',b2',b3',hbs⟩:=oK (bD (l:=ks.take d) (by rw [List.length_take]; omega))
   have HHV:Hd (aV (ks.take d) = .agg #[.int .i64 b0',.int .i64 b1',.int .i64 b2',.int .i64 b3']):=aH (by unfold aV; rw [hbs]; rfl)
   have HHS:Hd ([Value.int .i64 a0,.int .i64 a1,.int .i64 a2,.int .i64 a3].set d (.int .i64 0) = [.int .i64 b0',.int .i64 b1',.int .i64 b2',.int .i64 b3']):=aH (by
    have h1:=sB HNE.o.1 (by rw [HNE.o.1]; omega)
    rw [hbs,HKS.o] at h1
    have h2:=congrArg (List.map (Value.int .i64)) h1
    rw [List.map_set] at h2
    exact h2)
   have HNT:Hd (NiceK (ks.take d)):=aH ⟨by rw [List.length_take]; omega,fun z hz=>HNE.o.2.1.2 z (List.mem_of_mem_take hz)⟩
   clear hbs
   go_upto_region 17 with fail
   obtain ⟨W5,hW5,K0,K1,KB,Khs⟩:=cP w5 120 [.int .i64 a0,.int .i64 a1,.int .i64 a2,.int .i64 a3] 120 [.int .i64 a0,.int .i64 a1,.int .i64 a2,.int .i64 a3]
   rw [<- hW5]
   clear hW5
   have f0:W5.cell? ⟨w5.heap.size + 1,d,none⟩ = some (.int .i64 (ks.getD d 0 + 1)):=(K1.o.cell d).trans HKD.o
   have f1:=K1.o.frozen d
   obtain ⟨W6,hW6⟩:∃ W6,W6 = W5.setCell ⟨w5.heap.size + 1,d,none⟩ (.int .i64 0):=⟨_,rfl⟩
   go_upto_region 18 with fail
   rw [<- hW6]
   have k6:w5.heap.size + 2 <= W6.heap.size:=by rw [hW6,World.size_setCell]; exact Khs
   have B56:Hd (Below w5.heap.size w5 W6):=aH (by rw [hW6]; exact KB.o.setCell (p:=⟨w5.heap.size + 1,d,none⟩) (show w5.heap.size <= w5.heap.size + 1 by omega) _)
   have H6:Hd (Blk W6 (w5.heap.size + 1) 120 [.int .i64 b0',.int .i64 b1',.int .i64 b2',.int .i64 b3']):=aH (by rw [hW6,<- HHS.o]; exact K1.o.set_ d _)
   have K6:Hd (Blk W6 w5.heap.size 120 [.int .i64 a0,.int .i64 a1,.int .i64 a2,.int .i64 a3]):=aH (by rw [hW6]; exact K0.o.far (p:=⟨w5.heap.size + 1,d,none⟩) (show w5.heap.size ≠ w5.heap.size + 1 by omega) _)
   have B6:=aH (B5.o.trans (B56.o.mono (by omega)))
   have J6:=aH (J5.o.below B56.o)
   have L6:=aH (L5.o.below B56.o)
   have N6:Hd (∃ nx,TMap aV (Value.int .i64) W6 120 (wo.heap.size + 1) nx/\NxS d vis.length nx/\Cnt nx (fun k=>cA (fun x=>x.drop 1 == k) (cS m vis))):=aH (by
    obtain ⟨nx,h1,h2,h3⟩:=N5.o
    exact ⟨nx,h1.below B56.o,h2,h3⟩)
   generalize w5.heap.size = z5 at *
   have k5:z5 + 2 <= W6.heap.size:=k6
   clear hW6 f0 f1 hent K0 K1 KB Khs B56 J5 L5 N5 B5
   obtain ⟨outer,ho6⟩:=L6.o
   have O6:=aH ho6
   have o6:W6.cell? ⟨w.heap.size + 1,d + 1,none⟩ = some (.map (some wo.heap.size)):=(B6.o.cell (p:=⟨w.heap.size + 1,d + 1,none⟩) hbo).trans CS.o
   have h60:=H6.o.cell 0
   have h61:=H6.o.cell 1
   have h62:=H6.o.cell 2
   have h63:=H6.o.cell 3
   simp only [List.getElem?_cons_zero,List.getElem?_cons_succ] at h60 h61 h62 h63
   have v1:w.heap.size + 1 < W6.heap.size:=by omega
   have v2:z5 + 1 < W6.heap.size:=by omega
   clear ho6 L6
   obtain ⟨ov,hov⟩:=nm (aC outer (ks.take d))
   have HOV:=aH hov
   obtain ⟨vv,hvv⟩:=nm (ov.elim (.map none) tV)
   obtain ⟨tb,htb⟩:=nm (ov.isNone)
   have hlook2:∀ n,(Instr.lookup 205 (.map (some wo.heap.size)) (.agg #[.int .i64 b0',.int .i64 b1',.int .i64 b2',.int .i64 b3']) false).run Tryz.prog (W6.drewN n) = .ok vv (W6.drewN n):=fun n=>by
    have:=(O6.o.below (ak (Below.refl _ _) n)).look HNT.o
    rw [HHV.o,hov,hvv] at this
    exact this
   have hmn:∀ w,(binOp BinOp.eql 206 vv (Value.map none)).run Tryz.prog w = .ok (.bool tb) w:=fun w=>by
    cases ov with
    | none=>rw [<- hvv,<- htb]; exact uJ w
    | some b=>rw [<- hvv,<- htb]; exact uI b w
   have hgd:∀ w,(eqGuard BinOp.eql 206 (Operand.tmp 59) (Operand.const (Value.map none)) vv (Value.map none)).run Tryz.prog w = .ok () w:=fun w=>by
    cases ov with
    | none=>rw [<- hvv]; kernel_rfl
    | some b=>rw [<- hvv]; kernel_rfl
   have HTB:=aH htb
   clear hov hvv htb
   go_quiet (fail)
   go_upto_if 60 with fail
   obtain ⟨W7,hW7⟩:∃ W7,W7 = W6.drewN nq:=⟨_,rfl⟩
   have B67:Hd (Below W6.heap.size W6 W7):=aH (by rw [hW7]; exact ak (Below.refl _ _) _)
   rw [<- hW7]
   have B7:=aH (B6.o.trans (B67.o.mono (by omega)))
   have J7:=aH (J6.o.below B67.o)
   have O7:=aH (O6.o.below B67.o)
   have N7:Hd (∃ nx,TMap aV (Value.int .i64) W7 120 (wo.heap.size + 1) nx/\NxS d vis.length nx/\Cnt nx (fun k=>cA (fun x=>x.drop 1 == k) (cS m vis))):=aH (by
    obtain ⟨nx,h1,h2,h3⟩:=N6.o
    exact ⟨nx,h1.below B67.o,h2,h3⟩)
   have H7:=aH (H6.o.below' B67.o)
   have K7:=aH (K6.o.below' B67.o)
   have k7:z5 + 2 <= W7.heap.size:=Nat.le_trans k5 B67.o.size
   clear hW7 hlook2 hmn hgd h60 h61 h62 h63 o6 v1 v2 B67 B6 J6 O6 N6 H6 K6 k5 k6
   go_cut [60] (fun _ wc=>Hd (Below wo.heap.size Ws wc)/\Hd (IterAt wc (wo.heap.size + 2) bs m.length (vis ++ [i]))/\Hd (∃ nx,TMap aV (Value.int .i64) wc 120 (wo.heap.size + 1) nx/\NxS d vis.length nx/\Cnt nx (fun k=>cA (fun x=>x.drop 1 == k) (cS m vis))) /\
    Hd (∃ outer bi,LevO wc wo.heap.size (wo.heap.size + 3) (d + 1) (cS m vis) outer/\aC outer (ks.take d) = some bi)/\Hd (Blk wc z5 120 [.int .i64 a0,.int .i64 a1,.int .i64 a2,.int .i64 a3])/\Hd (Blk wc (z5 + 1) 120 [.int .i64 b0',.int .i64 b1',.int .i64 b2',.int .i64 b3'])/\z5 + 2 <= wc.heap.size)
   case first =>
    cases ov with
    | some bi =>
     cases HTB.o
     go_wp2_with fail
     go_meet
     exact ⟨B7,J7,N7,aH ⟨outer,bi,O7.o,HOV.o⟩,K7,H7,k7⟩
    | none =>
     cases HTB.o
     go_wp2_with fail
     have o7:W7.cell? ⟨w.heap.size + 1,d + 1,none⟩ = some (.map (some wo.heap.size)):=(B7.o.cell (p:=⟨w.heap.size + 1,d + 1,none⟩) hbo).trans CS.o
     have h70:=H7.o.cell 0
     have h71:=H7.o.cell 1
     have h72:=H7.o.cell 2
     have h73:=H7.o.cell 3
     simp only [List.getElem?_cons_zero,List.getElem?_cons_succ] at h70 h71 h72 h73
     have A7:Below W7.heap.size W7 (W7.alloc (.map #[] 0)).drew:=((Below.refl W7.heap.size W7).alloc (nR _) (.map #[] 0)).drew
     have O8':=aH (O7.o.below A7)
     have hm7:TMap (Value.int .i64) (Value.int .i64) (W7.alloc (.map #[] 0)).drew 3 W7.heap.size ([]:List (Int × Int)):=(TMap.made W7 _ _ _).drew
     have hfr7:∀ e ∈ outer,e.2 ≠ W7.heap.size:=fun e he h=>by have:=(O7.o.2.2.2.2.1 e he).lt; omega
     obtain ⟨W8,hup,hO8,hg8⟩:=O8'.o.insert HNT.o HOV.o hm7 (by omega) hfr7
     rw [HHV.o] at hup
     have u1:w.heap.size + 1 < W7.heap.size:=by omega
     have u2:z5 + 1 < W7.heap.size:=by omega
     have HL8:Hd (aC (outer ++ [(ks.take d,W7.heap.size)]) (ks.take d) = some W7.heap.size):=aH (by
      rw [ie,HOV.o]
      simp [aC])
     have O8:=aH hO8
     have G8:=aH hg8
     have B78:=aH A7
     have s78:W7.heap.size <= (W7.alloc (.map #[] 0)).drew.heap.size:=A7.size
     clear hm7 hfr7 A7 hO8 hg8
     go_region_with (fail)
     all_goals
      go_wp2_with fail
      go_meet
      exact ⟨aH ((B7.o.trans (B78.o.mono (by omega))).grown G8.o (by omega) (fun k e=>by cases e; omega)),aH ((J7.o.below B78.o).kept G8.o (fun e=>by injection e; omega)),aH (by obtain ⟨nx,h1,h2,h3⟩:=N7.o; exact ⟨nx,(h1.below B78.o).kept G8.o (fun e=>by injection e; omega),h2,h3⟩),aH ⟨_,_,O8.o,HL8.o⟩,aH ((K7.o.below' B78.o).grown G8.o (fun e=>by injection e; omega)),aH ((H7.o.below' B78.o).grown G8.o (fun e=>by injection e; omega)),Nat.le_trans (by omega) G8.o.size⟩
   obtain ⟨B9,J9,N9,O9,K9,H9,k9⟩:=hcut
   obtain ⟨outer',bi,ho9,hl9⟩:=O9.o
   have HNX:Hd (0 <= ks.getD d 0/\ks.getD d 0 <= 1000000):=aH (by
    rw [gD,eG (by rw [HNE.o.1]; omega)]
    exact HNE.o.2.1.2 _ (List.getElem_mem _))
   obtain ⟨y,hy⟩:=nm (ks.getD d 0)
   have HY:=aH hy
   rw [hy] at HNX HKD
   have y0:=HNX.o.1
   have y1:=HNX.o.2
   have o9:wc.cell? ⟨w.heap.size + 1,d + 1,none⟩ = some (.map (some wo.heap.size)):=(B9.o.cell (p:=⟨w.heap.size + 1,d + 1,none⟩) hbo).trans CS.o
   have h90:=H9.o.cell 0
   have h91:=H9.o.cell 1
   have h92:=H9.o.cell 2
   have h93:=H9.o.cell 3
   simp only [List.getElem?_cons_zero,List.getElem?_cons_succ] at h90 h91 h92 h93
   have k90:wc.cell? ⟨z5,d,none⟩ = some (.int .i64 (y + 1)):=(K9.o.cell d).trans HKD.o
   have hlook:(Instr.lookup 205 (.map (some wo.heap.size)) (.agg #[.int .i64 b0',.int .i64 b1',.int .i64 b2',.int .i64 b3']) false).run Tryz.prog wc.drew = .ok (.map (some bi)) wc.drew:=by
    have:=(ho9.below (bS wc)).look HNT.o
    rw [HHV.o,hl9] at this
    exact this
   obtain ⟨WA,hup,hoA,hgA⟩:=(ho9.below (bS wc)).put (e:=(ks,c)) (bi:=bi) (by omega) HNE.o.1 HNE.o.2.1 (fun x hx=>⟨HSL.o x hx,HFR.o x hx⟩) hl9
   have hup2:(Instr.mapUpdate 206 (.map (some bi)) (.int .i64 y) (.int .i64 c)).run Tryz.prog wc.drew = .ok () WA:=by
    rw [<- HY.o]; exact hup
   have OA:=aH hoA
   have GA:=aH hgA
   have hbi:wo.heap.size + 3 <= bi:=ho9.2.2.2.1 _ (br hl9)
   have hne1:bi ≠ z5:=(ho9.2.2.2.2.1 _ (br hl9)).ne (p:=⟨z5,d,none⟩) k90
   have q2:(0:Int) <= (d:Int) + 1 - 1:=by omega
   clear hup hoA hgA ho9 hl9 hy O9
   have x1:IntKind.i64.wrap ((d:Int) + 1 - 1) = (d:Int):=by rw [Int.add_sub_cancel]; exact iI _ (by omega)
   have x2:IntKind.i64.wrap (y + 1 - 1) = y:=by rw [Int.add_sub_cancel]; exact iI _ (by omega)
   have x3:IntKind.i64.wrap (d:Int) = (d:Int):=iI _ (by omega)
   have x4:IntKind.i64.wrap y = y:=iI _ (by omega)
   go_upto_region 20 with fail
   go_cut [67] (fun _ wd=>Hd (Below wo.heap.size Ws wd)/\Hd (IterAt wd (wo.heap.size + 2) bs m.length (vis ++ [i]))/\Hd (∃ nx,TMap aV (Value.int .i64) wd 120 (wo.heap.size + 1) nx/\NxS d vis.length nx/\Cnt nx (fun k=>cA (fun x=>x.drop 1 == k) (cS m vis))) /\
    Hd (LevAt wd wo.heap.size (wo.heap.size + 3) (d + 1) (cS m (vis ++ [i])))/\Hd (Blk wd z5 120 [.int .i64 a0,.int .i64 a1,.int .i64 a2,.int .i64 a3])/\z5 + 2 <= wd.heap.size)
   case first =>
    go_region_with (fail)
    all_goals
     go_wp2_with fail
     go_meet
     have D9:Below wc.heap.size wc wc.drew:=bS _
     exact ⟨aH (B9.o.drew.grown GA.o (by show wo.heap.size <= wc.heap.size; omega) (fun k e=>by cases e; omega)),aH ((J9.o.below D9).kept GA.o (fun e=>by injection e; omega)),aH (by obtain ⟨nx,h1,h2,h3⟩:=N9.o; exact ⟨nx,(h1.below D9).kept GA.o (fun e=>by injection e; omega),h2,h3⟩),aH ⟨_,by rw [HSN.o]; exact OA.o⟩,aH ((K9.o.below' D9).grown GA.o (fun e=>by injection e; omega)),Nat.le_trans k9 GA.o.size⟩
   clear x1 x2 x3 x4 B9 J9 N9 K9 H9 k9 OA GA hup2 hlook h90 h91 h92 h93 k90 o9 hne1 hbi
   obtain ⟨B9,J9,N9,L9,K9,k9⟩:=hcut
   go_wp2_with fail
   obtain ⟨WD,hWD,D0,DB,Dhs⟩:=aA wc 120 [.int .i64 0,.int .i64 0,.int .i64 0,.int .i64 0]
   rw [<- hWD]
   clear hWD
   have KD:=aH (K9.o.below' DB.o)
   have HG:WD.drew.heap[wc.heap.size]? = some (.cells [Value.int .i64 0,.int .i64 0,.int .i64 0,.int .i64 0].toArray 120 (0,0)):=D0.o
   obtain ⟨cs,hcs⟩:∃ cs,cs = (((dG ks).drop 1).take d).map (Value.int .i64):=⟨_,rfl⟩
   have hcl:cs.length = d:=by
    have:=bD (l:=ks) (by rw [HNE.o.1]; omega)
    rw [hcs,List.length_map,List.length_take,List.length_drop]
    omega
   have HCL:=aH hcl
   have HC1:Hd (∀ j v,cs[j]? = some v->WD.drew.cell? ((⟨z5,1,none⟩:Addr).add j) = some v):=aH (by
    intro j v hv
    rw [hcs,List.getElem?_map] at hv
    have hj:j < d:=by
     have h1:=(sI.1 (by rw [hcs,List.getElem?_map]; exact hv:cs[j]? = some v)).1
     omega
    rw [List.getElem?_take_of_lt hj,List.getElem?_drop,<- List.getElem?_map] at hv
    rw [Addr.add_lit]
    refine (KD.o.cell (1 + j)).trans ?_
    have e:(dG ks).map (Value.int .i64) = [.int .i64 a0,.int .i64 a1,.int .i64 a2,.int .i64 a3]:=by rw [HKS.o]; rfl
    rw [<- e]
    exact hv)
   have HC2:Hd (∀ v ∈ cs,v.oneCell' = true):=aH (fun v hv=>by
    rw [hcs] at hv
    obtain ⟨x,_,rfl⟩:=List.mem_map.1 hv
    rfl)
   have HCS:=aH hcs
   clear hcl hcs
   have x1:((d:Int) + 1).toNat = d + 1:=by omega
   have x2:(0:Int) <= (d:Int) + 1:=by omega
   have x3:(1:Int) <= (d:Int) + 1:=by omega
   have x4:(d:Int) + 1 <= 4:=by omega
   go_region_law (refine step_copy_splice rfl (.tmp 79) (.tmp 81) 44 44 rfl 3 Tryz.underlying44 (by kernel_rfl) (some ⟨wc.heap.size,0,none⟩) (some ⟨z5,1,none⟩) 4 4 d 3 rfl rfl wc.heap.size 0 [.int .i64 0,.int .i64 0,.int .i64 0,.int .i64 0] 120 HG cs (by rw [HCL.o]; exact (Nat.min_eq_left (by omega)).symm) (fun _=>⟨rfl,_,rfl,HC1.o⟩) (by rw [HCL.o]; simp; omega) HC2.o wc.heap.size WD (Below.refl _ _).drew (nR _) ?_; intro w4 hg4 hb4)
   go_upto_region 23 with fail
   obtain ⟨c0',c1',c2',c3',hcc⟩:=oK (bD (l:=ks.drop 1) (by rw [List.length_drop,HNE.o.1]; omega))
   have HCV:Hd (aV (ks.drop 1) = .agg #[.int .i64 c0',.int .i64 c1',.int .i64 c2',.int .i64 c3']):=aH (by unfold aV; rw [hcc]; rfl)
   have Q4:Hd (Blk w4 wc.heap.size 120 [.int .i64 c0',.int .i64 c1',.int .i64 c2',.int .i64 c3']):=aH (by
    have e:splice [Value.int .i64 0,.int .i64 0,.int .i64 0,.int .i64 0] 0 cs = [.int .i64 c0',.int .i64 c1',.int .i64 c2',.int .i64 c3']:=by
     have h1:=su (l:=ks) (d:=d) HNE.o.1 (by omega)
     rw [hcc] at h1
     have h2:=congrArg (List.map (Value.int .i64)) h1
     rw [List.map_append,<- HCS.o] at h2
     unfold splice
     rw [HCL.o,List.take_zero,List.nil_append,Nat.zero_add]
     have h3:([Value.int .i64 0,.int .i64 0,.int .i64 0,.int .i64 0]:List Value).drop d = (List.replicate (4 - d) (0:Int)).map (Value.int .i64):=by
      rw [List.map_replicate]
      have:[Value.int .i64 0,.int .i64 0,.int .i64 0,.int .i64 0] = List.replicate 4 (Value.int .i64 0):=rfl
      rw [this,List.drop_replicate]
     rw [h3,h2]
     rfl
    unfold Blk
    rw [<- e]
    exact hg4.out)
   have HND:Hd (NiceK (ks.drop 1)/\(ks.drop 1).length = d):=aH ⟨⟨by rw [List.length_drop,HNE.o.1]; omega,fun z hz=>HNE.o.2.1.2 z (List.mem_of_mem_drop hz)⟩,by rw [List.length_drop,HNE.o.1]; omega⟩
   have B4:Hd (Below wc.heap.size wc w4.drew):=aH (DB.o.trans hb4).drew
   have B10:=aH (B9.o.trans (B4.o.mono (by omega)))
   have J10:=aH (J9.o.below B4.o)
   have L10:=aH (L9.o.below B4.o)
   have q40:=Q4.o.cell 0
   have q41:=Q4.o.cell 1
   have q42:=Q4.o.cell 2
   have q43:=Q4.o.cell 3
   simp only [List.getElem?_cons_zero,List.getElem?_cons_succ] at q40 q41 q42 q43
   obtain ⟨nx,hnx1,hnx2,hnx3⟩:=N9.o
   obtain ⟨v,hv⟩:=nm ((aC nx (ks.drop 1)).getD 0)
   have HV:=aH hv
   have hvb:0 <= v/\v <= vis.length * 21474836480000:=by
    rw [<- hv]
    cases hl:aC nx (ks.drop 1) with
    | none=>exact ⟨Int.le_refl _,by show (0:Int) <= _; omega⟩
    | some u=>have:=hnx2.2 _ (br hl); exact ⟨Int.le_of_lt this.2.2.1,this.2.2.2⟩
   have hvl2:vis.length <= 20000:=by have:=HML.o; omega
   have hcb:=HNE.o.2.2
   have hwrap:IntKind.i64.wrap (v + c) = v + c:=iI _ (by omega)
   have HM2:TMap aV (Value.int .i64) w4.drew 120 (wo.heap.size + 1) nx:=hnx1.below B4.o
   have inj:∀ e ∈ nx,aV e.1 = aV (ks.drop 1)->e.1 = ks.drop 1:=fun e he h=>(hnx2.2 e he).2.1.inj HND.o.1 h
   have hlook:=HM2.look dW Tryz.underlying115 (fV w4.drew) HND.o.1.good inj
   obtain ⟨jj,w3,hent,hmid,hg3,hlook3⟩:=HM2.entry dW Tryz.underlying115 fV HND.o.1.good inj
   rw [kZ,HV.o,HCV.o] at hlook hent hlook3
   obtain ⟨wE,hst,hTE,hgE⟩:=hmid.store (t:=115) (v + c)
   have TE:=aH hTE
   have GE:Hd (∃ w3,w4.drew.grownBy w3 (some (wo.heap.size + 1))/\w3.grownBy wE (some (wo.heap.size + 1))):=aH ⟨w3,hg3,hgE⟩
   have HNX1:Hd (NxS d (vis.length + 1) (dJ nx (ks.drop 1) (v + c))):=aH (by
    have:=hnx2.add HND.o.2 HND.o.1 HNE.o.2.2
    unfold fF at this
    simp only at this
    rw [hv] at this
    exact this)
   have HNX2:Hd (Cnt (dJ nx (ks.drop 1) (v + c)) (fun k=>cA (fun x=>x.drop 1 == k) (cS m (vis ++ [i])))):=aH (uC hnx3 HSN.o HNE.o.2.2.1 hv)
   clear HM2 inj hmid hg3 hTE hgE hnx1 hnx2 hnx3 hv hg4 hb4 HG hcc B9 J9 L9 N9 K9 D0 KD hcb hvb x1 x2 x3 x4
   go_region_with (fail)
   all_goals
    go_wp2_with fail
    go_roundg (gk - 1)
    case measure=>omega
    case rel =>
     obtain ⟨w3',hgA,hgB⟩:=GE.o
     have hsz1:w4.drew.heap.size <= w3'.heap.size:=hgA.size
     have hsz2:wc.heap.size <= w4.drew.heap.size:=B4.o.size
     exact ⟨vis ++ [i],by rw [List.length_append,List.length_singleton]; omega,VIS5,aH ((J10.o.kept hgA (fun e=>by injection e; omega)).kept hgB (fun e=>by injection e; omega)),aH ((L10.o.kept hgA (by omega) (by omega)).kept hgB (by omega) (by omega)),aH ⟨_,TE.o,by rw [List.length_append,List.length_singleton]; exact HNX1.o,HNX2.o⟩,aH ((B10.o.grown hgA (by omega) (fun k e=>by cases e; omega)).grown hgB (by omega) (fun k e=>by cases e; omega)),Nat.le_trans (by omega) hgB.size⟩
 obtain ⟨gh,rfl⟩:∃ g,gk = g + 1:=⟨gk - 1,by omega⟩
 obtain ⟨x,hx⟩:∃ x,gs[j]? = some x:=⟨_,eG (by rw [HP.o]; omega)⟩
 obtain ⟨ba,oa,c0,rfl,hba,e0,e1,hi⟩:=HAT.o j x hx
 have d0:=(BEL.o.cell (p:=⟨ba,oa + j * 2,none⟩) hba).trans e0
 have d1:=(BEL.o.cell (p:=⟨ba,oa + j * 2 + 1,none⟩) hba).trans e1
 have HNX:=aH (HNI.o x (mG hx))
 obtain ⟨A1,c1,rfl,hc1,hc1m,hat1⟩:=hi.open_
 obtain ⟨N,hN⟩:=nm (x.2)
 rw [hN] at d1
 have HI:=aH (hi.below BEL.o)
 have HK:Hd (NiceK x.1):=aH ⟨by rw [HNX.o.1]; omega,HNX.o.2.1⟩
 have HX:=aH hx
 have HNN:=aH hN
 rw [HNX.o.1] at hc1 d0 HI
 obtain ⟨m,hm,hms,hmc,hml⟩:=HM.o
 have HT0:Hd (tot 0 (gs.take j) x.1 = 0):=aH (rt (fun y hy he=>by
  obtain ⟨i,hi,ey⟩:=List.getElem_of_mem hy
  have hi2:i < j:=by rw [List.length_take] at hi; omega
  have h1:(gs.map Prod.fst)[i]? = some x.1:=by
   rw [List.getElem?_map,<- List.getElem?_take_of_lt hi2,eG hi,ey,<- he]; rfl
  have h2:(gs.map Prod.fst)[j]? = some x.1:=by rw [List.getElem?_map,HX.o]; rfl
  have:=(List.getElem?_inj (l:=gs.map Prod.fst) (by rw [List.length_map,HP.o]; omega) HD.o).1 (h1.trans h2.symm)
  omega))
 have HMM:=aH hm
 have HMS:=aH hms
 have HMC:=aH hmc
 have HTJ:Hd (∀ k,tot 0 (gs.take (j + 1)) k = tot 0 (gs.take j) k + if k = x.1 then N else 0):=aH (by
  intro k
  rw [ah _ HX.o,ru,List.drop_zero,HNN.o]
  by_cases e:x.1 = k
  ·rw [if_pos e,if_pos e.symm]
  rw [if_neg e,if_neg (fun h=>e h.symm)])
 have HNP:Hd (0 < N/\N <= 1073741824):=aH (by rw [<- HNN.o]; exact HNX.o.2.2)
 have HS3:Hd ((dJ m x.1 N).length <= j + 1):=aH (by
   unfold dJ
   split
   ·rw [List.length_map]; omega
   rw [List.length_append]; exact Nat.succ_le_succ hml)
 have HS2:Hd (Cnt (dJ m x.1 N) (tot 0 (gs.take (j + 1)))):=aH ((HMC.o.new HT0.o HNP.o.1).congr (fun k=>(HTJ.o k).symm))
 have HS1:Hd (NiceS O (dJ m x.1 N)):=aH ⟨jt hms.1 _ _,fun e he=>by
  rcases fm he with he | rfl
  ·exact hms.2 e he
  exact ⟨HNX.o.1,HK.o,HNP.o.1,by simp only; have:=HNP.o.2; omega⟩⟩
 clear hx e0 e1 hi hat1 hN HM hm hms hmc hml
 generalize x.1 = ks at *
 go_wp2_with fail
 obtain ⟨W3,hW3,G0,GB,Ghs⟩:=aA wr 51 [.slice A1 O c1,.int .i64 N]
 rw [<- hW3]
 clear hW3
 have g0:=G0.o.cell 0
 have g1:=G0.o.cell 1
 simp only [List.getElem?_cons_zero,List.getElem?_cons_succ] at g0 g1
 go_region_with (first
  | (go_at_call 81; refine (lS _ _ _ (HI.o.below (GB.o.trans (bS _))) HK.o.1 (fun z hz=>by have:=HK.o.2 z hz; omega)).mono ?_; rintro e w2 ⟨rfl,hb2'⟩; have hb2:=bO hb2'; have HM2:TMap aV (Value.int .i64) w2 120 w1.heap.size m:=HMM.o.below (aa GB.o hb2); have inj:∀ e ∈ m,aV e.1 = aV ks->e.1 = ks:=fun e he h=>(HMS.o.2 e he).2.1.inj HK.o h; obtain ⟨w4,hst,hT4,hg4⟩:=HM2.update (t:=115) dW Tryz.underlying115 HK.o.good inj N; have GB2:=G0.o.below' hb2; have g12:=GB2.cell 1; simp only [List.getElem?_cons_zero,List.getElem?_cons_succ] at g12; have T4:=aH hT4; have G4:=aH hg4; have B42:=aH (aa GB.o hb2); clear HM2 inj hT4 hg4 GB2 hb2 hb2'))
 all_goals
  go_wp2_with fail
  go_roundg gh
  case measure=>omega
  case rel =>
   have s4:w1.heap.size < w2.heap.size:=Nat.lt_of_lt_of_le hmlt B42.o.size
   exact ⟨j + 1,rfl,by omega,aH ⟨_,T4.o,HS1.o,HS2.o,HS3.o⟩,aH ((P2.o.below' B42.o).grown G4.o (by simp; omega)),aH ((LB2.o.below' B42.o).grown G4.o (by simp; omega)),aH ((BEL.o.trans (B42.o.mono hwz)).grown G4.o (by omega) (fun k e=>by cases e; omega))⟩
end Go.Proofs.YtjebfdfkjlkifaaGreat
