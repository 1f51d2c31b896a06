/- Lemmas. -/
import Derived.Test.YtjebfdfkjlkifaaGreatR29
set_option linter.all false
set_option maxRecDepth 1000000
set_option maxHeartbeats 32000000
namespace Go.Proofs.YtjebfdfkjlkifaaGreat
open Go.RowKit
theorem dP {w:World} {g:Nat} {e:TypeId} {a b c d f:Value} (h:Blk w g e [a,b,c,d,f]) :
  w.cell? ⟨g,0,none⟩ = some a/\w.cell? ⟨g,1,none⟩ = some b/\w.cell? ⟨g,2,none⟩ = some c/\w.cell? ⟨g,3,none⟩ = some d/\w.cell? ⟨g,4,none⟩ = some f :=
 ⟨h.cell 0,h.cell 1,h.cell 2,h.cell 3,h.cell 4⟩
theorem qJ {w:World} {g B:Nat} {a b c d f:Value}
  (h:w.cell? ⟨g,0,none⟩ = some a/\w.cell? ⟨g,1,none⟩ = some b/\w.cell? ⟨g,2,none⟩ = some c/\w.cell? ⟨g,3,none⟩ = some d/\w.cell? ⟨g,4,none⟩ = some f)(hg:g ≠ B) (u0 u1 u2:Value) :
  (((w.setCell ⟨B,0,none⟩ u0).setCell ⟨B,1,none⟩ u1).setCell ⟨B,2,none⟩ u2).cell? ⟨g,0,none⟩ = some a/\(((w.setCell ⟨B,0,none⟩ u0).setCell ⟨B,1,none⟩ u1).setCell ⟨B,2,none⟩ u2).cell? ⟨g,1,none⟩ = some b/\(((w.setCell ⟨B,0,none⟩ u0).setCell ⟨B,1,none⟩ u1).setCell ⟨B,2,none⟩ u2).cell? ⟨g,2,none⟩ = some c/\(((w.setCell ⟨B,0,none⟩ u0).setCell ⟨B,1,none⟩ u1).setCell ⟨B,2,none⟩ u2).cell? ⟨g,3,none⟩ = some d/\(((w.setCell ⟨B,0,none⟩ u0).setCell ⟨B,1,none⟩ u1).setCell ⟨B,2,none⟩ u2).cell? ⟨g,4,none⟩ = some f :=
 ⟨aX h.1 hg _ _ _,aX h.2.1 hg _ _ _,aX h.2.2.1 hg _ _ _,aX h.2.2.2.1 hg _ _ _,aX h.2.2.2.2 hg _ _ _⟩

theorem au {w:World} {p:Addr} {x:Value} (h:w.cell? p = some x) (o:Obj):(w.alloc o).cell? p = some x:=by
 have hlt:p.block < w.heap.size:=by
  unfold World.cell? at h
  split at h
  ·next he=>exact (Array.getElem?_eq_some_iff.1 he).1
  cases h
 exact ((bA w o).cell hlt).trans h
theorem oL {w:World} {g:Nat} {a b c d f:Value}
  (h:w.cell? ⟨g,0,none⟩ = some a/\w.cell? ⟨g,1,none⟩ = some b/\w.cell? ⟨g,2,none⟩ = some c/\w.cell? ⟨g,3,none⟩ = some d/\w.cell? ⟨g,4,none⟩ = some f) (o:Obj) :
  (w.alloc o).cell? ⟨g,0,none⟩ = some a/\(w.alloc o).cell? ⟨g,1,none⟩ = some b/\(w.alloc o).cell? ⟨g,2,none⟩ = some c/\(w.alloc o).cell? ⟨g,3,none⟩ = some d/\(w.alloc o).cell? ⟨g,4,none⟩ = some f :=
 ⟨au h.1 o,au h.2.1 o,au h.2.2.1 o,au h.2.2.2.1 o,au h.2.2.2.2 o⟩
def cQ (C:Int->Int) (v:Nat) (a:Rat):List Rat:=(List.range (v + 1)).map fun (x:Nat)=>((C x:Rat) + a) / ((aM C v:Rat) + a * ((v + 1:Nat):Rat))

theorem tW (w:World) (O n:Nat) (b v:Nat)(hv:Value) (gs:List Gr)(h:List Int) (s:Bool) (A A':Option Addr) (m c m' c':Nat) (a:Rat)(hL:LvsAt w b O 0 gs)(hn:1 <= n/\n <= O)(hO:O <= 4)(hi:IntsAt w hv h)(hl:h.length = n - 1)(hk:NiceK h)(ha:FracAt 64 w (.agg #[.bool s,.slice A m c,.slice A' m' c']) a)(ha0:0 < a) (hv':v <= 8)
  (hg:∀ g ∈ gs,0 < g.2/\g.2 <= 1073741824)(hgl:gs.length <= 20000)(hw:∀ g ∈ gs,∀ x ∈ g.1,x <= (v:Int)) :
  Calls Tryz.prog 226 #[.agg #[.slice (some ⟨b,0,none⟩) (O + 1) (O + 1),.int .i64 ((v + 1:Nat):Int),.bool s,.slice A m c,.slice A' m' c'],.int .i64 n,hv] w fun e w'=>∃ b',e = .returned (.slice (some ⟨b',0,none⟩) (v + 1) (v + 1))/\w.heap.size <= b'/\FArc w' b' (cQ (fun x=>tot (O - n) gs (h ++ [x])) v a)/\Below w.heap.size w w':=by
 have HL:=aH hL
 have HI:=aH hi
 have HA:=aH ha
 have MC:=aH (jd hg hgl (O - n) h)
 have KL:=aH (fun L=>sr (L:=L) (d:=O - n) (h:=h) (fun g hh=>(hg g hh).1) hw)
 have QA:=aH (ha.qb (by omega))
 have PA:=aH ha0
 clear hL hi ha hg hgl hw ha0
 go_enter Tryz.func226,Tryz.ntmps226
 go_wp2_with fail
 obtain ⟨W,hW,P0,PB,Phs⟩:=aA w 180 [.slice (some ⟨b,0,none⟩) (O + 1) (O + 1),.int .i64 ((v:Int) + 1),.bool s,.slice A m c,.slice A' m' c']
 rw [<- hW]
 clear hW
 obtain ⟨p0,p1,p2,p3,p4⟩:=dP P0.o
 refine (mI W O n b _ hv gs h (HL.o.below PB.o) hn hO (HI.o.below PB.o) hl hk).mono ?_
 rintro e w1 ⟨mv,L,rfl,hsn,hcnt,hbd,hb1⟩
 have SN:=aH hsn
 have CN:=aH hcnt
 have P1:=aH (P0.o.below' hb1)
 have B1:=aH (PB.o.trans (hb1.mono (by omega)))
 have s1:w.heap.size + 1 <= w1.heap.size:=Nat.le_trans Phs hb1.size
 obtain ⟨N,hN⟩:∃ N:Int,el L = N:=⟨_,rfl⟩
 have HN:=aH ((gV hcnt (KL.o L hcnt)).symm.trans hN)
 rw [hN]
 have hbs:=bH MC.o v
 rw [HN.o] at hbs
 have hN0:0 <= N:=hbs.1
 have hN1:N < 9223372036854775808:=by omega
 have QS:=aH (MC.o.qbsum hv')
 rw [HN.o] at QS
 have QW:Hd (QB 64 (((v:Int) + 1:Int):Rat)):=aH (dA (by omega) (by omega))
 obtain ⟨X3,hX3⟩:=nm (a * (((v:Int) + 1:Int):Rat))
 obtain ⟨X4,hX4⟩:=nm ((N:Rat) + X3)
 have Q3:Hd (QB 128 X3):=aH (by rw [<- hX3]; exact QA.o.mul QW.o)
 have Q4:Hd (QB 193 X4):=aH (by rw [<- hX4]; exact QS.o.add Q3.o)
 have P4:Hd (X4 ≠ 0):=aH (by
  have h1:0 < X3:=by rw [<- hX3]; exact Rat.mul_pos PA.o (by exact_mod_cast (show (0:Int) < (v:Int) + 1 by omega))
  have h2:(0:Rat) <= (N:Rat):=by exact_mod_cast hN0
  have h3:=(Rat.add_lt_add_left (c:=(N:Rat))).2 h1
  rw [Rat.add_zero,hX4] at h3
  exact fun e=>by rw [e] at h3; exact absurd (Std.lt_of_le_of_lt h2 h3) Rat.lt_irrefl)
 have HX3:=aH hX3
 have HX4:=aH hX4
 clear hX3 hX4
 clear p0 p1 p2 p3 p4 hsn hcnt hb1 hN hbd hbs
 obtain ⟨p0,p1,p2,p3,p4⟩:=dP P1.o
 go_wp2_with (at_make; refine aD rfl _ _ rfl ((v:Int) + 1) (v + 1) rfl rfl (by omega) (by omega) ?_)
 intro w2 hf2 hb2
 have F2:=aH hf2.arc
 have P2:=aH (P1.o.below' hb2)
 have B2:=aH (B1.o.trans (hb2.mono (by omega)))
 have SN2:=aH (SN.o.below hb2)
 have HA2:=aH ((HA.o.below B2.o).mono (show 64 <= 1000 by omega))
 have s2:w1.heap.size < w2.heap.size:=F2.o.lt
 clear p0 p1 p2 p3 p4 hf2 hb2 SN P1 P0 PB Phs HL HI HA
 have hS:=dP P2.o
 go_upto_region 3 with fail
 go_cut [10] (fun p wc=>∃ bp,p = .pointer (some ⟨bp,0,none⟩)/\Hd (w2.heap.size <= bp)/\Hd (BoxC wc bp X4)/\Hd (Below w2.heap.size w2 wc))
 case first =>
  have BB:=aH (Below.refl w2.heap.size w2)
  go_region_held3 (fun w'=>w'.cell? ⟨w.heap.size,0,none⟩ = some (.slice (some ⟨b,0,none⟩) (O + 1) (O + 1))/\w'.cell? ⟨w.heap.size,1,none⟩ = some (.int .i64 ((v:Int) + 1))/\w'.cell? ⟨w.heap.size,2,none⟩ = some (.bool s)/\w'.cell? ⟨w.heap.size,3,none⟩ = some (.slice A m c)/\w'.cell? ⟨w.heap.size,4,none⟩ = some (.slice A' m' c'))
   (first | assumption | exact oL hS _ | (refine qJ hS ?_ _ _ _ <;> omega) | go_keep)
   (first
    | (go_at_call_of 110 (Value.int .i64 N); refine (ofI _ N hN0 hN1).mono ?_; rintro e wl ⟨u1,rfl,t,hb⟩; have hb0:=hb; (first | replace hb:=below_new_drew hb | replace hb:=below_new hb | replace hb:=bO hb | skip); (try (first | replace AB:=aH (AB.o.below' hb) | replace AB:=aH (AB.o.below hb))); (first | have AB:=aH ((BoxC.zero _).below hb0) | have AB:=aH ((BoxC.zero _).below (bO hb0)) | skip); replace BB:=aH (BB.o.trans (hb.mono BB.o.size)); have hs:=BB.o.size; clear hb0; have T1:=aH (t.at_.frac (k:=1000) (QS.o.mono (by omega)) (by omega)); have hS:=dP (P2.o.below' BB.o); clear t hb)
    | (go_at_call 110; (refine (ofI _ ((v:Int) + 1) (by omega) (by omega)).mono ?_; rintro e wl ⟨u2,rfl,t,hb⟩; have hb0:=hb; (first | replace hb:=below_new_drew hb | replace hb:=below_new hb | replace hb:=bO hb | skip); (try (first | replace AB:=aH (AB.o.below' hb) | replace AB:=aH (AB.o.below hb))); (try (first | replace T1:=aH (T1.o.below' hb) | replace T1:=aH (T1.o.below hb))); (first | have AB:=aH ((BoxC.zero _).below hb0) | have AB:=aH ((BoxC.zero _).below (bO hb0)) | skip); replace BB:=aH (BB.o.trans (hb.mono BB.o.size)); have hs:=BB.o.size; clear hb0; have T2:=aH (t.at_.frac (k:=1000) (QW.o.mono (by omega)) (by omega)); have hS:=dP (P2.o.below' BB.o); have HA3:=aH (HA2.o.below BB.o); clear t hb))
    | (go_at_call 121; refine (lP _ _ _ a (((v:Int) + 1:Int):Rat) 1000 ?_ ?_ (by omega) (by omega)).mono ?_; (first | exact HA3.o | exact HA3.o.below (bS _) | exact HA3.o.below (bA _ _) | exact HA3.o.below (below_alloc_drew _ _)); (first | exact T2.o | exact T2.o.below (bS _) | exact T2.o.below (bA _ _) | exact T2.o.below (below_alloc_drew _ _)); rintro e wl ⟨u3,rfl,t,hb⟩; rw [HX3.o] at t; have hb0:=hb; (first | replace hb:=below_new_drew hb | replace hb:=below_new hb | replace hb:=bO hb | skip); (try (first | replace AB:=aH (AB.o.below' hb) | replace AB:=aH (AB.o.below hb))); (try (first | replace T1:=aH (T1.o.below' hb) | replace T1:=aH (T1.o.below hb))); (first | have AB:=aH ((BoxC.zero _).below hb0) | have AB:=aH ((BoxC.zero _).below (bO hb0)) | skip); replace BB:=aH (BB.o.trans (hb.mono BB.o.size)); have hs:=BB.o.size; clear hb0; have T3:=aH (t.at_.frac (k:=1000) (Q3.o.mono (by omega)) (by omega)); have hS:=dP (P2.o.below' BB.o); clear t hb)
    | (go_at_call 120; refine (l8 _ _ _ (N:Rat) X3 1000 ?_ ?_ (by omega) (by omega)).mono ?_; (first | exact T1.o | exact T1.o.below (bS _) | exact T1.o.below (bA _ _) | exact T1.o.below (below_alloc_drew _ _)); (first | exact T3.o | exact T3.o.below (bS _) | exact T3.o.below (bA _ _) | exact T3.o.below (below_alloc_drew _ _)); rintro e wl ⟨u4,rfl,t,hb⟩; rw [HX4.o] at t; have hb0:=hb; (first | replace hb:=below_new_drew hb | replace hb:=below_new hb | replace hb:=bO hb | skip); (try (first | replace AB:=aH (AB.o.below' hb) | replace AB:=aH (AB.o.below hb))); (first | have AB:=aH ((BoxC.zero _).below hb0) | have AB:=aH ((BoxC.zero _).below (bO hb0)) | skip); replace BB:=aH (BB.o.trans (hb.mono BB.o.size)); have hs:=BB.o.size; clear hb0; obtain ⟨Ar,mr,cr,Ar',mr',cr',rfl⟩:=t.at_.open_; have T4:=aH t.at_; (try (obtain ⟨_,_,_,_,_,_,ab0,ab1,ab2,az0,az1,az2,_⟩:=AB.o.get)); have hS:=dP (P2.o.below' BB.o); clear t hb))
  all_goals
   go_wp2_with fail
   go_meet
   first
    | exact ⟨_,rfl,aH (by omega),aH (BoxC.new T4.o),aH (BB.o.alloc BB.o.size _)⟩
    | exact ⟨_,rfl,aH (by omega),aH (AB.o.put rfl T4.o),aH (aL BB.o (by omega) _ _ _ _ _ _)⟩
 obtain ⟨bp,rfl,hbp,BX,B3⟩:=hcut
 have s3:=hbp.o
 have P3:=aH (P2.o.below' B3.o)
 have F3:=aH (F2.o.below B3.o)
 have SN3:=aH (SN2.o.below B3.o)
 have HA3:=aH (HA2.o.below B3.o)
 have BL3:=aH (B2.o.trans (B3.o.mono (by omega)))
 obtain ⟨cw,hcw⟩:∃ C:Nat->Rat,C = fun (x:Nat)=>(((tot (O - n) gs (h ++ [(x:Int)]):Int):Rat) + a) / X4:=⟨_,rfl⟩
 have CW:=aH hcw
 clear hS hcw hbp P2 F2 SN2 HA2 B2 B3
 go_wp2_with fail
 go_loopg [11,36] (v + 1) (fun gh _ i wz=>∃ (j:Nat),i = .int .i64 j/\j + gh = v + 1/\Hd (FArc wz w1.heap.size ((List.range j).map cw ++ List.replicate gh 0))/\Hd (Blk wz w.heap.size 180 [.slice (some ⟨b,0,none⟩) (O + 1) (O + 1),.int .i64 ((v:Int) + 1),.bool s,.slice A m c,.slice A' m' c'])/\Hd (SeenAt wz mv L)/\Hd (FracAt 1000 wz (.agg #[.bool s,.slice A m c,.slice A' m' c']) a)/\Hd (BoxC wz bp X4)/\Hd (Below w.heap.size w wz))
 case atStart=>exact ⟨0,rfl,by omega,aH (by simpa using F3.o),P3,SN3,HA3,BX,BL3⟩
 clear P3 F3 SN3 HA3 BX BL3
 obtain ⟨j,rfl,hj,F3,P3,SN3,HA3,BX,BL3⟩:=hrel
 rcases zP gk with hh | hh
 ·subst hh
  obtain rfl:j = v + 1:=by omega
  go_wp2_with fail
  go_ret
  exact ⟨_,rfl,by omega,by
   have h1:=F3.o
   have h2:(N:Rat) + a * ((v + 1:Nat):Rat) = X4:=by
    rw [<- HX4.o,<- HX3.o,show ((v + 1:Nat):Rat) = (((v:Int) + 1:Int):Rat) from (Rat.intCast_natCast (v + 1)).symm]
   rw [List.replicate_zero,List.append_nil,CW.o] at h1
   unfold cQ
   rw [HN.o,h2]
   exact h1,BL3.o⟩
 obtain ⟨gh,rfl⟩:∃ g,gk = g + 1:=⟨gk - 1,by omega⟩
 obtain ⟨cj,hcj⟩:=nm (tot (O - n) gs (h ++ [(j:Int)]))
 have hm:=MC.o (j:Int)
 have QC:=aH (MC.o.qb (j:Int))
 have hlk:=SN3.o.look CN.o (x:=(j:Int)) (by omega)
 simp only [hcj] at hm QC hlk
 have HCJ:=aH hcj
 clear hcj
 obtain ⟨X5,hX5⟩:=nm ((cj:Rat) + a)
 have Q5:Hd (QB 129 X5):=aH (by rw [<- hX5]; exact QC.o.add QA.o)
 have HX5:=aH hX5
 clear hX5
 obtain ⟨Ax,mx,cx,Ax',mx',cx',x0,x1,x2,_,_,_,tx⟩:=BX.o.get
 have TX:=aH (tx.frac (k:=1000) (Q4.o.mono (by omega)) (by omega))
 have LK:Hd (∀ w',SeenAt w' mv L->(Instr.lookup 206 mv (.int .i64 (j:Int)) false).run Tryz.prog w' = .ok (.int .i64 cj) w'):=aH (fun w' hw'=>by
  have:=hw'.look CN.o (x:=(j:Int)) (by omega)
  simp only [HCJ.o] at this
  exact this)
 have hbx:=BX.o.lt
 have hwl:w1.heap.size < wr.heap.size:=F3.o.lt
 have BB:=aH (Below.refl wr.heap.size wr)
 have X0:=aH x0
 have X1:=aH x1
 have X2:=aH x2
 clear x0 x1 x2 tx hlk
 have q5:=dP P3.o
 have hS:=aI q5.2.2.1 (aI q5.2.2.2.1 (aI q5.2.2.2.2 (aI X0.o (aI X1.o (aI X2.o (LK.o wr SN3.o))))))
 clear q5
 have j1:(0:Int) <= (j:Int):=by omega
 have j2:(j:Int) < (v:Int) + 1:=by omega
 go_wp2_with fail
 go_region_held3 (fun w'=>w'.cell? ⟨w.heap.size,2,none⟩ = some (.bool s)/\w'.cell? ⟨w.heap.size,3,none⟩ = some (.slice A m c)/\w'.cell? ⟨w.heap.size,4,none⟩ = some (.slice A' m' c')/\w'.cell? ⟨bp,0,none⟩ = some (.bool (ae X4))/\w'.cell? ⟨bp,1,none⟩ = some (.slice Ax mx cx)/\w'.cell? ⟨bp,2,none⟩ = some (.slice Ax' mx' cx')/\(Instr.lookup 206 mv (.int .i64 (j:Int)) false).run Tryz.prog w' = .ok (.int .i64 cj) w')
  (first | assumption | exact ⟨aj hS.1 (show w.heap.size ≠ w1.heap.size by omega) _ _ _ _ _ _,aj hS.2.1 (show w.heap.size ≠ w1.heap.size by omega) _ _ _ _ _ _,aj hS.2.2.1 (show w.heap.size ≠ w1.heap.size by omega) _ _ _ _ _ _,aj hS.2.2.2.1 (show bp ≠ w1.heap.size by omega) _ _ _ _ _ _,aj hS.2.2.2.2.1 (show bp ≠ w1.heap.size by omega) _ _ _ _ _ _,aj hS.2.2.2.2.2.1 (show bp ≠ w1.heap.size by omega) _ _ _ _ _ _,LK.o _ ((SN3.o.below BB.o).far3 (F3.o.below BB.o) _ _ _ _ _ _)⟩ | (refine ⟨?_,?_,?_,?_,?_,?_,?_⟩ <;> first | assumption | exact LK.o _ (SeenAt.drew SN3.o) | go_keep))
  (first
   | (go_at_call 110; refine (ofI _ cj (by omega) (by omega)).mono ?_; rintro e wl ⟨u1,rfl,t,hb⟩; have hb0:=hb; (first | replace hb:=below_new_drew hb | replace hb:=below_new hb | replace hb:=bO hb | skip); (try (first | replace AB:=aH (AB.o.below' hb) | replace AB:=aH (AB.o.below hb))); (first | have AB:=aH ((BoxC.zero _).below hb0) | have AB:=aH ((BoxC.zero _).below (bO hb0)) | skip); replace BB:=aH (BB.o.trans (hb.mono BB.o.size)); have hs:=BB.o.size; clear hb0; have T1:=aH (t.at_.frac (k:=1000) (QC.o.mono (by omega)) (by omega)); have q5:=dP (P3.o.below' BB.o); have hS:=aI q5.2.2.1 (aI q5.2.2.2.1 (aI q5.2.2.2.2 (aI ((BB.o.cell (p:=⟨bp,0,none⟩) hbx).trans X0.o) (aI ((BB.o.cell (p:=⟨bp,1,none⟩) hbx).trans X1.o) (aI ((BB.o.cell (p:=⟨bp,2,none⟩) hbx).trans X2.o) (LK.o _ (SN3.o.below BB.o))))))); clear t hb q5)
   | (go_at_call 120; refine (l8 _ _ _ (cj:Rat) a 1000 ?_ ?_ (by omega) (by omega)).mono ?_; (first | exact T1.o | exact T1.o.below (bS _) | exact T1.o.below (bA _ _) | exact T1.o.below (below_alloc_drew _ _)); (exact HA3.o.below BB.o); rintro e wl ⟨u2,rfl,t,hb⟩; rw [HX5.o] at t; have hb0:=hb; (first | replace hb:=below_new_drew hb | replace hb:=below_new hb | replace hb:=bO hb | skip); (try (first | replace AB:=aH (AB.o.below' hb) | replace AB:=aH (AB.o.below hb))); (first | have AB:=aH ((BoxC.zero _).below hb0) | have AB:=aH ((BoxC.zero _).below (bO hb0)) | skip); replace BB:=aH (BB.o.trans (hb.mono BB.o.size)); have hs:=BB.o.size; clear hb0; have T2:=aH (t.at_.frac (k:=1000) (Q5.o.mono (by omega)) (by omega)); have q5:=dP (P3.o.below' BB.o); have hS:=aI q5.2.2.1 (aI q5.2.2.2.1 (aI q5.2.2.2.2 (aI ((BB.o.cell (p:=⟨bp,0,none⟩) hbx).trans X0.o) (aI ((BB.o.cell (p:=⟨bp,1,none⟩) hbx).trans X1.o) (aI ((BB.o.cell (p:=⟨bp,2,none⟩) hbx).trans X2.o) (LK.o _ (SN3.o.below BB.o))))))); clear t hb q5)
   | (go_at_call 223; refine (mS _ _ _ X5 X4 1000 ?_ ?_ (by omega) (by omega) P4.o).mono ?_; (first | exact T2.o | exact T2.o.below (bS _) | exact T2.o.below (bA _ _) | exact T2.o.below (below_alloc_drew _ _)); (exact TX.o.below BB.o); rintro e wl ⟨u3,rfl,t,hb⟩; have hb0:=hb; (first | replace hb:=below_new_drew hb | replace hb:=below_new hb | replace hb:=bO hb | skip); (try (first | replace AB:=aH (AB.o.below' hb) | replace AB:=aH (AB.o.below hb))); (first | have AB:=aH ((BoxC.zero _).below hb0) | have AB:=aH ((BoxC.zero _).below (bO hb0)) | skip); replace BB:=aH (BB.o.trans (hb.mono BB.o.size)); have hs:=BB.o.size; clear hb0; obtain ⟨Ar,mr,cr,Ar',mr',cr',rfl⟩:=t.at_.open_; have T3:=aH t.at_; have q5:=dP (P3.o.below' BB.o); have hS:=aI q5.2.2.1 (aI q5.2.2.2.1 (aI q5.2.2.2.2 (aI ((BB.o.cell (p:=⟨bp,0,none⟩) hbx).trans X0.o) (aI ((BB.o.cell (p:=⟨bp,1,none⟩) hbx).trans X1.o) (aI ((BB.o.cell (p:=⟨bp,2,none⟩) hbx).trans X2.o) (LK.o _ (SN3.o.below BB.o))))))); obtain ⟨_,_,_,_,_,_,f0,f1,f2,y0,y1,y2,_⟩:=(F3.o.below BB.o).get (ff cw j gh); clear t hb q5))
 go_wp2_with fail
 go_roundg gh
 case measure=>omega
 case rel =>
  have F4:=F3.o.below BB.o
  exact ⟨j + 1,rfl,by omega,aH (by
   have:=F4.put (i:=j) (by simp) rfl T3.o
   rwa [eO cw j gh (by rw [CW.o]; simp only [HCJ.o,HX5.o])] at this),aH ((P3.o.below' BB.o).far3 (by omega) _ _ _ _ _ _),aH ((SN3.o.below BB.o).far3 F4 _ _ _ _ _ _),aH (F4.keepsF (HA3.o.below BB.o) _ _ _ _ _ _ _ _ _ _),aH (FArc.far (BX.o.below BB.o) F4 (by omega) _ _ _ _ _ _ _ _ _ _),aH (aL (BL3.o.trans (BB.o.mono BL3.o.size)) (by omega) _ _ _ _ _ _)⟩
end Go.Proofs.YtjebfdfkjlkifaaGreat
