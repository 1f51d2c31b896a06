/- Lemmas on the way: Ad1. -/
import Derived.Test.YtdehimgccmbfkaaGreatT40
set_option linter.all false
set_option maxRecDepth 1000000
set_option maxHeartbeats 32000000
namespace Go.Proofs.YtdehimgccmbfkaaGreat
open Go.RowKit
theorem five {w:World} {g:Nat} {e:TypeId} {a b c d f:Value} (h:Blk w g e [a,b,c,d,f]) :
  w.cell? ⟨g,0,none⟩ = some a/\w.cell? ⟨g,1,none⟩ = some b/\w.cell? ⟨g,2,none⟩ = some c/\w.cell? ⟨g,3,none⟩ = some d/\w.cell? ⟨g,4,none⟩ = some f :=
 ⟨h.cell 0,h.cell 1,h.cell 2,h.cell 3,h.cell 4⟩
theorem five_box3 {w:World} {g B:Nat} {a b c d f:Value}
  (h:w.cell? ⟨g,0,none⟩ = some a/\w.cell? ⟨g,1,none⟩ = some b/\w.cell? ⟨g,2,none⟩ = some c/\w.cell? ⟨g,3,none⟩ = some d/\w.cell? ⟨g,4,none⟩ = some f)(hg:g ≠ B) (u0 u1 u2:Value) :
  (((w.setCell ⟨B,0,none⟩ u0).setCell ⟨B,1,none⟩ u1).setCell ⟨B,2,none⟩ u2).cell? ⟨g,0,none⟩ = some a/\(((w.setCell ⟨B,0,none⟩ u0).setCell ⟨B,1,none⟩ u1).setCell ⟨B,2,none⟩ u2).cell? ⟨g,1,none⟩ = some b/\(((w.setCell ⟨B,0,none⟩ u0).setCell ⟨B,1,none⟩ u1).setCell ⟨B,2,none⟩ u2).cell? ⟨g,2,none⟩ = some c/\(((w.setCell ⟨B,0,none⟩ u0).setCell ⟨B,1,none⟩ u1).setCell ⟨B,2,none⟩ u2).cell? ⟨g,3,none⟩ = some d/\(((w.setCell ⟨B,0,none⟩ u0).setCell ⟨B,1,none⟩ u1).setCell ⟨B,2,none⟩ u2).cell? ⟨g,4,none⟩ = some f :=
 ⟨cell_box3 h.1 hg _ _ _,cell_box3 h.2.1 hg _ _ _,cell_box3 h.2.2.1 hg _ _ _,cell_box3 h.2.2.2.1 hg _ _ _,cell_box3 h.2.2.2.2 hg _ _ _⟩

theorem cell_alloc {w:World} {p:Addr} {x:Value} (h:w.cell? p = some x) (o:Obj):(w.alloc o).cell? p = some x:=by
 have hlt:p.block < w.heap.size:=by
  unfold World.cell? at h
  split at h
  ·next he=>exact (Array.getElem?_eq_some_iff.1 he).1
  cases h
 exact ((below_alloc_self w o).cell hlt).trans h
theorem five_alloc {w:World} {g:Nat} {a b c d f:Value}
  (h:w.cell? ⟨g,0,none⟩ = some a/\w.cell? ⟨g,1,none⟩ = some b/\w.cell? ⟨g,2,none⟩ = some c/\w.cell? ⟨g,3,none⟩ = some d/\w.cell? ⟨g,4,none⟩ = some f) (o:Obj) :
  (w.alloc o).cell? ⟨g,0,none⟩ = some a/\(w.alloc o).cell? ⟨g,1,none⟩ = some b/\(w.alloc o).cell? ⟨g,2,none⟩ = some c/\(w.alloc o).cell? ⟨g,3,none⟩ = some d/\(w.alloc o).cell? ⟨g,4,none⟩ = some f :=
 ⟨cell_alloc h.1 o,cell_alloc h.2.1 o,cell_alloc h.2.2.1 o,cell_alloc h.2.2.2.1 o,cell_alloc h.2.2.2.2 o⟩
def addedQ (C:Int->Int) (v:Nat) (a:Rat):List Rat:=(List.range (v + 1)).map fun (x:Nat)=>((C x:Rat) + a) / ((sumC C v:Rat) + a * ((v + 1:Nat):Rat))

theorem addedG (w:World) (O n:Nat) (b v:Nat)(hv:Value) (gs:List Gr)(h:List Int) (s:Bool) (A A':Option Addr) (m c m' c':Nat) (a:Rat)(hL:LvsAt w b O 0 gs)(hn:1 <= n/\n <= O)(hO:O <= 4)(hi:IntsAt w hv h)(hl:h.length = n - 1)(hk:NiceK h)(ha:FracAt 64 w (.agg #[.bool s,.slice A m c,.slice A' m' c']) a)(ha0:0 < a) (hv':v <= 8)
  (hg:∀ g ∈ gs,0 < g.2/\g.2 <= 1073741824)(hgl:gs.length <= 20000)(hw:∀ g ∈ gs,∀ x ∈ g.1,x <= (v:Int)) :
  Calls Tryz.prog 260 #[.agg #[.slice (some ⟨b,0,none⟩) (O + 1) (O + 1),.int .i64 ((v + 1:Nat):Int),.bool s,.slice A m c,.slice A' m' c'],.int .i64 n,hv] w fun e w'=>∃ b',e = .returned (.slice (some ⟨b',0,none⟩) (v + 1) (v + 1))/\w.heap.size <= b'/\FArc w' b' (addedQ (fun x=>tot (O - n) gs (h ++ [x])) v a)/\Below w.heap.size w w':=by
 have HL:=Lib.hid hL
 have HI:=Lib.hid hi
 have HA:=Lib.hid ha
 have MC:=Lib.hid (tot_mild hg hgl (O - n) h)
 have KL:=Lib.hid (fun L=>key_le (L:=L) (d:=O - n) (h:=h) (fun g hh=>(hg g hh).1) hw)
 have QA:=Lib.hid (ha.qb (by omega))
 have PA:=Lib.hid ha0
 clear hL hi ha hg hgl hw ha0
 go_enter Tryz.func260,Tryz.ntmps260
 go_wp2_with fail
 obtain ⟨W,hW,P0,PB,Phs⟩:=box1 w 286 [.slice (some ⟨b,0,none⟩) (O + 1) (O + 1),.int .i64 ((v:Int) + 1),.bool s,.slice A m c,.slice A' m' c']
 rw [<- hW]
 clear hW
 obtain ⟨p0,p1,p2,p3,p4⟩:=five P0.out
 refine (seenG W O n b _ hv gs h (HL.out.below PB.out) hn hO (HI.out.below PB.out) hl hk).mono ?_
 rintro e w1 ⟨mv,L,rfl,hsn,hcnt,hbd,hb1⟩
 have SN:=Lib.hid hsn
 have CN:=Lib.hid hcnt
 have P1:=Lib.hid (P0.out.below' hb1)
 have B1:=Lib.hid (PB.out.trans (hb1.mono (by omega)))
 have s1:w.heap.size + 1 <= w1.heap.size:=Nat.le_trans Phs hb1.size
 obtain ⟨N,hN⟩:∃ N:Int,sumI L = N:=⟨_,rfl⟩
 have HN:=Lib.hid ((sumI_eq hcnt (KL.out L hcnt)).symm.trans hN)
 rw [hN]
 have hbs:=sumC_bd MC.out v
 rw [HN.out] at hbs
 have hN0:0 <= N:=hbs.1
 have hN1:N < 9223372036854775808:=by omega
 have QS:=Lib.hid (MC.out.qbsum hv')
 rw [HN.out] at QS
 have QW:Hid (QB 64 (((v:Int) + 1:Int):Rat)):=Lib.hid (qb_int (by omega) (by omega))
 obtain ⟨X3,hX3⟩:∃ x,a * (((v:Int) + 1:Int):Rat) = x:=⟨_,rfl⟩
 obtain ⟨X4,hX4⟩:∃ x,(N:Rat) + X3 = x:=⟨_,rfl⟩
 have Q3:Hid (QB 128 X3):=Lib.hid (by rw [<- hX3]; exact QA.out.mul QW.out)
 have Q4:Hid (QB 193 X4):=Lib.hid (by rw [<- hX4]; exact QS.out.add Q3.out)
 have P4:Hid (X4 ≠ 0):=Lib.hid (by
  have h1:0 < X3:=by rw [<- hX3]; exact Rat.mul_pos PA.out (by exact_mod_cast (show (0:Int) < (v:Int) + 1 by omega))
  have h2:(0:Rat) <= (N:Rat):=by exact_mod_cast hN0
  have h3:=(Rat.add_lt_add_left (c:=(N:Rat))).2 h1
  rw [Rat.add_zero,hX4] at h3
  exact fun e=>by rw [e] at h3; exact absurd (Std.lt_of_le_of_lt h2 h3) Rat.lt_irrefl)
 have HX3:=Lib.hid hX3
 have HX4:=Lib.hid hX4
 clear hX3 hX4
 clear p0 p1 p2 p3 p4 hsn hcnt hb1 hN hbd hbs
 obtain ⟨p0,p1,p2,p3,p4⟩:=five P1.out
 go_wp2_with (at_make; refine wpList_make_fracs rfl _ _ rfl ((v:Int) + 1) (v + 1) rfl rfl (by omega) (by omega) ?_)
 intro w2 hf2 hb2
 have F2:=Lib.hid hf2.arc
 have P2:=Lib.hid (P1.out.below' hb2)
 have B2:=Lib.hid (B1.out.trans (hb2.mono (by omega)))
 have SN2:=Lib.hid (SN.out.below hb2)
 have HA2:=Lib.hid ((HA.out.below B2.out).mono (show 64 <= 1000 by omega))
 have s2:w1.heap.size < w2.heap.size:=F2.out.lt
 clear p0 p1 p2 p3 p4 hf2 hb2 SN P1 P0 PB Phs HL HI HA
 have hS:=five P2.out
 go_upto_region 3 with fail
 go_cut [10] (fun p wc=>∃ bp,p = .pointer (some ⟨bp,0,none⟩)/\Hid (w2.heap.size <= bp)/\Hid (BoxC wc bp X4)/\Hid (Below w2.heap.size w2 wc))
 case first =>
  have BB:=Lib.hid (Below.refl w2.heap.size w2)
  go_region_held3 (fun w'=>w'.cell? ⟨w.heap.size,0,none⟩ = some (.slice (some ⟨b,0,none⟩) (O + 1) (O + 1))/\w'.cell? ⟨w.heap.size,1,none⟩ = some (.int .i64 ((v:Int) + 1))/\w'.cell? ⟨w.heap.size,2,none⟩ = some (.bool s)/\w'.cell? ⟨w.heap.size,3,none⟩ = some (.slice A m c)/\w'.cell? ⟨w.heap.size,4,none⟩ = some (.slice A' m' c'))
   (first | assumption | exact five_alloc hS _ | (refine five_box3 hS ?_ _ _ _ <;> omega) | go_keep)
   (first
    | (go_at_call_of 92 (Value.int .i64 N); refine (ofI _ N hN0 hN1).mono ?_; rintro e wl ⟨u1,rfl,t,hb⟩; have hb0:=hb; (first | replace hb:=below_new_drew hb | replace hb:=below_new hb | replace hb:=below_of_drew hb | skip); (try (first | replace AB:=Lib.hid (AB.out.below' hb) | replace AB:=Lib.hid (AB.out.below hb))); (first | have AB:=Lib.hid ((BoxC.zero _).below hb0) | have AB:=Lib.hid ((BoxC.zero _).below (below_of_drew hb0)) | skip); replace BB:=Lib.hid (BB.out.trans (hb.mono BB.out.size)); have hs:=BB.out.size; clear hb0; have T1:=Lib.hid (t.at_.frac (k:=1000) (QS.out.mono (by omega)) (by omega)); have hS:=five (P2.out.below' BB.out); clear t hb)
    | (go_at_call 92; (refine (ofI _ ((v:Int) + 1) (by omega) (by omega)).mono ?_; rintro e wl ⟨u2,rfl,t,hb⟩; have hb0:=hb; (first | replace hb:=below_new_drew hb | replace hb:=below_new hb | replace hb:=below_of_drew hb | skip); (try (first | replace AB:=Lib.hid (AB.out.below' hb) | replace AB:=Lib.hid (AB.out.below hb))); (try (first | replace T1:=Lib.hid (T1.out.below' hb) | replace T1:=Lib.hid (T1.out.below hb))); (first | have AB:=Lib.hid ((BoxC.zero _).below hb0) | have AB:=Lib.hid ((BoxC.zero _).below (below_of_drew hb0)) | skip); replace BB:=Lib.hid (BB.out.trans (hb.mono BB.out.size)); have hs:=BB.out.size; clear hb0; have T2:=Lib.hid (t.at_.frac (k:=1000) (QW.out.mono (by omega)) (by omega)); have hS:=five (P2.out.below' BB.out); have HA3:=Lib.hid (HA2.out.below BB.out); clear t hb))
    | (go_at_call 93; refine (mulF _ _ _ a (((v:Int) + 1:Int):Rat) 1000 ?_ ?_ (by omega) (by omega)).mono ?_; (first | exact HA3.out | exact HA3.out.below (below_drew_self _) | exact HA3.out.below (below_alloc_self _ _) | exact HA3.out.below (below_alloc_drew _ _)); (first | exact T2.out | exact T2.out.below (below_drew_self _) | exact T2.out.below (below_alloc_self _ _) | exact T2.out.below (below_alloc_drew _ _)); rintro e wl ⟨u3,rfl,t,hb⟩; rw [HX3.out] at t; have hb0:=hb; (first | replace hb:=below_new_drew hb | replace hb:=below_new hb | replace hb:=below_of_drew hb | skip); (try (first | replace AB:=Lib.hid (AB.out.below' hb) | replace AB:=Lib.hid (AB.out.below hb))); (try (first | replace T1:=Lib.hid (T1.out.below' hb) | replace T1:=Lib.hid (T1.out.below hb))); (first | have AB:=Lib.hid ((BoxC.zero _).below hb0) | have AB:=Lib.hid ((BoxC.zero _).below (below_of_drew hb0)) | skip); replace BB:=Lib.hid (BB.out.trans (hb.mono BB.out.size)); have hs:=BB.out.size; clear hb0; have T3:=Lib.hid (t.at_.frac (k:=1000) (Q3.out.mono (by omega)) (by omega)); have hS:=five (P2.out.below' BB.out); clear t hb)
    | (go_at_call 86; refine (addF _ _ _ (N:Rat) X3 1000 ?_ ?_ (by omega) (by omega)).mono ?_; (first | exact T1.out | exact T1.out.below (below_drew_self _) | exact T1.out.below (below_alloc_self _ _) | exact T1.out.below (below_alloc_drew _ _)); (first | exact T3.out | exact T3.out.below (below_drew_self _) | exact T3.out.below (below_alloc_self _ _) | exact T3.out.below (below_alloc_drew _ _)); rintro e wl ⟨u4,rfl,t,hb⟩; rw [HX4.out] at t; have hb0:=hb; (first | replace hb:=below_new_drew hb | replace hb:=below_new hb | replace hb:=below_of_drew hb | skip); (try (first | replace AB:=Lib.hid (AB.out.below' hb) | replace AB:=Lib.hid (AB.out.below hb))); (first | have AB:=Lib.hid ((BoxC.zero _).below hb0) | have AB:=Lib.hid ((BoxC.zero _).below (below_of_drew hb0)) | skip); replace BB:=Lib.hid (BB.out.trans (hb.mono BB.out.size)); have hs:=BB.out.size; clear hb0; obtain ⟨Ar,mr,cr,Ar',mr',cr',rfl⟩:=t.at_.open_; have T4:=Lib.hid t.at_; (try (obtain ⟨_,_,_,_,_,_,ab0,ab1,ab2,az0,az1,az2,_⟩:=AB.out.get)); have hS:=five (P2.out.below' BB.out); clear t hb))
  all_goals
   go_wp2_with fail
   go_meet
   first
    | exact ⟨_,rfl,Lib.hid (by omega),Lib.hid (BoxC.new T4.out),Lib.hid (BB.out.alloc BB.out.size _)⟩
    | exact ⟨_,rfl,Lib.hid (by omega),Lib.hid (AB.out.put rfl T4.out),Lib.hid (below3 BB.out (by omega) _ _ _ _ _ _)⟩
 obtain ⟨bp,rfl,hbp,BX,B3⟩:=hcut
 have s3:=hbp.out
 have P3:=Lib.hid (P2.out.below' B3.out)
 have F3:=Lib.hid (F2.out.below B3.out)
 have SN3:=Lib.hid (SN2.out.below B3.out)
 have HA3:=Lib.hid (HA2.out.below B3.out)
 have BL3:=Lib.hid (B2.out.trans (B3.out.mono (by omega)))
 obtain ⟨cw,hcw⟩:∃ C:Nat->Rat,C = fun (x:Nat)=>(((tot (O - n) gs (h ++ [(x:Int)]):Int):Rat) + a) / X4:=⟨_,rfl⟩
 have CW:=Lib.hid hcw
 clear hS hcw hbp P2 F2 SN2 HA2 B2 B3
 go_wp2_with fail
 go_loopg [11,36] (v + 1) (fun gh _ i wz=>∃ (j:Nat),i = .int .i64 j/\j + gh = v + 1/\Hid (FArc wz w1.heap.size ((List.range j).map cw ++ List.replicate gh 0))/\Hid (Blk wz w.heap.size 286 [.slice (some ⟨b,0,none⟩) (O + 1) (O + 1),.int .i64 ((v:Int) + 1),.bool s,.slice A m c,.slice A' m' c'])/\Hid (SeenAt wz mv L)/\Hid (FracAt 1000 wz (.agg #[.bool s,.slice A m c,.slice A' m' c']) a)/\Hid (BoxC wz bp X4)/\Hid (Below w.heap.size w wz))
 case atStart=>exact ⟨0,rfl,by omega,Lib.hid (by simpa using F3.out),P3,SN3,HA3,BX,BL3⟩
 clear P3 F3 SN3 HA3 BX BL3
 obtain ⟨j,rfl,hj,F3,P3,SN3,HA3,BX,BL3⟩:=hrel
 rcases Nat.eq_zero_or_pos gk with hh | hh
 ·subst hh
  obtain rfl:j = v + 1:=by omega
  go_wp2_with fail
  go_ret
  exact ⟨_,rfl,by omega,by
   have h1:=F3.out
   have h2:(N:Rat) + a * ((v + 1:Nat):Rat) = X4:=by
    rw [<- HX4.out,<- HX3.out,show ((v + 1:Nat):Rat) = (((v:Int) + 1:Int):Rat) from (Rat.intCast_natCast (v + 1)).symm]
   rw [List.replicate_zero,List.append_nil,CW.out] at h1
   unfold addedQ
   rw [HN.out,h2]
   exact h1,BL3.out⟩
 obtain ⟨gh,rfl⟩:∃ g,gk = g + 1:=⟨gk - 1,by omega⟩
 obtain ⟨cj,hcj⟩:∃ c,tot (O - n) gs (h ++ [(j:Int)]) = c:=⟨_,rfl⟩
 have hm:=MC.out (j:Int)
 have QC:=Lib.hid (MC.out.qb (j:Int))
 have hlk:=SN3.out.look CN.out (x:=(j:Int)) (by omega)
 simp only [hcj] at hm QC hlk
 have HCJ:=Lib.hid hcj
 clear hcj
 obtain ⟨X5,hX5⟩:∃ x,(cj:Rat) + a = x:=⟨_,rfl⟩
 have Q5:Hid (QB 129 X5):=Lib.hid (by rw [<- hX5]; exact QC.out.add QA.out)
 have HX5:=Lib.hid hX5
 clear hX5
 obtain ⟨Ax,mx,cx,Ax',mx',cx',x0,x1,x2,_,_,_,tx⟩:=BX.out.get
 have TX:=Lib.hid (tx.frac (k:=1000) (Q4.out.mono (by omega)) (by omega))
 have LK:Hid (∀ w',SeenAt w' mv L->(Instr.lookup 303 mv (.int .i64 (j:Int)) false).run Tryz.prog w' = .ok (.int .i64 cj) w'):=Lib.hid (fun w' hw'=>by
  have:=hw'.look CN.out (x:=(j:Int)) (by omega)
  simp only [HCJ.out] at this
  exact this)
 have hbx:=BX.out.lt
 have hwl:w1.heap.size < wr.heap.size:=F3.out.lt
 have BB:=Lib.hid (Below.refl wr.heap.size wr)
 have X0:=Lib.hid x0
 have X1:=Lib.hid x1
 have X2:=Lib.hid x2
 clear x0 x1 x2 tx hlk
 have q5:=five P3.out
 have hS:=And.intro q5.2.2.1 (And.intro q5.2.2.2.1 (And.intro q5.2.2.2.2 (And.intro X0.out (And.intro X1.out (And.intro X2.out (LK.out wr SN3.out))))))
 clear q5
 have j1:(0:Int) <= (j:Int):=by omega
 have j2:(j:Int) < (v:Int) + 1:=by omega
 go_wp2_with fail
 go_region_held3 (fun w'=>w'.cell? ⟨w.heap.size,2,none⟩ = some (.bool s)/\w'.cell? ⟨w.heap.size,3,none⟩ = some (.slice A m c)/\w'.cell? ⟨w.heap.size,4,none⟩ = some (.slice A' m' c')/\w'.cell? ⟨bp,0,none⟩ = some (.bool (isNeg X4))/\w'.cell? ⟨bp,1,none⟩ = some (.slice Ax mx cx)/\w'.cell? ⟨bp,2,none⟩ = some (.slice Ax' mx' cx')/\(Instr.lookup 303 mv (.int .i64 (j:Int)) false).run Tryz.prog w' = .ok (.int .i64 cj) w')
  (first | assumption | exact ⟨cell3 hS.1 (show w.heap.size ≠ w1.heap.size by omega) _ _ _ _ _ _,cell3 hS.2.1 (show w.heap.size ≠ w1.heap.size by omega) _ _ _ _ _ _,cell3 hS.2.2.1 (show w.heap.size ≠ w1.heap.size by omega) _ _ _ _ _ _,cell3 hS.2.2.2.1 (show bp ≠ w1.heap.size by omega) _ _ _ _ _ _,cell3 hS.2.2.2.2.1 (show bp ≠ w1.heap.size by omega) _ _ _ _ _ _,cell3 hS.2.2.2.2.2.1 (show bp ≠ w1.heap.size by omega) _ _ _ _ _ _,LK.out _ ((SN3.out.below BB.out).far3 (F3.out.below BB.out) _ _ _ _ _ _)⟩ | (refine ⟨?_,?_,?_,?_,?_,?_,?_⟩ <;> first | assumption | exact LK.out _ (SeenAt.drew SN3.out) | go_keep))
  (first
   | (go_at_call 92; refine (ofI _ cj (by omega) (by omega)).mono ?_; rintro e wl ⟨u1,rfl,t,hb⟩; have hb0:=hb; (first | replace hb:=below_new_drew hb | replace hb:=below_new hb | replace hb:=below_of_drew hb | skip); (try (first | replace AB:=Lib.hid (AB.out.below' hb) | replace AB:=Lib.hid (AB.out.below hb))); (first | have AB:=Lib.hid ((BoxC.zero _).below hb0) | have AB:=Lib.hid ((BoxC.zero _).below (below_of_drew hb0)) | skip); replace BB:=Lib.hid (BB.out.trans (hb.mono BB.out.size)); have hs:=BB.out.size; clear hb0; have T1:=Lib.hid (t.at_.frac (k:=1000) (QC.out.mono (by omega)) (by omega)); have q5:=five (P3.out.below' BB.out); have hS:=And.intro q5.2.2.1 (And.intro q5.2.2.2.1 (And.intro q5.2.2.2.2 (And.intro ((BB.out.cell (p:=⟨bp,0,none⟩) hbx).trans X0.out) (And.intro ((BB.out.cell (p:=⟨bp,1,none⟩) hbx).trans X1.out) (And.intro ((BB.out.cell (p:=⟨bp,2,none⟩) hbx).trans X2.out) (LK.out _ (SN3.out.below BB.out))))))); clear t hb q5)
   | (go_at_call 86; refine (addF _ _ _ (cj:Rat) a 1000 ?_ ?_ (by omega) (by omega)).mono ?_; (first | exact T1.out | exact T1.out.below (below_drew_self _) | exact T1.out.below (below_alloc_self _ _) | exact T1.out.below (below_alloc_drew _ _)); (exact HA3.out.below BB.out); rintro e wl ⟨u2,rfl,t,hb⟩; rw [HX5.out] at t; have hb0:=hb; (first | replace hb:=below_new_drew hb | replace hb:=below_new hb | replace hb:=below_of_drew hb | skip); (try (first | replace AB:=Lib.hid (AB.out.below' hb) | replace AB:=Lib.hid (AB.out.below hb))); (first | have AB:=Lib.hid ((BoxC.zero _).below hb0) | have AB:=Lib.hid ((BoxC.zero _).below (below_of_drew hb0)) | skip); replace BB:=Lib.hid (BB.out.trans (hb.mono BB.out.size)); have hs:=BB.out.size; clear hb0; have T2:=Lib.hid (t.at_.frac (k:=1000) (Q5.out.mono (by omega)) (by omega)); have q5:=five (P3.out.below' BB.out); have hS:=And.intro q5.2.2.1 (And.intro q5.2.2.2.1 (And.intro q5.2.2.2.2 (And.intro ((BB.out.cell (p:=⟨bp,0,none⟩) hbx).trans X0.out) (And.intro ((BB.out.cell (p:=⟨bp,1,none⟩) hbx).trans X1.out) (And.intro ((BB.out.cell (p:=⟨bp,2,none⟩) hbx).trans X2.out) (LK.out _ (SN3.out.below BB.out))))))); clear t hb q5)
   | (go_at_call 258; refine (overG _ _ _ X5 X4 1000 ?_ ?_ (by omega) (by omega) P4.out).mono ?_; (first | exact T2.out | exact T2.out.below (below_drew_self _) | exact T2.out.below (below_alloc_self _ _) | exact T2.out.below (below_alloc_drew _ _)); (exact TX.out.below BB.out); rintro e wl ⟨u3,rfl,t,hb⟩; have hb0:=hb; (first | replace hb:=below_new_drew hb | replace hb:=below_new hb | replace hb:=below_of_drew hb | skip); (try (first | replace AB:=Lib.hid (AB.out.below' hb) | replace AB:=Lib.hid (AB.out.below hb))); (first | have AB:=Lib.hid ((BoxC.zero _).below hb0) | have AB:=Lib.hid ((BoxC.zero _).below (below_of_drew hb0)) | skip); replace BB:=Lib.hid (BB.out.trans (hb.mono BB.out.size)); have hs:=BB.out.size; clear hb0; obtain ⟨Ar,mr,cr,Ar',mr',cr',rfl⟩:=t.at_.open_; have T3:=Lib.hid t.at_; have q5:=five (P3.out.below' BB.out); have hS:=And.intro q5.2.2.1 (And.intro q5.2.2.2.1 (And.intro q5.2.2.2.2 (And.intro ((BB.out.cell (p:=⟨bp,0,none⟩) hbx).trans X0.out) (And.intro ((BB.out.cell (p:=⟨bp,1,none⟩) hbx).trans X1.out) (And.intro ((BB.out.cell (p:=⟨bp,2,none⟩) hbx).trans X2.out) (LK.out _ (SN3.out.below BB.out))))))); obtain ⟨_,_,_,_,_,_,f0,f1,f2,y0,y1,y2,_⟩:=(F3.out.below BB.out).get (row_at cw j gh); clear t hb q5))
 go_wp2_with fail
 go_roundg gh
 case measure=>omega
 case rel =>
  have F4:=F3.out.below BB.out
  exact ⟨j + 1,rfl,by omega,Lib.hid (by
   have:=F4.put (i:=j) (by simp) rfl T3.out
   rwa [row_step cw j gh (by rw [CW.out]; simp only [HCJ.out,HX5.out])] at this),Lib.hid ((P3.out.below' BB.out).far3 (by omega) _ _ _ _ _ _),Lib.hid ((SN3.out.below BB.out).far3 F4 _ _ _ _ _ _),Lib.hid (F4.keepsF (HA3.out.below BB.out) _ _ _ _ _ _ _ _ _ _),Lib.hid (FArc.far (BX.out.below BB.out) F4 (by omega) _ _ _ _ _ _ _ _ _ _),Lib.hid (below3 (BL3.out.trans (BB.out.mono BL3.out.size)) (by omega) _ _ _ _ _ _)⟩
end Go.Proofs.YtdehimgccmbfkaaGreat
