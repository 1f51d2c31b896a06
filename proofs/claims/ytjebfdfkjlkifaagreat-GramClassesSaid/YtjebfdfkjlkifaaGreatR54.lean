/- Lemmas. -/
import Derived.Test.YtjebfdfkjlkifaaGreatR53
set_option linter.all false
set_option maxRecDepth 1000000
set_option maxHeartbeats 32000000
namespace Go.Proofs.YtjebfdfkjlkifaaGreat
open Go.RowKit
theorem zy {cs:List Int} {qs:List Rat} {V:Int} (h:clsB cs qs = true):inR 1 V cs = cs.all fun x=>decide (x <= V):=by
 have h1:=(clsB_ok h).2.2
 rw [Bool.eq_iff_iff,inR_iff,List.all_eq_true]
 constructor
 ·intro h2 x hx
  exact dT (h2 x hx).2
 intro h2 x hx
 obtain ⟨j,hj,rfl⟩:=List.getElem_of_mem hx
 have h3:=(h1 j hj).1
 rw [gD,eG hj] at h3
 exact ⟨h3,of_decide_eq_true (h2 _ hx)⟩
theorem zM {O V:Int} {gs:List Gr} {k:Int} {a:Rat} {mix:List Rat} {cs:List Int} {qs:List Rat} {hl:List Int} {x:Int} (h:clE O V gs k a mix cs qs hl x = 0):aJ O V gs k a mix = 0/\clsB cs qs = true/\inR 1 V cs = true/\(hl.length:Int) = O - 1/\inR 0 cs.length hl = true/\0 <= x/\x <= cs.length:=by
 unfold clE at h
 split at h
 ·next h1=>exact absurd h h1
 next h1 =>
 split at h
 ·cases h
 next h2 =>
 split at h
 ·cases h
 next h3 =>
 simp only [Bool.or_eq_true,Bool.not_eq_true',not_or,Bool.not_eq_false,bne_iff_ne,ne_eq,Decidable.not_not,decide_eq_true_eq] at h3
 exact ⟨Decidable.not_not.1 h1,by simpa using h2,h3.1,h3.2.1,h3.2.2.1,by omega,by omega⟩
theorem zC (w:World) (O V:Int) (lv:Value) (gs:List Gr) (k:Int) (s:Bool) (A A':Option Addr) (m c m' c':Nat) (mv:Value) (a:Rat) (mix:List Rat) (ov iv:Value) (cs:List Int) (qs:List Rat)(hv:Value)(hl:List Int) (x z:Int) (cq:Rat)(h:LangAt w lv gs s A A' m c m' c' a mv mix)(hh:IntsAt w hv hl)(ho:IntsAt w ov cs)(hi:FracsAt 64 w iv qs)(hc12:cs.length <= 12)(hq12:qs.length <= 12)(hE:clE O V gs k a mix cs qs hl x = z)(h1:z = 0->classedQ (fA k O.toNat gs V.toNat a mix (hl.map (clsOf cs))) cs qs x.toNat = cq)(h0:z ≠ 0->cq = 0)(hV8:V <= 8) :
  Calls Tryz.prog 63 #[aG O V lv k s A A' m c m' c' mv,.agg #[ov,iv],hv,.int .i64 x] w fun e w'=>∃ u,e = .returned (.tuple #[u,.int .i64 z])/\CanAt w' u cq/\Below w.heap.size w w':=by
 by_cases hz:z = 0
 ·subst hz
  obtain ⟨e1,e2,e3,e4,e5,e6,e7⟩:=zM hE
  have:=en (eI (cI e1).1).2.1
  obtain ⟨o,rfl⟩:∃ o:Nat,O = o:=⟨O.toNat,by omega⟩
  obtain ⟨v,rfl⟩:∃ v:Nat,V = v:=⟨V.toNat,by omega⟩
  obtain ⟨xn,rfl⟩:∃ xn:Nat,x = xn:=⟨x.toNat,by omega⟩
  refine (classedG w o v lv gs k s A A' m c m' c' mv a mix ov iv cs qs hv hl xn h hh ho hi e1 (by omega) hc12 hq12 e2 e3 (by omega) e5 (by omega)).mono ?_
  rintro e w' ⟨u,rfl,hu,_,hb⟩
  have h2:=h1 rfl
  simp only [Int.toNat_natCast] at h2
  rw [h2] at hu
  exact ⟨u,rfl,hu,hb⟩
 rw [h0 hz]
 refine (zz w O V lv gs k s A A' m c m' c' mv a mix ov iv cs qs hv hl x z h hh ho hi hc12 hq12 hE hz).mono ?_
 rintro e w' ⟨rfl,hb⟩
 exact ⟨_,rfl,uX _,hb⟩

theorem zo (hsort:ma) (w:World) (O V:Int) (Al:Option Addr) (nl cl:Nat) (gs:List Gr) (k:Int) (s:Bool) (A A':Option Addr) (m c m' c':Nat) (mv:Value) (am:Raw) (rs:List Raw) (ov iv:Value) (cs:List Int) (rc:List Raw)(hv:Value)(hl:List Int) (x:Int)(hg:GramsAt w (.slice Al nl cl) gs)(ha:RawAt w (.agg #[.bool s,.slice A m c,.slice A' m' c']) am)(hm:RawsAt w mv rs)(ho:IntsAt w ov cs)(hi:RawsAt w iv rc)(hh:IntsAt w hv hl)(hO:-9223372036854775808 <= O/\O <= 9223372036854775807) :
  Calls Tryz.prog 13 #[aG O V (.slice Al nl cl) k s A A' m c m' c' mv,.agg #[ov,iv],hv,.int .i64 x] w fun e w'=>e = .returned (.bool true)/\Below w.heap.size w w':=by
 obtain ⟨Am,cm,rfl,hmc,hcm,_⟩:=hm.open_
 obtain ⟨Ah,ch,rfl,hlc,hcm',hhat⟩:=hh.open_
 obtain ⟨Ao,co,rfl,hoc,hom,hoat⟩:=ho.open_
 obtain ⟨Ai,ci,rfl,hic,him,_⟩:=hi.open_
 have HK:=aH (vQ hsort)
 obtain ⟨ml,hml⟩:=nm (rs.length)
 obtain ⟨nh,hnh⟩:=nm (hl.length)
 obtain ⟨no,hno⟩:=nm (cs.length)
 obtain ⟨ni,hni⟩:=nm (rc.length)
 obtain ⟨a,hqa⟩:=nm (am.q)
 obtain ⟨mix,hmix⟩:=nm (rs.map Raw.q)
 obtain ⟨qs,hqs⟩:=nm (rc.map Raw.q)
 have HTN:Hd (∀ w',Below w.heap.size w w'->Calls Tryz.prog 25 #[aG O V (.slice Al nl cl) k s A A' m c m' c' (.slice Am ml cm)] w' fun e w2=>e = .returned (.bool (da V gs am rs))/\Below w'.heap.size w' w2):=aH (fun w' hb=>by
  rw [<- hml]
  exact wj w' O V (.slice Al nl cl) gs k s A A' m c m' c' _ am rs (hg.below hb) (ha.below hb) (hm.below hb))
 have HLA:Hd (da V gs am rs = true->∀ w',Below w.heap.size w w'->LangAt w' (.slice Al nl cl) gs s A A' m c m' c' a (.slice Am ml cm) mix):=aH (fun ht w' hb=>by
  rw [<- hml,<- hqa,<- hmix]
  exact (LangAt.of hg ha hm ht).below hb)
 have HCC:Hd (∀ w',Below w.heap.size w w'->Calls Tryz.prog 60 #[.agg #[.slice Ao no co,.slice Ai ni ci]] w' fun e w2=>e = .returned (.bool (classesB cs rc))/\Below w'.heap.size w' w2):=aH (fun w' hb=>by
  rw [<- hno,<- hni]
  exact classesG w' _ _ cs rc (ho.below hb) (hi.below hb))
 have HSML:Hd (classesB cs rc = true->cs.length <= 12/\qs.length <= 12):=aH (fun h=>by
  unfold classesB at h
  simp only [Bool.and_eq_true,decide_eq_true_eq] at h
  rw [<- hqs,List.length_map]
  exact ⟨h.1,h.2.1⟩)
 have HFC:Hd (classesB cs rc = true->∀ w',Below w.heap.size w w'->FracsAt 64 w' (.slice Ai ni ci) qs):=aH (fun h w' hb=>by
  unfold classesB at h
  simp only [Bool.and_eq_true,decide_eq_true_eq] at h
  rw [<- hni,<- hqs]
  exact (hi.fracs h.2.2).below hb)
 have HHC:Hd (∀ w',Below w.heap.size w w'->IntsAt w' (.slice Ah nh ch) hl):=aH (fun w' hb=>by rw [<- hnh]; exact hh.below hb)
 have HOC:Hd (∀ w',Below w.heap.size w w'->IntsAt w' (.slice Ao no co) cs):=aH (fun w' hb=>by rw [<- hno]; exact ho.below hb)
 have HOA:=aH hoat
 have HHA:=aH hhat
 rw [hml] at hmc ⊢
 rw [hnh] at hlc ⊢
 rw [hno] at hoc ⊢
 rw [hni] at hic ⊢
 have HNH:=aH hnh
 have HNO:=aH hno
 obtain ⟨tb,htb⟩:=nm (da V gs am rs)
 obtain ⟨cb,hcb⟩:=nm (classesB cs rc)
 obtain ⟨ce,hce⟩:=nm (aJ O V gs k a mix)
 obtain ⟨bc,hbc⟩:=nm ((ce != 0))
 obtain ⟨qb,hqb⟩:=nm (clsB cs qs)
 obtain ⟨kb,hkb⟩:=nm ((cs.all fun x=>decide (x <= V)))
 obtain ⟨bl,hbl⟩:=nm (((nh:Int) != O - 1))
 obtain ⟨b4,hb4⟩:=nm (decide (x < 0))
 obtain ⟨b5,hb5⟩:=nm (decide ((no:Int) < x))
 obtain ⟨b10,hb10⟩:=nm (decide ((10:Int) < (nh:Int)))
 have hb10':decide (10 < nh) = b10:=by rw [<- hb10]; exact decide_eq_decide.2 (by omega)
 obtain ⟨tk,htk⟩:=nm ((!tb || (!cb || b10)))
 obtain ⟨t8,ht8⟩:=nm ((!bc && (!qb || (!kb || (bl || (b4 || b5))))))
 obtain ⟨z,hz⟩:=nm (clE O V gs k a mix cs qs hl x)
 obtain ⟨cq,hcq⟩:=nm ((if z = 0 then classedQ (fA k O.toNat gs V.toNat a mix (hl.map (clsOf cs))) cs qs x.toNat else 0))
 have HTB:=aH htb
 have HCB:=aH hcb
 have HCE:=aH hce
 have HBC:=aH hbc
 have HQB:=aH hqb
 have HKB:=aH hkb
 have HBL:=aH hbl
 have HB4:=aH hb4
 have HB5:=aH hb5
 have HTK:=aH htk
 have HT8D:=aH ht8
 have HZD:=aH hz
 have HQ1:Hd (z = 0->classedQ (fA k O.toNat gs V.toNat a mix (hl.map (clsOf cs))) cs qs x.toNat = cq):=aH (fun h=>by rw [<- hcq,if_pos h])
 have HQ0:Hd (z ≠ 0->cq = 0):=aH (fun h=>by rw [<- hcq,if_neg h])
 have HZC:Hd (ce ≠ 0->z = ce):=aH (fun h=>by
  rw [<- hz]
  unfold clE
  rw [hce,if_pos h])
 have HT8T:Hd (t8 = true->z = 2):=aH (fun h=>by
  rw [h] at ht8
  simp only [Bool.and_eq_true,Bool.not_eq_true'] at ht8
  obtain ⟨h1,h2⟩:=ht8
  rw [h1] at hbc
  have hc0:ce = 0:=by simpa using hbc
  rw [<- hz]
  unfold clE
  rw [hce,if_neg (by rw [hc0]; decide)]
  cases hq:clsB cs qs with
  | false=>rw [if_pos rfl]
  | true =>
   rw [if_neg (by decide),zy hq,hkb,hno,hnh,hbl,hb4,hb5,if_pos]
   rw [<- hqb,hq] at h2
   cases hr:inR 0 (no:Int) hl <;> cases kb <;> cases bl <;> cases b4 <;> cases b5 <;> first | rfl | exact h2)
 have HT8F:Hd (t8 = false->ce = 0->qb = true/\kb = true/\bl = false/\b4 = false/\b5 = false):=aH (fun h hc0=>by
  rw [h] at ht8
  have:bc = false:=by rw [<- hbc,hc0]; rfl
  rw [this] at ht8
  simp only [Bool.not_false,Bool.true_and,Bool.or_eq_false_iff,Bool.not_eq_false'] at ht8
  exact ht8)
 have hbc2:=hbc
 clear hsort hg ha hm ho hi hh hml hnh hno hni hqa hmix hqs htb hcb hce hbc hqb hkb htk ht8 hz hcq hoat hhat
 unfold aG
 go_enter Tryz.func13,Tryz.ntmps13
 go_upto_region 1 with fail
 obtain ⟨W,hW,P0,P1,PB,Phs⟩:=cP w 43 [.int .i64 O,.int .i64 V,.slice Al nl cl,.int .i64 k,.bool s,.slice A m c,.slice A' m' c',.slice Am ml cm] 94 [.slice Ao no co,.slice Ai ni ci]
 rw [<- hW]
 clear hW
 obtain ⟨p0,p1,p2,p3,p4,p5,p6,p7⟩:=an P0.o
 obtain ⟨q0,q1⟩:=two_at P1.o
 go_cut [26] (fun t wc=>t = .bool tk/\Hd (Below W.heap.size W wc))
 case first =>
  go_wp2_with fail
  refine (HTN.o W PB.o).mono ?_
  rintro e wa1 ⟨rfl,hb1⟩
  rw [HTB.o]
  have BA1:=aH hb1
  clear hb1 p0 p1 p2 p3 p4 p5 p6 p7 q0 q1
  obtain ⟨p0,p1,p2,p3,p4,p5,p6,p7⟩:=an (P0.o.below' BA1.o)
  obtain ⟨q0,q1⟩:=two_at (P1.o.below' BA1.o)
  cases tb with
  | false =>
   go_wp2_with fail
   go_meet
   exact ⟨by rw [<- HTK.o]; rfl,BA1⟩
  | true =>
   go_wp2_with fail
   refine (HCC.o wa1 (PB.o.trans (BA1.o.mono PB.o.size))).mono ?_
   rintro e wa2 ⟨rfl,hb2⟩
   rw [HCB.o]
   have BA2:=aH (BA1.o.trans (hb2.mono BA1.o.size))
   clear hb2 p0 p1 p2 p3 p4 p5 p6 p7 q0 q1
   obtain ⟨p0,p1,p2,p3,p4,p5,p6,p7⟩:=an (P0.o.below' BA2.o)
   obtain ⟨q0,q1⟩:=two_at (P1.o.below' BA2.o)
   cases cb with
   | false =>
    go_wp2_with fail
    go_meet
    exact ⟨by rw [<- HTK.o]; rfl,BA2⟩
   | true =>
    cases b10 <;> (go_wp2_with fail; go_meet; exact ⟨by rw [<- HTK.o]; rfl,BA2⟩)
 case rest =>
 obtain ⟨rfl,hcc⟩:=hcut
 obtain ⟨w1,rfl⟩:∃ x,x = wc:=⟨_,rfl⟩
 have P1':=aH (P0.o.below' hcc.o)
 have C1:=aH (P1.o.below' hcc.o)
 have B1:=aH (PB.o.trans (hcc.o.mono PB.o.size))
 clear hcc p0 p1 p2 p3 p4 p5 p6 p7 q0 q1 P0 P1 PB Phs hb10 hb10'
 have P1:=P1'
 clear P1'
 cases tk with
 | true =>
  go_wp2_with fail
  refine (HK.o _).mono ?_
  rintro e wK ⟨rfl,hbK⟩
  have BK:=aH (B1.o.trans (hbK.mono B1.o.size))
  clear hbK
  go_wp2_with fail
  go_ret
  exact ⟨rfl,BK.o⟩
 | false =>
 have HTT:=HTK.o
 simp only [Bool.or_eq_false_iff,Bool.not_eq_false'] at HTT
 obtain ⟨rfl,rfl,rfl⟩:=HTT
 have SM:=aH (rE (iZ HTB.o).1)
 have HLA2:=aH (HLA.o HTB.o)
 have HFC2:=aH (HFC.o HCB.o)
 have hno12:no <= 12:=by have:=(HSML.o HCB.o).1; rw [HNO.o] at this; exact this
 clear HTN HCC HTK
 obtain ⟨p0,p1,p2,p3,p4,p5,p6,p7⟩:=an P1.o
 obtain ⟨q0,q1⟩:=two_at C1.o
 go_wp2_with fail
 refine (checkClR w1 _ _ cs qs (HOC.o w1 B1.o) (HFC2.o w1 B1.o) (HSML.o HCB.o).1 (HSML.o HCB.o).2).mono ?_
 rintro e w2 ⟨rfl,hb⟩
 rw [HQB.o]
 have B2:=aH (B1.o.trans (hb.mono B1.o.size))
 have P2:=aH (P1.o.below' hb)
 have C2:=aH (C1.o.below' hb)
 clear B1 P1 C1  p0 p1 p2 p3 p4 p5 p6 p7 q0 q1
 clear hb
 obtain ⟨p0,p1,p2,p3,p4,p5,p6,p7⟩:=an P2.o
 obtain ⟨q0,q1⟩:=two_at C2.o
 go_upto_region 4 with fail
 go_cut [43] (fun t wc=>t = .bool false/\Hd (Below w2.heap.size w2 wc))
 case first =>
  cases qb with
  | true =>
   go_wp2_with fail
   refine (checkClG w2 _ _ cs qs (HOC.o w2 B2.o) (HFC2.o w2 B2.o) (HSML.o HCB.o).1 (HSML.o HCB.o).2).mono ?_
   rintro e wa ⟨rfl,hba⟩
   rw [show clsE cs qs = 0 by unfold clsE; rw [HQB.o]; rfl]
   have BA:=aH hba
   clear hba
   go_wp2_with fail
   go_meet
   exact ⟨rfl,BA⟩
  | false =>
   go_wp2_with fail
   refine (checkClG w2 _ _ cs qs (HOC.o w2 B2.o) (HFC2.o w2 B2.o) (HSML.o HCB.o).1 (HSML.o HCB.o).2).mono ?_
   rintro e wa ⟨rfl,hba⟩
   rw [show clsE cs qs = 2 by unfold clsE; rw [HQB.o]; rfl]
   have BA:=aH hba
   clear hba p0 p1 p2 p3 p4 p5 p6 p7 q0 q1
   obtain ⟨q0,q1⟩:=two_at (C2.o.below' BA.o)
   go_wp2_with fail
   refine (checkClG wa _ _ cs qs (HOC.o wa (B2.o.trans (BA.o.mono B2.o.size))) (HFC2.o wa (B2.o.trans (BA.o.mono B2.o.size))) (HSML.o HCB.o).1 (HSML.o HCB.o).2).mono ?_
   rintro e wb ⟨rfl,hbb⟩
   rw [show clsE cs qs = 2 by unfold clsE; rw [HQB.o]; rfl]
   have BB:=aH (BA.o.trans (hbb.mono BA.o.size))
   clear hbb
   go_wp2_with fail
   go_meet
   exact ⟨rfl,BB⟩
 obtain ⟨rfl,hcc⟩:=hcut
 obtain ⟨w3,rfl⟩:∃ x,x = wc:=⟨_,rfl⟩
 have hbc:=hcc.o
 clear hcc
 have B3:=aH (B2.o.trans (hbc.mono B2.o.size))
 have P3:=aH (P2.o.below' hbc)
 have C3:=aH (C2.o.below' hbc)
 clear B2 P2 C2  p0 p1 p2 p3 p4 p5 p6 p7 q0 q1
 clear hbc
 obtain ⟨p0,p1,p2,p3,p4,p5,p6,p7⟩:=an P3.o
 obtain ⟨q0,q1⟩:=two_at C3.o
 go_wp2_with fail
 refine (zC w3 O V (.slice Al nl cl) gs k s A A' m c m' c' (.slice Am ml cm) a mix _ _ cs qs _ hl x z cq (HLA2.o w3 B3.o) (HHC.o w3 B3.o) (HOC.o w3 B3.o) (HFC2.o w3 B3.o) (HSML.o HCB.o).1 (HSML.o HCB.o).2 HZD.o HQ1.o HQ0.o SM.o.2).mono ?_
 rintro e w4 ⟨u,rfl,hu,hb⟩
 obtain ⟨Ax,mx,cx,Ax',mx',cx',rfl⟩:=hu.open_
 have U4:=aH hu
 clear hu
 have B4:=aH (B3.o.trans (hb.mono B3.o.size))
 have P4:=aH (P3.o.below' hb)
 have C4:=aH (C3.o.below' hb)
 clear B3 P3 C3  p0 p1 p2 p3 p4 p5 p6 p7 q0 q1
 clear hb
 go_upto_region 7 with fail
 obtain ⟨w5,hw5,X0,XB,Xhs⟩:=aA w4 40 [.bool (ae cq),.slice Ax mx cx,.slice Ax' mx' cx']
 rw [<- hw5]
 clear hw5
 have B5:=aH (B4.o.trans (XB.o.mono B4.o.size))
 have P5:=aH (P4.o.below' XB.o)
 have C5:=aH (C4.o.below' XB.o)
 have U5:=aH (U4.o.below XB.o)
 clear B4 P4 C4 U4
 have X5:=X0
 clear X0 XB Xhs
 obtain ⟨p0,p1,p2,p3,p4,p5,p6,p7⟩:=an P5.o
 obtain ⟨q0,q1⟩:=two_at C5.o
 go_wp2_with fail
 refine (pV w5 O V (.slice Al nl cl) gs k s A A' m c m' c' (.slice Am ml cm) a mix (HLA2.o w5 B5.o)).mono ?_
 rintro e w6 ⟨rfl,hb⟩
 rw [HCE.o]
 have B6:=aH (B5.o.trans (hb.mono B5.o.size))
 have P6:=aH (P5.o.below' hb)
 have C6:=aH (C5.o.below' hb)
 have X6:=aH (X5.o.below' hb)
 have U6:=aH (U5.o.below hb)
 clear B5 P5 C5 X5 U5 p0 p1 p2 p3 p4 p5 p6 p7 q0 q1
 clear hb
 obtain ⟨p0,p1,p2,p3,p4,p5,p6,p7⟩:=an P6.o
 obtain ⟨q0,q1⟩:=two_at C6.o
 go_upto_region 8 with fail
 go_cut [85] (fun t wc=>t = .bool t8/\Hd (Below w6.heap.size w6 wc))
 case first =>
  cases bc with
  | true =>
   have n8:(ce == 0) = false:=by have:=HBC.o; simpa using this
   go_wp2_with fail
   go_meet
   exact ⟨by rw [<- HT8D.o]; rfl,aH (Below.refl _ _)⟩
  | false =>
   obtain rfl:ce = 0:=by have:=HBC.o; simpa using this
   have HSZ:=en (eI (cI HCE.o).1).2.1
   have e9:IntKind.i64.wrap (O - 1) = O - 1:=iI _ (by omega)
   cases qb with
   | false =>
    go_wp2_with fail
    go_meet
    exact ⟨by rw [<- HT8D.o]; rfl,aH (Below.refl _ _)⟩
   | true =>
    go_wp2_with fail
    refine (knownCR w6 O V Al nl cl k s A A' m c m' c' Am ml cm _ Ai ni ci cs (HOC.o w6 B6.o)).mono ?_
    rintro e wa ⟨rfl,hba⟩
    rw [HKB.o]
    have BA:=aH hba
    clear hba p0 p1 p2 p3 p4 p5 p6 p7 q0 q1
    obtain ⟨p0,p1,p2,p3,p4,p5,p6,p7⟩:=an (P6.o.below' BA.o)
    obtain ⟨q0,q1⟩:=two_at (C6.o.below' BA.o)
    cases kb with
    | false =>
     go_wp2_with fail
     go_meet
     exact ⟨by rw [<- HT8D.o]; rfl,BA⟩
    | true =>
     cases bl with
     | true =>
      go_wp2_with fail
      go_meet
      exact ⟨by rw [<- HT8D.o]; rfl,BA⟩
     | false =>
      cases b4 with
      | true =>
       go_wp2_with fail
       go_meet
       exact ⟨by rw [<- HT8D.o]; rfl,BA⟩
      | false =>
       cases b5 <;> (go_wp2_with fail; go_meet; exact ⟨by rw [<- HT8D.o]; rfl,BA⟩)
 obtain ⟨rfl,hcc⟩:=hcut
 obtain ⟨w8,rfl⟩:∃ x,x = wc:=⟨_,rfl⟩
 have hbc:=hcc.o
 clear hcc
 have B8:=aH (B6.o.trans (hbc.mono B6.o.size))
 have P8:=aH (P6.o.below' hbc)
 have C8:=aH (C6.o.below' hbc)
 have X8:=aH (X6.o.below' hbc)
 have U8:=aH (U6.o.below hbc)
 clear B6 P6 C6 X6 U6 p0 p1 p2 p3 p4 p5 p6 p7 q0 q1
 clear hbc
 obtain ⟨p0,p1,p2,p3,p4,p5,p6,p7⟩:=an P8.o
 obtain ⟨q0,q1⟩:=two_at C8.o
 clear hb4 hb5 hbl hbc2
 cases t8 with
 | true =>
  obtain rfl:z = 2:=HT8T.o rfl
  have hzn:(2:Int) ≠ 0:=by decide
  go_wp2_with fail
  go_loopg [12,13] 0 (fun g s12 s13 wz=>s12 = .int .i64 2/\s13 = .int .i64 0/\wz = w8)
  case atStart=>exact ⟨rfl,rfl,rfl⟩
  obtain ⟨rfl,rfl,rfl⟩:=hrel
  obtain ⟨t1,ht1⟩:=nm (decide ((0:Int) < (nh:Int)))
  have ht1':decide (0 < nh) = t1:=by rw [<- ht1]; exact decide_eq_decide.2 (by omega)
  cases t1
  all_goals
   have n9:((2:Int) == 2) = true:=by simp
   obtain rfl:cq = 0:=HQ0.o hzn
   obtain ⟨x0,x1,x2,_,_,_⟩:=X8.o.three
   have TQ:=aH (U8.o.frac (cB 64 (by omega)) (by omega))
   go_wp2_with fail
   refine (ez wr _ 0 64 TQ.o (by omega)).mono ?_
   rintro e wS ⟨rfl,hbS⟩
   rw [show aU 0 = 0 from rfl]
   have BS:=aH (B8.o.trans (hbS.mono B8.o.size))
   clear hbS x0 x1 x2 TQ
   go_wp2_with fail
   refine (HK.o _).mono ?_
   rintro e wK ⟨rfl,hbK⟩
   have BK:=aH (BS.o.trans (hbK.mono BS.o.size))
   clear hbK
   go_wp2_with fail
   go_ret
   exact ⟨rfl,BK.o⟩
 | false =>
  by_cases hc:ce = 0
  ·subst hc
   have HSZ:=en (eI (cI HCE.o).1).2.1
   obtain ⟨o,rfl⟩:∃ o:Nat,O = o:=⟨O.toNat,by omega⟩
   obtain ⟨v,rfl⟩:∃ v:Nat,V = v:=⟨V.toNat,by omega⟩
   have hv8:v <= 8:=by have:=SM.o.2; omega
   have HT8:=HT8F.o rfl rfl
   obtain ⟨rfl,rfl,rfl,rfl,rfl⟩:=HT8
   have HKN:Hd (inR 1 v cs = true):=aH (by rw [zy HQB.o,HKB.o])
   have hx0:0 <= x:=by have:=of_decide_eq_false HB4.o; omega
   have hxn:x <= (no:Int):=by have:=of_decide_eq_false HB5.o; omega
   have HZW:Hd (z = if inR 0 (no:Int) hl = true then 0 else 2):=aH (by
    rw [<- HZD.o]
    unfold clE
    rw [HCE.o,HQB.o,HKN.o,HNO.o,HNH.o,HBL.o,HB4.o,HB5.o]
    cases inR 0 (no:Int) hl <;> rfl)
   obtain ⟨bx,hbx⟩:=nm (w4.heap.size)
   rw [hbx] at X8 ⊢
   clear hbx
   go_wp2_with fail
   go_loopg [12,13] nh (fun g s12 s13 wz=>∃ (i:Nat) (wv:Int),s12 = .int .i64 wv/\s13 = .int .i64 i/\i + g = nh/\Hd ((wv = 0/\∀ y ∈ hl.take i,0 <= y/\y <= (no:Int)) ∨ (wv = 2/\inR 0 (no:Int) hl = false))/\Hd (Below w8.heap.size w8 wz))
   case atStart=>exact ⟨0,0,rfl,rfl,by omega,aH (.inl ⟨rfl,fun y hy=>by simp at hy⟩),aH (Below.refl _ _)⟩
   obtain ⟨w9,rfl⟩:∃ x,x = wr:=⟨_,rfl⟩
   obtain ⟨i,wv,rfl,rfl,hi,HW,BW⟩:=hrel
   have P9:=aH (P8.o.below' BW.o)
   have C9:=aH (C8.o.below' BW.o)
   have X9:=aH (X8.o.below' BW.o)
   have U9:=aH (U8.o.below BW.o)
   have B9:=aH (B8.o.trans (BW.o.mono B8.o.size))
   clear p0 p1 p2 p3 p4 p5 p6 p7 q0 q1
   obtain ⟨p0,p1,p2,p3,p4,p5,p6,p7⟩:=an P9.o
   obtain ⟨q0,q1⟩:=two_at C9.o
   by_cases hcont:i < nh/\wv = 0
   ·obtain ⟨hin,rfl⟩:=hcont
    obtain ⟨g,rfl⟩:∃ g,gk = g + 1:=⟨gk - 1,by omega⟩
    have HALL:Hd (∀ y ∈ hl.take i,0 <= y/\y <= (no:Int)):=aH (by
     rcases HW.o with h | h
     ·exact h.2
     exact absurd h.1 (by decide))
    obtain ⟨y,hy⟩:∃ y,hl[i]? = some y:=⟨_,eG (by rw [HNH.o]; exact hin)⟩
    obtain ⟨bh,oh,rfl,hbh,e0⟩:=HHA.o i y hy
    have c9:=(B9.o.cell (p:=⟨bh,oh + i,none⟩) hbh).trans e0
    have HYI:=aH hy
    have i1:(0:Int) <= (i:Int):=by omega
    have i2:(i:Int) < (nh:Int):=by omega
    have i9:IntKind.i64.wrap ((i:Int) + 1) = (i:Int) + 1:=iI _ (by omega)
    have HOUT:Hd (¬ (0 <= y/\y <= (no:Int))->inR 0 (no:Int) hl = false):=aH (fun h=>by
     cases hr:inR 0 (no:Int) hl with
     | false=>rfl
     | true=>exact absurd (inR_iff.1 hr y (mG HYI.o)) h)
    clear hy e0
    by_cases h1:y < 0
    ·have d1:decide (y < 0) = true:=dT h1
     have HN2:Hd (inR 0 (no:Int) hl = false):=aH (HOUT.o (by omega))
     clear h1
     go_wp2_with fail
     go_quiet (fail)
     go_wp2_with fail
     go_roundg g
     case measure=>omega
     case rel=>exact ⟨i + 1,2,rfl,by simp,by omega,aH (.inr ⟨rfl,HN2.o⟩),aH (ak BW.o nq)⟩
    have d1:decide (y < 0) = false:=dF h1
    by_cases h2:(no:Int) < y
    ·have d2:decide ((no:Int) < y) = true:=dT h2
     have HN2:Hd (inR 0 (no:Int) hl = false):=aH (HOUT.o (by omega))
     clear h1 h2
     go_wp2_with fail
     go_quiet (fail)
     go_wp2_with fail
     go_roundg g
     case measure=>omega
     case rel=>exact ⟨i + 1,2,rfl,by simp,by omega,aH (.inr ⟨rfl,HN2.o⟩),aH (ak BW.o nq)⟩
    have d2:decide ((no:Int) < y) = false:=dF h2
    have HALL2:Hd (∀ u ∈ hl.take (i + 1),0 <= u/\u <= (no:Int)):=aH (fun u hu=>by
     rw [ah _ HYI.o,List.mem_append,List.mem_singleton] at hu
     rcases hu with hu | rfl
     ·exact HALL.o u hu
     omega)
    clear h1 h2
    go_wp2_with fail
    go_quiet (fail)
    go_wp2_with fail
    go_roundg g
    case measure=>omega
    case rel=>exact ⟨i + 1,0,rfl,by simp,by omega,aH (.inl ⟨rfl,HALL2.o⟩),aH (ak BW.o nq)⟩
   obtain ⟨t1,ht1⟩:=nm (decide ((i:Int) < (nh:Int)))
   have ht1':decide (i < nh) = t1:=by rw [<- ht1]; exact decide_eq_decide.2 (by omega)
   obtain ⟨t2,ht2⟩:=nm ((wv == 0))
   have HTT:Hd ((t1 && t2) = false):=aH (by
    rw [<- ht1,<- ht2,Bool.and_eq_false_iff,decide_eq_false_iff_not,beq_eq_false_iff_ne]
    by_cases h:(i:Int) < (nh:Int)
    ·exact .inr (fun h0=>hcont ⟨by omega,h0⟩)
    exact .inl h)
   have HWV:Hd ((wv = 0/\inR 0 (no:Int) hl = true) ∨ (wv = 2/\inR 0 (no:Int) hl = false)):=aH (by
    rcases HW.o with h | h
    ·refine .inl ⟨h.1,inR_iff.2 fun y hy=>h.2 y ?_⟩
     have:i = nh:=by
      have:=h.1
      by_cases h9:i < nh
      ·exact absurd ⟨h9,this⟩ hcont
      omega
     rw [this,tL (by rw [HNH.o]; exact nR _)]
     exact hy
    exact .inr h)
   clear hcont
   go_upto_region 11 with fail
   go_cut [93] (fun t wc=>t = .bool false/\wc = w9)
   case first =>
    have HT3:=HTT.o
    clear HTT
    cases t1 <;> cases t2 <;> (first | (exact absurd HT3 (by decide)) | (go_wp2_with fail; go_meet; exact ⟨rfl,rfl⟩))
   case rest =>
   obtain ⟨rfl,hwc⟩:=hcut
   rw [hwc]
   clear hwc wc ht1 ht1' ht2
   rcases HWV.o with ⟨rfl,hir⟩ | ⟨rfl,hir⟩
   ·have HIR:=aH hir
    clear hir
    obtain rfl:z = 0:=by rw [HZW.o,if_pos HIR.o]
    have HNL:Hd (hl.length = o - 1):=aH (by rw [HNH.o]; have:=HBL.o; simp only [bne_eq_false_iff_eq] at this; omega)
    obtain ⟨xn,rfl⟩:∃ xn:Nat,x = xn:=⟨x.toNat,by omega⟩
    have HCQ2:Hd (classedQ (fA k o gs v a mix (hl.map (clsOf cs))) cs qs xn = cq):=aH (HQ1.o rfl)
    obtain ⟨x0,x1,x2,_,_,_⟩:=X9.o.three
    have sL:=P9.o.lt
    have sC:=C9.o.lt
    have sX:=X9.o.lt
    have HSET:Hd (∀ w',Below w9.heap.size w9 w'->(fun w'=>w'.cell? ⟨w.heap.size,0,none⟩ = some (.int .i64 (o:Int))/\w'.cell? ⟨w.heap.size,1,none⟩ = some (.int .i64 (v:Int))/\w'.cell? ⟨w.heap.size,2,none⟩ = some (.slice Al nl cl)/\w'.cell? ⟨w.heap.size,3,none⟩ = some (.int .i64 k)/\w'.cell? ⟨w.heap.size,4,none⟩ = some (.bool s)/\w'.cell? ⟨w.heap.size,5,none⟩ = some (.slice A m c)/\w'.cell? ⟨w.heap.size,6,none⟩ = some (.slice A' m' c')/\w'.cell? ⟨w.heap.size,7,none⟩ = some (.slice Am ml cm)/\w'.cell? ⟨w.heap.size + 1,0,none⟩ = some (.slice Ao no co)/\w'.cell? ⟨w.heap.size + 1,1,none⟩ = some (.slice Ai ni ci)/\w'.cell? ⟨bx,0,none⟩ = some (.bool (ae cq))/\w'.cell? ⟨bx,1,none⟩ = some (.slice Ax mx cx)/\w'.cell? ⟨bx,2,none⟩ = some (.slice Ax' mx' cx')) w'):=aH (fun w' hb=>⟨(hb.cell (p:=⟨w.heap.size,0,none⟩) sL).trans p0,(hb.cell (p:=⟨w.heap.size,1,none⟩) sL).trans p1,(hb.cell (p:=⟨w.heap.size,2,none⟩) sL).trans p2,(hb.cell (p:=⟨w.heap.size,3,none⟩) sL).trans p3,(hb.cell (p:=⟨w.heap.size,4,none⟩) sL).trans p4,(hb.cell (p:=⟨w.heap.size,5,none⟩) sL).trans p5,(hb.cell (p:=⟨w.heap.size,6,none⟩) sL).trans p6,(hb.cell (p:=⟨w.heap.size,7,none⟩) sL).trans p7,(hb.cell (p:=⟨w.heap.size + 1,0,none⟩) sC).trans q0,(hb.cell (p:=⟨w.heap.size + 1,1,none⟩) sC).trans q1,(hb.cell (p:=⟨bx,0,none⟩) sX).trans x0,(hb.cell (p:=⟨bx,1,none⟩) sX).trans x1,(hb.cell (p:=⟨bx,2,none⟩) sX).trans x2⟩)
    have BB:=aH (Below.refl w9.heap.size w9)
    have hS:=HSET.o w9 BB.o
    clear p0 p1 p2 p3 p4 p5 p6 p7 q0 q1 x0 x1 x2
    go_upto_region 17 with fail
    go_region_held3 (fun w'=>w'.cell? ⟨w.heap.size,0,none⟩ = some (.int .i64 (o:Int))/\w'.cell? ⟨w.heap.size,1,none⟩ = some (.int .i64 (v:Int))/\w'.cell? ⟨w.heap.size,2,none⟩ = some (.slice Al nl cl)/\w'.cell? ⟨w.heap.size,3,none⟩ = some (.int .i64 k)/\w'.cell? ⟨w.heap.size,4,none⟩ = some (.bool s)/\w'.cell? ⟨w.heap.size,5,none⟩ = some (.slice A m c)/\w'.cell? ⟨w.heap.size,6,none⟩ = some (.slice A' m' c')/\w'.cell? ⟨w.heap.size,7,none⟩ = some (.slice Am ml cm)/\w'.cell? ⟨w.heap.size + 1,0,none⟩ = some (.slice Ao no co)/\w'.cell? ⟨w.heap.size + 1,1,none⟩ = some (.slice Ai ni ci)/\w'.cell? ⟨bx,0,none⟩ = some (.bool (ae cq))/\w'.cell? ⟨bx,1,none⟩ = some (.slice Ax mx cx)/\w'.cell? ⟨bx,2,none⟩ = some (.slice Ax' mx' cx'))
     (first | assumption | exact hS | go_keep)
     (first
      | (go_at_call 65; refine (zJ _ o v (.slice Al nl cl) gs k s A A' m c m' c' (.slice Am ml cm) a mix _ _ cs qs _ hl xn (HLA2.o _ (B9.o.trans ((BB.o.trans (bS _)).mono B9.o.size))) (HHC.o _ (B9.o.trans ((BB.o.trans (bS _)).mono B9.o.size))) (HOC.o _ (B9.o.trans ((BB.o.trans (bS _)).mono B9.o.size))) (HFC2.o _ (B9.o.trans ((BB.o.trans (bS _)).mono B9.o.size))) HCE.o hv8 SM.o.1 (HSML.o HCB.o).1 (clsB_ok HQB.o).2.1 HKN.o HNL.o (by rw [HNO.o]; exact HIR.o) (by rw [HNO.o]; omega)).mono ?_; rw [HCQ2.o]; rintro e wl ⟨u,rfl,t,hb'⟩; have hb:=bO hb'; replace BB:=aH (BB.o.trans (hb.mono BB.o.size)); obtain ⟨Ay,my,cy,Ay',my',cy',rfl⟩:=t.open_; have T2:=aH t; have hS:=HSET.o _ BB.o; clear t hb hb')
      | (go_at_call 40; refine (gW _ _ _ cq cq (U9.o.below BB.o) T2.o).mono ?_; rintro e wl ⟨rfl,hb⟩; rw [show decide (cq = cq) = true from dT rfl]; replace BB:=aH (BB.o.trans (hb.mono BB.o.size)); have hS:=HSET.o _ BB.o; clear hb)
      | (go_at_call 18; refine (HK.o _).mono ?_; rintro e wl ⟨rfl,hb⟩; replace BB:=aH (BB.o.trans (hb.mono BB.o.size)); have hS:=HSET.o _ BB.o; clear hb))
    all_goals
     go_wp2_with fail
     go_ret
     exact ⟨rfl,B9.o.trans (BB.o.mono B9.o.size)⟩
   obtain rfl:z = 2:=by rw [HZW.o,hir]; rfl
   have hzn:(2:Int) ≠ 0:=by decide
   have n9:((2:Int) == 2) = true:=by simp
   obtain rfl:cq = 0:=HQ0.o hzn
   obtain ⟨x0,x1,x2,_,_,_⟩:=X9.o.three
   have TQ:=aH (U9.o.frac (cB 64 (by omega)) (by omega))
   go_wp2_with fail
   refine (ez w9 _ 0 64 TQ.o (by omega)).mono ?_
   rintro e wS ⟨rfl,hbS⟩
   rw [show aU 0 = 0 from rfl]
   have BS:=aH (B9.o.trans (hbS.mono B9.o.size))
   clear hbS x0 x1 x2 TQ
   go_wp2_with fail
   refine (HK.o _).mono ?_
   rintro e wK ⟨rfl,hbK⟩
   have BK:=aH (BS.o.trans (hbK.mono BS.o.size))
   clear hbK
   go_wp2_with fail
   go_ret
   exact ⟨rfl,BK.o⟩
  have hzc:z = ce:=HZC.o hc
  subst hzc
  have hzn:z ≠ 0:=hc
  have n3:(z == 0) = false:=by simpa using hc
  have n4:(z != 0) = true:=by simpa using hc
  go_wp2_with fail
  go_loopg [12,13] 0 (fun g s12 s13 wz=>s12 = .int .i64 z/\s13 = .int .i64 0/\wz = w8)
  case atStart=>exact ⟨rfl,rfl,rfl⟩
  obtain ⟨rfl,rfl,rfl⟩:=hrel
  obtain ⟨t1,ht1⟩:=nm (decide ((0:Int) < (nh:Int)))
  have ht1':decide (0 < nh) = t1:=by rw [<- ht1]; exact decide_eq_decide.2 (by omega)
  cases t1
  all_goals
   have n9:(z == z) = true:=by simp
   obtain rfl:cq = 0:=HQ0.o hzn
   obtain ⟨x0,x1,x2,_,_,_⟩:=X8.o.three
   have TQ:=aH (U8.o.frac (cB 64 (by omega)) (by omega))
   go_wp2_with fail
   refine (ez wr _ 0 64 TQ.o (by omega)).mono ?_
   rintro e wS ⟨rfl,hbS⟩
   rw [show aU 0 = 0 from rfl]
   have BS:=aH (B8.o.trans (hbS.mono B8.o.size))
   clear hbS x0 x1 x2 TQ
   go_wp2_with fail
   refine (HK.o _).mono ?_
   rintro e wK ⟨rfl,hbK⟩
   have BK:=aH (BS.o.trans (hbK.mono BS.o.size))
   clear hbK
   go_wp2_with fail
   go_ret
   exact ⟨rfl,BK.o⟩
end Go.Proofs.YtjebfdfkjlkifaaGreat
