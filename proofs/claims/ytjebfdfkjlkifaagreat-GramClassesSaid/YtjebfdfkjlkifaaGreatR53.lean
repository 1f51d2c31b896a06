/- Lemmas. -/
import Derived.Test.YtjebfdfkjlkifaaGreatR48
import Derived.Test.YtjebfdfkjlkifaaGreatR52
set_option linter.all false
set_option maxRecDepth 1000000
set_option maxHeartbeats 32000000
namespace Go.Proofs.YtjebfdfkjlkifaaGreat
open Go.RowKit
def RelR (o p:List Rat):Prop:=o.length = p.length/\∀ j,0 <= o.getD j 0/\o.getD j 0 <= p.getD j 0/\(o.getD j 0 = 0->p.getD j 0 = 0)
theorem RelR.nil_ (n:Nat):RelR (List.replicate n 0) (List.replicate n 0):=⟨rfl,fun j=>by
 have:(List.replicate n (0:Rat)).getD j 0 = 0:=by
  rw [gD,List.getElem?_replicate]
  split <;> rfl
 rw [this]
 exact ⟨Rat.le_refl,Rat.le_refl,fun h=>h⟩⟩

theorem IntsAt.same {F:Nat} {w w':World} {v:Value} {l:List Int} (h:IntsAt w v l)(hf:From v F)(hs:Same F w w'):IntsAt w' v l:=Sl.same h hf hs
structure RRule where
 f:Int
 w:Int
 t:Int
 r:Raw
def RRule.rule (x:RRule):bP:=⟨x.f,x.w,x.t,x.r.q⟩
def RRule.thin (x:RRule):Bool:=x.r.thin
def RRulesAt (w:World) (v:Value) (rs:List RRule):Prop:=∃ cells,Sl w 6 v rs.length cells/\∀ (i:Nat) (r:RRule),rs[i]? = some r->∃ vn vd,cells[i * 6]? = some (.int .i64 r.f)/\cells[i * 6 + 1]? = some (.int .i64 r.w)/\cells[i * 6 + 2]? = some (.int .i64 r.t) /\
 cells[i * 6 + 3]? = some (.bool r.r.neg)/\cells[i * 6 + 4]? = some vn/\cells[i * 6 + 5]? = some vd/\DigAt w vn r.r.n/\DigAt w vd r.r.d
theorem RRulesAt.below {w w':World} {v:Value} {rs:List RRule} (h:RRulesAt w v rs)(hb:Below w.heap.size w w'):RRulesAt w' v rs:=by
 obtain ⟨cells,h1,h2⟩:=h
 refine ⟨cells,h1.below hb,fun i r hr=>?_⟩
 obtain ⟨vn,vd,e0,e1,e2,e3,e4,e5,hn,hd⟩:=h2 i r hr
 exact ⟨vn,vd,e0,e1,e2,e3,e4,e5,hn.below hb,hd.below hb⟩
theorem RRulesAt.rules {w:World} {v:Value} {rs:List RRule} (h:RRulesAt w v rs)(ht:rs.all RRule.thin = true):RulesAt 64 w v (rs.map RRule.rule):=by
 obtain ⟨cells,h1,h2⟩:=h
 refine ⟨cells,by rw [List.length_map]; exact h1,fun i q hq=>?_⟩
 rw [List.getElem?_map] at hq
 cases hr:rs[i]? with
 | none=>rw [hr] at hq; cases hq
 | some r =>
  rw [hr] at hq
  cases hq
  obtain ⟨vn,vd,e0,e1,e2,e3,e4,e5,hn,hd⟩:=h2 i r hr
  exact ⟨_,_,_,e0,e1,e2,e3,e4,e5,RawAt.frac ⟨vn,vd,rfl,hn,hd⟩ (List.all_eq_true.1 ht r (mG hr))⟩
theorem RRulesAt.open_ {w:World} {v:Value} {rs:List RRule} (h:RRulesAt w v rs):∃ A c,v = .slice A rs.length c/\rs.length <= c/\c <= 9223372036854775807 /\
  ∀ (j:Nat) (r:RRule),rs[j]? = some r->∃ b off An nc Ad dc,A = some ⟨b,off,none⟩/\b < w.heap.size/\w.cell? ⟨b,off + j * 6,none⟩ = some (.int .i64 r.f)/\w.cell? ⟨b,off + j * 6 + 1,none⟩ = some (.int .i64 r.w)/\w.cell? ⟨b,off + j * 6 + 2,none⟩ = some (.int .i64 r.t) /\
   w.cell? ⟨b,off + j * 6 + 3,none⟩ = some (.bool r.r.neg)/\w.cell? ⟨b,off + j * 6 + 4,none⟩ = some (.slice An r.r.n.length nc)/\w.cell? ⟨b,off + j * 6 + 5,none⟩ = some (.slice Ad r.r.d.length dc):=by
 obtain ⟨cells,h1,h2⟩:=h
 obtain ⟨h0,A,c,rfl,hc,hm,h5⟩:=h1
 refine ⟨A,c,rfl,hc,by unfold maxLen at hm; omega,fun j x hx=>?_⟩
 have hj:=(sI.1 hx).1
 obtain ⟨b,off,e,hlt,hcell⟩:=h5 (by omega)
 obtain ⟨vn,vd,e0,e1,e2,e3,e4,e5,hn,hd⟩:=h2 j x hx
 obtain ⟨_,An,nc,rfl,_⟩:=hn.open_
 obtain ⟨_,Ad,dc,rfl,_⟩:=hd.open_
 exact ⟨b,off,An,nc,Ad,dc,e,hlt,hcell _ _ e0,by rw [Nat.add_assoc]; exact hcell _ _ e1,by rw [Nat.add_assoc]; exact hcell _ _ e2,by rw [Nat.add_assoc]; exact hcell _ _ e3,by rw [Nat.add_assoc]; exact hcell _ _ e4,by rw [Nat.add_assoc]; exact hcell _ _ e5⟩
section
open Go.RowKit Go.ChangeShapes Go.WideShapes Go.Deep Go.Joins

theorem zQ {α:Type} {cs:Array α} (h:cs.size = 2):∃ c0 c1,cs = #[c0,c1]:=by
 obtain ⟨l⟩:=cs
 match l,h with
 | [c0,c1],_=>exact ⟨c0,c1,rfl⟩
theorem open_classes {H:Type} {enc:TypeId × Value->H} {W:World} {held:Bool} {v:Value} {d:DataW H} {ps:List MemPlace} {r:Reach} {b0:Nat}
  (hv:Value.okWide Tryz.prog W r b0 94 v)(h:DataW.Trod enc Tryz.prog W 0 (fun _=>true) held 94 v d ps) :
  ∃ (ov iv:Value) (cs:List Int) (rs:List Raw),v = .agg #[ov,iv]/\IntsAt W ov cs/\RawsAt W iv rs:=by
 have ci:Tryz.prog.cellsOf 44 = 1:=by kernel_rfl
 have cf:Tryz.prog.cellsOf 41 = 1:=by kernel_rfl
 have cl:Tryz.prog.cellsOf 94 = 2:=by kernel_rfl
 obtain ⟨cs,rfl,hsz⟩:=okWide_struct Tryz.underlying94 hv
 obtain ⟨c0,c1,rfl⟩:=zQ (hsz.trans cl)
 obtain ⟨fuel,hf⟩:=h
 obtain ⟨y0,y1,n,_,_,h0,h1⟩:=trod_struct2 Tryz.underlying94 hf
 simp [Value.cells,ci,cf] at h0 h1
 have e0:∃ A m c,c0 = .slice A m c:=by
  rcases open_ints Tryz.underlying44 Tryz.underlying3 (by kernel_rfl) h0 with ⟨hc,_⟩ | ⟨a',len,cap,zs,hc,_⟩
  ·simp at hc
   exact ⟨_,_,_,hc⟩
  simp at hc
  exact ⟨_,_,_,hc⟩
 obtain ⟨A,m,c,rfl⟩:=e0
 obtain ⟨l,hl⟩:=kR h0
 obtain ⟨rs,hrs⟩:=pW h1
 exact ⟨_,_,l,rs,rfl,hl,hrs⟩
end
theorem zJ (w:World) (O v:Nat) (lv:Value) (gs:List Gr) (k:Int) (s:Bool) (A A':Option Addr) (m c m' c':Nat) (mv:Value) (a:Rat) (mix:List Rat) (ov iv:Value) (cs:List Int) (qs:List Rat)(hv:Value)(hl:List Int) (x:Nat)
  (h:LangAt w lv gs s A A' m c m' c' a mv mix)(hh:IntsAt w hv hl)(ho:IntsAt w ov cs)(hi:FracsAt 64 w iv qs)(hck:aJ O v gs k a mix = 0)(hv8:v <= 8)(h60:gs.length <= 60)(hc12:cs.length <= 12)(hq12:qs.length = cs.length)(hkn:inR 1 v cs = true)(hlen:hl.length = O - 1)(hin:inR 0 cs.length hl = true)(hx:x <= cs.length) :
  Calls Tryz.prog 65 #[aG O v lv k s A A' m c m' c' mv,.agg #[ov,iv],hv,.int .i64 x] w fun e w'=>∃ u,e = .returned u/\CanAt w' u (classedQ (fA k O gs v a mix (hl.map (clsOf cs))) cs qs x)/\Below w.heap.size w w':=by
 have hO:=(dy (cI hck).1).2.1
 have hsz:=bY (cI hck).1 hv8
 have hHE:bM O v gs k a mix (hl.map (clsOf cs)) = 0:=yr hck (by
  rw [List.length_map,Bool.and_eq_true]
  refine ⟨by simp; omega,inR_iff.2 fun y hy=>?_⟩
  obtain ⟨z,hz,rfl⟩:=List.mem_map.1 hy
  have h1:=inR_iff.1 hin z hz
  obtain ⟨y',h2,h3⟩:=clsOf_in (x:=z.toNat) hkn (by omega)
  rw [show ((z.toNat:Nat):Int) = z by omega] at h2
  rw [h2]
  omega)
 obtain ⟨T,rv,F,hw⟩:=rk w O v lv gs k s A A' m c m' c' mv a mix h hck hv8
 obtain ⟨Al,cl,rfl,_,_,_⟩:=h.grams.open_
 obtain ⟨Am,cm,rfl,_,_,_⟩:=h.mixes.open_
 obtain ⟨Ah,ch,rfl,hlc,hlm,hhat⟩:=hh.open_
 obtain ⟨Ao,co,rfl,hoc,hom,hot⟩:=ho.open_
 obtain ⟨Ai,ci,rfl,hic,him,hit⟩:=hi.at_
 have HL:=aH h
 have HHAT:=aH hhat
 have HOT:=aH hot
 have HIT:=aH hit
 have HHE:=aH hHE
 have HIN:=aH hin
 obtain ⟨no,hno⟩:=nm (cs.length)
 obtain ⟨nh,hnh⟩:=nm (hl.length)
 obtain ⟨row,hrow⟩:=nm (fA k O gs v a mix (hl.map (clsOf cs)))
 obtain ⟨y,hy,hyv⟩:∃ y:Nat,clsOf cs x = (y:Int)/\y < v + 1:=clsOf_in hkn hx
 have hwl:=hw.len (hl.map (clsOf cs))
 have hwq:=hw.qb (hl.map (clsOf cs))
 rw [hrow] at hwl hwq
 obtain ⟨qx,hqx⟩:∃ q,row[y]? = some q:=⟨_,eG (by rw [hwl]; exact hyv)⟩
 have HR:=aH hrow
 have HY:=aH hy
 have HQX:=aH hqx
 have HGD:Hd (row.getD y 0 = qx):=aH (by rw [gD,hqx]; rfl)
 have QX:Hd (QB 6000000 qx):=aH ((hwq _ (mG hqx)).mono (by omega))
 obtain ⟨cq,hcq⟩:=nm (classedQ row cs qs x)
 have HCQ:=aH hcq
 rw [hrow,hcq]
 rw [hq12,hno] at hic
 rw [hno] at hoc hx hc12 HIN
 rw [hnh] at hlc hlen
 rw [hq12,hno,hnh]
 have HNO:=aH hno
 have HNH:=aH hnh
 have HNI:=aH hq12
 have yb2:(0:Int) <= (y:Int):=by omega
 have yb3:(y:Int) < (v:Int) + 1:=by omega
 have hnb:nh <= 3:=by omega
 clear h hh ho hi hck hkn hin hw hhat hot hit hno hnh hrow hy hqx hwl hwq hcq hq12 hlen hHE
 unfold aG
 go_enter Tryz.func65,Tryz.ntmps65
 go_upto_region 1 with fail
 obtain ⟨W,hW,P0,P1,P2,PB,Phs⟩:=box3 w 43 [.int .i64 O,.int .i64 v,.slice Al gs.length cl,.int .i64 k,.bool s,.slice A m c,.slice A' m' c',.slice Am mix.length cm] 94 [.slice Ao no co,.slice Ai no ci] 40 [.bool false,.slice none 0 0,.slice none 0 0]
 rw [<- hW]
 clear hW
 go_wp2_with fail
 have sR4:w.heap.size + 2 < W.heap.size:=P2.o.lt
 go_loopg [10,9,11] nh (fun gh i h9 _ wz=>∃ (j:Nat) (A9:Option Addr) (c9:Nat),i = .int .i64 j/\h9 = .slice A9 j c9/\j + gh = nh/\Hd (wz.ownsRow W.heap.size 3 1 (.slice A9 j c9) j (((hl.take j).map (clsOf cs)).map (Value.int .i64)))/\Hd (Below W.heap.size W wz))
 case atStart=>exact ⟨0,none,0,rfl,rfl,by omega,aH (World.ownsRow_nil ..),aH (Below.refl _ _)⟩
 obtain ⟨w5,rfl⟩:∃ x,x = wr:=⟨_,rfl⟩
 obtain ⟨j,A9,c9,rfl,rfl,hj,OW,BW⟩:=hrel
 have L5:=aH (P0.o.below' BW.o)
 have C5:=aH (P1.o.below' BW.o)
 have R5:=aH (P2.o.below' BW.o)
 have B5:=aH (PB.o.trans (BW.o.mono PB.o.size))
 have s5:W.heap.size <= w5.heap.size:=BW.o.size
 obtain ⟨p0,p1,p2,p3,p4,p5,p6,p7⟩:=an L5.o
 obtain ⟨q0,q1⟩:=two_at C5.o
 rcases zP gk with hg | hg
 ·subst hg
  obtain rfl:j = nh:=by omega
  have I5:Hd (IntsAt w5 (.slice A9 j c9) (hl.map (clsOf cs))):=aH (by
   have h1:=Sl.of_own OW.o
   rw [tL (by rw [HNH.o]; exact nR _)] at h1
   unfold IntsAt
   rw [List.length_map,HNH.o]
   exact h1)
  go_wp2_with fail
  refine (lN w5 O v (.slice Al gs.length cl) gs k s A A' m c m' c' (.slice Am mix.length cm) a mix _ _ (HL.o.below B5.o) I5.o HHE.o hv8 h60).mono ?_
  rw [HR.o]
  rintro e w6 ⟨b6,rfl,hb6,hf6,hb⟩
  have F6:=aH hf6
  have C6:=aH (C5.o.below' hb)
  have R6:=aH (R5.o.below' hb)
  have B6:=aH (B5.o.trans (hb.mono B5.o.size))
  clear hb hf6 p0 p1 p2 p3 p4 p5 p6 p7 q0 q1 OW I5 L5 C5 R5 B5
  obtain ⟨q0,q1⟩:=two_at C6.o
  obtain ⟨u0,u1,u2,z0,z1,z2⟩:=R6.o.three
  obtain ⟨Ar,mr,cr,Ar',mr',cr',r0,r1,r2,_,_,_,tr⟩:=F6.o.get HQX.o
  rcases zP x with hx0 | hx0
  ·subst hx0
   have t1:(((0:Nat):Int) == 0) = true:=by simp
   have hy0:y = 0:=by
    have h1:=HY.o
    unfold clsOf at h1
    rw [if_pos (by rfl)] at h1
    omega
   subst hy0
   have HE:Hd (cq = qx):=aH (by
    rw [<- HCQ.o,<- HGD.o]
    rfl)
   simp only [Nat.zero_mul,Nat.zero_add] at r0 r1 r2
   have v3:(0:Int) < (v:Int) + 1:=by omega
   have RN:=aH (FArc.keeps (BoxC.of (q:=0) R6.o (uX w6)) tr 0 1 2 (ae qx) Ar Ar' mr cr mr' cr')
   clear tr
   go_wp2_with fail
   refine bodyPost_ret (v:=.agg #[.bool (ae qx),.slice Ar mr cr,.slice Ar' mr' cr']) (by simp [results,Tryz.results65,go_sem,u0,u1,u2]) rfl ⟨_,rfl,?_,af B6.o (by omega) _ _ _⟩
   rw [HE.o]
   exact RN.o
  obtain ⟨i,rfl⟩:∃ i,x = i + 1:=⟨x - 1,by omega⟩
  obtain ⟨qi,hqi⟩:∃ q,qs[i]? = some q:=⟨_,eG (by rw [HNI.o,HNO.o]; omega)⟩
  have HG:Hd (cs.getD i 0 = (y:Int)):=aH (by
   have h1:=HY.o
   unfold clsOf at h1
   rw [if_neg (by omega),show (((i + 1:Nat):Int) - 1).toNat = i by omega] at h1
   exact h1)
  have HE:Hd (qx * qi = cq):=aH (by
   rw [<- HCQ.o]
   unfold classedQ
   rw [if_neg (by omega),Nat.add_sub_cancel,<- HGD.o,HG.o,Int.toNat_natCast]
   congr 1
   rw [gD,hqi]
   rfl)
  obtain ⟨yy,hyy⟩:∃ z,cs[i]? = some z:=⟨_,eG (by rw [HNO.o]; omega)⟩
  have hyy2:yy = (y:Int):=by
   have:=HG.o
   rwa [gD,hyy,Option.getD_some] at this
  subst hyy2
  obtain ⟨bo,oo,rfl,hbo,e9⟩:=HOT.o i _ hyy
  obtain ⟨bi,oi,ng,An,nn,cn,Ad,nd,cd,rfl,hbi,f0,f1,f2,hfx⟩:=HIT.o i qi hqi
  have c9':=(B6.o.cell (p:=⟨bo,oo + i,none⟩) hbo).trans e9
  have c0:=(B6.o.cell (p:=⟨bi,oi + i * 3,none⟩) hbi).trans f0
  have c1:=(B6.o.cell (p:=⟨bi,oi + i * 3 + 1,none⟩) hbi).trans f1
  have c2:=(B6.o.cell (p:=⟨bi,oi + i * 3 + 2,none⟩) hbi).trans f2
  have TX:=aH ((hfx.below B6.o).mono (show 64 <= 6000000 by omega))
  have TO:=aH (tr.frac (k:=6000000) QX.o (by omega))
  have j9:IntKind.i64.wrap (((i + 1:Nat):Int) - 1) = (i:Int):=by rw [show ((i + 1:Nat):Int) - 1 = (i:Int) by omega]; exact iI _ (by omega)
  have t1:(((i + 1:Nat):Int) == 0) = false:=by simp; omega
  obtain ⟨z,hz⟩:∃ z:Int,((i + 1:Nat):Int) = z:=⟨_,rfl⟩
  rw [hz] at j9 t1 ⊢
  have i1:(0:Int) <= (i:Int):=by omega
  have i2:(i:Int) < (no:Int):=by omega
  have sC:=C6.o.lt
  have sI:bi < w6.heap.size:=by have:=B6.o.size; omega
  have sO:bo < w6.heap.size:=by have:=B6.o.size; omega
  have sF:=F6.o.lt
  have HSET:Hd (∀ w',Below w6.heap.size w6 w'->(fun w'=>w'.cell? ⟨w.heap.size + 1,0,none⟩ = some (.slice (some ⟨bo,oo,none⟩) no co)/\w'.cell? ⟨w.heap.size + 1,1,none⟩ = some (.slice (some ⟨bi,oi,none⟩) no ci)/\w'.cell? ⟨bo,oo + i,none⟩ = some (.int .i64 (y:Int))/\w'.cell? ⟨bi,oi + i * 3,none⟩ = some (.bool ng)/\w'.cell? ⟨bi,oi + i * 3 + 1,none⟩ = some (.slice An nn cn)/\w'.cell? ⟨bi,oi + i * 3 + 2,none⟩ = some (.slice Ad nd cd)/\w'.cell? ⟨b6,y * 3,none⟩ = some (.bool (ae qx))/\w'.cell? ⟨b6,y * 3 + 1,none⟩ = some (.slice Ar mr cr)/\w'.cell? ⟨b6,y * 3 + 2,none⟩ = some (.slice Ar' mr' cr')) w'):=aH (fun w' hb=>⟨(hb.cell (p:=⟨w.heap.size + 1,0,none⟩) sC).trans q0,(hb.cell (p:=⟨w.heap.size + 1,1,none⟩) sC).trans q1,(hb.cell (p:=⟨bo,oo + i,none⟩) sO).trans c9',(hb.cell (p:=⟨bi,oi + i * 3,none⟩) sI).trans c0,(hb.cell (p:=⟨bi,oi + i * 3 + 1,none⟩) sI).trans c1,(hb.cell (p:=⟨bi,oi + i * 3 + 2,none⟩) sI).trans c2,(hb.cell (p:=⟨b6,y * 3,none⟩) sF).trans r0,(hb.cell (p:=⟨b6,y * 3 + 1,none⟩) sF).trans r1,(hb.cell (p:=⟨b6,y * 3 + 2,none⟩) sF).trans r2⟩)
  clear hqi hyy e9 f0 f1 f2 hfx q0 q1 c0 c1 c2 c9' r0 r1 r2 hz tr u0 u1 u2 z0 z1 z2
  go_upto_region 12 with fail
  refine wp_region_held_drew (S:=(fun w'=>w'.cell? ⟨w.heap.size + 1,0,none⟩ = some (.slice (some ⟨bo,oo,none⟩) no co)/\w'.cell? ⟨w.heap.size + 1,1,none⟩ = some (.slice (some ⟨bi,oi,none⟩) no ci)/\w'.cell? ⟨bo,oo + i,none⟩ = some (.int .i64 (y:Int))/\w'.cell? ⟨bi,oi + i * 3,none⟩ = some (.bool ng)/\w'.cell? ⟨bi,oi + i * 3 + 1,none⟩ = some (.slice An nn cn)/\w'.cell? ⟨bi,oi + i * 3 + 2,none⟩ = some (.slice Ad nd cd)/\w'.cell? ⟨b6,y * 3,none⟩ = some (.bool (ae qx))/\w'.cell? ⟨b6,y * 3 + 1,none⟩ = some (.slice Ar mr cr)/\w'.cell? ⟨b6,y * 3 + 2,none⟩ = some (.slice Ar' mr' cr'))) (by kernel_rfl) (HSET.o _ (bS w6)) (fun hHeld=>?_)
  refine tjj 0 ?_ rfl (by kernel_rfl) rfl ‹_› ?_ (fun _ _ _ h=>h) (tjj 1 ?_ rfl (by kernel_rfl) rfl ‹_› ?_ (fun _ _ _ h=>h) (tjj 2 ?_ rfl (by kernel_rfl) rfl ‹_› ?_ (fun _ _ _ h=>h) (tjj 3 ?_ rfl (by kernel_rfl) rfl ‹_› ?_ (fun _ _ _ h=>h) (tjj 4 ?_ rfl (by kernel_rfl) rfl ‹_› ?_ (fun _ _ _ h=>h) (tjj 5 ?_ rfl (by kernel_rfl) rfl ‹_› ?_ (fun _ _ _ h=>h) (tjj 6 ?_ rfl (by kernel_rfl) rfl ‹_› ?_ (fun _ _ _ h=>h) (tjj 7 ?_ rfl (by kernel_rfl) rfl ‹_› ?_ (fun _ _ _ h=>h) (tjj 8 ?_ rfl (by kernel_rfl) rfl ‹_› ?_ (fun _ _ _ h=>h) (tjj 9 ?_ rfl (by kernel_rfl) rfl ‹_› ?_ (fun _ _ _ h=>h) (tjj 10 ?_ rfl (by kernel_rfl) rfl ‹_› ?_ (fun _ _ _ h=>h) (tjj 11 ?_ rfl (by kernel_rfl) rfl ‹_› ?_ (fun _ _ _ h=>h) (tjj 12 ?_ rfl (by kernel_rfl) rfl ‹_› ?_ (fun _ _ _ h=>h) (tjj 13 ?_ rfl (by kernel_rfl) rfl ‹_› ?_ (fun _ _ _ h=>h) (tjj 14 ?_ rfl (by kernel_rfl) rfl ‹_› ?_ (fun _ _ _ h=>h) ?_))))))))))))))
  iterate 15 (rotate_left; · (intro w' hSw; (try dsimp only at hSw); (try go_frame); go_simp <;> with_reducible rfl))
  go_frame
  refine wpAnyH_ready (rs:=[15]) (by kernel_rfl) (by simp) ?_
  refine AllReadyH.cons rfl (fun K hK=>?_) AllReadyH.nil
  go_simp
  clear hHeld
  refine (mV _ _ _ qx qi 6000000 (TO.o.below (bS _)) (TX.o.below (bS _)) (by omega) (by omega)).mono ?_
  rintro e wl ⟨u,rfl,t,hb'⟩
  rw [HE.o] at t
  have hb:=bO hb'
  have BB:=aH hb
  obtain ⟨As,ms,cs2,As',ms',cs',rfl⟩:=t.at_.open_
  have T2:=aH t.at_
  clear t hb'
  have hS:=HSET.o wl hb
  try go_simp
  refine hK.out _ _ hS (fun hHeld=>?_)
  clear hK K hS
  try go_frame
  have nC:w.heap.size + 1 ≠ w.heap.size + 2:=by omega
  have nI:bi ≠ w.heap.size + 2:=by omega
  have nO:bo ≠ w.heap.size + 2:=by omega
  have sR6:=R6.o.lt
  have R7:=aH (R6.o.below' BB.o)
  have RN:=aH (FArc.keeps (BoxC.of (q:=0) R7.o (uX wl)) T2.o 0 1 2 (ae cq) As As' ms cs2 ms' cs')
  obtain ⟨u0,u1,u2,z0,z1,z2⟩:=R7.o.three
  refine wpAnyH_ready (rs:=[16]) (by kernel_rfl) (by simp) ?_
  refine AllReadyH.cons rfl (fun K hK=>?_) AllReadyH.nil
  go_simp
  have nF:b6 ≠ w.heap.size + 2:=by omega
  refine hK.out _ _ ⟨aj hHeld.1 nC _ _ _ _ _ _,aj hHeld.2.1 nC _ _ _ _ _ _,aj hHeld.2.2.1 nO _ _ _ _ _ _,aj hHeld.2.2.2.1 nI _ _ _ _ _ _,aj hHeld.2.2.2.2.1 nI _ _ _ _ _ _,aj hHeld.2.2.2.2.2.1 nI _ _ _ _ _ _,aj hHeld.2.2.2.2.2.2.1 nF _ _ _ _ _ _,aj hHeld.2.2.2.2.2.2.2.1 nF _ _ _ _ _ _,aj hHeld.2.2.2.2.2.2.2.2 nF _ _ _ _ _ _⟩ (fun _=>?_)
  clear hK K hHeld
  try go_frame
  refine wpAnyH_done (by kernel_rfl) ?_ _
  go_wp2_with fail
  refine bodyPost_ret (v:=.agg #[.bool (ae cq),.slice As ms cs2,.slice As' ms' cs']) (by simp [results,Tryz.results65,go_sem,u0,u1,u2]) rfl ⟨_,rfl,RN.o,af (B6.o.trans (BB.o.mono B6.o.size)) (by omega) _ _ _⟩
 obtain ⟨g,rfl⟩:∃ g,gk = g + 1:=⟨gk - 1,by omega⟩
 obtain ⟨xh,hxh⟩:∃ z,hl[j]? = some z:=⟨_,eG (by rw [HNH.o]; omega)⟩
 obtain ⟨bh,oh,rfl,hbh,e0⟩:=HHAT.o j xh hxh
 have c0:=(B5.o.cell (p:=⟨bh,oh + j,none⟩) hbh).trans e0
 have hyr:=inR_iff.1 HIN.o xh (mG hxh)
 have HTK:Hd (((hl.take (j + 1)).map (clsOf cs)).map (Value.int .i64) = ((hl.take j).map (clsOf cs)).map (Value.int .i64) ++ [.int .i64 (clsOf cs xh)]):=aH (by rw [ah _ hxh,List.map_append,List.map_append]; rfl)
 obtain ⟨xs,hxs⟩:=nm (((hl.take j).map (clsOf cs)).map (Value.int .i64))
 rw [hxs] at OW HTK
 have q3:(0:Int) <= (j:Int):=by omega
 have q4:(j:Int) < (nh:Int):=by omega
 have j9:IntKind.i64.wrap ((j:Int) + 1) = (j:Int) + 1:=iI _ (by omega)
 obtain ⟨i0,gi,gz0,gz1,gz2⟩:=info_parts eD
 clear hxh e0 hxs
 by_cases hpos:0 < xh
 ·have d1:decide (0 < xh) = true:=dT hpos
  obtain ⟨i,hi⟩:∃ i:Nat,xh = (i:Int) + 1:=⟨(xh - 1).toNat,by omega⟩
  obtain ⟨yy,hyy⟩:∃ z,cs[i]? = some z:=⟨_,eG (by rw [HNO.o]; omega)⟩
  have HCY:Hd (clsOf cs xh = yy):=aH (by
   unfold clsOf
   rw [if_neg (by omega),show (xh - 1).toNat = i by omega,gD,hyy]
   rfl)
  obtain ⟨bo,oo,rfl,hbo,e9⟩:=HOT.o i _ hyy
  have c9':=(B5.o.cell (p:=⟨bo,oo + i,none⟩) hbo).trans e9
  have k9:IntKind.i64.wrap (xh - 1) = (i:Int):=by rw [show xh - 1 = (i:Int) by omega]; exact iI _ (by omega)
  have i1:(0:Int) <= (i:Int):=by omega
  have i2:(i:Int) < (no:Int):=by omega
  rw [HCY.o] at HTK
  clear hyy e9 hi hpos
  go_wp2_with fail
  go_quiet (fail)
  have OWn:=aH (bK OW.o (ak (Below.refl _ w5) nq))
  have BWn:=aH (ak BW.o nq)
  obtain ⟨w7,hw7⟩:∃ x,x = w5.drewN nq:=⟨_,rfl⟩
  have s7:W.heap.size <= w7.heap.size:=by rw [hw7]; exact BWn.o.size
  rw [<- hw7] at OWn BWn ⊢
  clear hw7 p0 p1 p2 p3 p4 p5 p6 p7 q0 q1 c0 c9' OW BW
  go_wp2_with (at_builtin; refine al rfl (.tmp 33) (.tmp 35) 44 rfl W.heap.size 3 i0 (.int .i64 0) 1 8 Tryz.underlying44 gi gz0 gz1 gz2 rfl (by decide) _ _ _ rfl (bK OWn.o (Below.alloc (Below.refl _ _) (nR _) _)) _ 1 [.int .i64 yy] rfl (Sl.one _ _ _) (by simp [Value.oneCell']) (by unfold maxLen; omega) (by omega) (by simp; omega) ?_)
  intro v3 w8 t1 t2 _
  obtain ⟨gb,cap,rfl⟩:=g9 t1 (by omega)
  have OW3:Hd (w8.ownsRow W.heap.size 3 1 (.slice (some ⟨gb,0,none⟩) (j + 1) cap) (j + 1) (((hl.take (j + 1)).map (clsOf cs)).map (Value.int .i64))):=aH (by rw [HTK.o]; exact t1)
  have BW3:=aH ((BWn.o.alloc s7 (.cells #[.int .i64 yy] 3)).grown t2 (by simp; omega) (fun q e=>ao (From.of_own OWn.o) q e))
  clear t1 t2
  go_wp2_with fail
  go_roundg g
  case measure=>omega
  case rel=>exact ⟨j + 1,some ⟨gb,0,none⟩,cap,rfl,rfl,by omega,OW3,BW3⟩
 have d1:decide (0 < xh) = false:=dF hpos
 obtain rfl:xh = 0:=by omega
 have HCY:Hd (clsOf cs 0 = 0):=aH rfl
 rw [HCY.o] at HTK
 have OWn:=OW
 have BWn:=BW
 obtain ⟨w7,rfl⟩:∃ x,x = w5:=⟨_,rfl⟩
 have s7:=s5
 clear hpos
 go_wp2_with (at_builtin; refine al rfl (.tmp 33) (.tmp 35) 44 rfl W.heap.size 3 i0 (.int .i64 0) 1 8 Tryz.underlying44 gi gz0 gz1 gz2 rfl (by decide) _ _ _ rfl (bK OWn.o (Below.alloc (Below.refl _ _) (nR _) _)) _ 1 [.int .i64 0] rfl (Sl.one _ _ _) (by simp [Value.oneCell']) (by unfold maxLen; omega) (by omega) (by simp; omega) ?_)
 intro v3 w8 t1 t2 _
 obtain ⟨gb,cap,rfl⟩:=g9 t1 (by omega)
 have OW3:Hd (w8.ownsRow W.heap.size 3 1 (.slice (some ⟨gb,0,none⟩) (j + 1) cap) (j + 1) (((hl.take (j + 1)).map (clsOf cs)).map (Value.int .i64))):=aH (by rw [HTK.o]; exact t1)
 have BW3:=aH ((BWn.o.alloc s7 (.cells #[.int .i64 0] 3)).grown t2 (by simp; omega) (fun q e=>ao (From.of_own OWn.o) q e))
 clear t1 t2
 go_wp2_with fail
 go_roundg g
 case measure=>omega
 case rel=>exact ⟨j + 1,some ⟨gb,0,none⟩,cap,rfl,rfl,by omega,OW3,BW3⟩
def clE (O V:Int) (gs:List Gr) (k:Int) (a:Rat) (mix:List Rat) (cs:List Int) (qs:List Rat)(hl:List Int) (x:Int):Int :=
 if aJ O V gs k a mix ≠ 0 then aJ O V gs k a mix else if clsB cs qs = false then 2 else if (!inR 1 V cs || (((hl.length:Int) != O - 1) || (!inR 0 cs.length hl || (decide (x < 0) || decide ((cs.length:Int) < x))))) = true then 2 else 0

theorem zz (w:World) (O V:Int) (lv:Value) (gs:List Gr) (k:Int) (s:Bool) (A A':Option Addr) (m c m' c':Nat) (mv:Value) (a:Rat) (mix:List Rat) (ov iv:Value) (cs:List Int) (qs:List Rat)(hv:Value)(hl:List Int) (x z:Int)
  (h:LangAt w lv gs s A A' m c m' c' a mv mix)(hh:IntsAt w hv hl)(ho:IntsAt w ov cs)(hi:FracsAt 64 w iv qs)(hc12:cs.length <= 12)(hq12:qs.length <= 12)(hE:clE O V gs k a mix cs qs hl x = z)(hz:z ≠ 0) :
  Calls Tryz.prog 63 #[aG O V lv k s A A' m c m' c' mv,.agg #[ov,iv],hv,.int .i64 x] w fun e w'=>e = .returned (.tuple #[.agg #[.bool false,.slice none 0 0,.slice none 0 0],.int .i64 z])/\Below w.heap.size w w':=by
 have HL:=aH h
 have HI:=aH hh
 have HO:=aH ho
 have HF:=aH hi
 obtain ⟨Al,cl,rfl,_,_,_⟩:=h.grams.open_
 obtain ⟨Am,cm,rfl,_,_,_⟩:=h.mixes.open_
 obtain ⟨Ah,ch,rfl,hlc,hlm,_⟩:=hh.open_
 obtain ⟨Ao,co,rfl,hoc,hom,_⟩:=ho.open_
 obtain ⟨Ai,ci,rfl,hic,him,_⟩:=hi.at_
 obtain ⟨no,hno⟩:=nm (cs.length)
 obtain ⟨ni,hni⟩:=nm (qs.length)
 obtain ⟨nh,hnh⟩:=nm (hl.length)
 rw [hni] at hic
 rw [hno] at hoc
 rw [hnh] at hlc
 rw [hni,hno,hnh]
 rw [hnh] at HI
 rw [hno] at HO
 rw [hni] at HF
 have HC12:=aH hc12
 have HQ12:=aH hq12
 obtain ⟨ce,hce⟩:=nm (aJ O V gs k a mix)
 obtain ⟨qb,hqb⟩:=nm (clsB cs qs)
 obtain ⟨b1,hb1⟩:=nm (inR 1 V cs)
 obtain ⟨b2,hb2⟩:=nm (((nh:Int) != O - 1))
 obtain ⟨b3,hb3⟩:=nm (inR 0 (no:Int) hl)
 obtain ⟨b4,hb4⟩:=nm (decide (x < 0))
 obtain ⟨b5,hb5⟩:=nm (decide ((no:Int) < x))
 have HZ:Hd ((if ce ≠ 0 then ce else if qb = false then 2 else if (!b1 || (b2 || (!b3 || (b4 || b5)))) = true then 2 else 0) = z):=aH (by
  have:=hE
  unfold clE at this
  rw [hnh,hno,hce,hqb,hb1,hb2,hb3,hb4,hb5] at this
  exact this)
 have HCE:=aH hce
 have HCL:Hd (clsE cs qs = if qb = true then 0 else 2):=aH (by unfold clsE; rw [hqb])
 have HB1:=aH hb1
 have HB3:=aH hb3
 clear h hh ho hi hE hno hni hnh hce hqb hb1 hb3 hc12 hq12
 unfold aG
 go_enter Tryz.func63,Tryz.ntmps63
 go_upto_region 1 with fail
 obtain ⟨W,hW,P0,P1,P2,PB,Phs⟩:=box3 w 43 [.int .i64 O,.int .i64 V,.slice Al gs.length cl,.int .i64 k,.bool s,.slice A m c,.slice A' m' c',.slice Am mix.length cm] 94 [.slice Ao no co,.slice Ai ni ci] 40 [.bool false,.slice none 0 0,.slice none 0 0]
 rw [<- hW]
 clear hW
 obtain ⟨p0,p1,p2,p3,p4,p5,p6,p7⟩:=an P0.o
 go_wp2_with fail
 refine (lW W O V (.slice Al gs.length cl) gs k s A A' m c m' c' (.slice Am mix.length cm) a mix (HL.o.below PB.o)).mono ?_
 rintro e w1 ⟨rfl,hb⟩
 rw [HCE.o]
 have L1:=aH (P0.o.below' hb)
 have C1:=aH (P1.o.below' hb)
 have R1:=aH (P2.o.below' hb)
 have B1:=aH (PB.o.trans (hb.mono PB.o.size))
 clear p0 p1 p2 p3 p4 p5 p6 p7 hb P0 P1 P2 PB Phs
 by_cases hc:ce = 0
 ·subst hc
  have HSZ:=en (eI (cI HCE.o).1).2.1
  have e9:IntKind.i64.wrap (O - 1) = O - 1:=iI _ (by omega)
  obtain ⟨q0,q1⟩:=two_at C1.o
  go_wp2_with fail
  refine (checkClG w1 _ _ cs qs (HO.o.below B1.o) (HF.o.below B1.o) HC12.o HQ12.o).mono ?_
  rintro e w2 ⟨rfl,hb⟩
  rw [HCL.o]
  have L2:=aH (L1.o.below' hb)
  have C2:=aH (C1.o.below' hb)
  have R2:=aH (R1.o.below' hb)
  have B2:=aH (B1.o.trans (hb.mono B1.o.size))
  clear q0 q1 hb L1 C1 R1 B1
  cases qb with
  | false =>
   obtain rfl:z = 2:=by rw [<- HZ.o]; rfl
   rw [if_neg (by decide)]
   obtain ⟨r0,r1,r2,z0,z1,z2⟩:=R2.o.three
   go_wp2_with fail
   exact bodyPost_ret (v:=.tuple #[.agg #[.bool false,.slice none 0 0,.slice none 0 0],.int .i64 2]) (by simp [results,Tryz.results63,go_sem,r0,r1,r2,List.mapM_cons]) rfl ⟨rfl,af B2.o (by omega) _ _ _⟩
  | true =>
   rw [if_pos rfl]
   have HT:Hd ((!b1 || (b2 || (!b3 || (b4 || b5)))) = true):=aH (by
    have:=HZ.o
    rw [if_neg (by decide),if_neg (by decide)] at this
    by_cases h0:(!b1 || (b2 || (!b3 || (b4 || b5)))) = true
    ·exact h0
    rw [if_neg h0] at this
    exact absurd this.symm hz)
   obtain rfl:z = 2:=by rw [<- HZ.o,if_neg (by decide),if_neg (by decide),if_pos HT.o]
   obtain ⟨p0,p1,p2,p3,p4,p5,p6,p7⟩:=an L2.o
   obtain ⟨q0,q1⟩:=two_at C2.o
   go_upto_region 7 with fail
   go_cut [63] (fun t wc=>t = .bool true/\Hd (Below w2.heap.size w2 wc))
   case first =>
    have HTT:=HT.o
    have HT2:=aH HTT
    clear HTT
    go_wp2_with fail
    refine (gU w2 _ cs 1 V (HO.o.below B2.o)).mono ?_
    rintro e wa ⟨rfl,hba⟩
    rw [HB1.o]
    have BA:=aH hba
    clear hba p0 p1 p2 p3 p4 p5 p6 p7 q0 q1
    obtain ⟨p0,p1,p2,p3,p4,p5,p6,p7⟩:=an (L2.o.below' BA.o)
    obtain ⟨q0,q1⟩:=two_at (C2.o.below' BA.o)
    cases b1 with
    | false =>
     go_wp2_with fail
     go_meet
     exact ⟨rfl,BA⟩
    | true =>
     cases b2 with
     | true =>
      go_wp2_with fail
      go_meet
      exact ⟨rfl,BA⟩
     | false =>
      go_wp2_with fail
      refine (gU wa _ hl 0 no (HI.o.below (B2.o.trans (BA.o.mono B2.o.size)))).mono ?_
      rintro e wb ⟨rfl,hbb⟩
      rw [HB3.o]
      have BB:=aH (BA.o.trans (hbb.mono BA.o.size))
      clear hbb p0 p1 p2 p3 p4 p5 p6 p7 q0 q1
      obtain ⟨q0,q1⟩:=two_at (C2.o.below' BB.o)
      cases b3 with
      | false =>
       go_wp2_with fail
       go_meet
       exact ⟨rfl,BB⟩
      | true =>
       cases b4 with
       | true =>
        go_wp2_with fail
        go_meet
        exact ⟨rfl,BB⟩
       | false =>
        cases b5 with
        | true =>
         go_wp2_with fail
         go_meet
         exact ⟨rfl,BB⟩
        | false=>exact absurd HT2.o (by decide)
   obtain ⟨rfl,hcc⟩:=hcut
   obtain ⟨w3,rfl⟩:∃ x,x = wc:=⟨_,rfl⟩
   have R3:=aH (R2.o.below' hcc.o)
   have B3:=aH (B2.o.trans (hcc.o.mono B2.o.size))
   clear p0 p1 p2 p3 p4 p5 p6 p7 q0 q1 hcc
   obtain ⟨r0,r1,r2,z0,z1,z2⟩:=R3.o.three
   go_wp2_with fail
   exact bodyPost_ret (v:=.tuple #[.agg #[.bool false,.slice none 0 0,.slice none 0 0],.int .i64 2]) (by simp [results,Tryz.results63,go_sem,r0,r1,r2,List.mapM_cons]) rfl ⟨rfl,af B3.o (by omega) _ _ _⟩
 obtain rfl:z = ce:=by rw [<- HZ.o,if_pos hc]
 have n0:(z != 0) = true:=by simpa using hc
 obtain ⟨r0,r1,r2,z0,z1,z2⟩:=R1.o.three
 go_wp2_with fail
 exact bodyPost_ret (v:=.tuple #[.agg #[.bool false,.slice none 0 0,.slice none 0 0],.int .i64 z]) (by simp [results,Tryz.results63,go_sem,r0,r1,r2,List.mapM_cons]) rfl ⟨rfl,af B1.o (by omega) _ _ _⟩
end Go.Proofs.YtjebfdfkjlkifaaGreat
