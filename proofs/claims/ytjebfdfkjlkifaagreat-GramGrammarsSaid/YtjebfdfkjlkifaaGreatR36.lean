/- Lemmas. -/
import Derived.Test.YtjebfdfkjlkifaaGreatR35
import Derived.Test.YtjebfdfkjlkifaaGreatR34
import Derived.Lib.SliceRun
set_option linter.all false
set_option maxRecDepth 1000000
set_option maxHeartbeats 32000000
namespace Go.Proofs.YtjebfdfkjlkifaaGreat
open Go.RowKit
def nthO:List Oper->Nat->Option Oper
 | [],_=>none
 | o :: _,0=>some o
 | _ :: l,i + 1=>nthO l i
theorem nthO_eq (l:List Oper):∀ i,l[i]? = nthO l i:=by
 induction l with
 | nil=>intro i; rfl
 | cons o l ih =>
  intro i
  cases i with
  | zero=>rfl
  | succ i=>exact (List.getElem?_cons_succ).trans (ih i)
theorem tjj {P:Program} {md:Region.Mode} {ops:Array Oper} {Q:Exit->Act->World->Prop} {S:World->Prop} (i:Nat) {oi:Oper} (v:Value) {fuel:Nat} {listed:Array Bool} {a:Act} {w:World} (hi:nthO ops.toList i = some oi)
  (hb:(Region.noSelect ops && Region.free md ops listed i && (Region.ready md ops listed).contains i) = true)(hw:Region.wanted oi (yielded ops a.tmps) = true)(hS:S w)
  (hy:∀ w',S w'->(execOp a.eval oi).run P w' = .ok (.value v) w')(hQ:∀ c a w,Q (.panic c) (a.put oi.dst v) w->Q (.panic c) a w)
  (h:wpAnyH P md ops Q S fuel (listed.setIfInBounds i true) (a.put oi.dst v) w):wpAnyH P md ops Q S (fuel + 1) listed a w :=
 tk i v (by rw [<- nthO_eq] at hi; simpa using hi) hb hw hS hy hQ h
theorem sjj {P:Program} {md:Region.Mode} {ops:Array Oper} {Q:Exit->Act->World->Prop} {S:World->Prop} (i:Nat) {oi:Oper} {fuel:Nat} {listed:Array Bool} {a:Act} {w:World} (hi:nthO ops.toList i = some oi)
  (hb:(Region.noSelect ops && Region.free md ops listed i && (Region.ready md ops listed).contains i) = true)(hw:Region.wanted oi (yielded ops a.tmps) = false)(hS:S w)
  (hQ:∀ c a w,Q (.panic c) (a.put oi.dst undef) w->Q (.panic c) a w)
  (h:wpAnyH P md ops Q S fuel (listed.setIfInBounds i true) (a.put oi.dst undef) w):wpAnyH P md ops Q S (fuel + 1) listed a w :=
 sk i (by rw [<- nthO_eq] at hi; simpa using hi) hb hw hS hQ h
section
attribute [local go_sem] Oper.semAt_some

def iF (row:List Int->List Rat) (m:Nat) (gl:List (List Int)):Rat:=gl.foldl (fun p g=>p * (row (g.take m)).getD (g.getD m 0).toNat 0) 1
def oj (row:List Int->List Rat) (m:Nat) (s:List Int):Rat:=iF row m (aw m s)
theorem kH (row:List Int->List Rat) (m:Nat) (gl:List (List Int)) (g:List Int):iF row m (gl ++ [g]) = iF row m gl * (row (g.take m)).getD (g.getD m 0).toNat 0:=by simp [iF]
theorem oX {row:List Int->List Rat} (hq:∀ h,∀ q ∈ row h,QB 5000000 q) (m:Nat) (gl:List (List Int)):QB (1 + gl.length * 5000000) (iF row m gl):=by
 have key:∀ (gl:List (List Int)) (k:Nat) (p:Rat),QB k p->QB (k + gl.length * 5000000) (gl.foldl (fun p g=>p * (row (g.take m)).getD (g.getD m 0).toNat 0) p):=by
  intro gl
  induction gl with
  | nil=>intro k p hp; simpa using hp
  | cons g gl ih =>
   intro k p hp
   rw [List.foldl_cons,List.length_cons]
   exact (ih _ _ (hp.mul (cF (i:=(g.getD m 0).toNat) (P:=fun q=>QB 5000000 q) (cB _ (by omega)) (hq (g.take m))))).mono (by omega)
 exact key gl 1 1 (bv (n:=1) (by omega) (by omega))
def rN (v b:Nat):Value:=.slice (some ⟨b,0,none⟩) (v + 1) (v + 1)
theorem IntsAt.head_ {w:World} {A:Option Addr} {n c k:Nat} {l:List Int} (h:IntsAt w (.slice A n c) l)(hl:l.length = n)(hk:k <= n):IntsAt w (.slice A k c) (l.take k):=by
 unfold IntsAt at h ⊢
 rw [hl] at h
 have:=Sl.head h hk
 rw [List.length_take,hl,Nat.min_eq_left hk,List.map_take]
 simpa using this
theorem qH {m:Nat} {s:List Int} {v:Int} (hv:0 <= v)(h:∀ x ∈ s,1 <= x/\x <= v):∀ x ∈ e9 m s,0 <= x/\x <= v:=by
 intro x hx
 unfold e9 at hx
 rcases List.mem_append.1 hx with hx | hx
 ·rcases List.mem_append.1 hx with hx | hx
  ·rw [List.eq_of_mem_replicate hx]; omega
  have:=h x hx; omega
 rw [List.mem_singleton.1 hx]; omega
theorem jJ {m i:Nat} {s:List Int} {v:Int} (hv:0 <= v)(h:∀ x ∈ s,1 <= x/\x <= v)(hi:i < s.length + 1):((aw m s).getD i []).length = m + 1/\∀ x ∈ (aw m s).getD i [],0 <= x/\x <= v:=by
 rw [gO (by omega)]
 refine ⟨by rw [List.length_take,List.length_drop,cV]; omega,fun x hx=>qH hv h x (List.mem_of_mem_drop (List.mem_of_mem_take hx))⟩
theorem kC {m i:Nat} {s:List Int} (hi:i < s.length + 1):(aw m s).take (i + 1) = (aw m s).take i ++ [(aw m s).getD i []]:=by
 have hl:i < (aw m s).length:=by simp [aw]; omega
 rw [List.take_succ_eq_append_getElem hl,gD,eG hl]
 rfl
theorem fi (w:World):(zeroValue 41).run Tryz.prog w = .ok (.slice none 0 0) w:=by kernel_rfl
def WgI (w1:World) (b5 b6 b7 b8 bk mo v:Nat) (ifv:Value) (row:List Int->List Rat) (sl:List Int) (i:Nat) (W:World):Prop :=
 Below w1.heap.size w1 W/\Blk W b5 128 [ifv]/\Blk W b6 186 [.map (some bk)]/\Blk W b8 3 [.int .i64 ((mo:Int) + 1)]/\BoxC W b7 (iF row mo ((aw mo sl).take i)) /\
  ∃ km:List (List Int × Nat),TMap aV (rN v) W 120 bk km/\∀ e ∈ km,NiceK e.1/\FArc W e.2 (row e.1)/\e.2 ≠ b7
theorem ue {w1:World} {b5 b6 b7 b8 bk mo v B:Nat} {ifv:Value} {row:List Int->List Rat} {sl:List Int} (hB:w1.heap.size <= B)(hk:bk < B):OwnFrom B (WgI w1 b5 b6 b7 b8 bk mo v ifv row sl):=by
 intro i W W' r h hg hr
 obtain ⟨h1,h2,h3,h4,h5,km,h6,h7⟩:=h
 have hc:Calm W W':=Calm.of_grown hg (fun r' e=>(hr r' e).2)
 refine ⟨h1.grown hg h1.size (fun k e=>Nat.le_trans hB (hr k e).1),h2.calm hc,h3.calm hc,h4.calm hc,h5.calm hc,km,h6.kept hg (fun e=>by have:=(hr bk e.symm).1; omega),fun e he=>?_⟩
 obtain ⟨g1,g2,g3⟩:=h7 e he
 exact ⟨g1,g2.calm hc,g3⟩
theorem mZ {B:Nat} {v:Value} {l:List Int}:OwnFrom B (fun (_:Unit) W=>IntsAt W v l):=fun _ W W' r h hg hr=>IntsAt.calm h (Calm.of_grown hg (fun r' e=>(hr r' e).2))

theorem vw (w:World) (O v:Nat) (lv:Value) (gs:List Gr) (k:Int) (s:Bool) (A A':Option Addr) (m c m' c':Nat) (mv:Value) (a:Rat) (mix:List Rat) (sv:Value) (sl:List Int)(h:LangAt w lv gs s A A' m c m' c' a mv mix)(hs:IntsAt w sv sl)(hE:aP O v gs = 0)(hv8:v <= 8)(hin:inR 1 v sl = true)(hsl:sl.length <= 500)
  (T:TypeId) (rv:Nat->Value) (F:FuncId) (row:List Int->List Rat)
  (hway:∀ b Am nm cm,mv = .slice Am nm cm->fs k b O v s A A' m c m' c' mv = .iface T (rv b))
  (hmeth:∀ b w,(method 358 T (rv b) "earshot/gram.row").run Tryz.prog w = .ok (F,rv b) w)
  (hnil:∀ b w,(nilAhead 358 T (rv b) "earshot/gram.row").run Tryz.prog w = .ok (some false) w)
  (hcf:∀ args w,(callFunc F args).run Tryz.prog w = .ok (.enter F args) w)
  (hrow:∀ b wl,LvsAt wl b O 0 gs->Below w.heap.size w wl->∀ W hv h,Below wl.heap.size wl W->IntsAt W hv h->h.length = O - 1->NiceK h->Calls Tryz.prog F #[rv b,.int .i64 O,hv] W (dj W v (row h)))
  (hq:∀ h,∀ q ∈ row h,QB 5000000 q)(hlen:∀ h,(row h).length = v + 1) :
  Calls Tryz.prog 104 #[aG O v lv k s A A' m c m' c' mv,sv] w fun e w'=>∃ u,e = .returned u/\CanAt w' u (oj row (O - 1) sl)/\Below w.heap.size w w':=by
 obtain ⟨Al,cl,rfl,_,_,_⟩:=h.grams.open_
 obtain ⟨Am,cm,rfl,_,_,_⟩:=h.mixes.open_
 obtain ⟨As,cs,rfl,hsc,hsm,_⟩:=hs.open_
 have HL:=aH h
 have HS:=aH hs
 have HG:=aH (dy hE)
 have HW:=aH hway
 have HM:=aH hmeth
 have HNI:=aH hnil
 have HCF:=aH hcf
 have HR:=aH hrow
 have HQ:=aH hq
 have HLN:=aH hlen
 have HIN:=aH (gg hin)
 have hO:=HG.o.2.1
 obtain ⟨mo,rfl⟩:∃ mo,O = mo + 1:=⟨O - 1,by omega⟩
 obtain ⟨ns,hns⟩:=nm (sl.length)
 rw [hns] at hsc hsl HS ⊢
 have HNS:=aH hns
 clear h hs hE hway hmeth hnil hcf hrow hq hlen hin hns
 unfold aG
 refine (callsIn_wide (n:=10)).1 ?_
 refine callsIn_of_wp_marks Tryz.func104 rfl trivial ?_ rfl
 simp only [Tryz.ntmps104,List.size_toArray,List.length_cons,List.length_nil,Nat.reduceAdd,Nat.reduceSub,Array.replicate_succ,Array.replicate_zero,List.push_toArray,List.append_toArray,List.nil_append,List.cons_append]
 refine (wpIn_wide (n:=10)).2 ?_
 have hmm:=@run_makeMap Tryz.prog
 go_wp2_with fail
 obtain ⟨W,hW,P0,P1,PB,Phs⟩:=cP w 43 [.int .i64 ((mo:Int) + 1),.int .i64 v,.slice Al gs.length cl,.int .i64 k,.bool s,.slice A m c,.slice A' m' c',.slice Am mix.length cm] 40 [.bool false,.slice none 0 0,.slice none 0 0]
 rw [<- hW]
 clear hW
 refine (rl W (mo + 1) v (.slice Al gs.length cl) gs k s A A' m c m' c' Am mix.length cm (HL.o.grams.below PB.o) HG.o (by omega)).mono ?_
 rintro e w1 ⟨b,rfl,hlv,hb1⟩
 rw [HW.o b _ _ _ rfl]
 have LV:=aH hlv
 have R1:Hd (BoxC w1 (w.heap.size + 1) 0):=aH ((BoxC.of (q:=0) P1.o ((CanNew.zero_ 0 W).at_)).below hb1)
 have P1:=aH (P0.o.below' hb1)
 have B1:=aH (PB.o.trans (hb1.mono PB.o.size))
 clear hlv hb1 PB P0
 have hRC:=HR.o b w1 LV.o B1.o
 have RC:=aH hRC
 clear hRC
 have z1:w.heap.size + 1 < w1.heap.size:=R1.o.lt
 have q0:=(an P1.o).1
 go_wp2_with fail
 obtain ⟨W2,hW2⟩:∃ W2,W2 = ((w1.alloc (.cells #[.iface T (rv b)] 128)).alloc (.map #[] 0)).alloc (.cells #[.map (some (w1.heap.size + 1))] 186):=⟨_,rfl⟩
 have D5:Hd (Blk W2 w1.heap.size 128 [.iface T (rv b)]):=aH (by rw [hW2]; exact ((Blk.new w1 _ _).alloc _).alloc _)
 have M6:Hd (TMap aV (rN v) W2 120 (w1.heap.size + 1) ([]:List (List Int × Nat))):=aH (by
  rw [hW2]
  have:=TMap.made (w1.alloc (.cells #[.iface T (rv b)] 128)) aV (rN v) 120
  rw [World.size_alloc] at this
  exact this.below ((Below.refl _ _).alloc (nR _) _))
 have D6:Hd (Blk W2 (w1.heap.size + 2) 186 [.map (some (w1.heap.size + 1))]):=aH (by
  rw [hW2]
  have:=Blk.new ((w1.alloc (.cells #[.iface T (rv b)] 128)).alloc (.map #[] 0)) 186 [.map (some (w1.heap.size + 1))]
  rwa [World.size_alloc,World.size_alloc] at this)
 have X2:Hd (Below w1.heap.size w1 W2):=aH (by
  rw [hW2]
  exact (((Below.refl _ w1).alloc (nR _) _).alloc (by simp) _).alloc (by simp; omega) _)
 rw [<- hW2]
 clear hW2
 refine (ofI W2 1 (by omega) (by omega)).mono ?_
 rintro e w3 ⟨u1,rfl,t1,hb3⟩
 obtain ⟨un,hun⟩:∃ x:Rat,((1:Int):Rat) = x:=⟨_,rfl⟩
 rw [hun] at t1
 have HUN:Hd (un = 1):=aH (by rw [<- hun]; rfl)
 clear hun
 obtain ⟨Ao,mo',co,Ao',mo'',co',rfl⟩:=t1.at_.open_
 have T1:=aH t1.at_
 have X3:=aH (X2.o.trans (hb3.mono X2.o.size))
 have D5':=aH (D5.o.below' hb3)
 have D6':=aH (D6.o.below' hb3)
 have M6':=aH (M6.o.below hb3)
 have P3:=aH (P1.o.below' X3.o)
 clear t1 hb3 q0 D5 D6 M6 X2
 have q0:=(an P3.o).1
 have z3:w1.heap.size + 2 < w3.heap.size:=D6'.o.lt
 have z4:w.heap.size < w3.heap.size:=P3.o.lt
 have z5:w1.heap.size < w3.heap.size:=by omega
 go_wp2_with fail
 obtain ⟨W4,hW4,G0,G1,GB,Ghs⟩:=cP w3 40 [.bool (ae un),.slice Ao mo' co,.slice Ao' mo'' co'] 3 [.int .i64 ((mo:Int) + 1)]
 rw [<- hW4]
 clear hW4
 refine (tg W4 ((mo:Int) + 1) _ As ns cs rfl).mono ?_
 rintro e w5 ⟨rfl,hgN,hgS,hb5⟩
 have X5:=aH (X3.o.trans ((GB.o.trans (hb5.mono GB.o.size)).mono X3.o.size))
 have GN:=aH hgN
 have GS:=aH hgS
 have BX7:Hd (BoxC w5 w3.heap.size un):=aH ((BoxC.of G0.o (T1.o.below GB.o)).below hb5)
 have D8:=aH (G1.o.below' hb5)
 have B35:=aH (GB.o.trans (hb5.mono GB.o.size))
 have D5:=aH (D5'.o.below' B35.o)
 have D6:=aH (D6'.o.below' B35.o)
 have M6:=aH (M6'.o.below B35.o)
 have P5:=aH (P3.o.below' B35.o)
 have z6:w3.heap.size + 2 <= W4.heap.size:=Ghs
 have z7:W4.heap.size + 1 < w5.heap.size:=GS.o.lt
 clear hgN hgS hb5 q0 D5' D6' M6' P3 P1 X3 G0 G1 GB T1
 go_wp2_with fail
 refine (wpIn_wide (n:=10)).1 ?_
 gi_wp2
 have hsh:=HS.o.below (B1.o.trans (X5.o.mono (by have:=B1.o.size; omega)))
 have HSQ:=aH (ni 9 (by omega) w5 W4.heap.size mo (.slice As ns cs) sl W4.heap.size (W4.heap.size + 1) (by omega) (by rw [HNS.o]; omega) GN.o GS.o hsh (nR _))
 have I5:Hd (WgI w1 w1.heap.size (w1.heap.size + 2) w3.heap.size (w3.heap.size + 1) (w1.heap.size + 1) mo v (.iface T (rv b)) row sl 0 w5):=aH ⟨X5.o,D5.o,D6.o,D8.o,by
  have:=BX7.o
  rw [HUN.o] at this
  exact this,[],M6.o,fun e he=>by cases he⟩
 clear hsh GN GS D5 D6 D8 BX7 M6 B35
 refine ew rfl (by omega) (gf:=135) (lb:=#[.pointer (some ⟨W4.heap.size,0,none⟩),.pointer (some ⟨W4.heap.size + 1,0,none⟩)]) rfl trivial (fun args w=>by kernel_rfl) (fun i v=>mZ) (B:=W4.heap.size) (by omega) HSQ.o rfl
  (WgI w1 w1.heap.size (w1.heap.size + 2) w3.heap.size (w3.heap.size + 1) (w1.heap.size + 1) mo v (.iface T (rv b)) row sl) (ue X5.o.size (by omega)) I5.o
  (fun xx=>{ tmps:=#[.agg #[.int .i64 ((mo:Int) + 1),.int .i64 v,.slice Al gs.length cl,.int .i64 k,.bool s,.slice A m c,.slice A' m' c',.slice Am mix.length cm],.slice As ns cs,.pointer (some ⟨w.heap.size,0,none⟩),undef,.pointer (some ⟨w.heap.size + 1,0,none⟩),.pointer (some ⟨w1.heap.size,0,none⟩),.pointer (some ⟨w1.heap.size + 1 + 1,0,none⟩),.pointer (some ⟨w3.heap.size,0,none⟩),.pointer (some ⟨w3.heap.size + 1,0,none⟩),xx,undef,.agg #[.int .i64 ((mo:Int) + 1),.int .i64 v,.slice Al gs.length cl,.int .i64 k,.bool s,.slice A m c,.slice A' m' c',.slice Am mix.length cm],.iface T (rv b),.map (some (w1.heap.size + 1)),.agg #[.bool (ae un),.slice Ao mo' co,.slice Ao' mo'' co'],.pointer (some ⟨w.heap.size,0,none⟩),.pointer (some ⟨w.heap.size,0,none⟩),.int .i64 ((mo:Int) + 1),.int .i64 ((mo:Int) + 1),.slice As ns cs,.func (.func 135) #[] #[.pointer (some ⟨W4.heap.size,0,none⟩),.pointer (some ⟨W4.heap.size + 1,0,none⟩)],xx,undef,undef,undef,undef,undef,undef,undef,undef,undef,undef,undef,undef,undef,undef,undef,undef,undef,undef,undef,undef,undef,undef,undef,undef,undef,undef,undef,undef,undef,undef,undef,undef,undef,undef],defers:=[] }) ?assign ?body ?done
 case assign =>
  intro l x W K hK
  gi_wp2
  exact hK
 case body =>
  intro l i x W hi hx hI hlt
  obtain ⟨h1,h2,h3,h4,h5,km,h6,h7⟩:=hI
  have HGA:=aH (jJ (m:=mo) (i:=i) (s:=sl) (v:=(v:Int)) (by omega) HIN.o hi)
  have HTG:=aH (kC (m:=mo) hi)
  obtain ⟨g,hg⟩:=nm ((aw mo sl).getD i [])
  rw [hg] at hx HGA HTG
  obtain ⟨Ag,cg,rfl,hgc,hgm,hat⟩:=hx.open_
  have hgl:=HGA.o.1
  rw [hgl] at hx hgc
  obtain ⟨y,hy⟩:∃ y,g[mo]? = some y:=⟨_,eG (by omega)⟩
  obtain ⟨bg,og,rfl,hbg,cy⟩:=hat mo y hy
  have hyb:=HGA.o.2 y (mG hy)
  obtain ⟨yn,rfl⟩:=Int.eq_ofNat_of_zero_le hyb.1
  have HY:Hd (g.getD mo 0 = yn):=aH (by rw [gD,hy]; rfl)
  have HGL:=aH hgl
  have HX:=aH hx
  have BW:=aH h1
  have D5:=aH h2
  have D6:=aH h3
  have D8:=aH h4
  have BX:=aH h5
  have KM:=aH h6
  have KE:=aH h7
  have HNK:Hd (NiceK (g.take mo)):=aH ⟨by rw [List.length_take]; omega,fun z hz=>by have:=HGA.o.2 z (List.mem_of_mem_take hz); omega⟩
  have HH:Hd (IntsAt W (.slice (some ⟨bg,og,none⟩) mo cg) (g.take mo)):=aH (IntsAt.head_ HX.o HGL.o (by omega))
  obtain ⟨k0,k1,k2,k3,hk⟩:=oK (bD HNK.o.1)
  have HKV:Hd (aV (g.take mo) = .agg #[.int .i64 k0,.int .i64 k1,.int .i64 k2,.int .i64 k3]):=aH (by unfold aV; rw [hk]; rfl)
  have CY:=aH cy
  clear hx hat hy hgl h1 h2 h3 h4 h5 h6 h7 hg hk cy
  have d8:=D8.o.cell 0
  simp only [List.getElem?_cons_zero] at d8
  have s5:w1.heap.size < W.heap.size:=D5.o.lt
  have m1:(0:Int) <= (mo:Int):=by omega
  have m2:(mo:Int) <= (cg:Int):=by omega
  rw [HGL.o]
  gi_wp2
  refine ⟨trivial,(CallsIn.inRound l (callsIn_wide.2 (lS W _ _ HH.o HNK.o.1 (fun z hz=>by have:=HNK.o.2 z hz; omega)))).mono ?_⟩
  rintro e w6 ⟨rfl,hb6⟩
  rw [HKV.o]
  have BW6:=aH (BW.o.trans (hb6.mono BW.o.size))
  have D5:=aH (D5.o.below' hb6)
  have D6:=aH (D6.o.below' hb6)
  have D8:=aH (D8.o.below' hb6)
  have BX:=aH (BX.o.below hb6)
  have KM:=aH (KM.o.below hb6)
  have KE:Hd (∀ e ∈ km,NiceK e.1/\FArc w6 e.2 (row e.1)/\e.2 ≠ w3.heap.size):=aH (fun e he=>⟨(KE.o e he).1,(KE.o e he).2.1.below hb6,(KE.o e he).2.2⟩)
  have HH:=aH (HH.o.below hb6)
  have HX:=aH (HX.o.below hb6)
  have MW:Hd (Mid W4.heap.size W w6):=aH (Mid.of_below hb6)
  have hsz6:W.heap.size <= w6.heap.size:=hb6.size
  have HCY6:=aH ((hb6.cell (p:=⟨bg,og + mo,none⟩) hbg).trans CY.o)
  have hlook:=(KM.o.below (bA w6 (.cells #[.int .i64 k0,.int .i64 k1,.int .i64 k2,.int .i64 k3] 120))).look dW (show Tryz.prog.underlying 186 = some (.map 120 41) from Tryz.underlying186) (fi _) HNK.o.good (fun e he h=>(KE.o e he).1.inj HNK.o h)
  rw [HKV.o] at hlook
  have HLK:=aH hlook
  have qT:∀ (w:World) (a:Option Addr) (n c n' c':Nat),(binOp .eql 41 (.slice a n c) (.slice none n' c')).run Tryz.prog w = .ok (.bool a.isNone) w:=fun w a n c n' c'=>Lib.run_eql_slice_nil w _ _ a n c n' c' Tryz.underlying41
  have d6:=D6.o.cell 0
  simp only [List.getElem?_cons_zero] at d6
  have z8:w1.heap.size + 2 < w6.heap.size:=D6.o.lt
  clear hb6 d8 hlook
  cases hlt':aC km (g.take mo) with
  | none =>
   have hlk:=HLK.o
   rw [hlt'] at hlk
   simp only [Option.elim_none] at hlk
   have HLT:=aH hlt'
   clear hlt' HLK
   obtain ⟨W7,hW7⟩:∃ W7,W7 = w6.alloc (.cells #[.int .i64 k0,.int .i64 k1,.int .i64 k2,.int .i64 k3] 120):=⟨_,rfl⟩
   gi_wp2
   rw [<- hW7]
   have KB:Hd (Blk W7 w6.heap.size 120 [.int .i64 k0,.int .i64 k1,.int .i64 k2,.int .i64 k3]):=aH (by rw [hW7]; exact Blk.new _ _ _)
   have HB67:Hd (Below w6.heap.size w6 W7):=aH (by rw [hW7]; exact bA _ _)
   have CY7:=aH ((HB67.o.cell (p:=⟨bg,og + mo,none⟩) (by show bg < w6.heap.size; omega)).trans (HCY6.o))
   have D5A:=aH (D5.o.below' HB67.o)
   have D6A:=aH (D6.o.below' HB67.o)
   have D8A:=aH (D8.o.below' HB67.o)
   have KM7:=aH (KM.o.below HB67.o)
   have HH7:=aH (HH.o.below HB67.o)
   have hSet:∀ w',Calm W7 w'->(fun w'=>w'.cell? ⟨w1.heap.size + 2,0,none⟩ = some (.map (some (w1.heap.size + 1)))/\w'.cell? ⟨w6.heap.size,0,none⟩ = some (.int .i64 k0)/\w'.cell? ⟨w6.heap.size,1,none⟩ = some (.int .i64 k1)/\w'.cell? ⟨w6.heap.size,2,none⟩ = some (.int .i64 k2)/\w'.cell? ⟨w6.heap.size,3,none⟩ = some (.int .i64 k3)/\w'.cell? ⟨w3.heap.size + 1,0,none⟩ = some (.int .i64 ((mo:Int) + 1))/\w'.cell? ⟨w1.heap.size,0,none⟩ = some (.iface T (rv b))) w':=fun w' hw' =>
    ⟨(D6A.o.calm hw').cell 0,(KB.o.calm hw').cell 0,(KB.o.calm hw').cell 1,(KB.o.calm hw').cell 2,(KB.o.calm hw').cell 3,(D8A.o.calm hw').cell 0,(D5A.o.calm hw').cell 0⟩
   have HSET:=aH hSet
   have i1:IntKind.i64.wrap ((mo:Int) + 1 - 1) = (mo:Int):=by rw [show (mo:Int) + 1 - 1 = mo by omega]; exact iI _ (by omega)
   have i2:IntKind.i64.wrap (mo:Int) = (mo:Int):=iI _ (by omega)
   have hm1:=HM.o b
   have hm2:=HNI.o b
   have hm3:=HCF.o
   clear hSet qT d6 hlk hW7
   refine dx (S:=fun w'=>w'.cell? ⟨w1.heap.size + 2,0,none⟩ = some (.map (some (w1.heap.size + 1)))/\w'.cell? ⟨w6.heap.size,0,none⟩ = some (.int .i64 k0)/\w'.cell? ⟨w6.heap.size,1,none⟩ = some (.int .i64 k1)/\w'.cell? ⟨w6.heap.size,2,none⟩ = some (.int .i64 k2)/\w'.cell? ⟨w6.heap.size,3,none⟩ = some (.int .i64 k3)/\w'.cell? ⟨w3.heap.size + 1,0,none⟩ = some (.int .i64 ((mo:Int) + 1))/\w'.cell? ⟨w1.heap.size,0,none⟩ = some (.iface T (rv b))) (by kernel_rfl) (eC (by kernel_rfl)) (fun h=>by obtain ⟨a,w,h⟩:=h; exact h) (HSET.o _ (Calm.of_below (bS W7))) (fun hHeld=>?_)
   refine tjj 0 ?_ rfl (by kernel_rfl) rfl ‹_› ?_ (fun _ _ _ h=>h) (tjj 1 ?_ rfl (by kernel_rfl) rfl ‹_› ?_ (fun _ _ _ h=>h) (tjj 2 ?_ rfl (by kernel_rfl) rfl ‹_› ?_ (fun _ _ _ h=>h) (tjj 3 ?_ rfl (by kernel_rfl) rfl ‹_› ?_ (fun _ _ _ h=>h) (tjj 4 ?_ rfl (by kernel_rfl) rfl ‹_› ?_ (fun _ _ _ h=>h) (tjj 5 ?_ rfl (by kernel_rfl) rfl ‹_› ?_ (fun _ _ _ h=>h) (tjj 6 ?_ rfl (by kernel_rfl) rfl ‹_› ?_ (fun _ _ _ h=>h) (tjj 7 ?_ rfl (by kernel_rfl) rfl ‹_› ?_ (fun _ _ _ h=>h) (tjj 8 ?_ rfl (by kernel_rfl) rfl ‹_› ?_ (fun _ _ _ h=>h) (tjj 9 ?_ rfl (by kernel_rfl) rfl ‹_› ?_ (fun _ _ _ h=>h) (tjj 10 ?_ rfl (by kernel_rfl) rfl ‹_› ?_ (fun _ _ _ h=>h) ?_))))))))))
   iterate 11 (rotate_left; · (intro w' hSw; (try dsimp only at hSw); (try go_frame); go_simp <;> with_reducible rfl))
   go_frame
   refine wpAnyH_ready (rs:=[11]) (by kernel_rfl) (by simp) ?_
   refine AllReadyH.cons rfl (fun K hK=>?_) AllReadyH.nil
   go_simp
   refine (RC.o W7.drew _ (g.take mo) (BW6.o.trans ((HB67.o.trans (bS W7)).mono BW6.o.size)) (HH7.o.below (bS W7)) (by rw [List.length_take,HGL.o]; omega) HNK.o).mono ?_
   rintro e wl ⟨b2,rfl,hb2,hf2,hb'⟩
   have hb:=bO hb'
   have HB8:=aH hb
   have F2:=aH hf2
   have hb2':W7.heap.size <= b2:=hb2
   have hH8:=HSET.o wl (Calm.of_below hb)
   have s8':w6.heap.size < W7.heap.size:=KB.o.lt
   have s9':W7.heap.size <= wl.heap.size:=hb.size
   clear hf2 hb' hb hHeld hb2 hm1 hm2 hm3
   obtain ⟨Wn,hrun,hkm,hgrow⟩:=(KM7.o.below HB8.o).update (e:=41) (t:=186) (k:=g.take mo) dW Tryz.underlying186 HNK.o.good (fun e he h=>(KE.o e he).1.inj HNK.o h) b2
   rw [HKV.o] at hrun
   simp only [rN] at hrun
   have CN:Hd (Calm wl Wn):=aH (Calm.of_grown hgrow (fun r e=>by cases e; exact (KM7.o.below HB8.o).notCells))
   have HBN:Hd (Below w1.heap.size w1 Wn):=aH ((BW6.o.trans ((HB67.o.trans (HB8.o.mono HB67.o.size)).mono BW6.o.size)).grown hgrow (Nat.le_trans (Nat.le_trans BW6.o.size HB67.o.size) HB8.o.size) (fun k e=>by cases e; omega))
   have MWN:Hd (Mid W4.heap.size W Wn):=aH ((MW.o.trans (Mid.of_below (HB67.o.trans (HB8.o.mono HB67.o.size)))).trans (Mid.of_grown hgrow (by omega)))
   have KMN:=aH hkm
   have hHn:=HSET.o Wn ((Calm.of_below HB8.o).trans CN.o)
   clear hkm hgrow
   try go_simp
   refine hK.out _ _ hH8 (fun hHeld=>?_)
   clear hK K hH8
   try go_frame
   refine wpAnyH_ready (rs:=[12]) (by kernel_rfl) (by simp) ?_
   refine AllReadyH.cons rfl (fun K hK=>?_) AllReadyH.nil
   go_simp
   refine hK.out _ _ hHn (fun hHeld=>?_)
   clear hK K hHn hrun
   try go_frame
   refine wpAnyH_done (by kernel_rfl) ?_ _
   have D5:=aH ((D5A.o.below' HB8.o).calm CN.o)
   have D6:=aH ((D6A.o.below' HB8.o).calm CN.o)
   have D8:=aH ((D8A.o.below' HB8.o).calm CN.o)
   have BX:=aH (((BX.o.below HB67.o).below HB8.o).calm CN.o)
   have CY7:=aH (CN.o.cell ((HB8.o.cell (p:=⟨bg,og + mo,none⟩) (by show bg < W7.heap.size; omega)).trans CY7.o))
   have HB:Hd (FArc Wn b2 (row (g.take mo))/\b2 ≠ w3.heap.size):=aH ⟨F2.o.calm CN.o,by omega⟩
   have KE:Hd (∀ e ∈ dJ km (g.take mo) b2,NiceK e.1/\FArc Wn e.2 (row e.1)/\e.2 ≠ w3.heap.size):=aH (fun e he=>by
    rcases fm he with he | rfl
    ·obtain ⟨g1,g2,g3⟩:=KE.o e he
     exact ⟨g1,((g2.below HB67.o).below HB8.o).calm CN.o,g3⟩
    exact ⟨HNK.o,HB.o.1,HB.o.2⟩)
   have HLT:Hd (aC (dJ km (g.take mo) b2) (g.take mo) = some b2):=aH (by rw [kM,if_pos rfl])
   have KM:=aH KMN.o
   have MW:=aH MWN.o
   have BW6:=aH HBN.o
   have KB:=aH ((KB.o.below' HB8.o).calm CN.o)
   have hbgn:bg < Wn.heap.size:=by have:=CN.o.size; omega
   obtain ⟨km2,hkm2⟩:=nm (dJ km (g.take mo) b2)
   rw [hkm2] at KE HLT KM
   clear hkm2 KMN HB8 HB67 HSET hHeld
   gi_wp2
   obtain ⟨rq,hrq⟩:=nm ((row (g.take mo)).getD yn 0)
   have hrg:(row (g.take mo))[yn]? = some rq:=by rw [<- hrq,gD,eG (by rw [HLN.o]; omega)]; rfl
   have QRQ:=aH (HQ.o _ rq (mG hrg))
   obtain ⟨pv,hpv⟩:=nm (iF row mo ((aw mo sl).take i))
   have QPV:Hd (QB 4000000000 pv):=aH (by
    rw [<- hpv]
    exact (oX HQ.o mo _).mono (by
     have h1:((aw mo sl).take i).length <= i:=List.length_take_le _ _
     have h2:=HNS.o
     omega))
   rw [hpv] at BX
   have HPQ:Hd (pv * rq = iF row mo ((aw mo sl).take (i + 1))):=aH (by
    rw [HTG.o,kH,hpv,HY.o]
    rw [show ((yn:Int)).toNat = yn by omega,hrq])
   have BA:=aH (BX.o.below (Below.refl Wn.heap.size Wn))
   have FA:=aH (HB.o.1.below (Below.refl Wn.heap.size Wn))
   have hne2:b2 ≠ w3.heap.size:=HB.o.2
   obtain ⟨Ar,mr,cr,Ar',mr',cr',r0,r1,r2,_,_,_,tr⟩:=FA.o.get hrg
   have TR:=aH (tr.frac (k:=4000000000) (QRQ.o.mono (by omega)) (by omega))
   obtain ⟨Ap,mp,cp,Ap',mp',cp',x0,x1,x2,_,_,_,tp⟩:=BA.o.get
   have TP:=aH (tp.frac (k:=4000000000) QPV.o (by omega))
   have KM7:=aH (KM.o.below (Below.refl Wn.heap.size Wn))
   have D6A:=aH (D6.o.below' (Below.refl Wn.heap.size Wn))
   have D8A:=aH (D8.o.below' (Below.refl Wn.heap.size Wn))
   have hSet:∀ w',Below Wn.heap.size Wn w'->(fun w'=>w'.cell? ⟨w1.heap.size + 2,0,none⟩ = some (.map (some (w1.heap.size + 1)))/\w'.cell? ⟨w6.heap.size,0,none⟩ = some (.int .i64 k0)/\w'.cell? ⟨w6.heap.size,1,none⟩ = some (.int .i64 k1)/\w'.cell? ⟨w6.heap.size,2,none⟩ = some (.int .i64 k2)/\w'.cell? ⟨w6.heap.size,3,none⟩ = some (.int .i64 k3)/\w'.cell? ⟨w3.heap.size + 1,0,none⟩ = some (.int .i64 ((mo:Int) + 1))/\w'.cell? ⟨bg,og + mo,none⟩ = some (.int .i64 (yn:Int))/\(Instr.lookup 186 (.map (some (w1.heap.size + 1))) (.agg #[.int .i64 k0,.int .i64 k1,.int .i64 k2,.int .i64 k3]) false).run Tryz.prog w' = .ok (.slice (some ⟨b2,0,none⟩) (v + 1) (v + 1)) w'/\w'.cell? ⟨b2,yn * 3,none⟩ = some (.bool (ae rq))/\w'.cell? ⟨b2,yn * 3 + 1,none⟩ = some (.slice Ar mr cr)/\w'.cell? ⟨b2,yn * 3 + 2,none⟩ = some (.slice Ar' mr' cr')) w':=fun w' hw' =>
    ⟨(D6A.o.below' hw').cell 0,(KB.o.below' hw').cell 0,(KB.o.below' hw').cell 1,(KB.o.below' hw').cell 2,(KB.o.below' hw').cell 3,(D8A.o.below' hw').cell 0,(hw'.cell (p:=⟨bg,og + mo,none⟩) (by show bg < Wn.heap.size; have:=(Below.refl Wn.heap.size Wn).size; omega)).trans CY7.o,by
     have:=(KM7.o.below hw').look dW (show Tryz.prog.underlying 186 = some (.map 120 41) from Tryz.underlying186) (fi _) HNK.o.good (fun e he h=>(KE.o e he).1.inj HNK.o h)
     rw [HKV.o,HLT.o] at this
     exact this,(hw'.cell (p:=⟨b2,yn * 3,none⟩) FA.o.lt).trans r0,(hw'.cell (p:=⟨b2,yn * 3 + 1,none⟩) FA.o.lt).trans r1,(hw'.cell (p:=⟨b2,yn * 3 + 2,none⟩) FA.o.lt).trans r2⟩
   have HSET:=aH hSet
   have hbv:w3.heap.size < Wn.heap.size:=BA.o.lt
   have i1:IntKind.i64.wrap ((mo:Int) + 1 - 1) = (mo:Int):=by rw [show (mo:Int) + 1 - 1 = mo by omega]; exact iI _ (by omega)
   have i2:IntKind.i64.wrap (mo:Int) = (mo:Int):=iI _ (by omega)
   have m3:(mo:Int) < (mo:Int) + 1:=by omega
   have y1:(0:Int) <= (yn:Int):=by omega
   have y2:(yn:Int) < (v:Int) + 1:=by omega
   clear hrq hrg hpv tr tp hSet r0 r1 r2
   refine dx (S:=fun w'=>w'.cell? ⟨w1.heap.size + 2,0,none⟩ = some (.map (some (w1.heap.size + 1)))/\w'.cell? ⟨w6.heap.size,0,none⟩ = some (.int .i64 k0)/\w'.cell? ⟨w6.heap.size,1,none⟩ = some (.int .i64 k1)/\w'.cell? ⟨w6.heap.size,2,none⟩ = some (.int .i64 k2)/\w'.cell? ⟨w6.heap.size,3,none⟩ = some (.int .i64 k3)/\w'.cell? ⟨w3.heap.size + 1,0,none⟩ = some (.int .i64 ((mo:Int) + 1))/\w'.cell? ⟨bg,og + mo,none⟩ = some (.int .i64 (yn:Int))/\(Instr.lookup 186 (.map (some (w1.heap.size + 1))) (.agg #[.int .i64 k0,.int .i64 k1,.int .i64 k2,.int .i64 k3]) false).run Tryz.prog w' = .ok (.slice (some ⟨b2,0,none⟩) (v + 1) (v + 1)) w'/\w'.cell? ⟨b2,yn * 3,none⟩ = some (.bool (ae rq))/\w'.cell? ⟨b2,yn * 3 + 1,none⟩ = some (.slice Ar mr cr)/\w'.cell? ⟨b2,yn * 3 + 2,none⟩ = some (.slice Ar' mr' cr')) (by kernel_rfl) (eC (by kernel_rfl)) (fun h=>by obtain ⟨a,w,h⟩:=h; exact h) (HSET.o _ (bS Wn)) (fun hHeld=>?_)
   refine tjj 1 ?_ rfl (by kernel_rfl) rfl ‹_› ?_ (fun _ _ _ h=>h) (tjj 2 ?_ rfl (by kernel_rfl) rfl ‹_› ?_ (fun _ _ _ h=>h) (tjj 3 ?_ rfl (by kernel_rfl) rfl ‹_› ?_ (fun _ _ _ h=>h) (tjj 4 ?_ rfl (by kernel_rfl) rfl ‹_› ?_ (fun _ _ _ h=>h) (tjj 5 ?_ rfl (by kernel_rfl) rfl ‹_› ?_ (fun _ _ _ h=>h) (tjj 6 ?_ rfl (by kernel_rfl) rfl ‹_› ?_ (fun _ _ _ h=>h) (tjj 7 ?_ rfl (by kernel_rfl) rfl ‹_› ?_ (fun _ _ _ h=>h) (tjj 8 ?_ rfl (by kernel_rfl) rfl ‹_› ?_ (fun _ _ _ h=>h) (tjj 9 ?_ rfl (by kernel_rfl) rfl ‹_› ?_ (fun _ _ _ h=>h) (tjj 10 ?_ rfl (by kernel_rfl) rfl ‹_› ?_ (fun _ _ _ h=>h) ?_)))))))))
   iterate 10 (rotate_left; · (intro w' hSw; (try dsimp only at hSw); (try go_frame); go_simp <;> with_reducible rfl))
   go_frame
   refine wpAnyH_ready (rs:=[0]) (by kernel_rfl) (by simp) ?_
   refine AllReadyH.cons rfl (fun K hK=>?_) AllReadyH.nil
   go_simp
   refine hK.out _ _ hHeld (fun hHeld=>?_)
   clear hK K
   try go_frame
   refine wpAnyH_ready (rs:=[11]) (by kernel_rfl) (by simp) ?_
   refine AllReadyH.cons rfl (fun K hK=>?_) AllReadyH.nil
   go_simp
   refine (lP _ _ _ pv rq 4000000000 (TP.o.below (bS _)) (TR.o.below (bS _)) (by omega) (by omega)).mono ?_
   rintro e wl ⟨u,rfl,t,hb'⟩
   have hb:=bO hb'
   rw [HPQ.o] at t
   obtain ⟨As',ms,cs',As'',ms',cs'',rfl⟩:=t.at_.open_
   have TU:=aH t.at_
   have HB8:=aH hb
   clear t hb' hb hHeld x0 x1 x2
   have hH8:=HSET.o wl HB8.o
   try go_simp
   refine hK.out _ _ hH8 (fun hHeld=>?_)
   clear hK K hH8
   try go_frame
   obtain ⟨_,_,_,_,_,_,x0,x1,x2,e0,e1,e2,_⟩:=(BA.o.below HB8.o).get
   refine wpAnyH_ready (rs:=[12]) (by kernel_rfl) (by simp) ?_
   refine AllReadyH.cons rfl (fun K hK=>?_) AllReadyH.nil
   go_simp
   have F8:=BA.o.below HB8.o
   have s8:w6.heap.size < Wn.heap.size:=KB.o.lt
   have n1:w1.heap.size + 2 ≠ w3.heap.size:=by omega
   have n2:w6.heap.size ≠ w3.heap.size:=by omega
   have n3:w3.heap.size + 1 ≠ w3.heap.size:=by omega
   have n4:bg ≠ w3.heap.size:=F8.int_ne hHeld.2.2.2.2.2.2.1
   refine hK.out _ _ ?_ (fun hHeld=>?_)
   ·exact ⟨aj hHeld.1 n1 _ _ _ _ _ _,aj hHeld.2.1 n2 _ _ _ _ _ _,aj hHeld.2.2.1 n2 _ _ _ _ _ _,aj hHeld.2.2.2.1 n2 _ _ _ _ _ _,aj hHeld.2.2.2.2.1 n2 _ _ _ _ _ _,aj hHeld.2.2.2.2.2.1 n3 _ _ _ _ _ _,aj hHeld.2.2.2.2.2.2.1 n4 _ _ _ _ _ _,(by
     have:=((KM7.o.below HB8.o).far3 F8 0 1 2 (.bool (ae (iF row mo ((aw mo sl).take (i + 1))))) (.slice As' ms cs') (.slice As'' ms' cs'')).look dW (show Tryz.prog.underlying 186 = some (.map 120 41) from Tryz.underlying186) (fi _) HNK.o.good (fun e he h=>(KE.o e he).1.inj HNK.o h)
     rw [HKV.o,HLT.o] at this
     exact this),aj hHeld.2.2.2.2.2.2.2.2.1 hne2 _ _ _ _ _ _,aj hHeld.2.2.2.2.2.2.2.2.2.1 hne2 _ _ _ _ _ _,aj hHeld.2.2.2.2.2.2.2.2.2.2 hne2 _ _ _ _ _ _⟩
   clear hK K
   refine wpAnyH_done (by kernel_rfl) ?_ _
   have n5:w1.heap.size ≠ w3.heap.size:=by omega
   have n6:w3.heap.size < W4.heap.size:=by omega
   refine ⟨(((MW.o.trans (Mid.of_below ((Below.refl Wn.heap.size Wn).trans (HB8.o.mono (Below.refl Wn.heap.size Wn).size)))).set (.inl n6) _).set (.inl n6) _).set (.inl n6) _,aL (BW6.o.trans (((Below.refl Wn.heap.size Wn).trans (HB8.o.mono (Below.refl Wn.heap.size Wn).size)).mono BW6.o.size)) (by omega) _ _ _ _ _ _,((D5.o.below' (Below.refl Wn.heap.size Wn)).below' HB8.o).far3 n5 _ _ _ _ _ _,((D6.o.below' (Below.refl Wn.heap.size Wn)).below' HB8.o).far3 n1 _ _ _ _ _ _,((D8.o.below' (Below.refl Wn.heap.size Wn)).below' HB8.o).far3 n3 _ _ _ _ _ _,F8.put rfl TU.o,km2,(KM7.o.below HB8.o).far3 F8 _ _ _ _ _ _,fun e he=>?_⟩
   obtain ⟨g1,g2,g3⟩:=KE.o e he
   exact ⟨g1,((g2.below (Below.refl Wn.heap.size Wn)).below HB8.o).far F8 g3 _ _ _ _ _ _ _ _ _ _,g3⟩
  | some b2 =>
   have hlk:=HLK.o
   rw [hlt'] at hlk
   simp only [Option.elim_some,rN] at hlk
   have HLT:=aH hlt'
   clear hlt' HLK
   have HB:=aH ((KE.o _ (br HLT.o)).2)
   obtain ⟨W7,hW7⟩:∃ W7,W7 = w6.alloc (.cells #[.int .i64 k0,.int .i64 k1,.int .i64 k2,.int .i64 k3] 120):=⟨_,rfl⟩
   gi_wp2
   rw [<- hW7] at hlk ⊢
   have KB:Hd (Blk W7 w6.heap.size 120 [.int .i64 k0,.int .i64 k1,.int .i64 k2,.int .i64 k3]):=aH (by rw [hW7]; exact Blk.new _ _ _)
   have HB67:Hd (Below w6.heap.size w6 W7):=aH (by rw [hW7]; exact bA _ _)
   have CY7:=aH ((HB67.o.cell (p:=⟨bg,og + mo,none⟩) (by show bg < w6.heap.size; omega)).trans (HCY6.o))
   clear hW7
   obtain ⟨rq,hrq⟩:=nm ((row (g.take mo)).getD yn 0)
   have hrg:(row (g.take mo))[yn]? = some rq:=by rw [<- hrq,gD,eG (by rw [HLN.o]; omega)]; rfl
   have QRQ:=aH (HQ.o _ rq (mG hrg))
   obtain ⟨pv,hpv⟩:=nm (iF row mo ((aw mo sl).take i))
   have QPV:Hd (QB 4000000000 pv):=aH (by
    rw [<- hpv]
    exact (oX HQ.o mo _).mono (by
     have h1:((aw mo sl).take i).length <= i:=List.length_take_le _ _
     have h2:=HNS.o
     omega))
   rw [hpv] at BX
   have HPQ:Hd (pv * rq = iF row mo ((aw mo sl).take (i + 1))):=aH (by
    rw [HTG.o,kH,hpv,HY.o]
    rw [show ((yn:Int)).toNat = yn by omega,hrq])
   have BA:=aH (BX.o.below HB67.o)
   have FA:=aH (HB.o.1.below HB67.o)
   have hne2:b2 ≠ w3.heap.size:=HB.o.2
   obtain ⟨Ar,mr,cr,Ar',mr',cr',r0,r1,r2,_,_,_,tr⟩:=FA.o.get hrg
   have TR:=aH (tr.frac (k:=4000000000) (QRQ.o.mono (by omega)) (by omega))
   obtain ⟨Ap,mp,cp,Ap',mp',cp',x0,x1,x2,_,_,_,tp⟩:=BA.o.get
   have TP:=aH (tp.frac (k:=4000000000) QPV.o (by omega))
   have KM7:=aH (KM.o.below HB67.o)
   have D6A:=aH (D6.o.below' HB67.o)
   have D8A:=aH (D8.o.below' HB67.o)
   have hSet:∀ w',Below W7.heap.size W7 w'->(fun w'=>w'.cell? ⟨w1.heap.size + 2,0,none⟩ = some (.map (some (w1.heap.size + 1)))/\w'.cell? ⟨w6.heap.size,0,none⟩ = some (.int .i64 k0)/\w'.cell? ⟨w6.heap.size,1,none⟩ = some (.int .i64 k1)/\w'.cell? ⟨w6.heap.size,2,none⟩ = some (.int .i64 k2)/\w'.cell? ⟨w6.heap.size,3,none⟩ = some (.int .i64 k3)/\w'.cell? ⟨w3.heap.size + 1,0,none⟩ = some (.int .i64 ((mo:Int) + 1))/\w'.cell? ⟨bg,og + mo,none⟩ = some (.int .i64 (yn:Int))/\(Instr.lookup 186 (.map (some (w1.heap.size + 1))) (.agg #[.int .i64 k0,.int .i64 k1,.int .i64 k2,.int .i64 k3]) false).run Tryz.prog w' = .ok (.slice (some ⟨b2,0,none⟩) (v + 1) (v + 1)) w'/\w'.cell? ⟨b2,yn * 3,none⟩ = some (.bool (ae rq))/\w'.cell? ⟨b2,yn * 3 + 1,none⟩ = some (.slice Ar mr cr)/\w'.cell? ⟨b2,yn * 3 + 2,none⟩ = some (.slice Ar' mr' cr')) w':=fun w' hw' =>
    ⟨(D6A.o.below' hw').cell 0,(KB.o.below' hw').cell 0,(KB.o.below' hw').cell 1,(KB.o.below' hw').cell 2,(KB.o.below' hw').cell 3,(D8A.o.below' hw').cell 0,(hw'.cell (p:=⟨bg,og + mo,none⟩) (by show bg < W7.heap.size; have:=HB67.o.size; omega)).trans CY7.o,by
     have:=(KM7.o.below hw').look dW (show Tryz.prog.underlying 186 = some (.map 120 41) from Tryz.underlying186) (fi _) HNK.o.good (fun e he h=>(KE.o e he).1.inj HNK.o h)
     rw [HKV.o,HLT.o] at this
     exact this,(hw'.cell (p:=⟨b2,yn * 3,none⟩) FA.o.lt).trans r0,(hw'.cell (p:=⟨b2,yn * 3 + 1,none⟩) FA.o.lt).trans r1,(hw'.cell (p:=⟨b2,yn * 3 + 2,none⟩) FA.o.lt).trans r2⟩
   have HSET:=aH hSet
   have hbv:w3.heap.size < W7.heap.size:=BA.o.lt
   have i1:IntKind.i64.wrap ((mo:Int) + 1 - 1) = (mo:Int):=by rw [show (mo:Int) + 1 - 1 = mo by omega]; exact iI _ (by omega)
   have i2:IntKind.i64.wrap (mo:Int) = (mo:Int):=iI _ (by omega)
   have m3:(mo:Int) < (mo:Int) + 1:=by omega
   have y1:(0:Int) <= (yn:Int):=by omega
   have y2:(yn:Int) < (v:Int) + 1:=by omega
   clear hrq hrg hpv tr tp hSet qT d6 hlk r0 r1 r2
   refine dx (S:=fun w'=>w'.cell? ⟨w1.heap.size + 2,0,none⟩ = some (.map (some (w1.heap.size + 1)))/\w'.cell? ⟨w6.heap.size,0,none⟩ = some (.int .i64 k0)/\w'.cell? ⟨w6.heap.size,1,none⟩ = some (.int .i64 k1)/\w'.cell? ⟨w6.heap.size,2,none⟩ = some (.int .i64 k2)/\w'.cell? ⟨w6.heap.size,3,none⟩ = some (.int .i64 k3)/\w'.cell? ⟨w3.heap.size + 1,0,none⟩ = some (.int .i64 ((mo:Int) + 1))/\w'.cell? ⟨bg,og + mo,none⟩ = some (.int .i64 (yn:Int))/\(Instr.lookup 186 (.map (some (w1.heap.size + 1))) (.agg #[.int .i64 k0,.int .i64 k1,.int .i64 k2,.int .i64 k3]) false).run Tryz.prog w' = .ok (.slice (some ⟨b2,0,none⟩) (v + 1) (v + 1)) w'/\w'.cell? ⟨b2,yn * 3,none⟩ = some (.bool (ae rq))/\w'.cell? ⟨b2,yn * 3 + 1,none⟩ = some (.slice Ar mr cr)/\w'.cell? ⟨b2,yn * 3 + 2,none⟩ = some (.slice Ar' mr' cr')) (by kernel_rfl) (eC (by kernel_rfl)) (fun h=>by obtain ⟨a,w,h⟩:=h; exact h) (HSET.o _ (bS W7)) (fun hHeld=>?_)
   refine tjj 1 ?_ rfl (by kernel_rfl) rfl ‹_› ?_ (fun _ _ _ h=>h) (tjj 2 ?_ rfl (by kernel_rfl) rfl ‹_› ?_ (fun _ _ _ h=>h) (tjj 3 ?_ rfl (by kernel_rfl) rfl ‹_› ?_ (fun _ _ _ h=>h) (tjj 4 ?_ rfl (by kernel_rfl) rfl ‹_› ?_ (fun _ _ _ h=>h) (tjj 5 ?_ rfl (by kernel_rfl) rfl ‹_› ?_ (fun _ _ _ h=>h) (tjj 6 ?_ rfl (by kernel_rfl) rfl ‹_› ?_ (fun _ _ _ h=>h) (tjj 7 ?_ rfl (by kernel_rfl) rfl ‹_› ?_ (fun _ _ _ h=>h) (tjj 8 ?_ rfl (by kernel_rfl) rfl ‹_› ?_ (fun _ _ _ h=>h) (tjj 9 ?_ rfl (by kernel_rfl) rfl ‹_› ?_ (fun _ _ _ h=>h) (tjj 10 ?_ rfl (by kernel_rfl) rfl ‹_› ?_ (fun _ _ _ h=>h) ?_)))))))))
   iterate 10 (rotate_left; · (intro w' hSw; (try dsimp only at hSw); (try go_frame); go_simp <;> with_reducible rfl))
   go_frame
   refine wpAnyH_ready (rs:=[0]) (by kernel_rfl) (by simp) ?_
   refine AllReadyH.cons rfl (fun K hK=>?_) AllReadyH.nil
   go_simp
   refine hK.out _ _ hHeld (fun hHeld=>?_)
   clear hK K
   try go_frame
   refine wpAnyH_ready (rs:=[11]) (by kernel_rfl) (by simp) ?_
   refine AllReadyH.cons rfl (fun K hK=>?_) AllReadyH.nil
   go_simp
   refine (lP _ _ _ pv rq 4000000000 (TP.o.below (bS _)) (TR.o.below (bS _)) (by omega) (by omega)).mono ?_
   rintro e wl ⟨u,rfl,t,hb'⟩
   have hb:=bO hb'
   rw [HPQ.o] at t
   obtain ⟨As',ms,cs',As'',ms',cs'',rfl⟩:=t.at_.open_
   have TU:=aH t.at_
   have HB8:=aH hb
   clear t hb' hb hHeld x0 x1 x2
   have hH8:=HSET.o wl HB8.o
   try go_simp
   refine hK.out _ _ hH8 (fun hHeld=>?_)
   clear hK K hH8
   try go_frame
   obtain ⟨_,_,_,_,_,_,x0,x1,x2,e0,e1,e2,_⟩:=(BA.o.below HB8.o).get
   refine wpAnyH_ready (rs:=[12]) (by kernel_rfl) (by simp) ?_
   refine AllReadyH.cons rfl (fun K hK=>?_) AllReadyH.nil
   go_simp
   have F8:=BA.o.below HB8.o
   have s8:w6.heap.size < W7.heap.size:=KB.o.lt
   have n1:w1.heap.size + 2 ≠ w3.heap.size:=by omega
   have n2:w6.heap.size ≠ w3.heap.size:=by omega
   have n3:w3.heap.size + 1 ≠ w3.heap.size:=by omega
   have n4:bg ≠ w3.heap.size:=F8.int_ne hHeld.2.2.2.2.2.2.1
   refine hK.out _ _ ?_ (fun hHeld=>?_)
   ·exact ⟨aj hHeld.1 n1 _ _ _ _ _ _,aj hHeld.2.1 n2 _ _ _ _ _ _,aj hHeld.2.2.1 n2 _ _ _ _ _ _,aj hHeld.2.2.2.1 n2 _ _ _ _ _ _,aj hHeld.2.2.2.2.1 n2 _ _ _ _ _ _,aj hHeld.2.2.2.2.2.1 n3 _ _ _ _ _ _,aj hHeld.2.2.2.2.2.2.1 n4 _ _ _ _ _ _,(by
     have:=((KM7.o.below HB8.o).far3 F8 0 1 2 (.bool (ae (iF row mo ((aw mo sl).take (i + 1))))) (.slice As' ms cs') (.slice As'' ms' cs'')).look dW (show Tryz.prog.underlying 186 = some (.map 120 41) from Tryz.underlying186) (fi _) HNK.o.good (fun e he h=>(KE.o e he).1.inj HNK.o h)
     rw [HKV.o,HLT.o] at this
     exact this),aj hHeld.2.2.2.2.2.2.2.2.1 hne2 _ _ _ _ _ _,aj hHeld.2.2.2.2.2.2.2.2.2.1 hne2 _ _ _ _ _ _,aj hHeld.2.2.2.2.2.2.2.2.2.2 hne2 _ _ _ _ _ _⟩
   clear hK K
   refine wpAnyH_done (by kernel_rfl) ?_ _
   have n5:w1.heap.size ≠ w3.heap.size:=by omega
   have n6:w3.heap.size < W4.heap.size:=by omega
   refine ⟨(((MW.o.trans (Mid.of_below (HB67.o.trans (HB8.o.mono HB67.o.size)))).set (.inl n6) _).set (.inl n6) _).set (.inl n6) _,aL (BW6.o.trans ((HB67.o.trans (HB8.o.mono HB67.o.size)).mono BW6.o.size)) (by omega) _ _ _ _ _ _,((D5.o.below' HB67.o).below' HB8.o).far3 n5 _ _ _ _ _ _,((D6.o.below' HB67.o).below' HB8.o).far3 n1 _ _ _ _ _ _,((D8.o.below' HB67.o).below' HB8.o).far3 n3 _ _ _ _ _ _,F8.put rfl TU.o,km,(KM7.o.below HB8.o).far3 F8 _ _ _ _ _ _,fun e he=>?_⟩
   obtain ⟨g1,g2,g3⟩:=KE.o e he
   exact ⟨g1,((g2.below HB67.o).below HB8.o).far F8 g3 _ _ _ _ _ _ _ _ _ _,g3⟩
 case done =>
  intro W hI hK
  obtain ⟨h1,h2,h3,h4,h5,_⟩:=hI
  have BW:=aH h1
  have KW:=aH hK
  have RW:=aH (R1.o.below h1)
  have hgl:(aw mo sl).take (sl.length + 1) = aw mo sl:=tL (by simp [aw])
  rw [hgl] at h5
  obtain ⟨qv,hqv⟩:=nm (iF row mo (aw mo sl))
  rw [hqv] at h5
  have HQV:Hd (oj row (mo + 1 - 1) sl = qv):=aH (by rw [<- hqv]; rfl)
  have BX:=aH h5
  clear h1 h2 h3 h4 h5 hK hgl hqv
  obtain ⟨Ax,mx,cx,Ax',mx',cx',x0,x1,x2,_,_,_,tx⟩:=BX.o.get
  have TX:=aH tx
  obtain ⟨_,_,_,_,_,_,r0,r1,r2,y0,y1,y2,_⟩:=RW.o.get
  clear tx
  go_wp2_with fail
  clear r0 r1 r2 y0 y1 y2 x0 x1 x2
  obtain ⟨W6,hW6⟩:∃ W6,W6 = ((W.setCell ⟨w.heap.size + 1,0,none⟩ (.bool (ae qv))).setCell ⟨w.heap.size + 1,1,none⟩ (.slice Ax mx cx)).setCell ⟨w.heap.size + 1,2,none⟩ (.slice Ax' mx' cx'):=⟨_,rfl⟩
  have X6:BoxC W6 (w.heap.size + 1) qv:=by rw [hW6]; exact RW.o.put rfl TX.o
  have Y6:Below w.heap.size w W6:=by rw [hW6]; exact aL (B1.o.trans (BW.o.mono (by have:=B1.o.size; omega))) (by omega) _ _ _ _ _ _
  have K6:W6.heap[w5.heap.size]? = some (.deferred (some [])):=by
   rw [hW6]
   exact ((Below.heap_setCell _ ⟨w.heap.size + 1,2,none⟩ _ _ (by show w5.heap.size ≠ w.heap.size + 1; omega)).trans (Below.heap_setCell _ ⟨w.heap.size + 1,1,none⟩ _ _ (by show w5.heap.size ≠ w.heap.size + 1; omega))).trans ((Below.heap_setCell _ ⟨w.heap.size + 1,0,none⟩ _ _ (by show w5.heap.size ≠ w.heap.size + 1; omega)).trans KW.o)
  rw [<- hW6]
  clear hW6
  have G7:=grownBy_putObj' W6 w5.heap.size (.deferred none)
  have C7:Calm W6 (W6.putObj w5.heap.size (.deferred none)):=Calm.of_grown G7 (fun r e=>by cases e; exact ⟨_,K6,rfl⟩)
  have Y7:Below w.heap.size w (W6.putObj w5.heap.size (.deferred none)):=Y6.grown G7 Y6.size (fun k e=>by cases e; omega)
  obtain ⟨Az,mz,cz,Az',mz',cz',g0,g1,g2,_,_,_,tz⟩:=(X6.calm C7).get
  refine ⟨by simp,.inl ⟨_,_,rfl,run_takeDeferred K6,?_⟩⟩
  refine ⟨.agg #[.bool (ae qv),.slice Az mz cz,.slice Az' mz' cz'],by simp [results,Tryz.results104,go_sem,g0,g1,g2],_,rfl,?_,Y7⟩
  rw [HQV.o]
  exact tz
end
end Go.Proofs.YtjebfdfkjlkifaaGreat
