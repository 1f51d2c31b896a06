/- Lemmas on the way: La1, Wy1, TbQ, Rw1, Rw2, Jk1, Jd5. -/
import Derived.Test.YtkdhppimhdemjaaGreatU35
set_option linter.all false
set_option maxRecDepth 1000000
set_option maxHeartbeats 32000000
namespace Go.Proofs.YtkdhppimhdemjaaGreat
open Go.RowKit
def bt (O V:Int) (gs:List Gr) (k:Int) (a:Rat) (mix:List Rat):Int:=if bN O V gs ≠ 0 then bN O V gs else if aM k a mix O then 0 else 2
structure iG (w:World) (lv:Value) (gs:List Gr) (s:Bool) (A A':Option Addr) (m c m' c':Nat) (a:Rat) (mv:Value) (mix:List Rat):Prop where
 grams:eI w lv gs
 amount:az 64 w (.agg #[.bool s,.slice A m c,.slice A' m' c']) a
 mixes:bz 64 w mv mix
 short:mix.length <= 1000000
theorem iG.below {w w':World} {lv:Value} {gs:List Gr} {s:Bool} {A A':Option Addr} {m c m' c':Nat} {a:Rat} {mv:Value} {mix:List Rat} (h:iG w lv gs s A A' m c m' c' a mv mix)(hb:Below w.heap.size w w'):iG w' lv gs s A A' m c m' c' a mv mix :=
 ⟨h.grams.below hb,h.amount.below hb,h.mixes.below hb,h.short⟩
theorem iQ {O V:Int} {gs:List Gr} (h:bN O V gs = 0):gs.length <= 20000/\cK O V = true/\∀ i,i < gs.length->fe O V gs i = true:=by
 unfold bN at h
 split at h
 ·cases h
 split at h
 ·next h1 h2=>exact ⟨by omega,h2.1,fun i hi=>List.all_eq_true.1 h2.2 i (List.mem_range.2 hi)⟩
 cases h
theorem jZ {O V:Int} (h:cK O V = true):1 <= O/\O <= 4/\1 <= V/\V <= 2000:=by
 unfold cK at h
 simp only [Bool.and_eq_true,decide_eq_true_eq] at h
 omega

theorem Bq (w:World) (O V:Int) (lv:Value) (gs:List Gr) (k:Int) (s:Bool) (A A':Option Addr) (m c m' c':Nat) (mv:Value) (a:Rat) (mix:List Rat)(h:iG w lv gs s A A' m c m' c' a mv mix) :
  Calls Tryz.prog 96 #[gL O V lv k s A A' m c m' c' mv] w fun e w'=>e = .returned (.int .i64 (bt O V gs k a mix))/\Below w.heap.size w w':=by
 obtain ⟨Al,cl,rfl,_,_,_⟩:=h.grams.open_
 obtain ⟨Am,cm,rfl,_,_,_⟩:=h.mixes.open_
 have HL:=Lib.hid h
 clear h
 unfold gL
 go_enter Tryz.func96,Tryz.ntmps96
 go_wp2_with fail
 obtain ⟨W,hW,P0,PB,Phs⟩:=eU w 33 [.int .i64 O,.int .i64 V,.slice Al gs.length cl,.int .i64 k,.bool s,.slice A m c,.slice A' m' c',.slice Am mix.length cm]
 rw [<- hW]
 clear hW
 obtain ⟨p0,p1,p2,p3,p4,p5,p6,p7⟩:=dq P0.out
 go_wp2_with fail
 refine (xT W O V _ gs (HL.out.grams.below PB.out)).mono ?_
 rintro e w1 ⟨rfl,hb1⟩
 have P1:=Lib.hid (P0.out.below' hb1)
 have B1:=Lib.hid (PB.out.trans (hb1.mono PB.out.size))
 clear p0 p1 p2 p3 p4 p5 p6 p7 hb1 P0 PB
 obtain ⟨p0,p1,p2,p3,p4,p5,p6,p7⟩:=dq P1.out
 obtain ⟨te,hte⟩:∃ z,bN O V gs = z:=⟨_,rfl⟩
 rw [hte]
 have HTE:=Lib.hid hte
 clear hte
 by_cases h0:te = 0
 ·subst h0
  have HO:=jZ (iQ HTE.out).2.1
  go_wp2_with fail
  refine (KK w1 O V (.slice Al gs.length cl) k s A A' m c m' c' _ a mix (HL.out.amount.below B1.out) (HL.out.mixes.below B1.out) HL.out.short (by omega) _ _ _ rfl).mono ?_
  rintro e w2 ⟨rfl,hb2⟩
  have B2:=Lib.hid (B1.out.trans (hb2.mono B1.out.size))
  obtain ⟨vb,hvb⟩:∃ b,aM k a mix O = b:=⟨_,rfl⟩
  rw [hvb]
  have HE:Hid (bt O V gs k a mix = if vb = true then 0 else 2):=Lib.hid (by unfold bt; rw [HTE.out,hvb]; rfl)
  clear hb2 hvb
  cases vb
  all_goals
   go_wp2_with fail
   go_ret
   exact ⟨aq HE.out.symm,B2.out⟩
 have e1:(te != 0) = true:=by simpa using h0
 have HE:Hid (bt O V gs k a mix = te):=Lib.hid (by unfold bt; rw [HTE.out,if_pos h0])
 clear h0
 go_wp2_with fail
 go_ret
 exact ⟨aq HE.out.symm,B1.out⟩

def jI (O V:Int) (gs:List Gr) (k:Int) (a:Rat) (mix:List Rat)(h:List Int):Int :=
 if bt O V gs k a mix ≠ 0 then bt O V gs k a mix else if (h.length:Int) = O - 1/\pM 0 V h = true then 0 else 2

theorem zn (w:World) (O V:Int) (lv:Value) (gs:List Gr) (k:Int) (s:Bool) (A A':Option Addr) (m c m' c':Nat) (mv:Value) (a:Rat) (mix:List Rat)(hv:Value)(hl:List Int)(h:iG w lv gs s A A' m c m' c' a mv mix)(hh:aU w hv hl) :
  Calls Tryz.prog 183 #[gL O V lv k s A A' m c m' c' mv,hv] w fun e w'=>e = .returned (.int .i64 (jI O V gs k a mix hl))/\Below w.heap.size w w':=by
 obtain ⟨Al,cl,rfl,_,_,_⟩:=h.grams.open_
 obtain ⟨Am,cm,rfl,_,_,_⟩:=h.mixes.open_
 obtain ⟨Ah,ch,rfl,hlc,hcm,_⟩:=hh.open_
 have HL:=Lib.hid h
 have HI:=Lib.hid hh
 obtain ⟨n,hn⟩:∃ n,hl.length = n:=⟨_,rfl⟩
 rw [hn] at hlc HI ⊢
 have HN:=Lib.hid hn
 clear h hh hn
 unfold gL
 go_enter Tryz.func183,Tryz.ntmps183
 go_wp2_with fail
 obtain ⟨W,hW,P0,PB,Phs⟩:=eU w 33 [.int .i64 O,.int .i64 V,.slice Al gs.length cl,.int .i64 k,.bool s,.slice A m c,.slice A' m' c',.slice Am mix.length cm]
 rw [<- hW]
 clear hW
 obtain ⟨p0,p1,p2,p3,p4,p5,p6,p7⟩:=dq P0.out
 go_wp2_with fail
 refine (Bq W O V (.slice Al gs.length cl) gs k s A A' m c m' c' (.slice Am mix.length cm) a mix (HL.out.below PB.out)).mono ?_
 rintro e w1 ⟨rfl,hb1⟩
 have P1:=Lib.hid (P0.out.below' hb1)
 have B1:=Lib.hid (PB.out.trans (hb1.mono PB.out.size))
 clear p0 p1 p2 p3 p4 p5 p6 p7 hb1 P0 PB
 obtain ⟨p0,p1,p2,p3,p4,p5,p6,p7⟩:=dq P1.out
 obtain ⟨te,hte⟩:∃ z,bt O V gs k a mix = z:=⟨_,rfl⟩
 rw [hte]
 have HTE:=Lib.hid hte
 clear hte
 by_cases h0:te = 0
 ·subst h0
  have HO:1 <= O/\O <= 4:=by
   have h1:bN O V gs = 0:=by
    have:=HTE.out
    unfold bt at this
    by_cases e:bN O V gs = 0
    ·exact e
    rw [if_pos e] at this; exact this
   have:=jZ (iQ h1).2.1
   omega
  by_cases h2:(n:Int) = O - 1
  ·have e2:((n:Int) != O - 1) = false:=by simpa using h2
   obtain ⟨ib,hib⟩:∃ b,pM 0 V hl = b:=⟨_,rfl⟩
   have HE:Hid (jI O V gs k a mix hl = if ib = true then 0 else 2):=Lib.hid (by
    unfold jI
    rw [HTE.out,hib,HN.out]
    simp [h2])
   have HIB:=Lib.hid hib
   clear h2 hib
   go_wp2_with fail
   refine (z7 w1 _ hl 0 V (HI.out.below B1.out)).mono ?_
   rintro e w2 ⟨rfl,hb2⟩
   have B2:=Lib.hid (B1.out.trans (hb2.mono B1.out.size))
   rw [HIB.out]
   clear hb2
   cases ib
   all_goals
    go_wp2_with fail
    go_ret
    exact ⟨aq HE.out.symm,B2.out⟩
  have e2:((n:Int) != O - 1) = true:=by simpa using h2
  have HE:Hid (jI O V gs k a mix hl = 2):=Lib.hid (by
   unfold jI
   rw [HTE.out,HN.out]
   simp [h2])
  clear h2
  go_wp2_with fail
  go_ret
  exact ⟨aq HE.out.symm,B1.out⟩
 have e1:(te != 0) = true:=by simpa using h0
 have HE:Hid (jI O V gs k a mix hl = te):=Lib.hid (by unfold jI; rw [HTE.out,if_pos h0])
 clear h0
 go_wp2_with fail
 go_ret
 exact ⟨aq HE.out.symm,B1.out⟩
theorem gc.set_ {w:World} {b O n:Nat} {gs:List (List Int × Int)} (h:gc w b O n gs) {g:Nat} {e:TypeId} {ys:List Value} (hb:bw w g e ys)(he:e ≠ 401) {o:Nat} {u0:Value} (hc:w.cell? ⟨g,o,none⟩ = some u0) (u:Value):gc (w.setCell ⟨g,o,none⟩ u) b O n gs:=by
 obtain ⟨xs,h1,h2,h3⟩:=h
 have hne:b ≠ g:=by
  intro e'
  subst e'
  unfold bw at h1 hb
  rw [h1] at hb
  cases hb
  exact he rfl
 refine ⟨xs,h1.far (p:=⟨g,o,none⟩) hne u,h2,fun j hj hj'=>?_⟩
 obtain ⟨bj,base,S,e1,hl,hr⟩:=h3 j hj hj'
 exact ⟨bj,base,S,e1,hl.far hc _,hr⟩

def r6 (k:Int) (b O v:Nat) (s:Bool) (A A':Option Addr) (m c m' c':Nat) (mv:Value):Value :=
 if k = 2 then .iface 355 (.agg #[.slice (some ⟨b,0,none⟩) (O + 1) (O + 1),.int .i64 ((v:Int) + 1),mv])
 else if k = 3 then .iface 357 (.agg #[.slice (some ⟨b,0,none⟩) (O + 1) (O + 1),.int .i64 ((v:Int) + 1),.bool s,.slice A m c,.slice A' m' c'])
 else if k = 4 then .iface 359 (.agg #[.slice (some ⟨b,0,none⟩) (O + 1) (O + 1),.int .i64 ((v:Int) + 1)])
 else .iface 360 (.agg #[.slice (some ⟨b,0,none⟩) (O + 1) (O + 1),.int .i64 ((v:Int) + 1),.bool s,.slice A m c,.slice A' m' c'])
def Kv (O:Nat) (gs:List Gr):Prop:=(∀ g ∈ gs,g.1.length = O/\(∀ x ∈ g.1,0 <= x/\x <= 1000000)/\0 < g.2/\g.2 <= 1073741824)/\(1 <= O/\O <= 4)/\gs.length <= 20000/\(gs.map Prod.fst).Nodup

theorem Od (w:World) (O v:Nat) (lv:Value) (gs:List Gr) (k:Int) (s:Bool) (A A':Option Addr) (m c m' c':Nat) (Am:Option Addr) (nm cm:Nat)(h:eI w lv gs)(hn:Kv O gs)(hv:v <= 2000) :
  Calls Tryz.prog 184 #[gL O v lv k s A A' m c m' c' (.slice Am nm cm)] w fun e w'=>∃ b,e = .returned (r6 k b O v s A A' m c m' c' (.slice Am nm cm))/\gc w' b O 0 gs/\Below w.heap.size w w':=by
 obtain ⟨Al,cl,rfl,_,_,_⟩:=h.open_
 have HL:=Lib.hid h
 have HN:=Lib.hid hn
 clear h hn
 unfold gL
 go_enter Tryz.func184,Tryz.ntmps184
 go_wp2_with fail
 obtain ⟨W,hW,P0,P1,PB,Phs⟩:=jz w 33 [.int .i64 O,.int .i64 v,.slice Al gs.length cl,.int .i64 k,.bool s,.slice A m c,.slice A' m' c',.slice Am nm cm] 352 [.slice none 0 0,.int .i64 ((v:Int) + 1)]
 rw [<- hW]
 clear hW
 obtain ⟨p0,p1,p2,p3,p4,p5,p6,p7⟩:=dq P0.out
 go_wp2_with fail
 refine (IE W O v (.slice Al gs.length cl) gs (HL.out.below PB.out) HN.out.1 HN.out.2.1 HN.out.2.2.1 HN.out.2.2.2).mono ?_
 rintro e w1 ⟨b,rfl,hlv,hb1⟩
 have LV:=Lib.hid hlv
 have P2:=Lib.hid (P0.out.below' hb1)
 have P3:=Lib.hid (P1.out.below' hb1)
 have B1:=Lib.hid (PB.out.trans (hb1.mono PB.out.size))
 clear p0 p1 p2 p3 p4 p5 p6 p7 hlv hb1 P0 P1 PB
 have q0:=P3.out.cell 0
 have q1:=P3.out.cell 1
 have z0:=P3.out.frozen 0
 simp only [List.getElem?_cons_zero,List.getElem?_cons_succ] at q0 q1
 obtain ⟨p0,p1,p2,p3,p4,p5,p6,p7⟩:=dq P2.out
 by_cases h2:k = 2
 ·subst h2
  have WV:Hid (Ending.returned (.iface 355 (.agg #[.slice (some ⟨b,0,none⟩) (O + 1) (O + 1),.int .i64 ((v:Int) + 1),.slice Am nm cm])) = Ending.returned (r6 2 b O v s A A' m c m' c' (.slice Am nm cm))):=Lib.hid (by unfold r6; rw [if_pos rfl])
  go_wp2_with fail
  go_ret
  exact ⟨b,WV.out,LV.out.set_ P3.out (by decide) q0 _,B1.out.setCell (p:=⟨w.heap.size + 1,0,none⟩) (by show w.heap.size <= w.heap.size + 1; omega) _⟩
 have n2:(k == 2) = false:=by simpa using h2
 by_cases h3:k = 3
 ·subst h3
  have WV:Hid (Ending.returned (.iface 357 (.agg #[.slice (some ⟨b,0,none⟩) (O + 1) (O + 1),.int .i64 ((v:Int) + 1),.bool s,.slice A m c,.slice A' m' c'])) = Ending.returned (r6 3 b O v s A A' m c m' c' (.slice Am nm cm))):=Lib.hid (by unfold r6; rw [if_neg (by decide),if_pos rfl])
  clear h2 n2
  go_wp2_with fail
  go_ret
  exact ⟨b,WV.out,LV.out.set_ P3.out (by decide) q0 _,B1.out.setCell (p:=⟨w.heap.size + 1,0,none⟩) (by show w.heap.size <= w.heap.size + 1; omega) _⟩
 have n3:(k == 3) = false:=by simpa using h3
 by_cases h4:k = 4
 ·subst h4
  have WV:Hid (Ending.returned (.iface 359 (.agg #[.slice (some ⟨b,0,none⟩) (O + 1) (O + 1),.int .i64 ((v:Int) + 1)])) = Ending.returned (r6 4 b O v s A A' m c m' c' (.slice Am nm cm))):=Lib.hid (by unfold r6; rw [if_neg (by decide),if_neg (by decide),if_pos rfl])
  clear h2 n2 h3 n3
  go_wp2_with fail
  go_ret
  exact ⟨b,WV.out,LV.out.set_ P3.out (by decide) q0 _,B1.out.setCell (p:=⟨w.heap.size + 1,0,none⟩) (by show w.heap.size <= w.heap.size + 1; omega) _⟩
 have n4:(k == 4) = false:=by simpa using h4
 have WV:Hid (Ending.returned (.iface 360 (.agg #[.slice (some ⟨b,0,none⟩) (O + 1) (O + 1),.int .i64 ((v:Int) + 1),.bool s,.slice A m c,.slice A' m' c'])) = Ending.returned (r6 k b O v s A A' m c m' c' (.slice Am nm cm))):=Lib.hid (by unfold r6; rw [if_neg h2,if_neg h3,if_neg h4])
 clear h2 h3 h4
 go_wp2_with fail
 go_ret
 exact ⟨b,WV.out,LV.out.set_ P3.out (by decide) q0 _,B1.out.setCell (p:=⟨w.heap.size + 1,0,none⟩) (by show w.heap.size <= w.heap.size + 1; omega) _⟩
theorem Cx (a:List Int):ew a a = 0:=by
 induction a with
 | nil=>rfl
 | cons x a ih=>simp only [ew,if_true]; exact ih
theorem sd {a b c:List Int} (h1:a.length = b.length)(h2:b.length = c.length)(hab:ew a b < 0)(hbc:ew b c < 0):ew a c < 0:=by
 induction a generalizing b c with
 | nil =>
  cases b with
  | nil=>simp [ew] at hab
  | cons y b=>simp at h1
 | cons x a ih =>
  cases b with
  | nil=>simp at h1
  | cons y b =>
   cases c with
   | nil=>simp at h2
   | cons z c =>
    simp only [List.length_cons,Nat.add_right_cancel_iff] at h1 h2
    simp only [ew] at hab hbc ⊢
    by_cases e1:x = y
    ·subst e1
     rw [if_pos rfl] at hab
     by_cases e2:x = z
     ·subst e2
      rw [if_pos rfl] at hbc
      rw [if_pos rfl]
      exact ih h1 h2 hab hbc
     rw [if_neg e2] at hbc ⊢
     exact hbc
    rw [if_neg e1] at hab
    have hxy:x < y:=by
     by_cases h:x < y
     ·exact h
     rw [if_neg h] at hab; omega
    by_cases e2:y = z
    ·subst e2
     rw [if_neg (by omega),if_pos hxy]
     omega
    rw [if_neg e2] at hbc
    have hyz:y < z:=by
     by_cases h:y < z
     ·exact h
     rw [if_neg h] at hbc; omega
    rw [if_neg (by omega),if_pos (by omega)]
    omega
def yk (gs:List Gr):Prop:=gs.Pairwise (fun a b=>ew a.1 b.1 < 0)
theorem EE {gs:List Gr} {n:Nat} (hl:∀ g ∈ gs,g.1.length = n)(h:∀ i,0 < i->i < gs.length->ew (gs.getD (i - 1) ([],0)).1 (gs.getD i ([],0)).1 < 0):yk gs:=by
 unfold yk
 rw [List.pairwise_iff_getElem]
 intro i j hi hj hij
 have key:∀ d,(hd:i + d + 1 < gs.length)->ew (gs[i]'(by omega)).1 (gs[i + d + 1]).1 < 0:=by
  intro d
  induction d with
  | zero =>
   intro hd
   have:=h (i + 1) (by omega) hd
   rw [show i + 1 - 1 = i by omega,List.getD_eq_getElem?_getD,List.getD_eq_getElem?_getD,List.getElem?_eq_getElem (by omega),List.getElem?_eq_getElem (by omega)] at this
   exact this
  | succ d ih =>
   intro hd
   have h1:=ih (by omega)
   have h2:=h (i + (d + 1) + 1) (by omega) hd
   rw [show i + (d + 1) + 1 - 1 = i + d + 1 by omega,List.getD_eq_getElem?_getD,List.getD_eq_getElem?_getD,List.getElem?_eq_getElem (by omega),List.getElem?_eq_getElem (by omega)] at h2
   exact sd (by rw [hl _ (List.getElem_mem _),hl _ (List.getElem_mem _)]) (by rw [hl _ (List.getElem_mem _)]; exact (hl _ (List.getElem_mem _)).symm) h1 h2
 have:=key (j - i - 1) (by omega)
 have e:i + (j - i - 1) + 1 = j:=by omega
 simp only [e] at this
 exact this
theorem yk.nodup {gs:List Gr} (h:yk gs):(gs.map Prod.fst).Nodup:=by
 refine List.pairwise_map.2 (List.Pairwise.imp ?_ h)
 intro a b hab e
 rw [e,Cx] at hab
 omega
theorem rk {O V:Int} {gs:List Gr} {i:Nat} {g:Gr} (hg:gs[i]? = some g)(h:fe O V gs i = true):(g.1.length:Int) = O/\pM 0 V g.1 = true/\1 <= g.2/\g.2 <= 1073741824/\(0 < i->ew (gs.getD (i - 1) ([],0)).1 g.1 < 0):=by
 unfold fe at h
 rw [jy hg] at h
 simp only [Bool.and_eq_true,Bool.or_eq_true,decide_eq_true_eq] at h
 exact ⟨h.1.1.1.1,h.1.1.1.2,h.1.1.2,h.1.2,fun hi=>h.2.resolve_left (by omega)⟩
theorem Bd {lo hi:Int} {l:List Int} (h:pM lo hi l = true):∀ x ∈ l,lo <= x/\x <= hi:=by
 intro x hx
 have:=List.all_eq_true.1 h x hx
 simpa using this
theorem sP {O V:Int} {gs:List Gr} (h:bN O V gs = 0):gs.length <= 20000/\1 <= O/\O <= 4/\1 <= V/\V <= 2000/\(∀ g ∈ gs,(g.1.length:Int) = O/\(∀ x ∈ g.1,0 <= x/\x <= V)/\1 <= g.2/\g.2 <= 1073741824)/\yk gs:=by
 obtain ⟨h1,h2,h3⟩:=iQ h
 have h4:=jZ h2
 have hm:∀ g ∈ gs,(g.1.length:Int) = O/\(∀ x ∈ g.1,0 <= x/\x <= V)/\1 <= g.2/\g.2 <= 1073741824:=by
  intro g hg
  obtain ⟨i,hi⟩:=List.mem_iff_getElem?.1 hg
  have:=rk hi (h3 i (List.getElem?_eq_some_iff.1 hi).1)
  exact ⟨this.1,Bd this.2.1,this.2.2.1,this.2.2.2.1⟩
 refine ⟨h1,h4.1,h4.2.1,h4.2.2.1,h4.2.2.2,hm,EE (n:=O.toNat) (fun g hg=>by have:=(hm g hg).1; omega) (fun i hi hl=>?_)⟩
 have hg:gs[i]? = some gs[i]:=List.getElem?_eq_getElem hl
 have:=(rk hg (h3 i hl)).2.2.2.2 hi
 rw [jy hg]
 exact this
theorem yL {O v:Nat} {gs:List Gr} (h:bN O v gs = 0):Kv O gs:=by
 obtain ⟨h1,h2,h3,h4,h5,h6,h7⟩:=sP h
 refine ⟨fun g hg=>?_,by omega,h1,h7.nodup⟩
 have:=h6 g hg
 exact ⟨by omega,fun x hx=>by have:=this.2.1 x hx; omega,by omega,this.2.2.2⟩
theorem vU {O v:Nat} {gs:List Gr} (h:bN O v gs = 0)(hv:v <= 8):Mf gs v:=by
 obtain ⟨h1,h2,h3,h4,h5,h6,h7⟩:=sP h
 exact ⟨fun g hg=>by have:=h6 g hg; omega,h1,fun g hg x hx=>((h6 g hg).2.1 x hx).2,hv⟩
theorem xS {O V:Int} {gs:List Gr} {k:Int} {a:Rat} {mix:List Rat} (h:bt O V gs k a mix = 0):bN O V gs = 0/\aM k a mix O = true:=by
 unfold bt at h
 split at h
 ·next h1=>exact absurd h h1
 next h1 =>
 split at h
 ·next h2=>exact ⟨by simpa using h1,h2⟩
 cases h
theorem nH {O V:Int} {gs:List Gr} {k:Int} {a:Rat} {mix:List Rat} {hl:List Int} (h:jI O V gs k a mix hl = 0):bN O V gs = 0/\aM k a mix O = true/\(hl.length:Int) = O - 1/\∀ x ∈ hl,0 <= x/\x <= V:=by
 unfold jI at h
 split at h
 ·next h1=>exact absurd h h1
 next h1 =>
 split at h
 ·next h2 =>
  have:=xS (show bt O V gs k a mix = 0 by simpa using h1)
  exact ⟨this.1,this.2,h2.1,Bd h2.2⟩
 cases h
theorem Ey {q:Rat} (h:0 < ce q):0 < q:=by
 unfold ce at h
 split at h
 ·omega
 next h0 =>
 split at h
 ·omega
 next h1=>exact Rat.not_le.1 (fun h2=>h0 (Rat.le_antisymm h2 (Rat.not_lt.1 h1)))
theorem vM {a:Rat} {mix:List Rat} {O:Int} (h:aM 1 a mix O = true):0 < a/\mix = []:=by
 unfold aM at h
 rw [if_pos rfl] at h
 simp only [Bool.and_eq_true,decide_eq_true_eq,beq_iff_eq] at h
 exact ⟨Ey h.1,List.eq_nil_of_length_eq_zero (by omega)⟩
theorem Ng (x:Value) (w:World):(method 537 360 x "earshot/gram.row").run Tryz.prog w = .ok (343,x) w:=by kernel_rfl
def Ks (w:World) (v:Nat) (qs:List Rat) (e:Ending) (w':World):Prop:=∃ b',e = .returned (.tuple #[.slice (some ⟨b',0,none⟩) (v + 1) (v + 1),.int .i64 0])/\w.heap.size <= b'/\eA w' b' qs/\Below w.heap.size w w'
theorem ED (w:World) (O v:Nat) (lv:Value) (gs:List Gr) (s:Bool) (A A':Option Addr) (m c m' c':Nat) (mv:Value) (a:Rat) (mix:List Rat)(hv:Value)(hl:List Int)(h:iG w lv gs s A A' m c m' c' a mv mix)(hh:aU w hv hl)(hE:jI O v gs 1 a mix hl = 0)(hv8:v <= 8) :
  Calls Tryz.prog 114 #[gL O v lv 1 s A A' m c m' c' mv,hv] w (Ks w v (rR (MJ O gs O hl) v a)):=by
 obtain ⟨Al,cl,rfl,_,_,_⟩:=h.grams.open_
 obtain ⟨Am,cm,rfl,_,_,_⟩:=h.mixes.open_
 obtain ⟨Ah,ch,rfl,hlc,hcm,_⟩:=hh.open_
 have HL:=Lib.hid h
 have HI:=Lib.hid hh
 have HE:=Lib.hid hE
 have HG:=Lib.hid (yL (nH hE).1)
 have HT:=Lib.hid (vU (nH hE).1 hv8)
 have hO:=HG.out.2.1
 have HLN:Hid (hl.length = O - 1):=Lib.hid (by have:=(nH hE).2.2.1; omega)
 have HNK:Hid (fC hl):=Lib.hid ⟨by have:=HLN.out; omega,fun x hx=>by have:=(nH hE).2.2.2 x hx; omega⟩
 have VA:=Lib.hid (vM (nH hE).2.1)
 have hm:=Ng
 clear h hh hE
 unfold gL
 go_enter Tryz.func114,Tryz.ntmps114
 go_wp2_with fail
 obtain ⟨W,hW,P0,PB,Phs⟩:=eU w 33 [.int .i64 O,.int .i64 v,.slice Al gs.length cl,.int .i64 1,.bool s,.slice A m c,.slice A' m' c',.slice Am mix.length cm]
 rw [<- hW]
 clear hW
 obtain ⟨p0,p1,p2,p3,p4,p5,p6,p7⟩:=dq P0.out
 go_wp2_with fail
 refine (zn W O v (.slice Al gs.length cl) gs 1 s A A' m c m' c' (.slice Am mix.length cm) a mix _ hl (HL.out.below PB.out) (HI.out.below PB.out)).mono ?_
 rintro e w1 ⟨rfl,hb1⟩
 rw [HE.out]
 have P1:=Lib.hid (P0.out.below' hb1)
 have B1:=Lib.hid (PB.out.trans (hb1.mono PB.out.size))
 clear p0 p1 p2 p3 p4 p5 p6 p7 hb1 P0 PB
 obtain ⟨p0,p1,p2,p3,p4,p5,p6,p7⟩:=dq P1.out
 have hS:=dq P1.out
 go_wp2_with fail
 go_region_held3 (fun w'=>w'.cell? ⟨w.heap.size,0,none⟩ = some (.int .i64 O)/\w'.cell? ⟨w.heap.size,1,none⟩ = some (.int .i64 v)/\w'.cell? ⟨w.heap.size,2,none⟩ = some (.slice Al gs.length cl)/\w'.cell? ⟨w.heap.size,3,none⟩ = some (.int .i64 1)/\w'.cell? ⟨w.heap.size,4,none⟩ = some (.bool s)/\w'.cell? ⟨w.heap.size,5,none⟩ = some (.slice A m c)/\w'.cell? ⟨w.heap.size,6,none⟩ = some (.slice A' m' c')/\w'.cell? ⟨w.heap.size,7,none⟩ = some (.slice Am mix.length cm))
  (first | assumption | go_keep)
  (first
   | (go_at_call 184; refine (Od _ O v (.slice Al gs.length cl) gs 1 s A A' m c m' c' Am mix.length cm ((HL.out.grams.below B1.out).below (ak _)) HG.out (by have:=HT.out.2.2.2; omega)).mono ?_; rintro e wl ⟨b,rfl,hlv,hb'⟩; have hb:=ah hb'; have BB:=Lib.hid (B1.out.trans (hb.mono B1.out.size)); have LV:=Lib.hid hlv; have R1:=Lib.hid hb; have hS:=dq (P1.out.below' hb); (unfold r6; rw [if_neg (by decide),if_neg (by decide),if_neg (by decide)]); clear hlv hb hb')
   | (go_at_call 343; refine (Ma _ O O b v _ gs hl s A A' m c m' c' a LV.out ⟨by omega,Nat.le_refl _⟩ (by omega) (HI.out.below BB.out) HLN.out HNK.out (HL.out.amount.below BB.out) VA.out.1 HT.out.2.2.2 HT.out.1 HT.out.2.1 HT.out.2.2.1).mono ?_; rintro e w2 ⟨b2,rfl,hb2,hf2,hbl⟩; have F2:=Lib.hid hf2; have B2:=Lib.hid (BB.out.trans (hbl.mono BB.out.size)); have s2:w.heap.size <= b2:=Nat.le_trans BB.out.size hb2; have hS:=dq ((P1.out.below' R1.out).below' hbl); clear hf2 hbl hb2))
 all_goals
  go_wp2_with fail
  go_ret2
  exact ⟨b2,rfl,s2,F2.out,B2.out⟩
section
def jJ:AV->Bool
 | .sl _ _ n c=>Nat.ble n c
 | _=>true
def nw:List AV->Option (List Int)
 | []=>some []
 | .i .i64 n :: l=>(nw l).map (n :: ·)
 | _=>none
def ti (s:St) (x:AV):Option (List Int):=match cA s 1 x with
 | some l=>cond (jJ x) (nw l) none
 | none=>none
def kx (s:St):List AV->Option (List Gr)
 | []=>some []
 | x :: .i .i64 k :: l=>match ti s x,kx s l with
  | some g,some r=>some ((g,k) :: r)
  | _,_=>none
 | _=>none
def ri (s:St) (x:AV):Option (List Gr):=match cA s 2 x with
 | some l=>cond (jJ x) (kx s l) none
 | none=>none
def lQ (x:AV):Option Rat:=(kh x).bind fun p=>cond (Nat.blt p.2.1 (2 ^ 64) && Nat.blt p.2.2 (2 ^ 64)) (some (bX p.1 p.2.1 p.2.2)) none
def m8:List AV->Option (List Rat)
 | []=>some []
 | a :: b :: c :: l=>match lQ (.agg [a,b,c]),m8 l with
  | some q,some r=>some (q :: r)
  | _,_=>none
 | _=>none
def jH (s:St) (x:AV):Option (List Rat):=match cA s 3 x with
 | some l=>cond (jJ x) (m8 l) none
 | none=>none
def s5 (s:St):AV->Option (Int × Int × List Gr × Int × Rat × List Rat)
 | .agg [.i .i64 O,.i .i64 V,lv,.i .i64 k,.b neg,x,y,mx]=>match ri s lv,lQ (.agg [.b neg,x,y]),jH s mx with
  | some gs,some a,some mix=>cond (Nat.ble mix.length 1000000) (some (O,V,gs,k,a,mix)) none
  | _,_,_=>none
 | _=>none

section
variable {P:Program} {μ:Mu} {s:St} {w w':World}
theorem m7 (h:bA μ s w) {z:Nat} (hz:0 < z) {x:AV} {v:Value} {l:List AV} (hx:cA s z x = some l)(hv:VR μ x v)(hcap:jJ x = true):∃ n m,Sl w z v n m/\ao μ l m/\l.length = n * z:=by
 obtain ⟨m,h1,_,h3⟩:=iW h hx hv (fun _ _ _ _ _=>.inr trivial)
 have hlen:=h1.length
 rcases h3 with ⟨rfl,rfl,rfl⟩ | ⟨o,off,n,c,c',p,rfl,hl,hm,rfl,hcell,hblk⟩ | ⟨c,n,cap,A,rfl,hl,rfl,g1,g2,g3⟩
 ·have:m = []:=List.eq_nil_of_length_eq_zero (by simpa using hlen.symm)
  subst this
  exact ⟨0,[],Sl.nil_ w z,h1,by simp⟩
 ·have hnc:n <= c:=by simpa [jJ] using hcap
  simp only [VR] at hv
  obtain ⟨p',c2,hm',e,k1,k2⟩:=hv
  rw [hm] at hm'
  cases hm'
  simp only [Value.slice.injEq,true_and] at e
  obtain ⟨_,rfl⟩:=e
  have hc:n <= c'/\c' < cW:=by
   by_cases e:c < cW
   ·rw [k1 e]; exact ⟨hnc,e⟩
   have:=k2 e; exact ⟨this.1,this.2.1⟩
  exact ⟨n,m,⟨by omega,_,c',rfl,hc.1,by have:=hc.2; unfold cW at this; unfold maxLen; omega,fun _=>⟨p.blk,p.base + off,rfl,hblk,hcell⟩⟩,h1,hl⟩
 refine ⟨n,m,⟨by omega,A,cap,rfl,g1,g2,fun hn=>?_⟩,h1,hl⟩
 obtain ⟨b,base,e,k1,k2⟩:=g3 hn
 exact ⟨b,base,e,k2 hz,k1⟩
theorem wP:∀ {l:List AV} {m:List Value} {ns:List Int},nw l = some ns->ao μ l m->m = ns.map (Value.int .i64)
 | [],m,ns,hx,hv=>by
  simp only [nw,Option.some.injEq] at hx
  subst hx
  simp only [ao] at hv
  subst hv
  rfl
 | x :: l,m,ns,hx,hv=>by
  obtain ⟨n,rfl⟩:∃ n,x = .i .i64 n:=by
   cases x with
   | i k n=>cases k with
    | i64=>exact ⟨n,rfl⟩
    | _=>simp [nw] at hx
   | _=>simp [nw] at hx
  simp only [nw,Option.map_eq_some_iff] at hx
  obtain ⟨ns',h1,rfl⟩:=hx
  simp only [ao,VR] at hv
  obtain ⟨y,ys,rfl,rfl,h2⟩:=hv
  rw [wP h1 h2]
  rfl
theorem xj (h:bA μ s w) {x:AV} {v:Value} {ns:List Int} (hx:ti s x = some ns)(hv:VR μ x v):aU w v ns:=by
 unfold ti at hx
 split at hx
 ·next l hl =>
  obtain ⟨hc,hx⟩:=aj hx
  obtain ⟨n,m,h1,h2,h3⟩:=m7 h (by omega) hl hv hc
  have e:=wP hx h2
  subst e
  have hn:n = ns.length:=by have:=h2.length; simp at this; omega
  subst hn
  exact h1
 cases hx
theorem xw (h:bA μ s w):∀ {l:List AV} {m:List Value} {gs:List Gr},kx s l = some gs->ao μ l m->m.length = gs.length * 2/\∀ (i:Nat) (g:Gr),gs[i]? = some g->∃ c0,m[i * 2]? = some c0/\m[i * 2 + 1]? = some (.int .i64 g.2)/\aU w c0 g.1
 | [],m,gs,hx,hv=>by
  simp only [kx,Option.some.injEq] at hx
  subst hx
  simp only [ao] at hv
  subst hv
  simp
 | [_],_,_,hx,_=>by simp [kx] at hx
 | a :: b :: l,m,gs,hx,hv=>by
  obtain ⟨n,rfl⟩:∃ n,b = .i .i64 n:=by
   cases b with
   | i k n=>cases k with
    | i64=>exact ⟨n,rfl⟩
    | _=>simp [kx] at hx
   | _=>simp [kx] at hx
  simp only [kx] at hx
  split at hx
  ·next g r hg hr =>
   simp only [Option.some.injEq] at hx
   subst hx
   simp only [ao,VR] at hv
   obtain ⟨y0,_,rfl,g0,y1,m',rfl,rfl,hl⟩:=hv
   obtain ⟨k1,k2⟩:=xw h hr hl
   refine ⟨by simp [k1]; omega,fun i g' hg'=>?_⟩
   cases i with
   | zero =>
    simp at hg'
    subst hg'
    exact ⟨y0,rfl,rfl,xj h hg g0⟩
   | succ i =>
    obtain ⟨c0,e0,e1,e3⟩:=k2 i g' (by simpa using hg')
    refine ⟨c0,?_,?_,e3⟩
    ·rw [show (i + 1) * 2 = i * 2 + 1 + 1 by omega]; simpa using e0
    rw [show (i + 1) * 2 + 1 = i * 2 + 1 + 1 + 1 by omega]; simpa using e1
  cases hx
theorem CQ (h:bA μ s w) {x:AV} {v:Value} {gs:List Gr} (hx:ri s x = some gs)(hv:VR μ x v):eI w v gs:=by
 unfold ri at hx
 split at hx
 ·next l hl =>
  obtain ⟨hc,hx⟩:=aj hx
  obtain ⟨n,m,h1,h2,h3⟩:=m7 h (by omega) hl hv hc
  obtain ⟨g1,g2⟩:=xw h hx h2
  have hn:n = gs.length:=by have:=h2.length; omega
  subst hn
  exact ⟨m,h1,g2⟩
 cases hx
theorem wy (h:bA μ s w) {x:AV} {v:Value} {q:Rat} (hx:lQ x = some q)(hv:VR μ x v):az 64 w v q:=by
 unfold lQ at hx
 simp only [Option.bind_eq_some_iff] at hx
 obtain ⟨⟨neg,n,d⟩,h1,h2⟩:=hx
 obtain ⟨hc,h2⟩:=aj h2
 cases h2
 simp only [Bool.and_eq_true,Nat.blt_eq] at hc
 unfold kh at h1
 split at h1
 ·next neg' xn xd =>
  split at h1
  ·next n' d' hn hd =>
   obtain ⟨_,h1⟩:=aj h1
   cases h1
   simp only [VR,ao] at hv
   obtain ⟨l,rfl,y0,_,rfl,rfl,y1,_,rfl,hv1,y2,_,rfl,hv2,rfl⟩:=hv
   obtain ⟨l1,a1,a2,a3⟩:=qf h hn hc.1 (by omega) hv1
   obtain ⟨l2,b1,b2,b3⟩:=qf h hd hc.2 (by omega) hv2
   exact ⟨neg,y1,y2,l1,l2,rfl,a1,b1,by rw [a2,b2],a2 ▸ hc.1,b2 ▸ hc.2,a3,b3⟩
  cases h1
 cases h1
theorem wu (h:bA μ s w):∀ {l:List AV} {m:List Value} {qs:List Rat},m8 l = some qs->ao μ l m->m.length = qs.length * 3/\∀ (i:Nat) (q:Rat),qs[i]? = some q->∃ c0 c1 c2,m[i * 3]? = some c0/\m[i * 3 + 1]? = some c1/\m[i * 3 + 2]? = some c2/\az 64 w (.agg #[c0,c1,c2]) q
 | [],m,qs,hx,hv=>by
  simp only [m8,Option.some.injEq] at hx
  subst hx
  simp only [ao] at hv
  subst hv
  simp
 | [_],_,_,hx,_ | [_,_],_,_,hx,_=>by simp [m8] at hx
 | a :: b :: c :: l,m,qs,hx,hv=>by
  simp only [m8] at hx
  split at hx
  ·next q r hq hr =>
   simp only [Option.some.injEq] at hx
   subst hx
   simp only [ao] at hv
   obtain ⟨y0,_,rfl,g0,y1,_,rfl,g1,y2,m',rfl,g2,hl⟩:=hv
   obtain ⟨k1,k2⟩:=wu h hr hl
   refine ⟨by simp [k1]; omega,fun i q' hq'=>?_⟩
   cases i with
   | zero =>
    simp at hq'
    subst hq'
    exact ⟨y0,y1,y2,rfl,rfl,rfl,wy h hq (v:=.agg #[y0,y1,y2]) (by simp only [VR]; exact ⟨[y0,y1,y2],rfl,ao.cons g0 (ao.cons g1 (ao.cons g2 ao.nil_))⟩)⟩
   | succ i =>
    obtain ⟨c0,c1,c2,e0,e1,e2,e3⟩:=k2 i q' (by simpa using hq')
    refine ⟨c0,c1,c2,?_,?_,?_,e3⟩
    ·rw [show (i + 1) * 3 = i * 3 + 1 + 1 + 1 by omega]; simpa using e0
    ·rw [show (i + 1) * 3 + 1 = i * 3 + 1 + 1 + 1 + 1 by omega]; simpa using e1
    rw [show (i + 1) * 3 + 2 = i * 3 + 2 + 1 + 1 + 1 by omega]; simpa using e2
  cases hx
theorem ww (h:bA μ s w) {x:AV} {v:Value} {qs:List Rat} (hx:jH s x = some qs)(hv:VR μ x v):bz 64 w v qs:=by
 unfold jH at hx
 split at hx
 ·next l hl =>
  obtain ⟨hc,hx⟩:=aj hx
  obtain ⟨n,m,h1,h2,h3⟩:=m7 h (by omega) hl hv hc
  obtain ⟨g1,g2⟩:=wu h hx h2
  have hn:n = qs.length:=by have:=h2.length; omega
  subst hn
  exact ⟨m,h1,g2⟩
 cases hx
theorem xh (h:bA μ s w) {x:AV} {v:Value} {O V:Int} {gs:List Gr} {k:Int} {a:Rat} {mix:List Rat} (hx:s5 s x = some (O,V,gs,k,a,mix))(hv:VR μ x v) :
  ∃ lv b A A' m c m' c' mv,v = gL O V lv k b A A' m c m' c' mv/\iG w lv gs b A A' m c m' c' a mv mix:=by
 unfold s5 at hx
 split at hx
 ·next O' V' lv k' neg x y mx =>
  split at hx
  ·next gs' a' mix' hg ha hm =>
   obtain ⟨hc,hx⟩:=aj hx
   simp only [Nat.ble_eq] at hc
   simp only [Option.some.injEq,Prod.mk.injEq] at hx
   obtain ⟨rfl,rfl,rfl,rfl,rfl,rfl⟩:=hx
   simp only [VR,ao] at hv
   obtain ⟨l,rfl,y0,_,rfl,rfl,y1,_,rfl,rfl,y2,_,rfl,h2,y3,_,rfl,rfl,y4,_,rfl,rfl,y5,_,rfl,h5,y6,_,rfl,h6,y7,_,rfl,h7,rfl⟩:=hv
   have a1:=wy h ha (v:=.agg #[.bool neg,y5,y6]) (by simp only [VR]; exact ⟨[_,y5,y6],rfl,ao.cons (by simp [VR]) (ao.cons h5 (ao.cons h6 ao.nil_))⟩)
   obtain ⟨s',A,n,cn,A',n',cn',e1,rfl,rfl⟩:=a1.cells3
   exact ⟨y2,neg,A,A',n,cn,n',cn',y7,rfl,CQ h hg h2,a1,ww h hm h7,hc⟩
  cases hx
 cases hx

def gp (args:List AV) (s:St):Option (AV × St) :=
 match args with
 | [x]=>(s5 s x).map fun (O,V,gs,k,a,mix)=>(.i .i64 (bt O V gs k a mix),s)
 | _=>none
theorem tB {f:FuncId} (hco:cP P f = true)(hC:∀ (w:World) (O V:Int) (lv:Value) (gs:List Gr) (k:Int) (s:Bool) (A A':Option Addr) (m c m' c':Nat) (mv:Value) (a:Rat) (mix:List Rat),iG w lv gs s A A' m c m' c' a mv mix->Calls P f #[gL O V lv k s A A' m c m' c' mv] w fun e w'=>e = .returned (.int .i64 (bt O V gs k a mix))/\Below w.heap.size w w'):ag P f gp:=by
 intro args s v s' h
 unfold gp at h
 split at h
 ·next x =>
  simp only [Option.map_eq_some_iff] at h
  obtain ⟨⟨O,V,gs,k,a,mix⟩,hq,h⟩:=h
  simp only [Prod.mk.injEq] at h
  obtain ⟨rfl,rfl⟩:=h
  refine ⟨⟨fL hco,Nat.le_refl _,id⟩,?_⟩
  intro μ w vs n hR hvs hF
  simp only [ao] at hvs
  obtain ⟨y,_,rfl,ha,rfl⟩:=hvs
  obtain ⟨lv,b,A,A',m,c,m',c',mv,rfl,hL⟩:=xh hR hq ha
  exact kR hR (by simp [VR]) (hC w O V lv gs k b A A' m c m' c' mv a mix hL)
 cases h
theorem AR {μ':Mu} {n:Nat} {v:Value} (hn:∀ b i u,w'.cell? ⟨b,i,none⟩ = some u->fy u = false->μ'.fz b i = some u)(h:ab w' v n):VR μ' (.num n) v:=by
 obtain ⟨l,⟨⟨h0,A,c,rfl,h1,h2,h3⟩,h4⟩,h5,h6⟩:=h
 simp only [VR]
 refine ⟨l,h5,h6,h4,A,c,rfl,h1,h2,fun hpos=>?_⟩
 obtain ⟨b,off,rfl,hlt,hc⟩:=h3 hpos
 refine ⟨b,off,rfl,fun i u hu=>hn _ _ _ (hc i u hu) ?_⟩
 rw [List.getElem?_map,Option.map_eq_some_iff] at hu
 obtain ⟨d,_,rfl⟩:=hu
 rfl
theorem Jt {μ':Mu} {q:Rat} {s:Bool} {x y:Value} (hn:∀ b i u,w'.cell? ⟨b,i,none⟩ = some u->fy u = false->μ'.fz b i = some u)(h:cJ w' (.agg #[.bool s,x,y]) q):ao μ' (gN q) [.bool s,x,y]:=by
 obtain ⟨vn,vd,e,h1,h2⟩:=h
 simp only [Value.agg.injEq] at e
 have e:[Value.bool s,x,y] = [.bool (ap q),vn,vd]:=by simpa using congrArg Array.toList e
 rw [e]
 exact ao.cons (by simp [VR]) (ao.cons (AR hn h1) (ao.cons (AR hn h2) ao.nil_))
theorem Lv {μ':Mu} {B b:Nat} {qs:List Rat} (hn:∀ b i u,B <= b->w'.cell? ⟨b,i,none⟩ = some u->yB u = false->μ'.fz b i = some u)(hd:∀ b i u,w'.cell? ⟨b,i,none⟩ = some u->fy u = false->μ'.fz b i = some u)(h:eA w' b qs)(hb:B <= b)(hl:qs.length <= maxLen) :
  VR μ' (.vw (fr qs) qs.length) (.slice (some ⟨b,0,none⟩) qs.length qs.length):=by
 obtain ⟨xs,h1,h2,h3,h4⟩:=h
 have hxm:∀ v ∈ xs,yB v = false:=fun v hv=>by
  obtain ⟨i,hi⟩:=List.mem_iff_getElem?.1 hv
  have hlt:=(List.getElem?_eq_some_iff.1 hi).1
  obtain ⟨q,hq⟩:∃ q,qs[i / 3]? = some q:=⟨_,List.getElem?_eq_getElem (by omega)⟩
  obtain ⟨A,m,c,A',m',c',e0,e1,e2,e3⟩:=h4 _ q hq
  have:i = i / 3 * 3 ∨ i = i / 3 * 3 + 1 ∨ i = i / 3 * 3 + 2:=by omega
  rcases this with e | e | e <;> (rw [e] at hi)
  ·rw [e0] at hi; cases hi; rfl
  ·rw [e1] at hi; cases hi; rfl
  rw [e2] at hi; cases hi; rfl
 simp only [VR]
 refine ⟨xs,⟨_,_,rfl,Nat.le_refl _,hl,fun _=>⟨b,0,rfl,fun i v hi=>hn _ _ _ hb (by rw [Nat.zero_add,h1.cell]; exact hi) (hxm v (List.mem_of_getElem? hi))⟩⟩,?_⟩
 refine ao.of_get (by rw [Fv,h2]) fun i x hx=>?_
 have hi:=(List.getElem?_eq_some_iff.1 hx).1
 rw [Fv] at hi
 obtain ⟨q,hq⟩:∃ q,qs[i / 3]? = some q:=⟨_,List.getElem?_eq_getElem (by omega)⟩
 obtain ⟨A,m,c,A',m',c',e0,e1,e2,e3⟩:=h4 _ q hq
 have hv:=Jt (μ':=μ'.blind) (fun b i u a c=>hd b i u a c) e3
 have hx':(gN q)[i % 3]? = some x:=by
  rw [<- hx,show i = i / 3 * 3 + i % 3 by omega]
  have:=fJ gM qs (i / 3) (i % 3) (Nat.mod_lt _ (by omega))
  rw [hq] at this
  rw [show (i / 3 * 3 + i % 3) % 3 = i % 3 by omega]
  exact this.symm
 obtain ⟨y,hy,hvy⟩:=hv.get hx'
 refine ⟨y,?_,hvy⟩
 rw [<- hy]
 have:i % 3 = 0 ∨ i % 3 = 1 ∨ i % 3 = 2:=by omega
 rcases this with e | e | e
 ·rw [e,show i = i / 3 * 3 by omega,e0]; rfl
 ·rw [e,show i = i / 3 * 3 + 1 by omega,e1]; rfl
 rw [e,show i = i / 3 * 3 + 2 by omega,e2]; rfl
def Bf (ok:Int->Bool) (row:Int->Nat->List Gr->Nat->Rat->List Rat->List Int->List Rat) (args:List AV) (s:St):Option (AV × St) :=
 match args with
 | [x,y]=>match s5 s x,ti s y with
  | some (O,V,gs,k,a,mix),some hl =>
   cond (decide (0 <= O) && decide (0 <= V) && decide (V <= 8) && ok k && decide (jI O V gs k a mix hl = 0))
    (some (.tup [.vw (fr (row k O.toNat gs V.toNat a mix hl)) (V.toNat + 1),.i .i64 0],s)) none
  | _,_=>none
 | _=>none
theorem Fn {f:FuncId} (hco:cP P f = true) {ok:Int->Bool} {row:Int->Nat->List Gr->Nat->Rat->List Rat->List Int->List Rat} (hlen:∀ k O gs v a mix hl,(row k O gs v a mix hl).length = v + 1)
  (hC:∀ (w:World) (O v:Nat) (lv:Value) (gs:List Gr) (k:Int) (s:Bool) (A A':Option Addr) (m c m' c':Nat) (mv:Value) (a:Rat) (mix:List Rat)(hv:Value)(hl:List Int),ok k = true->iG w lv gs s A A' m c m' c' a mv mix->aU w hv hl->jI O v gs k a mix hl = 0->v <= 8 ->
  Calls P f #[gL O v lv k s A A' m c m' c' mv,hv] w (Ks w v (row k O gs v a mix hl))):ag P f (Bf ok row):=by
 intro args s v s' h
 unfold Bf at h
 split at h
 ·next x y =>
  split at h
  ·next O V gs k a mix hl hq hi =>
   obtain ⟨hc,h1⟩:=aj h
   clear h
   simp only [Bool.and_eq_true,decide_eq_true_eq] at hc
   obtain ⟨⟨⟨⟨c1,c2⟩,c3⟩,ck⟩,c5⟩:=hc
   simp only [Option.some.injEq,Prod.mk.injEq] at h1
   obtain ⟨rfl,rfl⟩:=h1
   refine ⟨⟨fL hco,Nat.le_refl _,id⟩,?_⟩
   intro μ w vs n hR hvs hF
   simp only [ao] at hvs
   obtain ⟨x',_,rfl,ha,y',_,rfl,hb,rfl⟩:=hvs
   obtain ⟨lv,b,A,A',m,c,m',c',mv,rfl,hL⟩:=xh hR hq ha
   have hI:=xj hR hi hb
   obtain ⟨O,rfl⟩:=Int.eq_ofNat_of_zero_le c1
   obtain ⟨V,rfl⟩:=Int.eq_ofNat_of_zero_le c2
   simp only [Int.toNat_natCast] at hF ⊢
   refine CallsIn.mono (callsIn_wide.2 (hC w O V lv gs k b A A' m c m' c' mv a mix y' hl ck hL hI c5 (by omega))) ?_
   rintro e w' ⟨b',rfl,h1,h2,h3⟩
   have hl':=hlen k O gs V a mix hl
   obtain ⟨μ',r,t,n1,_,d1⟩:=ky hR h3
   have hv:=Lv (fun b i u hb hc hm=>n1 b i u hb (fI hc hm)) d1 h2 h1 (by rw [hl']; unfold maxLen; omega)
   rw [hl'] at hv
   exact ⟨_,μ',rfl,r,t,by simp only [VR]; exact ⟨[_,.int .i64 0],rfl,ao.cons hv (ao.cons (by simp [VR]) ao.nil_)⟩⟩
  cases h
 cases h
end
theorem ul:ag Tryz.prog 96 gp:=tB (by kernel_rfl) Bq
def Na (k:Int):Bool:=decide (k = 1)
def zD (_:Int) (O:Nat) (gs:List Gr) (v:Nat) (a:Rat) (_:List Rat)(hl:List Int):List Rat:=rR (MJ O gs O hl) v a
theorem zA:ag Tryz.prog 114 (Bf Na zD):=Fn (by kernel_rfl) (fun _ _ _ _ _ _ _=>by simp [zD,rR]) fun w O v lv gs k s A A' m c m' c' mv a mix hv hl hk h1 h2 h3 h4=>by
 have hk:=of_decide_eq_true hk
 subst hk
 exact ED w O v lv gs s A A' m c m' c' mv a mix hv hl h1 h2 h3 h4
end
def xf:AV->Nat
 | .vw _ n=>n
 | _=>0
def xM:AV->Bool
 | .vw c _=>aE c
 | .snil=>true
 | _=>false
theorem xL {x:AV} (h:xM x = true):CG x = some (.i .i64 (xf x)):=by
 cases x <;> first | rfl | simp [xM] at h
theorem bv {x:AV} (h:xM x = true):bare x = true/\flat x = true:=by
 cases x <;> first | exact ⟨rfl,rfl⟩ | simp [xM] at h
theorem oS (E:Ev) (f:FuncId) (cs asn:List AV) (s:St):rL E (.fn f [] cs) asn s = E.call f (asn ++ cs) s:=by simp [rL]
noncomputable def relV (R:List AV->AV->Prop) (args:List AV):Option AV:=by
 classical exact if h:∃ v,R args v then some h.choose else none
theorem Hx {R:List AV->AV->Prop} {args:List AV} {v:AV} (hu:∀ v',R args v'->v' = v)(h:R args v):relV R args = some v:=by
 unfold relV
 have hex:∃ v,R args v:=⟨v,h⟩
 rw [dif_pos hex]
 exact congrArg some (hu _ hex.choose_spec)
theorem dI {R:List AV->AV->Prop} {args:List AV} {v:AV} (h:relV R args = some v):R args v:=by
 unfold relV at h
 split at h
 ·next hex =>
  have e:hex.choose = v:=Option.some.inj h
  rw [<- e]
  exact hex.choose_spec
 cases h
noncomputable def relS (R:List AV->St->AV->St->Prop) (args:List AV) (s:St):Option (AV × St):=by
 classical exact if h:∃ p:AV × St,R args s p.1 p.2 then some h.choose else none
theorem Hy {R:List AV->St->AV->St->Prop} {args:List AV} {s s':St} {v:AV} (hu:∀ v' s2,R args s v' s2->v' = v/\s2 = s')(h:R args s v s'):relS R args s = some (v,s'):=by
 unfold relS
 have hex:∃ p:AV × St,R args s p.1 p.2:=⟨(v,s'),h⟩
 rw [dif_pos hex]
 have:=hu _ _ hex.choose_spec
 exact congrArg some (Prod.ext this.1 this.2)
theorem Cs {R:List AV->St->AV->St->Prop} {args:List AV} {s s':St} {v:AV} (h:relS R args s = some (v,s')):R args s v s':=by
 unfold relS at h
 split at h
 ·next hex =>
  have e:hex.choose = (v,s'):=Option.some.inj h
  have:=hex.choose_spec
  rw [e] at this
  exact this
 cases h
theorem aA.mono {P:Program} {fn:Func} {Q Q':AV->St->Prop} (h:∀ v s,Q v s->Q' v s) {ex:Ex} {fr:Fr} {s:St} (hd:aA P fn Q ex fr s):aA P fn Q' ex fr s:=by
 unfold aA at hd ⊢
 obtain ⟨h1,h2,l,h3,h4⟩:=hd
 refine ⟨h1,h2,l,h3,?_⟩
 split at h4
 ·exact h _ _ h4
 exact h _ _ h4
end Go.Proofs.YtkdhppimhdemjaaGreat
