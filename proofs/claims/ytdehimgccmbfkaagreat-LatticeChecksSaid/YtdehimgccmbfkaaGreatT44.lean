/- Lemmas on the way: La1, Wy1, TbQ, Rw1, Rw2. -/
import Derived.Test.YtdehimgccmbfkaaGreatT43
set_option linter.all false
set_option maxRecDepth 1000000
set_option maxHeartbeats 32000000
namespace Go.Proofs.YtdehimgccmbfkaaGreat
open Go.RowKit
def checkE (O V:Int) (gs:List Gr) (k:Int) (a:Rat) (mix:List Rat):Int:=if tableE O V gs ≠ 0 then tableE O V gs else if validB k a mix O then 0 else 2
structure LangAt (w:World) (lv:Value) (gs:List Gr) (s:Bool) (A A':Option Addr) (m c m' c':Nat) (a:Rat) (mv:Value) (mix:List Rat):Prop where
 grams:GramsAt w lv gs
 amount:FracAt 64 w (.agg #[.bool s,.slice A m c,.slice A' m' c']) a
 mixes:FracsAt 64 w mv mix
 short:mix.length <= 1000000
theorem LangAt.below {w w':World} {lv:Value} {gs:List Gr} {s:Bool} {A A':Option Addr} {m c m' c':Nat} {a:Rat} {mv:Value} {mix:List Rat} (h:LangAt w lv gs s A A' m c m' c' a mv mix)(hb:Below w.heap.size w w'):LangAt w' lv gs s A A' m c m' c' a mv mix :=
 ⟨h.grams.below hb,h.amount.below hb,h.mixes.below hb,h.short⟩
theorem tableE_ok {O V:Int} {gs:List Gr} (h:tableE O V gs = 0):gs.length <= 20000/\sizesB O V = true/\∀ i,i < gs.length->goodAt O V gs i = true:=by
 unfold tableE at h
 split at h
 ·cases h
 split at h
 ·next h1 h2=>exact ⟨by omega,h2.1,fun i hi=>List.all_eq_true.1 h2.2 i (List.mem_range.2 hi)⟩
 cases h
theorem sizes_ok {O V:Int} (h:sizesB O V = true):1 <= O/\O <= 4/\1 <= V/\V <= 2000:=by
 unfold sizesB at h
 simp only [Bool.and_eq_true,decide_eq_true_eq] at h
 omega

theorem checkLG (w:World) (O V:Int) (lv:Value) (gs:List Gr) (k:Int) (s:Bool) (A A':Option Addr) (m c m' c':Nat) (mv:Value) (a:Rat) (mix:List Rat)(h:LangAt w lv gs s A A' m c m' c' a mv mix) :
  Calls Tryz.prog 127 #[langV O V lv k s A A' m c m' c' mv] w fun e w'=>e = .returned (.int .i64 (checkE O V gs k a mix))/\Below w.heap.size w w':=by
 obtain ⟨Al,cl,rfl,_,_,_⟩:=h.grams.open_
 obtain ⟨Am,cm,rfl,_,_,_⟩:=h.mixes.open_
 have HL:=Lib.hid h
 clear h
 unfold langV
 go_enter Tryz.func127,Tryz.ntmps127
 go_wp2_with fail
 obtain ⟨W,hW,P0,PB,Phs⟩:=box1 w 34 [.int .i64 O,.int .i64 V,.slice Al gs.length cl,.int .i64 k,.bool s,.slice A m c,.slice A' m' c',.slice Am mix.length cm]
 rw [<- hW]
 clear hW
 obtain ⟨p0,p1,p2,p3,p4,p5,p6,p7⟩:=eight P0.out
 go_wp2_with fail
 refine (checkTableG W O V _ gs (HL.out.grams.below PB.out)).mono ?_
 rintro e w1 ⟨rfl,hb1⟩
 have P1:=Lib.hid (P0.out.below' hb1)
 have B1:=Lib.hid (PB.out.trans (hb1.mono PB.out.size))
 clear p0 p1 p2 p3 p4 p5 p6 p7 hb1 P0 PB
 obtain ⟨p0,p1,p2,p3,p4,p5,p6,p7⟩:=eight P1.out
 obtain ⟨te,hte⟩:∃ z,tableE O V gs = z:=⟨_,rfl⟩
 rw [hte]
 have HTE:=Lib.hid hte
 clear hte
 by_cases h0:te = 0
 ·subst h0
  have HO:=sizes_ok (tableE_ok HTE.out).2.1
  go_wp2_with fail
  refine (validG w1 O V (.slice Al gs.length cl) k s A A' m c m' c' _ a mix (HL.out.amount.below B1.out) (HL.out.mixes.below B1.out) HL.out.short (by omega) _ _ _ rfl).mono ?_
  rintro e w2 ⟨rfl,hb2⟩
  have B2:=Lib.hid (B1.out.trans (hb2.mono B1.out.size))
  obtain ⟨vb,hvb⟩:∃ b,validB k a mix O = b:=⟨_,rfl⟩
  rw [hvb]
  have HE:Hid (checkE O V gs k a mix = if vb = true then 0 else 2):=Lib.hid (by unfold checkE; rw [HTE.out,hvb]; rfl)
  clear hb2 hvb
  cases vb
  all_goals
   go_wp2_with fail
   go_ret
   exact ⟨ret_i64 HE.out.symm,B2.out⟩
 have e1:(te != 0) = true:=by simpa using h0
 have HE:Hid (checkE O V gs k a mix = te):=Lib.hid (by unfold checkE; rw [HTE.out,if_pos h0])
 clear h0
 go_wp2_with fail
 go_ret
 exact ⟨ret_i64 HE.out.symm,B1.out⟩

def histE (O V:Int) (gs:List Gr) (k:Int) (a:Rat) (mix:List Rat)(h:List Int):Int :=
 if checkE O V gs k a mix ≠ 0 then checkE O V gs k a mix else if (h.length:Int) = O - 1/\inR 0 V h = true then 0 else 2

theorem checkHistG (w:World) (O V:Int) (lv:Value) (gs:List Gr) (k:Int) (s:Bool) (A A':Option Addr) (m c m' c':Nat) (mv:Value) (a:Rat) (mix:List Rat)(hv:Value)(hl:List Int)(h:LangAt w lv gs s A A' m c m' c' a mv mix)(hh:IntsAt w hv hl) :
  Calls Tryz.prog 187 #[langV O V lv k s A A' m c m' c' mv,hv] w fun e w'=>e = .returned (.int .i64 (histE O V gs k a mix hl))/\Below w.heap.size w w':=by
 obtain ⟨Al,cl,rfl,_,_,_⟩:=h.grams.open_
 obtain ⟨Am,cm,rfl,_,_,_⟩:=h.mixes.open_
 obtain ⟨Ah,ch,rfl,hlc,hcm,_⟩:=hh.open_
 have HL:=Lib.hid h
 have HI:=Lib.hid hh
 obtain ⟨n,hn⟩:∃ n,hl.length = n:=⟨_,rfl⟩
 rw [hn] at hlc HI ⊢
 have HN:=Lib.hid hn
 clear h hh hn
 unfold langV
 go_enter Tryz.func187,Tryz.ntmps187
 go_wp2_with fail
 obtain ⟨W,hW,P0,PB,Phs⟩:=box1 w 34 [.int .i64 O,.int .i64 V,.slice Al gs.length cl,.int .i64 k,.bool s,.slice A m c,.slice A' m' c',.slice Am mix.length cm]
 rw [<- hW]
 clear hW
 obtain ⟨p0,p1,p2,p3,p4,p5,p6,p7⟩:=eight P0.out
 go_wp2_with fail
 refine (checkLG W O V (.slice Al gs.length cl) gs k s A A' m c m' c' (.slice Am mix.length cm) a mix (HL.out.below PB.out)).mono ?_
 rintro e w1 ⟨rfl,hb1⟩
 have P1:=Lib.hid (P0.out.below' hb1)
 have B1:=Lib.hid (PB.out.trans (hb1.mono PB.out.size))
 clear p0 p1 p2 p3 p4 p5 p6 p7 hb1 P0 PB
 obtain ⟨p0,p1,p2,p3,p4,p5,p6,p7⟩:=eight P1.out
 obtain ⟨te,hte⟩:∃ z,checkE O V gs k a mix = z:=⟨_,rfl⟩
 rw [hte]
 have HTE:=Lib.hid hte
 clear hte
 by_cases h0:te = 0
 ·subst h0
  have HO:1 <= O/\O <= 4:=by
   have h1:tableE O V gs = 0:=by
    have:=HTE.out
    unfold checkE at this
    by_cases e:tableE O V gs = 0
    ·exact e
    rw [if_pos e] at this; exact this
   have:=sizes_ok (tableE_ok h1).2.1
   omega
  by_cases h2:(n:Int) = O - 1
  ·have e2:((n:Int) != O - 1) = false:=by simpa using h2
   obtain ⟨ib,hib⟩:∃ b,inR 0 V hl = b:=⟨_,rfl⟩
   have HE:Hid (histE O V gs k a mix hl = if ib = true then 0 else 2):=Lib.hid (by
    unfold histE
    rw [HTE.out,hib,HN.out]
    simp [h2])
   have HIB:=Lib.hid hib
   clear h2 hib
   go_wp2_with fail
   refine (withinG w1 _ hl 0 V (HI.out.below B1.out)).mono ?_
   rintro e w2 ⟨rfl,hb2⟩
   have B2:=Lib.hid (B1.out.trans (hb2.mono B1.out.size))
   rw [HIB.out]
   clear hb2
   cases ib
   all_goals
    go_wp2_with fail
    go_ret
    exact ⟨ret_i64 HE.out.symm,B2.out⟩
  have e2:((n:Int) != O - 1) = true:=by simpa using h2
  have HE:Hid (histE O V gs k a mix hl = 2):=Lib.hid (by
   unfold histE
   rw [HTE.out,HN.out]
   simp [h2])
  clear h2
  go_wp2_with fail
  go_ret
  exact ⟨ret_i64 HE.out.symm,B1.out⟩
 have e1:(te != 0) = true:=by simpa using h0
 have HE:Hid (histE O V gs k a mix hl = te):=Lib.hid (by unfold histE; rw [HTE.out,if_pos h0])
 clear h0
 go_wp2_with fail
 go_ret
 exact ⟨ret_i64 HE.out.symm,B1.out⟩
theorem LvsAt.set_ {w:World} {b O n:Nat} {gs:List (List Int × Int)} (h:LvsAt w b O n gs) {g:Nat} {e:TypeId} {ys:List Value} (hb:Blk w g e ys)(he:e ≠ 302) {o:Nat} {u0:Value} (hc:w.cell? ⟨g,o,none⟩ = some u0) (u:Value):LvsAt (w.setCell ⟨g,o,none⟩ u) b O n gs:=by
 obtain ⟨xs,h1,h2,h3⟩:=h
 have hne:b ≠ g:=by
  intro e'
  subst e'
  unfold Blk at h1 hb
  rw [h1] at hb
  cases hb
  exact he rfl
 refine ⟨xs,h1.far (p:=⟨g,o,none⟩) hne u,h2,fun j hj hj'=>?_⟩
 obtain ⟨bj,base,S,e1,hl,hr⟩:=h3 j hj hj'
 exact ⟨bj,base,S,e1,hl.far hc _,hr⟩

def wayV (k:Int) (b O v:Nat) (s:Bool) (A A':Option Addr) (m c m' c':Nat) (mv:Value):Value :=
 if k = 2 then .iface 281 (.agg #[.slice (some ⟨b,0,none⟩) (O + 1) (O + 1),.int .i64 ((v:Int) + 1),mv])
 else if k = 3 then .iface 283 (.agg #[.slice (some ⟨b,0,none⟩) (O + 1) (O + 1),.int .i64 ((v:Int) + 1),.bool s,.slice A m c,.slice A' m' c'])
 else if k = 4 then .iface 285 (.agg #[.slice (some ⟨b,0,none⟩) (O + 1) (O + 1),.int .i64 ((v:Int) + 1)])
 else .iface 286 (.agg #[.slice (some ⟨b,0,none⟩) (O + 1) (O + 1),.int .i64 ((v:Int) + 1),.bool s,.slice A m c,.slice A' m' c'])
def GoodT (O:Nat) (gs:List Gr):Prop:=(∀ g ∈ gs,g.1.length = O/\(∀ x ∈ g.1,0 <= x/\x <= 1000000)/\0 < g.2/\g.2 <= 1073741824)/\(1 <= O/\O <= 4)/\gs.length <= 20000/\(gs.map Prod.fst).Nodup

theorem wayG (w:World) (O v:Nat) (lv:Value) (gs:List Gr) (k:Int) (s:Bool) (A A':Option Addr) (m c m' c':Nat) (Am:Option Addr) (nm cm:Nat)(h:GramsAt w lv gs)(hn:GoodT O gs)(hv:v <= 2000) :
  Calls Tryz.prog 188 #[langV O v lv k s A A' m c m' c' (.slice Am nm cm)] w fun e w'=>∃ b,e = .returned (wayV k b O v s A A' m c m' c' (.slice Am nm cm))/\LvsAt w' b O 0 gs/\Below w.heap.size w w':=by
 obtain ⟨Al,cl,rfl,_,_,_⟩:=h.open_
 have HL:=Lib.hid h
 have HN:=Lib.hid hn
 clear h hn
 unfold langV
 go_enter Tryz.func188,Tryz.ntmps188
 go_wp2_with fail
 obtain ⟨W,hW,P0,P1,PB,Phs⟩:=box2 w 34 [.int .i64 O,.int .i64 v,.slice Al gs.length cl,.int .i64 k,.bool s,.slice A m c,.slice A' m' c',.slice Am nm cm] 278 [.slice none 0 0,.int .i64 ((v:Int) + 1)]
 rw [<- hW]
 clear hW
 obtain ⟨p0,p1,p2,p3,p4,p5,p6,p7⟩:=eight P0.out
 go_wp2_with fail
 refine (levelsG W O v (.slice Al gs.length cl) gs (HL.out.below PB.out) HN.out.1 HN.out.2.1 HN.out.2.2.1 HN.out.2.2.2).mono ?_
 rintro e w1 ⟨b,rfl,hlv,hb1⟩
 have LV:=Lib.hid hlv
 have P2:=Lib.hid (P0.out.below' hb1)
 have P3:=Lib.hid (P1.out.below' hb1)
 have B1:=Lib.hid (PB.out.trans (hb1.mono PB.out.size))
 clear p0 p1 p2 p3 p4 p5 p6 p7 hlv hb1 P0 P1 PB
 have q0:=P3.out.cell 0
 have q1:=P3.out.cell 1
 have z0:=P3.out.frozen 0
 simp only [List.getElem?_cons_zero,List.getElem?_cons_succ] at q0 q1
 obtain ⟨p0,p1,p2,p3,p4,p5,p6,p7⟩:=eight P2.out
 by_cases h2:k = 2
 ·subst h2
  have WV:Hid (Ending.returned (.iface 281 (.agg #[.slice (some ⟨b,0,none⟩) (O + 1) (O + 1),.int .i64 ((v:Int) + 1),.slice Am nm cm])) = Ending.returned (wayV 2 b O v s A A' m c m' c' (.slice Am nm cm))):=Lib.hid (by unfold wayV; rw [if_pos rfl])
  go_wp2_with fail
  go_ret
  exact ⟨b,WV.out,LV.out.set_ P3.out (by decide) q0 _,B1.out.setCell (p:=⟨w.heap.size + 1,0,none⟩) (by show w.heap.size <= w.heap.size + 1; omega) _⟩
 have n2:(k == 2) = false:=by simpa using h2
 by_cases h3:k = 3
 ·subst h3
  have WV:Hid (Ending.returned (.iface 283 (.agg #[.slice (some ⟨b,0,none⟩) (O + 1) (O + 1),.int .i64 ((v:Int) + 1),.bool s,.slice A m c,.slice A' m' c'])) = Ending.returned (wayV 3 b O v s A A' m c m' c' (.slice Am nm cm))):=Lib.hid (by unfold wayV; rw [if_neg (by decide),if_pos rfl])
  clear h2 n2
  go_wp2_with fail
  go_ret
  exact ⟨b,WV.out,LV.out.set_ P3.out (by decide) q0 _,B1.out.setCell (p:=⟨w.heap.size + 1,0,none⟩) (by show w.heap.size <= w.heap.size + 1; omega) _⟩
 have n3:(k == 3) = false:=by simpa using h3
 by_cases h4:k = 4
 ·subst h4
  have WV:Hid (Ending.returned (.iface 285 (.agg #[.slice (some ⟨b,0,none⟩) (O + 1) (O + 1),.int .i64 ((v:Int) + 1)])) = Ending.returned (wayV 4 b O v s A A' m c m' c' (.slice Am nm cm))):=Lib.hid (by unfold wayV; rw [if_neg (by decide),if_neg (by decide),if_pos rfl])
  clear h2 n2 h3 n3
  go_wp2_with fail
  go_ret
  exact ⟨b,WV.out,LV.out.set_ P3.out (by decide) q0 _,B1.out.setCell (p:=⟨w.heap.size + 1,0,none⟩) (by show w.heap.size <= w.heap.size + 1; omega) _⟩
 have n4:(k == 4) = false:=by simpa using h4
 have WV:Hid (Ending.returned (.iface 286 (.agg #[.slice (some ⟨b,0,none⟩) (O + 1) (O + 1),.int .i64 ((v:Int) + 1),.bool s,.slice A m c,.slice A' m' c'])) = Ending.returned (wayV k b O v s A A' m c m' c' (.slice Am nm cm))):=Lib.hid (by unfold wayV; rw [if_neg h2,if_neg h3,if_neg h4])
 clear h2 h3 h4
 go_wp2_with fail
 go_ret
 exact ⟨b,WV.out,LV.out.set_ P3.out (by decide) q0 _,B1.out.setCell (p:=⟨w.heap.size + 1,0,none⟩) (by show w.heap.size <= w.heap.size + 1; omega) _⟩
theorem ordL_self (a:List Int):ordL a a = 0:=by
 induction a with
 | nil=>rfl
 | cons x a ih=>simp only [ordL,if_true]; exact ih
theorem ordL_lt_trans {a b c:List Int} (h1:a.length = b.length)(h2:b.length = c.length)(hab:ordL a b < 0)(hbc:ordL b c < 0):ordL a c < 0:=by
 induction a generalizing b c with
 | nil =>
  cases b with
  | nil=>simp [ordL] at hab
  | cons y b=>simp at h1
 | cons x a ih =>
  cases b with
  | nil=>simp at h1
  | cons y b =>
   cases c with
   | nil=>simp at h2
   | cons z c =>
    simp only [List.length_cons,Nat.add_right_cancel_iff] at h1 h2
    simp only [ordL] at hab hbc ⊢
    by_cases e1:x = y
    ·subst e1
     rw [if_pos rfl] at hab
     by_cases e2:x = z
     ·subst e2
      rw [if_pos rfl] at hbc
      rw [if_pos rfl]
      exact ih h1 h2 hab hbc
     rw [if_neg e2] at hbc ⊢
     exact hbc
    rw [if_neg e1] at hab
    have hxy:x < y:=by
     by_cases h:x < y
     ·exact h
     rw [if_neg h] at hab; omega
    by_cases e2:y = z
    ·subst e2
     rw [if_neg (by omega),if_pos hxy]
     omega
    rw [if_neg e2] at hbc
    have hyz:y < z:=by
     by_cases h:y < z
     ·exact h
     rw [if_neg h] at hbc; omega
    rw [if_neg (by omega),if_pos (by omega)]
    omega
def Rises (gs:List Gr):Prop:=gs.Pairwise (fun a b=>ordL a.1 b.1 < 0)
theorem rises_of {gs:List Gr} {n:Nat} (hl:∀ g ∈ gs,g.1.length = n)(h:∀ i,0 < i->i < gs.length->ordL (gs.getD (i - 1) ([],0)).1 (gs.getD i ([],0)).1 < 0):Rises gs:=by
 unfold Rises
 rw [List.pairwise_iff_getElem]
 intro i j hi hj hij
 have key:∀ d,(hd:i + d + 1 < gs.length)->ordL (gs[i]'(by omega)).1 (gs[i + d + 1]).1 < 0:=by
  intro d
  induction d with
  | zero =>
   intro hd
   have:=h (i + 1) (by omega) hd
   rw [show i + 1 - 1 = i by omega,List.getD_eq_getElem?_getD,List.getD_eq_getElem?_getD,List.getElem?_eq_getElem (by omega),List.getElem?_eq_getElem (by omega)] at this
   exact this
  | succ d ih =>
   intro hd
   have h1:=ih (by omega)
   have h2:=h (i + (d + 1) + 1) (by omega) hd
   rw [show i + (d + 1) + 1 - 1 = i + d + 1 by omega,List.getD_eq_getElem?_getD,List.getD_eq_getElem?_getD,List.getElem?_eq_getElem (by omega),List.getElem?_eq_getElem (by omega)] at h2
   exact ordL_lt_trans (by rw [hl _ (List.getElem_mem _),hl _ (List.getElem_mem _)]) (by rw [hl _ (List.getElem_mem _)]; exact (hl _ (List.getElem_mem _)).symm) h1 h2
 have:=key (j - i - 1) (by omega)
 have e:i + (j - i - 1) + 1 = j:=by omega
 simp only [e] at this
 exact this
theorem Rises.nodup {gs:List Gr} (h:Rises gs):(gs.map Prod.fst).Nodup:=by
 refine List.pairwise_map.2 (List.Pairwise.imp ?_ h)
 intro a b hab e
 rw [e,ordL_self] at hab
 omega
theorem goodAt_all {O V:Int} {gs:List Gr} {i:Nat} {g:Gr} (hg:gs[i]? = some g)(h:goodAt O V gs i = true):(g.1.length:Int) = O/\inR 0 V g.1 = true/\1 <= g.2/\g.2 <= 1073741824/\(0 < i->ordL (gs.getD (i - 1) ([],0)).1 g.1 < 0):=by
 unfold goodAt at h
 rw [getD_of hg] at h
 simp only [Bool.and_eq_true,Bool.or_eq_true,decide_eq_true_eq] at h
 exact ⟨h.1.1.1.1,h.1.1.1.2,h.1.1.2,h.1.2,fun hi=>h.2.resolve_left (by omega)⟩
theorem inR_all {lo hi:Int} {l:List Int} (h:inR lo hi l = true):∀ x ∈ l,lo <= x/\x <= hi:=by
 intro x hx
 have:=List.all_eq_true.1 h x hx
 simpa using this
theorem table_all {O V:Int} {gs:List Gr} (h:tableE O V gs = 0):gs.length <= 20000/\1 <= O/\O <= 4/\1 <= V/\V <= 2000/\(∀ g ∈ gs,(g.1.length:Int) = O/\(∀ x ∈ g.1,0 <= x/\x <= V)/\1 <= g.2/\g.2 <= 1073741824)/\Rises gs:=by
 obtain ⟨h1,h2,h3⟩:=tableE_ok h
 have h4:=sizes_ok h2
 have hm:∀ g ∈ gs,(g.1.length:Int) = O/\(∀ x ∈ g.1,0 <= x/\x <= V)/\1 <= g.2/\g.2 <= 1073741824:=by
  intro g hg
  obtain ⟨i,hi⟩:=List.mem_iff_getElem?.1 hg
  have:=goodAt_all hi (h3 i (List.getElem?_eq_some_iff.1 hi).1)
  exact ⟨this.1,inR_all this.2.1,this.2.2.1,this.2.2.2.1⟩
 refine ⟨h1,h4.1,h4.2.1,h4.2.2.1,h4.2.2.2,hm,rises_of (n:=O.toNat) (fun g hg=>by have:=(hm g hg).1; omega) (fun i hi hl=>?_)⟩
 have hg:gs[i]? = some gs[i]:=List.getElem?_eq_getElem hl
 have:=(goodAt_all hg (h3 i hl)).2.2.2.2 hi
 rw [getD_of hg]
 exact this
theorem table_good {O v:Nat} {gs:List Gr} (h:tableE O v gs = 0):GoodT O gs:=by
 obtain ⟨h1,h2,h3,h4,h5,h6,h7⟩:=table_all h
 refine ⟨fun g hg=>?_,by omega,h1,h7.nodup⟩
 have:=h6 g hg
 exact ⟨by omega,fun x hx=>by have:=this.2.1 x hx; omega,by omega,this.2.2.2⟩
theorem table_small {O v:Nat} {gs:List Gr} (h:tableE O v gs = 0)(hv:v <= 8):SmallT gs v:=by
 obtain ⟨h1,h2,h3,h4,h5,h6,h7⟩:=table_all h
 exact ⟨fun g hg=>by have:=h6 g hg; omega,h1,fun g hg x hx=>((h6 g hg).2.1 x hx).2,hv⟩
theorem check_ok {O V:Int} {gs:List Gr} {k:Int} {a:Rat} {mix:List Rat} (h:checkE O V gs k a mix = 0):tableE O V gs = 0/\validB k a mix O = true:=by
 unfold checkE at h
 split at h
 ·next h1=>exact absurd h h1
 next h1 =>
 split at h
 ·next h2=>exact ⟨by simpa using h1,h2⟩
 cases h
theorem hist_ok {O V:Int} {gs:List Gr} {k:Int} {a:Rat} {mix:List Rat} {hl:List Int} (h:histE O V gs k a mix hl = 0):tableE O V gs = 0/\validB k a mix O = true/\(hl.length:Int) = O - 1/\∀ x ∈ hl,0 <= x/\x <= V:=by
 unfold histE at h
 split at h
 ·next h1=>exact absurd h h1
 next h1 =>
 split at h
 ·next h2 =>
  have:=check_ok (show checkE O V gs k a mix = 0 by simpa using h1)
  exact ⟨this.1,this.2,h2.1,inR_all h2.2⟩
 cases h
theorem sgnI_pos {q:Rat} (h:0 < sgnI q):0 < q:=by
 unfold sgnI at h
 split at h
 ·omega
 next h0 =>
 split at h
 ·omega
 next h1=>exact Rat.not_le.1 (fun h2=>h0 (Rat.le_antisymm h2 (Rat.not_lt.1 h1)))
theorem valid_added {a:Rat} {mix:List Rat} {O:Int} (h:validB 1 a mix O = true):0 < a/\mix = []:=by
 unfold validB at h
 rw [if_pos rfl] at h
 simp only [Bool.and_eq_true,decide_eq_true_eq,beq_iff_eq] at h
 exact ⟨sgnI_pos h.1,List.eq_nil_of_length_eq_zero (by omega)⟩
theorem methA (x:Value) (w:World):(method 426 286 x "earshot/gram.row").run Tryz.prog w = .ok (260,x) w:=by kernel_rfl
def RowOk (w:World) (v:Nat) (qs:List Rat) (e:Ending) (w':World):Prop:=∃ b',e = .returned (.tuple #[.slice (some ⟨b',0,none⟩) (v + 1) (v + 1),.int .i64 0])/\w.heap.size <= b'/\FArc w' b' qs/\Below w.heap.size w w'
theorem rowAdded (w:World) (O v:Nat) (lv:Value) (gs:List Gr) (s:Bool) (A A':Option Addr) (m c m' c':Nat) (mv:Value) (a:Rat) (mix:List Rat)(hv:Value)(hl:List Int)(h:LangAt w lv gs s A A' m c m' c' a mv mix)(hh:IntsAt w hv hl)(hE:histE O v gs 1 a mix hl = 0)(hv8:v <= 8) :
  Calls Tryz.prog 145 #[langV O v lv 1 s A A' m c m' c' mv,hv] w (RowOk w v (addedQ (totN O gs O hl) v a)):=by
 obtain ⟨Al,cl,rfl,_,_,_⟩:=h.grams.open_
 obtain ⟨Am,cm,rfl,_,_,_⟩:=h.mixes.open_
 obtain ⟨Ah,ch,rfl,hlc,hcm,_⟩:=hh.open_
 have HL:=Lib.hid h
 have HI:=Lib.hid hh
 have HE:=Lib.hid hE
 have HG:=Lib.hid (table_good (hist_ok hE).1)
 have HT:=Lib.hid (table_small (hist_ok hE).1 hv8)
 have hO:=HG.out.2.1
 have HLN:Hid (hl.length = O - 1):=Lib.hid (by have:=(hist_ok hE).2.2.1; omega)
 have HNK:Hid (NiceK hl):=Lib.hid ⟨by have:=HLN.out; omega,fun x hx=>by have:=(hist_ok hE).2.2.2 x hx; omega⟩
 have VA:=Lib.hid (valid_added (hist_ok hE).2.1)
 have hm:=methA
 clear h hh hE
 unfold langV
 go_enter Tryz.func145,Tryz.ntmps145
 go_wp2_with fail
 obtain ⟨W,hW,P0,PB,Phs⟩:=box1 w 34 [.int .i64 O,.int .i64 v,.slice Al gs.length cl,.int .i64 1,.bool s,.slice A m c,.slice A' m' c',.slice Am mix.length cm]
 rw [<- hW]
 clear hW
 obtain ⟨p0,p1,p2,p3,p4,p5,p6,p7⟩:=eight P0.out
 go_wp2_with fail
 refine (checkHistG W O v (.slice Al gs.length cl) gs 1 s A A' m c m' c' (.slice Am mix.length cm) a mix _ hl (HL.out.below PB.out) (HI.out.below PB.out)).mono ?_
 rintro e w1 ⟨rfl,hb1⟩
 rw [HE.out]
 have P1:=Lib.hid (P0.out.below' hb1)
 have B1:=Lib.hid (PB.out.trans (hb1.mono PB.out.size))
 clear p0 p1 p2 p3 p4 p5 p6 p7 hb1 P0 PB
 obtain ⟨p0,p1,p2,p3,p4,p5,p6,p7⟩:=eight P1.out
 have hS:=eight P1.out
 go_wp2_with fail
 go_region_held3 (fun w'=>w'.cell? ⟨w.heap.size,0,none⟩ = some (.int .i64 O)/\w'.cell? ⟨w.heap.size,1,none⟩ = some (.int .i64 v)/\w'.cell? ⟨w.heap.size,2,none⟩ = some (.slice Al gs.length cl)/\w'.cell? ⟨w.heap.size,3,none⟩ = some (.int .i64 1)/\w'.cell? ⟨w.heap.size,4,none⟩ = some (.bool s)/\w'.cell? ⟨w.heap.size,5,none⟩ = some (.slice A m c)/\w'.cell? ⟨w.heap.size,6,none⟩ = some (.slice A' m' c')/\w'.cell? ⟨w.heap.size,7,none⟩ = some (.slice Am mix.length cm))
  (first | assumption | go_keep)
  (first
   | (go_at_call 188; refine (wayG _ O v (.slice Al gs.length cl) gs 1 s A A' m c m' c' Am mix.length cm ((HL.out.grams.below B1.out).below (below_drew_self _)) HG.out (by have:=HT.out.2.2.2; omega)).mono ?_; rintro e wl ⟨b,rfl,hlv,hb'⟩; have hb:=below_of_drew hb'; have BB:=Lib.hid (B1.out.trans (hb.mono B1.out.size)); have LV:=Lib.hid hlv; have R1:=Lib.hid hb; have hS:=eight (P1.out.below' hb); (unfold wayV; rw [if_neg (by decide),if_neg (by decide),if_neg (by decide)]); clear hlv hb hb')
   | (go_at_call 260; refine (addedG _ O O b v _ gs hl s A A' m c m' c' a LV.out ⟨by omega,Nat.le_refl _⟩ (by omega) (HI.out.below BB.out) HLN.out HNK.out (HL.out.amount.below BB.out) VA.out.1 HT.out.2.2.2 HT.out.1 HT.out.2.1 HT.out.2.2.1).mono ?_; rintro e w2 ⟨b2,rfl,hb2,hf2,hbl⟩; have F2:=Lib.hid hf2; have B2:=Lib.hid (BB.out.trans (hbl.mono BB.out.size)); have s2:w.heap.size <= b2:=Nat.le_trans BB.out.size hb2; have hS:=eight ((P1.out.below' R1.out).below' hbl); clear hf2 hbl hb2))
 all_goals
  go_wp2_with fail
  go_ret2
  exact ⟨b2,rfl,s2,F2.out,B2.out⟩
end Go.Proofs.YtdehimgccmbfkaaGreat
