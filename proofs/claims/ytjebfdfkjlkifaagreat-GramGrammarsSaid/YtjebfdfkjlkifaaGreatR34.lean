/- Lemmas. -/
import Derived.Test.YtjebfdfkjlkifaaGreatR30
import Derived.Test.YtjebfdfkjlkifaaGreatR33
set_option linter.all false
set_option maxRecDepth 1000000
set_option maxHeartbeats 32000000
namespace Go.Proofs.YtjebfdfkjlkifaaGreat
open Go.RowKit
def aJ (O V:Int) (gs:List Gr) (k:Int) (a:Rat) (mix:List Rat):Int:=if aP O V gs ≠ 0 then aP O V gs else if av k a mix O then 0 else 2
structure LangAt (w:World) (lv:Value) (gs:List Gr) (s:Bool) (A A':Option Addr) (m c m' c':Nat) (a:Rat) (mv:Value) (mix:List Rat):Prop where
 grams:GramsAt w lv gs
 amount:FracAt 64 w (.agg #[.bool s,.slice A m c,.slice A' m' c']) a
 mixes:FracsAt 64 w mv mix
 short:mix.length <= 1000000
theorem LangAt.below {w w':World} {lv:Value} {gs:List Gr} {s:Bool} {A A':Option Addr} {m c m' c':Nat} {a:Rat} {mv:Value} {mix:List Rat} (h:LangAt w lv gs s A A' m c m' c' a mv mix)(hb:Below w.heap.size w w'):LangAt w' lv gs s A A' m c m' c' a mv mix :=
 ⟨h.grams.below hb,h.amount.below hb,h.mixes.below hb,h.short⟩
theorem eI {O V:Int} {gs:List Gr} (h:aP O V gs = 0):gs.length <= 20000/\bu O V = true/\∀ i,i < gs.length->dL O V gs i = true:=by
 unfold aP at h
 split at h
 ·cases h
 split at h
 ·next h1 h2=>exact ⟨by omega,h2.1,fun i hi=>List.all_eq_true.1 h2.2 i (List.mem_range.2 hi)⟩
 cases h
theorem en {O V:Int} (h:bu O V = true):1 <= O/\O <= 4/\1 <= V/\V <= 2000:=by
 unfold bu at h
 simp only [Bool.and_eq_true,decide_eq_true_eq] at h
 omega

theorem lW (w:World) (O V:Int) (lv:Value) (gs:List Gr) (k:Int) (s:Bool) (A A':Option Addr) (m c m' c':Nat) (mv:Value) (a:Rat) (mix:List Rat)(h:LangAt w lv gs s A A' m c m' c' a mv mix) :
  Calls Tryz.prog 41 #[aG O V lv k s A A' m c m' c' mv] w fun e w'=>e = .returned (.int .i64 (aJ O V gs k a mix))/\Below w.heap.size w w':=by
 obtain ⟨Al,cl,rfl,_,_,_⟩:=h.grams.open_
 obtain ⟨Am,cm,rfl,_,_,_⟩:=h.mixes.open_
 have HL:=aH h
 clear h
 unfold aG
 go_enter Tryz.func41,Tryz.ntmps41
 go_wp2_with fail
 obtain ⟨W,hW,P0,PB,Phs⟩:=aA w 43 [.int .i64 O,.int .i64 V,.slice Al gs.length cl,.int .i64 k,.bool s,.slice A m c,.slice A' m' c',.slice Am mix.length cm]
 rw [<- hW]
 clear hW
 obtain ⟨p0,p1,p2,p3,p4,p5,p6,p7⟩:=an P0.o
 go_wp2_with fail
 refine (nF W O V _ gs (HL.o.grams.below PB.o)).mono ?_
 rintro e w1 ⟨rfl,hb1⟩
 have P1:=aH (P0.o.below' hb1)
 have B1:=aH (PB.o.trans (hb1.mono PB.o.size))
 clear p0 p1 p2 p3 p4 p5 p6 p7 hb1 P0 PB
 obtain ⟨p0,p1,p2,p3,p4,p5,p6,p7⟩:=an P1.o
 obtain ⟨te,hte⟩:=nm (aP O V gs)
 rw [hte]
 have HTE:=aH hte
 clear hte
 by_cases h0:te = 0
 ·subst h0
  have HO:=en (eI HTE.o).2.1
  go_wp2_with fail
  refine (vx w1 O V (.slice Al gs.length cl) k s A A' m c m' c' _ a mix (HL.o.amount.below B1.o) (HL.o.mixes.below B1.o) HL.o.short (by omega) _ _ _ rfl).mono ?_
  rintro e w2 ⟨rfl,hb2⟩
  have B2:=aH (B1.o.trans (hb2.mono B1.o.size))
  obtain ⟨vb,hvb⟩:=nm (av k a mix O)
  rw [hvb]
  have HE:Hd (aJ O V gs k a mix = if vb = true then 0 else 2):=aH (by unfold aJ; rw [HTE.o,hvb]; rfl)
  clear hb2 hvb
  cases vb
  all_goals
   go_wp2_with fail
   go_ret
   exact ⟨ag HE.o.symm,B2.o⟩
 have e1:(te != 0) = true:=by simpa using h0
 have HE:Hd (aJ O V gs k a mix = te):=aH (by unfold aJ; rw [HTE.o,if_pos h0])
 clear h0
 go_wp2_with fail
 go_ret
 exact ⟨ag HE.o.symm,B1.o⟩

def bM (O V:Int) (gs:List Gr) (k:Int) (a:Rat) (mix:List Rat)(h:List Int):Int :=
 if aJ O V gs k a mix ≠ 0 then aJ O V gs k a mix else if (h.length:Int) = O - 1/\inR 0 V h = true then 0 else 2

theorem bU (w:World) (O V:Int) (lv:Value) (gs:List Gr) (k:Int) (s:Bool) (A A':Option Addr) (m c m' c':Nat) (mv:Value) (a:Rat) (mix:List Rat)(hv:Value)(hl:List Int)(h:LangAt w lv gs s A A' m c m' c' a mv mix)(hh:IntsAt w hv hl) :
  Calls Tryz.prog 89 #[aG O V lv k s A A' m c m' c' mv,hv] w fun e w'=>e = .returned (.int .i64 (bM O V gs k a mix hl))/\Below w.heap.size w w':=by
 obtain ⟨Al,cl,rfl,_,_,_⟩:=h.grams.open_
 obtain ⟨Am,cm,rfl,_,_,_⟩:=h.mixes.open_
 obtain ⟨Ah,ch,rfl,hlc,hcm,_⟩:=hh.open_
 have HL:=aH h
 have HI:=aH hh
 obtain ⟨n,hn⟩:=nm (hl.length)
 rw [hn] at hlc HI ⊢
 have HN:=aH hn
 clear h hh hn
 unfold aG
 go_enter Tryz.func89,Tryz.ntmps89
 go_wp2_with fail
 obtain ⟨W,hW,P0,PB,Phs⟩:=aA w 43 [.int .i64 O,.int .i64 V,.slice Al gs.length cl,.int .i64 k,.bool s,.slice A m c,.slice A' m' c',.slice Am mix.length cm]
 rw [<- hW]
 clear hW
 obtain ⟨p0,p1,p2,p3,p4,p5,p6,p7⟩:=an P0.o
 go_wp2_with fail
 refine (lW W O V (.slice Al gs.length cl) gs k s A A' m c m' c' (.slice Am mix.length cm) a mix (HL.o.below PB.o)).mono ?_
 rintro e w1 ⟨rfl,hb1⟩
 have P1:=aH (P0.o.below' hb1)
 have B1:=aH (PB.o.trans (hb1.mono PB.o.size))
 clear p0 p1 p2 p3 p4 p5 p6 p7 hb1 P0 PB
 obtain ⟨p0,p1,p2,p3,p4,p5,p6,p7⟩:=an P1.o
 obtain ⟨te,hte⟩:=nm (aJ O V gs k a mix)
 rw [hte]
 have HTE:=aH hte
 clear hte
 by_cases h0:te = 0
 ·subst h0
  have HO:1 <= O/\O <= 4:=by
   have h1:aP O V gs = 0:=by
    have:=HTE.o
    unfold aJ at this
    by_cases e:aP O V gs = 0
    ·exact e
    rw [if_pos e] at this; exact this
   have:=en (eI h1).2.1
   omega
  by_cases h2:(n:Int) = O - 1
  ·have e2:((n:Int) != O - 1) = false:=by simpa using h2
   obtain ⟨ib,hib⟩:=nm (inR 0 V hl)
   have HE:Hd (bM O V gs k a mix hl = if ib = true then 0 else 2):=aH (by
    unfold bM
    rw [HTE.o,hib,HN.o]
    simp [h2])
   have HIB:=aH hib
   clear h2 hib
   go_wp2_with fail
   refine (gU w1 _ hl 0 V (HI.o.below B1.o)).mono ?_
   rintro e w2 ⟨rfl,hb2⟩
   have B2:=aH (B1.o.trans (hb2.mono B1.o.size))
   rw [HIB.o]
   clear hb2
   cases ib
   all_goals
    go_wp2_with fail
    go_ret
    exact ⟨ag HE.o.symm,B2.o⟩
  have e2:((n:Int) != O - 1) = true:=by simpa using h2
  have HE:Hd (bM O V gs k a mix hl = 2):=aH (by
   unfold bM
   rw [HTE.o,HN.o]
   simp [h2])
  clear h2
  go_wp2_with fail
  go_ret
  exact ⟨ag HE.o.symm,B1.o⟩
 have e1:(te != 0) = true:=by simpa using h0
 have HE:Hd (bM O V gs k a mix hl = te):=aH (by unfold bM; rw [HTE.o,if_pos h0])
 clear h0
 go_wp2_with fail
 go_ret
 exact ⟨ag HE.o.symm,B1.o⟩
theorem LvsAt.set_ {w:World} {b O n:Nat} {gs:List (List Int × Int)} (h:LvsAt w b O n gs) {g:Nat} {e:TypeId} {ys:List Value} (hb:Blk w g e ys)(he:e ≠ 205) {o:Nat} {u0:Value} (hc:w.cell? ⟨g,o,none⟩ = some u0) (u:Value):LvsAt (w.setCell ⟨g,o,none⟩ u) b O n gs:=by
 obtain ⟨xs,h1,h2,h3⟩:=h
 have hne:b ≠ g:=by
  intro e'
  subst e'
  unfold Blk at h1 hb
  rw [h1] at hb
  cases hb
  exact he rfl
 refine ⟨xs,h1.far (p:=⟨g,o,none⟩) hne u,h2,fun j hj hj'=>?_⟩
 obtain ⟨bj,base,S,e1,hl,hr⟩:=h3 j hj hj'
 exact ⟨bj,base,S,e1,hl.far hc _,hr⟩

def fs (k:Int) (b O v:Nat) (s:Bool) (A A':Option Addr) (m c m' c':Nat) (mv:Value):Value :=
 if k = 2 then .iface 175 (.agg #[.slice (some ⟨b,0,none⟩) (O + 1) (O + 1),.int .i64 ((v:Int) + 1),mv])
 else if k = 3 then .iface 177 (.agg #[.slice (some ⟨b,0,none⟩) (O + 1) (O + 1),.int .i64 ((v:Int) + 1),.bool s,.slice A m c,.slice A' m' c'])
 else if k = 4 then .iface 179 (.agg #[.slice (some ⟨b,0,none⟩) (O + 1) (O + 1),.int .i64 ((v:Int) + 1)])
 else .iface 180 (.agg #[.slice (some ⟨b,0,none⟩) (O + 1) (O + 1),.int .i64 ((v:Int) + 1),.bool s,.slice A m c,.slice A' m' c'])
def vp (O:Nat) (gs:List Gr):Prop:=(∀ g ∈ gs,g.1.length = O/\(∀ x ∈ g.1,0 <= x/\x <= 1000000)/\0 < g.2/\g.2 <= 1073741824)/\(1 <= O/\O <= 4)/\gs.length <= 20000/\(gs.map Prod.fst).Nodup

theorem rl (w:World) (O v:Nat) (lv:Value) (gs:List Gr) (k:Int) (s:Bool) (A A':Option Addr) (m c m' c':Nat) (Am:Option Addr) (nm cm:Nat)(h:GramsAt w lv gs)(hn:vp O gs)(hv:v <= 2000) :
  Calls Tryz.prog 90 #[aG O v lv k s A A' m c m' c' (.slice Am nm cm)] w fun e w'=>∃ b,e = .returned (fs k b O v s A A' m c m' c' (.slice Am nm cm))/\LvsAt w' b O 0 gs/\Below w.heap.size w w':=by
 obtain ⟨Al,cl,rfl,_,_,_⟩:=h.open_
 have HL:=aH h
 have HN:=aH hn
 clear h hn
 unfold aG
 go_enter Tryz.func90,Tryz.ntmps90
 go_wp2_with fail
 obtain ⟨W,hW,P0,P1,PB,Phs⟩:=cP w 43 [.int .i64 O,.int .i64 v,.slice Al gs.length cl,.int .i64 k,.bool s,.slice A m c,.slice A' m' c',.slice Am nm cm] 172 [.slice none 0 0,.int .i64 ((v:Int) + 1)]
 rw [<- hW]
 clear hW
 obtain ⟨p0,p1,p2,p3,p4,p5,p6,p7⟩:=an P0.o
 go_wp2_with fail
 refine (uK W O v (.slice Al gs.length cl) gs (HL.o.below PB.o) HN.o.1 HN.o.2.1 HN.o.2.2.1 HN.o.2.2.2).mono ?_
 rintro e w1 ⟨b,rfl,hlv,hb1⟩
 have LV:=aH hlv
 have P2:=aH (P0.o.below' hb1)
 have P3:=aH (P1.o.below' hb1)
 have B1:=aH (PB.o.trans (hb1.mono PB.o.size))
 clear p0 p1 p2 p3 p4 p5 p6 p7 hlv hb1 P0 P1 PB
 have q0:=P3.o.cell 0
 have q1:=P3.o.cell 1
 have z0:=P3.o.frozen 0
 simp only [List.getElem?_cons_zero,List.getElem?_cons_succ] at q0 q1
 obtain ⟨p0,p1,p2,p3,p4,p5,p6,p7⟩:=an P2.o
 by_cases h2:k = 2
 ·subst h2
  have WV:Hd (Ending.returned (.iface 175 (.agg #[.slice (some ⟨b,0,none⟩) (O + 1) (O + 1),.int .i64 ((v:Int) + 1),.slice Am nm cm])) = Ending.returned (fs 2 b O v s A A' m c m' c' (.slice Am nm cm))):=aH (by unfold fs; rw [if_pos rfl])
  go_wp2_with fail
  go_ret
  exact ⟨b,WV.o,LV.o.set_ P3.o (by decide) q0 _,B1.o.setCell (p:=⟨w.heap.size + 1,0,none⟩) (by show w.heap.size <= w.heap.size + 1; omega) _⟩
 have n2:(k == 2) = false:=by simpa using h2
 by_cases h3:k = 3
 ·subst h3
  have WV:Hd (Ending.returned (.iface 177 (.agg #[.slice (some ⟨b,0,none⟩) (O + 1) (O + 1),.int .i64 ((v:Int) + 1),.bool s,.slice A m c,.slice A' m' c'])) = Ending.returned (fs 3 b O v s A A' m c m' c' (.slice Am nm cm))):=aH (by unfold fs; rw [if_neg (by decide),if_pos rfl])
  clear h2 n2
  go_wp2_with fail
  go_ret
  exact ⟨b,WV.o,LV.o.set_ P3.o (by decide) q0 _,B1.o.setCell (p:=⟨w.heap.size + 1,0,none⟩) (by show w.heap.size <= w.heap.size + 1; omega) _⟩
 have n3:(k == 3) = false:=by simpa using h3
 by_cases h4:k = 4
 ·subst h4
  have WV:Hd (Ending.returned (.iface 179 (.agg #[.slice (some ⟨b,0,none⟩) (O + 1) (O + 1),.int .i64 ((v:Int) + 1)])) = Ending.returned (fs 4 b O v s A A' m c m' c' (.slice Am nm cm))):=aH (by unfold fs; rw [if_neg (by decide),if_neg (by decide),if_pos rfl])
  clear h2 n2 h3 n3
  go_wp2_with fail
  go_ret
  exact ⟨b,WV.o,LV.o.set_ P3.o (by decide) q0 _,B1.o.setCell (p:=⟨w.heap.size + 1,0,none⟩) (by show w.heap.size <= w.heap.size + 1; omega) _⟩
 have n4:(k == 4) = false:=by simpa using h4
 have WV:Hd (Ending.returned (.iface 180 (.agg #[.slice (some ⟨b,0,none⟩) (O + 1) (O + 1),.int .i64 ((v:Int) + 1),.bool s,.slice A m c,.slice A' m' c'])) = Ending.returned (fs k b O v s A A' m c m' c' (.slice Am nm cm))):=aH (by unfold fs; rw [if_neg h2,if_neg h3,if_neg h4])
 clear h2 h3 h4
 go_wp2_with fail
 go_ret
 exact ⟨b,WV.o,LV.o.set_ P3.o (by decide) q0 _,B1.o.setCell (p:=⟨w.heap.size + 1,0,none⟩) (by show w.heap.size <= w.heap.size + 1; omega) _⟩
theorem iJ (a:List Int):aN a a = 0:=by
 induction a with
 | nil=>rfl
 | cons x a ih=>simp only [aN,if_true]; exact ih
theorem gE {a b c:List Int} (h1:a.length = b.length)(h2:b.length = c.length)(hab:aN a b < 0)(hbc:aN b c < 0):aN a c < 0:=by
 induction a generalizing b c with
 | nil =>
  cases b with
  | nil=>simp [aN] at hab
  | cons y b=>simp at h1
 | cons x a ih =>
  cases b with
  | nil=>simp at h1
  | cons y b =>
   cases c with
   | nil=>simp at h2
   | cons z c =>
    simp only [List.length_cons,Nat.add_right_cancel_iff] at h1 h2
    simp only [aN] at hab hbc ⊢
    by_cases e1:x = y
    ·subst e1
     rw [if_pos rfl] at hab
     by_cases e2:x = z
     ·subst e2
      rw [if_pos rfl] at hbc
      rw [if_pos rfl]
      exact ih h1 h2 hab hbc
     rw [if_neg e2] at hbc ⊢
     exact hbc
    rw [if_neg e1] at hab
    have hxy:x < y:=by
     by_cases h:x < y
     ·exact h
     rw [if_neg h] at hab; omega
    by_cases e2:y = z
    ·subst e2
     rw [if_neg (by omega),if_pos hxy]
     omega
    rw [if_neg e2] at hbc
    have hyz:y < z:=by
     by_cases h:y < z
     ·exact h
     rw [if_neg h] at hbc; omega
    rw [if_neg (by omega),if_pos (by omega)]
    omega
def Rises (gs:List Gr):Prop:=gs.Pairwise (fun a b=>aN a.1 b.1 < 0)
theorem rQ {gs:List Gr} {n:Nat} (hl:∀ g ∈ gs,g.1.length = n)(h:∀ i,0 < i->i < gs.length->aN (gs.getD (i - 1) ([],0)).1 (gs.getD i ([],0)).1 < 0):Rises gs:=by
 unfold Rises
 rw [List.pairwise_iff_getElem]
 intro i j hi hj hij
 have key:∀ d,(hd:i + d + 1 < gs.length)->aN (gs[i]'(by omega)).1 (gs[i + d + 1]).1 < 0:=by
  intro d
  induction d with
  | zero =>
   intro hd
   have:=h (i + 1) (by omega) hd
   rw [show i + 1 - 1 = i by omega,gD,gD,eG (by omega),eG (by omega)] at this
   exact this
  | succ d ih =>
   intro hd
   have h1:=ih (by omega)
   have h2:=h (i + (d + 1) + 1) (by omega) hd
   rw [show i + (d + 1) + 1 - 1 = i + d + 1 by omega,gD,gD,eG (by omega),eG (by omega)] at h2
   exact gE (by rw [hl _ (List.getElem_mem _),hl _ (List.getElem_mem _)]) (by rw [hl _ (List.getElem_mem _)]; exact (hl _ (List.getElem_mem _)).symm) h1 h2
 have:=key (j - i - 1) (by omega)
 have e:i + (j - i - 1) + 1 = j:=by omega
 simp only [e] at this
 exact this
theorem Rises.nodup {gs:List Gr} (h:Rises gs):(gs.map Prod.fst).Nodup:=by
 refine List.pairwise_map.2 (List.Pairwise.imp ?_ h)
 intro a b hab e
 rw [e,iJ] at hab
 omega
theorem jL {O V:Int} {gs:List Gr} {i:Nat} {g:Gr} (hg:gs[i]? = some g)(h:dL O V gs i = true):(g.1.length:Int) = O/\inR 0 V g.1 = true/\1 <= g.2/\g.2 <= 1073741824/\(0 < i->aN (gs.getD (i - 1) ([],0)).1 g.1 < 0):=by
 unfold dL at h
 rw [fC hg] at h
 simp only [Bool.and_eq_true,Bool.or_eq_true,decide_eq_true_eq] at h
 exact ⟨h.1.1.1.1,h.1.1.1.2,h.1.1.2,h.1.2,fun hi=>h.2.resolve_left (by omega)⟩
theorem gg {lo hi:Int} {l:List Int} (h:inR lo hi l = true):∀ x ∈ l,lo <= x/\x <= hi:=by
 intro x hx
 have:=List.all_eq_true.1 h x hx
 simpa using this
theorem fY {O V:Int} {gs:List Gr} (h:aP O V gs = 0):gs.length <= 20000/\1 <= O/\O <= 4/\1 <= V/\V <= 2000/\(∀ g ∈ gs,(g.1.length:Int) = O/\(∀ x ∈ g.1,0 <= x/\x <= V)/\1 <= g.2/\g.2 <= 1073741824)/\Rises gs:=by
 obtain ⟨h1,h2,h3⟩:=eI h
 have h4:=en h2
 have hm:∀ g ∈ gs,(g.1.length:Int) = O/\(∀ x ∈ g.1,0 <= x/\x <= V)/\1 <= g.2/\g.2 <= 1073741824:=by
  intro g hg
  obtain ⟨i,hi⟩:=List.mem_iff_getElem?.1 hg
  have:=jL hi (h3 i (sI.1 hi).1)
  exact ⟨this.1,gg this.2.1,this.2.2.1,this.2.2.2.1⟩
 refine ⟨h1,h4.1,h4.2.1,h4.2.2.1,h4.2.2.2,hm,rQ (n:=O.toNat) (fun g hg=>by have:=(hm g hg).1; omega) (fun i hi hl=>?_)⟩
 have hg:gs[i]? = some gs[i]:=eG hl
 have:=(jL hg (h3 i hl)).2.2.2.2 hi
 rw [fC hg]
 exact this
theorem dy {O v:Nat} {gs:List Gr} (h:aP O v gs = 0):vp O gs:=by
 obtain ⟨h1,h2,h3,h4,h5,h6,h7⟩:=fY h
 refine ⟨fun g hg=>?_,by omega,h1,h7.nodup⟩
 have:=h6 g hg
 exact ⟨by omega,fun x hx=>by have:=this.2.1 x hx; omega,by omega,this.2.2.2⟩
theorem bY {O v:Nat} {gs:List Gr} (h:aP O v gs = 0)(hv:v <= 8):SmallT gs v:=by
 obtain ⟨h1,h2,h3,h4,h5,h6,h7⟩:=fY h
 exact ⟨fun g hg=>by have:=h6 g hg; omega,h1,fun g hg x hx=>((h6 g hg).2.1 x hx).2,hv⟩
theorem cI {O V:Int} {gs:List Gr} {k:Int} {a:Rat} {mix:List Rat} (h:aJ O V gs k a mix = 0):aP O V gs = 0/\av k a mix O = true:=by
 unfold aJ at h
 split at h
 ·next h1=>exact absurd h h1
 next h1 =>
 split at h
 ·next h2=>exact ⟨by simpa using h1,h2⟩
 cases h
theorem bI {O V:Int} {gs:List Gr} {k:Int} {a:Rat} {mix:List Rat} {hl:List Int} (h:bM O V gs k a mix hl = 0):aP O V gs = 0/\av k a mix O = true/\(hl.length:Int) = O - 1/\∀ x ∈ hl,0 <= x/\x <= V:=by
 unfold bM at h
 split at h
 ·next h1=>exact absurd h h1
 next h1 =>
 split at h
 ·next h2 =>
  have:=cI (show aJ O V gs k a mix = 0 by simpa using h1)
  exact ⟨this.1,this.2,h2.1,gg h2.2⟩
 cases h
theorem jm {q:Rat} (h:0 < aU q):0 < q:=by
 unfold aU at h
 split at h
 ·omega
 next h0 =>
 split at h
 ·omega
 next h1=>exact Rat.not_le.1 (fun h2=>h0 (Rat.le_antisymm h2 (Rat.not_lt.1 h1)))
theorem eW {a:Rat} {mix:List Rat} {O:Int} (h:av 1 a mix O = true):0 < a/\mix = []:=by
 unfold av at h
 rw [if_pos rfl] at h
 simp only [Bool.and_eq_true,decide_eq_true_eq,beq_iff_eq] at h
 exact ⟨jm h.1,List.eq_nil_of_length_eq_zero (by omega)⟩
theorem eK {a:Rat} {mix:List Rat} {O:Int} (h:av 3 a mix O = true):0 < a/\a < 1/\mix = []:=by
 unfold av at h
 rw [if_neg (by decide),if_neg (by decide),if_pos rfl] at h
 simp only [Bool.and_eq_true,decide_eq_true_eq,beq_iff_eq,Bool.not_eq_true',decide_eq_false_iff_not] at h
 have h1:=(fO (a - 1)).1 (by omega)
 have h2:a - 1 < 0:=Rat.not_le.1 h1
 refine ⟨jm h.2.1,?_,List.eq_nil_of_length_eq_zero (by omega)⟩
 have h3:=(Rat.add_lt_add_right (c:=1)).2 h2
 rwa [Rat.zero_add,Rat.sub_eq_add_neg,Rat.add_assoc,Rat.neg_add_cancel,Rat.add_zero] at h3
theorem uD (w:World) (v:Value) (l:List Int) (V:Int) (g:Nat)(h:IntsAt w v l)(hc:w.cell? ⟨g,1,none⟩ = some (.int .i64 V)) :
  Calls Tryz.prog 144 #[v,.pointer (some ⟨g,0,none⟩)] w fun e w'=>e = .returned (.bool (!inR 1 V l))/\Below w.heap.size w w':=by
 have HI:=aH h
 clear h
 go_enter Tryz.func144,Tryz.ntmps144
 go_wp2_with fail
 refine (gU w v l 1 V HI.o).mono ?_
 rintro e w1 ⟨rfl,hb1⟩
 have B1:=aH hb1
 clear hb1 hc
 go_wp2_with fail
 go_ret
 exact ⟨ai (by simp),B1.o⟩
theorem rZ (w:World) (v:Value) (l:List Int) (V:Int) (g:Nat)(h:IntsAt w v l)(hc:w.cell? ⟨g,0,none⟩ = some (.int .i64 V)) :
  Calls Tryz.prog 78 #[v,.pointer (some ⟨g,0,none⟩)] w fun e w'=>e = .returned (.bool (!inR 1 V l))/\Below w.heap.size w w':=by
 have HI:=aH h
 clear h
 go_enter Tryz.func78,Tryz.ntmps78
 go_wp2_with fail
 refine (gU w v l 1 V HI.o).mono ?_
 rintro e w1 ⟨rfl,hb1⟩
 have B1:=aH hb1
 clear hb1 hc
 go_wp2_with fail
 go_ret
 exact ⟨ai (by simp),B1.o⟩

def gw (ls:List (List Int)):Bool:=ls.any fun l=>decide (500 < l.length)
def jZ (V:Int) (ls:List (List Int)):Bool:=ls.any fun l=>!inR 1 V l
def eX (O V:Int) (gs:List Gr) (k:Int) (a:Rat) (mix:List Rat) (ls:List (List Int)):Int :=
 if 20000 < gs.length ∨ gw ls = true then 5 else if aJ O V gs k a mix ≠ 0 then aJ O V gs k a mix else if jZ V ls = true then 2 else 0

theorem oP (w:World) (O V:Int) (lv:Value) (gs:List Gr) (k:Int) (s:Bool) (A A':Option Addr) (m c m' c':Nat) (mv:Value) (a:Rat) (mix:List Rat) (sv:Value) (ls:List (List Int))(h:LangAt w lv gs s A A' m c m' c' a mv mix)(hs:ListsAt w sv ls) :
  Calls Tryz.prog 103 #[aG O V lv k s A A' m c m' c' mv,sv] w fun e w'=>e = .returned (.int .i64 (eX O V gs k a mix ls))/\Below w.heap.size w w':=by
 obtain ⟨Al,cl,rfl,_,_,_⟩:=h.grams.open_
 obtain ⟨Am,cm,rfl,_,_,_⟩:=h.mixes.open_
 obtain ⟨As,cs,rfl,hsc,hsm,_⟩:=hs.open_
 have HL:=aH h
 have HS:=aH hs
 obtain ⟨ng,hng⟩:=nm (gs.length)
 obtain ⟨ns,hns⟩:=nm (ls.length)
 rw [hng] at HL ⊢
 rw [hns] at HS hsc ⊢
 have HNG:=aH hng
 have HNS:=aH hns
 clear h hs hng hns
 unfold aG
 by_cases hlong:20000 < ng
 ·have d1:decide (20000 < ng) = true:=dT hlong
  have d2:decide ((20000:Int) < (ng:Int)) = true:=dT (by omega)
  have HE:Hd (eX O V gs k a mix ls = 5):=aH (by unfold eX; rw [if_pos (.inl (by rw [HNG.o]; exact hlong))])
  clear hlong
  go_enter Tryz.func103,Tryz.ntmps103
  go_wp2_with fail
  go_ret
  exact ⟨ag HE.o.symm,(Below.refl _ _).alloc (nR _) _⟩
 have d1:decide (20000 < ng) = false:=dF hlong
 have d2:decide ((20000:Int) < (ng:Int)) = false:=dF (by omega)
 have HNL:Hd (¬ 20000 < gs.length):=aH (by rw [HNG.o]; exact hlong)
 clear hlong
 obtain ⟨lb,hlb⟩:=nm (gw ls)
 have HLB:=aH hlb
 clear hlb
 go_enter Tryz.func103,Tryz.ntmps103
 go_wp2_with fail
 obtain ⟨W,hW,P0,PB,Phs⟩:=aA w 43 [.int .i64 O,.int .i64 V,.slice Al ng cl,.int .i64 k,.bool s,.slice A m c,.slice A' m' c',.slice Am mix.length cm]
 rw [<- hW]
 clear hW
 have CI:=aH (eF W _ ls 76 #[] (fun l=>decide (500 < l.length)) (HS.o.below PB.o) (by have:=HNS.o; omega) (fun _ _=>by kernel_rfl) (fun U x a hb hx hi=>fl U a x hi))
 refine CI.o.mono ?_
 rintro e w1 ⟨rfl,hb1⟩
 have P1:=aH (P0.o.below' hb1)
 have B1:=aH (PB.o.trans (hb1.mono PB.o.size))
 have e1:(ls.any fun l=>decide (500 < l.length)) = lb:=HLB.o
 rw [e1]
 clear hb1 P0 PB e1 CI
 obtain ⟨p0,p1,p2,p3,p4,p5,p6,p7⟩:=an P1.o
 have s1:w.heap.size < w1.heap.size:=P1.o.lt
 cases lb
 ·go_wp2_with fail
  refine (lW w1 O V (.slice Al ng cl) gs k s A A' m c m' c' (.slice Am mix.length cm) a mix (HL.o.below B1.o)).mono ?_
  rintro e w2 ⟨rfl,hb2⟩
  have P2:=aH (P1.o.below' hb2)
  have B2:=aH (B1.o.trans (hb2.mono B1.o.size))
  obtain ⟨te,hte⟩:=nm (aJ O V gs k a mix)
  rw [hte]
  have HTE:=aH hte
  clear hb2 hte p0 p1 p2 p3 p4 p5 p6 p7 P1 B1
  obtain ⟨p0,p1,p2,p3,p4,p5,p6,p7⟩:=an P2.o
  by_cases h0:te = 0
  ·subst h0
   obtain ⟨ob,hob⟩:=nm (jZ V ls)
   have HE:Hd (eX O V gs k a mix ls = if ob = true then 2 else 0):=aH (by
    unfold eX
    rw [if_neg (by rw [HLB.o]; simp; have:=HNL.o; omega),HTE.o,hob]
    rfl)
   have CI:=aH (eF w2 _ ls 144 #[.pointer (some ⟨w.heap.size,0,none⟩)] (fun l=>!inR 1 V l) (HS.o.below B2.o) (by have:=HNS.o; omega) (fun _ _=>by kernel_rfl) (fun U x a hb hx hi=>uD U a x V w.heap.size hi ((P2.o.below' hb).cell 1)))
   have HOB:=aH hob
   clear hob
   go_wp2_with fail
   refine CI.o.mono ?_
   rintro e w3 ⟨rfl,hb3⟩
   have e1:(ls.any fun l=>!inR 1 V l) = ob:=HOB.o
   rw [e1]
   have B3:=aH (B2.o.trans (hb3.mono B2.o.size))
   clear hb3 e1 CI
   cases ob
   all_goals
    go_wp2_with fail
    go_ret
    exact ⟨ag HE.o.symm,B3.o⟩
  have e1:(te != 0) = true:=by simpa using h0
  have HE:Hd (eX O V gs k a mix ls = te):=aH (by
   unfold eX
   rw [if_neg (by rw [HLB.o]; simp; have:=HNL.o; omega),HTE.o,if_pos h0])
  clear h0
  go_wp2_with fail
  go_ret
  exact ⟨ag HE.o.symm,B2.o⟩
 have HE:Hd (eX O V gs k a mix ls = 5):=aH (by unfold eX; rw [if_pos (.inr HLB.o)])
 go_wp2_with fail
 go_ret
 exact ⟨ag HE.o.symm,B1.o⟩
theorem vh (x:Value) (w:World):(method 358 177 x "earshot/gram.row").run Tryz.prog w = .ok (222,x) w:=by kernel_rfl
theorem vf (x:Value) (w:World):(method 358 179 x "earshot/gram.row").run Tryz.prog w = .ok (225,x) w:=by kernel_rfl
theorem vi (x:Value) (w:World):(method 358 180 x "earshot/gram.row").run Tryz.prog w = .ok (226,x) w:=by kernel_rfl
def uc (w:World) (v:Nat) (qs:List Rat) (e:Ending) (w':World):Prop:=∃ b',e = .returned (.tuple #[.slice (some ⟨b',0,none⟩) (v + 1) (v + 1),.int .i64 0])/\w.heap.size <= b'/\FArc w' b' qs/\Below w.heap.size w w'

theorem uy (w:World) (O v:Nat) (lv:Value) (gs:List Gr) (s:Bool) (A A':Option Addr) (m c m' c':Nat) (mv:Value) (a:Rat) (mix:List Rat)(hv:Value)(hl:List Int)(h:LangAt w lv gs s A A' m c m' c' a mv mix)(hh:IntsAt w hv hl)(hE:bM O v gs 3 a mix hl = 0)(hv8:v <= 8) :
  Calls Tryz.prog 28 #[aG O v lv 3 s A A' m c m' c' mv,hv] w (uc w v (bJ (ap O gs) v a O hl)):=by
 obtain ⟨Al,cl,rfl,_,_,_⟩:=h.grams.open_
 obtain ⟨Am,cm,rfl,_,_,_⟩:=h.mixes.open_
 obtain ⟨Ah,ch,rfl,hlc,hcm,_⟩:=hh.open_
 have HL:=aH h
 have HI:=aH hh
 have HE:=aH hE
 have HG:=aH (dy (bI hE).1)
 have HT:=aH (bY (bI hE).1 hv8)
 have hO:=HG.o.2.1
 have HLN:Hd (hl.length = O - 1):=aH (by have:=(bI hE).2.2.1; omega)
 have HNK:Hd (NiceK hl):=aH ⟨by have:=HLN.o; omega,fun x hx=>by have:=(bI hE).2.2.2 x hx; omega⟩
 have VA:=aH (eK (bI hE).2.1)
 have hm:=vh
 clear h hh hE
 unfold aG
 go_enter Tryz.func28,Tryz.ntmps28
 go_wp2_with fail
 obtain ⟨W,hW,P0,PB,Phs⟩:=aA w 43 [.int .i64 O,.int .i64 v,.slice Al gs.length cl,.int .i64 3,.bool s,.slice A m c,.slice A' m' c',.slice Am mix.length cm]
 rw [<- hW]
 clear hW
 obtain ⟨p0,p1,p2,p3,p4,p5,p6,p7⟩:=an P0.o
 go_wp2_with fail
 refine (bU W O v (.slice Al gs.length cl) gs 3 s A A' m c m' c' (.slice Am mix.length cm) a mix _ hl (HL.o.below PB.o) (HI.o.below PB.o)).mono ?_
 rintro e w1 ⟨rfl,hb1⟩
 rw [HE.o]
 have P1:=aH (P0.o.below' hb1)
 have B1:=aH (PB.o.trans (hb1.mono PB.o.size))
 clear p0 p1 p2 p3 p4 p5 p6 p7 hb1 P0 PB
 obtain ⟨p0,p1,p2,p3,p4,p5,p6,p7⟩:=an P1.o
 have hS:=an P1.o
 go_wp2_with fail
 go_region_held3 (fun w'=>w'.cell? ⟨w.heap.size,0,none⟩ = some (.int .i64 O)/\w'.cell? ⟨w.heap.size,1,none⟩ = some (.int .i64 v)/\w'.cell? ⟨w.heap.size,2,none⟩ = some (.slice Al gs.length cl)/\w'.cell? ⟨w.heap.size,3,none⟩ = some (.int .i64 3)/\w'.cell? ⟨w.heap.size,4,none⟩ = some (.bool s)/\w'.cell? ⟨w.heap.size,5,none⟩ = some (.slice A m c)/\w'.cell? ⟨w.heap.size,6,none⟩ = some (.slice A' m' c')/\w'.cell? ⟨w.heap.size,7,none⟩ = some (.slice Am mix.length cm))
  (first | assumption | go_keep)
  (first
   | (go_at_call 90; refine (rl _ O v (.slice Al gs.length cl) gs 3 s A A' m c m' c' Am mix.length cm ((HL.o.grams.below B1.o).below (bS _)) HG.o (by have:=HT.o.2.2.2; omega)).mono ?_; rintro e wl ⟨b,rfl,hlv,hb'⟩; have hb:=bO hb'; have BB:=aH (B1.o.trans (hb.mono B1.o.size)); have LV:=aH hlv; have R1:=aH hb; have hS:=an (P1.o.below' hb); (unfold fs; rw [if_neg (by decide),if_pos rfl]); clear hlv hb hb')
   | (go_at_call 222; refine (vk O b v gs (by omega) HT.o s A A' m c m' c' a VA.o.1 VA.o.2.1 O _ _ hl (nR _) LV.o (HI.o.below BB.o) HLN.o HNK.o (HL.o.amount.below BB.o)).mono ?_; rintro e w2 ⟨b2,rfl,hb2,hf2,hbl⟩; have F2:=aH hf2; have B2:=aH (BB.o.trans (hbl.mono BB.o.size)); have s2:w.heap.size <= b2:=Nat.le_trans BB.o.size hb2; have hS:=an ((P1.o.below' R1.o).below' hbl); clear hf2 hbl hb2))
 all_goals
  go_wp2_with fail
  go_ret2
  exact ⟨b2,rfl,s2,F2.o,B2.o⟩

theorem rO (w:World) (O v:Nat) (lv:Value) (gs:List Gr) (s:Bool) (A A':Option Addr) (m c m' c':Nat) (mv:Value) (a:Rat) (mix:List Rat)(hv:Value)(hl:List Int)(h:LangAt w lv gs s A A' m c m' c' a mv mix)(hh:IntsAt w hv hl)(hE:bM O v gs 4 a mix hl = 0)(hv8:v <= 8) :
  Calls Tryz.prog 28 #[aG O v lv 4 s A A' m c m' c' mv,hv] w (uc w v (bw (ap O gs) v O hl)):=by
 obtain ⟨Al,cl,rfl,_,_,_⟩:=h.grams.open_
 obtain ⟨Am,cm,rfl,_,_,_⟩:=h.mixes.open_
 obtain ⟨Ah,ch,rfl,hlc,hcm,_⟩:=hh.open_
 have HL:=aH h
 have HI:=aH hh
 have HE:=aH hE
 have HG:=aH (dy (bI hE).1)
 have HT:=aH (bY (bI hE).1 hv8)
 have hO:=HG.o.2.1
 have HLN:Hd (hl.length = O - 1):=aH (by have:=(bI hE).2.2.1; omega)
 have HNK:Hd (NiceK hl):=aH ⟨by have:=HLN.o; omega,fun x hx=>by have:=(bI hE).2.2.2 x hx; omega⟩
 have hm:=vf
 clear h hh hE
 unfold aG
 go_enter Tryz.func28,Tryz.ntmps28
 go_wp2_with fail
 obtain ⟨W,hW,P0,PB,Phs⟩:=aA w 43 [.int .i64 O,.int .i64 v,.slice Al gs.length cl,.int .i64 4,.bool s,.slice A m c,.slice A' m' c',.slice Am mix.length cm]
 rw [<- hW]
 clear hW
 obtain ⟨p0,p1,p2,p3,p4,p5,p6,p7⟩:=an P0.o
 go_wp2_with fail
 refine (bU W O v (.slice Al gs.length cl) gs 4 s A A' m c m' c' (.slice Am mix.length cm) a mix _ hl (HL.o.below PB.o) (HI.o.below PB.o)).mono ?_
 rintro e w1 ⟨rfl,hb1⟩
 rw [HE.o]
 have P1:=aH (P0.o.below' hb1)
 have B1:=aH (PB.o.trans (hb1.mono PB.o.size))
 clear p0 p1 p2 p3 p4 p5 p6 p7 hb1 P0 PB
 obtain ⟨p0,p1,p2,p3,p4,p5,p6,p7⟩:=an P1.o
 have hS:=an P1.o
 go_wp2_with fail
 go_region_held3 (fun w'=>w'.cell? ⟨w.heap.size,0,none⟩ = some (.int .i64 O)/\w'.cell? ⟨w.heap.size,1,none⟩ = some (.int .i64 v)/\w'.cell? ⟨w.heap.size,2,none⟩ = some (.slice Al gs.length cl)/\w'.cell? ⟨w.heap.size,3,none⟩ = some (.int .i64 4)/\w'.cell? ⟨w.heap.size,4,none⟩ = some (.bool s)/\w'.cell? ⟨w.heap.size,5,none⟩ = some (.slice A m c)/\w'.cell? ⟨w.heap.size,6,none⟩ = some (.slice A' m' c')/\w'.cell? ⟨w.heap.size,7,none⟩ = some (.slice Am mix.length cm))
  (first | assumption | go_keep)
  (first
   | (go_at_call 90; refine (rl _ O v (.slice Al gs.length cl) gs 4 s A A' m c m' c' Am mix.length cm ((HL.o.grams.below B1.o).below (bS _)) HG.o (by have:=HT.o.2.2.2; omega)).mono ?_; rintro e wl ⟨b,rfl,hlv,hb'⟩; have hb:=bO hb'; have BB:=aH (B1.o.trans (hb.mono B1.o.size)); have LV:=aH hlv; have R1:=aH hb; have hS:=an (P1.o.below' hb); (unfold fs; rw [if_neg (by decide),if_neg (by decide),if_pos rfl]); clear hlv hb hb')
   | (go_at_call 225; refine (ro O b v gs (by omega) HT.o O _ _ hl (nR _) LV.o (HI.o.below BB.o) HLN.o HNK.o).mono ?_; rintro e w2 ⟨b2,rfl,hb2,hf2,hbl⟩; have F2:=aH hf2; have B2:=aH (BB.o.trans (hbl.mono BB.o.size)); have s2:w.heap.size <= b2:=Nat.le_trans BB.o.size hb2; have hS:=an ((P1.o.below' R1.o).below' hbl); clear hf2 hbl hb2))
 all_goals
  go_wp2_with fail
  go_ret2
  exact ⟨b2,rfl,s2,F2.o,B2.o⟩
end Go.Proofs.YtjebfdfkjlkifaaGreat
