/- Lemmas on the way: FRow, Fl1, RwQ, Sn2, Ct1. -/
import Derived.Test.YtdehimgccmbfkaaGreatT38
import Derived.Maps.OwnSet
import Derived.Deep.DrawnRows
set_option linter.all false
set_option maxRecDepth 1000000
set_option maxHeartbeats 32000000
namespace Go.Proofs.YtdehimgccmbfkaaGreat
open Go.RowKit
theorem FracAt.putBlk {k:Nat} {w:World} {a b c:Value} {q:Rat} {g:Nat} {e:TypeId} {xs:List Value} (h:FracAt k w (.agg #[a,b,c]) q)(hb:Blk w g e xs)(hx:∀ x ∈ xs,NoDig x) (i:Nat) (u:Value):FracAt k (w.setCell ⟨g,i,none⟩ u) (.agg #[a,b,c]) q:=by
 obtain ⟨ln,ld,hd1,hd2⟩:=h.digs
 exact h.setOff (p:=⟨g,i,none⟩) (hd1.offBlk hb hx) (hd2.offBlk hb hx) u
theorem FArk.far {k:Nat} {w:World} {b g:Nat} {qs:List Rat} {e:TypeId} {xs:List Value} (h:FArk k w b qs)(hb:Blk w g e xs)(hx:∀ x ∈ xs,NoDig x)(hne:b ≠ g) (i:Nat) (u:Value):FArk k (w.setCell ⟨g,i,none⟩ u) b qs:=by
 obtain ⟨ys,g1,g2,gx,g3⟩:=h
 refine ⟨ys,g1.far (p:=⟨g,i,none⟩) hne u,g2,gx,fun j r hr=>?_⟩
 obtain ⟨s1,A1,m1,c1,A1',m1',c1',e0,e1,e2,e3⟩:=g3 j r hr
 exact ⟨s1,A1,m1,c1,A1',m1',c1',e0,e1,e2,e3.putBlk hb hx _ _⟩

def RowsAt (K:Nat) (w:World) (b Ln p g:Nat) (R:Nat->List Rat):Prop:=∃ xs,Blk w b 32 xs/\xs.length = p + 1/\(∀ x ∈ xs,NoDig x)/\∀ j,g <= j->j <= p->∃ rb,xs[j]? = some (.slice (some ⟨rb,0,none⟩) Ln Ln)/\b < rb/\FArk K w rb (R j)
def InAt (K:Nat) (w:World) (b cur Ln p t:Nat) (R:Nat->List Rat) (part:List Rat):Prop:=∃ xs,Blk w b 32 xs/\xs.length = p + 1/\(∀ x ∈ xs,NoDig x)/\xs[t]? = some (.slice (some ⟨cur,0,none⟩) Ln Ln)/\b < cur/\FArk K w cur part /\
 ∀ j,t + 1 <= j->j <= p->∃ rb,xs[j]? = some (.slice (some ⟨rb,0,none⟩) Ln Ln)/\b < rb/\rb < cur/\FArk K w rb (R j)
theorem RowsAt.below {K:Nat} {w w':World} {b Ln p g:Nat} {R:Nat->List Rat} (h:RowsAt K w b Ln p g R)(hb:Below w.heap.size w w'):RowsAt K w' b Ln p g R:=by
 obtain ⟨xs,h1,h2,h3,h4⟩:=h
 refine ⟨xs,h1.below' hb,h2,h3,fun j hg hp=>?_⟩
 obtain ⟨rb,e,hl,hf⟩:=h4 j hg hp
 exact ⟨rb,e,hl,hf.below hb⟩
theorem RowsAt.row {K:Nat} {w:World} {b Ln p g:Nat} {R:Nat->List Rat} (h:RowsAt K w b Ln p g R) {j:Nat} (hg:g <= j)(hp:j <= p):∃ rb,w.cell? ⟨b,j,none⟩ = some (.slice (some ⟨rb,0,none⟩) Ln Ln)/\FArk K w rb (R j)/\b < w.heap.size:=by
 obtain ⟨xs,h1,h2,h3,h4⟩:=h
 obtain ⟨rb,e,hl,hf⟩:=h4 j hg hp
 exact ⟨rb,(h1.cell j).trans e,hf,h1.lt⟩
theorem InAt.below {K:Nat} {w w':World} {b cur Ln p t:Nat} {R:Nat->List Rat} {part:List Rat} (h:InAt K w b cur Ln p t R part)(hb:Below w.heap.size w w'):InAt K w' b cur Ln p t R part:=by
 obtain ⟨xs,h1,h2,h3,h4,h5,h6,h7⟩:=h
 refine ⟨xs,h1.below' hb,h2,h3,h4,h5,h6.below hb,fun j hg hp=>?_⟩
 obtain ⟨rb,e,hl,hlt,hf⟩:=h7 j hg hp
 exact ⟨rb,e,hl,hlt,hf.below hb⟩
theorem InAt.start {K:Nat} {w w2:World} {b Ln p t:Nat} {R:Nat->List Rat} (h:RowsAt K w b Ln p (t + 1) R)(hf:FArr (w.heap.size + 1) w2 w.heap.size (List.replicate Ln 0))(hb:Below w.heap.size w w2)(ht:t <= p)(h0:0 < K)(hK:K <= 17592186044416) :
  InAt K (w2.setCell ⟨b,t,none⟩ (.slice (some ⟨w.heap.size,0,none⟩) Ln Ln)) b w.heap.size Ln p t R (List.replicate Ln 0):=by
 obtain ⟨xs,h1,h2,h3,h4⟩:=h
 have hlt:=h1.lt
 have h1':=h1.below' hb
 refine ⟨_,h1'.set_ t _,by simpa using h2,noDig_set h3 _ (show NoDig (.slice _ _ _) from trivial),List.getElem?_set_self (by omega),hlt,(hf.zeros h0 hK).far h1' h3 (by omega) _ _,fun j hg hp=>?_⟩
 obtain ⟨rb,e,hl,hfr⟩:=h4 j hg hp
 exact ⟨rb,by rw [List.getElem?_set_ne (by omega)]; exact e,hl,hfr.lt,(hfr.below hb).far h1' h3 (by omega) _ _⟩
theorem InAt.done {K:Nat} {w:World} {b cur Ln p t:Nat} {R:Nat->List Rat} {part:List Rat} (h:InAt K w b cur Ln p t R part)(he:part = R t):RowsAt K w b Ln p t R:=by
 obtain ⟨xs,h1,h2,h3,h4,h5,h6,h7⟩:=h
 refine ⟨xs,h1,h2,h3,fun j hg hp=>?_⟩
 rcases Nat.eq_or_lt_of_le hg with e | e
 ·subst e
  exact ⟨cur,h4,h5,he ▸ h6⟩
 obtain ⟨rb,e,hl,hlt,hf⟩:=h7 j e hp
 exact ⟨rb,e,hl,hf⟩
theorem InAt.cell {K:Nat} {w:World} {b cur Ln p t:Nat} {R:Nat->List Rat} {part:List Rat} (h:InAt K w b cur Ln p t R part):w.cell? ⟨b,t,none⟩ = some (.slice (some ⟨cur,0,none⟩) Ln Ln)/\cur < w.heap.size/\b < w.heap.size:=by
 obtain ⟨xs,h1,h2,h3,h4,h5,h6,_⟩:=h
 exact ⟨(h1.cell t).trans h4,h6.lt,h1.lt⟩
theorem InAt.put {K:Nat} {w:World} {b cur Ln p t:Nat} {R:Nat->List Rat} {part:List Rat} (h:InAt K w b cur Ln p t R part) {i:Nat} (hi:i < part.length) {q:Rat} {s:Bool} {A A':Option Addr} {m c m' c':Nat} (hq:FracAt K w (.agg #[.bool s,.slice A m c,.slice A' m' c']) q) :
  InAt K (((w.setCell ⟨cur,i * 3,none⟩ (.bool s)).setCell ⟨cur,i * 3 + 1,none⟩ (.slice A m c)).setCell ⟨cur,i * 3 + 2,none⟩ (.slice A' m' c')) b cur Ln p t R (part.set i q):=by
 obtain ⟨xs,h1,h2,h3,h4,h5,h6,h7⟩:=h
 refine ⟨xs,((h1.far (p:=⟨cur,i * 3,none⟩) (show b ≠ cur by omega) _).far (p:=⟨cur,i * 3 + 1,none⟩) (show b ≠ cur by omega) _).far (p:=⟨cur,i * 3 + 2,none⟩) (show b ≠ cur by omega) _,h2,h3,h4,h5,h6.put hi hq,fun j hg hp=>?_⟩
 obtain ⟨rb,e,hl,hlt,hf⟩:=h7 j hg hp
 exact ⟨rb,e,hl,hlt,hf.put_other h6 (by omega) _ _ _ _ _ _ _ _⟩
section
open Go.RowKit
end
def Mild (C:Int->Int):Prop:=∀ x,0 <= C x/\C x <= 21474836480000
theorem sumC_succ (C:Int->Int) (v:Nat):sumC C (v + 1) = sumC C v + C ((v + 1:Nat):Int):=by
 unfold sumC
 rw [List.range_succ,List.map_append,List.sum_append]
 simp
theorem sumC_zero (C:Int->Int):sumC C 0 = C 0:=by
 unfold sumC
 simp
theorem sumC_bd {C:Int->Int} (h:Mild C) (v:Nat):0 <= sumC C v/\sumC C v <= ((v + 1:Nat):Int) * 21474836480000:=by
 induction v with
 | zero=>rw [sumC_zero]; have:=h 0; omega
 | succ v ih=>rw [sumC_succ]; have:=h ((v + 1:Nat):Int); omega
theorem qb_int {k:Nat} {z:Int} (h:z.natAbs < 2 ^ k)(hk:0 < k):QB k (z:Rat):=⟨by simpa using h,by simpa using Nat.one_lt_two_pow (n:=k) (by omega)⟩
theorem QB.div {j k:Nat} {a b:Rat} (ha:QB j a)(hb:QB k b)(hk:0 < k):QB (j + k) (a / b):=by
 rw [Rat.div_def]
 exact ha.mul (hb.inv hk)
theorem Mild.qb {C:Int->Int} (h:Mild C) (x:Int):QB 64 (C x:Rat):=qb_int (by have:=h x; omega) (by omega)
theorem Mild.qbsum {C:Int->Int} (h:Mild C) {v:Nat} (hv:v <= 8):QB 64 (sumC C v:Rat):=qb_int (by have:=sumC_bd h v; omega) (by omega)

theorem tot_mild {gs:List (List Int × Int)} (hg:∀ g ∈ gs,0 < g.2/\g.2 <= 1073741824)(hl:gs.length <= 20000) (d:Nat)(h:List Int):Mild (fun x=>tot d gs (h ++ [x])):=by
 intro x
 have h1:=totP_nonneg (p:=fun y=>y.drop d == h ++ [x]) (gs:=gs) (fun g hh=>Int.le_of_lt (hg g hh).1)
 have h2:=totP_le (p:=fun y=>y.drop d == h ++ [x]) (gs:=gs) (M:=1073741824) (fun g hh=>⟨Int.le_of_lt (hg g hh).1,(hg g hh).2⟩)
 simp only [tot]
 omega
theorem SeenAt.look {w:World} {mv:Value} {L:List (Int × Int)} {C:Int->Int} (h:SeenAt w mv L)(hC:CntI L C) {x:Int} (hx:0 <= x/\x <= 1000000) :
  (Instr.lookup 303 mv (.int .i64 x) false).run Tryz.prog w = .ok (.int .i64 (C x)) w:=by
 have hg:=int_good (x:=x) (by omega) (by omega)
 rcases h with ⟨rfl,rfl⟩ | ⟨b,rfl,hm⟩
 ·obtain ⟨kl,hkl⟩:=hg
  have h1:=Maps.look_nil (w:=w) false intLaw (show Tryz.prog.underlying 303 = some (.map 3 3) from Tryz.underlying303) (zeroInt w) hkl
  rw [h1,<- hC.2.1 x]
  rfl
 have h1:=TMap.look (e:=3) (k:=x) hm intLaw (show Tryz.prog.underlying 303 = some (.map 3 3) from Tryz.underlying303) (zeroInt w) hg (fun y _ he=>by injection he)
 rw [h1,<- hC.2.1 x]
 cases lookT L x <;> rfl
theorem SeenAt.len {w:World} {mv:Value} {L:List (Int × Int)} (h:SeenAt w mv L) (ty:TypeId):(Builtin.len_ #[303] ty #[mv]).run Tryz.prog w = .ok (.int .i64 (L.length:Int)) w:=by
 rcases h with ⟨rfl,rfl⟩ | ⟨b,rfl,hm⟩
 ·exact Maps.len_nil (show Tryz.prog.underlying 303 = some (.map 3 3) from Tryz.underlying303) ty
 have h1:=MapAt.len hm (show Tryz.prog.underlying 303 = some (.map 3 3) from Tryz.underlying303) ty
 rw [h1]
 simp [encM]
theorem SeenAt.drew {w:World} {mv:Value} {L:List (Int × Int)} (h:SeenAt w mv L):SeenAt w.drew mv L:=h

theorem key_le {gs:List (List Int × Int)} {d v:Nat} {h:List Int} {L:List (Int × Int)} (hg:∀ g ∈ gs,0 < g.2)(hw:∀ g ∈ gs,∀ x ∈ g.1,x <= (v:Int))(hC:CntI L (fun x=>tot d gs (h ++ [x]))):∀ e ∈ L,e.1 <= (v:Int):=by
 intro e he
 have h1:=nodup_at hC.1 he
 have h2:=hC.2.1 e.1
 rw [h1] at h2
 have h3:e.2 = tot d gs (h ++ [e.1]):=h2
 have h4:=(hC.2.2 e he).1
 rw [h3] at h4
 obtain ⟨g,hg1,hg2⟩:=(totP_pos hg).1 h4
 have h5:g.1.drop d = h ++ [e.1]:=by simpa using hg2
 exact hw g hg1 _ (List.mem_of_mem_drop (i:=d) (by rw [h5]; simp))

theorem below_new {w w':World} {o:Obj} (h:Below (w.alloc o).heap.size (w.alloc o) w'):Below w.heap.size w w':=((Below.refl _ w).alloc (Nat.le_refl _) o).trans (h.mono (by simp))
theorem below_new_drew {w w':World} {o:Obj} (h:Below (w.alloc o).drew.heap.size (w.alloc o).drew w'):Below w.heap.size w w':=below_new (below_of_drew h)
theorem below_alloc_self (w:World) (o:Obj):Below w.heap.size w (w.alloc o):=(Below.refl _ w).alloc (Nat.le_refl _) o
theorem below_alloc_drew (w:World) (o:Obj):Below w.heap.size w (w.alloc o).drew:=(below_alloc_self w o).trans ⟨rfl,rfl,rfl,Nat.le_refl _,fun _ _=>rfl⟩
theorem ofI (w:World) (z:Int)(h0:0 <= z)(h1:z < 9223372036854775808) :
  Calls Tryz.prog 92 #[.int .i64 z] w fun e w'=>∃ v',e = .returned v'/\CanNew w.heap.size w' v' (z:Rat)/\Below w.heap.size w w':=by
 obtain ⟨n,rfl⟩:=Int.eq_ofNat_of_zero_le h0
 have:=ofN w n (by omega)
 rwa [show ((n:Int):Rat) = (n:Rat) from Rat.intCast_natCast n]
def goodAt (O V:Int) (gs:List Gr) (i:Nat):Bool :=
 decide (((gs.getD i ([],0)).1.length:Int) = O) && inR 0 V (gs.getD i ([],0)).1 && decide (1 <= (gs.getD i ([],0)).2) && decide ((gs.getD i ([],0)).2 <= 1073741824) &&
  (decide (i = 0) || decide (ordL (gs.getD (i - 1) ([],0)).1 (gs.getD i ([],0)).1 < 0))
def tableE (O V:Int) (gs:List Gr):Int:=if 20000 < gs.length then 5 else if sizesB O V = true/\(List.range gs.length).all (goodAt O V gs) = true then 0 else 2
theorem tableE_long {O V:Int} {gs:List Gr} (h:20000 < gs.length):tableE O V gs = 5:=if_pos h
theorem tableE_size {O V:Int} {gs:List Gr} (h:¬ 20000 < gs.length)(hs:sizesB O V = false):tableE O V gs = 2:=by
 unfold tableE
 rw [if_neg h,if_neg]
 intro hc
 rw [hs] at hc
 cases hc.1
theorem tableE_bad {O V:Int} {gs:List Gr} {i:Nat} (h:¬ 20000 < gs.length)(hi:i < gs.length)(hb:goodAt O V gs i = false):tableE O V gs = 2:=by
 unfold tableE
 rw [if_neg h,if_neg]
 intro hc
 have:=List.all_eq_true.1 hc.2 i (List.mem_range.2 hi)
 rw [hb] at this
 cases this
theorem tableE_good {O V:Int} {gs:List Gr} (h:¬ 20000 < gs.length)(hs:sizesB O V = true)(hb:∀ i,i < gs.length->goodAt O V gs i = true):tableE O V gs = 0:=by
 unfold tableE
 rw [if_neg h,if_pos ⟨hs,List.all_eq_true.2 fun i hi=>hb i (List.mem_range.1 hi)⟩]
theorem getD_of {gs:List Gr} {i:Nat} {g:Gr} (h:gs[i]? = some g):gs.getD i ([],0) = g:=by rw [List.getD_eq_getElem?_getD,h]; rfl
theorem goodAt_false {O V:Int} {gs:List Gr} {i:Nat} {g:Gr} (hg:gs[i]? = some g)(h:¬ (g.1.length:Int) = O ∨ inR 0 V g.1 = false ∨ g.2 < 1 ∨ 1073741824 < g.2 ∨ (0 < i/\¬ ordL (gs.getD (i - 1) ([],0)).1 g.1 < 0)):goodAt O V gs i = false:=by
 unfold goodAt
 rw [getD_of hg]
 rcases h with h | h | h | h | ⟨h,h'⟩
 ·rw [decide_eq_false h]; rfl
 ·rw [h,Bool.and_false]; rfl
 ·rw [decide_eq_false (show ¬ 1 <= g.2 by omega),Bool.and_false]; rfl
 ·rw [decide_eq_false (show ¬ g.2 <= 1073741824 by omega),Bool.and_false]; rfl
 rw [decide_eq_false (show ¬ i = 0 by omega),decide_eq_false h',Bool.or_self,Bool.and_false]
theorem goodAt_true {O V:Int} {gs:List Gr} {i:Nat} {g:Gr} (hg:gs[i]? = some g)(h1:(g.1.length:Int) = O)(h2:inR 0 V g.1 = true)(h3:¬ g.2 < 1)(h4:¬ 1073741824 < g.2)(h5:0 < i->ordL (gs.getD (i - 1) ([],0)).1 g.1 < 0):goodAt O V gs i = true:=by
 unfold goodAt
 rw [getD_of hg,decide_eq_true h1,h2,decide_eq_true (show 1 <= g.2 by omega),decide_eq_true (show g.2 <= 1073741824 by omega)]
 rcases Nat.eq_zero_or_pos i with h | h
 ·rw [decide_eq_true h]; rfl
 rw [decide_eq_true (h5 h),Bool.or_true]; rfl
theorem goodAt_len {O V:Int} {gs:List Gr} {i:Nat} {g:Gr} (hg:gs[i]? = some g)(h:goodAt O V gs i = true):(g.1.length:Int) = O:=by
 unfold goodAt at h
 rw [getD_of hg] at h
 simp only [Bool.and_eq_true,decide_eq_true_eq] at h
 exact h.1.1.1.1

theorem checkTableG (w:World) (O V:Int) (lv:Value) (gs:List Gr)(h:GramsAt w lv gs) :
  Calls Tryz.prog 172 #[.agg #[.int .i64 O,.int .i64 V,lv]] w fun e w'=>e = .returned (.int .i64 (tableE O V gs))/\Below w.heap.size w w':=by
 obtain ⟨A,c,rfl,hlc,hcm,hat⟩:=h.open_
 have HAT:=Lib.hid hat
 clear h hat
 obtain ⟨n,hn⟩:∃ n,gs.length = n:=⟨_,rfl⟩
 rw [hn] at hlc ⊢
 have HN:=Lib.hid hn
 clear hn
 by_cases hlong:20000 < n
 ·have hd:decide (20000 < n) = true:=decide_eq_true hlong
  have hd2:decide ((20000:Int) < (n:Int)) = true:=decide_eq_true (by omega)
  have HE:Hid (tableE O V gs = 5):=Lib.hid (tableE_long (by rw [HN.out]; exact hlong))
  clear hlong
  go_enter Tryz.func172,Tryz.ntmps172
  go_wp2_with fail
  go_ret
  exact ⟨ret_i64 HE.out.symm,(Below.refl _ _).alloc (Nat.le_refl _) _⟩
 have hd:decide (20000 < n) = false:=decide_eq_false hlong
 have hd2:decide ((20000:Int) < (n:Int)) = false:=decide_eq_false (by omega)
 have HL:Hid (¬ 20000 < gs.length):=Lib.hid (by rw [HN.out]; exact hlong)
 clear hlong
 go_enter Tryz.func172,Tryz.ntmps172
 go_wp2_with fail
 obtain ⟨W,hW,P0,PB,Phs⟩:=box1 w 27 [.int .i64 O,.int .i64 V,.slice A n c]
 rw [<- hW]
 clear hW
 obtain ⟨p0,p1,p2,_,_,_⟩:=P0.out.three
 go_wp2_with fail
 refine (sizedG W O V).mono ?_
 rintro e w1 ⟨rfl,hb1⟩
 have P1:=Lib.hid (P0.out.below' hb1)
 have B1:=Lib.hid (PB.out.trans (hb1.mono (by omega)))
 clear p0 p1 p2 hb1 P0 PB
 obtain ⟨p0,p1,p2,_,_,_⟩:=P1.out.three
 obtain ⟨sb,hsb⟩:∃ b,sizesB O V = b:=⟨_,rfl⟩
 rw [hsb]
 have HSB:=Lib.hid hsb
 clear hsb
 cases sb
 ·have HE:Hid (tableE O V gs = 2):=Lib.hid (tableE_size HL.out HSB.out)
  go_wp2_with fail
  go_ret
  exact ⟨ret_i64 HE.out.symm,B1.out⟩
 clear hd hd2
 go_wp2_with fail
 have s1:w.heap.size < w1.heap.size:=P1.out.lt
 go_loopg [3,4,18] n (fun gh _ _ i wz=>∃ (j:Nat),i = .int .i64 j/\j + gh = n/\Hid (∀ k,k < j->goodAt O V gs k = true)/\Hid (Blk wz w.heap.size 27 [.int .i64 O,.int .i64 V,.slice A n c])/\Hid (Below w.heap.size w wz))
 case atStart=>exact ⟨0,rfl,by omega,Lib.hid (fun k hk=>by omega),P1,B1⟩
 clear p0 p1 p2 P1 B1
 obtain ⟨j,rfl,hj,HG,P1,B1⟩:=hrel
 obtain ⟨p0,p1,p2,_,_,_⟩:=P1.out.three
 have s2:w.heap.size < wr.heap.size:=P1.out.lt
 have s3:w.heap.size <= wr.heap.size:=by omega
 rcases Nat.eq_zero_or_pos gk with hh | hh
 ·subst hh
  obtain rfl:j = n:=by omega
  have HE:Hid (tableE O V gs = 0):=Lib.hid (tableE_good HL.out HSB.out (fun i hi=>HG.out i (by rw [HN.out] at hi; exact hi)))
  go_wp2_with fail
  go_ret
  exact ⟨ret_i64 HE.out.symm,B1.out⟩
 obtain ⟨gh,rfl⟩:∃ g,gk = g + 1:=⟨gk - 1,by omega⟩
 obtain ⟨x,hx⟩:∃ x,gs[j]? = some x:=⟨_,List.getElem?_eq_getElem (by rw [HN.out]; omega)⟩
 obtain ⟨ba,oa,a0,rfl,hba,ea0,ea1,fa⟩:=HAT.out j x hx
 have d0:=(B1.out.cell (p:=⟨ba,oa + j * 2,none⟩) hba).trans ea0
 have d1:=(B1.out.cell (p:=⟨ba,oa + j * 2 + 1,none⟩) hba).trans ea1
 have FA:=Lib.hid (fa.below B1.out)
 have HX:=Lib.hid hx
 have hz3:ba < wr.heap.size:=by omega
 clear hx ea0 ea1
 obtain ⟨A1,k1,hA1⟩:=fa.len
 subst hA1
 clear fa
 have HBAD:Hid ((¬ (x.1.length:Int) = O ∨ inR 0 V x.1 = false ∨ x.2 < 1 ∨ 1073741824 < x.2 ∨ (0 < j/\¬ ordL (gs.getD (j - 1) ([],0)).1 x.1 < 0))->tableE O V gs = 2):=Lib.hid (fun hc=>tableE_bad HL.out (by rw [HN.out]; omega) (goodAt_false HX.out hc))
 obtain ⟨x1,x2⟩:=x
 simp only at d0 d1 FA HBAD
 obtain ⟨m,hm⟩:∃ m,x1.length = m:=⟨_,rfl⟩
 rw [hm] at d0
 have HM:=Lib.hid hm
 rw [hm] at HBAD
 clear hm
 by_cases hml:(m:Int) = O
 ·have e1:((m:Int) != O) = false:=by simpa using hml
  have HML:=Lib.hid hml
  clear hml
  go_wp2_with fail
  obtain ⟨W2,hW2,G0,GB,Ghs⟩:=box1 wr 127 [.slice A1 m k1,.int .i64 x2]
  rw [<- hW2]
  clear hW2
  refine (withinG W2 _ x1 0 V (by rw [HM.out] at FA; exact FA.out.below GB.out)).mono ?_
  rintro e w3 ⟨rfl,hb3⟩
  have G3:=Lib.hid (G0.out.below' hb3)
  have P3:=Lib.hid ((P1.out.below' GB.out).below' hb3)
  have BE:=Lib.hid (B1.out.trans ((GB.out.trans (hb3.mono GB.out.size)).mono B1.out.size))
  have BR3:=Lib.hid (GB.out.trans (hb3.mono GB.out.size))
  clear d0 d1 p0 p1 p2 hb3 G0 GB P1 B1
  obtain ⟨p0,p1,p2,_,_,_⟩:=P3.out.three
  have g0:=G3.out.cell 0
  have g1:=G3.out.cell 1
  simp only [List.getElem?_cons_zero,List.getElem?_cons_succ] at g0 g1
  obtain ⟨ib,hib⟩:∃ b,inR 0 V x1 = b:=⟨_,rfl⟩
  rw [hib]
  have HIB:=Lib.hid hib
  clear hib
  cases ib
  ·have HE:=Lib.hid (HBAD.out (.inr (.inl HIB.out)))
   go_wp2_with fail
   go_ret
   exact ⟨ret_i64 HE.out.symm,BE.out⟩
  by_cases hx1:x2 < 1
  ·have HE:=Lib.hid (HBAD.out (.inr (.inr (.inl hx1))))
   have e2:decide (x2 < 1) = true:=decide_eq_true hx1
   clear hx1
   go_wp2_with fail
   go_ret
   exact ⟨ret_i64 HE.out.symm,BE.out⟩
  have e2:decide (x2 < 1) = false:=decide_eq_false hx1
  by_cases hx2:1073741824 < x2
  ·have HE:=Lib.hid (HBAD.out (.inr (.inr (.inr (.inl hx2)))))
   have e3:decide (1073741824 < x2) = true:=decide_eq_true hx2
   clear hx1 hx2
   go_wp2_with fail
   go_ret
   exact ⟨ret_i64 HE.out.symm,BE.out⟩
  have e3:decide (1073741824 < x2) = false:=decide_eq_false hx2
  have HX12:=Lib.hid (And.intro hx1 hx2)
  clear hx1 hx2
  go_wp2_with fail
  clear e2 e3
  rcases Nat.eq_zero_or_pos j with hj0 | hj0
  ·subst hj0
   have HGT:=Lib.hid (goodAt_true (O:=O) (V:=V) HX.out (by rw [HM.out]; exact HML.out) HIB.out (by have:=HX12.out; simp only; omega) (by have:=HX12.out; simp only; omega) (fun h=>by omega))
   go_quiet (fail)
   go_wp2_with fail
   go_roundg gh
   case measure=>omega
   case rel=>exact ⟨1,rfl,by omega,Lib.hid (fun k hk=>by rw [show k = 0 by omega]; exact HGT.out),Lib.hid (P3.out.drewN _),Lib.hid (below_drewN BE.out _)⟩
  obtain ⟨i,rfl⟩:∃ i,j = i + 1:=⟨j - 1,by omega⟩
  obtain ⟨y,hy⟩:∃ y,gs[i]? = some y:=⟨_,List.getElem?_eq_getElem (by rw [HN.out]; omega)⟩
  obtain ⟨bb,ob,b0,eb,hbb,eb0,eb1,fb⟩:=HAT.out i y hy
  cases eb
  have d0:=(BE.out.cell (p:=⟨ba,oa + i * 2,none⟩) hbb).trans eb0
  have HYL:=Lib.hid (goodAt_len hy (HG.out i (by omega)))
  obtain ⟨A2,k2,hA2⟩:=fb.len
  subst hA2
  have FB:=Lib.hid (fb.below BE.out)
  have FA3:Hid (IntsAt w3 (.slice A1 m k1) x1):=Lib.hid (by rw [<- HM.out]; exact FA.out.below BR3.out)
  have HOL:Hid (cmpL y.1 x1 = ordL (gs.getD (i + 1 - 1) ([],0)).1 x1):=Lib.hid (by
   rw [show i + 1 - 1 = i by omega,getD_of hy]
   exact cmpL_ord (by have h1:=HYL.out; have h2:=HML.out; have h3:=HM.out; omega))
  obtain ⟨cv,hcv⟩:∃ c,cmpL y.1 x1 = c:=⟨_,rfl⟩
  rw [hcv] at HOL
  obtain ⟨p,hp⟩:∃ p,y.1.length = p:=⟨_,rfl⟩
  rw [hp] at d0 FB
  have CM:Hid (∀ W',IntsAt W' (.slice A2 p k2) y.1->IntsAt W' (.slice A1 m k1) x1->Calls Tryz.prog 213 #[.slice A2 p k2,.slice A1 m k1] W' fun e w'=>e = .returned (.int .i64 cv)/\w' = W'):=Lib.hid (fun W' h1 h2=>by
   rw [<- hcv]
   exact (cmpG W' _ _ _ _ h1 h2).mono (fun e w' ⟨a,b⟩=>⟨a,b.symm⟩))
  have i1:IntKind.i64.wrap ((i:Int) + 1 - 1) = (i:Int):=by rw [show (i:Int) + 1 - 1 = i by omega]; exact IntWalk.i64_in _ (by omega)
  have i2:IntKind.i64.wrap (i:Int) = (i:Int):=IntWalk.i64_in _ (by omega)
  have j1:(0:Int) <= (i:Int):=by omega
  have j2:(i:Int) < (n:Int):=by omega
  have j3:decide ((0:Int) < (i:Int) + 1) = true:=decide_eq_true (by omega)
  have j4:decide (0 < i + 1) = true:=decide_eq_true (by omega)
  clear hy eb0 eb1 fb hcv hp
  by_cases hc:cv < 0
  ·have e5:decide (0 <= cv) = false:=decide_eq_false (by omega)
   have HGT:=Lib.hid (goodAt_true (O:=O) (V:=V) HX.out (by rw [HM.out]; exact HML.out) HIB.out (by have:=HX12.out; simp only; omega) (by have:=HX12.out; simp only; omega) (fun _=>by rw [<- HOL.out]; exact hc))
   clear hc
   go_quiet ((go_at_call 213; exact Calls.quiet_of_same (CM.out _ (FB.out.drewN _) (FA3.out.drewN _))))
   go_wp2_with fail
   go_roundg gh
   case measure=>omega
   case rel=>exact ⟨i + 1 + 1,rfl,by omega,Lib.hid (fun k hk=>by
    by_cases e:k = i + 1
    ·rw [e]; exact HGT.out
    ·exact HG.out k (by omega)),Lib.hid (P3.out.drewN _),Lib.hid (below_drewN BE.out _)⟩
  have e5:decide (0 <= cv) = true:=decide_eq_true (by omega)
  have HE:=Lib.hid (HBAD.out (.inr (.inr (.inr (.inr ⟨by omega,by rw [<- HOL.out]; omega⟩)))))
  clear hc
  go_quiet ((go_at_call 213; exact Calls.quiet_of_same (CM.out _ (FB.out.drewN _) (FA3.out.drewN _))))
  go_wp2_with fail
  go_ret
  exact ⟨ret_i64 HE.out.symm,below_drewN BE.out _⟩
 have e1:((m:Int) != O) = true:=by simpa using hml
 have HE:=Lib.hid (HBAD.out (.inl hml))
 have BE:=Lib.hid (B1.out.trans ((below_alloc_self wr (.cells #[.slice A1 m k1,.int .i64 x2] 127)).mono B1.out.size))
 clear hml
 go_wp2_with fail
 go_ret
 exact ⟨ret_i64 HE.out.symm,BE.out⟩
end Go.Proofs.YtdehimgccmbfkaaGreat
