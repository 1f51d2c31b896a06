/- Lemmas. -/
import Derived.Test.YtjebfdfkjlkifaaGreatR42
import Derived.Test.YtjebfdfkjlkifaaGreatR43
import Derived.Test.YtjebfdfkjlkifaaGreatR44
set_option linter.all false
set_option maxRecDepth 1000000
set_option maxHeartbeats 32000000
namespace Go.Proofs.YtjebfdfkjlkifaaGreat
open Go.RowKit
theorem iZ {V:Int} {gs:List Gr} {a:Raw} {rs:List Raw} (h:da V gs a rs = true):df V gs = true/\rs.length <= 8/\a.thin = true/\rs.all Raw.thin = true:=by
 unfold da at h
 simp only [Bool.and_eq_true,decide_eq_true_eq] at h
 exact ⟨h.1,h.2.1,h.2.2.1,h.2.2.2⟩
theorem rE {V:Int} {gs:List Gr} (h:df V gs = true):gs.length <= 60/\V <= 8:=by
 unfold df at h
 simp only [Bool.and_eq_true,decide_eq_true_eq] at h
 exact h.1
theorem yr {O V:Int} {gs:List Gr} {k:Int} {a:Rat} {mix:List Rat} {hl:List Int} (h:aJ O V gs k a mix = 0)(hb:(((hl.length:Int) == O - 1) && inR 0 V hl) = true):bM O V gs k a mix hl = 0:=by
 unfold bM
 rw [if_neg (by rw [h]; decide),if_pos (by simpa using hb)]
theorem LangAt.of {w:World} {lv:Value} {V:Int} {gs:List Gr} {s:Bool} {A A':Option Addr} {m c m' c':Nat} {mv:Value} {am:Raw} {rs:List Raw} (hg:GramsAt w lv gs)(ha:RawAt w (.agg #[.bool s,.slice A m c,.slice A' m' c']) am)(hm:RawsAt w mv rs)(h:da V gs am rs = true):LangAt w lv gs s A A' m c m' c' am.q mv (rs.map Raw.q) :=
 ⟨hg,ha.frac (iZ h).2.2.1,hm.fracs (iZ h).2.2.2,by rw [List.length_map]; have:=(iZ h).2.1; omega⟩
theorem fu {C D:Int->Int} {v:Nat} (h:∀ x:Nat,x <= v->C x = D x):aM C v = aM D v:=by
 unfold aM
 congr 1
 exact List.map_congr_left (fun x hx=>h x (by have:=List.mem_range.1 hx; omega))
def cZ (gs:List Gr)(h:List Int) (j:Nat) (x:Int):Int:=tot 0 (gs.take j) (h ++ [x])
theorem tK (gs:List Gr)(h:List Int):cZ gs h gs.length = fun x=>tot 0 gs (h ++ [x]):=by
 funext x
 unfold cZ
 rw [List.take_length]
theorem pI {p:List Int->Bool} {gs:List Gr} (h:∀ g ∈ gs,p g.1 = false):cA p gs = 0:=by
 have key:∀ (gs:List Gr) (a:Int),(∀ g ∈ gs,p g.1 = false)->gs.foldl (fun s g=>if p g.1 then s + g.2 else s) a = a:=by
  intro gs
  induction gs with
  | nil=>intros; rfl
  | cons g gs ih =>
   intro a hg
   rw [List.foldl_cons,hg g (by simp),ih _ (fun x hx=>hg x (by simp [hx]))]
   rfl
 exact key gs 0 h
theorem iP (gs:List Gr)(h:List Int) (x:Int):cZ gs h 0 x = 0:=by
 unfold cZ tot
 exact pI (fun g hg=>by cases hg)
theorem gp {gs:List Gr} {h:List Int} {j:Nat} {g:Gr} (hg:gs[j]? = some g) (x:Int):cZ gs h (j + 1) x = cZ gs h j x + if g.1 == h ++ [x] then g.2 else 0:=by
 unfold cZ tot
 have hj:=(sI.1 hg).1
 have e:gs.take (j + 1) = gs.take j ++ [g]:=by
  rw [List.take_add_one,hg]
  rfl
 rw [e,iC]
 simp only [List.drop_zero]
theorem lT {g h:List Int} {x:Int} (hl:g.length = h.length + 1):g = h ++ [x] ↔ g.take h.length = h/\g.getD h.length 0 = x:=by
 constructor
 ·intro e
  subst e
  simp [gD]
 rintro ⟨h1,h2⟩
 have h3:g.drop h.length = [x]:=by
  obtain ⟨y,hy⟩:∃ y,g[h.length]? = some y:=⟨_,eG (by omega)⟩
  rw [gD,hy] at h2
  have h2':y = x:=h2
  subst h2'
  apply List.ext_getElem?
  intro i
  rw [List.getElem?_drop]
  cases i with
  | zero=>rw [Nat.add_zero,hy]; rfl
  | succ i=>rw [nI.2 (by omega),nI.2 (by simp)]
 rw [<- List.take_append_drop h.length g,h1,h3]
theorem qP {gs:List Gr} {h:List Int} {j:Nat} {g:Gr} (hg:gs[j]? = some g)(hl:g.1.length = h.length + 1)(hm:g.1.take h.length ≠ h) (x:Int):cZ gs h (j + 1) x = cZ gs h j x:=by
 rw [gp hg,if_neg (by rw [beq_iff_eq,lT hl]; exact fun e=>hm e.1),Int.add_zero]
theorem map_set {f f':Nat->Value} {n y:Nat} (h:∀ x,x < n->x ≠ y->f' x = f x) {u:Value} (hu:f' y = u):((List.range n).map f).set y u = (List.range n).map f':=by
 apply List.ext_getElem?
 intro i
 by_cases hi:i < n
 ·by_cases hy:y = i
  ·subst hy
   rw [List.getElem?_set_self (by simpa using hi),List.getElem?_map,List.getElem?_range hi,<- hu]
   rfl
  rw [sN hy,List.getElem?_map,List.getElem?_map,List.getElem?_range hi]
  show some (f i) = some (f' i)
  rw [h i hi (fun e=>hy e.symm)]
 rw [nI.2 (by simp; omega),nI.2 (by simp; omega)]
def CntAt (w:World) (b v:Nat) (C:Int->Int):Prop:=Blk w b 3 ((List.range (v + 1)).map fun (x:Nat)=>.int .i64 (C (x:Int)))
theorem CntAt.cell {w:World} {b v:Nat} {C:Int->Int} (h:CntAt w b v C) {x:Nat} (hx:x < v + 1):w.cell? ⟨b,x,none⟩ = some (.int .i64 (C (x:Int))):=by
 have:=Blk.cell h x
 rwa [List.getElem?_map,List.getElem?_range hx] at this
theorem CntAt.of_eq {w:World} {b v:Nat} {C D:Int->Int} (h:CntAt w b v C) (e:∀ x:Nat,x <= v->C x = D x):CntAt w b v D:=by
 have hl:((List.range (v + 1)).map fun (x:Nat)=>Value.int .i64 (C (x:Int))) = (List.range (v + 1)).map fun (x:Nat)=>Value.int .i64 (D (x:Int)):=List.map_congr_left (fun x hx=>by rw [e x (by have:=List.mem_range.1 hx; omega)])
 unfold CntAt at h ⊢
 rwa [hl] at h
theorem ko (w:World) (z:Int)(h0:0 <= z)(h1:z < 9223372036854775808) :
  Calls Tryz.prog 33 #[.int .i64 z] w fun e w'=>∃ u,e = .returned u/\CanNew w.heap.size w' u (z:Rat)/\Below w.heap.size w w':=by
 obtain ⟨n,rfl⟩:=Int.eq_ofNat_of_zero_le h0
 have:=ofR w n (by omega)
 rwa [show ((n:Int):Rat) = (n:Rat) from Rat.intCast_natCast n]
theorem lR (w:World) (z d:Int)(h0:0 <= z)(h1:z < 9223372036854775808) (d0:0 < d) (d1:d < 9223372036854775808) :
  Calls Tryz.prog 35 #[.int .i64 z,.int .i64 d] w fun e w'=>∃ u,e = .returned u/\CanNew w.heap.size w' u ((z:Rat) / (d:Rat))/\Below w.heap.size w w':=by
 obtain ⟨n,rfl⟩:=Int.eq_ofNat_of_zero_le h0
 obtain ⟨k,rfl⟩:=Int.eq_ofNat_of_zero_le (Int.le_of_lt d0)
 have:=ic w n k (by omega) (by omega) (by omega)
 rwa [show ((n:Int):Rat) = (n:Rat) from Rat.intCast_natCast n,show ((k:Int):Rat) = (k:Rat) from Rat.intCast_natCast k]
theorem QB.sub {j k:Nat} {a b:Rat} (ha:QB j a)(hb:QB k b):QB (j + k + 1) (a - b):=by
 rw [Rat.sub_eq_add_neg]
 exact ha.add hb.neg
theorem n7 (v:Nat):aM (fun _=>0) v = 0:=by
 induction v with
 | zero=>exact dB _
 | succ v ih=>rw [dC,ih]; rfl
section
variable {row:List Int->List Rat} {V:Nat}
end
def LLOwn (B:Nat) (w:World) (v:Value) (ls:List (List Int)):Prop:=∃ cells,w.ownsRow B 44 1 v ls.length cells /\
 ∀ (i:Nat) (l:List Int),ls[i]? = some l->∃ c0,cells[i]? = some c0/\IntsAt w c0 l/\From c0 B/\∀ b,v.ownBlock = some b->Off c0 b
theorem Same.refl (F:Nat) (w:World):Same F w w:=⟨nR _,fun _ _ _=>rfl⟩
theorem Same.trans {F:Nat} {w w1 w2:World} (h:Same F w w1) (h':Same F w1 w2):Same F w w2 :=
 ⟨Nat.le_trans h.1 h'.1,fun b hb hl=>(h'.2 b hb (Nat.lt_of_lt_of_le hl h.1)).trans (h.2 b hb hl)⟩
theorem Same.of_below {F:Nat} {w w':World} (h:Below w.heap.size w w'):Same F w w':=⟨h.size,fun b _ hl=>h.block b hl⟩
theorem LLOwn.nil_ (B:Nat) (w:World):LLOwn B w (.slice none 0 0) []:=⟨[],World.ownsRow_nil ..,fun i l hl=>by simp at hl⟩
theorem LLOwn.same {B:Nat} {w w':World} {v:Value} {ls:List (List Int)} (h:LLOwn B w v ls)(hs:Same B w w'):LLOwn B w' v ls:=by
 obtain ⟨cells,h1,h2⟩:=h
 refine ⟨cells,?_,fun i l hl=>?_⟩
 ·obtain ⟨h0,h3 | ⟨g,cap,cur,hv,hg,hh,hr⟩⟩:=h1
  ·exact ⟨h0,.inl h3⟩
  exact ⟨h0,.inr ⟨g,cap,cur,hv,hg,(hs.2 g hg (Array.getElem?_eq_some_iff.1 hh).1).trans hh,hr⟩⟩
 obtain ⟨c0,e0,e1,e2,e3⟩:=h2 i l hl
 exact ⟨c0,e0,Sl.same e1 e2 hs,e2,e3⟩
theorem LLOwn.below {B:Nat} {w w':World} {v:Value} {ls:List (List Int)} (h:LLOwn B w v ls)(hb:Below w.heap.size w w'):LLOwn B w' v ls:=h.same (Same.of_below hb)
theorem LLOwn.new {B F:Nat} {w:World} {v:Value} {ls:List (List Int)} (h:LLOwn B w v ls)(hF:F <= B):ListsNew F w v ls:=by
 obtain ⟨cells,h1,h2⟩:=h
 refine ⟨cells,Sl.of_own h1,(From.of_own h1).mono hF,fun i l hl=>?_⟩
 obtain ⟨c0,e0,e1,e2,_⟩:=h2 i l hl
 exact ⟨c0,e0,e1,e2.mono hF⟩
theorem LLOwn.push {B:Nat} {w w1 w':World} {v v' c:Value} {ls:List (List Int)} {l:List Int} {cells:List Value} (h2:∀ (i:Nat) (l:List Int),ls[i]? = some l->∃ c0,cells[i]? = some c0/\IntsAt w c0 l/\From c0 B/\∀ b,v.ownBlock = some b->Off c0 b)(hlen:cells.length = ls.length)
  (hw:Same B w w1)(hc:IntsAt w1 c l)(hcf:From c B)(hco:∀ b,v.ownBlock = some b->Off c b)(hown:w'.ownsRow B 44 1 v' (ls.length + 1) (cells ++ [c]))(hg:w1.grownBy w' v.ownBlock)(hb:v'.ownBlock = v.ownBlock ∨ v'.ownBlock = some w1.heap.size):LLOwn B w' v' (ls ++ [l]):=by
 refine ⟨cells ++ [c],by rw [List.length_append]; exact hown,fun i m hm=>?_⟩
 have key:∀ (c0:Value) (m:List Int),IntsAt w1 c0 m->(∀ b,v.ownBlock = some b->Off c0 b)->IntsAt w' c0 m/\∀ b,v'.ownBlock = some b->Off c0 b:=fun c0 m h1 h3 =>
  ⟨Sl.keptOff h1 hg h3,fun b hb'=>by
   rcases hb with e | e
   ·exact h3 b (e ▸ hb')
   rw [e] at hb'
   cases hb'
   exact IntsAt.off h1 (nR _)⟩
 by_cases hi:i < ls.length
 ·rw [List.getElem?_append_left hi] at hm
  obtain ⟨c0,e0,e1,e2,e3⟩:=h2 i m hm
  obtain ⟨k1,k2⟩:=key c0 m (Sl.same e1 e2 hw) e3
  exact ⟨c0,by rw [List.getElem?_append_left (by omega)]; exact e0,k1,e2,k2⟩
 rw [List.getElem?_append_right (by omega)] at hm
 have hi2:i = ls.length:=by
  have:=(sI.1 hm).1
  simp at this
  omega
 subst hi2
 rw [Nat.sub_self] at hm
 cases hm
 obtain ⟨k1,k2⟩:=key c l hc hco
 exact ⟨c,by rw [List.getElem?_append_right (by omega),hlen,Nat.sub_self]; rfl,k1,hcf,k2⟩

def BoxA (w:World) (b:Nat) (q:Rat) (v:Value):Prop:=∃ A m c A' m' c',Blk w b 40 [.bool (ae q),.slice A m c,.slice A' m' c']/\CanAt w (.agg #[.bool (ae q),.slice A m c,.slice A' m' c']) q/\∀ r,v.ownBlock = some r->Off (.slice A m c) r/\Off (.slice A' m' c') r/\b ≠ r
theorem BoxA.box {w:World} {b:Nat} {q:Rat} {v:Value} (h:BoxA w b q v):BoxC w b q:=by
 obtain ⟨A,m,c,A',m',c',h1,h2,_⟩:=h
 exact BoxC.of h1 h2
theorem BoxA.below {w w':World} {b:Nat} {q:Rat} {v:Value} (h:BoxA w b q v)(hb:Below w.heap.size w w'):BoxA w' b q v:=by
 obtain ⟨A,m,c,A',m',c',h1,h2,h3⟩:=h
 exact ⟨A,m,c,A',m',c',h1.below' hb,h2.below hb,h3⟩
theorem NatAt.keptOff {w w':World} {v:Value} {n:Nat} {row:Option Nat} (h:NatAt w v n)(hg:w.grownBy w' row)(ho:∀ b,row = some b->Off v b):NatAt w' v n:=by
 obtain ⟨l,⟨h1,h2⟩,h3⟩:=h
 exact ⟨l,⟨Sl.keptOff h1 hg ho,h2⟩,h3⟩
theorem NatAt.offNew {w:World} {v:Value} {n F:Nat} (h:NatAt w v n)(hf:w.heap.size <= F):Off v F:=by
 obtain ⟨l,⟨h1,_⟩,_⟩:=h
 exact Sl.off h1 hf
theorem BoxA.push {w w':World} {b:Nat} {q:Rat} {v v':Value} (h:BoxA w b q v)(hg:w.grownBy w' v.ownBlock)(hb:v'.ownBlock = v.ownBlock ∨ v'.ownBlock = some w.heap.size):BoxA w' b q v':=by
 obtain ⟨A,m,c,A',m',c',h1,⟨vn,vd,e,n1,n2⟩,h3⟩:=h
 have e':[Value.bool (ae q),.slice A m c,.slice A' m' c'] = [.bool (ae q),vn,vd]:=by
  injection e with e
  exact congrArg Array.toList e
 simp only [List.cons.injEq,and_true,true_and] at e'
 obtain ⟨rfl,rfl⟩:=e'
 refine ⟨A,m,c,A',m',c',h1.grown hg (fun e=>(h3 b e.symm).2.2 rfl),⟨_,_,rfl,n1.keptOff hg (fun r hr=>(h3 r hr).1),n2.keptOff hg (fun r hr=>(h3 r hr).2.1)⟩,fun r hr=>?_⟩
 rcases hb with e | e
 ·exact h3 r (e ▸ hr)
 rw [e] at hr
 cases hr
 exact ⟨n1.offNew (nR _),n2.offNew (nR _),by have:=h1.lt; omega⟩
theorem BoxA.put {w:World} {b B:Nat} {q r:Rat} {v:Value} {A A':Option Addr} {m c m' c':Nat} (h:BoxC w b r)(hq:CanNew B w (.agg #[.bool (ae q),.slice A m c,.slice A' m' c']) q)(hv:∀ x,v.ownBlock = some x->x < B/\b ≠ x) :
  BoxA (((w.setCell ⟨b,0,none⟩ (.bool (ae q))).setCell ⟨b,1,none⟩ (.slice A m c)).setCell ⟨b,2,none⟩ (.slice A' m' c')) b q v:=by
 have hk:=FArc.keeps h hq.at_ 0 1 2 (ae q) A A' m c m' c'
 obtain ⟨vn,vd,e,_,_,f1,f2⟩:=hq
 have e':[Value.bool (ae q),.slice A m c,.slice A' m' c'] = [.bool (ae q),vn,vd]:=by
  injection e with e
  exact congrArg Array.toList e
 simp only [List.cons.injEq,and_true,true_and] at e'
 obtain ⟨rfl,rfl⟩:=e'
 obtain ⟨xs,h1,h2,_,_⟩:=h
 refine ⟨A,m,c,A',m',c',?_,hk,fun x hx=>⟨f1.off (hv x hx).1,f2.off (hv x hx).1,(hv x hx).2⟩⟩
 have h3:=((h1.set_ 0 (.bool (ae q))).set_ 1 (.slice A m c)).set_ 2 (.slice A' m' c')
 have e2:((xs.set 0 (.bool (ae q))).set 1 (.slice A m c)).set 2 (.slice A' m' c') = [.bool (ae q),.slice A m c,.slice A' m' c']:=by
  have h4:xs.length = 3:=by simpa using h2
  match xs,h4 with
  | [_,_,_],_=>rfl
 rwa [e2] at h3
end Go.Proofs.YtjebfdfkjlkifaaGreat
