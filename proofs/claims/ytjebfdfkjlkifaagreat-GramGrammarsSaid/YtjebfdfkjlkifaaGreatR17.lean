/- Lemmas. -/
import Derived.Test.YtjebfdfkjlkifaaGreatR16
set_option linter.all false
set_option maxRecDepth 1000000
set_option maxHeartbeats 32000000
namespace Go.Proofs.YtjebfdfkjlkifaaGreat
open Go.RowKit
def IntsAt (w:World) (v:Value) (l:List Int):Prop:=Sl w 1 v l.length (l.map (Value.int .i64))
theorem IntsAt.below {w w':World} {v:Value} {l:List Int} (h:IntsAt w v l)(hb:Below w.heap.size w w'):IntsAt w' v l:=Sl.below h hb
theorem IntsAt.drew {w:World} {v:Value} {l:List Int} (h:IntsAt w v l):IntsAt w.drew v l:=h
theorem IntsAt.drewN {w:World} {v:Value} {l:List Int} (h:IntsAt w v l) (n:Nat):IntsAt (w.drewN n) v l:=h
theorem IntsAt.nil_ (w:World):IntsAt w (.slice none 0 0) []:=Sl.nil_ _ _
theorem IntsAt.open_ {w:World} {v:Value} {l:List Int} (h:IntsAt w v l):∃ A c,v = .slice A l.length c/\l.length <= c/\c <= 9223372036854775807 /\
  ∀ j x,l[j]? = some x->∃ b off,A = some ⟨b,off,none⟩/\b < w.heap.size/\w.cell? ⟨b,off + j,none⟩ = some (.int .i64 x):=by
 obtain ⟨h0,A,c,rfl,hc,hm,h5⟩:=h
 refine ⟨A,c,rfl,hc,by unfold maxLen at hm; omega,fun j x hx=>?_⟩
 have hj:=(sI.1 hx).1
 obtain ⟨b,off,e,hlt,hcell⟩:=h5 (by omega)
 exact ⟨b,off,e,hlt,hcell j _ (by rw [List.getElem?_map,hx]; rfl)⟩

def aN:List Int->List Int->Int
 | x :: a,y :: b=>if x = y then aN a b else if x < y then -1 else 1
 | _,_=>0
theorem o8 {a b:List Int} {j:Nat} {x y:Int} (ht:a.take j = b.take j)(hx:a[j]? = some x)(hy:b[j]? = some y)(hne:x ≠ y):aN a b = if x < y then -1 else 1:=by
 induction j generalizing a b with
 | zero =>
  cases a <;> cases b <;> simp at hx hy
  subst hx
  subst hy
  simp [aN,hne]
 | succ j ih =>
  cases a with
  | nil=>simp at hx
  | cons p a =>
   cases b with
   | nil=>simp at hy
   | cons q b =>
    simp at ht hx hy
    obtain ⟨rfl,ht⟩:=ht
    simp only [aN,if_true]
    exact ih ht hx hy
theorem mT {a b:List Int} (h:a = b.take a.length):aN a b = 0:=by
 induction a generalizing b with
 | nil=>simp [aN]
 | cons x a ih =>
  cases b with
  | nil=>simp at h
  | cons y b =>
   simp at h
   obtain ⟨rfl,h⟩:=h
   simp only [aN,if_true]
   exact ih h

theorem p9 (w:World) (va vb:Value) (a b:List Int)(ha:IntsAt w va a)(hb:IntsAt w vb b)(hl:a.length <= b.length) :
  Calls Tryz.prog 83 #[va,vb] w fun e w'=>e = .returned (.int .i64 (aN a b))/\Below w.heap.size w w':=by
 obtain ⟨A,ca,rfl,hlc,hcm,hA⟩:=ha.open_
 obtain ⟨B,cb,rfl,hmc,hcm',hB⟩:=hb.open_
 have HA:=aH hA
 have HB:=aH hB
 clear ha hb hA hB
 obtain ⟨n,hn⟩:=nm (a.length)
 obtain ⟨p,hp⟩:=nm (b.length)
 rw [hn] at hlc hl ⊢
 rw [hp] at hmc hl ⊢
 have HN:=aH hn
 have HP:=aH hp
 clear hn hp
 go_enter Tryz.func83,Tryz.ntmps83
 go_wp2_with fail
 go_loopg [5] n (fun g i wr=>∃ (j:Nat),(∃ d,wr = w.drewN d)/\i = .int .i64 j/\j + g = n/\Hd (a.take j = b.take j))
 case atStart=>exact ⟨0,⟨0,rfl⟩,rfl,by omega,aH rfl⟩
 obtain ⟨j,⟨nd,rfl⟩,rfl,hj,HQ⟩:=hrel
 rcases zP gk with h | h
 ·obtain rfl:j = n:=by omega
  have HT:Hd (aN a b = 0):=aH (mT (by
   have:=HQ.o
   rw [tL (by rw [HN.o]; exact nR _)] at this
   rw [HN.o]; exact this))
  go_wp2_with fail
  go_ret
  exact ⟨ag HT.o.symm,ak (Below.refl _ _) _⟩
 obtain ⟨g,rfl⟩:∃ g,gk = g + 1:=⟨gk - 1,by omega⟩
 obtain ⟨x,hx⟩:∃ x,a[j]? = some x:=⟨_,eG (by rw [HN.o]; omega)⟩
 obtain ⟨y,hy⟩:∃ y,b[j]? = some y:=⟨_,eG (by rw [HP.o]; omega)⟩
 obtain ⟨ba,oa,rfl,_,hc⟩:=HA.o j x hx
 obtain ⟨bb,ob,rfl,_,hc'⟩:=HB.o j y hy
 have HX:=aH hx
 have HY:=aH hy
 clear hx hy
 by_cases hxy:x = y
 ·subst hxy
  have hne:(x != x) = false:=by simp
  go_wp2_with fail
  go_quiet (fail)
  go_wp2_with fail
  go_roundg g
  case measure=>omega
  case rel=>exact ⟨j + 1,⟨_,rfl⟩,rfl,by omega,aH (by rw [ah _ HX.o,ah _ HY.o,HQ.o])⟩
 have hne:(x != y) = true:=by simpa using hxy
 have HF:=aH (o8 HQ.o HX.o HY.o hxy)
 clear hxy
 by_cases hlt:x < y
 ·have HF2:Hd (aN a b = -1):=aH (by rw [HF.o,if_pos hlt])
  have hd:decide (x < y) = true:=dT hlt
  clear hlt
  go_wp2_with fail
  go_quiet (fail)
  go_wp2_with fail
  go_quiet (fail)
  go_wp2_with fail
  go_ret
  exact ⟨ag HF2.o.symm,ak (ak (ak (Below.refl _ _) _) _) _⟩
 have HF2:Hd (aN a b = 1):=aH (by rw [HF.o,if_neg hlt])
 have hd:decide (x < y) = false:=dF hlt
 clear hlt
 go_wp2_with fail
 go_quiet (fail)
 go_wp2_with fail
 go_quiet (fail)
 go_wp2_with fail
 go_ret
 exact ⟨ag HF2.o.symm,ak (ak (ak (Below.refl _ _) _) _) _⟩
def inR (lo hi:Int) (l:List Int):Bool:=l.all fun x=>decide (lo <= x) && decide (x <= hi)
theorem m9 {lo hi:Int} {l:List Int} {j:Nat} {x:Int} (hx:l[j]? = some x):inR lo hi (l.drop j) = ((decide (lo <= x) && decide (x <= hi)) && inR lo hi (l.drop (j + 1))):=by
 have hj:=(sI.1 hx).1
 have:l[j] = x:=by rw [eG hj] at hx; injection hx
 rw [List.drop_eq_getElem_cons hj,this]
 rfl
theorem inR_iff {lo hi:Int} {l:List Int}:inR lo hi l = true ↔ ∀ x ∈ l,lo <= x/\x <= hi:=by
 simp [inR,List.all_eq_true]

def bu (o v:Int):Bool:=decide (1 <= o) && decide (o <= 4) && decide (1 <= v) && decide (v <= 2000)

theorem vF (w:World) (o v:Int) :
  Calls Tryz.prog 21 #[.int .i64 o,.int .i64 v] w fun e w'=>e = .returned (.bool (bu o v))/\Below w.heap.size w w':=by
 have HT:Hd (bu o v = (decide (1 <= o) && decide (o <= 4) && decide (1 <= v) && decide (v <= 2000))):=aH rfl
 by_cases h1:1 <= o
 ·have d1:=dT h1
  by_cases h2:o <= 4
  ·have d2:=dT h2
   by_cases h3:1 <= v
   ·have d3:=dT h3
    by_cases h4:v <= 2000
    ·have d4:=dT h4
     have HB:Hd (bu o v = true):=aH (by rw [HT.o,d1,d2,d3,d4]; rfl)
     clear h1 h2 h3 h4
     go_enter Tryz.func21,Tryz.ntmps21
     go_wp2_with fail
     go_ret
     exact ⟨ai HB.o.symm,Below.refl _ _⟩
    have d4:=dF h4
    have HB:Hd (bu o v = false):=aH (by rw [HT.o,d1,d2,d3,d4]; rfl)
    clear h1 h2 h3 h4
    go_enter Tryz.func21,Tryz.ntmps21
    go_wp2_with fail
    go_ret
    exact ⟨ai HB.o.symm,Below.refl _ _⟩
   have d3:=dF h3
   have HB:Hd (bu o v = false):=aH (by rw [HT.o,d1,d2,d3]; rfl)
   clear h1 h2 h3
   go_enter Tryz.func21,Tryz.ntmps21
   go_wp2_with fail
   go_ret
   exact ⟨ai HB.o.symm,Below.refl _ _⟩
  have d2:=dF h2
  have HB:Hd (bu o v = false):=aH (by rw [HT.o,d1,d2]; rfl)
  clear h1 h2
  go_enter Tryz.func21,Tryz.ntmps21
  go_wp2_with fail
  go_ret
  exact ⟨ai HB.o.symm,Below.refl _ _⟩
 have d1:=dF h1
 have HB:Hd (bu o v = false):=aH (by rw [HT.o,d1]; rfl)
 clear h1
 go_enter Tryz.func21,Tryz.ntmps21
 go_wp2_with fail
 go_ret
 exact ⟨ai HB.o.symm,Below.refl _ _⟩

theorem hZ {a b:List Int} (hl:a.length = b.length):aN a b = 0 ↔ a = b:=by
 induction a generalizing b with
 | nil=>cases b <;> simp_all [aN]
 | cons x a ih =>
  cases b with
  | nil=>simp at hl
  | cons y b =>
   simp only [aN]
   by_cases h:x = y
   ·subst h
    rw [if_pos rfl,ih (by simpa using hl)]
    simp
   rw [if_neg h]
   constructor
   ·intro h'; split at h' <;> omega
   intro h'; simp_all
def bC:List Int->List Int->Int
 | [],[]=>0
 | [],_ :: _=>-1
 | _ :: _,[]=>1
 | x :: a,y :: b=>if x = y then bC a b else if x < y then -1 else 1
theorem uV {a b:List Int} {j:Nat} {x y:Int} (ht:a.take j = b.take j)(hx:a[j]? = some x)(hy:b[j]? = some y)(hne:x ≠ y):bC a b = if x < y then -1 else 1:=by
 induction j generalizing a b with
 | zero =>
  cases a <;> cases b <;> simp at hx hy
  subst hx
  subst hy
  simp [bC,hne]
 | succ j ih =>
  cases a with
  | nil=>simp at hx
  | cons p a =>
   cases b with
   | nil=>simp at hy
   | cons q b =>
    simp at ht hx hy
    obtain ⟨rfl,ht⟩:=ht
    simp only [bC,if_true]
    exact ih ht hx hy
theorem qV {a b:List Int} (h:a.take b.length = b)(hl:b.length < a.length):bC a b = 1:=by
 induction b generalizing a with
 | nil =>
  cases a with
  | nil=>simp at hl
  | cons x a=>rfl
 | cons y b ih =>
  cases a with
  | nil=>simp at hl
  | cons x a =>
   simp at h hl
   obtain ⟨rfl,h⟩:=h
   simp only [bC,if_true]
   exact ih h hl
theorem tP {a b:List Int} (h:a = b.take a.length):bC a b = if a.length < b.length then -1 else 0:=by
 induction a generalizing b with
 | nil =>
  cases b with
  | nil=>rfl
  | cons y b=>simp [bC]
 | cons x a ih =>
  cases b with
  | nil=>simp at h
  | cons y b =>
   simp at h
   obtain ⟨rfl,h⟩:=h
   simp only [bC,if_true,List.length_cons,Nat.add_lt_add_iff_right]
   exact ih h
theorem iu {a b:List Int} (h:a.length = b.length):bC a b = aN a b:=by
 induction a generalizing b with
 | nil =>
  cases b with
  | nil=>rfl
  | cons y b=>simp at h
 | cons x a ih =>
  cases b with
  | nil=>simp at h
  | cons y b =>
   simp at h
   simp only [bC,aN]
   rw [ih h]

theorem xf (w:World) (va vb:Value) (a b:List Int)(ha:IntsAt w va a)(hb:IntsAt w vb b) :
  Calls Tryz.prog 86 #[va,vb] w fun e w'=>e = .returned (.int .i64 (bC a b))/\w = w':=by
 obtain ⟨A,ca,rfl,hlc,hcm,hA⟩:=ha.open_
 obtain ⟨B,cb,rfl,hmc,hcm',hB⟩:=hb.open_
 have HA:=aH hA
 have HB:=aH hB
 clear ha hb hA hB
 obtain ⟨n,hn⟩:=nm (a.length)
 obtain ⟨p,hp⟩:=nm (b.length)
 rw [hn] at hlc ⊢
 rw [hp] at hmc ⊢
 have HN:=aH hn
 have HP:=aH hp
 clear hn hp
 go_enter Tryz.func86,Tryz.ntmps86
 go_wp2_with fail
 go_loopg [5,6,7,8,11] n (fun g _ _ _ _ i wr=>∃ (j:Nat),wr = w/\i = .int .i64 j/\j + g = n/\j <= p/\Hd (a.take j = b.take j))
 case atStart=>exact ⟨0,rfl,rfl,by omega,by omega,aH rfl⟩
 obtain ⟨j,rfl,rfl,hj,hjp,HQ⟩:=hrel
 rcases zP gk with h | h
 ·obtain rfl:j = n:=by omega
  have HT:Hd (bC a b = if j < p then -1 else 0):=aH (by
   have h1:=tP (a:=a) (b:=b) (by
    have:=HQ.o
    rw [tL (by rw [HN.o]; exact nR _)] at this
    rw [HN.o]; exact this)
   rwa [HN.o,HP.o] at h1)
  by_cases hlt:j < p
  ·have hd:decide (j < p) = true:=dT hlt
   have HT2:Hd (bC a b = -1):=aH (by rw [HT.o,if_pos hlt])
   go_wp2_with fail
   go_ret
   exact ⟨ag HT2.o.symm,rfl⟩
  have hd:decide (j < p) = false:=dF hlt
  have HT2:Hd (bC a b = 0):=aH (by rw [HT.o,if_neg hlt])
  go_wp2_with fail
  go_ret
  exact ⟨ag HT2.o.symm,rfl⟩
 obtain ⟨g,rfl⟩:∃ g,gk = g + 1:=⟨gk - 1,by omega⟩
 obtain ⟨x,hx⟩:∃ x,a[j]? = some x:=⟨_,eG (by rw [HN.o]; omega)⟩
 obtain ⟨ba,oa,rfl,_,hc⟩:=HA.o j x hx
 by_cases hjl:j < p
 ·obtain ⟨y,hy⟩:∃ y,b[j]? = some y:=⟨_,eG (by rw [HP.o]; omega)⟩
  obtain ⟨bb,ob,rfl,_,hc'⟩:=HB.o j y hy
  have HX:=aH hx
  have HY:=aH hy
  have hd:decide (p <= j) = false:=dF (by omega)
  have hd2:decide ((p:Int) <= (j:Int)) = false:=dF (by omega)
  clear hx hy
  by_cases hxy:x = y
  ·subst hxy
   have hcc:Lib.compareInt x x = 0:=by simp [Lib.compareInt]
   go_wp2_with fail
   refine (Tryz.cmp_Compare_int x x _).mono ?_
   rintro e w2 ⟨rfl,rfl⟩
   rw [hcc]
   go_wp2_with fail
   go_roundg g
   case measure=>omega
   case rel=>exact ⟨j + 1,rfl,rfl,by omega,by omega,aH (by rw [ah _ HX.o,ah _ HY.o,HQ.o])⟩
  have HF:=aH (uV HQ.o HX.o HY.o hxy)
  by_cases hlt:x < y
  ·have hcc:Lib.compareInt x y = -1:=by simp [Lib.compareInt,hlt]
   have HF2:Hd (bC a b = -1):=aH (by rw [HF.o,if_pos hlt])
   clear hxy hlt
   go_wp2_with fail
   refine (Tryz.cmp_Compare_int x y _).mono ?_
   rintro e w2 ⟨rfl,rfl⟩
   rw [hcc]
   go_wp2_with fail
   go_ret
   exact ⟨ag HF2.o.symm,rfl⟩
  have hcc:Lib.compareInt x y = 1:=by
   have h1:y < x:=by omega
   have h2:¬ x < y:=hlt
   simp [Lib.compareInt,h1,h2]
  have HF2:Hd (bC a b = 1):=aH (by rw [HF.o,if_neg hlt])
  clear hxy hlt
  go_wp2_with fail
  refine (Tryz.cmp_Compare_int x y _).mono ?_
  rintro e w2 ⟨rfl,rfl⟩
  rw [hcc]
  go_wp2_with fail
  go_ret
  exact ⟨ag HF2.o.symm,rfl⟩
 obtain rfl:j = p:=by omega
 have HF2:Hd (bC a b = 1):=aH (qV (by
  rw [HP.o,HQ.o,tL (by rw [HP.o]; exact nR _)]) (by rw [HP.o,HN.o]; omega))
 clear hx
 go_wp2_with fail
 go_ret
 exact ⟨ag HF2.o.symm,rfl⟩
end Go.Proofs.YtjebfdfkjlkifaaGreat
