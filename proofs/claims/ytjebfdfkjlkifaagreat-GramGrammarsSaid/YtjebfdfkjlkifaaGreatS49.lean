/- Lemmas. -/
import Derived.Test.YtjebfdfkjlkifaaGreatR45
import Derived.Test.YtjebfdfkjlkifaaGreatS48
set_option linter.all false
set_option maxRecDepth 1000000
set_option maxHeartbeats 32000000
namespace Go.Proofs.YtjebfdfkjlkifaaGreat
open Go.RowKit
def pickJ (a b:Rat):Rat:=if decide (b <= a) = true then a else b
theorem nice_pickJ:ke pickJ:=nice_pick (fun a b=>decide (b <= a))
theorem zj (a b:Rat):a <= pickJ a b/\b <= pickJ a b:=by
 unfold pickJ
 split
 ·next h=>exact ⟨Rat.le_refl,of_decide_eq_true h⟩
 next h =>
 refine ⟨?_,Rat.le_refl⟩
 have h1:¬ b <= a:=fun h2=>h (dT h2)
 exact Rat.le_of_lt (Rat.not_le.1 h1)
theorem zx (a b:Rat):pickJ a b = a ∨ pickJ a b = b:=by
 unfold pickJ
 split
 ·exact .inl rfl
 exact .inr rfl

def rowT (join:Rat->Rat->Rat) (Ln:Nat) (rs:List bP) (sl:List Int) (t:Nat):List Rat:=eo join Ln rs sl (sl.length - t)
def nxtT (join:Rat->Rat->Rat) (Ln:Nat) (rs:List bP) (sl:List Int) (t:Nat):List Rat:=if t < sl.length then rowT join Ln rs sl (t + 1) else []
theorem rowT_eq (join:Rat->Rat->Rat) (Ln:Nat) (rs:List bP) (sl:List Int) {t:Nat} (ht:t <= sl.length):rowT join Ln rs sl t = eP join Ln rs sl (nxtT join Ln rs sl t) t:=by
 unfold nxtT
 by_cases h:t < sl.length
 ·rw [if_pos h]
  obtain ⟨g,hg⟩:∃ g,sl.length - t = g + 1:=⟨sl.length - t - 1,by omega⟩
  unfold rowT
  rw [hg,show sl.length - (t + 1) = g by omega]
  show eP join Ln rs sl _ (sl.length - (g + 1)) = _
  rw [show sl.length - (g + 1) = t by omega]
 rw [if_neg h]
 unfold rowT
 rw [show sl.length - t = 0 by omega]
 show eP join Ln rs sl [] sl.length = _
 rw [show t = sl.length by omega]
def RelR (o p:List Rat):Prop:=o.length = p.length/\∀ j,0 <= o.getD j 0/\o.getD j 0 <= p.getD j 0/\(o.getD j 0 = 0->p.getD j 0 = 0)
theorem RelR.nil_ (n:Nat):RelR (List.replicate n 0) (List.replicate n 0):=⟨rfl,fun j=>by
 have:(List.replicate n (0:Rat)).getD j 0 = 0:=by
  rw [gD,List.getElem?_replicate]
  split <;> rfl
 rw [this]
 exact ⟨Rat.le_refl,Rat.le_refl,fun h=>h⟩⟩
theorem zK {o p:List Rat} (h:RelR o p) (i:Nat) {x y:Rat} (hx:0 <= x)(hxy:x <= y)(h0:x = 0->y = 0):RelR (o.set i x) (p.set i y):=by
 refine ⟨by simp [h.1],fun j=>?_⟩
 have g:∀ (l:List Rat) (z:Rat),(l.set i z).getD j 0 = if i = j/\j < l.length then z else l.getD j 0:=fun l z=>by
  by_cases hij:i = j
  ·subst hij
   by_cases hl:i < l.length
   ·rw [if_pos ⟨rfl,hl⟩,gD,List.getElem?_set_self hl]
    rfl
   rw [if_neg (fun h=>hl h.2),List.set_eq_of_length_le (by omega)]
  rw [if_neg (fun h=>hij h.1),gD,sN hij,<- gD]
 rw [g,g,<- h.1]
 split
 ·exact ⟨hx,hxy,h0⟩
 exact h.2 j
theorem zI {sl:List Int} {ro rp:List Rat} (hr:RelR ro rp) {t:Nat} {r:bP} (hq:0 <= r.q) {o p:List Rat} (h:RelR o p):RelR (dZ pickJ sl ro t o r) (dZ (· + ·) sl rp t p r):=by
 have key:(eM sl ro t r = none/\eM sl rp t r = none) ∨ ∃ x y,eM sl ro t r = some x/\eM sl rp t r = some y/\0 <= x/\x <= y/\(x = 0->y = 0):=by
  unfold eM
  split
  ·split
   ·exact .inr ⟨_,_,rfl,rfl,hq,Rat.le_refl,fun h=>h⟩
   exact .inl ⟨rfl,rfl⟩
  split
  ·obtain ⟨h1,h2,h3⟩:=hr.2 r.t.toNat
   refine .inr ⟨_,_,rfl,rfl,Rat.mul_nonneg hq h1,Rat.mul_le_mul_of_nonneg_left h2 hq,fun h=>?_⟩
   rcases Rat.mul_eq_zero.1 h with h | h
   ·rw [h,Rat.zero_mul]
   rw [h3 h,Rat.mul_zero]
  exact .inl ⟨rfl,rfl⟩
 unfold dZ
 rcases key with ⟨h1,h2⟩ | ⟨x,y,h1,h2,h3,h4,h5⟩
 ·rw [h1,h2]
  exact h
 rw [h1,h2]
 obtain ⟨g1,g2,g3⟩:=h.2 r.f.toNat
 have gp:0 <= p.getD r.f.toNat 0:=Rat.le_trans g1 g2
 have hy:0 <= y:=Rat.le_trans h3 h4
 refine zK h _ (Rat.le_trans g1 (zj _ _).1) ?_ fun h0=>?_
 ·rcases zx (o.getD r.f.toNat 0) x with h | h
  ·rw [h]
   show o.getD r.f.toNat 0 <= p.getD r.f.toNat 0 + y
   grind
  rw [h]
  show x <= p.getD r.f.toNat 0 + y
  grind
 have h0':pickJ (o.getD r.f.toNat 0) x = 0:=h0
 have k1:=(zj (o.getD r.f.toNat 0) x).1
 have k2:=(zj (o.getD r.f.toNat 0) x).2
 rw [h0'] at k1 k2
 have e1:o.getD r.f.toNat 0 = 0:=Rat.le_antisymm k1 g1
 have e2:x = 0:=Rat.le_antisymm k2 h3
 show p.getD r.f.toNat 0 + y = 0
 rw [g3 e1,h5 e2,Rat.add_zero]
theorem zF {Ln:Nat} {sl:List Int} {ro rp:List Rat} (hr:RelR ro rp) {t:Nat} {rs:List bP} (hq:∀ r ∈ rs,0 <= r.q):RelR (eP pickJ Ln rs sl ro t) (eP (· + ·) Ln rs sl rp t):=by
 have key:∀ (rs:List bP),(∀ r ∈ rs,0 <= r.q)->∀ o p,RelR o p->RelR (rs.foldl (dZ pickJ sl ro t) o) (rs.foldl (dZ (· + ·) sl rp t) p):=by
  intro rs
  induction rs with
  | nil=>exact fun _ o p h=>h
  | cons r rs ih =>
   intro hq o p h
   exact ih (fun x hx=>hq x (List.mem_cons_of_mem _ hx)) _ _ (zI hr (hq r List.mem_cons_self) h)
 exact key rs hq _ _ (RelR.nil_ Ln)
theorem zR {Ln:Nat} {sl:List Int} {rs:List bP} (hq:∀ r ∈ rs,0 <= r.q) (g:Nat):RelR (eo pickJ Ln rs sl g) (eo (· + ·) Ln rs sl g):=by
 induction g with
 | zero=>exact zF (by have:=RelR.nil_ 0; simpa using this) hq
 | succ g ih=>exact zF ih hq

def hitB (rs:List bP) (sl:List Int) (Ln t:Nat) (at_:Int) (r:bP):Bool:=decide (r.f = at_) && decide (eM sl (nxtT pickJ Ln rs sl t) t r = some ((rowT pickJ Ln rs sl t).getD at_.toNat 0))
def pathS (rs:List bP) (sl:List Int) (Ln:Nat) (a:List Int × Int) (t:Nat):List Int × Int :=
 match rs.findIdx? (hitB rs sl Ln t a.2) with
 | some i=>(a.1 ++ [(i:Int)],(rs.getD i ⟨0,0,0,0⟩).t)
 | none=>a
def pathN (rs:List bP) (sl:List Int) (Ln n:Nat):List Int × Int:=(List.range n).foldl (pathS rs sl Ln) ([],0)
theorem pathN_succ (rs:List bP) (sl:List Int) (Ln n:Nat):pathN rs sl Ln (n + 1) = pathS rs sl Ln (pathN rs sl Ln n) n:=by
 unfold pathN
 rw [List.range_succ,List.foldl_append]
 rfl
def bestQ (rs:List bP) (sl:List Int) (Ln:Nat):Rat:=(eo pickJ Ln rs sl sl.length).getD 0 0
def bestP (rs:List bP) (sl:List Int) (Ln:Nat):List Int:=(pathN rs sl Ln (sl.length + 1)).1
def RulesOk (L:Int) (rs:List bP):Prop:=∀ r ∈ rs,0 <= r.f/\r.f < L/\0 <= r.t/\r.t < L/\0 <= r.w/\0 <= r.q
theorem findIdx_first {p:bP->Bool} {rs:List bP} {i:Nat} (h:rs.findIdx? p = some i):∃ r,rs[i]? = some r/\p r = true/\∀ k r',rs[k]? = some r'->p r' = true->i <= k:=by
 induction rs generalizing i with
 | nil=>cases h
 | cons x rs ih =>
  rw [List.findIdx?_cons] at h
  split at h
  ·next hp =>
   cases h
   exact ⟨x,rfl,hp,fun _ _ _ _=>Nat.zero_le _⟩
  next hp =>
  cases hf:rs.findIdx? p with
  | none=>rw [hf] at h; cases h
  | some k =>
   rw [hf] at h
   cases h
   obtain ⟨r,h1,h2,h3⟩:=ih hf
   refine ⟨r,h1,h2,fun j r' hj hp'=>?_⟩
   cases j with
   | zero =>
    cases hj
    exact absurd hp' hp
   | succ j =>
    have:=h3 j r' hj hp'
    show k + 1 <= j + 1
    omega
theorem six_at {w:World} {g:Nat} {e:TypeId} {a b c d x y:Value} (h:Blk w g e [a,b,c,d,x,y]):w.cell? ⟨g,0,none⟩ = some a/\w.cell? ⟨g,1,none⟩ = some b/\w.cell? ⟨g,2,none⟩ = some c/\w.cell? ⟨g,3,none⟩ = some d/\w.cell? ⟨g,4,none⟩ = some x/\w.cell? ⟨g,5,none⟩ = some y :=
 ⟨h.cell 0,h.cell 1,h.cell 2,h.cell 3,h.cell 4,h.cell 5⟩
theorem IntsAt.same {F:Nat} {w w':World} {v:Value} {l:List Int} (h:IntsAt w v l)(hf:From v F)(hs:Same F w w'):IntsAt w' v l:=Sl.same h hf hs
structure RRule where
 f:Int
 w:Int
 t:Int
 r:Raw
def RRule.rule (x:RRule):bP:=⟨x.f,x.w,x.t,x.r.q⟩
def RRule.thin (x:RRule):Bool:=x.r.thin
def RRulesAt (w:World) (v:Value) (rs:List RRule):Prop:=∃ cells,Sl w 6 v rs.length cells/\∀ (i:Nat) (r:RRule),rs[i]? = some r->∃ vn vd,cells[i * 6]? = some (.int .i64 r.f)/\cells[i * 6 + 1]? = some (.int .i64 r.w)/\cells[i * 6 + 2]? = some (.int .i64 r.t) /\
 cells[i * 6 + 3]? = some (.bool r.r.neg)/\cells[i * 6 + 4]? = some vn/\cells[i * 6 + 5]? = some vd/\DigAt w vn r.r.n/\DigAt w vd r.r.d
theorem RRulesAt.below {w w':World} {v:Value} {rs:List RRule} (h:RRulesAt w v rs)(hb:Below w.heap.size w w'):RRulesAt w' v rs:=by
 obtain ⟨cells,h1,h2⟩:=h
 refine ⟨cells,h1.below hb,fun i r hr=>?_⟩
 obtain ⟨vn,vd,e0,e1,e2,e3,e4,e5,hn,hd⟩:=h2 i r hr
 exact ⟨vn,vd,e0,e1,e2,e3,e4,e5,hn.below hb,hd.below hb⟩
theorem RRulesAt.rules {w:World} {v:Value} {rs:List RRule} (h:RRulesAt w v rs)(ht:rs.all RRule.thin = true):RulesAt 64 w v (rs.map RRule.rule):=by
 obtain ⟨cells,h1,h2⟩:=h
 refine ⟨cells,by rw [List.length_map]; exact h1,fun i q hq=>?_⟩
 rw [List.getElem?_map] at hq
 cases hr:rs[i]? with
 | none=>rw [hr] at hq; cases hq
 | some r =>
  rw [hr] at hq
  cases hq
  obtain ⟨vn,vd,e0,e1,e2,e3,e4,e5,hn,hd⟩:=h2 i r hr
  exact ⟨_,_,_,e0,e1,e2,e3,e4,e5,RawAt.frac ⟨vn,vd,rfl,hn,hd⟩ (List.all_eq_true.1 ht r (mG hr))⟩
theorem RRulesAt.open_ {w:World} {v:Value} {rs:List RRule} (h:RRulesAt w v rs):∃ A c,v = .slice A rs.length c/\rs.length <= c/\c <= 9223372036854775807 /\
  ∀ (j:Nat) (r:RRule),rs[j]? = some r->∃ b off An nc Ad dc,A = some ⟨b,off,none⟩/\b < w.heap.size/\w.cell? ⟨b,off + j * 6,none⟩ = some (.int .i64 r.f)/\w.cell? ⟨b,off + j * 6 + 1,none⟩ = some (.int .i64 r.w)/\w.cell? ⟨b,off + j * 6 + 2,none⟩ = some (.int .i64 r.t) /\
   w.cell? ⟨b,off + j * 6 + 3,none⟩ = some (.bool r.r.neg)/\w.cell? ⟨b,off + j * 6 + 4,none⟩ = some (.slice An r.r.n.length nc)/\w.cell? ⟨b,off + j * 6 + 5,none⟩ = some (.slice Ad r.r.d.length dc):=by
 obtain ⟨cells,h1,h2⟩:=h
 obtain ⟨h0,A,c,rfl,hc,hm,h5⟩:=h1
 refine ⟨A,c,rfl,hc,by unfold maxLen at hm; omega,fun j x hx=>?_⟩
 have hj:=(sI.1 hx).1
 obtain ⟨b,off,e,hlt,hcell⟩:=h5 (by omega)
 obtain ⟨vn,vd,e0,e1,e2,e3,e4,e5,hn,hd⟩:=h2 j x hx
 obtain ⟨_,An,nc,rfl,_⟩:=hn.open_
 obtain ⟨_,Ad,dc,rfl,_⟩:=hd.open_
 exact ⟨b,off,An,nc,Ad,dc,e,hlt,hcell _ _ e0,by rw [Nat.add_assoc]; exact hcell _ _ e1,by rw [Nat.add_assoc]; exact hcell _ _ e2,by rw [Nat.add_assoc]; exact hcell _ _ e3,by rw [Nat.add_assoc]; exact hcell _ _ e4,by rw [Nat.add_assoc]; exact hcell _ _ e5⟩

def fewB (rs:List RRule):Bool:=!(decide (20 < rs.length) && decide (rs.length <= 500)) && rs.all RRule.thin
theorem few_ok {rs:List RRule} (h:fewB rs = true):(rs.length <= 20 ∨ 500 < rs.length)/\rs.all RRule.thin = true:=by
 unfold fewB at h
 simp only [Bool.and_eq_true,Bool.not_eq_true',Bool.and_eq_false_iff,decide_eq_false_iff_not] at h
 exact ⟨by omega,h.2⟩
theorem zH {rs:List RRule} {j:Nat} {x:RRule} (hx:rs[j]? = some x):(rs.drop j).all RRule.thin = (x.thin && (rs.drop (j + 1)).all RRule.thin):=by
 have hj:=(sI.1 hx).1
 rw [eG hj] at hx
 rw [List.drop_eq_getElem_cons hj,List.all_cons]
 cases hx
 rfl

theorem fewG (w:World) (L V:Int) (A:Option Addr) (n c:Nat) (rs:List RRule)(h:RRulesAt w (.slice A n c) rs)(hn:rs.length = n) :
  Calls Tryz.prog 46 #[.agg #[.int .i64 L,.int .i64 V,.slice A n c]] w fun e w'=>e = .returned (.bool (fewB rs))/\Below w.heap.size w w':=by
 obtain ⟨A',c',he,hnc,hcm,hat⟩:=h.open_
 have hac:A = A'/\c = c':=by cases he; exact ⟨rfl,rfl⟩
 obtain ⟨rfl,rfl⟩:=hac
 clear he
 have HAT:=aH hat
 have HN:=aH hn
 rw [hn] at hnc
 clear h hat
 by_cases h1:20 < n/\n <= 500
 ·have d1:decide ((20:Int) < (n:Int)) = true:=dT (by omega)
  have d2:decide ((n:Int) <= 500) = true:=dT (by omega)
  have HT:Hd (fewB rs = false):=aH (by unfold fewB; rw [hn,dT h1.1,dT h1.2]; rfl)
  clear h1 hn
  go_enter Tryz.func46,Tryz.ntmps46
  go_wp2_with fail
  obtain ⟨W,hW,P0,PB,Phs⟩:=aA w 73 [.int .i64 L,.int .i64 V,.slice A n c]
  rw [<- hW]
  clear hW
  obtain ⟨p0,p1,p2,_,_,_⟩:=P0.o.three
  go_wp2_with fail
  go_ret
  exact ⟨ai HT.o.symm,PB.o⟩
 have HS:Hd (fewB rs = (rs.drop 0).all RRule.thin):=aH (by
  unfold fewB
  rw [hn]
  have:(!(decide (20 < n) && decide (n <= 500))) = true:=by
   rw [Bool.not_eq_true',Bool.and_eq_false_iff,decide_eq_false_iff_not,decide_eq_false_iff_not]
   omega
  rw [this]
  rfl)
 have hd:decide ((20:Int) < (n:Int)) = false ∨ (decide ((20:Int) < (n:Int)) = true/\decide ((n:Int) <= 500) = false):=by
  by_cases h2:20 < n
  ·exact .inr ⟨dT (by omega),dF (by omega)⟩
  exact .inl (dF (by omega))
 clear h1 hn
 rcases hd with d1 | ⟨d1,d2⟩
 all_goals
  go_enter Tryz.func46,Tryz.ntmps46
  go_wp2_with fail
  obtain ⟨W,hW,P0,PB,Phs⟩:=aA w 73 [.int .i64 L,.int .i64 V,.slice A n c]
  rw [<- hW]
  clear hW
  obtain ⟨p0,p1,p2,_,_,_⟩:=P0.o.three
  go_wp2_with fail
  go_loopg [3] n (fun g i wr=>∃ (j:Nat),wr = W/\i = .int .i64 j/\j + g = n/\Hd (fewB rs = (rs.drop j).all RRule.thin))
  case atStart=>exact ⟨0,rfl,rfl,by omega,HS⟩
  obtain ⟨j,rfl,rfl,hj,HQ⟩:=hrel
  rcases zP gk with h | h
  ·obtain rfl:j = n:=by omega
   have HT:Hd (fewB rs = true):=aH (by rw [HQ.o,dN (by rw [HN.o]; exact nR _)]; rfl)
   go_wp2_with fail
   go_ret
   exact ⟨ai HT.o.symm,PB.o⟩
  obtain ⟨g,rfl⟩:∃ g,gk = g + 1:=⟨gk - 1,by omega⟩
  obtain ⟨x,hx⟩:∃ x,rs[j]? = some x:=⟨_,eG (by rw [HN.o]; omega)⟩
  obtain ⟨bm,om,An,nc,Ad,dc,rfl,hbm,_,_,_,e0,e1,e2⟩:=HAT.o j x hx
  have c0:=(PB.o.cell (p:=⟨bm,om + j * 6 + 3,none⟩) hbm).trans e0
  have c1:=(PB.o.cell (p:=⟨bm,om + j * 6 + 4,none⟩) hbm).trans e1
  have c2:=(PB.o.cell (p:=⟨bm,om + j * 6 + 5,none⟩) hbm).trans e2
  have ST:=aH (HQ.o.trans (zH hx))
  obtain ⟨p,hp⟩:=nm (x.r.n.length)
  obtain ⟨q,hq⟩:=nm (x.r.d.length)
  have HTH:Hd (x.thin = (decide (p <= 1) && decide (q <= 1))):=aH (by unfold RRule.thin Raw.thin; rw [hp,hq])
  rw [hp] at c1
  rw [hq] at c2
  clear hx e0 e1 e2 hp hq
  by_cases h3:p <= 1
  ·have d4:decide ((1:Int) < (p:Int)) = false:=dF (by omega)
   by_cases h4:q <= 1
   ·have d5:decide ((1:Int) < (q:Int)) = false:=dF (by omega)
    have HT:Hd (fewB rs = (rs.drop (j + 1)).all RRule.thin):=aH (by rw [ST.o,HTH.o,dT h3,dT h4]; rfl)
    clear h3 h4
    go_wp2_with fail
    go_roundg g
    case measure=>omega
    case rel=>exact ⟨j + 1,rfl,rfl,by omega,HT⟩
   have d5:decide ((1:Int) < (q:Int)) = true:=dT (by omega)
   have HT:Hd (fewB rs = false):=aH (by rw [ST.o,HTH.o,dF h4,Bool.and_false]; rfl)
   clear h3 h4
   go_wp2_with fail
   go_ret
   exact ⟨ai HT.o.symm,PB.o⟩
  have d4:decide ((1:Int) < (p:Int)) = true:=dT (by omega)
  have HT:Hd (fewB rs = false):=aH (by rw [ST.o,HTH.o,dF h3,Bool.false_and]; rfl)
  clear h3
  go_wp2_with fail
  go_ret
  exact ⟨ai HT.o.symm,PB.o⟩
section
open Go.RowKit Go.ChangeShapes Go.WideShapes Go.Deep Go.Joins

theorem zS {α:Type} {l:List α} (h:l.length = 6):∃ c0 c1 c2 c3 c4 c5,l = [c0,c1,c2,c3,c4,c5]:=by
 match l,h with
 | [c0,c1,c2,c3,c4,c5],_=>exact ⟨c0,c1,c2,c3,c4,c5,rfl⟩
theorem zO {α:Type} {cs:Array α} (h:cs.size = 3):∃ c0 c1 c2,cs = #[c0,c1,c2]:=by
 obtain ⟨l⟩:=cs
 match l,h with
 | [c0,c1,c2],_=>exact ⟨c0,c1,c2,rfl⟩
theorem zD {H:Type} {enc:TypeId × Value->H} {W:World} {held:Bool} {fuel:Nat} {cs:List Value} {x:DataW H × List MemPlace}
  (h:DataW.trod enc Tryz.prog W 0 (fun _=>true) held fuel 111 cs = some x):∃ (r:RRule) (vn vd:Value),cs = [.int .i64 r.f,.int .i64 r.w,.int .i64 r.t,.bool r.r.neg,vn,vd]/\DigAt W vn r.r.n/\DigAt W vd r.r.d:=by
 obtain ⟨y0,y1,y2,y3,n,_,hl,h0,h1,h2,h3⟩:=trod_struct4 Tryz.underlying111 h
 have ci:Tryz.prog.cellsOf 3 = 1:=by kernel_rfl
 have cf:Tryz.prog.cellsOf 40 = 3:=by kernel_rfl
 have cp:Tryz.prog.cellsOf 111 = 6:=by kernel_rfl
 rw [cp] at hl
 obtain ⟨c0,c1,c2,c3,c4,c5,rfl⟩:=zS hl
 simp [ci,cf] at h0 h1 h2 h3
 obtain ⟨f,hf,_⟩:=DataW.trod_int Tryz.underlying3 h0
 obtain ⟨wd,hw,_⟩:=DataW.trod_int Tryz.underlying3 h1
 obtain ⟨t,ht,_⟩:=DataW.trod_int Tryz.underlying3 h2
 obtain ⟨r,vn,vd,hc,hn,hd⟩:=kV h3
 simp at hf hw ht hc
 subst hf
 subst hw
 subst ht
 obtain ⟨rfl,rfl,rfl⟩:=hc
 exact ⟨⟨f,wd,t,r⟩,_,_,rfl,hn,hd⟩
theorem zr {H:Type} {enc:TypeId × Value->H} {W:World} {held:Bool} {fuel:Nat} {v:Value} {x:DataW H × List MemPlace}
  (h:DataW.trod enc Tryz.prog W 0 (fun _=>true) held fuel 71 [v] = some x):∃ A n c rs,v = .slice A n c/\rs.length = n/\RRulesAt W (.slice A n c) rs:=by
 have cf:Tryz.prog.cellsOf 111 = 6:=by kernel_rfl
 rcases open_slice Tryz.underlying71 h with ⟨hc,_⟩ | ⟨a,len,cap,m,n,D,Pl,hc,_,hl,hm,hmm,_,hall⟩
 ·simp at hc
  subst hc
  exact ⟨none,0,0,[],rfl,rfl,[],Sl.nil_ _ _,fun i r hr=>by simp at hr⟩
 simp at hc
 subst hc
 simp only [if_true] at hmm
 have key:∀ i,∃ q:RRule × Value × Value,i < m->W.cell? (a.add (i * 6)) = some (.int .i64 q.1.f)/\W.cell? (a.add (i * 6 + 1)) = some (.int .i64 q.1.w)/\W.cell? (a.add (i * 6 + 2)) = some (.int .i64 q.1.t)/\W.cell? (a.add (i * 6 + 3)) = some (.bool q.1.r.neg)/\W.cell? (a.add (i * 6 + 4)) = some q.2.1/\W.cell? (a.add (i * 6 + 5)) = some q.2.2/\DigAt W q.2.1 q.1.r.n/\DigAt W q.2.2 q.1.r.d:=by
  intro i
  by_cases hi:i < m
  ·obtain ⟨cs',h1,h2⟩:=hall i hi
   rw [cf] at h1
   obtain ⟨_,hlen,hcell⟩:=World.cells?_some h1
   obtain ⟨r,vn,vd,rfl,hn,hd⟩:=zD h2
   have e0:=hcell 0 (by omega)
   have e1:=hcell 1 (by omega)
   have e2:=hcell 2 (by omega)
   have e3:=hcell 3 (by omega)
   have e4:=hcell 4 (by omega)
   have e5:=hcell 5 (by omega)
   rw [add_add] at e0 e1 e2 e3 e4 e5
   exact ⟨(r,vn,vd),fun _=>⟨by simpa using e0,by simpa using e1,by simpa using e2,by simpa using e3,by simpa using e4,by simpa using e5,hn,hd⟩⟩
  exact ⟨(⟨0,0,0,⟨false,[],[]⟩⟩,.bool false,.bool false),fun h=>absurd h hi⟩
 obtain ⟨G,hG⟩:=Classical.axiomOfChoice key
 obtain ⟨b,off,s⟩:=a
 refine ⟨some ⟨b,off,s⟩,len,cap,(List.range len).map fun i=>(G i).1,rfl,by simp,(List.range (len * 6)).map fun j=>if j % 6 = 0 then .int .i64 (G (j / 6)).1.f else if j % 6 = 1 then .int .i64 (G (j / 6)).1.w else if j % 6 = 2 then .int .i64 (G (j / 6)).1.t else if j % 6 = 3 then .bool (G (j / 6)).1.r.neg else if j % 6 = 4 then (G (j / 6)).2.1 else (G (j / 6)).2.2,⟨by simp,some ⟨b,off,s⟩,cap,by simp,by simpa using hl,hm,fun hn=>?_⟩,fun i r hr=>?_⟩
 ·have hn':0 < len:=by simpa using hn
  have h0:=(hG 0 (by omega)).1
  have hs:s = none:=by simpa [Addr.add] using World.cell?_spot h0
  subst hs
  rw [add_plain] at h0
  refine ⟨b,off,rfl,block_lt_of_cell h0,fun j u hu=>?_⟩
  rw [List.getElem?_map] at hu
  by_cases hj:j < len * 6
  ·rw [List.getElem?_range hj] at hu
   obtain rfl:=Option.some.inj hu
   obtain ⟨x0,x1,x2,x3,x4,x5,_⟩:=hG (j / 6) (by omega)
   rw [add_plain] at x0 x1 x2 x3 x4 x5
   show _ = some (if j % 6 = 0 then .int .i64 (G (j / 6)).1.f else if j % 6 = 1 then .int .i64 (G (j / 6)).1.w else if j % 6 = 2 then .int .i64 (G (j / 6)).1.t else if j % 6 = 3 then .bool (G (j / 6)).1.r.neg else if j % 6 = 4 then (G (j / 6)).2.1 else (G (j / 6)).2.2)
   split
   ·rw [show j / 6 * 6 = j by omega] at x0; exact x0
   split
   ·rw [show j / 6 * 6 + 1 = j by omega] at x1; exact x1
   split
   ·rw [show j / 6 * 6 + 2 = j by omega] at x2; exact x2
   split
   ·rw [show j / 6 * 6 + 3 = j by omega] at x3; exact x3
   split
   ·rw [show j / 6 * 6 + 4 = j by omega] at x4; exact x4
   rw [show j / 6 * 6 + 5 = j by omega] at x5; exact x5
  rw [nI.2 (by simpa using hj)] at hu
  cases hu
 rw [List.getElem?_map] at hr
 by_cases hi:i < len
 ·rw [List.getElem?_range hi] at hr
  obtain rfl:=Option.some.inj hr
  obtain ⟨_,_,_,_,_,_,g3,g4⟩:=hG i (by omega)
  have at_:∀ k,k < 6->((List.range (len * 6)).map fun j=>if j % 6 = 0 then Value.int .i64 (G (j / 6)).1.f else if j % 6 = 1 then .int .i64 (G (j / 6)).1.w else if j % 6 = 2 then .int .i64 (G (j / 6)).1.t else if j % 6 = 3 then .bool (G (j / 6)).1.r.neg else if j % 6 = 4 then (G (j / 6)).2.1 else (G (j / 6)).2.2)[i * 6 + k]? = some (if k = 0 then .int .i64 (G i).1.f else if k = 1 then .int .i64 (G i).1.w else if k = 2 then .int .i64 (G i).1.t else if k = 3 then .bool (G i).1.r.neg else if k = 4 then (G i).2.1 else (G i).2.2):=fun k hk=>by
   rw [List.getElem?_map,List.getElem?_range (by omega),Option.map_some,show (i * 6 + k) % 6 = k by omega,show (i * 6 + k) / 6 = i by omega]
  exact ⟨(G i).2.1,(G i).2.2,at_ 0 (by omega),at_ 1 (by omega),at_ 2 (by omega),at_ 3 (by omega),at_ 4 (by omega),at_ 5 (by omega),g3,g4⟩
 rw [nI.2 (by simpa using hi)] at hr
 cases hr

theorem open_grammar {H:Type} {enc:TypeId × Value->H} {W:World} {held:Bool} {v:Value} {d:DataW H} {ps:List MemPlace} {r:Reach} {b0:Nat}
  (hv:Value.okWide Tryz.prog W r b0 73 v)(h:DataW.Trod enc Tryz.prog W 0 (fun _=>true) held 73 v d ps) :
  ∃ (L V:Int) (A:Option Addr) (n c:Nat) (rs:List RRule),v = .agg #[.int .i64 L,.int .i64 V,.slice A n c]/\rs.length = n/\RRulesAt W (.slice A n c) rs:=by
 have ci:Tryz.prog.cellsOf 3 = 1:=by kernel_rfl
 have cg:Tryz.prog.cellsOf 71 = 1:=by kernel_rfl
 have cl:Tryz.prog.cellsOf 73 = 3:=by kernel_rfl
 obtain ⟨cs,rfl,hsz⟩:=okWide_struct Tryz.underlying73 hv
 obtain ⟨c0,c1,c2,rfl⟩:=zO (hsz.trans cl)
 obtain ⟨fuel,hf⟩:=h
 obtain ⟨y0,y1,y2,n,_,_,h0,h1,h2⟩:=trod_struct3 Tryz.underlying73 hf
 simp [Value.cells,ci,cg] at h0 h1 h2
 obtain ⟨L,hL,_⟩:=DataW.trod_int Tryz.underlying3 h0
 obtain ⟨V,hV,_⟩:=DataW.trod_int Tryz.underlying3 h1
 obtain ⟨A,n',c,rs,rfl,hn,hr⟩:=zr h2
 simp at hL hV
 subst hL
 subst hV
 exact ⟨L,V,A,n',c,rs,rfl,hn,hr⟩
end
end Go.Proofs.YtjebfdfkjlkifaaGreat
