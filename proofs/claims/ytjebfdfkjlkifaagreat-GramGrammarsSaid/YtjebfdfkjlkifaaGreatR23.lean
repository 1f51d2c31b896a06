/- Lemmas. -/
import Derived.Test.YtjebfdfkjlkifaaGreatR22
set_option linter.all false
set_option maxRecDepth 1000000
set_option maxHeartbeats 32000000
namespace Go.Proofs.YtjebfdfkjlkifaaGreat
open Go.RowKit
section
theorem sS:(Tryz.prog.info? 40).map (fun i=>(i.zero,i.size,i.bytes)) = some (some (.agg #[.bool false,.slice none 0 0,.slice none 0 0]),3,56):=by kernel_rfl

def FArr (base:Nat) (w:World) (b:Nat) (qs:List Rat):Prop:=b < base/\∃ xs,Blk w b 40 xs/\xs.length = qs.length * 3 /\
 ∀ (i:Nat) (q:Rat),qs[i]? = some q->∃ A m c A' m' c',xs[i * 3]? = some (.bool (ae q))/\xs[i * 3 + 1]? = some (.slice A m c)/\xs[i * 3 + 2]? = some (.slice A' m' c')/\CanNew base w (.agg #[.bool (ae q),.slice A m c,.slice A' m' c']) q
section
variable {base:Nat} {w w':World} {b:Nat} {qs:List Rat}
theorem FArr.lt (h:FArr base w b qs):b < w.heap.size:=by
 obtain ⟨_,xs,hb,_⟩:=h
 exact hb.lt
theorem FArr.below (h:FArr base w b qs)(hb:Below w.heap.size w w'):FArr base w' b qs:=by
 obtain ⟨h0,xs,h1,h2,h3⟩:=h
 refine ⟨h0,xs,h1.below' hb,h2,fun i q hq=>?_⟩
 obtain ⟨A,m,c,A',m',c',e0,e1,e2,e3⟩:=h3 i q hq
 exact ⟨A,m,c,A',m',c',e0,e1,e2,e3.below hb⟩
theorem FArr.drew (h:FArr base w b qs):FArr base w.drew b qs:=h
theorem FArr.get (h:FArr base w b qs) {i:Nat} {q:Rat} (hq:qs[i]? = some q):∃ A m c A' m' c',w.cell? ⟨b,i * 3,none⟩ = some (.bool (ae q))/\w.cell? ⟨b,i * 3 + 1,none⟩ = some (.slice A m c)/\w.cell? ⟨b,i * 3 + 2,none⟩ = some (.slice A' m' c') /\
  w.frozen? ⟨b,i * 3,none⟩ = false/\w.frozen? ⟨b,i * 3 + 1,none⟩ = false/\w.frozen? ⟨b,i * 3 + 2,none⟩ = false/\CanNew base w (.agg #[.bool (ae q),.slice A m c,.slice A' m' c']) q:=by
 obtain ⟨_,xs,h1,_,h3⟩:=h
 obtain ⟨A,m,c,A',m',c',e0,e1,e2,e3⟩:=h3 i q hq
 exact ⟨A,m,c,A',m',c',(h1.cell _).trans e0,(h1.cell _).trans e1,(h1.cell _).trans e2,h1.frozen _,h1.frozen _,h1.frozen _,e3⟩
theorem CanNew.far {B:Nat} {v:Value} {q:Rat} (h:CanNew B w v q) {p:Addr} (hp:p.block < B) (u:Value):CanNew B (w.setCell p u) v q:=by
 obtain ⟨vn,vd,e,h1,h2,h3,h4⟩:=h
 exact ⟨vn,vd,e,h1.setFar h3 hp u,h2.setFar h4 hp u,h3,h4⟩
theorem FArr.far (h:FArr base w b qs) {p:Addr} (hp:p.block < base)(hb:b ≠ p.block) (u:Value):FArr base (w.setCell p u) b qs:=by
 obtain ⟨h0,xs,h1,h2,h3⟩:=h
 refine ⟨h0,xs,h1.far hb u,h2,fun i q hq=>?_⟩
 obtain ⟨A,m,c,A',m',c',e0,e1,e2,e3⟩:=h3 i q hq
 exact ⟨A,m,c,A',m',c',e0,e1,e2,e3.far hp u⟩
theorem FArr.put (h:FArr base w b qs) {i:Nat} (hi:i < qs.length) {q:Rat} {s:Bool} {A A':Option Addr} {m c m' c':Nat} (hs:s = ae q)(hq:CanNew base w (.agg #[.bool s,.slice A m c,.slice A' m' c']) q) :
  FArr base (((w.setCell ⟨b,i * 3,none⟩ (.bool s)).setCell ⟨b,i * 3 + 1,none⟩ (.slice A m c)).setCell ⟨b,i * 3 + 2,none⟩ (.slice A' m' c')) b (qs.set i q):=by
 subst hs
 obtain ⟨h0,xs,h1,h2,h3⟩:=h
 have jH:=((h1.set_ (i * 3) (.bool (ae q))).set_ (i * 3 + 1) (.slice A m c)).set_ (i * 3 + 2) (.slice A' m' c')
 refine ⟨h0,_,jH,by simpa using h2,fun j r hr=>?_⟩
 have far:∀ {v r},CanNew base w v r->CanNew base (((w.setCell ⟨b,i * 3,none⟩ (.bool (ae q))).setCell ⟨b,i * 3 + 1,none⟩ (.slice A m c)).setCell ⟨b,i * 3 + 2,none⟩ (.slice A' m' c')) v r :=
  fun h=>((h.far (p:=⟨b,i * 3,none⟩) h0 _).far (p:=⟨b,i * 3 + 1,none⟩) h0 _).far (p:=⟨b,i * 3 + 2,none⟩) h0 _
 by_cases hj:i = j
 ·subst hj
  rw [List.getElem?_set_self hi] at hr
  cases hr
  refine ⟨A,m,c,A',m',c',?_,?_,?_,far hq⟩
  ·rw [sN (by omega),sN (by omega),List.getElem?_set_self (by omega)]
  ·rw [sN (by omega),List.getElem?_set_self (by simp; omega)]
  rw [List.getElem?_set_self (by simp; omega)]
 rw [sN hj] at hr
 obtain ⟨A1,m1,c1,A1',m1',c1',e0,e1,e2,e3⟩:=h3 j r hr
 refine ⟨A1,m1,c1,A1',m1',c1',?_,?_,?_,far e3⟩
 ·rw [sN (by omega),sN (by omega),sN (by omega)]; exact e0
 ·rw [sN (by omega),sN (by omega),sN (by omega)]; exact e1
 rw [sN (by omega),sN (by omega),sN (by omega)]; exact e2
theorem FArr.cans (h:FArr base w b qs) {c:Nat} (hc:qs.length <= c)(hm:c <= 9223372036854775807):CansAt w (.slice (some ⟨b,0,none⟩) qs.length c) qs:=by
 obtain ⟨h0,xs,h1,h2,h3⟩:=h
 refine ⟨xs.take (qs.length * 3),h1.sl (by omega) hc (by unfold maxLen; omega),fun i q hq=>?_⟩
 have hi:=(sI.1 hq).1
 obtain ⟨A,m,c,A',m',c',e0,e1,e2,e3⟩:=h3 i q hq
 exact ⟨_,_,_,by rw [List.getElem?_take_of_lt (by omega)]; exact e0,by rw [List.getElem?_take_of_lt (by omega)]; exact e1,by rw [List.getElem?_take_of_lt (by omega)]; exact e2,e3.at_⟩
theorem wV (x y z:Value) (n i:Nat)(h:i < n):(madeCells #[x,y,z] (n * 3)).toList[i * 3]? = some x/\(madeCells #[x,y,z] (n * 3)).toList[i * 3 + 1]? = some y/\(madeCells #[x,y,z] (n * 3)).toList[i * 3 + 2]? = some z:=by
 have key:∀ j,j < n * 3->(madeCells #[x,y,z] (n * 3)).toList[j]? = some (#[x,y,z][j % 3]!):=by
  intro j hj
  simp [madeCells,hj]
 refine ⟨?_,?_,?_⟩
 ·rw [key _ (by omega),show i * 3 % 3 = 0 by omega]; rfl
 ·rw [key _ (by omega),show (i * 3 + 1) % 3 = 1 by omega]; rfl
 rw [key _ (by omega),show (i * 3 + 2) % 3 = 2 by omega]; rfl
theorem aD {ops:Array Oper} {rest:List Oper} {o:Oper} {a:Act} {Q:Exit->Act->World->Prop} (hg:o.guard = none) (l c:Operand)(hop:o.op = Op.makeSlice 41 l c)
  (L:Int) (n:Nat) (hl:a.eval l = .int .i64 L) (hc:a.eval c = .int .i64 L) (hL:L = (n:Int)) (hn:n <= 1000000)
  (hK:∀ w',FArr (w.heap.size + 1) w' w.heap.size (List.replicate n (0:Rat))->Below w.heap.size w w'->wpList Tryz.prog ops Q rest (a.put o.dst (.slice (some ⟨w.heap.size,0,none⟩) n n)) w') :
  wpList Tryz.prog ops Q (o :: rest) a w:=by
 obtain ⟨i0,h2,h3,h4,h5⟩:=info_parts sS
 refine wpList_make_full w hg l c 41 hop w.heap.size 40 i0 _ 3 Tryz.underlying41 h2 h3 h4 .i64 .i64 L L n hl hc hL hL (by rw [h5]; omega) (by unfold maxLen; omega) (nR _) fun w' hown hgr=>?_
 refine hK w' ?_ ((Below.refl _ w).grown hgr (nR _) (by simp))
 obtain ⟨hl0,h | ⟨g,cap,cur,hv,_,hh,hn',_,hsz,ht⟩⟩:=hown
 ·cases h.1
 injection hv with hv1 hv2 hv3
 injection hv1 with hv1
 injection hv1 with hv1
 subst hv1
 subst hv3
 refine ⟨by omega,cur.toList,hh,?_,?_⟩
 ·rw [List.length_replicate]
  simpa using hsz
 intro i q hq
 have hi:i < n:=by have:=(sI.1 hq).1; simpa using this
 have hq0:q = 0:=by rw [List.getElem?_replicate_of_lt hi] at hq; exact (Option.some.inj hq).symm
 subst hq0
 have hm:=wV (.bool false) (.slice none 0 0) (.slice none 0 0) n i hi
 have hcl:(Value.agg #[.bool false,.slice none 0 0,.slice none 0 0]).cells = #[.bool false,.slice none 0 0,.slice none 0 0]:=rfl
 rw [hcl] at ht
 rw [tL (by simp at hsz ⊢; omega)] at ht
 rw [ht]
 exact ⟨none,0,0,none,0,0,by rw [hm.1]; rfl,hm.2.1,hm.2.2,CanNew.zero_ _ _⟩
end
end
structure bP where
 f:Int
 w:Int
 t:Int
 q:Rat
def RulesAt (k:Nat) (w:World) (v:Value) (rs:List bP):Prop:=∃ cells,Sl w 6 v rs.length cells/\∀ (i:Nat) (r:bP),rs[i]? = some r->∃ a b c,cells[i * 6]? = some (.int .i64 r.f)/\cells[i * 6 + 1]? = some (.int .i64 r.w)/\cells[i * 6 + 2]? = some (.int .i64 r.t) /\
 cells[i * 6 + 3]? = some a/\cells[i * 6 + 4]? = some b/\cells[i * 6 + 5]? = some c/\FracAt k w (.agg #[a,b,c]) r.q
theorem RulesAt.below {k:Nat} {w w':World} {v:Value} {rs:List bP} (h:RulesAt k w v rs)(hb:Below w.heap.size w w'):RulesAt k w' v rs:=by
 obtain ⟨cells,h1,h2⟩:=h
 refine ⟨cells,h1.below hb,fun i r hr=>?_⟩
 obtain ⟨a,b,c,e0,e1,e2,e3,e4,e5,hf⟩:=h2 i r hr
 exact ⟨a,b,c,e0,e1,e2,e3,e4,e5,hf.below hb⟩
theorem FracAt.cells3 {k:Nat} {w:World} {a b c:Value} {q:Rat} (h:FracAt k w (.agg #[a,b,c]) q):∃ s A n cn A' n' cn',a = .bool s/\b = .slice A n cn/\c = .slice A' n' cn':=by
 obtain ⟨neg,vn,vd,ln,ld,e,hn,hd,_⟩:=h
 obtain ⟨_,An,cn,rfl,_⟩:=hn.open_
 obtain ⟨_,Ad,cd,rfl,_⟩:=hd.open_
 injection e with e
 have e':[a,b,c] = [.bool neg,.slice An ln.length cn,.slice Ad ld.length cd]:=congrArg Array.toList e
 simp only [List.cons.injEq,and_true] at e'
 obtain ⟨rfl,rfl,rfl⟩:=e'
 exact ⟨_,_,_,_,_,_,_,rfl,rfl,rfl⟩
theorem RulesAt.open_ {k:Nat} {w:World} {v:Value} {rs:List bP} (h:RulesAt k w v rs):∃ A c,v = .slice A rs.length c/\rs.length <= c/\c <= 9223372036854775807 /\
  ∀ (j:Nat) (r:bP),rs[j]? = some r->∃ b off s An nn cn Ad nd cd,A = some ⟨b,off,none⟩/\b < w.heap.size/\w.cell? ⟨b,off + j * 6,none⟩ = some (.int .i64 r.f)/\w.cell? ⟨b,off + j * 6 + 1,none⟩ = some (.int .i64 r.w)/\w.cell? ⟨b,off + j * 6 + 2,none⟩ = some (.int .i64 r.t) /\
   w.cell? ⟨b,off + j * 6 + 3,none⟩ = some (.bool s)/\w.cell? ⟨b,off + j * 6 + 4,none⟩ = some (.slice An nn cn)/\w.cell? ⟨b,off + j * 6 + 5,none⟩ = some (.slice Ad nd cd)/\FracAt k w (.agg #[.bool s,.slice An nn cn,.slice Ad nd cd]) r.q:=by
 obtain ⟨cells,h1,h2⟩:=h
 obtain ⟨h0,A,c,rfl,hc,hm,h5⟩:=h1
 refine ⟨A,c,rfl,hc,by unfold maxLen at hm; omega,fun j r hr=>?_⟩
 have hj:=(sI.1 hr).1
 obtain ⟨b,off,e,hlt,hcell⟩:=h5 (by omega)
 obtain ⟨x,y,z,e0,e1,e2,e3,e4,e5,hf⟩:=h2 j r hr
 obtain ⟨s,An,nn,cn,Ad,nd,cd,rfl,rfl,rfl⟩:=hf.cells3
 exact ⟨b,off,s,An,nn,cn,Ad,nd,cd,e,hlt,hcell _ _ e0,by rw [Nat.add_assoc]; exact hcell _ _ e1,by rw [Nat.add_assoc]; exact hcell _ _ e2,by rw [Nat.add_assoc]; exact hcell _ _ e3,by rw [Nat.add_assoc]; exact hcell _ _ e4,by rw [Nat.add_assoc]; exact hcell _ _ e5,hf⟩

def jo (L V:Int) (r:bP):Bool:=decide (0 <= r.f/\r.f < L/\0 <= r.t/\r.t < L/\0 <= r.w/\r.w <= V/\(r.w = 0->r.t = 0)/\0 <= r.q)
def iY (s:List Rat) (i:Nat) (q:Rat):List Rat:=s.set i (s.getD i 0 + q)
def bZ (L:Nat) (rs:List bP):List Rat:=rs.foldl (fun s r=>iY s r.f.toNat r.q) (List.replicate L 0)
theorem ft (L:Nat) (rs:List bP) (r:bP):bZ L (rs ++ [r]) = iY (bZ L rs) r.f.toNat r.q:=by simp [bZ]
theorem dH (L:Nat) (rs:List bP):(bZ L rs).length = L:=by
 unfold bZ
 have key:∀ s:List Rat,(rs.foldl (fun s r=>iY s r.f.toNat r.q) s).length = s.length:=by
  intro s
  induction rs generalizing s with
  | nil=>rfl
  | cons r rs ih=>simp only [List.foldl_cons]; rw [ih]; simp [iY]
 rw [key,List.length_replicate]
def aR (L V:Int) (rs:List bP):Int :=
 if 500 < rs.length then 5 else if 1 <= L/\L <= 60/\1 <= V/\V <= 2000/\rs.all (jo L V) = true/\(bZ L.toNat rs).all (fun q=>decide (q = 1)) = true then 0 else 2
theorem fO (q:Rat):aU q < 0 ↔ ¬ 0 <= q:=by
 unfold aU
 by_cases h0:q = 0
 ·subst h0; simp
 rw [if_neg h0]
 by_cases h:q < 0
 ·rw [if_pos h]
  exact ⟨fun _=>Rat.not_le.2 h,fun _=>by omega⟩
 rw [if_neg h]
 exact ⟨fun h=>by omega,fun h'=>absurd (Rat.not_lt.1 h) h'⟩
theorem pQ (q:Rat):aU q = 0 ↔ q = 0:=by
 unfold aU
 by_cases h0:q = 0
 ·simp [h0]
 rw [if_neg h0]
 constructor
 ·intro h; split at h <;> omega
 intro h; exact absurd h h0
theorem lG (q:Rat):q - 1 = 0 ↔ q = 1:=by
 constructor
 ·intro h
  have:q - 1 + 1 = 0 + 1:=by rw [h]
  rwa [Rat.sub_add_cancel,Rat.zero_add] at this
 intro h
 rw [h]
 exact Rat.sub_self

theorem uN (k:Nat) (w:World) (v:Value) (l:List (Rat)) (F:Nat) (caps:Array Value) (P:Rat->Bool)(h:FracsAt k w v l)(hn:l.length <= 9223372036854775807)(hF:∀ (W:World) (args:Array Value),(callFunc F args).run Tryz.prog W = .ok (.enter F args) W)
  (hf:∀ W x a,Below w.heap.size w W->x ∈ l->FracAt k W a x->Calls Tryz.prog F (#[a] ++ caps) W fun e w'=>e = .returned (.bool (P x))/\Below W.heap.size W w') :
  Calls Tryz.prog 145 #[v,.func (.func F) #[] caps] w fun e w'=>e = .returned (.int .i64 (aT P l 0))/\Below w.heap.size w w':=by
 obtain ⟨A,c,rfl,hlc,hcm,hat⟩:=h.at_
 have HAT:=aH hat
 have HF:=aH hf
 clear h hat hf
 obtain ⟨n,hn'⟩:=nm (l.length)
 have HLN:=aH hn'
 rw [hn'] at hlc hn ⊢
 clear hn'
 go_enter Tryz.func145,Tryz.ntmps145
 go_wp2_with fail
 go_loopg [5,8] n (fun g _ i wr=>∃ (j:Nat),i = .int .i64 j/\j + g = n/\Hd (aT P l 0 = aT P (l.drop j) j)/\Hd (Below w.heap.size w wr))
 case atStart=>exact ⟨0,rfl,by omega,aH rfl,aH (Below.refl _ _)⟩
 obtain ⟨j,rfl,hj,HQ,BEL⟩:=hrel
 have hsz:w.heap.size <= wr.heap.size:=BEL.o.size
 rcases zP gk with h | h
 ·obtain rfl:j = n:=by omega
  have HR:Hd (aT P l 0 = -1):=aH (by rw [HQ.o,dN (by rw [HLN.o]; exact nR _)]; rfl)
  go_wp2_with fail
  go_ret
  exact ⟨ag HR.o.symm,BEL.o⟩
 obtain ⟨g,rfl⟩:∃ g,gk = g + 1:=⟨gk - 1,by omega⟩
 obtain ⟨x,hx⟩:∃ x,l[j]? = some x:=⟨_,eG (by rw [HLN.o]; omega)⟩
 obtain ⟨bb,off,neg,An,nn,cn,Ad,nd,cd,rfl,hbb,e0,e1,e2,hfr⟩:=HAT.o j x hx
 have d0:=(BEL.o.cell (p:=⟨bb,off + j * 3,none⟩) hbb).trans e0
 have d1:=(BEL.o.cell (p:=⟨bb,off + j * 3 + 1,none⟩) hbb).trans e1
 have d2:=(BEL.o.cell (p:=⟨bb,off + j * 3 + 2,none⟩) hbb).trans e2
 have FR:=aH (hfr.below BEL.o)
 clear e0 e1 e2 hfr
 have DR:=aH (fR P hx)
 have HX:=aH hx
 clear hx
 have hlt:(j:Int) < (n:Int):=by omega
 have NC:=HF.o wr x _ BEL.o (mG HX.o) FR.o
 cases hd:P x with
 | true =>
  rw [hd] at NC
  have HR:Hd (aT P l 0 = j):=aH (by rw [HQ.o,DR.o,hd,if_pos rfl])
  clear hd
  go_wp2_with fail
  refine NC.mono ?_
  rintro e w1 ⟨rfl,hb1⟩
  have B1:=aH hb1
  clear hb1
  go_wp2_with fail
  go_ret
  exact ⟨ag HR.o.symm,BEL.o.trans (B1.o.mono hsz)⟩
 | false =>
  rw [hd] at NC
  have HR:Hd (aT P l 0 = aT P (l.drop (j + 1)) (j + 1)):=aH (by rw [HQ.o,DR.o,hd]; rfl)
  clear hd
  go_wp2_with fail
  refine NC.mono ?_
  rintro e w1 ⟨rfl,hb1⟩
  have B1:=aH hb1
  clear hb1
  go_wp2_with fail
  go_roundg g
  case measure=>omega
  case rel=>exact ⟨j + 1,rfl,by omega,HR,aH (BEL.o.trans (B1.o.mono hsz))⟩

theorem oN (k:Nat) (w:World) (v:Value) (l:List (Rat)) (F:Nat) (caps:Array Value) (P:Rat->Bool)(h:FracsAt k w v l)(hn:l.length <= 9223372036854775807)(hF:∀ (W:World) (args:Array Value),(callFunc F args).run Tryz.prog W = .ok (.enter F args) W)
  (hf:∀ W x a,Below w.heap.size w W->x ∈ l->FracAt k W a x->Calls Tryz.prog F (#[a] ++ caps) W fun e w'=>e = .returned (.bool (P x))/\Below W.heap.size W w') :
  Calls Tryz.prog 105 #[v,.func (.func F) #[] caps] w fun e w'=>e = .returned (.bool (l.any P))/\Below w.heap.size w w':=by
 have IC:=aH (uN k w v l F caps P h hn hF hf)
 have HA:=aH (gP P l 0)
 obtain ⟨A,c,rfl,hlc,hcm,_⟩:=h.at_
 clear h hf
 generalize aT P l 0 = r at *
 go_enter Tryz.func105,Tryz.ntmps105
 go_wp2_with fail
 refine IC.o.mono ?_
 rintro e w1 ⟨rfl,hb1⟩
 have B1:=aH hb1
 clear hb1
 go_wp2_with fail
 go_ret
 exact ⟨ai (by rw [<- HA.o]),B1.o⟩

theorem vM (w:World) (v:Value) (q:Rat) (k:Nat)(h:FracAt k w v q)(h0:0 < k)(hk:k <= 4398046511104) :
  Calls Tryz.prog 122 #[v] w fun e w'=>e = .returned (.bool (!decide (q = 1)))/\Below w.heap.size w w':=by
 have H1:=aH h
 obtain ⟨s,vn,vd,rfl⟩:=h.shape
 clear h
 have Q1:Hd (QB k ((1:Nat):Rat)):=aH (bv (Nat.one_lt_two_pow (by omega)) h0)
 have HQ:Hd (aU (q - (1:Nat)) = 0 ↔ q = 1):=aH ((pQ _).trans (lG q))
 obtain ⟨z,hz⟩:=nm (aU (q - (1:Nat)))
 have HZ:=aH hz
 obtain ⟨r,hr,hzr⟩:∃ r,(!decide (q = 1)) = r/\(z != 0) = r:=⟨_,rfl,by
  rw [hz] at HQ
  by_cases h1:q = 1
  ·have:=HQ.o.2 h1
   simp [h1,this]
  have h2:z ≠ 0:=fun e=>h1 (HQ.o.1 e)
  simp [h1,h2]⟩
 rw [hr]
 clear hz HQ hr
 go_enter Tryz.func122,Tryz.ntmps122
 go_wp2_with fail
 obtain ⟨W,hW,P0,PB,Phs⟩:=aA w 40 [.bool s,vn,vd]
 rw [<- hW]
 clear hW
 obtain ⟨p0,p1,p2,_,_,_⟩:=P0.o.three
 go_region_held3 (fun w'=>w'.cell? ⟨w.heap.size,0,none⟩ = some (.bool s)/\w'.cell? ⟨w.heap.size,1,none⟩ = some (vn)/\w'.cell? ⟨w.heap.size,2,none⟩ = some (vd)) (first | assumption | (refine jh hS ?_ _ _ _ <;> omega) | go_keep)
  (first
   | (go_at_call 110; refine (ofN _ 1 (by omega)).mono ?_; rintro e w1 ⟨v1,rfl,t1,hb1⟩; have S1:Hd (Below W.heap.size W w1):=aH (by first | exact hb1 | exact bO hb1); have hs1:W.heap.size <= w1.heap.size:=S1.o.size; have T1:=aH t1; have hS:=aI (P0.o.below' S1.o).three.1 (aI (P0.o.below' S1.o).three.2.1 (P0.o.below' S1.o).three.2.2.1); clear t1 hb1)
   | (go_at_call 108; refine (vX w1 _ _ q (1:Nat) k ((H1.o.below PB.o).below S1.o) (T1.o.at_.frac Q1.o (by omega)) h0 hk).mono ?_; rintro e w2 ⟨rfl,hb2⟩; have S2:Hd (Below w1.heap.size w1 w2):=aH hb2; have hs2:w1.heap.size <= w2.heap.size:=S2.o.size; have hS:=aI (P0.o.below' (aa S1.o S2.o)).three.1 (aI (P0.o.below' (aa S1.o S2.o)).three.2.1 (P0.o.below' (aa S1.o S2.o)).three.2.2.1); rw [HZ.o]; clear hb2))
 go_wp2_with fail
 go_ret
 exact ⟨rfl,PB.o.trans ((aa S1.o S2.o).mono (by omega))⟩
section
def bh:Value->Prop
 | .bool _=>True
 | .slice _ _ _=>True
 | _=>False
theorem DigAt.offBlk {w:World} {v:Value} {l:List Nat} {b:Nat} {e:TypeId} {xs:List Value} (h:DigAt w v l)(hb:Blk w b e xs)(hx:∀ x ∈ xs,bh x):Off v b:=by
 obtain ⟨⟨h0,A,c,rfl,_,_,h5⟩,_⟩:=h
 intro ad n' c' e' hn
 cases e'
 obtain ⟨b',off,e',_,hc⟩:=h5 hn
 cases e'
 simp only
 intro hbb
 subst hbb
 cases l with
 | nil=>simp at hn
 | cons d l =>
  have h1:=hc 0 (dg d) rfl
  rw [hb.cell] at h1
  exact hx _ (mG h1)
theorem FracAt.setOff {k:Nat} {w:World} {a b c:Value} {q:Rat} (h:FracAt k w (.agg #[a,b,c]) q) {p:Addr} (h1:Off b p.block)(h2:Off c p.block) (u:Value):FracAt k (w.setCell p u) (.agg #[a,b,c]) q:=by
 obtain ⟨s,vn,vd,ln,ld,e,hn,hd,hr⟩:=h
 injection e with e
 have e':[a,b,c] = [.bool s,vn,vd]:=congrArg Array.toList e
 simp only [List.cons.injEq,and_true] at e'
 obtain ⟨rfl,rfl,rfl⟩:=e'
 exact ⟨s,_,_,ln,ld,rfl,⟨hn.1.setOff h1 u,hn.2⟩,⟨hd.1.setOff h2 u,hd.2⟩,hr⟩
theorem FracAt.digs {k:Nat} {w:World} {a b c:Value} {q:Rat} (h:FracAt k w (.agg #[a,b,c]) q):∃ ln ld,DigAt w b ln/\DigAt w c ld:=by
 obtain ⟨s,vn,vd,ln,ld,e,hn,hd,hr⟩:=h
 injection e with e
 have e':[a,b,c] = [.bool s,vn,vd]:=congrArg Array.toList e
 simp only [List.cons.injEq,and_true] at e'
 obtain ⟨rfl,rfl,rfl⟩:=e'
 exact ⟨ln,ld,hn,hd⟩

def FArk (k:Nat) (w:World) (b:Nat) (qs:List Rat):Prop:=∃ xs,Blk w b 40 xs/\xs.length = qs.length * 3/\(∀ x ∈ xs,bh x) /\
 ∀ (i:Nat) (q:Rat),qs[i]? = some q->∃ s A m c A' m' c',xs[i * 3]? = some (.bool s)/\xs[i * 3 + 1]? = some (.slice A m c)/\xs[i * 3 + 2]? = some (.slice A' m' c')/\FracAt k w (.agg #[.bool s,.slice A m c,.slice A' m' c']) q
section
variable {k:Nat} {w w':World} {b:Nat} {qs:List Rat}
theorem FArk.lt (h:FArk k w b qs):b < w.heap.size:=by
 obtain ⟨xs,hb,_⟩:=h
 exact hb.lt
theorem FArk.below (h:FArk k w b qs)(hb:Below w.heap.size w w'):FArk k w' b qs:=by
 obtain ⟨xs,h1,h2,hx,h3⟩:=h
 refine ⟨xs,h1.below' hb,h2,hx,fun i q hq=>?_⟩
 obtain ⟨s,A,m,c,A',m',c',e0,e1,e2,e3⟩:=h3 i q hq
 exact ⟨s,A,m,c,A',m',c',e0,e1,e2,e3.below hb⟩
theorem FArk.drew (h:FArk k w b qs):FArk k w.drew b qs:=h
theorem FArk.get (h:FArk k w b qs) {i:Nat} {q:Rat} (hq:qs[i]? = some q):∃ s A m c A' m' c',w.cell? ⟨b,i * 3,none⟩ = some (.bool s)/\w.cell? ⟨b,i * 3 + 1,none⟩ = some (.slice A m c)/\w.cell? ⟨b,i * 3 + 2,none⟩ = some (.slice A' m' c') /\
  w.frozen? ⟨b,i * 3,none⟩ = false/\w.frozen? ⟨b,i * 3 + 1,none⟩ = false/\w.frozen? ⟨b,i * 3 + 2,none⟩ = false/\FracAt k w (.agg #[.bool s,.slice A m c,.slice A' m' c']) q:=by
 obtain ⟨xs,h1,_,_,h3⟩:=h
 obtain ⟨s,A,m,c,A',m',c',e0,e1,e2,e3⟩:=h3 i q hq
 exact ⟨s,A,m,c,A',m',c',(h1.cell _).trans e0,(h1.cell _).trans e1,(h1.cell _).trans e2,h1.frozen _,h1.frozen _,h1.frozen _,e3⟩
theorem FracAt.setBlk {e:TypeId} {xs:List Value} {x y z:Value} {q:Rat} (h:FracAt k w (.agg #[x,y,z]) q)(hb:Blk w b e xs)(hx:∀ x ∈ xs,bh x) (o:Nat) (u:Value):FracAt k (w.setCell ⟨b,o,none⟩ u) (.agg #[x,y,z]) q:=by
 obtain ⟨ln,ld,h1,h2⟩:=h.digs
 exact h.setOff (p:=⟨b,o,none⟩) (h1.offBlk hb hx) (h2.offBlk hb hx) u
theorem aO {xs:List Value} (hx:∀ x ∈ xs,bh x) (i:Nat) {u:Value} (hu:bh u):∀ x ∈ xs.set i u,bh x:=by
 intro x h
 rcases List.mem_or_eq_of_mem_set h with h | rfl
 ·exact hx x h
 exact hu
theorem FracAt.put3 {e:TypeId} {xs:List Value} {x y z:Value} {q:Rat} (h:FracAt k w (.agg #[x,y,z]) q)(hb:Blk w b e xs)(hx:∀ x ∈ xs,bh x) (i:Nat) (s:Bool) (A A':Option Addr) (m c m' c':Nat) :
  FracAt k (((w.setCell ⟨b,i * 3,none⟩ (.bool s)).setCell ⟨b,i * 3 + 1,none⟩ (.slice A m c)).setCell ⟨b,i * 3 + 2,none⟩ (.slice A' m' c')) (.agg #[x,y,z]) q :=
 ((h.setBlk hb hx (i * 3) _).setBlk (hb.set_ _ _) (aO hx _ (show bh (.bool s) from trivial)) (i * 3 + 1) _).setBlk ((hb.set_ _ _).set_ _ _) (aO (aO hx _ (show bh (.bool s) from trivial)) _ (show bh (.slice A m c) from trivial)) (i * 3 + 2) _
theorem FArk.put (h:FArk k w b qs) {i:Nat} (hi:i < qs.length) {q:Rat} {s:Bool} {A A':Option Addr} {m c m' c':Nat} (hq:FracAt k w (.agg #[.bool s,.slice A m c,.slice A' m' c']) q) :
  FArk k (((w.setCell ⟨b,i * 3,none⟩ (.bool s)).setCell ⟨b,i * 3 + 1,none⟩ (.slice A m c)).setCell ⟨b,i * 3 + 2,none⟩ (.slice A' m' c')) b (qs.set i q):=by
 obtain ⟨xs,h1,h2,hx,h3⟩:=h
 have jH:=((h1.set_ (i * 3) (.bool s)).set_ (i * 3 + 1) (.slice A m c)).set_ (i * 3 + 2) (.slice A' m' c')
 refine ⟨_,jH,by simpa using h2,aO (aO (aO hx _ (show bh (.bool s) from trivial)) _ (show bh (.slice A m c) from trivial)) _ (show bh (.slice A' m' c') from trivial),fun j r hr=>?_⟩
 by_cases hj:i = j
 ·subst hj
  rw [List.getElem?_set_self hi] at hr
  cases hr
  refine ⟨s,A,m,c,A',m',c',?_,?_,?_,hq.put3 h1 hx _ _ _ _ _ _ _ _⟩
  ·rw [sN (by omega),sN (by omega),List.getElem?_set_self (by omega)]
  ·rw [sN (by omega),List.getElem?_set_self (by simp; omega)]
  rw [List.getElem?_set_self (by simp; omega)]
 rw [sN hj] at hr
 obtain ⟨s1,A1,m1,c1,A1',m1',c1',e0,e1,e2,e3⟩:=h3 j r hr
 refine ⟨s1,A1,m1,c1,A1',m1',c1',?_,?_,?_,e3.put3 h1 hx _ _ _ _ _ _ _ _⟩
 ·rw [sN (by omega),sN (by omega),sN (by omega)]; exact e0
 ·rw [sN (by omega),sN (by omega),sN (by omega)]; exact e1
 rw [sN (by omega),sN (by omega),sN (by omega)]; exact e2
theorem FArk.put_other {b':Nat} {qs':List Rat} (h':FArk k w b' qs')(h:FArk k w b qs)(hb:b' ≠ b) (i:Nat) (s:Bool) (A A':Option Addr) (m c m' c':Nat) :
  FArk k (((w.setCell ⟨b,i * 3,none⟩ (.bool s)).setCell ⟨b,i * 3 + 1,none⟩ (.slice A m c)).setCell ⟨b,i * 3 + 2,none⟩ (.slice A' m' c')) b' qs':=by
 obtain ⟨xs,h1,h2,hx,h3⟩:=h
 obtain ⟨ys,g1,g2,gx,g3⟩:=h'
 refine ⟨ys,((g1.far (p:=⟨b,i * 3,none⟩) hb _).far (p:=⟨b,i * 3 + 1,none⟩) hb _).far (p:=⟨b,i * 3 + 2,none⟩) hb _,g2,gx,fun j r hr=>?_⟩
 obtain ⟨s1,A1,m1,c1,A1',m1',c1',e0,e1,e2,e3⟩:=g3 j r hr
 exact ⟨s1,A1,m1,c1,A1',m1',c1',e0,e1,e2,e3.put3 h1 hx _ _ _ _ _ _ _ _⟩
theorem FArk.mono {k':Nat} (h:FArk k w b qs)(hk:k <= k'):FArk k' w b qs:=by
 obtain ⟨xs,h1,h2,hx,h3⟩:=h
 refine ⟨xs,h1,h2,hx,fun i q hq=>?_⟩
 obtain ⟨s,A,m,c,A',m',c',e0,e1,e2,e3⟩:=h3 i q hq
 exact ⟨s,A,m,c,A',m',c',e0,e1,e2,e3.mono hk⟩
theorem FArk.fracs (h:FArk k w b qs) {c:Nat} (hc:qs.length <= c)(hm:c <= 9223372036854775807):FracsAt k w (.slice (some ⟨b,0,none⟩) qs.length c) qs:=by
 obtain ⟨xs,h1,h2,_,h3⟩:=h
 refine ⟨xs.take (qs.length * 3),h1.sl (by omega) hc (by unfold maxLen; omega),fun i q hq=>?_⟩
 have hi:=(sI.1 hq).1
 obtain ⟨s,A,m,c,A',m',c',e0,e1,e2,e3⟩:=h3 i q hq
 exact ⟨_,_,_,by rw [List.getElem?_take_of_lt (by omega)]; exact e0,by rw [List.getElem?_take_of_lt (by omega)]; exact e1,by rw [List.getElem?_take_of_lt (by omega)]; exact e2,e3⟩
theorem FArr.zeros {base n:Nat} (h:FArr base w b (List.replicate n 0))(hk:0 < k) (hk':k <= 17592186044416):FArk k w b (List.replicate n 0):=by
 obtain ⟨_,xs,h1,h2,h3⟩:=h
 refine ⟨xs,h1,h2,fun x hx=>?_,fun i q hq=>?_⟩
 ·obtain ⟨j,hj,rfl⟩:=List.getElem_of_mem hx
  rw [List.length_replicate] at h2
  obtain ⟨A,m,c,A',m',c',e0,e1,e2,_⟩:=h3 (j / 3) 0 (by rw [List.getElem?_replicate_of_lt (by omega)])
  rcases (show j = j / 3 * 3 ∨ j = j / 3 * 3 + 1 ∨ j = j / 3 * 3 + 2 by omega) with h | h | h
  ·rw [<- h,eG hj] at e0; injection e0 with e0; rw [e0]; trivial
  ·rw [<- h,eG hj] at e1; injection e1 with e1; rw [e1]; trivial
  rw [<- h,eG hj] at e2; injection e2 with e2; rw [e2]; trivial
 obtain ⟨A,m,c,A',m',c',e0,e1,e2,e3⟩:=h3 i q hq
 have hq0:q = 0:=List.eq_of_mem_replicate (mG hq)
 exact ⟨_,A,m,c,A',m',c',e0,e1,e2,e3.at_.frac (by rw [hq0]; exact bv (n:=0) (Nat.pow_pos (by omega)) hk) hk'⟩
end
end
def eM (s:List Int) (row:List Rat) (t:Nat) (r:bP):Option Rat :=
 if r.w = 0 then (if t = s.length then some r.q else none) else if s[t]? = some r.w then some (r.q * row.getD r.t.toNat 0) else none
def tZ (K:Nat) (w0:World) (o:Option Rat) (e:Ending) (w':World):Prop:=∃ s A n c A' n' c',Below w0.heap.size w0 w' /\
 ((∃ q,o = some q/\e = .returned (.tuple #[.agg #[.bool s,.slice A n c,.slice A' n' c'],.bool true])/\FracAt K w' (.agg #[.bool s,.slice A n c,.slice A' n' c']) q) ∨ (o = none/\e = .returned (.tuple #[.agg #[.bool s,.slice A n c,.slice A' n' c'],.bool false])))

theorem ww (w:World) (L V:Int) (v sv:Value) (rs:List bP) (sl:List Int) (ob rb n1 Ln t i k K J:Nat) (row:List Rat) (r:bP)(h:RulesAt k w v rs)(hs:IntsAt w sv sl)(hr:rs[i]? = some r)(ht:t <= sl.length)(hsl:sl.length <= 1000000)(hw:r.w ≠ 0->sl[t]? = some r.w->(w.cell? ⟨ob,t + 1,none⟩ = some (.slice (some ⟨rb,0,none⟩) Ln Ln)/\ob < w.heap.size/\t + 1 < n1/\n1 <= 2000000/\FArk K w rb row/\row.length = Ln/\Ln <= 60/\0 <= r.t/\r.t < Ln))
  (h0:0 < k)(hk:k <= K)(hK:K <= 500000000000)(hJ:k <= J) (hJ':J <= 17592186044416)(hQ:∀ q,eM sl row t r = some q->QB J q) :
  Calls Tryz.prog 124 #[.agg #[.int .i64 L,.int .i64 V,v],sv,.slice (some ⟨ob,0,none⟩) n1 n1,.int .i64 t,.int .i64 i] w (tZ J w (eM sl row t r)):=by
 obtain ⟨A,c,rfl,hlc,hcm,hat⟩:=h.open_
 obtain ⟨ba,oa,s,An,nn,cn,Ad,nd,cd,rfl,hba,e0,e1,e2,e3,e4,e5,hfr⟩:=hat i r hr
 obtain ⟨SA,sc,rfl,hsc,hscm,hst⟩:=hs.open_
 have hi:=(sI.1 hr).1
 obtain ⟨n,hn⟩:=nm (rs.length)
 obtain ⟨p,hp⟩:=nm (sl.length)
 rw [hn] at hlc hi ⊢
 rw [hp] at hsc ht hsl ⊢
 obtain ⟨f,wd,tt,q⟩:=r
 simp only at e0 e1 e2 hfr hw
 have HW:=aH hw
 have FR:=aH hfr
 have HST:=aH hst
 have HS:Hd (eM sl row t ⟨f,wd,tt,q⟩ = if wd = 0 then (if t = p then some q else none) else if sl[t]? = some wd then some (q * row.getD tt.toNat 0) else none):=aH (by rw [<- hp]; rfl)
 have HP:=aH hp
 have j0:(0:Int) <= (i:Int):=by omega
 have j1:(i:Int) < (n:Int):=by omega
 have j2:(0:Int) <= (t:Int):=by omega
 have HQB:=aH hQ
 clear h hs hr hat hn hp hfr hst hw hQ
 generalize eM sl row t ⟨f,wd,tt,q⟩ = o at *
 by_cases hz:wd = 0
 ·have bz:(wd == 0) = true:=by simpa using hz
  by_cases he:t = p
  ·have be:((t:Int) == (p:Int)) = true:=by simp; omega
   have HO:Hd (o = some q):=aH (by rw [HS.o,if_pos hz,if_pos he])
   clear hz he
   go_enter Tryz.func124,Tryz.ntmps124
   go_upto_region 2 with fail
   obtain ⟨W,hW,P0,P1,P2,PB,Phs⟩:=box3 w 73 [.int .i64 L,.int .i64 V,.slice (some ⟨ba,oa,none⟩) n c] 40 [.bool false,.slice none 0 0,.slice none 0 0] 111 [.int .i64 f,.int .i64 wd,.int .i64 tt,.bool s,.slice An nn cn,.slice Ad nd cd]
   rw [<- hW]
   clear hW
   obtain ⟨r0,r1,r2,z0,z1,z2⟩:=P1.o.three
   have g1:=P2.o.cell 1
   have g2:=P2.o.cell 2
   have g3:=P2.o.cell 3
   have g4:=P2.o.cell 4
   have g5:=P2.o.cell 5
   simp only [List.getElem?_cons_zero,List.getElem?_cons_succ] at g1 g2 g3 g4 g5
   clear e0 e1 e2 e3 e4 e5
   go_wp2_with fail
   refine bodyPost_ret (v:=.tuple #[.agg #[.bool s,.slice An nn cn,.slice Ad nd cd],.bool true]) (by simp [results,Tryz.results124,go_sem,r0,r1,r2,List.mapM_cons]) rfl ⟨_,_,_,_,_,_,_,af PB.o (by omega) _ _ _,.inl ⟨q,HO.o,rfl,?_⟩⟩
   have hF:=FR.o.mono hJ
   obtain ⟨ln,ld,hd1,hd2⟩:=hF.digs
   exact (((hF.below PB.o).setOff (p:=⟨w.heap.size + 1,0,none⟩) (hd1.1.off (show w.heap.size <= w.heap.size + 1 by omega)) (hd2.1.off (show w.heap.size <= w.heap.size + 1 by omega)) _).setOff (p:=⟨w.heap.size + 1,1,none⟩) (hd1.1.off (show w.heap.size <= w.heap.size + 1 by omega)) (hd2.1.off (show w.heap.size <= w.heap.size + 1 by omega)) _).setOff (p:=⟨w.heap.size + 1,2,none⟩) (hd1.1.off (show w.heap.size <= w.heap.size + 1 by omega)) (hd2.1.off (show w.heap.size <= w.heap.size + 1 by omega)) _
  have be:((t:Int) == (p:Int)) = false:=by simp; omega
  have HO:Hd (o = none):=aH (by rw [HS.o,if_pos hz,if_neg he])
  clear hz he
  go_enter Tryz.func124,Tryz.ntmps124
  go_upto_region 2 with fail
  obtain ⟨W,hW,P0,P1,P2,PB,Phs⟩:=box3 w 73 [.int .i64 L,.int .i64 V,.slice (some ⟨ba,oa,none⟩) n c] 40 [.bool false,.slice none 0 0,.slice none 0 0] 111 [.int .i64 f,.int .i64 wd,.int .i64 tt,.bool s,.slice An nn cn,.slice Ad nd cd]
  rw [<- hW]
  clear hW
  obtain ⟨r0,r1,r2,z0,z1,z2⟩:=P1.o.three
  have g1:=P2.o.cell 1
  have g2:=P2.o.cell 2
  have g3:=P2.o.cell 3
  have g4:=P2.o.cell 4
  have g5:=P2.o.cell 5
  simp only [List.getElem?_cons_zero,List.getElem?_cons_succ] at g1 g2 g3 g4 g5
  clear e0 e1 e2 e3 e4 e5
  go_wp2_with fail
  refine bodyPost_ret (v:=.tuple #[.agg #[.bool s,.slice An nn cn,.slice Ad nd cd],.bool false]) (by simp [results,Tryz.results124,go_sem,r0,r1,r2,List.mapM_cons]) rfl ⟨_,_,_,_,_,_,_,af PB.o (by omega) _ _ _,.inr ⟨HO.o,rfl⟩⟩
 have bz:(wd == 0) = false:=by simpa using hz
 by_cases hlt:t < p
 ·obtain ⟨y,hy⟩:∃ y,sl[t]? = some y:=⟨_,eG (by rw [HP.o]; omega)⟩
  obtain ⟨sb,so,rfl,hsb,hsc0⟩:=HST.o t y hy
  have bl:(t:Int) < (p:Int):=by omega
  have hd:decide ((t:Int) < (p:Int)) = true:=dT bl
  by_cases hyw:wd = y
  ·have be:(wd == y) = true:=by simpa using hyw
   have HO:Hd (o = some (q * row.getD tt.toNat 0)):=aH (by rw [HS.o,if_neg hz,hy,if_pos (by rw [hyw])])
   obtain ⟨x0,x1,x2,x3,x4,x5,x6,x7,x8⟩:=HW.o hz (by rw [hy,hyw])
   clear hz hyw hy
   obtain ⟨T,rfl⟩:∃ T:Nat,tt = T:=⟨tt.toNat,by omega⟩
   have hTl:T < row.length:=by omega
   obtain ⟨rq,hrq⟩:∃ rq,row[T]? = some rq:=⟨_,eG hTl⟩
   have HRQ:Hd (row.getD (T:Int).toNat 0 = rq):=aH (by rw [Int.toNat_natCast,gD,hrq]; rfl)
   have FK:=aH x4
   obtain ⟨s',B,m,c',B',m',c'',a0,a1,a2,_,_,_,hfq⟩:=x4.get hrq
   have FQ:=aH hfq
   have hrb:rb < w.heap.size:=x4.lt
   have i3:(0:Int) <= (t:Int) + 1:=by omega
   have i4:(t:Int) + 1 < (n1:Int):=by omega
   have i5:((t:Int) + 1).toNat = t + 1:=by omega
   have i6:(0:Int) <= (T:Int):=by omega
   have i7:(T:Int) < (Ln:Int):=by omega
   have i8:IntKind.i64.wrap ((t:Int) + 1) = (t:Int) + 1:=iI _ (by omega)
   clear hrq x4 hfq hTl
   go_enter Tryz.func124,Tryz.ntmps124
   go_upto_region 2 with fail
   obtain ⟨W,hW,P0,P1,P2,PB,Phs⟩:=box3 w 73 [.int .i64 L,.int .i64 V,.slice (some ⟨ba,oa,none⟩) n c] 40 [.bool false,.slice none 0 0,.slice none 0 0] 111 [.int .i64 f,.int .i64 wd,.int .i64 (T:Int),.bool s,.slice An nn cn,.slice Ad nd cd]
   rw [<- hW]
   clear hW
   obtain ⟨r0,r1,r2,z0,z1,z2⟩:=P1.o.three
   have g1:=P2.o.cell 1
   have g2:=P2.o.cell 2
   have g3:=P2.o.cell 3
   have g4:=P2.o.cell 4
   have g5:=P2.o.cell 5
   simp only [List.getElem?_cons_zero,List.getElem?_cons_succ] at g1 g2 g3 g4 g5
   clear e0 e1 e2 e3 e4 e5
   have x0':=(PB.o.cell (p:=⟨ob,t + 1,none⟩) x1).trans x0
   have a0':=(PB.o.cell (p:=⟨rb,T * 3,none⟩) hrb).trans a0
   have a1':=(PB.o.cell (p:=⟨rb,T * 3 + 1,none⟩) hrb).trans a1
   have a2':=(PB.o.cell (p:=⟨rb,T * 3 + 2,none⟩) hrb).trans a2
   have y0':=(PB.o.cell (p:=⟨sb,so + t,none⟩) hsb).trans hsc0
   clear x0 a0 a1 a2 hsc0
   go_wp2_with fail
   go_quiet (fail)
   go_wp2_with fail
   go_region_with (first
    | (go_at_call 121; refine (lP _ _ _ q rq K ((FR.o.mono (show k <= K by omega)).below (by first | exact ak (ak PB.o _) _ | exact (ak PB.o _).drew | exact ak PB.o _)) (FQ.o.below (by first | exact ak (ak PB.o _) _ | exact (ak PB.o _).drew | exact ak PB.o _)) (by omega) (by omega)).mono ?_; rintro e w3 ⟨v3,rfl,t3,hb3'⟩; have B3:Hd (Below W.heap.size W w3):=aH (by first | exact ar (bO hb3') | exact ar (ar hb3') | exact ar hb3'); obtain ⟨A3,m3,c3,A3',m3',c3',rfl,ta,tb,tc,td⟩:=t3.open_; have TA:=aH ta; have TB:=aH tb; have TC:=aH tc; have TD:=aH td; clear r0 r1 r2 z0 z1 z2; obtain ⟨r0,r1,r2,z0,z1,z2⟩:=(P1.o.below' B3.o).three; have PB3:=aH (PB.o.trans (B3.o.mono (by omega))); clear ta tb tc td t3 hb3'))
   all_goals
    go_wp2_with fail
    refine bodyPost_ret (v:=.tuple #[.agg #[.bool (ae (q * rq)),.slice A3 m3 c3,.slice A3' m3' c3'],.bool true]) (by simp [results,Tryz.results124,go_sem,r0,r1,r2,List.mapM_cons]) rfl ⟨_,_,_,_,_,_,_,af PB3.o (by omega) _ _ _,.inl ⟨q * rq,by rw [HO.o,HRQ.o],rfl,?_⟩⟩
    refine CanAt.frac ⟨_,_,rfl,?_,?_⟩ (HQB.o _ (by rw [HO.o,HRQ.o])) hJ'
    ·exact ((TA.o.setFar TC.o (by show w.heap.size + 1 < W.heap.size; omega) _).setFar TC.o (by show w.heap.size + 1 < W.heap.size; omega) _).setFar TC.o (by show w.heap.size + 1 < W.heap.size; omega) _
    exact ((TB.o.setFar TD.o (by show w.heap.size + 1 < W.heap.size; omega) _).setFar TD.o (by show w.heap.size + 1 < W.heap.size; omega) _).setFar TD.o (by show w.heap.size + 1 < W.heap.size; omega) _
  have be:(wd == y) = false:=by simpa using hyw
  have HO:Hd (o = none):=aH (by rw [HS.o,if_neg hz,hy,if_neg (by intro e; exact hyw (Option.some.inj e).symm)])
  clear hz hyw hy
  go_enter Tryz.func124,Tryz.ntmps124
  go_upto_region 2 with fail
  obtain ⟨W,hW,P0,P1,P2,PB,Phs⟩:=box3 w 73 [.int .i64 L,.int .i64 V,.slice (some ⟨ba,oa,none⟩) n c] 40 [.bool false,.slice none 0 0,.slice none 0 0] 111 [.int .i64 f,.int .i64 wd,.int .i64 tt,.bool s,.slice An nn cn,.slice Ad nd cd]
  rw [<- hW]
  clear hW
  obtain ⟨r0,r1,r2,z0,z1,z2⟩:=P1.o.three
  have g1:=P2.o.cell 1
  have g2:=P2.o.cell 2
  have g3:=P2.o.cell 3
  have g4:=P2.o.cell 4
  have g5:=P2.o.cell 5
  simp only [List.getElem?_cons_zero,List.getElem?_cons_succ] at g1 g2 g3 g4 g5
  clear e0 e1 e2 e3 e4 e5
  have y0':=(PB.o.cell (p:=⟨sb,so + t,none⟩) hsb).trans hsc0
  clear hsc0
  go_wp2_with fail
  go_quiet (fail)
  go_wp2_with fail
  refine bodyPost_ret (v:=.tuple #[.agg #[.bool false,.slice none 0 0,.slice none 0 0],.bool false]) (by simp [results,Tryz.results124,go_sem,r0,r1,r2,List.mapM_cons]) rfl ⟨_,_,_,_,_,_,_,af (ak PB.o _) (by omega) _ _ _,.inr ⟨HO.o,rfl⟩⟩
 have hd:decide ((t:Int) < (p:Int)) = false:=dF (by omega)
 have hd2:decide (t < p) = false:=dF (by omega)
 have HO:Hd (o = none):=aH (by rw [HS.o,if_neg hz,nI.2 (by rw [HP.o]; omega)]; rfl)
 clear hz hlt
 go_enter Tryz.func124,Tryz.ntmps124
 go_upto_region 2 with fail
 obtain ⟨W,hW,P0,P1,P2,PB,Phs⟩:=box3 w 73 [.int .i64 L,.int .i64 V,.slice (some ⟨ba,oa,none⟩) n c] 40 [.bool false,.slice none 0 0,.slice none 0 0] 111 [.int .i64 f,.int .i64 wd,.int .i64 tt,.bool s,.slice An nn cn,.slice Ad nd cd]
 rw [<- hW]
 clear hW
 obtain ⟨r0,r1,r2,z0,z1,z2⟩:=P1.o.three
 have g1:=P2.o.cell 1
 have g2:=P2.o.cell 2
 have g3:=P2.o.cell 3
 have g4:=P2.o.cell 4
 have g5:=P2.o.cell 5
 simp only [List.getElem?_cons_zero,List.getElem?_cons_succ] at g1 g2 g3 g4 g5
 clear e0 e1 e2 e3 e4 e5
 go_wp2_with fail
 go_quiet (fail)
 go_wp2_with fail
 refine bodyPost_ret (v:=.tuple #[.agg #[.bool false,.slice none 0 0,.slice none 0 0],.bool false]) (by simp [results,Tryz.results124,go_sem,r0,r1,r2,List.mapM_cons]) rfl ⟨_,_,_,_,_,_,_,af (ak PB.o _) (by omega) _ _ _,.inr ⟨HO.o,rfl⟩⟩
section
open Go.MapKept

theorem kg {P:Program} (w:World) (t k e:TypeId)(ht:P.underlying t = some (.map k e)):(Instr.range t (.map none)).run P w = .ok (.pointer (some ⟨w.heap.size,0,none⟩)) (w.alloc (.mapIter none 0 #[] 0)):=by
 simp only [Instr.range,run_underlying ht,Sem.run_bind,Result.andThen_ok]
 rfl
theorem lI {P:Program} {w:World} {r:Nat} (ty:TypeId)(hr:w.heap[r]? = some (.mapIter none 0 #[] 0)):(Instr.next (.pointer (some ⟨r,0,none⟩)) false ty).run P w = .ok (.tuple #[.bool false]) w:=by
 simp [Instr.next,getObj,Sem.run_bind,Sem.run,hr,Result.andThen]
end
end Go.Proofs.YtjebfdfkjlkifaaGreat
