/- Lemmas on the way: Mem, Clone, Dig, Nat1. -/
import Derived.Test.YtkdhppimhdemjaaGreatU01
import Derived.WalkSpells
import Derived.Deep.Draws
import Derived.Deep.AppendLies
set_option linter.all false
set_option maxRecDepth 1000000
set_option maxHeartbeats 32000000
namespace Go.Proofs.YtkdhppimhdemjaaGreat
open Go.RowKit
section
def Sl (w:World) (sz:Nat) (v:Value) (n:Nat) (xs:List Value):Prop :=
 xs.length = n * sz/\∃ A c,v = .slice A n c/\n <= c/\c <= maxLen /\
  (0 < n->∃ b off,A = some ⟨b,off,none⟩/\b < w.heap.size/\∀ j u,xs[j]? = some u->w.cell? ⟨b,off + j,none⟩ = some u)

section
variable {w w':World} {sz n:Nat} {v:Value} {xs:List Value}

theorem Sl.below (h:Sl w sz v n xs)(hb:Below w.heap.size w w'):Sl w' sz v n xs:=by
 obtain ⟨h0,A,c,h1,h2,h3,h5⟩:=h
 refine ⟨h0,A,c,h1,h2,h3,fun hn=>?_⟩
 obtain ⟨b,off,e,hlt,hc⟩:=h5 hn
 exact ⟨b,off,e,Nat.lt_of_lt_of_le hlt hb.size,fun j u hu=>(hb.cell (p:=⟨b,off + j,none⟩) hlt).trans (hc j u hu)⟩

theorem Sl.drewN (h:Sl w sz v n xs) (k:Nat):Sl (w.drewN k) sz v n xs:=h
theorem Sl.alloc (h:Sl w sz v n xs) (o:Obj):Sl (w.alloc o) sz v n xs:=h.below ((Below.refl _ w).alloc (Nat.le_refl _) o)

theorem Sl.le (h:Sl w sz v n xs):n <= maxLen:=by
 obtain ⟨_,_,_,_,h2,h3,_⟩:=h
 omega

theorem Sl.nil_ (w:World) (sz:Nat):Sl w sz (.slice none 0 0) 0 []:=⟨by simp,none,0,rfl,Nat.le_refl _,Nat.zero_le _,fun h=>absurd h (by omega)⟩

theorem Sl.open_ (h:Sl w sz v n xs):xs.length = n * sz/\∃ A c,v = .slice A n c/\n <= c/\c <= maxLen /\
  ((n = 0/\xs = []) ∨ ∃ b off,A = some ⟨b,off,none⟩/\b < w.heap.size/\∀ j u,xs[j]? = some u->w.cell? ⟨b,off + j,none⟩ = some u):=by
 obtain ⟨h0,A,c,h1,h2,h3,h5⟩:=h
 refine ⟨h0,A,c,h1,h2,h3,?_⟩
 rcases Nat.eq_zero_or_pos n with hn | hn
 ·subst hn
  exact .inl ⟨rfl,List.eq_nil_of_length_eq_zero (by simpa using h0)⟩
 exact .inr (h5 hn)

theorem Sl.of_own {base:Nat} {e:TypeId} (h:w.ownsRow base e sz v n xs):Sl w sz v n xs:=by
 have h':=h
 obtain ⟨h0,h1⟩:=h
 refine ⟨h0,?_⟩
 rcases h1 with ⟨rfl,rfl⟩ | ⟨g,cap,cur,rfl,hb,hg,hn,hc,hsz,ht⟩
 ·exact ⟨none,0,rfl,Nat.le_refl _,Nat.zero_le _,fun h=>absurd h (by omega)⟩
 refine ⟨_,cap,rfl,hn,hc,fun _=>⟨g,0,rfl,(Array.getElem?_eq_some_iff.1 hg).1,fun j u hu=>?_⟩⟩
 have:=h'.cells (g:=g) rfl j u hu
 rwa [Addr.add_lit] at this
end

theorem aJ {B:Nat} {a w:World} (h:Below B a w) (n:Nat):Below B a (w.drewN n):=⟨h.os,h.tape,h.output,h.size,h.block⟩
theorem aN {w w':World} {n:Nat} (h:Below (w.drewN n).heap.size (w.drewN n) w'):Below w.heap.size w w':=(aJ (Below.refl w.heap.size w) n).trans h

theorem ah {w w':World} (h:Below w.drew.heap.size w.drew w'):Below w.heap.size w w':=⟨h.os,h.tape,h.output,h.size,h.block⟩

theorem ak {B:Nat} (w:World):Below B w w.drew:=⟨rfl,rfl,rfl,Nat.le_refl _,fun _ _=>rfl⟩

def bw (w:World) (g:Nat) (e:TypeId) (xs:List Value):Prop:=w.heap[g]? = some (.cells xs.toArray e (0,0))

section
variable {w w':World} {g:Nat} {e:TypeId} {xs:List Value}
theorem bw.lt (h:bw w g e xs):g < w.heap.size:=(Array.getElem?_eq_some_iff.1 h).1
theorem bw.cell (h:bw w g e xs) (i:Nat):w.cell? ⟨g,i,none⟩ = xs[i]?:=by
 unfold bw at h
 simp [World.cell?,h]
theorem bw.frozen (h:bw w g e xs) (i:Nat):w.frozen? ⟨g,i,none⟩ = false:=by
 unfold bw at h
 simp [World.frozen?,h]
theorem bw.new (w:World) (e:TypeId) (xs:List Value):bw (w.alloc (.cells xs.toArray e)) w.heap.size e xs:=heap_alloc_new w _
theorem bw.drewN (h:bw w g e xs) (n:Nat):bw (w.drewN n) g e xs:=h
theorem bw.alloc (h:bw w g e xs) (o:Obj):bw (w.alloc o) g e xs:=(Below.heap_alloc w o g h.lt).trans h
theorem bw.set_ (h:bw w g e xs) (i:Nat) (u:Value):bw (w.setCell ⟨g,i,none⟩ u) g e (xs.set i u):=by
 unfold bw at h ⊢
 simp [World.setCell,Array.getElem?_modify,h]
theorem bw.far (h:bw w g e xs) {p:Addr} (hp:g ≠ p.block) (u:Value):bw (w.setCell p u) g e xs:=(Below.heap_setCell w p u g hp).trans h
theorem bw.below {B:Nat} (h:bw w g e xs)(hb:Below B w w')(hg:g < B):bw w' g e xs:=(hb.block g hg).trans h
theorem bw.below' (h:bw w g e xs)(hb:Below w.heap.size w w'):bw w' g e xs:=h.below hb h.lt
theorem bw.sl (h:bw w g e xs) {sz n c:Nat} (hn:n * sz <= xs.length)(hc:n <= c)(hm:c <= maxLen):Sl w sz (.slice (some ⟨g,0,none⟩) n c) n (xs.take (n * sz)):=by
 refine ⟨by simp; omega,_,c,rfl,hc,hm,fun _=>⟨g,0,rfl,h.lt,fun j u hu=>?_⟩⟩
 rw [Nat.zero_add,h.cell]
 have hj:=(List.getElem?_eq_some_iff.1 hu).1
 simp at hj
 rw [List.getElem?_take_of_lt (by omega)] at hu
 exact hu
theorem bw.own (h:bw w g e xs) {base sz n:Nat} (hb:base <= g)(hn:xs.length = n * sz)(hm:n <= maxLen):w.ownsRow base e sz (.slice (some ⟨g,0,none⟩) n n) n xs :=
 ⟨hn,.inr ⟨g,n,xs.toArray,rfl,hb,h,Nat.le_refl _,hm,by simpa using hn,by rw [<- hn]; simp⟩⟩
end

theorem zo (z:Value) (n:Nat):(madeCells #[z] n).toList = List.replicate n z:=by
 apply List.ext_getElem?
 intro i
 by_cases h:i < n <;> simp [madeCells,h,Nat.mod_one]

theorem r9 {P:Program} (w:World) (base:Nat) (t ty e:TypeId) (i:TypeInfo) (z:Value) (size bytes:Nat)(ht:P.underlying t = some (.slice e))(hi:P.info? e = some i)(hz:i.zero = some z)
  (hsize:i.size = size)(hby:i.bytes = bytes)(hzs:z.cells.size = size)(hsz:0 < size)
  (v:Value) (n:Nat) (xs:List Value) (hown:w.ownsRow base e size v n xs)
  (x:Value) (m:Nat) (news:List Value) (hx:Sl w size x m news) (h1:∀ u ∈ news,u.oneCell' = true)
  (h63:n + m <= maxLen)(hbytes:(n + m) * bytes <= 140737488355328)(hbase:base <= w.heap.size) :
  ∃ v' w',(Builtin.append_ #[t,t] ty #[v,x]).run P w = .ok v' w'/\w'.ownsRow base e size v' (n + m) (xs ++ news)/\w.grownBy w' v.ownBlock /\
   (v'.ownBlock = v.ownBlock ∨ v'.ownBlock = some w.heap.size):=by
 obtain ⟨hl,A,c,rfl,hmc,hcm,hA⟩:=hx
 cases A with
 | some ad =>
  have hcells:∀ j u,news[j]? = some u->w.cell? (ad.add j) = some u:=by
   intro j u hu
   rcases Nat.eq_zero_or_pos m with h0 | h0
   ·subst h0
    have hn:news = []:=List.eq_nil_of_length_eq_zero (by simpa using hl)
    subst hn
    simp at hu
   obtain ⟨b,off,he,_,hc⟩:=hA h0
   injection he with he
   subst he
   rw [Addr.add_lit]
   exact hc j u hu
  obtain ⟨v',w',hrun,h2,h3,_,h5⟩:=run_append_own_at (P:=P) w base t ty e i z size bytes ht hi hz hsize hby hzs hsz v n xs hown ad m c news hl hcells h1 h63 hbytes hbase
  exact ⟨v',w',hrun,h2,h3,h5⟩
 | none =>
  have hm:m = 0:=by
   rcases Nat.eq_zero_or_pos m with h0 | h0
   ·exact h0
   obtain ⟨_,_,he,_⟩:=hA h0
   cases he
  subst hm
  have hn:news = []:=List.eq_nil_of_length_eq_zero (by simpa using hl)
  subst hn
  refine ⟨v,w,?_,by simpa using hown,World.grownBy.refl w _,.inl rfl⟩
  rcases hown.2 with ⟨rfl,rfl⟩ | ⟨g,cap,cur,rfl,_,_,hnc,_⟩
  ·simp [Builtin.append_,run_underlying ht,sizeOf,typeInfo,hi,Builtin.lenOf,Builtin.firstCells]
  simp [Builtin.append_,run_underlying ht,sizeOf,typeInfo,hi,Builtin.lenOf,Builtin.firstCells,hnc,storeCells]

theorem aP {P:Program} {w:World} {ops:Array Oper} {rest:List Oper} {o:Oper} {a:Act} {Q:Exit->Act->World->Prop} (hgd:o.guard = none) (s x:Operand) (t:TypeId)
  (ho:o.op = .call { callee:=.builtin .append,args:=#[s,x],argTypes:=#[t,t] })
  (base:Nat) (e:TypeId) (i:TypeInfo) (z:Value) (size bytes:Nat) (ht:P.underlying t = some (.slice e)) (hi:P.info? e = some i) (hz:i.zero = some z)
  (hsize:i.size = size)(hby:i.bytes = bytes)(hzs:z.cells.size = size)(hsz:0 < size)
  (v:Value) (n:Nat) (xs:List Value) (hs:a.eval s = v) (hown:w.ownsRow base e size v n xs)
  (y:Value) (m:Nat) (news:List Value) (hx:a.eval x = y) (hr:Sl w size y m news) (h1:∀ u ∈ news,u.oneCell' = true)
  (h63:n + m <= maxLen)(hbytes:(n + m) * bytes <= 140737488355328)(hbase:base <= w.heap.size)
  (h:∀ v' w',w'.ownsRow base e size v' (n + m) (xs ++ news)->w.grownBy w' v.ownBlock->(v'.ownBlock = v.ownBlock ∨ v'.ownBlock = some w.heap.size)->wpList P ops Q rest (a.put o.dst v') w'):wpList P ops Q (o :: rest) a w:=by
 refine wpList_plain hgd fun K hK=>?_
 obtain ⟨v',w',hrun,h2,h3,h4⟩:=r9 (P:=P) w base t o.type e i z size bytes ht hi hz hsize hby hzs hsz v n xs hown y m news hr h1 h63 hbytes hbase
 unfold Oper.wp execOp
 simp only [ho,resolve,invoke,builtin,Sem.run_bind,Sem.run_pure,Result.andThen_ok,List.map_toArray,List.map_cons,List.map_nil,hs,hx,hrun]
 exact hK _ _ (h v' w' h2 h3 h4)

theorem aV {P:Program} {w:World} {ops:Array Oper} {rest:List Oper} {o:Oper} {a:Act} {Q:Exit->Act->World->Prop}
  (hg:o.guard = none) (l c:Operand) (t:TypeId)(hop:o.op = Op.makeSlice t l c)
  (e:TypeId) (i:TypeInfo) (z:Value) (bytes:Nat) (h1:P.underlying t = some (.slice e)) (h2:P.info? e = some i) (h3:i.zero = some z) (h4:i.size = 1) (h5:i.bytes = bytes) (h6:z.cells = #[z])
  (kl kc:IntKind) (L C:Int) (n:Nat) (hl:a.eval l = .int kl L) (hc:a.eval c = .int kc C) (hL:L = (n:Int)) (hC:C = (n:Int)) (b2:bytes * n <= 281474976710656) (b3:n <= maxLen)
  (hK:∀ w',bw w' w.heap.size e (List.replicate n z)->Below w.heap.size w w'->wpList P ops Q rest (a.put o.dst (.slice (some ⟨w.heap.size,0,none⟩) n n)) w') :
  wpList P ops Q (o :: rest) a w:=by
 refine wpList_make_full w hg l c t hop w.heap.size e i z 1 h1 h2 h3 h4 kl kc L C n hl hc hL hC (by rw [h5]; exact b2) b3 (Nat.le_refl _) fun w' hown hgr=>?_
 rw [h6] at hown
 refine hK w' ?_ ((Below.refl _ w).grown hgr (Nat.le_refl _) (by simp))
 obtain ⟨hl0,h | ⟨g,cap,cur,hv,_,hh,hn,_,hsz,ht⟩⟩:=hown
 ·cases h.1
 injection hv with hv1 hv2 hv3
 injection hv1 with hv1
 injection hv1 with hv1
 subst hv1
 subst hv3
 unfold bw
 rw [hh]
 rw [Nat.mul_one,zo,List.take_of_length_le (by simp; omega)] at ht
 rw [<- ht]

theorem eU (w:World) (e:TypeId) (xs:List Value):∃ W,W = (w.alloc (.cells xs.toArray e))/\Hid (bw W (w.heap.size) e xs)/\Hid (Below w.heap.size w W)/\w.heap.size + 1 <= W.heap.size:=by
 exact ⟨_,rfl,Lib.hid (bw.new w e xs),Lib.hid ((Below.refl _ w).alloc (Nat.le_refl _) _),by rw [World.size_alloc]; omega⟩
theorem jz (w:World) (e:TypeId) (xs:List Value) (f:TypeId) (ys:List Value):∃ W,W = (((w.alloc (.cells xs.toArray e))).alloc (.cells ys.toArray f))/\Hid (bw W (w.heap.size) e xs)/\Hid (bw W (w.heap.size + 1) f ys)/\Hid (Below w.heap.size w W)/\w.heap.size + 2 <= W.heap.size:=by
 obtain ⟨W,hW,h0,hb,hz⟩:=eU w e xs
 have hs:W.heap.size = w.heap.size + 1:=by rw [hW]; simp only [World.size_alloc]
 have a:=bw.new W f ys
 rw [hs] at a
 exact ⟨_,by rw [hW],Lib.hid (h0.out.alloc _),Lib.hid a,Lib.hid (hb.out.alloc (by omega) _),by rw [World.size_alloc]; omega⟩
theorem box3 (w:World) (e:TypeId) (xs:List Value) (f:TypeId) (ys:List Value) (g:TypeId) (zs:List Value):∃ W,W = (((((w.alloc (.cells xs.toArray e))).alloc (.cells ys.toArray f))).alloc (.cells zs.toArray g))/\Hid (bw W (w.heap.size) e xs)/\Hid (bw W (w.heap.size + 1) f ys)/\Hid (bw W (w.heap.size + 1 + 1) g zs)/\Hid (Below w.heap.size w W)/\w.heap.size + 3 <= W.heap.size:=by
 obtain ⟨W,hW,h0,h1,hb,hz⟩:=jz w e xs f ys
 have hs:W.heap.size = w.heap.size + 1 + 1:=by rw [hW]; simp only [World.size_alloc]
 have a:=bw.new W g zs
 rw [hs] at a
 exact ⟨_,by rw [hW],Lib.hid (h0.out.alloc _),Lib.hid (h1.out.alloc _),Lib.hid a,Lib.hid (hb.out.alloc (by omega) _),by rw [World.size_alloc]; omega⟩
theorem NF (w:World) (e:TypeId) (xs:List Value) (f:TypeId) (ys:List Value) (g:TypeId) (zs:List Value)(h:TypeId) (us:List Value):∃ W,W = (((((((w.alloc (.cells xs.toArray e))).alloc (.cells ys.toArray f))).alloc (.cells zs.toArray g))).alloc (.cells us.toArray h))/\Hid (bw W (w.heap.size) e xs)/\Hid (bw W (w.heap.size + 1) f ys)/\Hid (bw W (w.heap.size + 1 + 1) g zs)/\Hid (bw W (w.heap.size + 1 + 1 + 1) h us)/\Hid (Below w.heap.size w W)/\w.heap.size + 4 <= W.heap.size:=by
 obtain ⟨W,hW,h0,h1,h2,hb,hz⟩:=box3 w e xs f ys g zs
 have hs:W.heap.size = w.heap.size + 1 + 1 + 1:=by rw [hW]; simp only [World.size_alloc]
 have a:=bw.new W h us
 rw [hs] at a
 exact ⟨_,by rw [hW],Lib.hid (h0.out.alloc _),Lib.hid (h1.out.alloc _),Lib.hid (h2.out.alloc _),Lib.hid a,Lib.hid (hb.out.alloc (by omega) _),by rw [World.size_alloc]; omega⟩
end
section
theorem dB:(Tryz.prog.info? 199).map (fun i=>(i.zero,i.size,i.bytes)) = some (some (.int .u32 0),1,4):=by kernel_rfl
theorem CA (w:World) (a:Option Addr) (n c:Nat):(binOp .eql 28 (.slice a n c) (.slice none 0 0)).run Tryz.prog w = .ok (.bool a.isNone) w:=Lib.run_eql_slice_nil w _ _ a n c 0 0 Tryz.underlying28
theorem yX (w:World) (a:Option Addr) (n c:Nat):(binOp .eql 183 (.slice a n c) (.slice none 0 0)).run Tryz.prog w = .ok (.bool a.isNone) w:=Lib.run_eql_slice_nil w _ _ a n c 0 0 Tryz.underlying183
theorem Ir (w:World) (a:Option Addr) (n c:Nat):(binOp .eql 38 (.slice a n c) (.slice none 0 0)).run Tryz.prog w = .ok (.bool a.isNone) w:=Lib.run_eql_slice_nil w _ _ a n c 0 0 Tryz.underlying38
attribute [local go_sem] CA yX Ir

theorem vh (w:World) (v:Value) (n:Nat) (xs:List Value)(hs:Sl w 1 v n xs)(h1:∀ u ∈ xs,u.oneCell' = true)(hn:n <= 17592186044416) :
  Calls Tryz.prog 254 #[v] w fun e w'=>∃ v',e = .returned v'/\Sl w' 1 v' n xs/\Below w.heap.size w w'/\∃ base,w.heap.size <= base/\w'.ownsRow base 199 1 v' n xs:=by
 obtain ⟨h0,A,c,rfl,hnc,hcm,hA⟩:=id hs
 obtain ⟨i0,hi,hz0,hz1,hz2⟩:=info_parts dB
 have HS:=Lib.hid hs
 clear hs
 have HA:=Lib.hid hA
 clear hA
 have H0:=Lib.hid h0
 clear h0
 cases A with
 | none =>
  have hn0:n = 0:=by
   rcases Nat.eq_zero_or_pos n with h | h
   ·exact h
   obtain ⟨_,_,he,_⟩:=HA.out h
   cases he
  subst hn0
  go_enter Tryz.func254,Tryz.ntmps254
  go_wp2
  go_ret
  obtain rfl:xs = []:=List.eq_nil_of_length_eq_zero (by simpa using H0.out)
  exact ⟨_,rfl,Sl.nil_ _ _,Below.refl _ _,_,Nat.le_refl _,World.ownsRow_nil _ _ _ _⟩
 | some ad =>
  go_enter Tryz.func254,Tryz.ntmps254
  go_wp2_with (at_builtin; refine aP rfl _ _ 28 rfl w.heap.size 199 i0 (.int .u32 0) 1 4 Tryz.underlying28 hi hz0 hz1 hz2 rfl (by decide) _ _ _ rfl (World.ownsRow_made w #[] 0 (Nat.le_refl _) (Nat.zero_le _) rfl) _ n xs rfl (HS.out.alloc _) h1 ?c1 ?c2 ?c3 ?_)
  case c1=>unfold maxLen; omega
  case c2=>omega
  case c3=>simp
  intro v' w1 hown hgrow _
  go_wp2
  go_ret
  exact ⟨v',rfl,by simpa using Sl.of_own hown,((Below.refl _ w).alloc (Nat.le_refl _) _).grown hgrow (by simp) (by intro k hk; simp [Value.ownBlock] at hk; omega),_,Nat.le_refl _,by simpa using hown⟩

theorem fQ (w:World) (v:Value) (n:Nat) (xs:List Value)(hs:Sl w 1 v n xs)(h1:∀ u ∈ xs,u.oneCell' = true)(hn:n <= 17592186044416) :
  Calls Tryz.prog 179 #[v] w fun e w'=>∃ v',e = .returned v'/\Sl w' 1 v' n xs/\Below w.heap.size w w'/\∃ base,w.heap.size <= base/\w'.ownsRow base 199 1 v' n xs:=by
 obtain ⟨h0,A,c,rfl,hnc,hcm,hA⟩:=id hs
 obtain ⟨i0,hi,hz0,hz1,hz2⟩:=info_parts dB
 have HS:=Lib.hid hs
 clear hs
 have HA:=Lib.hid hA
 clear hA
 have H0:=Lib.hid h0
 clear h0
 cases A with
 | none =>
  have hn0:n = 0:=by
   rcases Nat.eq_zero_or_pos n with h | h
   ·exact h
   obtain ⟨_,_,he,_⟩:=HA.out h
   cases he
  subst hn0
  go_enter Tryz.func179,Tryz.ntmps179
  go_wp2
  go_ret
  obtain rfl:xs = []:=List.eq_nil_of_length_eq_zero (by simpa using H0.out)
  exact ⟨_,rfl,Sl.nil_ _ _,Below.refl _ _,_,Nat.le_refl _,World.ownsRow_nil _ _ _ _⟩
 | some ad =>
  go_enter Tryz.func179,Tryz.ntmps179
  go_wp2_with (at_builtin; refine aP rfl _ _ 183 rfl w.heap.size 199 i0 (.int .u32 0) 1 4 Tryz.underlying183 hi hz0 hz1 hz2 rfl (by decide) _ _ _ rfl (World.ownsRow_made w #[] 0 (Nat.le_refl _) (Nat.zero_le _) rfl) _ n xs rfl (HS.out.alloc _) h1 ?c1 ?c2 ?c3 ?_)
  case c1=>unfold maxLen; omega
  case c2=>omega
  case c3=>simp
  intro v' w1 hown hgrow _
  go_wp2
  go_ret
  exact ⟨v',rfl,by simpa using Sl.of_own hown,((Below.refl _ w).alloc (Nat.le_refl _) _).grown hgrow (by simp) (by intro k hk; simp [Value.ownBlock] at hk; omega),_,Nat.le_refl _,by simpa using hown⟩
end
def val:List Nat->Nat
 | []=>0
 | d :: l=>d + 4294967296 * val l

def Ok (l:List Nat):Prop:=∀ d ∈ l,d < 4294967296
def cS (l:List Nat):Prop:=l.getLast? ≠ some 0

theorem Ok.nil:Ok []:=by simp [Ok]
theorem Ok.cons {d:Nat} {l:List Nat}:Ok (d :: l) ↔ d < 4294967296/\Ok l:=by simp [Ok]
theorem Ok.append {a b:List Nat}:Ok (a ++ b) ↔ Ok a/\Ok b:=by
 simp only [Ok,List.mem_append]
 exact ⟨fun h=>⟨fun d hd=>h d (.inl hd),fun d hd=>h d (.inr hd)⟩,fun h d hd=>hd.elim (h.1 d) (h.2 d)⟩
theorem Ok.take {l:List Nat} (h:Ok l) (k:Nat):Ok (l.take k):=fun d hd=>h d (List.mem_of_mem_take hd)
theorem Ok.drop {l:List Nat} (h:Ok l) (k:Nat):Ok (l.drop k):=fun d hd=>h d (List.mem_of_mem_drop hd)
theorem Ok.get {l:List Nat} (h:Ok l) {k d:Nat} (hd:l[k]? = some d):d < 4294967296:=h d (List.mem_of_getElem? hd)
theorem Ok.getD {l:List Nat} (h:Ok l) (k:Nat):l.getD k 0 < 4294967296:=by
 rw [List.getD_eq_getElem?_getD]
 cases e:l[k]? with
 | none=>simp
 | some d=>simpa using h.get e
theorem Ok.replicate (n:Nat):Ok (List.replicate n 0):=by
 intro d hd
 rw [List.eq_of_mem_replicate hd]
 omega
theorem Ok.set {l:List Nat} (h:Ok l) (k d:Nat)(hd:d < 4294967296):Ok (l.set k d):=by
 intro x hx
 rcases List.mem_or_eq_of_mem_set hx with h' | rfl
 ·exact h x h'
 exact hd

theorem l7 (a b:List Nat):val (a ++ b) = val a + 4294967296 ^ a.length * val b:=by
 induction a with
 | nil=>simp [val]
 | cons d a ih=>simp only [List.cons_append,val,ih,List.length_cons,Nat.pow_succ]; grind

theorem Ce (l:List Nat)(h:∀ d ∈ l,d = 0):val l = 0:=by
 induction l with
 | nil=>rfl
 | cons d l ih=>simp only [val,h d (by simp),ih (fun x hx=>h x (by simp [hx]))]

theorem eB (n:Nat):val (List.replicate n 0) = 0:=Ce _ fun _ hd=>List.eq_of_mem_replicate hd

theorem eo (l:List Nat)(h:Ok l):val l < 4294967296 ^ l.length:=by
 induction l with
 | nil=>simp [val]
 | cons d l ih =>
  rw [Ok.cons] at h
  have:=ih h.2
  have h1:=h.1
  have h2:(val l + 1) * 4294967296 <= 4294967296 ^ l.length * 4294967296:=Nat.mul_le_mul_right _ this
  simp only [val,List.length_cons,Nat.pow_succ]
  omega

theorem fM (l:List Nat) (k:Nat)(hk:k <= l.length):val l = val (l.take k) + 4294967296 ^ k * val (l.drop k):=by
 conv=>lhs; rw [<- List.take_append_drop k l]
 rw [l7,List.length_take,Nat.min_eq_left hk]

theorem cO (l:List Nat) (d:Nat):val (l ++ [d]) = val l + 4294967296 ^ l.length * d:=by
 simp [l7,val]

theorem yT (k:Nat):1 <= 4294967296 ^ k:=Nat.pow_pos (by omega)

theorem cS.ge {l:List Nat} (h:cS l)(hl:l ≠ []):4294967296 ^ (l.length - 1) <= val l:=by
 obtain ⟨a,d,rfl⟩:∃ a d,l = a ++ [d]:=⟨l.dropLast,l.getLast hl,(List.dropLast_concat_getLast hl).symm⟩
 have hd:d ≠ 0:=by simpa [cS] using h
 rw [cO]
 simp only [List.length_append,List.length_singleton,Nat.add_sub_cancel]
 have:4294967296 ^ a.length * 1 <= 4294967296 ^ a.length * d:=Nat.mul_le_mul_left _ (by omega)
 omega

theorem cS.nil:cS []:=by simp [cS]
theorem cS.val_zero {l:List Nat} (h:cS l)(hv:val l = 0):l = []:=by
 by_cases hl:l = []
 ·exact hl
 have:=h.ge hl
 have:=yT (l.length - 1)
 omega
theorem cS.eq_nil {l:List Nat} (h:cS l):val l = 0 ↔ l = []:=⟨h.val_zero,fun e=>by subst e; rfl⟩

theorem bZ {a b:List Nat} (ha:Ok a)(hb:cS b)(h:a.length < b.length):val a < val b:=by
 have h1:=eo a ha
 have hne:b ≠ []:=fun e=>by subst e; simp at h
 have h2:=hb.ge hne
 have h3:4294967296 ^ a.length <= 4294967296 ^ (b.length - 1):=Nat.pow_le_pow_right (by omega) (by omega)
 omega

theorem Ok.eq_of_val {a b:List Nat} (ha:Ok a)(hb:Ok b)(hl:a.length = b.length)(h:val a = val b):a = b:=by
 induction a generalizing b with
 | nil=>cases b with
  | nil=>rfl
  | cons _ _=>simp at hl
 | cons x a ih=>cases b with
  | nil=>simp at hl
  | cons y b =>
   rw [Ok.cons] at ha hb
   simp only [val] at h
   have hx:=ha.1
   have hy:=hb.1
   have e1:x = y:=by omega
   have e2:val a = val b:=by omega
   rw [e1,ih ha.2 hb.2 (by simpa using hl) e2]

theorem cS.eq_of_val {a b:List Nat} (ha:Ok a)(hb:Ok b) (ta:cS a) (tb:cS b)(h:val a = val b):a = b:=by
 rcases Nat.lt_trichotomy a.length b.length with hl | hl | hl
 ·have:=bZ ha tb hl; omega
 ·exact Ok.eq_of_val ha hb hl h
 have:=bZ hb ta hl; omega

theorem cS.length_le {l:List Nat} (h:cS l) {k:Nat} (hv:val l < 2 ^ k):32 * l.length <= k + 31:=by
 by_cases hl:l = []
 ·subst hl; simp
 have h1:=h.ge hl
 have hp:0 < l.length:=List.length_pos_iff.2 hl
 have h2:(4294967296:Nat) ^ (l.length - 1) = 2 ^ (32 * (l.length - 1)):=by rw [Nat.pow_mul]
 rw [h2] at h1
 have h3:2 ^ (32 * (l.length - 1)) < 2 ^ k:=by omega
 have h4:=(Nat.pow_lt_pow_iff_right (a:=2) (by omega)).1 h3
 omega

theorem aG {α:Type} (l:List α) {k:Nat} {d:α} (h:l[k]? = some d):l.take (k + 1) = l.take k ++ [d]:=by
 rw [List.take_add_one,h]; rfl

def fk (l:List Nat) (k:Nat):Prop:=k <= l.length/\val (l.take k) = val l
theorem fk.start (l:List Nat):fk l l.length:=⟨Nat.le_refl _,by simp⟩
theorem fk.step {l:List Nat} {k:Nat} (h:fk l (k + 1))(hd:l[k]? = some 0):fk l k:=by
 refine ⟨by have:=h.1; omega,?_⟩
 rw [<- h.2,aG l hd,cO]
 simp
theorem fk.trim {l:List Nat} {k d:Nat} (hd:l[k]? = some d)(h0:d ≠ 0):cS (l.take (k + 1)):=by
 rw [aG l hd]
 simpa [cS] using h0

theorem aL (l:List Nat) (k:Nat):val (l.take (k + 1)) = val (l.take k) + 4294967296 ^ k * l.getD k 0:=by
 rw [List.getD_eq_getElem?_getD]
 cases e:l[k]? with
 | none =>
  have:=List.getElem?_eq_none_iff.1 e
  rw [List.take_of_length_le (by omega),List.take_of_length_le (by omega)]
  simp
 | some d =>
  have hk:=(List.getElem?_eq_some_iff.1 e).1
  rw [aG l e,cO,List.length_take,Nat.min_eq_left (by omega)]
  simp
theorem aO {l:List Nat} {k:Nat} (h:l.length <= k):val (l.take k) = val l:=by rw [List.take_of_length_le h]

theorem dG (o:List Nat) {k:Nat} (hk:k < o.length) (d:Nat):(o.set k d).take (k + 1) = o.take k ++ [d]:=by
 rw [aG (d:=d) _ (by simp [hk]),List.take_set_of_le (Nat.le_refl _)]
section
def dg (d:Nat):Value:=.int .u32 (d:Int)

theorem mD (l:List Nat):∀ u ∈ l.map dg,u.oneCell' = true:=by
 intro u hu
 obtain ⟨_,_,rfl⟩:=List.mem_map.1 hu
 rfl

def bW (w:World) (v:Value) (l:List Nat):Prop:=Sl w 1 v l.length (l.map dg)/\Ok l
def ab (w:World) (v:Value) (n:Nat):Prop:=∃ l,bW w v l/\cS l/\val l = n

section
variable {w w':World} {v:Value} {l:List Nat} {n:Nat}
theorem bW.below (h:bW w v l)(hb:Below w.heap.size w w'):bW w' v l:=⟨h.1.below hb,h.2⟩
theorem ab.below (h:ab w v n)(hb:Below w.heap.size w w'):ab w' v n:=by
 obtain ⟨l,h1,h2⟩:=h
 exact ⟨l,h1.below hb,h2⟩
theorem bW.alloc (h:bW w v l) (o:Obj):bW (w.alloc o) v l:=⟨h.1.alloc o,h.2⟩
theorem ab.alloc (h:ab w v n) (o:Obj):ab (w.alloc o) v n:=by
 obtain ⟨l,h1,h2⟩:=h
 exact ⟨l,h1.alloc o,h2⟩
theorem ab.drewN (h:ab w v n) (k:Nat):ab (w.drewN k) v n:=h
theorem ab.drew (h:ab w v n):ab w.drew v n:=h
theorem bW.nil_ (w:World):bW w (.slice none 0 0) []:=⟨Sl.nil_ _ _,Ok.nil⟩
theorem ab.nil_ (w:World):ab w (.slice none 0 0) 0:=⟨[],bW.nil_ w,cS.nil,rfl⟩
theorem bW.open_ (h:bW w v l):Ok l/\∃ A c,v = .slice A l.length c/\l.length <= c/\c <= 9223372036854775807 /\
  (l = [] ∨ ∃ b off,A = some ⟨b,off,none⟩/\b < w.heap.size/\∀ (j d:Nat),l[j]? = some d->w.cell? ⟨b,off + j,none⟩ = some (.int .u32 (d:Int))):=by
 obtain ⟨h1,h2⟩:=h
 obtain ⟨_,A,c,rfl,hc,hm,h3⟩:=h1.open_
 refine ⟨h2,A,c,rfl,hc,hm,?_⟩
 rcases h3 with ⟨_,h⟩ | ⟨b,off,rfl,hb,h⟩
 ·exact .inl (by simpa using h)
 exact .inr ⟨b,off,rfl,hb,fun j d hd=>h j _ (by rw [List.getElem?_map,hd]; rfl)⟩
theorem Sl.cutHead {A:Option Addr} {c n k:Nat} {xs:List Value} (h:Sl w 1 (.slice A n c) n xs)(hk:k <= n):Sl w 1 (.slice A k c) k (xs.take k):=by
 obtain ⟨h0,A',c',h1,h2,h3,h4⟩:=h
 cases h1
 refine ⟨by simp; omega,A,c,rfl,by omega,h3,fun hk0=>?_⟩
 obtain ⟨b,off,rfl,hb,hc⟩:=h4 (by omega)
 exact ⟨b,off,rfl,hb,fun j u hu=>hc j u (by rw [List.getElem?_take] at hu; split at hu <;> simp_all)⟩
end

theorem bL {w wr:World} {A:Option Addr} {l:List Nat} {n:Nat} (HA:l = [] ∨ ∃ b off,A = some ⟨b,off,none⟩/\b < w.heap.size/\∀ (j d:Nat),l[j]? = some d->w.cell? ⟨b,off + j,none⟩ = some (.int .u32 (d:Int)))
  (hn:l.length = n)(hb:Below w.heap.size w wr) (k x:Nat)(hx:l.getD k 0 = x) :
  (k < n/\∃ b off,A = some ⟨b,off,none⟩/\b < w.heap.size/\wr.cell? ⟨b,off + k,none⟩ = some (.int .u32 (x:Int))) ∨ (n <= k/\x = 0):=by
 subst hx
 rcases Nat.lt_or_ge k n with h | h
 ·left
  rcases HA with h' | ⟨b,off,h',hlt,hc⟩
  ·subst h'; simp at hn; omega
  refine ⟨h,b,off,h',hlt,(hb.cell (p:=⟨b,off + k,none⟩) hlt).trans (hc k _ ?_)⟩
  rw [List.getD_eq_getElem?_getD,List.getElem?_eq_getElem (by omega)]; rfl
 right
 refine ⟨h,?_⟩
 rw [List.getD_eq_getElem?_getD,List.getElem?_eq_none_iff.2 (by omega)]; rfl
theorem bw.setDig {w:World} {g k r:Nat} {e:TypeId} {o:List Nat} {E:Int} (h:bw w g e (o.map dg))(hE:E = (r:Int)):bw (w.setCell ⟨g,k,none⟩ (.int .u32 E)) g e ((o.set k r).map dg):=by
 rw [hE,List.map_set]
 exact h.set_ k _
theorem bw.cellDig {w:World} {g k:Nat} {e:TypeId} {o:List Nat} (h:bw w g e (o.map dg))(hk:k < o.length):w.cell? ⟨g,k,none⟩ = some (.int .u32 ((o.getD k 0:Nat):Int)):=by
 rw [h.cell,List.getElem?_map,List.getD_eq_getElem?_getD,List.getElem?_eq_getElem hk]; rfl
theorem bw.digAt {w:World} {g:Nat} {e:TypeId} {o:List Nat} (h:bw w g e (o.map dg))(ho:Ok o) {n c:Nat} (hn:o.length = n)(hc:n <= c)(hm:c <= 9223372036854775807):bW w (.slice (some ⟨g,0,none⟩) n c) o:=by
 refine ⟨?_,ho⟩
 have:=h.sl (sz:=1) (n:=n) (c:=c) (by simp; omega) hc (by unfold maxLen; omega)
 rw [List.take_of_length_le (by simp; omega)] at this
 rw [hn]
 exact this
def DB (w:World) (g:Nat) (o:List Nat):Prop:=∃ e tail,bw w g e (o.map dg ++ tail)
section
variable {w w':World} {g:Nat} {o:List Nat}
theorem DB.of_blk {e:TypeId} (h:bw w g e (o.map dg)):DB w g o:=⟨e,[],by simpa using h⟩
theorem DB.lt (h:DB w g o):g < w.heap.size:=by
 obtain ⟨_,_,h⟩:=h
 exact h.lt
theorem DB.below (h:DB w g o)(hb:Below w.heap.size w w'):DB w' g o:=by
 obtain ⟨e,t,h⟩:=h
 exact ⟨e,t,h.below' hb⟩
theorem DB.drewN (h:DB w g o) (n:Nat):DB (w.drewN n) g o:=h
theorem DB.alloc (h:DB w g o) (x:Obj):DB (w.alloc x) g o:=by
 obtain ⟨e,t,h⟩:=h
 exact ⟨e,t,h.alloc x⟩
theorem DB.set (h:DB w g o) {k r:Nat} {E:Int} (hk:k < o.length)(hE:E = (r:Int)):DB (w.setCell ⟨g,k,none⟩ (.int .u32 E)) g (o.set k r):=by
 obtain ⟨e,t,h⟩:=h
 refine ⟨e,t,?_⟩
 have:=h.set_ k (.int .u32 E)
 rw [List.set_append_left _ _ (by simpa using hk)] at this
 rw [List.map_set,dg,<- hE]
 exact this
theorem DB.cell (h:DB w g o) {k:Nat} (hk:k < o.length):w.cell? ⟨g,k,none⟩ = some (.int .u32 ((o.getD k 0:Nat):Int)):=by
 obtain ⟨e,t,h⟩:=h
 rw [h.cell,List.getElem?_append_left (by simpa using hk),List.getElem?_map,List.getD_eq_getElem?_getD,List.getElem?_eq_getElem hk]; rfl
theorem DB.frozen (h:DB w g o) (k:Nat):w.frozen? ⟨g,k,none⟩ = false:=by
 obtain ⟨e,t,h⟩:=h
 exact h.frozen k
theorem DB.digAt (h:DB w g o)(ho:Ok o) {n c:Nat} (hn:o.length = n)(hc:n <= c)(hm:c <= 9223372036854775807):bW w (.slice (some ⟨g,0,none⟩) n c) o:=by
 obtain ⟨e,t,h⟩:=h
 refine ⟨?_,ho⟩
 have:=h.sl (sz:=1) (n:=n) (c:=c) (by simp; omega) hc (by unfold maxLen; omega)
 rw [List.take_append_of_le_length (by simp; omega),List.take_of_length_le (by simp; omega)] at this
 rw [hn]
 exact this
def OD (w:World) (base:Nat) (A:Option Addr) (o:List Nat):Prop:=o = [] ∨ ∃ g,A = some ⟨g,0,none⟩/\base <= g/\DB w g o
theorem OD.of_own {base:Nat} {e:TypeId} {v:Value} {n:Nat} (h:w.ownsRow base e 1 v n (o.map dg)):∃ A c,v = .slice A n c/\n <= c/\c <= 9223372036854775807/\o.length = n/\OD w base A o:=by
 obtain ⟨h0,⟨rfl,rfl⟩ | ⟨g,cap,cur,rfl,hb,hh,hn,hc,_,ht⟩⟩:=h
 ·exact ⟨none,0,rfl,Nat.le_refl _,by omega,by simpa using h0,.inl (by simpa using h0)⟩
 refine ⟨_,cap,rfl,hn,by unfold maxLen at hc; omega,by simpa using h0,.inr ⟨g,rfl,hb,e,cur.toList.drop (n * 1),?_⟩⟩
 rw [<- ht,List.take_append_drop]
 exact hh
theorem OD.at_ {base:Nat} {A:Option Addr} (h:OD w base A o) {k:Nat} (hk:k < o.length):∃ g,A = some ⟨g,0,none⟩/\base <= g/\DB w g o:=by
 rcases h with rfl | h
 ·simp at hk
 exact h
theorem OD.digAt {base:Nat} {A:Option Addr} (h:OD w base A o)(ho:Ok o) {n c:Nat} (hn:o.length = n)(hc:n <= c)(hm:c <= 9223372036854775807):bW w (.slice A n c) o:=by
 rcases h with rfl | ⟨g,rfl,_,h⟩
 ·simp at hn
  subst hn
  exact ⟨⟨by simp,A,c,rfl,hc,by unfold maxLen; omega,fun h=>absurd h (by simp)⟩,ho⟩
 exact h.digAt ho hn hc hm
end
theorem ez {k:IntKind} {a b:Int} (h:a = b):Value.int k a = Value.int k b:=by rw [h]

def bf (v:Value) (B:Nat):Prop:=∀ ad n c,v = .slice (some ad) n c->B <= ad.block
theorem bf.mono {v:Value} {B B':Nat} (h:bf v B)(hb:B' <= B):bf v B':=fun ad n c e=>Nat.le_trans hb (h ad n c e)
theorem bf.nil_ (B:Nat):bf (.slice none 0 0) B:=fun _ _ _ e=>by cases e
theorem bf.of_own {w:World} {base:Nat} {e:TypeId} {sz:Nat} {v:Value} {n:Nat} {xs:List Value} (h:w.ownsRow base e sz v n xs):bf v base:=by
 obtain ⟨_,⟨rfl,_⟩ | ⟨g,cap,cur,rfl,hb,_⟩⟩:=h
 ·intro ad n c e; cases e
 intro ad n c e; cases e; exact hb
theorem Sl.setFar {w:World} {sz:Nat} {v:Value} {n B:Nat} {xs:List Value} (h:Sl w sz v n xs)(hf:bf v B) {p:Addr} (hp:p.block < B) (u:Value):Sl (w.setCell p u) sz v n xs:=by
 obtain ⟨h0,A,c,h1,h2,h3,h5⟩:=h
 refine ⟨h0,A,c,h1,h2,h3,fun hn=>?_⟩
 obtain ⟨b,off,e,hlt,hc⟩:=h5 hn
 subst e
 have hb:=hf _ _ _ h1
 refine ⟨b,off,rfl,by simpa [World.setCell] using hlt,fun j x hx=>?_⟩
 rw [World.cell?_setCell_other w p _ u (fun e=>by
  have:=congrArg Addr.block e
  simp only at this hb
  omega)]
 exact hc j x hx
theorem ab.setFar {w:World} {v:Value} {n B:Nat} (h:ab w v n)(hf:bf v B) {p:Addr} (hp:p.block < B) (u:Value):ab (w.setCell p u) v n:=by
 obtain ⟨l,⟨h1,h2⟩,h3⟩:=h
 exact ⟨l,⟨h1.setFar hf hp u,h2⟩,h3⟩

theorem jY (w:World) (v:Value) (l:List Nat)(hd:bW w v l)(hl:l.length <= 17592186044416) :
  Calls Tryz.prog 185 #[v] w fun e w'=>∃ v',e = .returned v'/\ab w' v' (val l)/\Below w.heap.size w w'/\bf v' w.heap.size:=by
 obtain ⟨hok,A,c,rfl,hlc,hcm,hA⟩:=id hd.open_
 have HD:=Lib.hid hd.1
 have HA:=Lib.hid hA
 clear hA hd
 have HO:=Lib.hid hok
 clear hok
 obtain ⟨n,hn⟩:∃ n,l.length = n:=⟨_,rfl⟩
 have HN:=Lib.hid hn
 rw [hn] at hl hlc ⊢
 clear hn
 go_enter Tryz.func185,Tryz.ntmps185
 go_wp2
 go_loop [3] (fun i=>∃ k:Nat,i = .int .i64 k/\fk l k/\k <= n) (fun i=>(intOf i).toNat)
 case atStart=>exact ⟨n,rfl,HN.out ▸ fk.start l,Nat.le_refl _⟩
 obtain ⟨k,rfl,ht,hk⟩:=hrel
 have HT:=Lib.hid ht
 clear ht
 have clone:∀ W,W = w->Calls Tryz.prog 254 #[.slice A k c] W fun e w'=>∃ v',e = .returned v'/\Sl w' 1 v' k ((l.take k).map dg)/\Below W.heap.size W w'/\∃ base,W.heap.size <= base/\w'.ownsRow base 199 1 v' k ((l.take k).map dg):=by
  intro W hW
  rw [hW,List.map_take]
  exact vh w _ _ _ ((HN.out ▸ HD.out:Sl w 1 (.slice A n c) n (l.map dg)).cutHead hk) (fun u hu=>mD l u (List.mem_of_mem_take hu)) (by omega)
 have fin:∀ w' v',Sl w' 1 v' k ((l.take k).map dg)->cS (l.take k)->ab w' v' (val l):=by
  intro w' v' hv ht'
  have hlen:(l.take k).length = k:=by rw [List.length_take,HN.out]; omega
  exact ⟨l.take k,⟨by rw [hlen]; exact hv,HO.out.take k⟩,ht',HT.out.2⟩
 have FIN:=Lib.hid fin
 clear fin
 have CL:=Lib.hid clone
 clear clone
 rcases Nat.eq_zero_or_pos k with h0 | h0
 ·subst h0
  go_wp2_with (go_at_call 254; refine (CL.out _ rfl).mono ?_; rintro e w' ⟨v',rfl,hv,hb,base,hbase,hown⟩)
  go_ret
  exact ⟨v',rfl,FIN.out _ _ hv (by simp [cS]),hb,(bf.of_own hown).mono hbase⟩
 obtain ⟨m,rfl⟩:∃ m,k = m + 1:=⟨k - 1,by omega⟩
 have hm:m < l.length:=by rw [HN.out]; omega
 obtain ⟨d,hd⟩:∃ d,l[m]? = some d:=⟨_,List.getElem?_eq_getElem hm⟩
 have HDD:=Lib.hid hd
 obtain ⟨b,off,rfl,hc⟩:∃ b off,A = some ⟨b,off,none⟩/\w.cell? ⟨b,off + m,none⟩ = some (.int .u32 (d:Int)):=by
  rcases HA.out with h | ⟨b,off,h,_,hc⟩
  ·subst h; simp at hm
  exact ⟨b,off,h,hc m d hd⟩
 clear hd hm
 by_cases hz:d = 0
 ·subst hz
  go_wp2_with fail
  exact ⟨⟨m,rfl,HT.out.step HDD.out,by omega⟩,by simp [intOf]⟩
 have hz':((d:Int) == 0) = false:=by simpa using hz
 go_wp2_with (go_at_call 254; refine (CL.out _ rfl).mono ?_; rintro e w' ⟨v',rfl,hv,hb,base,hbase,hown⟩)
 go_ret
 exact ⟨v',rfl,FIN.out _ _ hv (fk.trim HDD.out hz),hb,(bf.of_own hown).mono hbase⟩
theorem jl (w:World) (v:Value) (l:List Nat)(hd:bW w v l)(hl:l.length <= 17592186044416) :
  Calls Tryz.prog 185 #[v] w fun e w'=>∃ v',e = .returned v'/\ab w' v' (val l)/\Below w.heap.size w w' :=
 (jY w v l hd hl).mono fun _ _ ⟨v',h1,h2,h3,_⟩=>⟨v',h1,h2,h3⟩
end
end Go.Proofs.YtkdhppimhdemjaaGreat
