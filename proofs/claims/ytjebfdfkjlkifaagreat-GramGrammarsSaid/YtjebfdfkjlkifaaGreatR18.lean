/- Lemmas. -/
import Derived.Test.YtjebfdfkjlkifaaGreatR17
import Derived.Deep.RegionLaw
set_option linter.all false
set_option maxRecDepth 1000000
set_option maxHeartbeats 32000000
namespace Go.Proofs.YtjebfdfkjlkifaaGreat
open Go.RowKit
abbrev Gr:=List Int × Int
def nS (v u:Value):Prop:=∀ ad n c,u = .slice (some ad) n c->Off v ad.block
def mc (w:World) (u:Value) (base:Nat) (cells:List Value) (gs:List Gr):Prop :=
 ∀ i g,gs[i]? = some g->∃ c0,cells[i * 2]? = some c0/\cells[i * 2 + 1]? = some (.int .i64 g.2)/\IntsAt w c0 g.1/\From c0 base/\nS c0 u
def GOwn (base:Nat) (w:World) (v:Value) (gs:List Gr):Prop:=∃ cells,w.ownsRow base 51 2 v gs.length cells/\mc w v base cells gs
def GramsAt (w:World) (v:Value) (gs:List Gr):Prop:=∃ cells,Sl w 2 v gs.length cells/\∀ i g,gs[i]? = some g->∃ c0,cells[i * 2]? = some c0/\cells[i * 2 + 1]? = some (.int .i64 g.2)/\IntsAt w c0 g.1
theorem GOwn.at_ {base:Nat} {w:World} {v:Value} {gs:List Gr} (h:GOwn base w v gs):GramsAt w v gs:=by
 obtain ⟨cells,h1,h2⟩:=h
 refine ⟨cells,Sl.of_own h1,fun i g hg=>?_⟩
 obtain ⟨c0,e0,e1,e2,_⟩:=h2 i g hg
 exact ⟨c0,e0,e1,e2⟩
theorem GramsAt.below {w w':World} {v:Value} {gs:List Gr} (h:GramsAt w v gs)(hb:Below w.heap.size w w'):GramsAt w' v gs:=by
 obtain ⟨cells,h1,h2⟩:=h
 refine ⟨cells,h1.below hb,fun i g hg=>?_⟩
 obtain ⟨c0,e0,e1,e2⟩:=h2 i g hg
 exact ⟨c0,e0,e1,e2.below hb⟩
theorem GOwn.nil_ (base:Nat) (w:World):GOwn base w (.slice none 0 0) []:=⟨[],World.ownsRow_nil ..,fun i g hg=>by simp at hg⟩
theorem bK {w w':World} {base:Nat} {e:TypeId} {sz:Nat} {v:Value} {n:Nat} {xs:List Value} (h:w.ownsRow base e sz v n xs)(hb:Below w.heap.size w w'):w'.ownsRow base e sz v n xs:=by
 obtain ⟨h0,h1 | ⟨g,cap,cur,hv,hg,hh,hr⟩⟩:=h
 ·exact ⟨h0,.inl h1⟩
 exact ⟨h0,.inr ⟨g,cap,cur,hv,hg,(hb.block g (Array.getElem?_eq_some_iff.1 hh).1).trans hh,hr⟩⟩
theorem GOwn.below {base:Nat} {w w':World} {v:Value} {gs:List Gr} (h:GOwn base w v gs)(hb:Below w.heap.size w w'):GOwn base w' v gs:=by
 obtain ⟨cells,h1,h2⟩:=h
 refine ⟨cells,bK h1 hb,fun i g hg=>?_⟩
 obtain ⟨c0,e0,e1,e2,e3,e4⟩:=h2 i g hg
 exact ⟨c0,e0,e1,e2.below hb,e3,e4⟩
theorem GramsAt.open_ {w:World} {v:Value} {gs:List Gr} (h:GramsAt w v gs):∃ A c,v = .slice A gs.length c/\gs.length <= c/\c <= 9223372036854775807 /\
  ∀ j g,gs[j]? = some g->∃ b off c0,A = some ⟨b,off,none⟩/\b < w.heap.size/\w.cell? ⟨b,off + j * 2,none⟩ = some c0/\w.cell? ⟨b,off + j * 2 + 1,none⟩ = some (.int .i64 g.2)/\IntsAt w c0 g.1:=by
 obtain ⟨cells,h1,h2⟩:=h
 obtain ⟨h0,A,c,rfl,hc,hm,h5⟩:=h1
 refine ⟨A,c,rfl,hc,by unfold maxLen at hm; omega,fun j x hx=>?_⟩
 have hj:=(sI.1 hx).1
 obtain ⟨b,off,e,hlt,hcell⟩:=h5 (by omega)
 obtain ⟨c0,e0,e1,hf⟩:=h2 j x hx
 exact ⟨b,off,c0,e,hlt,hcell _ _ e0,by have:=hcell _ _ e1; rwa [<- Nat.add_assoc] at this,hf⟩

theorem m8:(Tryz.prog.info? 51).map (fun i=>(i.zero,i.size,i.bytes)) = some (some (.agg #[.slice none 0 0,.int .i64 0]),2,32):=by kernel_rfl

theorem fo (l:List Int):∀ u ∈ l.map (Value.int .i64),u.oneCell' = true:=by
 intro u hu
 obtain ⟨_,_,rfl⟩:=List.mem_map.1 hu
 rfl
theorem IntsAt.len {w:World} {v:Value} {l:List Int} (h:IntsAt w v l):∃ A c,v = .slice A l.length c:=by
 obtain ⟨A,c,e,_⟩:=h.open_
 exact ⟨A,c,e⟩
theorem dw {w:World} {ops:Array Oper} {rest:List Oper} {o:Oper} {a:Act} {Q:Exit->Act->World->Prop} (hgd:o.guard = none) (s x:Operand)
  (ho:o.op = .call { callee:=.builtin .append,args:=#[s,x],argTypes:=#[44,44] })(hs:a.eval s = .slice none 0 0) (y:Value)(hx:a.eval x = y) (l:List Int)(hn:IntsAt w y l)(hl:l.length <= 17592186044416)
  (h:∀ A c w',IntsAt w' (.slice A l.length c) l->From (.slice A l.length c) w.heap.size->Below w.heap.size w w'->wpList Tryz.prog ops Q rest (a.put o.dst (.slice A l.length c)) w'):wpList Tryz.prog ops Q (o :: rest) a w:=by
 obtain ⟨i0,hi,hz0,hz1,hz2⟩:=info_parts eD
 refine al hgd s x 44 ho w.heap.size 3 i0 (.int .i64 0) 1 8 Tryz.underlying44 hi hz0 hz1 hz2 rfl (by decide) _ 0 [] hs (World.ownsRow_nil ..) y l.length (l.map (Value.int .i64)) hx hn (fo l) (by unfold maxLen; omega) (by omega) (nR _) ?_
 intro v' w' hown hgr _
 have hf:=From.of_own hown
 have hN:IntsAt w' v' l:=by have:=Sl.of_own hown; simpa [IntsAt] using this
 obtain ⟨A,c,rfl⟩:=hN.len
 exact h A c w' hN hf ((Below.refl _ w).grown hgr (nR _) (by simp [Value.ownBlock]))

theorem aq {P:Program} {w:World} {ops:Array Oper} {o:Oper} {a:Act} {K:Act->World->Prop} {Q:Exit->Act->World->Prop} {E:Prop} (hgd:o.guard = none) (s x:Operand) (t:TypeId)
  (ho:o.op = .call { callee:=.builtin .append,args:=#[s,x],argTypes:=#[t,t] })
  (base:Nat) (e:TypeId) (i:TypeInfo) (z:Value) (size bytes:Nat) (ht:P.underlying t = some (.slice e)) (hi:P.info? e = some i) (hz:i.zero = some z)
  (hsize:i.size = size)(hby:i.bytes = bytes)(hzs:z.cells.size = size)(hsz:0 < size)
  (v:Value) (n:Nat) (xs:List Value) (hs:a.eval s = v) (hown:w.ownsRow base e size v n xs)
  (y:Value) (m:Nat) (news:List Value) (hx:a.eval x = y) (hr:Sl w size y m news) (h1:∀ u ∈ news,u.oneCell' = true)
  (h63:n + m <= maxLen)(hbytes:(n + m) * bytes <= 140737488355328)(hbase:base <= w.heap.size)
  (h:∀ v' w',w'.ownsRow base e size v' (n + m) (xs ++ news)->w.grownBy w' v.ownBlock->(v'.ownBlock = v.ownBlock ∨ v'.ownBlock = some w.heap.size)->K (a.put o.dst v') w') :
  if Region.wanted o (yielded ops a.tmps) = true then Oper.wp P o a w K Q else E:=by
 have hw:Region.wanted o (yielded ops a.tmps) = true:=by simp [Region.wanted,hgd]
 rw [if_pos hw]
 obtain ⟨v',w',hrun,h2,h3,h4⟩:=gB (P:=P) w base t o.type e i z size bytes ht hi hz hsize hby hzs hsz v n xs hown y m news hr h1 h63 hbytes hbase
 unfold Oper.wp execOp
 simp only [ho,resolve,invoke,builtin,Sem.run_bind,Sem.run_pure,Result.andThen_ok,List.map_toArray,List.map_cons,List.map_nil,hs,hx,hrun]
 exact h v' w' h2 h3 h4

theorem Sl.head {w:World} {sz:Nat} {A:Option Addr} {c n k:Nat} {xs:List Value} (h:Sl w sz (.slice A n c) n xs)(hk:k <= n):Sl w sz (.slice A k c) k (xs.take (k * sz)):=by
 obtain ⟨h0,A',c',h1,h2,h3,h4⟩:=h
 cases h1
 have hks:k * sz <= n * sz:=Nat.mul_le_mul_right _ hk
 refine ⟨by rw [List.length_take]; omega,A,c,rfl,by omega,h3,fun hk0=>?_⟩
 obtain ⟨b,off,rfl,hb,hc⟩:=h4 (by omega)
 exact ⟨b,off,rfl,hb,fun j u hu=>hc j u (by rw [List.getElem?_take] at hu; split at hu <;> simp_all)⟩
theorem Sl.tail {w:World} {sz:Nat} {b off:Nat} {c n k:Nat} {xs:List Value} (h:Sl w sz (.slice (some ⟨b,off,none⟩) n c) n xs)(hk:k <= n):Sl w sz (.slice (some ⟨b,off + k * sz,none⟩) (n - k) (c - k)) (n - k) (xs.drop (k * sz)):=by
 obtain ⟨h0,A',c',h1,h2,h3,h4⟩:=h
 cases h1
 refine ⟨by rw [List.length_drop,h0,Nat.sub_mul],_,_,rfl,by omega,by omega,fun hk0=>?_⟩
 obtain ⟨b',off',e,hb,hc⟩:=h4 (by omega)
 cases e
 refine ⟨b,off + k * sz,rfl,hb,fun j u hu=>?_⟩
 rw [List.getElem?_drop] at hu
 rw [Nat.add_assoc]
 exact hc _ u hu
theorem Sl.none_ (w:World) (sz:Nat) (A:Option Addr) (c:Nat)(hc:c <= maxLen):Sl w sz (.slice A 0 c) 0 []:=⟨by simp,A,c,rfl,Nat.zero_le _,hc,fun h=>absurd h (by omega)⟩
theorem Sl.none' (w:World) (sz:Nat) (A:Option Addr) (c n n':Nat)(h:n = 0) (h':n' = 0)(hc:c <= maxLen):Sl w sz (.slice A n c) n' []:=by
 subst h
 subst h'
 exact Sl.none_ w sz A c hc
theorem p8 {w:World} {base:Nat} {e:TypeId} {sz:Nat} {A:Option Addr} {n c:Nat} {xs:List Value} (h:w.ownsRow base e sz (.slice A n c) n xs):(A = none/\n = 0/\c = 0) ∨ ∃ g,A = some ⟨g,0,none⟩:=by
 obtain ⟨h0,⟨h1,_⟩ | ⟨g,cap,cur,hv,_⟩⟩:=h
 ·cases h1; exact .inl ⟨rfl,rfl,rfl⟩
 cases hv; exact .inr ⟨g,rfl⟩
theorem jy {w:World} {base:Nat} {e:TypeId} {sz:Nat} {g o:Nat} {n c:Nat} {xs:List Value} (h:w.ownsRow base e sz (.slice (some ⟨g,o,none⟩) n c) n xs) (i:Nat):w.frozen? ⟨g,i,none⟩ = false:=by
 obtain ⟨h0,⟨h1,_⟩ | ⟨g',cap,cur,hv,_,hh,_⟩⟩:=h
 ·cases h1
 cases hv
 simp [World.frozen?,hh]
theorem k8 {α:Type} {l:List α} {k:Nat} {x:α} (h:l[k]? = some x):l.drop k = x :: l.drop (k + 1):=by
 obtain ⟨hk,rfl⟩:=sI.1 h
 exact List.drop_eq_getElem_cons hk
theorem jx {w:World} {base base':Nat} {e:TypeId} {sz:Nat} {v:Value} {n:Nat} {xs:List Value} (h:w.ownsRow base e sz v n xs)(hb:base' <= base):w.ownsRow base' e sz v n xs:=by
 obtain ⟨h0,h1 | ⟨g,cap,cur,hv,hg,hr⟩⟩:=h
 ·exact ⟨h0,.inl h1⟩
 exact ⟨h0,.inr ⟨g,cap,cur,hv,Nat.le_trans hb hg,hr⟩⟩
theorem mR {w:World} {base:Nat} {e:TypeId} {sz:Nat} {v:Value} {n:Nat} {xs:List Value} (h:w.ownsRow base e sz v n xs):From v base:=From.of_own h

theorem ao {v:Value} {B:Nat} (h:From v B):∀ k,v.ownBlock = some k->B <= k:=by
 intro k hk
 unfold Value.ownBlock at hk
 split at hk
 ·cases hk; exact h _ _ _ rfl
 cases hk
theorem Sl.two (w:World) (x y:Value) (e:TypeId):Sl (w.alloc (.cells #[x,y] e)) 2 (.slice (some ⟨w.heap.size,0,none⟩) 1 1) 1 [x,y]:=by
 have:=(Blk.new w e [x,y]).sl (sz:=2) (n:=1) (c:=1) (by simp) (by omega) (by unfold maxLen; omega)
 simpa using this
theorem IntsAt.off {w:World} {v:Value} {l:List Int} (h:IntsAt w v l) {F:Nat} (hf:w.heap.size <= F):Off v F:=Sl.off h hf
theorem IntsAt.oneCell {w:World} {v:Value} {l:List Int} (h:IntsAt w v l):v.oneCell' = true:=by
 obtain ⟨A,c,rfl⟩:=h.len
 rfl
theorem qD {w:World} {base:Nat} {v u:Value} {cells:List Value} {gs:List Gr} (h:w.ownsRow base 51 2 v gs.length cells)(hc:mc w u base cells gs):∀ u ∈ cells,u.oneCell' = true:=by
 intro x hx
 obtain ⟨i,hi,rfl⟩:=List.getElem_of_mem hx
 have hl:=h.1
 obtain ⟨g,hg⟩:∃ g,gs[i / 2]? = some g:=⟨_,eG (by omega)⟩
 obtain ⟨c0,e0,e1,e2,_⟩:=hc _ g hg
 rcases Nat.mod_two_eq_zero_or_one i with h' | h'
 ·rw [show i / 2 * 2 = i by omega,eG hi] at e0
  cases e0
  exact e2.oneCell
 rw [show i / 2 * 2 + 1 = i by omega,eG hi] at e1
 injection e1 with e1
 rw [e1]; rfl
theorem GOwn.insert {base F:Nat} {w w':World} {u v wsl:Value} {gs:List Gr} {CS:List Value} {ws:List Int} {n:Int} {k m:Nat} (hm:CS.length = m * 2)(hgl:gs.length = m)(hc:mc w u base CS gs)(hb:Below w.heap.size w w')(hF:w.heap.size <= F)
  (hown:w'.ownsRow F 51 2 v (m + 1) (CS.take (k * 2) ++ [wsl,.int .i64 n] ++ CS.drop (k * 2)))(hN:IntsAt w' wsl ws)(hf:From wsl base)(ho:∀ B,F <= B->Off wsl B)(hk:k <= m)(hbF:base <= F) :
  GOwn base w' v (gs.take k ++ (ws,n) :: gs.drop k):=by
 refine ⟨_,by simpa [hgl,Nat.min_eq_left hk,show k + (m - k + 1) = m + 1 by omega] using jx hown hbF,?_⟩
 have hfr:=mR hown
 have hap:∀ c0:Value,(∀ B,F <= B->Off c0 B)->nS c0 v:=fun c0 h ad a b e=>h _ (hfr ad a b e)
 intro i g hg
 have hlt:(CS.take (k * 2)).length = k * 2:=by rw [List.length_take]; omega
 have hgt:(gs.take k).length = k:=by rw [List.length_take]; omega
 rcases Nat.lt_trichotomy i k with h | h | h
 ·rw [List.getElem?_append_left (by omega),List.getElem?_take_of_lt h] at hg
  obtain ⟨c0,e0,e1,e2,e3,e4⟩:=hc i g hg
  refine ⟨c0,?_,?_,e2.below hb,e3,hap c0 fun B hB=>e2.off (Nat.le_trans hF hB)⟩
  ·rw [List.getElem?_append_left (by omega),List.getElem?_take_of_lt (by omega),e0]
  rw [List.getElem?_append_left (by omega),List.getElem?_take_of_lt (by omega),e1]
 ·subst h
  rw [List.getElem?_append_right (by omega),hgt,Nat.sub_self] at hg
  cases hg
  refine ⟨wsl,?_,?_,hN,hf,hap wsl ho⟩
  ·rw [List.getElem?_append_right (by omega),hlt,Nat.sub_self]; rfl
  rw [List.getElem?_append_right (by omega),hlt,show i * 2 + 1 - i * 2 = 1 by omega]; rfl
 rw [List.getElem?_append_right (by omega),hgt,show i - k = (i - 1 - k) + 1 by omega,List.getElem?_cons_succ,List.getElem?_drop,show k + (i - 1 - k) = i - 1 by omega] at hg
 obtain ⟨c0,e0,e1,e2,e3,e4⟩:=hc (i - 1) g hg
 refine ⟨c0,?_,?_,e2.below hb,e3,hap c0 fun B hB=>e2.off (Nat.le_trans hF hB)⟩
 ·rw [List.getElem?_append_right (by omega),hlt,show i * 2 - k * 2 = (i * 2 - k * 2 - 2) + 1 + 1 by omega,List.getElem?_cons_succ,List.getElem?_cons_succ,List.getElem?_drop,<- e0]
  congr 1
  omega
 rw [List.getElem?_append_right (by omega),hlt,show i * 2 + 1 - k * 2 = (i * 2 + 1 - k * 2 - 2) + 1 + 1 by omega,List.getElem?_cons_succ,List.getElem?_cons_succ,List.getElem?_drop,<- e1]
 congr 1
 omega

def putL:List Gr->List Int->Int->List Gr
 | [],ws,n=>[(ws,n)]
 | g :: gs,ws,n=>if aN g.1 ws < 0 then g :: putL gs ws n else if aN g.1 ws = 0 then (g.1,g.2 + n) :: gs else (ws,n) :: g :: gs
theorem gZ {gs:List Gr} {ws:List Int} {n:Int} {k:Nat} (h:∀ i g,i < k->gs[i]? = some g->aN g.1 ws < 0)(hk:k <= gs.length):putL gs ws n = gs.take k ++ putL (gs.drop k) ws n:=by
 induction k generalizing gs with
 | zero=>simp
 | succ k ih =>
  cases gs with
  | nil=>simp at hk
  | cons g gs =>
   have h0:=h 0 g (by omega) rfl
   simp only [putL,if_pos h0,List.take_succ_cons,List.drop_succ_cons,List.cons_append]
   rw [ih (fun i x hi hx=>h (i + 1) x (by omega) (by simpa using hx)) (by simpa using hk)]

theorem eu {w w':World} (h:Below w.heap.size w w') (r:Option Nat):w.grownBy w' r:=⟨h.os,h.tape,h.output,h.size,fun i hi _=>h.block i hi⟩
theorem kp {w w':World} {r:Option Nat} (h:w.grownBy w' r) {p:Addr} (hp:r = some p.block) (u:Value):w.grownBy (w'.setCell p u) r :=
 ⟨h.os,h.tape,h.output,by simpa [World.setCell] using h.size,fun i hi hr=>(Below.heap_setCell w' p u i (fun e=>hr (by rw [hp,e]))).trans (h.block i hi hr)⟩
theorem GOwn.bump {base:Nat} {w:World} {g o m c:Nat} {gs:List Gr} {k:Nat} {x:Gr} {N:Int} (h:GOwn base w (.slice (some ⟨g,o,none⟩) m c) gs)(hm:gs.length = m)(hx:gs[k]? = some x) :
  GOwn base (w.setCell ⟨g,o + k * 2 + 1,none⟩ (.int .i64 N)) (.slice (some ⟨g,o,none⟩) m c) (gs.set k (x.1,N)):=by
 obtain ⟨cells,⟨h0,⟨h1,_⟩ | ⟨g',cap,cur,hv,hb,hh,hn,hc,hsz,ht⟩⟩,h2⟩:=h
 ·cases h1
 cases hv
 have hk:=(sI.1 hx).1
 rw [Nat.zero_add]
 have hB:Blk w g 51 cur.toList:=hh
 have hB2:=hB.set_ (k * 2 + 1) (.int .i64 N)
 have hi:k * 2 + 1 < cells.length:=by rw [h0]; omega
 refine ⟨cells.set (k * 2 + 1) (.int .i64 N),⟨by simpa using h0,.inr ⟨g,c,_,by rw [List.length_set,hm],hb,hB2,by simpa using hn,hc,by simpa using hsz,?_⟩⟩,?_⟩
 ·rw [List.length_set,<- ht]
  rw [List.take_set]
 intro i y hy
 rcases Nat.lt_trichotomy i k with h | h | h
 ·rw [sN (by omega)] at hy
  obtain ⟨c0,e0,e1,e2,e3,e4⟩:=h2 i y hy
  exact ⟨c0,by rw [sN (by omega)]; exact e0,by rw [sN (by omega)]; exact e1,Sl.setOff (p:=⟨g,k * 2 + 1,none⟩) e2 (show Off c0 g from e4 ⟨g,0,none⟩ _ _ rfl) _,e3,e4⟩
 ·subst h
  rw [List.getElem?_set_self hk] at hy
  cases hy
  obtain ⟨c0,e0,e1,e2,e3,e4⟩:=h2 i x hx
  exact ⟨c0,by rw [sN (by omega)]; exact e0,by rw [List.getElem?_set_self hi],Sl.setOff (p:=⟨g,i * 2 + 1,none⟩) e2 (show Off c0 g from e4 ⟨g,0,none⟩ _ _ rfl) _,e3,e4⟩
 rw [sN (by omega)] at hy
 obtain ⟨c0,e0,e1,e2,e3,e4⟩:=h2 i y hy
 exact ⟨c0,by rw [sN (by omega)]; exact e0,by rw [sN (by omega)]; exact e1,Sl.setOff (p:=⟨g,k * 2 + 1,none⟩) e2 (show Off c0 g from e4 ⟨g,0,none⟩ _ _ rfl) _,e3,e4⟩
theorem rW {w:World} {base:Nat} {e:TypeId} {sz:Nat} {g o:Nat} {n c:Nat} {xs:List Value} (h:w.ownsRow base e sz (.slice (some ⟨g,o,none⟩) n c) n xs):base <= g:=mR h _ _ _ rfl

theorem vJ (base:Nat) (w:World) (v wv:Value) (gs:List Gr) (ws:List Int) (n:Int)(h:GOwn base w v gs)(hw:IntsAt w wv ws)(hl:∀ g ∈ gs,g.1.length = ws.length)
  (hn:0 <= n/\n <= 1099511627776)(hb:∀ g ∈ gs,0 <= g.2/\g.2 <= 1099511627776)(hsz:gs.length <= 1000000)(hwl:ws.length <= 1000000)(hbase:base <= w.heap.size) :
  Calls Tryz.prog 85 #[v,wv,.int .i64 n] w fun e w'=>∃ v',e = .returned v'/\GOwn base w' v' (putL gs ws n)/\w.grownBy w' v.ownBlock/\(v'.ownBlock = v.ownBlock ∨ ∀ b,v'.ownBlock = some b->w.heap.size <= b):=by
 have HO:=aH h
 obtain ⟨CS,ho1,ho2⟩:=id h
 have HOW:=aH ho1
 have HS1:Hd (∀ u ∈ CS,u.oneCell' = true):=aH (qD ho1 ho2)
 have HGC:=aH ho2
 clear ho1 ho2
 have HW:=aH hw
 have HL:=aH hl
 have HBD:=aH hb
 obtain ⟨A,c,rfl,hlc,hcm,hat⟩:=h.at_.open_
 have HAT:=aH hat
 clear h hw hat hl hb
 obtain ⟨m,hm⟩:=nm (gs.length)
 rw [hm] at hlc hsz HOW ⊢
 have HM:=aH hm
 clear hm
 obtain ⟨i0,gi,gz0,gz1,gz2⟩:=info_parts m8
 go_enter Tryz.func85,Tryz.ntmps85
 go_wp2_with fail
 go_loopg [7] m (fun g i wr=>∃ (k:Nat),i = .int .i64 k/\k + g = m/\Hd (∀ i g,i < k->gs[i]? = some g->aN g.1 ws < 0)/\Hd (Below w.heap.size w wr))
 case atStart=>exact ⟨0,rfl,by omega,aH (fun i g hi=>by omega),aH (Below.refl _ _)⟩
 obtain ⟨k,rfl,hk,HQ,BEL⟩:=hrel
 have hwz:w.heap.size <= wr.heap.size:=BEL.o.size
 rcases zP gk with h | h
 ·obtain rfl:k = m:=by omega
  rcases p8 HOW.o with ⟨hA,hm0,hc0⟩ | ⟨gb,hA⟩
  ·subst hA
   subst hm0
   subst hc0
   go_wp2_with (at_builtin; refine dw rfl _ _ rfl rfl _ rfl ws (HW.o.below BEL.o) (by omega) ?_)
   intro Aw cw w2 n1 n2 n3
   have N1:=aH n1
   have N2:=aH n2
   have B2:=aH (BEL.o.trans (n3.mono hwz))
   clear n1 n2 n3
   have hw2:w.heap.size <= w2.heap.size:=B2.o.size
   go_wp2_with fail
   obtain ⟨w3,hw3,O0,OB,Ohs⟩:=aA w2 51 [.slice Aw ws.length cw,.int .i64 n]
   rw [<- hw3]
   clear hw3
   have O01:w3.cell? ⟨w2.heap.size,0,none⟩ = some (.slice Aw ws.length cw)/\w3.cell? ⟨w2.heap.size,1,none⟩ = some (.int .i64 n):=⟨O0.o.cell 0,O0.o.cell 1⟩
   obtain ⟨o0,o1⟩:=O01
   have BW3:=aH (B2.o.trans (OB.o.mono hw2))
   have hw3:w.heap.size <= w3.heap.size:=BW3.o.size
   have HSL:=aH ((Sl.of_own HOW.o).head (nR 0))
   have HDN:Hd (CS.drop (0 * 2) = []):=aH (dN (by rw [HOW.o.1]; exact nR _))
   have HPUT:Hd (putL gs ws n = gs.take 0 ++ (ws,n) :: gs.drop 0):=aH (by
    rw [gZ HQ.o (by rw [HM.o]; exact nR _),dN (by rw [HM.o]; exact nR _)]
    rfl)
   go_region_held3 (fun w'=>w'.cell? ⟨w2.heap.size,0,none⟩ = some (.slice Aw ws.length cw)/\w'.cell? ⟨w2.heap.size,1,none⟩ = some (.int .i64 n)) (first | go_keep | assumption)
    (first
     | (refine aq rfl (Operand.const (Value.slice none 0 0)) (Operand.tmp 57) 25 rfl w3.heap.size 51 i0 (.agg #[.slice none 0 0,.int .i64 0]) 2 32 Tryz.underlying25 gi gz0 gz1 gz2 rfl (by decide) (Value.slice none 0 0) 0 [] rfl (World.ownsRow_nil ..) (Value.slice none 0 0) 0 (CS.take (0 * 2)) rfl (HSL.o.below (BW3.o.trans (bS _))) (fun u hu=>HS1.o u (List.mem_of_mem_take hu)) (by unfold maxLen; omega) (by omega) (by simp) ?_; intro v1 w4 t1 t2 t3; rw [List.nil_append,Nat.zero_add] at t1; have U1:=aH t1; have hb4:Below w3.heap.size w3 w4:=(bS (B:=w3.heap.size) w3).trans ((Below.refl _ _).grown t2 (nR _) (by simp [Value.ownBlock])); have B4:=aH hb4; have hS:=aI ((O0.o.below' hb4).cell 0) ((O0.o.below' hb4).cell 1); have hs4:=hb4.size; have F1:=aH (From.of_own t1); clear t1 t2 t3 hb4)
     | (refine aq rfl (Operand.const (Value.slice none 0 0)) (Operand.tmp 57) 25 rfl w3.heap.size 51 i0 (.agg #[.slice none 0 0,.int .i64 0]) 2 32 Tryz.underlying25 gi gz0 gz1 gz2 rfl (by decide) (Value.slice none 0 0) 0 [] rfl (World.ownsRow_nil ..) (Value.slice none 0 0) 0 (CS.take (0 * 2)) rfl (HSL.o.below ((BW3.o.trans (bS w3)).alloc hw3 (.cells #[.slice Aw ws.length cw,.int .i64 n] 51))) (fun u hu=>HS1.o u (List.mem_of_mem_take hu)) (by unfold maxLen; omega) (by omega) (by simp) ?_; intro v1 w4 t1 t2 t3; rw [List.nil_append,Nat.zero_add] at t1; have U1:=aH t1; have hx4:Below (w3.drew.alloc (.cells #[.slice Aw ws.length cw,.int .i64 n] 51)).heap.size (w3.drew.alloc (.cells #[.slice Aw ws.length cw,.int .i64 n] 51)) w4:=(Below.refl _ _).grown t2 (nR _) (by simp [Value.ownBlock]); have SLB:=aH ((Sl.two w3.drew (.slice Aw ws.length cw) (.int .i64 n) 51).below hx4); have hb4:Below w3.heap.size w3 w4:=((bS (B:=w3.heap.size) w3).alloc (nR _) (.cells #[.slice Aw ws.length cw,.int .i64 n] 51)).trans (hx4.mono (by simp)); have B4:=aH hb4; have hS:=aI ((O0.o.below' hb4).cell 0) ((O0.o.below' hb4).cell 1); have hs4:=hb4.size; have F1:=aH (From.of_own t1); clear t1 t2 t3 hb4 hx4)
     | (refine aq rfl (Operand.tmp 58) (Operand.tmp 60) 25 rfl w3.heap.size 51 i0 (.agg #[.slice none 0 0,.int .i64 0]) 2 32 Tryz.underlying25 gi gz0 gz1 gz2 rfl (by decide) v1 0 _ rfl (bK U1.o (Below.alloc (Below.refl _ _) (nR _) _)) _ 1 [.slice Aw ws.length cw,.int .i64 n] rfl (Sl.two w4 _ _ _) (by simp [Value.oneCell']) (by unfold maxLen; omega) (by omega) (by simp; omega) ?_; intro v2 w5 t1 t2 t3; have U2:=aH t1; have B5:Hd (Below w3.heap.size w3 w5):=aH (((B4.o.alloc hs4 _)).grown t2 (by simp; omega) (ao F1.o)); have hS:=aI ((O0.o.below' B5.o).cell 0) ((O0.o.below' B5.o).cell 1); have hs5:=B5.o.size; have F2:=aH (From.of_own t1); clear t1 t2 t3)
     | (refine aq rfl (Operand.tmp 58) (Operand.tmp 60) 25 rfl w3.heap.size 51 i0 (.agg #[.slice none 0 0,.int .i64 0]) 2 32 Tryz.underlying25 gi gz0 gz1 gz2 rfl (by decide) v1 0 _ rfl U1.o _ 1 [.slice Aw ws.length cw,.int .i64 n] rfl SLB.o (by simp [Value.oneCell']) (by unfold maxLen; omega) (by omega) (by omega) ?_; intro v2 w5 t1 t2 t3; have U2:=aH t1; have B5:Hd (Below w3.heap.size w3 w5):=aH (B4.o.grown t2 (by omega) (ao F1.o)); have hS:=aI ((O0.o.below' B5.o).cell 0) ((O0.o.below' B5.o).cell 1); have hs5:=B5.o.size; have F2:=aH (From.of_own t1); clear t1 t2 t3)
     | (refine aq rfl (Operand.tmp 61) (Operand.tmp 64) 25 rfl w3.heap.size 51 i0 (.agg #[.slice none 0 0,.int .i64 0]) 2 32 Tryz.underlying25 gi gz0 gz1 gz2 rfl (by decide) v2 (0 + 1) _ rfl U2.o (Value.slice none 0 0) (0 - 0) (CS.drop (0 * 2)) rfl (by rw [HDN.o]; exact Sl.none' _ _ _ _ _ _ (by omega) (by omega) (by unfold maxLen; omega)) (fun u hu=>HS1.o u (List.mem_of_mem_drop hu)) (by unfold maxLen; omega) (by omega) (by omega) ?_; intro v3 w6 t1 t2 t3; have U3:=aH t1; have B6:Hd (Below w3.heap.size w3 w6):=aH (B5.o.grown t2 (by omega) (ao F2.o)); have hS:=aI ((O0.o.below' B6.o).cell 0) ((O0.o.below' B6.o).cell 1); clear t1 t2 t3))
   all_goals
    go_wp2_with fail
    go_ret
    exact ⟨v3,rfl,by rw [HPUT.o]; exact GOwn.insert HOW.o.1 HM.o HGC.o (BW3.o.trans (B6.o.mono hw3)) hw3 (by have:=U3.o; rwa [show 0 + 1 + (0 - 0) = 0 + 1 by omega] at this) ((N1.o.below OB.o).below B6.o) (N2.o.mono (by omega)) (fun B hB=>N1.o.off (by omega)) (by omega) (by omega),eu (BW3.o.trans (B6.o.mono hw3)) _,.inr (ao ((From.of_own U3.o).mono hw3))⟩
  subst hA
  by_cases hck:c = k
  ·subst hck
   have hi0:(0:Int) <= (c:Int):=by omega
   have hi1:(c:Int) <= (c:Int):=by omega
   go_wp2_with (at_builtin; refine dw rfl _ _ rfl rfl _ rfl ws (HW.o.below BEL.o) (by omega) ?_)
   intro Aw cw w2 n1 n2 n3
   have N1:=aH n1
   have N2:=aH n2
   have B2:=aH (BEL.o.trans (n3.mono hwz))
   clear n1 n2 n3
   have hw2:w.heap.size <= w2.heap.size:=B2.o.size
   go_wp2_with fail
   obtain ⟨w3,hw3,O0,OB,Ohs⟩:=aA w2 51 [.slice Aw ws.length cw,.int .i64 n]
   rw [<- hw3]
   clear hw3
   have O01:w3.cell? ⟨w2.heap.size,0,none⟩ = some (.slice Aw ws.length cw)/\w3.cell? ⟨w2.heap.size,1,none⟩ = some (.int .i64 n):=⟨O0.o.cell 0,O0.o.cell 1⟩
   obtain ⟨o0,o1⟩:=O01
   have BW3:=aH (B2.o.trans (OB.o.mono hw2))
   have hw3:w.heap.size <= w3.heap.size:=BW3.o.size
   have HSL:=aH ((Sl.of_own HOW.o).head (nR c))
   have HDN:Hd (CS.drop (c * 2) = []):=aH (dN (by rw [HOW.o.1]; exact nR _))
   have HPUT:Hd (putL gs ws n = gs.take c ++ (ws,n) :: gs.drop c):=aH (by
    rw [gZ HQ.o (by rw [HM.o]; exact nR _),dN (by rw [HM.o]; exact nR _)]
    rfl)
   go_region_held3 (fun w'=>w'.cell? ⟨w2.heap.size,0,none⟩ = some (.slice Aw ws.length cw)/\w'.cell? ⟨w2.heap.size,1,none⟩ = some (.int .i64 n)) (first | go_keep | assumption)
    (first
     | (refine aq rfl (Operand.const (Value.slice none 0 0)) (Operand.tmp 57) 25 rfl w3.heap.size 51 i0 (.agg #[.slice none 0 0,.int .i64 0]) 2 32 Tryz.underlying25 gi gz0 gz1 gz2 rfl (by decide) (Value.slice none 0 0) 0 [] rfl (World.ownsRow_nil ..) (Value.slice (some ⟨gb,0,none⟩) c c) c (CS.take (c * 2)) rfl (HSL.o.below (BW3.o.trans (bS _))) (fun u hu=>HS1.o u (List.mem_of_mem_take hu)) (by unfold maxLen; omega) (by omega) (by simp) ?_; intro v1 w4 t1 t2 t3; rw [List.nil_append,Nat.zero_add] at t1; have U1:=aH t1; have hb4:Below w3.heap.size w3 w4:=(bS (B:=w3.heap.size) w3).trans ((Below.refl _ _).grown t2 (nR _) (by simp [Value.ownBlock])); have B4:=aH hb4; have hS:=aI ((O0.o.below' hb4).cell 0) ((O0.o.below' hb4).cell 1); have hs4:=hb4.size; have F1:=aH (From.of_own t1); clear t1 t2 t3 hb4)
     | (refine aq rfl (Operand.const (Value.slice none 0 0)) (Operand.tmp 57) 25 rfl w3.heap.size 51 i0 (.agg #[.slice none 0 0,.int .i64 0]) 2 32 Tryz.underlying25 gi gz0 gz1 gz2 rfl (by decide) (Value.slice none 0 0) 0 [] rfl (World.ownsRow_nil ..) (Value.slice (some ⟨gb,0,none⟩) c c) c (CS.take (c * 2)) rfl (HSL.o.below ((BW3.o.trans (bS w3)).alloc hw3 (.cells #[.slice Aw ws.length cw,.int .i64 n] 51))) (fun u hu=>HS1.o u (List.mem_of_mem_take hu)) (by unfold maxLen; omega) (by omega) (by simp) ?_; intro v1 w4 t1 t2 t3; rw [List.nil_append,Nat.zero_add] at t1; have U1:=aH t1; have hx4:Below (w3.drew.alloc (.cells #[.slice Aw ws.length cw,.int .i64 n] 51)).heap.size (w3.drew.alloc (.cells #[.slice Aw ws.length cw,.int .i64 n] 51)) w4:=(Below.refl _ _).grown t2 (nR _) (by simp [Value.ownBlock]); have SLB:=aH ((Sl.two w3.drew (.slice Aw ws.length cw) (.int .i64 n) 51).below hx4); have hb4:Below w3.heap.size w3 w4:=((bS (B:=w3.heap.size) w3).alloc (nR _) (.cells #[.slice Aw ws.length cw,.int .i64 n] 51)).trans (hx4.mono (by simp)); have B4:=aH hb4; have hS:=aI ((O0.o.below' hb4).cell 0) ((O0.o.below' hb4).cell 1); have hs4:=hb4.size; have F1:=aH (From.of_own t1); clear t1 t2 t3 hb4 hx4)
     | (refine aq rfl (Operand.tmp 58) (Operand.tmp 60) 25 rfl w3.heap.size 51 i0 (.agg #[.slice none 0 0,.int .i64 0]) 2 32 Tryz.underlying25 gi gz0 gz1 gz2 rfl (by decide) v1 c _ rfl (bK U1.o (Below.alloc (Below.refl _ _) (nR _) _)) _ 1 [.slice Aw ws.length cw,.int .i64 n] rfl (Sl.two w4 _ _ _) (by simp [Value.oneCell']) (by unfold maxLen; omega) (by omega) (by simp; omega) ?_; intro v2 w5 t1 t2 t3; have U2:=aH t1; have B5:Hd (Below w3.heap.size w3 w5):=aH (((B4.o.alloc hs4 _)).grown t2 (by simp; omega) (ao F1.o)); have hS:=aI ((O0.o.below' B5.o).cell 0) ((O0.o.below' B5.o).cell 1); have hs5:=B5.o.size; have F2:=aH (From.of_own t1); clear t1 t2 t3)
     | (refine aq rfl (Operand.tmp 58) (Operand.tmp 60) 25 rfl w3.heap.size 51 i0 (.agg #[.slice none 0 0,.int .i64 0]) 2 32 Tryz.underlying25 gi gz0 gz1 gz2 rfl (by decide) v1 c _ rfl U1.o _ 1 [.slice Aw ws.length cw,.int .i64 n] rfl SLB.o (by simp [Value.oneCell']) (by unfold maxLen; omega) (by omega) (by omega) ?_; intro v2 w5 t1 t2 t3; have U2:=aH t1; have B5:Hd (Below w3.heap.size w3 w5):=aH (B4.o.grown t2 (by omega) (ao F1.o)); have hS:=aI ((O0.o.below' B5.o).cell 0) ((O0.o.below' B5.o).cell 1); have hs5:=B5.o.size; have F2:=aH (From.of_own t1); clear t1 t2 t3)
     | (refine aq rfl (Operand.tmp 61) (Operand.tmp 64) 25 rfl w3.heap.size 51 i0 (.agg #[.slice none 0 0,.int .i64 0]) 2 32 Tryz.underlying25 gi gz0 gz1 gz2 rfl (by decide) v2 (c + 1) _ rfl U2.o _ (c - c) (CS.drop (c * 2)) rfl (by rw [HDN.o]; exact Sl.none' _ _ _ _ _ _ (by omega) (by omega) (by unfold maxLen; omega)) (fun u hu=>HS1.o u (List.mem_of_mem_drop hu)) (by unfold maxLen; omega) (by omega) (by omega) ?_; intro v3 w6 t1 t2 t3; have U3:=aH t1; have B6:Hd (Below w3.heap.size w3 w6):=aH (B5.o.grown t2 (by omega) (ao F2.o)); have hS:=aI ((O0.o.below' B6.o).cell 0) ((O0.o.below' B6.o).cell 1); clear t1 t2 t3))
   all_goals
    go_wp2_with fail
    go_ret
    exact ⟨v3,rfl,by rw [HPUT.o]; exact GOwn.insert HOW.o.1 HM.o HGC.o (BW3.o.trans (B6.o.mono hw3)) hw3 (by have:=U3.o; rwa [show c + 1 + (c - c) = c + 1 by omega] at this) ((N1.o.below OB.o).below B6.o) (N2.o.mono (by omega)) (fun B hB=>N1.o.off (by omega)) (by omega) (by omega),eu (BW3.o.trans (B6.o.mono hw3)) _,.inr (ao ((From.of_own U3.o).mono hw3))⟩
  have hi0:(0:Int) <= (k:Int):=by omega
  have hi1:(k:Int) <= (c:Int):=by omega
  have hi2:(k:Int) <= (k:Int):=by omega
  go_wp2_with (at_builtin; refine dw rfl _ _ rfl rfl _ rfl ws (HW.o.below BEL.o) (by omega) ?_)
  intro Aw cw w2 n1 n2 n3
  have N1:=aH n1
  have N2:=aH n2
  have B2:=aH (BEL.o.trans (n3.mono hwz))
  clear n1 n2 n3
  have hw2:w.heap.size <= w2.heap.size:=B2.o.size
  go_wp2_with fail
  obtain ⟨w3,hw3,O0,OB,Ohs⟩:=aA w2 51 [.slice Aw ws.length cw,.int .i64 n]
  rw [<- hw3]
  clear hw3
  have O01:w3.cell? ⟨w2.heap.size,0,none⟩ = some (.slice Aw ws.length cw)/\w3.cell? ⟨w2.heap.size,1,none⟩ = some (.int .i64 n):=⟨O0.o.cell 0,O0.o.cell 1⟩
  obtain ⟨o0,o1⟩:=O01
  have BW3:=aH (B2.o.trans (OB.o.mono hw2))
  have hw3:w.heap.size <= w3.heap.size:=BW3.o.size
  have HSL:=aH ((Sl.of_own HOW.o).head (nR k))
  have HDN:Hd (CS.drop (k * 2) = []):=aH (dN (by rw [HOW.o.1]; exact nR _))
  have HPUT:Hd (putL gs ws n = gs.take k ++ (ws,n) :: gs.drop k):=aH (by
   rw [gZ HQ.o (by rw [HM.o]; exact nR _),dN (by rw [HM.o]; exact nR _)]
   rfl)
  go_region_held3 (fun w'=>w'.cell? ⟨w2.heap.size,0,none⟩ = some (.slice Aw ws.length cw)/\w'.cell? ⟨w2.heap.size,1,none⟩ = some (.int .i64 n)) (first | go_keep | assumption)
   (first
    | (refine aq rfl (Operand.const (Value.slice none 0 0)) (Operand.tmp 57) 25 rfl w3.heap.size 51 i0 (.agg #[.slice none 0 0,.int .i64 0]) 2 32 Tryz.underlying25 gi gz0 gz1 gz2 rfl (by decide) (Value.slice none 0 0) 0 [] rfl (World.ownsRow_nil ..) (Value.slice (some ⟨gb,0,none⟩) k c) k (CS.take (k * 2)) rfl (HSL.o.below (BW3.o.trans (bS _))) (fun u hu=>HS1.o u (List.mem_of_mem_take hu)) (by unfold maxLen; omega) (by omega) (by simp) ?_; intro v1 w4 t1 t2 t3; rw [List.nil_append,Nat.zero_add] at t1; have U1:=aH t1; have hb4:Below w3.heap.size w3 w4:=(bS (B:=w3.heap.size) w3).trans ((Below.refl _ _).grown t2 (nR _) (by simp [Value.ownBlock])); have B4:=aH hb4; have hS:=aI ((O0.o.below' hb4).cell 0) ((O0.o.below' hb4).cell 1); have hs4:=hb4.size; have F1:=aH (From.of_own t1); clear t1 t2 t3 hb4)
    | (refine aq rfl (Operand.const (Value.slice none 0 0)) (Operand.tmp 57) 25 rfl w3.heap.size 51 i0 (.agg #[.slice none 0 0,.int .i64 0]) 2 32 Tryz.underlying25 gi gz0 gz1 gz2 rfl (by decide) (Value.slice none 0 0) 0 [] rfl (World.ownsRow_nil ..) (Value.slice (some ⟨gb,0,none⟩) k c) k (CS.take (k * 2)) rfl (HSL.o.below ((BW3.o.trans (bS w3)).alloc hw3 (.cells #[.slice Aw ws.length cw,.int .i64 n] 51))) (fun u hu=>HS1.o u (List.mem_of_mem_take hu)) (by unfold maxLen; omega) (by omega) (by simp) ?_; intro v1 w4 t1 t2 t3; rw [List.nil_append,Nat.zero_add] at t1; have U1:=aH t1; have hx4:Below (w3.drew.alloc (.cells #[.slice Aw ws.length cw,.int .i64 n] 51)).heap.size (w3.drew.alloc (.cells #[.slice Aw ws.length cw,.int .i64 n] 51)) w4:=(Below.refl _ _).grown t2 (nR _) (by simp [Value.ownBlock]); have SLB:=aH ((Sl.two w3.drew (.slice Aw ws.length cw) (.int .i64 n) 51).below hx4); have hb4:Below w3.heap.size w3 w4:=((bS (B:=w3.heap.size) w3).alloc (nR _) (.cells #[.slice Aw ws.length cw,.int .i64 n] 51)).trans (hx4.mono (by simp)); have B4:=aH hb4; have hS:=aI ((O0.o.below' hb4).cell 0) ((O0.o.below' hb4).cell 1); have hs4:=hb4.size; have F1:=aH (From.of_own t1); clear t1 t2 t3 hb4 hx4)
    | (refine aq rfl (Operand.tmp 58) (Operand.tmp 60) 25 rfl w3.heap.size 51 i0 (.agg #[.slice none 0 0,.int .i64 0]) 2 32 Tryz.underlying25 gi gz0 gz1 gz2 rfl (by decide) v1 k _ rfl (bK U1.o (Below.alloc (Below.refl _ _) (nR _) _)) _ 1 [.slice Aw ws.length cw,.int .i64 n] rfl (Sl.two w4 _ _ _) (by simp [Value.oneCell']) (by unfold maxLen; omega) (by omega) (by simp; omega) ?_; intro v2 w5 t1 t2 t3; have U2:=aH t1; have B5:Hd (Below w3.heap.size w3 w5):=aH (((B4.o.alloc hs4 _)).grown t2 (by simp; omega) (ao F1.o)); have hS:=aI ((O0.o.below' B5.o).cell 0) ((O0.o.below' B5.o).cell 1); have hs5:=B5.o.size; have F2:=aH (From.of_own t1); clear t1 t2 t3)
    | (refine aq rfl (Operand.tmp 58) (Operand.tmp 60) 25 rfl w3.heap.size 51 i0 (.agg #[.slice none 0 0,.int .i64 0]) 2 32 Tryz.underlying25 gi gz0 gz1 gz2 rfl (by decide) v1 k _ rfl U1.o _ 1 [.slice Aw ws.length cw,.int .i64 n] rfl SLB.o (by simp [Value.oneCell']) (by unfold maxLen; omega) (by omega) (by omega) ?_; intro v2 w5 t1 t2 t3; have U2:=aH t1; have B5:Hd (Below w3.heap.size w3 w5):=aH (B4.o.grown t2 (by omega) (ao F1.o)); have hS:=aI ((O0.o.below' B5.o).cell 0) ((O0.o.below' B5.o).cell 1); have hs5:=B5.o.size; have F2:=aH (From.of_own t1); clear t1 t2 t3)
    | (refine aq rfl (Operand.tmp 61) (Operand.tmp 64) 25 rfl w3.heap.size 51 i0 (.agg #[.slice none 0 0,.int .i64 0]) 2 32 Tryz.underlying25 gi gz0 gz1 gz2 rfl (by decide) v2 (k + 1) _ rfl U2.o _ (k - k) (CS.drop (k * 2)) rfl (by rw [HDN.o]; exact Sl.none' _ _ _ _ _ _ (by omega) (by omega) (by unfold maxLen; omega)) (fun u hu=>HS1.o u (List.mem_of_mem_drop hu)) (by unfold maxLen; omega) (by omega) (by omega) ?_; intro v3 w6 t1 t2 t3; have U3:=aH t1; have B6:Hd (Below w3.heap.size w3 w6):=aH (B5.o.grown t2 (by omega) (ao F2.o)); have hS:=aI ((O0.o.below' B6.o).cell 0) ((O0.o.below' B6.o).cell 1); clear t1 t2 t3))
  all_goals
   go_wp2_with fail
   go_ret
   exact ⟨v3,rfl,by rw [HPUT.o]; exact GOwn.insert HOW.o.1 HM.o HGC.o (BW3.o.trans (B6.o.mono hw3)) hw3 (by have:=U3.o; rwa [show k + 1 + (k - k) = k + 1 by omega] at this) ((N1.o.below OB.o).below B6.o) (N2.o.mono (by omega)) (fun B hB=>N1.o.off (by omega)) (by omega) (by omega),eu (BW3.o.trans (B6.o.mono hw3)) _,.inr (ao ((From.of_own U3.o).mono hw3))⟩
 obtain ⟨g,rfl⟩:∃ g,gk = g + 1:=⟨gk - 1,by omega⟩
 obtain ⟨x,hx⟩:∃ x,gs[k]? = some x:=⟨_,eG (by rw [HM.o]; omega)⟩
 obtain ⟨ba,oa,c0,rfl,hba,e0,e1,hi⟩:=HAT.o k x hx
 have d0:=(BEL.o.cell (p:=⟨ba,oa + k * 2,none⟩) hba).trans e0
 have HI:=aH (hi.below BEL.o)
 have HX:=aH hx
 have e0':=aH e0
 have e1':=aH e1
 clear hx e0 e1 hi
 have OC:=p9 wr c0 wv _ _ HI.o (HW.o.below BEL.o) (by rw [HL.o x (mG HX.o)]; exact nR _)
 by_cases h1:aN x.1 ws < 0
 ·have HLT:=aH h1
  obtain ⟨z,hz,hz0⟩:∃ z,aN x.1 ws = z/\decide (z < 0) = true:=⟨_,rfl,dT h1⟩
  rw [hz] at OC
  clear hz h1
  go_wp2_with fail
  refine OC.mono ?_
  rintro e w1 ⟨rfl,hb1⟩
  have B1:=aH (BEL.o.trans (hb1.mono hwz))
  clear hb1
  go_wp2_with fail
  go_roundg g
  case measure=>omega
  case rel=>exact ⟨k + 1,rfl,by omega,aH (fun i y hi hy=>by
   rcases Nat.lt_or_ge i k with h | h
   ·exact HQ.o i y h hy
   obtain rfl:i = k:=by omega
   rw [HX.o] at hy
   cases hy
   exact HLT.o),B1⟩
 by_cases h2:aN x.1 ws = 0
 ·have HEQ:=aH h2
  have HNL:=aH h1
  obtain ⟨z,hz,hz0,hz1⟩:∃ z,aN x.1 ws = z/\decide (z < 0) = false/\(z == 0) = true:=⟨_,rfl,dF h1,by simpa using h2⟩
  rw [hz] at OC
  have HZ:=aH hz
  clear hz h1 h2
  go_wp2_with fail
  refine OC.mono ?_
  rintro e w1 ⟨rfl,hb1⟩
  have B1:=aH (BEL.o.trans (hb1.mono hwz))
  have hw1:w.heap.size <= w1.heap.size:=B1.o.size
  have d1:=(B1.o.cell (p:=⟨ba,oa + k * 2,none⟩) hba).trans e0'.o
  have OC2:=p9 w1 c0 wv _ _ (HI.o.below hb1) (HW.o.below B1.o) (by rw [HL.o x (mG HX.o)]; exact nR _)
  rw [HZ.o] at OC2
  clear hb1
  go_wp2_with fail
  refine OC2.mono ?_
  rintro e w9 ⟨rfl,hb9⟩
  have B9:=aH (B1.o.trans (hb9.mono hw1))
  have hw9:w.heap.size <= w9.heap.size:=B9.o.size
  have f1:=(B9.o.cell (p:=⟨ba,oa + k * 2 + 1,none⟩) hba).trans e1'.o
  have hf1:w9.frozen? ⟨ba,oa + k * 2 + 1,none⟩ = false:=(B9.o.frozen (p:=⟨ba,oa + k * 2 + 1,none⟩) hba).trans (jy HOW.o _)
  have hxb:=HBD.o x (mG HX.o)
  obtain ⟨y,hy⟩:=nm (x.2)
  rw [hy] at f1 hxb
  have HY:=aH hy
  clear hb9 hy
  go_wp2_with fail
  go_ret
  have HPUT:putL gs ws n = gs.set k (x.1,y + n):=by
   rw [gZ HQ.o (by rw [HM.o]; omega),k8 HX.o]
   simp only [putL]
   rw [if_neg (by have:=HNL.o; omega),if_pos HEQ.o,List.set_eq_take_append_cons_drop,if_pos (by rw [HM.o]; omega),<- HY.o]
  refine ⟨_,rfl,?_,?_,.inl rfl⟩
  ·rw [HPUT]
   exact GOwn.bump (by have:=HO.o.below B9.o; rwa [HM.o] at this) HM.o HX.o
  exact kp (eu B9.o _) (p:=⟨ba,_,none⟩) rfl _
 have HN2:=aH h2
 have HN1:=aH h1
 obtain ⟨z,hz,hz0,hz1⟩:∃ z,aN x.1 ws = z/\decide (z < 0) = false/\(z == 0) = false:=⟨_,rfl,dF h1,by simpa using h2⟩
 rw [hz] at OC
 have HZ:=aH hz
 clear hz h1 h2
 go_wp2_with fail
 refine OC.mono ?_
 rintro e w1 ⟨rfl,hb1⟩
 have B1:=aH (BEL.o.trans (hb1.mono hwz))
 have hw1:w.heap.size <= w1.heap.size:=B1.o.size
 have d1:=(B1.o.cell (p:=⟨ba,oa + k * 2,none⟩) hba).trans e0'.o
 have OC2:=p9 w1 c0 wv _ _ (HI.o.below hb1) (HW.o.below B1.o) (by rw [HL.o x (mG HX.o)]; exact nR _)
 rw [HZ.o] at OC2
 clear hb1
 go_wp2_with fail
 refine OC2.mono ?_
 rintro e w9 ⟨rfl,hb9⟩
 have B9:=aH (B1.o.trans (hb9.mono hw1))
 have hw9:w.heap.size <= w9.heap.size:=B9.o.size
 have hck:(c = k) = False:=by simp; omega
 have hi0:(0:Int) <= (k:Int):=by omega
 have hi1:(k:Int) <= (c:Int):=by omega
 have hi2:(k:Int) <= (m:Int):=by omega
 clear hb9
 go_wp2_with (at_builtin; refine dw rfl _ _ rfl rfl _ rfl ws (HW.o.below B9.o) (by omega) ?_)
 intro Aw cw w2 n1 n2 n3
 have N1:=aH n1
 have N2:=aH n2
 have B2:=aH (B9.o.trans (n3.mono hw9))
 clear n1 n2 n3
 have hw2:w.heap.size <= w2.heap.size:=B2.o.size
 go_wp2_with fail
 obtain ⟨w3,hw3,O0,OB,Ohs⟩:=aA w2 51 [.slice Aw ws.length cw,.int .i64 n]
 rw [<- hw3]
 clear hw3
 have O01:w3.cell? ⟨w2.heap.size,0,none⟩ = some (.slice Aw ws.length cw)/\w3.cell? ⟨w2.heap.size,1,none⟩ = some (.int .i64 n):=⟨O0.o.cell 0,O0.o.cell 1⟩
 obtain ⟨o0,o1⟩:=O01
 have BW3:=aH (B2.o.trans (OB.o.mono hw2))
 have hw3:w.heap.size <= w3.heap.size:=BW3.o.size
 have HSL:=aH ((Sl.of_own HOW.o).head (show k <= m by omega))
 have HST:=aH ((Sl.of_own HOW.o).tail (show k <= m by omega))
 have HPUT:Hd (putL gs ws n = gs.take k ++ (ws,n) :: gs.drop k):=aH (by
  rw [gZ HQ.o (by rw [HM.o]; omega),k8 HX.o]
  simp only [putL]
  rw [if_neg (by have:=HN1.o; omega),if_neg HN2.o])
 go_region_held3 (fun w'=>w'.cell? ⟨w2.heap.size,0,none⟩ = some (.slice Aw ws.length cw)/\w'.cell? ⟨w2.heap.size,1,none⟩ = some (.int .i64 n)) (first | go_keep | assumption)
  (first
   | (refine aq rfl (Operand.const (Value.slice none 0 0)) (Operand.tmp 57) 25 rfl w3.heap.size 51 i0 (.agg #[.slice none 0 0,.int .i64 0]) 2 32 Tryz.underlying25 gi gz0 gz1 gz2 rfl (by decide) (Value.slice none 0 0) 0 [] rfl (World.ownsRow_nil ..) (Value.slice (some ⟨ba,oa,none⟩) k c) k (CS.take (k * 2)) rfl (HSL.o.below (BW3.o.trans (bS _))) (fun u hu=>HS1.o u (List.mem_of_mem_take hu)) (by unfold maxLen; omega) (by omega) (by simp) ?_; intro v1 w4 t1 t2 t3; rw [List.nil_append,Nat.zero_add] at t1; have U1:=aH t1; have hb4:Below w3.heap.size w3 w4:=(bS (B:=w3.heap.size) w3).trans ((Below.refl _ _).grown t2 (nR _) (by simp [Value.ownBlock])); have B4:=aH hb4; have hS:=aI ((O0.o.below' hb4).cell 0) ((O0.o.below' hb4).cell 1); have hs4:=hb4.size; have F1:=aH (From.of_own t1); clear t1 t2 t3 hb4)
   | (refine aq rfl (Operand.const (Value.slice none 0 0)) (Operand.tmp 57) 25 rfl w3.heap.size 51 i0 (.agg #[.slice none 0 0,.int .i64 0]) 2 32 Tryz.underlying25 gi gz0 gz1 gz2 rfl (by decide) (Value.slice none 0 0) 0 [] rfl (World.ownsRow_nil ..) (Value.slice (some ⟨ba,oa,none⟩) k c) k (CS.take (k * 2)) rfl (HSL.o.below ((BW3.o.trans (bS w3)).alloc hw3 (.cells #[.slice Aw ws.length cw,.int .i64 n] 51))) (fun u hu=>HS1.o u (List.mem_of_mem_take hu)) (by unfold maxLen; omega) (by omega) (by simp) ?_; intro v1 w4 t1 t2 t3; rw [List.nil_append,Nat.zero_add] at t1; have U1:=aH t1; have hx4:Below (w3.drew.alloc (.cells #[.slice Aw ws.length cw,.int .i64 n] 51)).heap.size (w3.drew.alloc (.cells #[.slice Aw ws.length cw,.int .i64 n] 51)) w4:=(Below.refl _ _).grown t2 (nR _) (by simp [Value.ownBlock]); have SLB:=aH ((Sl.two w3.drew (.slice Aw ws.length cw) (.int .i64 n) 51).below hx4); have hb4:Below w3.heap.size w3 w4:=((bS (B:=w3.heap.size) w3).alloc (nR _) (.cells #[.slice Aw ws.length cw,.int .i64 n] 51)).trans (hx4.mono (by simp)); have B4:=aH hb4; have hS:=aI ((O0.o.below' hb4).cell 0) ((O0.o.below' hb4).cell 1); have hs4:=hb4.size; have F1:=aH (From.of_own t1); clear t1 t2 t3 hb4 hx4)
   | (refine aq rfl (Operand.tmp 58) (Operand.tmp 60) 25 rfl w3.heap.size 51 i0 (.agg #[.slice none 0 0,.int .i64 0]) 2 32 Tryz.underlying25 gi gz0 gz1 gz2 rfl (by decide) v1 k _ rfl (bK U1.o (Below.alloc (Below.refl _ _) (nR _) _)) _ 1 [.slice Aw ws.length cw,.int .i64 n] rfl (Sl.two w4 _ _ _) (by simp [Value.oneCell']) (by unfold maxLen; omega) (by omega) (by simp; omega) ?_; intro v2 w5 t1 t2 t3; have U2:=aH t1; have B5:Hd (Below w3.heap.size w3 w5):=aH (((B4.o.alloc hs4 _)).grown t2 (by simp; omega) (ao F1.o)); have hS:=aI ((O0.o.below' B5.o).cell 0) ((O0.o.below' B5.o).cell 1); have hs5:=B5.o.size; have F2:=aH (From.of_own t1); clear t1 t2 t3)
   | (refine aq rfl (Operand.tmp 58) (Operand.tmp 60) 25 rfl w3.heap.size 51 i0 (.agg #[.slice none 0 0,.int .i64 0]) 2 32 Tryz.underlying25 gi gz0 gz1 gz2 rfl (by decide) v1 k _ rfl U1.o _ 1 [.slice Aw ws.length cw,.int .i64 n] rfl SLB.o (by simp [Value.oneCell']) (by unfold maxLen; omega) (by omega) (by omega) ?_; intro v2 w5 t1 t2 t3; have U2:=aH t1; have B5:Hd (Below w3.heap.size w3 w5):=aH (B4.o.grown t2 (by omega) (ao F1.o)); have hS:=aI ((O0.o.below' B5.o).cell 0) ((O0.o.below' B5.o).cell 1); have hs5:=B5.o.size; have F2:=aH (From.of_own t1); clear t1 t2 t3)
   | (refine aq rfl (Operand.tmp 61) (Operand.tmp 64) 25 rfl w3.heap.size 51 i0 (.agg #[.slice none 0 0,.int .i64 0]) 2 32 Tryz.underlying25 gi gz0 gz1 gz2 rfl (by decide) v2 (k + 1) _ rfl U2.o (Value.slice (some ⟨ba,oa + k * 2,none⟩) (m - k) (c - k)) (m - k) (CS.drop (k * 2)) rfl (HST.o.below (BW3.o.trans (B5.o.mono hw3))) (fun u hu=>HS1.o u (List.mem_of_mem_drop hu)) (by unfold maxLen; omega) (by omega) (by omega) ?_; intro v3 w6 t1 t2 t3; have U3:=aH t1; have B6:Hd (Below w3.heap.size w3 w6):=aH (B5.o.grown t2 (by omega) (ao F2.o)); have hS:=aI ((O0.o.below' B6.o).cell 0) ((O0.o.below' B6.o).cell 1); clear t1 t2 t3))
 all_goals
  go_wp2_with fail
  go_ret
  exact ⟨v3,rfl,by rw [HPUT.o]; exact GOwn.insert HOW.o.1 HM.o HGC.o (BW3.o.trans (B6.o.mono hw3)) hw3 (by have:=U3.o; rwa [show k + 1 + (m - k) = m + 1 by omega] at this) ((N1.o.below OB.o).below B6.o) (N2.o.mono (by omega)) (fun B hB=>N1.o.off (by omega)) (by omega) (by omega),eu (BW3.o.trans (B6.o.mono hw3)) _,.inr (ao ((From.of_own U3.o).mono hw3))⟩
end Go.Proofs.YtjebfdfkjlkifaaGreat
