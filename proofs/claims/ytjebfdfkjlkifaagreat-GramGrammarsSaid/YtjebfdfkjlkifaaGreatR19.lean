/- Lemmas. -/
import Derived.Test.YtjebfdfkjlkifaaGreatR18
set_option linter.all false
set_option maxRecDepth 1000000
set_option maxHeartbeats 32000000
namespace Go.Proofs.YtjebfdfkjlkifaaGreat
open Go.RowKit
def ListsAt (w:World) (v:Value) (ls:List (List Int)):Prop:=∃ cells,Sl w 1 v ls.length cells/\∀ (i:Nat) (l:List Int),ls[i]? = some l->∃ c0,cells[i]? = some c0/\IntsAt w c0 l
theorem ListsAt.below {w w':World} {v:Value} {ls:List (List Int)} (h:ListsAt w v ls)(hb:Below w.heap.size w w'):ListsAt w' v ls:=by
 obtain ⟨cells,h1,h2⟩:=h
 refine ⟨cells,h1.below hb,fun i l hl=>?_⟩
 obtain ⟨c0,e0,e1⟩:=h2 i l hl
 exact ⟨c0,e0,e1.below hb⟩
theorem ListsAt.open_ {w:World} {v:Value} {ls:List (List Int)} (h:ListsAt w v ls):∃ A c,v = .slice A ls.length c/\ls.length <= c/\c <= 9223372036854775807 /\
  ∀ j l,ls[j]? = some l->∃ b off c0,A = some ⟨b,off,none⟩/\b < w.heap.size/\w.cell? ⟨b,off + j,none⟩ = some c0/\IntsAt w c0 l:=by
 obtain ⟨cells,h1,h2⟩:=h
 obtain ⟨h0,A,c,rfl,hc,hm,h5⟩:=h1
 refine ⟨A,c,rfl,hc,by unfold maxLen at hm; omega,fun j x hx=>?_⟩
 have hj:=(sI.1 hx).1
 obtain ⟨b,off,e,hlt,hcell⟩:=h5 (by omega)
 obtain ⟨c0,e0,hf⟩:=h2 j x hx
 exact ⟨b,off,c0,e,hlt,hcell _ _ e0,hf⟩

def ListsNew (F:Nat) (w:World) (v:Value) (ls:List (List Int)):Prop:=∃ cells,Sl w 1 v ls.length cells/\From v F/\∀ (i:Nat) (l:List Int),ls[i]? = some l->∃ c0,cells[i]? = some c0/\IntsAt w c0 l/\From c0 F
theorem ListsNew.at_ {F:Nat} {w:World} {v:Value} {ls:List (List Int)} (h:ListsNew F w v ls):ListsAt w v ls:=by
 obtain ⟨cells,h1,_,h2⟩:=h
 exact ⟨cells,h1,fun i l hl=>by
  obtain ⟨c0,e0,e1,_⟩:=h2 i l hl
  exact ⟨c0,e0,e1⟩⟩
def Same (F:Nat) (w w':World):Prop:=w.heap.size <= w'.heap.size/\∀ b,F <= b->b < w.heap.size->w'.heap[b]? = w.heap[b]?
theorem lX {w w':World} {b:Nat} (h:w'.heap[b]? = w.heap[b]?) (o:Nat):w'.cell? ⟨b,o,none⟩ = w.cell? ⟨b,o,none⟩:=by
 simp only [World.cell?,h]
theorem Sl.same {F:Nat} {w w':World} {sz:Nat} {v:Value} {n:Nat} {xs:List Value} (h:Sl w sz v n xs)(hf:From v F)(hs:Same F w w'):Sl w' sz v n xs:=by
 obtain ⟨h0,A,c,rfl,h2,h3,h5⟩:=h
 refine ⟨h0,A,c,rfl,h2,h3,fun hn=>?_⟩
 obtain ⟨b,off,e,hlt,hc⟩:=h5 hn
 subst e
 exact ⟨b,off,rfl,Nat.lt_of_lt_of_le hlt hs.1,fun j u hu=>(lX (hs.2 b (hf _ _ _ rfl) hlt) _).trans (hc j u hu)⟩
theorem ListsNew.same {F:Nat} {w w':World} {v:Value} {ls:List (List Int)} (h:ListsNew F w v ls)(hs:Same F w w'):ListsNew F w' v ls:=by
 obtain ⟨cells,h1,hf,h2⟩:=h
 refine ⟨cells,h1.same hf hs,hf,fun i l hl=>?_⟩
 obtain ⟨c0,e0,e1,e2⟩:=h2 i l hl
 exact ⟨c0,e0,Sl.same e1 e2 hs,e2⟩

def e9 (m:Nat) (s:List Int):List Int:=List.replicate m 0 ++ s ++ [0]
def aw (m:Nat) (s:List Int):List (List Int):=(List.range (s.length + 1)).map fun i=>((e9 m s).drop i).take (m + 1)
theorem cV (m:Nat) (s:List Int):(e9 m s).length = m + s.length + 1:=by simp [e9]; omega
def nU (g n cap j:Nat):List Value:=(List.range j).map fun i=>.slice (some ⟨g,i,none⟩) n (cap - i)
theorem pr (g n cap j:Nat):nU g n cap (j + 1) = nU g n cap j ++ [.slice (some ⟨g,j,none⟩) n (cap - j)]:=by simp [nU,List.range_succ]
theorem sR:(Tryz.prog.info? 44).map (fun i=>(i.zero,i.size,i.bytes)) = some (some (.slice none 0 0),1,24):=by kernel_rfl

theorem ri {w:World} {g cap L j n:Nat} {l:List Int} (h:Sl w 1 (.slice (some ⟨g,0,none⟩) L cap) L (l.map (Value.int .i64)))(hj:j + n <= L)(hl:l.length = L):IntsAt w (.slice (some ⟨g,j,none⟩) n (cap - j)) ((l.drop j).take n):=by
 have e:((l.drop j).take n).length = n:=by rw [List.length_take,List.length_drop]; omega
 have h1:=(h.tail (k:=j) (by omega)).head (k:=n) (by omega)
 unfold IntsAt
 rw [e]
 simpa using h1

theorem vS (w:World) (N:Int) (m:Nat) (v:Value) (s:List Int)(hN:N = m + 1)(hm:m <= 1000)(hs:s.length <= 1000000)(h:IntsAt w v s) :
  Calls Tryz.prog 84 #[.int .i64 N,v] w fun e w'=>∃ v',e = .returned v'/\ListsNew w.heap.size w' v' (aw m s)/\Below w.heap.size w w':=by
 have HS:=aH h
 obtain ⟨A,c,rfl⟩:=h.len
 have HN:=aH hN
 have hN1:1 <= N:=by omega
 have hN2:N <= 1001:=by omega
 clear h hN
 obtain ⟨i0,gi,gz0,gz1,gz2⟩:=info_parts eD
 obtain ⟨i1,ki,kz0,kz1,kz2⟩:=info_parts sR
 go_enter Tryz.func84,Tryz.ntmps84
 go_wp2_with (at_make; refine ay rfl _ _ 44 rfl 3 i0 (.int .i64 0) 8 Tryz.underlying44 gi gz0 gz1 gz2 rfl .i64 .i64 _ _ m rfl rfl (by have:=HN.o; omega) (by have:=HN.o; omega) (by omega) (by unfold maxLen; omega) ?_)
 intro w1 hblk hbel
 have HO1:=aH (hblk.own (base:=w.heap.size) (sz:=1) (n:=m) (nR _) (by simp) (by unfold maxLen; omega))
 have B1:=aH hbel
 have hs1:w.heap.size <= w1.heap.size:=hbel.size
 clear hblk hbel
 go_wp2_with (at_builtin; refine al rfl (.tmp 11) (.tmp 12) 44 rfl w.heap.size 3 i0 (.int .i64 0) 1 8 Tryz.underlying44 gi gz0 gz1 gz2 rfl (by decide) _ _ _ rfl HO1.o _ s.length (s.map (Value.int .i64)) rfl (HS.o.below B1.o) (fo s) (by unfold maxLen; omega) (by omega) hs1 ?_)
 intro v2 w2 t1 t2 _
 have HO2:=aH t1
 have B2:Hd (Below w.heap.size w w2):=aH (B1.o.grown t2 hs1 (ao (From.of_own HO1.o)))
 have hs2:w.heap.size <= w2.heap.size:=B2.o.size
 clear t1 t2
 go_wp2_with (at_builtin; refine al rfl (.tmp 13) (.tmp 14) 44 rfl w.heap.size 3 i0 (.int .i64 0) 1 8 Tryz.underlying44 gi gz0 gz1 gz2 rfl (by decide) _ _ _ rfl (bK HO2.o (Below.alloc (Below.refl _ _) (nR _) _)) _ 1 [.int .i64 0] rfl (Sl.one _ _ _) (by simp [Value.oneCell']) (by unfold maxLen; omega) (by omega) (by simp; omega) ?_)
 intro v3 w3 t1 t2 _
 have HO3:Hd (w3.ownsRow w.heap.size 3 1 v3 (m + s.length + 1) ((e9 m s).map (Value.int .i64))):=aH (by
  have:=t1
  simpa [e9,List.map_append,List.map_replicate,Nat.add_assoc] using this)
 have B3:Hd (Below w.heap.size w w3):=aH ((B2.o.alloc hs2 _).grown t2 (by simp; omega) (ao (From.of_own HO2.o)))
 have hs3:w.heap.size <= w3.heap.size:=B3.o.size
 clear t1 t2
 obtain ⟨g,cap,rfl,hcap,hcm⟩:∃ g cap,v3 = .slice (some ⟨g,0,none⟩) (m + s.length + 1) cap/\m + s.length + 1 <= cap/\cap <= 9223372036854775807:=by
  obtain ⟨h0,⟨_,h1⟩ | ⟨g,cap,cur,hv,hb,hh,hn,hc,_⟩⟩:=HO3.o
  ·simp at h1
  exact ⟨g,cap,hv,hn,by unfold maxLen at hc; omega⟩
 obtain ⟨L,hL⟩:=nm (m + s.length + 1)
 rw [hL] at hcap HO3 ⊢
 have HL:=aH hL
 have hLb:L <= 1002000:=by omega
 clear hL
 go_wp2_with fail
 go_loopg [6,7] (s.length + 1) (fun gh vo i wr=>∃ (j:Nat) (q:Int),i = .int .i64 q/\Hd (q = m + j)/\j + gh = s.length + 1/\Hd (wr.ownsRow w3.heap.size 44 1 vo j (nU g (m + 1) cap j))/\Hd (Below w3.heap.size w3 wr))
 case atStart=>exact ⟨0,N - 1,rfl,aH (by have:=HN.o; omega),by omega,aH (World.ownsRow_nil ..),aH (Below.refl _ _)⟩
 obtain ⟨j,q,rfl,HQ,hj,HOW,BEL⟩:=hrel
 have hq1:0 <= q:=by have:=HQ.o; omega
 have hq2:q <= 1002000:=by have:=HQ.o; omega
 have hwz:w3.heap.size <= wr.heap.size:=BEL.o.size
 rcases zP gk with h | h
 ·have hd:decide (q < (L:Int)) = false:=dF (by have:=HQ.o; have:=HL.o; omega)
  go_wp2_with fail
  go_ret
  refine ⟨_,rfl,⟨nU g (m + 1) cap j,?_,(From.of_own HOW.o).mono hs3,?_⟩,B3.o.trans (BEL.o.mono hs3)⟩
  ·have:=Sl.of_own HOW.o
   rw [show (aw m s).length = j by simp [aw]; omega]
   exact this
  intro i l hl
  have hi:=(sI.1 hl).1
  simp [aw] at hi
  refine ⟨.slice (some ⟨g,i,none⟩) (m + 1) (cap - i),?_,?_,fun ad n' c' e=>by cases e; exact rW HO3.o⟩
  ·simp [nU,List.getElem?_range (show i < j by omega)]
  have e:l = ((e9 m s).drop i).take (m + 1):=by
   simp [aw,List.getElem?_range hi] at hl
   exact hl.symm
  rw [e]
  exact ri ((Sl.of_own HO3.o).below BEL.o) (by have:=HL.o; omega) (by rw [cV]; exact HL.o)
 obtain ⟨gh,rfl⟩:∃ g,gk = g + 1:=⟨gk - 1,by omega⟩
 have hd:decide (q < (L:Int)) = true:=dT (by have:=HQ.o; have:=HL.o; omega)
 have e1:(q - N + 1).toNat = j:=by have:=HQ.o; have:=HN.o; omega
 have e2:(q + 1).toNat = j + (m + 1):=by have:=HQ.o; omega
 have e3:0 <= q - N + 1:=by have:=HQ.o; have:=HN.o; omega
 have e4:q - N + 1 <= q + 1:=by omega
 have e5:q + 1 <= (cap:Int):=by have:=HQ.o; have:=HL.o; omega
 have e6:¬ cap = j:=by have:=HL.o; omega
 have e7:j + (m + 1) - j = m + 1:=by omega
 go_wp2_with (at_builtin; refine al rfl (.tmp 24) (.tmp 33) 22 rfl w3.heap.size 44 i1 (.slice none 0 0) 1 24 Tryz.underlying22 ki kz0 kz1 kz2 rfl (by decide) _ _ _ rfl (bK HOW.o (Below.alloc (Below.refl _ _) (nR _) _)) _ 1 [.slice (some ⟨g,j,none⟩) (m + 1) (cap - j)] rfl (Sl.one _ _ _) (by simp [Value.oneCell']) (by unfold maxLen; omega) (by omega) (by simp; omega) ?_)
 intro v4 w4 t1 t2 _
 have HO4:Hd (w4.ownsRow w3.heap.size 44 1 v4 (j + 1) (nU g (m + 1) cap (j + 1))):=aH (by rw [pr]; exact t1)
 have B4:Hd (Below w3.heap.size w3 w4):=aH ((BEL.o.alloc hwz _).grown t2 (by simp; omega) (ao (From.of_own HOW.o)))
 clear t1 t2
 go_wp2_with fail
 go_roundg gh
 case measure=>omega
 case rel=>exact ⟨j + 1,q + 1,rfl,aH (by have:=HQ.o; omega),by omega,HO4,B4⟩
def GoodL (m:Nat) (K:Nat) (gs:List Gr):Prop:=gs.length <= K/\∀ g ∈ gs,g.1.length = m + 1/\0 <= g.2/\g.2 <= K
theorem GoodL.nil_ (m:Nat):GoodL m 0 []:=⟨by simp,by simp⟩
theorem eQ {gs:List Gr} {ws:List Int} {n:Int} {g:Gr} (h:g ∈ putL gs ws n):g ∈ gs ∨ g = (ws,n) ∨ ∃ x ∈ gs,g = (x.1,x.2 + n):=by
 induction gs with
 | nil=>simp [putL] at h; exact .inr (.inl h)
 | cons x gs ih =>
  unfold putL at h
  split at h
  ·rcases List.mem_cons.1 h with rfl | h
   ·exact .inl (by simp)
   rcases ih h with h | h | ⟨y,hy,e⟩
   ·exact .inl (by simp [h])
   ·exact .inr (.inl h)
   exact .inr (.inr ⟨y,by simp [hy],e⟩)
  split at h
  ·rcases List.mem_cons.1 h with rfl | h
   ·exact .inr (.inr ⟨x,by simp,rfl⟩)
   exact .inl (by simp [h])
  rcases List.mem_cons.1 h with rfl | h
  ·exact .inr (.inl rfl)
  exact .inl h
theorem eZ (gs:List Gr) (ws:List Int) (n:Int):(putL gs ws n).length <= gs.length + 1:=by
 induction gs with
 | nil=>simp [putL]
 | cons x gs ih =>
  unfold putL
  split
  ·simp; omega
  split <;> simp
theorem GoodL.put {m K:Nat} {gs:List Gr} {ws:List Int} {n:Nat} (h:GoodL m K gs)(hw:ws.length = m + 1)(hn:1 <= n):GoodL m (K + n) (putL gs ws n):=by
 refine ⟨by have:=eZ gs ws n; have:=h.1; omega,fun g hg=>?_⟩
 rcases eQ hg with h' | rfl | ⟨x,hx,rfl⟩
 ·have:=h.2 g h'; omega
 ·simp only; omega
 have:=h.2 x hx; simp only; omega
theorem GoodL.mono {m K K':Nat} {gs:List Gr} (h:GoodL m K gs)(hk:K <= K'):GoodL m K' gs:=⟨Nat.le_trans h.1 hk,fun g hg=>by have:=h.2 g hg; omega⟩

def fg (t:List Gr) (l:List (List Int)):List Gr:=l.foldl (fun t g=>putL t g 1) t
def eU (m:Nat) (ls:List (List Int)):List Gr:=fg [] (ls.flatMap (aw m))
theorem iW (t:List Gr) (l:List (List Int)) (g:List Int):fg t (l ++ [g]) = putL (fg t l) g 1:=by simp [fg]
theorem nw {m:Nat} {ls:List (List Int)} {i:Nat} {s:List Int} (h:ls[i]? = some s):eU m (ls.take (i + 1)) = fg (eU m (ls.take i)) (aw m s):=by
 unfold eU
 rw [ah _ h,List.flatMap_append]
 simp [fg]
theorem oJ {m:Nat} {s g:List Int} (h:g ∈ aw m s):g.length = m + 1:=by
 simp only [aw,List.mem_map,List.mem_range] at h
 obtain ⟨i,hi,rfl⟩:=h
 rw [List.length_take,List.length_drop,cV]
 omega
theorem dt (m:Nat) (s:List Int):(aw m s).length = s.length + 1:=by simp [aw]

theorem oC {w:World} {base:Nat} {e:TypeId} {sz:Nat} {v:Value} {n:Nat} {xs:List Value} (h:w.ownsRow base e sz v n xs) {p:Addr} (hp:p.block < base) (u:Value):(w.setCell p u).ownsRow base e sz v n xs:=by
 obtain ⟨h0,h1 | ⟨g,cap,cur,hv,hg,hh,hr⟩⟩:=h
 ·exact ⟨h0,.inl h1⟩
 exact ⟨h0,.inr ⟨g,cap,cur,hv,hg,(Below.heap_setCell w p u g (by omega)).trans hh,hr⟩⟩
theorem GOwn.setFar {base:Nat} {w:World} {v:Value} {gs:List Gr} (h:GOwn base w v gs) {p:Addr} (hp:p.block < base) (u:Value):GOwn base (w.setCell p u) v gs:=by
 obtain ⟨cells,h1,h2⟩:=h
 refine ⟨cells,oC h1 hp u,fun i g hg=>?_⟩
 obtain ⟨c0,e0,e1,e2,e3,e4⟩:=h2 i g hg
 exact ⟨c0,e0,e1,Sl.setFar e2 e3 hp u,e3,e4⟩
theorem GOwn.mono {base base':Nat} {w:World} {v:Value} {gs:List Gr} (h:GOwn base w v gs)(hb:base' <= base):GOwn base' w v gs:=by
 obtain ⟨cells,h1,h2⟩:=h
 refine ⟨cells,jx h1 hb,fun i g hg=>?_⟩
 obtain ⟨c0,e0,e1,e2,e3,e4⟩:=h2 i g hg
 exact ⟨c0,e0,e1,e2,e3.mono hb,e4⟩
theorem GOwn.len {base:Nat} {w:World} {v:Value} {gs:List Gr} (h:GOwn base w v gs):∃ A c,v = .slice A gs.length c:=by
 obtain ⟨A,c,e,_⟩:=h.at_.open_
 exact ⟨A,c,e⟩

theorem eV {B:Nat} {w w':World} (h:Below B w.drew w'):Below B w w':=⟨h.os,h.tape,h.output,h.size,h.block⟩

theorem fB {base:Nat} {w:World} {v:Value} {gs:List Gr} (h:GOwn base w v gs) {b:Nat} (e:v.ownBlock = some b):b < w.heap.size:=by
 obtain ⟨cells,⟨h0,⟨rfl,_⟩ | ⟨g,cap,cur,rfl,hg,hh,_⟩⟩,_⟩:=h
 ·cases e
 cases e
 exact (Array.getElem?_eq_some_iff.1 hh).1
theorem GOwn.from_ {base:Nat} {w:World} {v:Value} {gs:List Gr} (h:GOwn base w v gs):From v base:=by
 obtain ⟨cells,h1,_⟩:=h
 exact From.of_own h1
theorem pT {F:Nat} {wo wr w5:World} {v v5:Value} {p:Addr} {u:Value} (h:Same F wo wr/\∀ b,v.ownBlock = some b->b < F ∨ wo.heap.size <= b)(hg:wr.drew.grownBy w5 v.ownBlock)(hx:v5.ownBlock = v.ownBlock ∨ ∀ b,v5.ownBlock = some b->wr.heap.size <= b)(hp:p.block < F) :
  Same F wo (w5.setCell p u)/\∀ b,v5.ownBlock = some b->b < F ∨ wo.heap.size <= b:=by
 obtain ⟨⟨h1,h2⟩,h3⟩:=h
 have hs:wr.heap.size <= w5.heap.size:=hg.size
 refine ⟨⟨by simp only [World.setCell]; simp; omega,fun b hb hlt=>?_⟩,fun b e=>?_⟩
 ·rw [Below.heap_setCell w5 p u b (by omega)]
  refine Eq.trans (hg.block b (Nat.lt_of_lt_of_le hlt h1) (fun e=>?_)) (h2 b hb hlt)
  have:=h3 b e.symm
  omega
 rcases hx with hx | hx
 ·exact h3 b (hx ▸ e)
 have:=hx b e
 omega

theorem countG (w:World) (N V:Int) (m:Nat) (v:Value) (ls:List (List Int))(hN:N = m + 1)(hm:m <= 1000)(hs:∀ s ∈ ls,s.length <= 1000000)(ht:(ls.flatMap (aw m)).length <= 900000)(h:ListsAt w v ls) :
  Calls Tryz.prog 23 #[.int .i64 N,.int .i64 V,v] w fun e w'=>∃ lv,e = .returned (.agg #[.int .i64 N,.int .i64 V,lv])/\GOwn w.heap.size w' lv (eU m ls)/\GoodL m 900000 (eU m ls)/\Below w.heap.size w w':=by
 obtain ⟨A,c,rfl,hlc,hcm,hat⟩:=h.open_
 have HAT:=aH hat
 have HS:=aH hs
 have HT:=aH ht
 have HN:=aH hN
 clear h hat hs ht hN
 obtain ⟨n,hn⟩:=nm (ls.length)
 rw [hn] at hlc ⊢
 have HLN:=aH hn
 clear hn
 go_enter Tryz.func23,Tryz.ntmps23
 go_wp2_with fail
 obtain ⟨W,hW,P0,P1,PB,Phs⟩:=cP w 27 [.int .i64 0,.int .i64 0,.slice none 0 0] 27 [.int .i64 N,.int .i64 V,.slice none 0 0]
 rw [<- hW]
 clear hW
 go_loopg [8] n (fun gh i wr=>∃ (j:Nat) (lv:Value) (K:Nat),i = .int .i64 j/\j + gh = n/\Hd (K = ((ls.take j).flatMap (aw m)).length)/\Hd (GoodL m K (eU m (ls.take j)))/\Hd (GOwn (w.heap.size + 2) wr lv (eU m (ls.take j)))/\Hd (Blk wr (w.heap.size + 1) 27 [.int .i64 N,.int .i64 V,lv]) /\
   Hd (Blk wr w.heap.size 27 [.int .i64 0,.int .i64 0,.slice none 0 0])/\Hd (Below w.heap.size w wr))
 case atStart=>exact ⟨0,.slice none 0 0,0,rfl,by omega,aH (by simp),aH (GoodL.nil_ m),aH (GOwn.nil_ _ _),P1,P0,PB⟩
 obtain ⟨j,lv,K,rfl,hj,HK,HG,HO,HB1,HB0,BEL⟩:=hrel
 have hwz:w.heap.size + 2 <= wr.heap.size:=HB1.o.lt
 rcases zP gk with h | h
 ·obtain rfl:j = n:=by omega
  have HE:Hd (ls.take j = ls):=aH (tL (by rw [HLN.o]; exact nR _))
  obtain ⟨A',c',rfl⟩:=HO.o.len
  obtain ⟨r0,r1,r2,z0,z1,z2⟩:=HB0.o.three
  obtain ⟨o0,o1,o2,_,_,_⟩:=HB1.o.three
  generalize (eU m (ls.take j)).length = len at *
  go_wp2_with fail
  refine bodyPost_ret (v:=.agg #[.int .i64 N,.int .i64 V,.slice A' len c']) (by simp [results,Tryz.results23,go_sem,r0,r1,r2]) rfl ⟨_,rfl,?_,?_,af BEL.o (nR _) _ _ _⟩
  ·have:=(((HO.o.setFar (p:=⟨w.heap.size,0,none⟩) (by show w.heap.size < w.heap.size + 2; omega) (.int .i64 N)).setFar (p:=⟨w.heap.size,1,none⟩) (by show w.heap.size < w.heap.size + 2; omega) (.int .i64 V)).setFar (p:=⟨w.heap.size,2,none⟩) (by show w.heap.size < w.heap.size + 2; omega) (.slice A' len c')).mono (show w.heap.size <= w.heap.size + 2 by omega)
   rwa [HE.o] at this
  have:=HG.o
  rw [HE.o] at this
  exact this.mono (by have:=HK.o; rw [HE.o] at this; have:=HT.o; omega)
 obtain ⟨gh,rfl⟩:∃ g,gk = g + 1:=⟨gk - 1,by omega⟩
 obtain ⟨s,hsj⟩:∃ s,ls[j]? = some s:=⟨_,eG (by rw [HLN.o]; omega)⟩
 obtain ⟨ba,oa,c0,rfl,hba,e0,hi⟩:=HAT.o j s hsj
 have d0:=(BEL.o.cell (p:=⟨ba,oa + j,none⟩) hba).trans e0
 have HSJ:=aH hsj
 have HC:=aH (nw (m:=m) hsj)
 have HI:=aH (hi.below BEL.o)
 have hsl:=HS.o s (mG hsj)
 clear hsj e0 hi
 go_wp2_with fail
 refine (vS wr N m c0 s HN.o hm hsl HI.o).mono ?_
 rintro e w1 ⟨gv,rfl,t1,hb1⟩
 have GN:=aH t1
 have GL:=aH t1.at_
 have hb1':=aH hb1
 have B1:=aH (BEL.o.trans (hb1.mono (by omega)))
 have HO1:=aH (HO.o.below hb1)
 have H11:=aH (HB1.o.below' hb1)
 have H10:=aH (HB0.o.below' hb1)
 have hw1:w.heap.size + 2 <= w1.heap.size:=Nat.le_trans hwz hb1.size
 clear t1 hb1 d0
 obtain ⟨G,cg,rfl,hgc,hgm,hgt⟩:=GL.o.open_
 have HGT:=aH hgt
 clear hgt
 obtain ⟨p,hp⟩:=nm ((aw m s).length)
 rw [hp] at hgc ⊢
 have HP:=aH hp
 have hKp:Hd (K + p = ((ls.take (j + 1)).flatMap (aw m)).length):=aH (by
  rw [ah _ HSJ.o,List.flatMap_append,List.length_append,<- HK.o]
  simp [hp])
 have hKT:K + p <= 900000:=by
  rw [hKp.o]
  refine Nat.le_trans ?_ HT.o
  have:ls = ls.take (j + 1) ++ ls.drop (j + 1):=(List.take_append_drop _ _).symm
  conv=>rhs; rw [this,List.flatMap_append,List.length_append]
  omega
 clear hp
 go_wp2_with fail
 obtain ⟨wo,hwo⟩:∃ wo,wo = w1:=⟨_,rfl⟩
 rw [<- hwo] at GL GN hb1' B1 HO1 H11 H10 hw1 HGT ⊢
 clear hwo
 obtain ⟨Fz,hFz⟩:∃ F,F = wr.heap.size:=⟨_,rfl⟩
 have HOB:Hd (∀ b,lv.ownBlock = some b->b < Fz):=aH (fun b e=>by rw [hFz]; exact fB HO.o e)
 have GN':Hd (ListsNew Fz wo (.slice G p cg) (aw m s)):=aH (by rw [hFz]; have:=GN.o; rwa [HP.o] at this)
 have hFw:Fz <= wo.heap.size:=by rw [hFz]; exact hb1'.o.size
 have hFb:w.heap.size + 1 < Fz:=by rw [hFz]; omega
 clear hFz GN
 go_loopg [10] p (fun g2 i2 wr=>∃ (k:Nat) (lv:Value),i2 = .int .i64 k/\k + g2 = p/\Hd (GoodL m (K + k) (fg (eU m (ls.take j)) ((aw m s).take k)))/\Hd (GOwn (w.heap.size + 2) wr lv (fg (eU m (ls.take j)) ((aw m s).take k)))/\Hd (Blk wr (w.heap.size + 1) 27 [.int .i64 N,.int .i64 V,lv]) /\
   Hd (Blk wr w.heap.size 27 [.int .i64 0,.int .i64 0,.slice none 0 0])/\Hd (Below w.heap.size w wr)/\Hd (Same Fz wo wr/\∀ b,lv.ownBlock = some b->b < Fz ∨ wo.heap.size <= b))
 case atStart=>exact ⟨0,lv,rfl,by omega,aH (by simpa [fg] using HG.o),aH (by simpa [fg] using HO1.o),H11,H10,B1,aH ⟨⟨nR _,fun _ _ _=>rfl⟩,fun b e=>.inl (HOB.o b e)⟩⟩
 clear HO HB1 HB0 BEL HO1 H11 H10 B1 GL HGT HOB
 obtain ⟨k,lv,rfl,hk,HGk,HOk,H1,H0,BEL,HSM⟩:=hrel
 have GLn:=aH (GN'.o.same HSM.o.1)
 have GL:=aH GLn.o.at_
 have hwz:w.heap.size + 2 <= wr.heap.size:=H1.o.lt
 rcases zP gk with h | h
 ·obtain rfl:k = p:=by omega
  have HE:Hd ((aw m s).take k = aw m s):=aH (tL (by rw [HP.o]; exact nR _))
  go_wp2_with fail
  go_roundg gh
  case measure=>omega
  case rel=>exact ⟨j + 1,lv,K + k,rfl,by omega,hKp,aH (by rw [HC.o]; have:=HGk.o; rwa [HE.o] at this),aH (by rw [HC.o]; have:=HOk.o; rwa [HE.o] at this),H1,H0,BEL⟩
 obtain ⟨g2,rfl⟩:∃ g,gk = g + 1:=⟨gk - 1,by omega⟩
 obtain ⟨t,ht⟩:∃ t,(aw m s)[k]? = some t:=⟨_,eG (by rw [HP.o]; omega)⟩
 obtain ⟨A2,c2,e2,_,_,hat2⟩:=GL.o.open_
 cases e2
 obtain ⟨bb,ob,ce,rfl,hbb,e0,hi⟩:=hat2 k t ht
 obtain ⟨p0,p1,p2,_,_,_⟩:=H1.o.three
 have HI:=aH hi
 have HTL:=aH (oJ (mG ht))
 have HX:=aH ht
 clear ht hi hat2
 go_wp2_with fail
 go_region_with (first
  | (go_at_call 85; refine (vJ (w.heap.size + 2) _ lv ce _ t 1 (HOk.o.below (bS _)) (HI.o.below (bS _)) (fun g hg=>by rw [(HGk.o.2 g hg).1,HTL.o]) (by omega) (fun g hg=>by have:=HGk.o.2 g hg; omega) (by have:=HGk.o.1; omega) (by rw [HTL.o]; omega) (by show w.heap.size + 2 <= wr.heap.size; exact hwz)).mono ?_; rintro e w5 ⟨lv5,rfl,t5,hg5,hx5⟩; obtain ⟨A5,c5,rfl⟩:=t5.len; have O5:=aH t5; have G5:=aH hg5; have X5:=aH hx5; have B5:=aH (eV ((Below.refl (w.heap.size + 2) wr.drew).grown hg5 (by show w.heap.size + 2 <= wr.heap.size; exact hwz) (ao HOk.o.from_))); have H5:=aH (H1.o.below B5.o (by omega)); obtain ⟨r0,r1,r2,z0,z1,z2⟩:=H5.o.three; clear t5 hg5 hx5))
 all_goals
  go_wp2_with fail
  go_roundg g2
  case measure=>omega
  case rel=>exact ⟨k + 1,_,rfl,by omega,aH (by rw [ah _ HX.o,iW,<- Nat.add_assoc]; exact HGk.o.put HTL.o (nR 1)),aH (by rw [ah _ HX.o,iW]; exact O5.o.setFar (p:=⟨w.heap.size + 1,2,none⟩) (by show w.heap.size + 1 < w.heap.size + 2; omega) _),aH (H5.o.set_ 2 _),
   aH ((H0.o.below B5.o (by omega)).far (p:=⟨w.heap.size + 1,2,none⟩) (by show w.heap.size ≠ w.heap.size + 1; omega) _),aH ((BEL.o.trans (B5.o.mono (by omega))).setCell (p:=⟨w.heap.size + 1,2,none⟩) (by show w.heap.size <= w.heap.size + 1; omega) _),aH (pT HSM.o G5.o X5.o (by show w.heap.size + 1 < Fz; exact hFb))⟩
theorem oq (w:World) (o V o' V':Int) (lv lv':Value) (gs gs':List Gr)(h:GramsAt w lv gs) (h':GramsAt w lv' gs') :
  Calls Tryz.prog 22 #[.agg #[.int .i64 o,.int .i64 V,lv],.agg #[.int .i64 o',.int .i64 V',lv']] w fun e w'=>e = .returned (.bool (decide (o = o'/\V = V'/\gs = gs')))/\Below w.heap.size w w':=by
 obtain ⟨A,c,rfl,hlc,hcm,hat⟩:=h.open_
 obtain ⟨A',c',rfl,hlc',hcm',hat'⟩:=h'.open_
 have HAT:=aH hat
 have HAT':=aH hat'
 clear h h' hat hat'
 obtain ⟨n,hn⟩:=nm (gs.length)
 obtain ⟨p,hp⟩:=nm (gs'.length)
 rw [hn] at hlc ⊢
 rw [hp] at hlc' ⊢
 have HN:=aH hn
 have HP:=aH hp
 clear hn hp
 by_cases h1:o = o'
 ·by_cases h2:V = V'
  ·by_cases h3:n = p
   ·subst h1
    subst h2
    subst h3
    have e1:(o != o) = false:=by simp
    have e2:(V != V) = false:=by simp
    have e3:((n:Int) != (n:Int)) = false:=by simp
    go_enter Tryz.func22,Tryz.ntmps22
    go_wp2_with fail
    obtain ⟨W,hW,P0,P1,PB,Phs⟩:=cP w 27 [.int .i64 o,.int .i64 V,.slice A n c] 27 [.int .i64 o,.int .i64 V,.slice A' n c']
    rw [<- hW]
    clear hW
    obtain ⟨p0,p1,p2,_,_,_⟩:=P0.o.three
    obtain ⟨q0,q1,q2,_,_,_⟩:=P1.o.three
    go_wp2_with fail
    go_loopg [5] n (fun gh i wr=>∃ (j:Nat),i = .int .i64 j/\j + gh = n/\Hd (gs.take j = gs'.take j)/\Hd (Below W.heap.size W wr))
    case atStart=>exact ⟨0,rfl,by omega,aH rfl,aH (Below.refl _ _)⟩
    clear p0 p1 p2 q0 q1 q2
    obtain ⟨j,rfl,hj,HQ,BEL⟩:=hrel
    have PP0:=aH (P0.o.below' BEL.o)
    have PP1:=aH (P1.o.below' BEL.o)
    have BW:=aH (PB.o.trans (BEL.o.mono (by omega)))
    obtain ⟨p0,p1,p2,_,_,_⟩:=PP0.o.three
    obtain ⟨q0,q1,q2,_,_,_⟩:=PP1.o.three
    rcases zP gk with h | h
    ·obtain rfl:j = n:=by omega
     have HT:Hd (decide (o = o/\V = V/\gs = gs') = true):=aH (dT ⟨rfl,rfl,by
      have:=HQ.o
      rwa [tL (by rw [HN.o]; exact nR _),tL (by rw [HP.o]; exact nR _)] at this⟩)
     go_wp2_with fail
     go_ret
     exact ⟨ai (by have:=HT.o; simpa using this.symm),BW.o⟩
    obtain ⟨gh,rfl⟩:∃ g,gk = g + 1:=⟨gk - 1,by omega⟩
    obtain ⟨x,hx⟩:∃ x,gs[j]? = some x:=⟨_,eG (by rw [HN.o]; omega)⟩
    obtain ⟨y,hy⟩:∃ y,gs'[j]? = some y:=⟨_,eG (by rw [HP.o]; omega)⟩
    obtain ⟨ba,oa,a0,rfl,hba,ea0,ea1,fa⟩:=HAT.o j x hx
    obtain ⟨bb,ob,b0,rfl,hbb,eb0,eb1,fb⟩:=HAT'.o j y hy
    have d0:=(BW.o.cell (p:=⟨ba,oa + j * 2,none⟩) hba).trans ea0
    have d1:=(BW.o.cell (p:=⟨ba,oa + j * 2 + 1,none⟩) hba).trans ea1
    have f0:=(BW.o.cell (p:=⟨bb,ob + j * 2,none⟩) hbb).trans eb0
    have f1:=(BW.o.cell (p:=⟨bb,ob + j * 2 + 1,none⟩) hbb).trans eb1
    have FA:=aH (fa.below BW.o)
    have FB:=aH (fb.below BW.o)
    have HX:=aH hx
    have HY:=aH hy
    clear hx hy ea0 ea1 eb0 eb1
    obtain ⟨A1,k1,hA1⟩:=fa.len
    obtain ⟨A2,k2,hA2⟩:=fb.len
    subst hA1
    subst hA2
    clear fa fb
    have hz1:w.heap.size < wr.heap.size:=PP0.o.lt
    have hz2:w.heap.size + 1 < wr.heap.size:=PP1.o.lt
    have hz3:ba < wr.heap.size:=by omega
    have hz4:bb < wr.heap.size:=by omega
    have BX:Hd (∀ a b,Below wr.heap.size wr ((wr.alloc a).alloc b).drew):=aH (fun a b=>(((Below.refl _ wr).alloc (nR _) a).alloc (by simp) b).drew)
    have hle:W.heap.size <= wr.heap.size:=BEL.o.size
    have HXY:Hd (x ≠ y->decide (gs = gs') = false):=aH (fun hne=>dF (fun e=>hne (by
     have h1:=HX.o
     rw [e,HY.o] at h1
     injection h1 with h1
     exact h1.symm)))
    by_cases hN:x.2 = y.2
    ·have hNb:(x.2 != y.2) = false:=by simpa using hN
     by_cases hL:x.1.length = y.1.length
     ·have hLb:((x.1.length:Int) != (y.1.length:Int)) = false:=by rw [hL]; simp
      have OC:=aH (fun W h=>p9 W (.slice A1 x.1.length k1) (.slice A2 y.1.length k2) _ _ (FA.o.below (w':=W) h) (FB.o.below (w':=W) h) (by omega))
      by_cases hO:aN x.1 y.1 = 0
      ·have hOb:(aN x.1 y.1 != 0) = false:=by simpa using hO
       have HEQ:Hd (x = y):=aH (Prod.ext ((hZ hL).1 hO) hN)
       generalize aN x.1 y.1 = z at *
       generalize x.1.length = la at *
       generalize y.1.length = lb at *
       generalize x.2 = nx at *
       generalize y.2 = ny at *
       clear hN hL hO
       go_wp2_with fail
       go_region
       all_goals
        go_wp2_with fail
        refine (OC.o _ (BX.o _ _)).mono ?_
        rintro e w5 ⟨rfl,hb5⟩
        have B5:=aH ((BX.o _ _).trans (hb5.mono (by simp; omega)))
        clear hb5
        go_wp2_with fail
        go_roundg gh
        case measure=>omega
        case rel=>exact ⟨j + 1,rfl,by omega,aH (by rw [ah _ HX.o,ah _ HY.o,HQ.o,HEQ.o]),aH (BEL.o.trans (B5.o.mono hle))⟩
      have hOb:(aN x.1 y.1 != 0) = true:=by simpa using hO
      have HF:Hd (decide (gs = gs') = false):=aH (HXY.o (fun e=>hO ((hZ hL).2 (congrArg Prod.fst e))))
      generalize aN x.1 y.1 = z at *
      generalize x.1.length = la at *
      generalize y.1.length = lb at *
      generalize x.2 = nx at *
      generalize y.2 = ny at *
      clear hN hL hO
      go_wp2_with fail
      go_region
      all_goals
       go_wp2_with fail
       refine (OC.o _ (BX.o _ _)).mono ?_
       rintro e w5 ⟨rfl,hb5⟩
       have B5:=aH ((BX.o _ _).trans (hb5.mono (by simp; omega)))
       clear hb5
       go_wp2_with fail
       go_ret
       exact ⟨ai (by have:=HF.o; simpa using this),BW.o.trans (B5.o.mono (by omega))⟩
     have hLb:((x.1.length:Int) != (y.1.length:Int)) = true:=by simp; omega
     have HF:Hd (decide (gs = gs') = false):=aH (HXY.o (fun e=>hL (by rw [e])))
     generalize x.1.length = la at *
     generalize y.1.length = lb at *
     generalize x.2 = nx at *
     generalize y.2 = ny at *
     clear hN hL
     go_wp2_with fail
     go_region
     all_goals
      go_wp2_with fail
      go_ret
      exact ⟨ai (by have:=HF.o; simpa using this),BW.o.trans ((BX.o _ _).mono (by omega))⟩
    have hNb:(x.2 != y.2) = true:=by simpa using hN
    have HF:Hd (decide (gs = gs') = false):=aH (HXY.o (fun e=>hN (by rw [e])))
    generalize x.1.length = la at *
    generalize y.1.length = lb at *
    generalize x.2 = nx at *
    generalize y.2 = ny at *
    clear hN
    go_wp2_with fail
    go_region
    all_goals
     go_wp2_with fail
     go_ret
     exact ⟨ai (by have:=HF.o; simpa using this),BW.o.trans ((BX.o _ _).mono (by omega))⟩
   have e1:(o != o') = false:=by simpa using h1
   have e2:(V != V') = false:=by simpa using h2
   have e3:((n:Int) != (p:Int)) = true:=by simp; omega
   have HF:Hd (decide (o = o'/\V = V'/\gs = gs') = false):=aH (dF (fun e=>h3 (by rw [<- HN.o,<- HP.o,e.2.2])))
   clear h1 h2 h3
   go_enter Tryz.func22,Tryz.ntmps22
   go_wp2_with fail
   obtain ⟨W,hW,P0,P1,PB,Phs⟩:=cP w 27 [.int .i64 o,.int .i64 V,.slice A n c] 27 [.int .i64 o',.int .i64 V',.slice A' p c']
   rw [<- hW]
   clear hW
   obtain ⟨p0,p1,p2,_,_,_⟩:=P0.o.three
   obtain ⟨q0,q1,q2,_,_,_⟩:=P1.o.three
   go_wp2_with fail
   go_ret
   exact ⟨ai (by have:=HF.o; simpa using this),PB.o⟩
  have e1:(o != o') = false:=by simpa using h1
  have e2:(V != V') = true:=by simpa using h2
  have HF:Hd (decide (o = o'/\V = V'/\gs = gs') = false):=aH (dF (fun e=>h2 e.2.1))
  clear h1 h2
  go_enter Tryz.func22,Tryz.ntmps22
  go_wp2_with fail
  obtain ⟨W,hW,P0,P1,PB,Phs⟩:=cP w 27 [.int .i64 o,.int .i64 V,.slice A n c] 27 [.int .i64 o',.int .i64 V',.slice A' p c']
  rw [<- hW]
  clear hW
  obtain ⟨p0,p1,p2,_,_,_⟩:=P0.o.three
  obtain ⟨q0,q1,q2,_,_,_⟩:=P1.o.three
  go_wp2_with fail
  go_ret
  exact ⟨ai (by have:=HF.o; simpa using this),PB.o⟩
 have e1:(o != o') = true:=by simpa using h1
 have HF:Hd (decide (o = o'/\V = V'/\gs = gs') = false):=aH (dF (fun e=>h1 e.1))
 clear h1
 go_enter Tryz.func22,Tryz.ntmps22
 go_wp2_with fail
 obtain ⟨W,hW,P0,P1,PB,Phs⟩:=cP w 27 [.int .i64 o,.int .i64 V,.slice A n c] 27 [.int .i64 o',.int .i64 V',.slice A' p c']
 rw [<- hW]
 clear hW
 obtain ⟨p0,p1,p2,_,_,_⟩:=P0.o.three
 obtain ⟨q0,q1,q2,_,_,_⟩:=P1.o.three
 go_wp2_with fail
 go_ret
 exact ⟨ai (by have:=HF.o; simpa using this),PB.o⟩
end Go.Proofs.YtjebfdfkjlkifaaGreat
