/- Lemmas. -/
import Derived.Deep.Matrix
import Derived.Test.YtjebfdfkjlkifaaGreatR44
import Derived.Deep.SlicePairs
import Derived.Lib.SmallJoins
set_option linter.all false
set_option maxRecDepth 1000000
set_option maxHeartbeats 32000000
namespace Go.Proofs.YtjebfdfkjlkifaaGreat
open Go.RowKit
section
open Go.RowKit Go.ChangeShapes Go.WideShapes

theorem sK {w:World} {A:Option Addr} {L C:Nat} {Z:List Int} (h1:L <= C)(h2:C <= maxLen)(h3:Z.length = C)(h4:A = none->C = 0)(h5:∀ a',A = some a'->∀ c,c < C->w.cell? (a'.add c) = some (.int .i64 (Z.getD c 0))):IntsAt w (.slice A L C) (Z.take L):=by
 have hl:(Z.take L).length = L:=by rw [List.length_take]; omega
 refine ⟨by rw [List.length_map,Nat.mul_one],A,C,by rw [hl],by rw [hl]; exact h1,h2,fun hn=>?_⟩
 rw [hl] at hn
 cases A with
 | none=>have:=h4 rfl; omega
 | some a' =>
  obtain ⟨b,off,s⟩:=a'
  have h0:=h5 _ rfl 0 (by omega)
  have hs:s = none:=by simpa [Addr.add] using World.cell?_spot h0
  subst hs
  refine ⟨b,off,rfl,?_,fun j u hu=>?_⟩
  ·rw [add_plain] at h0
   exact block_lt_of_cell h0
  rw [List.getElem?_map] at hu
  cases hz:(Z.take L)[j]? with
  | none=>rw [hz] at hu; cases hu
  | some z =>
   rw [hz] at hu
   cases hu
   have hj:=(sI.1 hz).1
   rw [hl] at hj
   have hc:=h5 _ rfl j (by omega)
   rw [add_plain] at hc
   rw [hc,gD]
   rw [List.getElem?_take_of_lt hj] at hz
   rw [hz]
   rfl
end
section
attribute [local go_sem] Oper.semAt_some
end
theorem kK {a b:List Int} (h:a.length = b.length):aN b a = - aN a b:=by
 rw [<- iu h,<- iu h.symm,gr]
theorem cU (e:Gr) (m:List Gr) (k:List Int):aC (e :: m) k = if e.1 = k then some e.2 else aC m k:=by
 unfold aC
 rw [List.find?_cons]
 by_cases h:e.1 = k
 ·rw [if_pos h,dT h]; rfl
 rw [if_neg h,dF h]
theorem rS {n:Nat} {g:Gr} {gs:List Gr} {ws:List Int} (hr:Rises (g :: gs))(h1:¬ aN g.1 ws < 0)(h2:¬ aN g.1 ws = 0):∀ e ∈ g :: gs,e.1 ≠ ws:=by
 intro e he h
 rcases List.mem_cons.1 he with rfl | he
 ·rw [h,iJ] at h2
  exact h2 rfl
 have:=(List.pairwise_cons.1 hr).1 e he
 rw [h] at this
 exact h1 this
theorem pX {n:Nat} {gs:List Gr} {ws:List Int} {c:Int} (hr:Rises gs)(hl:∀ g ∈ gs,g.1.length = n)(hw:ws.length = n) (k:List Int) :
  aC (putL gs ws c) k = if k = ws then some ((aC gs ws).getD 0 + c) else aC gs k:=by
 induction gs with
 | nil =>
  unfold putL
  rw [cU]
  by_cases hk:k = ws
  ·rw [if_pos hk,if_pos hk.symm]; simp [aC]
  rw [if_neg hk,if_neg (fun e=>hk e.symm)]
 | cons g gs ih =>
  have hr2:=List.pairwise_cons.1 hr
  have hg:=hl g List.mem_cons_self
  have ih':=ih hr2.2 (fun x hx=>hl x (List.mem_cons_of_mem _ hx))
  unfold putL
  by_cases h1:aN g.1 ws < 0
  ·rw [if_pos h1]
   have hne:g.1 ≠ ws:=fun e=>by rw [e,iJ] at h1; omega
   rw [cU,cU,cU,ih',if_neg hne]
   by_cases hk:k = ws
   ·rw [if_pos hk,if_neg (by rw [hk]; exact hne),if_pos hk]
   rw [if_neg hk,if_neg hk]
  rw [if_neg h1]
  by_cases h2:aN g.1 ws = 0
  ·rw [if_pos h2]
   have he:g.1 = ws:=(hZ (by rw [hg,hw])).1 h2
   rw [cU,cU,cU,if_pos he]
   by_cases hk:k = ws
   ·rw [if_pos hk,if_pos (by rw [hk]; exact he)]; rfl
   rw [if_neg hk,if_neg (by rw [he]; exact fun e=>hk e.symm),if_neg (by rw [he]; exact fun e=>hk e.symm)]
  rw [if_neg h2]
  have hno:=eT (rS (n:=n) hr h1 h2)
  rw [cU,hno]
  by_cases hk:k = ws
  ·rw [if_pos hk,if_pos hk.symm]; simp
  rw [if_neg hk,if_neg (fun e=>hk e.symm)]
theorem ju {n:Nat} {gs:List Gr} {ws:List Int} {c:Int} (hr:Rises gs)(hl:∀ g ∈ gs,g.1.length = n)(hw:ws.length = n):Rises (putL gs ws c):=by
 induction gs with
 | nil=>exact List.pairwise_singleton _ _
 | cons g gs ih =>
  have hr2:=List.pairwise_cons.1 hr
  have hg:=hl g List.mem_cons_self
  have hgs:∀ x ∈ gs,x.1.length = n:=fun x hx=>hl x (List.mem_cons_of_mem _ hx)
  have ih':=ih hr2.2 hgs
  unfold putL
  by_cases h1:aN g.1 ws < 0
  ·rw [if_pos h1]
   refine List.pairwise_cons.2 ⟨fun x hx=>?_,ih'⟩
   rcases eQ hx with h | rfl | ⟨y,hy,rfl⟩
   ·exact hr2.1 x h
   ·exact h1
   exact hr2.1 y hy
  rw [if_neg h1]
  by_cases h2:aN g.1 ws = 0
  ·rw [if_pos h2]
   exact List.pairwise_cons.2 ⟨fun x hx=>hr2.1 x hx,hr2.2⟩
  rw [if_neg h2]
  have h3:aN ws g.1 < 0:=by rw [kK (by rw [hg,hw])]; omega
  refine List.pairwise_cons.2 ⟨fun x hx=>?_,hr⟩
  rcases List.mem_cons.1 hx with rfl | hx
  ·exact h3
  exact gE (by rw [hw,hg]) (by rw [hg,hgs x hx]) h3 (hr2.1 x hx)
theorem mM {n:Nat} {gs:List Gr} {ws:List Int} {c:Int} (hl:∀ g ∈ gs,g.1.length = n)(hw:ws.length = n):∀ g ∈ putL gs ws c,g.1.length = n:=by
 intro g hg
 rcases eQ hg with h | rfl | ⟨y,hy,rfl⟩
 ·exact hl g h
 ·exact hw
 exact hl y hy
theorem Cnt.putL {n:Nat} {gs:List Gr} {T:List Int->Int} {ws:List Int} {c:Int} (h:Cnt gs T)(hr:Rises gs)(hl:∀ g ∈ gs,g.1.length = n)(hw:ws.length = n)(hc:0 < c):Cnt (putL gs ws c) (fun x=>T x + if x = ws then c else 0):=by
 refine ⟨(ju hr hl hw).nodup,fun k=>?_,fun e he=>?_⟩
 ·rw [pX hr hl hw]
  by_cases hk:k = ws
  ·show _ = T k + if k = ws then c else 0
   rw [if_pos hk,if_pos hk,hk,<- h.2.1 ws]; rfl
  show _ = T k + if k = ws then c else 0
  rw [if_neg hk,if_neg hk,h.2.1 k]; omega
 rcases eQ he with h1 | rfl | ⟨y,hy,rfl⟩
 ·exact h.2.2 e h1
 ·exact hc
 have:=h.2.2 y hy
 show 0 < y.2 + c
 omega
theorem Cnt.nodup {m:List Gr} {T:List Int->Int} (h:Cnt m T):m.Nodup:=(List.pairwise_map.1 h.1).imp (fun h e=>h (congrArg _ e))
theorem Rises.sorted {n:Nat} {gs:List Gr} (h:Rises gs)(hl:∀ g ∈ gs,g.1.length = n):dQ gs:=by
 refine List.Pairwise.imp_of_mem ?_ h
 intro a b ha hb hab hn
 rw [iu (by rw [hl a ha,hl b hb]),kK (by rw [hl a ha,hl b hb])] at hn
 omega
theorem qE (w:World):GramsAt w (.slice none 0 0) []:=(GOwn.nil_ 0 w).at_
section
open Go.RowKit Go.ChangeShapes Go.WideShapes Go.Deep Go.Joins

theorem kR {H:Type} {enc:TypeId × Value->H} {W:World} {held:Bool} {fuel:Nat} {v:Value} {x:DataW H × List MemPlace}
  (h:DataW.trod enc Tryz.prog W 0 (fun _=>true) held fuel 44 [v] = some x):∃ l:List Int,IntsAt W v l:=by
 rcases open_ints Tryz.underlying44 Tryz.underlying3 (by kernel_rfl) h with ⟨hc,_⟩ | ⟨a',len,cap,zs,hc,_,h1,h2,h3,_,h4,_⟩
 ·simp at hc
  subst hc
  exact ⟨[],IntsAt.nil_ _⟩
 simp at hc
 subst hc
 simp only [if_true] at h3
 exact ⟨zs.take len,sK h1 h2 h3 (fun h=>by cases h) (fun a ha c hc=>by cases ha; exact h4 c (by omega))⟩

theorem oI {H:Type} {enc:TypeId × Value->H} {W:World} {held:Bool} {fuel:Nat} {v:Value} {x:DataW H × List MemPlace}
  (h:DataW.trod enc Tryz.prog W 0 (fun _=>true) held fuel 25 [v] = some x):∃ (A:Option Addr) (n c:Nat) (gs:List Gr),v = .slice A n c/\gs.length = n/\GramsAt W v gs:=by
 rcases open_slice_pairs Tryz.underlying25 Tryz.underlying51 (by kernel_rfl) rfl rfl (by kernel_rfl) (by kernel_rfl) h with ⟨hc,_⟩ | ⟨a,len,cap,m,k,V0,V1,D0,D1,P0,P1,hc,_,hl,hm,hmm,_,hall⟩
 ·simp at hc
  subst hc
  exact ⟨none,0,0,[],rfl,rfl,qE _⟩
 simp at hc
 subst hc
 simp only [if_true] at hmm
 have key:∀ i,∃ g:Gr,i < m->V1 i = .int .i64 g.2/\IntsAt W (V0 i) g.1:=by
  intro i
  by_cases hi:i < m
  ·obtain ⟨_,_,t0,t1⟩:=hall i hi
   obtain ⟨l,hl⟩:=kR t0
   obtain ⟨z,hz,_⟩:=DataW.trod_int Tryz.underlying3 t1
   refine ⟨(l,z),fun _=>⟨?_,hl⟩⟩
   simpa using hz
  exact ⟨([],0),fun h=>absurd h hi⟩
 obtain ⟨G,hG⟩:=Classical.axiomOfChoice key
 have hlen:(List.range len).length = len:=List.length_range
 refine ⟨some a,len,cap,(List.range len).map G,rfl,by simp,?_⟩
 obtain ⟨b,off,s⟩:=a
 refine ⟨(List.range (len * 2)).map fun j=>if j % 2 = 0 then V0 (j / 2) else V1 (j / 2),⟨by simp,some ⟨b,off,s⟩,cap,by simp,by simpa using hl,hm,fun hn=>?_⟩,fun i g hg=>?_⟩
 ·have hn':0 < len:=by simpa using hn
  have h0:=(hall 0 (by omega)).1
  have hs:s = none:=by simpa [Addr.add] using World.cell?_spot h0
  subst hs
  rw [add_plain] at h0
  refine ⟨b,off,rfl,block_lt_of_cell h0,fun j u hu=>?_⟩
  rw [List.getElem?_map] at hu
  by_cases hj:j < len * 2
  ·rw [List.getElem?_range hj] at hu
   obtain rfl:=Option.some.inj hu
   have hx:=hall (j / 2) (by omega)
   show _ = some (if j % 2 = 0 then V0 (j / 2) else V1 (j / 2))
   split
   ·have:=hx.1
    rw [add_plain,show j / 2 * 2 = j by omega] at this
    exact this
   have:=hx.2.1
   rw [add_plain,show j / 2 * 2 + 1 = j by omega] at this
   exact this
  rw [nI.2 (by simpa using hj)] at hu
  cases hu
 rw [List.getElem?_map] at hg
 by_cases hi:i < len
 ·rw [List.getElem?_range hi] at hg
  obtain rfl:=Option.some.inj hg
  obtain ⟨g1,g2⟩:=hG i (by omega)
  refine ⟨V0 i,?_,?_,g2⟩
  ·rw [List.getElem?_map,List.getElem?_range (by omega),Option.map_some,if_pos (by omega),show i * 2 / 2 = i by omega]
  rw [List.getElem?_map,List.getElem?_range (by omega),Option.map_some,if_neg (by omega),show (i * 2 + 1) / 2 = i by omega,g1]
 rw [nI.2 (by simpa using hi)] at hg
 cases hg
end
section
open Go.RowKit Go.ChangeShapes Go.WideShapes Go.Deep Go.Joins

theorem wW {α:Type} {l:List α} (h:l.length = 3):∃ c0 c1 c2,l = [c0,c1,c2]:=by
 match l,h with
 | [c0,c1,c2],_=>exact ⟨c0,c1,c2,rfl⟩
theorem vZ {α:Type} {cs:Array α} (h:cs.size = 8):∃ c0 c1 c2 c3 c4 c5 c6 c7,cs = #[c0,c1,c2,c3,c4,c5,c6,c7]:=by
 obtain ⟨l⟩:=cs
 match l,h with
 | [c0,c1,c2,c3,c4,c5,c6,c7],_=>exact ⟨c0,c1,c2,c3,c4,c5,c6,c7,rfl⟩

theorem tI {w:World} {a:Addr} {L C:Nat} {Z:List Int} (h1:L <= C)(h2:C <= maxLen)(h3:Z.length = C)(h5:∀ i,i < C->w.cell? (a.add i) = some (.int .u32 (Z.getD i 0)))(hw:∀ z ∈ Z,0 <= z/\z < 4294967296):DigAt w (.slice (some a) L C) ((Z.take L).map Int.toNat):=by
 have hl:((Z.take L).map Int.toNat).length = L:=by rw [List.length_map,List.length_take]; omega
 refine ⟨⟨by rw [List.length_map,Nat.mul_one],some a,C,by rw [hl],by rw [hl]; exact h1,h2,fun hn=>?_⟩,fun d hd=>?_⟩
 ·rw [hl] at hn
  obtain ⟨b,off,s⟩:=a
  have h0:=h5 0 (by omega)
  have hs:s = none:=by simpa [Addr.add] using World.cell?_spot h0
  subst hs
  refine ⟨b,off,rfl,?_,fun j u hu=>?_⟩
  ·rw [add_plain] at h0
   exact block_lt_of_cell h0
  rw [List.getElem?_map,List.getElem?_map] at hu
  cases hz:(Z.take L)[j]? with
  | none=>rw [hz] at hu; cases hu
  | some z =>
   rw [hz] at hu
   cases hu
   have hj:=(sI.1 hz).1
   rw [List.length_take] at hj
   have hc:=h5 j (by omega)
   rw [add_plain] at hc
   have hzm:=hw z (List.mem_of_mem_take (mG hz))
   rw [hc,gD]
   rw [List.getElem?_take_of_lt (by omega)] at hz
   rw [hz]
   unfold dg
   rw [Int.toNat_of_nonneg hzm.1]
   rfl
 obtain ⟨z,hz,rfl⟩:=List.mem_map.1 hd
 have:=hw z (List.mem_of_mem_take hz)
 omega
theorem lp {H:Type} {enc:TypeId × Value->H} {W:World} {held:Bool} {fuel:Nat} {v:Value} {x:DataW H × List MemPlace}
  (h:DataW.trod enc Tryz.prog W 0 (fun _=>true) held fuel 38 [v] = some x):∃ l:List Nat,DigAt W v l:=by
 rcases open_ints Tryz.underlying38 Tryz.underlying181 (by kernel_rfl) h with ⟨hc,_⟩ | ⟨a',len,cap,zs,hc,_,h1,h2,h3,_,h4,h5⟩
 ·simp at hc
  subst hc
  exact ⟨[],DigAt.nil_ _⟩
 simp at hc
 subst hc
 simp only [if_true] at h3
 refine ⟨_,tI h1 h2 h3 (fun i hi=>h4 i (by omega)) (fun z hz=>?_)⟩
 have:=h5 z hz
 simp [Lit.wf,IntKind.min,IntKind.max,IntKind.signed,IntKind.bits] at this
 omega
theorem kV {H:Type} {enc:TypeId × Value->H} {W:World} {held:Bool} {fuel:Nat} {cs:List Value} {x:DataW H × List MemPlace}
  (h:DataW.trod enc Tryz.prog W 0 (fun _=>true) held fuel 40 cs = some x):∃ (r:Raw) (vn vd:Value),cs = [.bool r.neg,vn,vd]/\DigAt W vn r.n/\DigAt W vd r.d:=by
 obtain ⟨y0,y1,y2,n,_,hl,h0,h1,h2⟩:=trod_struct3 Tryz.underlying40 h
 have cb:Tryz.prog.cellsOf 4 = 1:=by kernel_rfl
 have cd:Tryz.prog.cellsOf 38 = 1:=by kernel_rfl
 have cf:Tryz.prog.cellsOf 40 = 3:=by kernel_rfl
 rw [cf] at hl
 obtain ⟨c0,c1,c2,rfl⟩:=wW hl
 simp [cb,cd] at h0 h1 h2
 obtain ⟨b,hb,_⟩:=DataW.trod_bool Tryz.underlying4 h0
 simp at hb
 subst hb
 obtain ⟨l1,hl1⟩:=lp h1
 obtain ⟨l2,hl2⟩:=lp h2
 exact ⟨⟨b,l1,l2⟩,c1,c2,rfl,hl1,hl2⟩
theorem pW {H:Type} {enc:TypeId × Value->H} {W:World} {held:Bool} {fuel:Nat} {v:Value} {x:DataW H × List MemPlace}
  (h:DataW.trod enc Tryz.prog W 0 (fun _=>true) held fuel 41 [v] = some x):∃ rs:List Raw,RawsAt W v rs:=by
 have cf:Tryz.prog.cellsOf 40 = 3:=by kernel_rfl
 rcases open_slice Tryz.underlying41 h with ⟨hc,_⟩ | ⟨a,len,cap,m,n,D,Pl,hc,_,hl,hm,hmm,_,hall⟩
 ·simp at hc
  subst hc
  exact ⟨[],[],Sl.nil_ _ _,fun i r hr=>by simp at hr⟩
 simp at hc
 subst hc
 simp only [if_true] at hmm
 have key:∀ i,∃ q:Raw × Value × Value,i < m->W.cell? (a.add (i * 3)) = some (.bool q.1.neg)/\W.cell? (a.add (i * 3 + 1)) = some q.2.1/\W.cell? (a.add (i * 3 + 2)) = some q.2.2/\DigAt W q.2.1 q.1.n/\DigAt W q.2.2 q.1.d:=by
  intro i
  by_cases hi:i < m
  ·obtain ⟨cs',h1,h2⟩:=hall i hi
   rw [cf] at h1
   obtain ⟨_,hlen,hcell⟩:=World.cells?_some h1
   obtain ⟨r,vn,vd,rfl,hn,hd⟩:=kV h2
   have e0:=hcell 0 (by omega)
   have e1:=hcell 1 (by omega)
   have e2:=hcell 2 (by omega)
   rw [add_add] at e0 e1 e2
   exact ⟨(r,vn,vd),fun _=>⟨by simpa using e0,by simpa using e1,by simpa using e2,hn,hd⟩⟩
  exact ⟨(⟨false,[],[]⟩,.bool false,.bool false),fun h=>absurd h hi⟩
 obtain ⟨G,hG⟩:=Classical.axiomOfChoice key
 obtain ⟨b,off,s⟩:=a
 refine ⟨(List.range len).map fun i=>(G i).1,(List.range (len * 3)).map fun j=>if j % 3 = 0 then .bool (G (j / 3)).1.neg else if j % 3 = 1 then (G (j / 3)).2.1 else (G (j / 3)).2.2,⟨by simp,some ⟨b,off,s⟩,cap,by simp,by simpa using hl,hm,fun hn=>?_⟩,fun i r hr=>?_⟩
 ·have hn':0 < len:=by simpa using hn
  have h0:=(hG 0 (by omega)).1
  have hs:s = none:=by simpa [Addr.add] using World.cell?_spot h0
  subst hs
  rw [add_plain] at h0
  refine ⟨b,off,rfl,block_lt_of_cell h0,fun j u hu=>?_⟩
  rw [List.getElem?_map] at hu
  by_cases hj:j < len * 3
  ·rw [List.getElem?_range hj] at hu
   obtain rfl:=Option.some.inj hu
   have hx:=hG (j / 3) (by omega)
   show _ = some (if j % 3 = 0 then .bool (G (j / 3)).1.neg else if j % 3 = 1 then (G (j / 3)).2.1 else (G (j / 3)).2.2)
   split
   ·have:=hx.1
    rw [add_plain,show j / 3 * 3 = j by omega] at this
    exact this
   split
   ·have:=hx.2.1
    rw [add_plain,show j / 3 * 3 + 1 = j by omega] at this
    exact this
   have:=hx.2.2.1
   rw [add_plain,show j / 3 * 3 + 2 = j by omega] at this
   exact this
  rw [nI.2 (by simpa using hj)] at hu
  cases hu
 rw [List.getElem?_map] at hr
 by_cases hi:i < len
 ·rw [List.getElem?_range hi] at hr
  obtain rfl:=Option.some.inj hr
  obtain ⟨_,_,_,g3,g4⟩:=hG i (by omega)
  refine ⟨(G i).2.1,(G i).2.2,?_,?_,?_,g3,g4⟩
  ·rw [List.getElem?_map,List.getElem?_range (by omega),Option.map_some,if_pos (by omega),show i * 3 / 3 = i by omega]
  ·rw [List.getElem?_map,List.getElem?_range (by omega),Option.map_some,if_neg (by omega),if_pos (by omega),show (i * 3 + 1) / 3 = i by omega]
  rw [List.getElem?_map,List.getElem?_range (by omega),Option.map_some,if_neg (by omega),if_neg (by omega),show (i * 3 + 2) / 3 = i by omega]
 rw [nI.2 (by simpa using hi)] at hr
 cases hr

theorem qe {H:Type} {enc:TypeId × Value->H} {W:World} {held:Bool} {v:Value} {d:DataW H} {ps:List MemPlace} {r:Reach} {b0:Nat}
  (hv:Value.okWide Tryz.prog W r b0 43 v)(h:DataW.Trod enc Tryz.prog W 0 (fun _=>true) held 43 v d ps) :
  ∃ (O V:Int) (Al:Option Addr) (n cl:Nat) (gs:List Gr) (k:Int) (s:Bool) (A A':Option Addr) (m c m' c':Nat) (mv:Value) (am:Raw) (rs:List Raw),
   v = aG O V (.slice Al n cl) k s A A' m c m' c' mv/\gs.length = n/\GramsAt W (.slice Al n cl) gs/\RawAt W (.agg #[.bool s,.slice A m c,.slice A' m' c']) am/\RawsAt W mv rs/\-9223372036854775808 <= O/\O <= 9223372036854775807:=by
 have ct:Tryz.prog.cellsOf 27 = 3:=by kernel_rfl
 have cb:Tryz.prog.cellsOf 37 = 1:=by kernel_rfl
 have cf:Tryz.prog.cellsOf 40 = 3:=by kernel_rfl
 have cm:Tryz.prog.cellsOf 41 = 1:=by kernel_rfl
 have ci:Tryz.prog.cellsOf 3 = 1:=by kernel_rfl
 have cg:Tryz.prog.cellsOf 25 = 1:=by kernel_rfl
 have cl:Tryz.prog.cellsOf 43 = 8:=by kernel_rfl
 obtain ⟨cs,rfl,hsz⟩:=okWide_struct Tryz.underlying43 hv
 obtain ⟨c0,c1,c2,c3,c4,c5,c6,c7,rfl⟩:=vZ (hsz.trans cl)
 obtain ⟨fuel,hf⟩:=h
 obtain ⟨y0,y1,y2,y3,n,_,_,h0,h1,h2,h3⟩:=trod_struct4 Tryz.underlying43 hf
 simp [Value.cells,ct,cb,cf,cm] at h0 h1 h2 h3
 obtain ⟨z0,z1,z2,k,_,_,t0,t1,t2⟩:=trod_struct3 Tryz.underlying27 h0
 simp [ci,cg] at t0 t1 t2
 obtain ⟨o,ho,_,wo⟩:=DataW.trod_int Tryz.underlying3 t0
 obtain ⟨V,hV,_⟩:=DataW.trod_int Tryz.underlying3 t1
 obtain ⟨A,n',c,gs,rfl,hn,hg⟩:=oI t2
 obtain ⟨by',hby,_⟩:=DataW.trod_int Tryz.underlying37 h1
 obtain ⟨am,vn,vd,hc,hdn,hdd⟩:=kV h2
 obtain ⟨rs,hrs⟩:=pW h3
 simp at ho hV hby hc
 subst ho
 subst hV
 subst hby
 obtain ⟨rfl,rfl,rfl⟩:=hc
 obtain ⟨_,An,nc,rfl,_⟩:=hdn.open_
 obtain ⟨_,Ad,dc,rfl,_⟩:=hdd.open_
 simp [Lit.wf,IntKind.min,IntKind.max,IntKind.signed,IntKind.bits] at wo
 exact ⟨o,V,A,n',c,gs,by',am.neg,An,Ad,_,nc,_,dc,c7,am,rs,rfl,hn,hg,⟨_,_,rfl,hdn,hdd⟩,hrs,by omega,by omega⟩
end
end Go.Proofs.YtjebfdfkjlkifaaGreat
