/- Lemmas. -/
import Derived.Test.YtjebfdfkjlkifaaGreatR39
set_option linter.all false
set_option maxRecDepth 1000000
set_option maxHeartbeats 32000000
namespace Go.Proofs.YtjebfdfkjlkifaaGreat
open Go.RowKit
structure Tb where
 o:Int
 V:Int
 A:Option Addr
 c:Nat
 gs:List Gr
abbrev Tb.lv (t:Tb):Value:=.slice t.A t.gs.length t.c
def TabsAt (w:World) (v:Value) (ts:List Tb):Prop:=∃ cells,Sl w 3 v ts.length cells/\∀ (i:Nat) t,ts[i]? = some t->cells[i * 3]? = some (.int .i64 t.o)/\cells[i * 3 + 1]? = some (.int .i64 t.V)/\cells[i * 3 + 2]? = some t.lv/\GramsAt w t.lv t.gs
theorem TabsAt.below {w w':World} {v:Value} {ts:List Tb} (h:TabsAt w v ts)(hb:Below w.heap.size w w'):TabsAt w' v ts:=by
 obtain ⟨cells,h1,h2⟩:=h
 refine ⟨cells,h1.below hb,fun i t ht=>?_⟩
 obtain ⟨e0,e1,e2,e3⟩:=h2 i t ht
 exact ⟨e0,e1,e2,e3.below hb⟩
theorem TabsAt.open_ {w:World} {v:Value} {ts:List Tb} (h:TabsAt w v ts):∃ A c,v = .slice A ts.length c/\ts.length <= c/\c <= 9223372036854775807 /\
  ∀ (j:Nat) t,ts[j]? = some t->∃ b off,A = some ⟨b,off,none⟩/\b < w.heap.size/\w.cell? ⟨b,off + j * 3,none⟩ = some (.int .i64 t.o)/\w.cell? ⟨b,off + j * 3 + 1,none⟩ = some (.int .i64 t.V)/\w.cell? ⟨b,off + j * 3 + 2,none⟩ = some t.lv/\GramsAt w t.lv t.gs:=by
 obtain ⟨cells,h1,h2⟩:=h
 obtain ⟨h0,A,c,rfl,hc,hm,h5⟩:=h1
 refine ⟨A,c,rfl,hc,by unfold maxLen at hm; omega,fun j x hx=>?_⟩
 have hj:=(sI.1 hx).1
 obtain ⟨b,off,e,hlt,hcell⟩:=h5 (by omega)
 obtain ⟨e0,e1,e2,hf⟩:=h2 j x hx
 exact ⟨b,off,e,hlt,hcell _ _ e0,by have:=hcell _ _ e1; rwa [<- Nat.add_assoc] at this,by have:=hcell _ _ e2; rwa [<- Nat.add_assoc] at this,hf⟩
section
open Go.RowKit
end
def ma:Prop:=∀ W B A n c gs,GOwn B W (.slice A n c) gs->gs.length = n->n <= 20000->B <= W.heap.size->Calls Tryz.prog 136 #[.slice A n c,.func (.func 137) #[] #[]] W fun e w'=>e = .returned (.tuple #[])/\∃ gs':List Gr,gs'.Perm gs/\dQ gs'/\GOwn B w' (.slice A n c) gs'/\Below B W w'
theorem vQ (h:ma) (w:World):Calls Tryz.prog 18 #[] w fun e w'=>e = .returned (.bool true)/\Below w.heap.size w w':=vR w h
def NiceG (g:Gr):Prop:=g.1.length <= 4/\(∀ x ∈ g.1,0 <= x/\x <= 2000)/\1 <= g.2/\g.2 <= 1073741824
theorem NiceG.key {g:Gr} (h:NiceG g):NiceK g.1:=⟨h.1,fun x hx=>by have:=h.2.1 x hx; omega⟩
def cE (gs:List Gr):List Gr:=gs.map fun g=>(g.1.drop 1,g.2)
def bV (t l:List Gr):List Gr:=l.foldl (fun t e=>putL t e.1 e.2) t
theorem pY (t l:List Gr) (e:Gr):bV t (l ++ [e]) = putL (bV t l) e.1 e.2:=by simp [bV]
theorem GOwn.ne_box {base:Nat} {w:World} {v:Value} {gs:List Gr} (h:GOwn base w v gs) {ob:Nat} {xs:List Value} (hb:Blk w ob 27 xs):some ob ≠ v.ownBlock:=by
 obtain ⟨cells,⟨h0,h1⟩,h2⟩:=h
 intro e
 rcases h1 with ⟨rfl,_⟩ | ⟨g,cap,cur,rfl,hg,hh,hr⟩
 ·cases e
 cases e
 unfold Blk at hb
 rw [hh] at hb
 simp at hb
def GoodP (n K:Nat) (gs:List Gr):Prop:=gs.length <= K/\∀ g ∈ gs,g.1.length = n/\0 <= g.2/\g.2 <= (K:Int) * 1073741824
theorem GoodP.nil_ (n:Nat):GoodP n 0 []:=⟨by simp,by simp⟩
theorem GoodP.put {n K:Nat} {gs:List Gr} {ws:List Int} {x:Int} (h:GoodP n K gs)(hw:ws.length = n)(hx:0 <= x/\x <= 1073741824):GoodP n (K + 1) (putL gs ws x):=by
 refine ⟨by have:=eZ gs ws x; have:=h.1; omega,fun g hg=>?_⟩
 rcases eQ hg with h' | rfl | ⟨y,hy,rfl⟩
 ·have:=h.2 g h'; exact ⟨this.1,this.2.1,by omega⟩
 ·exact ⟨hw,hx.1,by show x <= _; omega⟩
 have:=h.2 y hy; exact ⟨this.1,by show 0 <= y.2 + x; omega,by show y.2 + x <= _; omega⟩
theorem GoodP.mono {n K K':Nat} {gs:List Gr} (h:GoodP n K gs)(hk:K <= K'):GoodP n K' gs:=⟨Nat.le_trans h.1 hk,fun g hg=>by have:=h.2 g hg; exact ⟨this.1,this.2.1,by omega⟩⟩
theorem nH {α:Type} {p:α->Bool} {l:List α} {j:Nat} {x:α} (hx:l[j]? = some x):(l.drop j).all p = (p x && (l.drop (j + 1)).all p):=by
 have hj:=(sI.1 hx).1
 have:l[j] = x:=by rw [eG hj] at hx; injection hx
 rw [List.drop_eq_getElem_cons hj,this]
 rfl
def df (V:Int) (gs:List Gr):Bool:=decide (gs.length <= 60) && decide (V <= 8) && gs.all fun g=>decide (g.1.length <= 10)
theorem vE (w:World) (O V:Int) (A:Option Addr) (c L:Nat) (gs:List Gr)(h:GramsAt w (.slice A L c) gs)(hL:gs.length = L) :
  Calls Tryz.prog 67 #[.agg #[.int .i64 O,.int .i64 V,.slice A L c]] w fun e w'=>e = .returned (.bool (df V gs))/\Below w.heap.size w w':=by
 obtain ⟨_,_,e,hlc,hcm,hat⟩:=h.open_
 injection e with e1 e2 e3
 subst e1
 have HAT:=aH hat
 have HL:=aH hL
 rw [hL] at hlc
 clear h hat hL e2 e3
 by_cases h1:L <= 60
 ·have d1:decide ((60:Int) < (L:Int)) = false:=dF (by omega)
  by_cases h2:V <= 8
  ·have d2:decide ((8:Int) < V) = false:=dF (by omega)
   have HS:Hd (df V gs = (gs.drop 0).all fun g=>decide (g.1.length <= 10)):=aH (by unfold df; rw [HL.o,dT h1,dT h2]; rfl)
   go_enter Tryz.func67,Tryz.ntmps67
   go_wp2_with fail
   obtain ⟨W,hW,P0,PB,Phs⟩:=aA w 27 [.int .i64 O,.int .i64 V,.slice A L c]
   rw [<- hW]
   clear hW
   go_loopg [3] L (fun g i wr=>∃ (j:Nat),wr = W/\i = .int .i64 j/\j + g = L/\Hd (df V gs = (gs.drop j).all fun g=>decide (g.1.length <= 10)))
   case atStart=>exact ⟨0,rfl,rfl,by omega,HS⟩
   obtain ⟨j,rfl,rfl,hj,HQ⟩:=hrel
   obtain ⟨p0,p1,p2,_,_,_⟩:=P0.o.three
   rcases zP gk with h | h
   ·obtain rfl:j = L:=by omega
    have HT:Hd (df V gs = true):=aH (by rw [HQ.o,dN (by rw [HL.o]; exact nR _)]; rfl)
    go_wp2_with fail
    go_ret
    exact ⟨ai HT.o.symm,PB.o⟩
   obtain ⟨g,rfl⟩:∃ g,gk = g + 1:=⟨gk - 1,by omega⟩
   obtain ⟨x,hx⟩:∃ x,gs[j]? = some x:=⟨_,eG (by rw [HL.o]; omega)⟩
   obtain ⟨ba,oa,c0,rfl,hba,e0,_,hi⟩:=HAT.o j x hx
   obtain ⟨Ai,ci,rfl,_,_,_⟩:=hi.open_
   have d0:=(PB.o.cell (p:=⟨ba,oa + j * 2,none⟩) hba).trans e0
   have ST:=aH (HQ.o.trans (nH hx))
   obtain ⟨p,hp⟩:=nm (x.1.length)
   rw [hp] at ST d0
   clear hx hi e0 hp
   by_cases h3:p <= 10
   ·have d3:decide ((10:Int) < (p:Int)) = false:=dF (by omega)
    have HT:Hd (df V gs = (gs.drop (j + 1)).all fun g=>decide (g.1.length <= 10)):=aH (by rw [ST.o,dT h3]; rfl)
    clear h3
    go_wp2_with fail
    go_roundg g
    case measure=>omega
    case rel=>exact ⟨j + 1,rfl,rfl,by omega,HT⟩
   have d3:decide ((10:Int) < (p:Int)) = true:=dT (by omega)
   have HT:Hd (df V gs = false):=aH (by rw [ST.o,dF h3]; rfl)
   clear h3
   go_wp2_with fail
   go_ret
   exact ⟨ai HT.o.symm,PB.o⟩
  have d2:decide ((8:Int) < V) = true:=dT (by omega)
  have HT:Hd (df V gs = false):=aH (by unfold df; rw [dF h2,Bool.and_false]; rfl)
  clear h2
  go_enter Tryz.func67,Tryz.ntmps67
  go_wp2_with fail
  go_ret
  exact ⟨ai HT.o.symm,(Below.refl _ w).alloc (nR _) _⟩
 have d1:decide ((60:Int) < (L:Int)) = true:=dT (by omega)
 have HT:Hd (df V gs = false):=aH (by unfold df; rw [HL.o,dF h1]; rfl)
 clear h1
 go_enter Tryz.func67,Tryz.ntmps67
 go_wp2_with fail
 go_ret
 exact ⟨ai HT.o.symm,(Below.refl _ w).alloc (nR _) _⟩
structure Raw where
 neg:Bool
 n:List Nat
 d:List Nat
def Raw.q (r:Raw):Rat:=dM r.neg (val r.n) (val r.d)
def Raw.thin (r:Raw):Bool:=decide (r.n.length <= 1) && decide (r.d.length <= 1)
def RawAt (w:World) (v:Value) (r:Raw):Prop:=∃ vn vd,v = .agg #[.bool r.neg,vn,vd]/\DigAt w vn r.n/\DigAt w vd r.d
def RawsAt (w:World) (v:Value) (rs:List Raw):Prop:=∃ cells,Sl w 3 v rs.length cells /\
 ∀ i r,rs[i]? = some r->∃ vn vd,cells[i * 3]? = some (.bool r.neg)/\cells[i * 3 + 1]? = some vn/\cells[i * 3 + 2]? = some vd/\DigAt w vn r.n/\DigAt w vd r.d
theorem RawAt.below {w w':World} {v:Value} {r:Raw} (h:RawAt w v r)(hb:Below w.heap.size w w'):RawAt w' v r:=by
 obtain ⟨vn,vd,e,h1,h2⟩:=h
 exact ⟨vn,vd,e,h1.below hb,h2.below hb⟩
theorem RawsAt.below {w w':World} {v:Value} {rs:List Raw} (h:RawsAt w v rs)(hb:Below w.heap.size w w'):RawsAt w' v rs:=by
 obtain ⟨cs,h1,h2⟩:=h
 refine ⟨cs,h1.below hb,fun i r hr=>?_⟩
 obtain ⟨vn,vd,e0,e1,e2,h3,h4⟩:=h2 i r hr
 exact ⟨vn,vd,e0,e1,e2,h3.below hb,h4.below hb⟩
theorem mj {l:List Nat} (h:l.length <= 1)(ho:Ok l):val l < 2 ^ 64:=by
 have h1:=de l ho
 have h2:4294967296 ^ l.length <= 4294967296 ^ 1:=Nat.pow_le_pow_right (by omega) h
 omega
theorem RawAt.frac {w:World} {v:Value} {r:Raw} (h:RawAt w v r)(ht:r.thin = true):FracAt 64 w v r.q:=by
 obtain ⟨vn,vd,e,h1,h2⟩:=h
 unfold Raw.thin at ht
 simp only [Bool.and_eq_true,decide_eq_true_eq] at ht
 exact ⟨r.neg,vn,vd,r.n,r.d,e,h1,h2,rfl,mj ht.1 h1.2,mj ht.2 h2.2,by omega,by omega⟩
theorem RawsAt.fracs {w:World} {v:Value} {rs:List Raw} (h:RawsAt w v rs)(ht:rs.all Raw.thin = true):FracsAt 64 w v (rs.map Raw.q):=by
 obtain ⟨cs,h1,h2⟩:=h
 refine ⟨cs,by rw [List.length_map]; exact h1,fun i q hq=>?_⟩
 rw [List.getElem?_map] at hq
 cases hr:rs[i]? with
 | none=>rw [hr] at hq; cases hq
 | some r =>
  rw [hr] at hq
  cases hq
  obtain ⟨vn,vd,e0,e1,e2,h3,h4⟩:=h2 i r hr
  exact ⟨_,_,_,e0,e1,e2,RawAt.frac ⟨vn,vd,rfl,h3,h4⟩ (List.all_eq_true.1 ht r (mG hr))⟩
theorem RawsAt.open_ {w:World} {v:Value} {rs:List Raw} (h:RawsAt w v rs):∃ A c,v = .slice A rs.length c/\rs.length <= c/\c <= 9223372036854775807 /\
  ∀ j r,rs[j]? = some r->∃ b off An nc Ad dc,A = some ⟨b,off,none⟩/\b < w.heap.size/\w.cell? ⟨b,off + j * 3,none⟩ = some (.bool r.neg)/\w.cell? ⟨b,off + j * 3 + 1,none⟩ = some (.slice An r.n.length nc)/\w.cell? ⟨b,off + j * 3 + 2,none⟩ = some (.slice Ad r.d.length dc):=by
 obtain ⟨cells,h1,h2⟩:=h
 obtain ⟨h0,A,c,rfl,hc,hm,h5⟩:=h1
 refine ⟨A,c,rfl,hc,by unfold maxLen at hm; omega,fun j x hx=>?_⟩
 have hj:=(sI.1 hx).1
 obtain ⟨b,off,e,hlt,hcell⟩:=h5 (by omega)
 obtain ⟨vn,vd,e0,e1,e2,h3,h4⟩:=h2 j x hx
 obtain ⟨_,An,nc,rfl,_⟩:=h3.open_
 obtain ⟨_,Ad,dc,rfl,_⟩:=h4.open_
 exact ⟨b,off,An,nc,Ad,dc,e,hlt,hcell _ _ e0,by have:=hcell _ _ e1; rwa [<- Nat.add_assoc] at this,by have:=hcell _ _ e2; rwa [<- Nat.add_assoc] at this⟩

def da (V:Int) (gs:List Gr) (a:Raw) (rs:List Raw):Bool:=df V gs && (decide (rs.length <= 8) && (a.thin && rs.all Raw.thin))

theorem wj (w:World) (O V:Int) (lv:Value) (gs:List Gr) (k:Int) (s:Bool) (A A':Option Addr) (m c m' c':Nat) (mv:Value) (a:Raw) (rs:List Raw)(h:GramsAt w lv gs)(ha:RawAt w (.agg #[.bool s,.slice A m c,.slice A' m' c']) a)(hm:RawsAt w mv rs) :
  Calls Tryz.prog 25 #[aG O V lv k s A A' m c m' c' mv] w fun e w'=>e = .returned (.bool (da V gs a rs))/\Below w.heap.size w w':=by
 obtain ⟨Al,cl,rfl,_,_,_⟩:=h.open_
 obtain ⟨Am,cm,rfl,hmc,hcm,hat⟩:=hm.open_
 have hal:m = a.n.length/\m' = a.d.length:=by
  obtain ⟨vn,vd,e,h1,h2⟩:=ha
  obtain ⟨_,An,nc,rfl,_⟩:=h1.open_
  obtain ⟨_,Ad,dc,rfl,_⟩:=h2.open_
  cases e
  exact ⟨rfl,rfl⟩
 have HG:=aH h
 have HAT:=aH hat
 obtain ⟨ml,hml⟩:=nm (rs.length)
 rw [hml] at hmc ⊢
 have HML:=aH hml
 have HM:Hd (a.n.length = m):=aH hal.1.symm
 have HM':Hd (a.d.length = m'):=aH hal.2.symm
 obtain ⟨sb,hsb⟩:=nm (df V gs)
 have HSB:=aH hsb
 clear h ha hm hat hml hal hsb
 unfold aG
 go_enter Tryz.func25,Tryz.ntmps25
 go_wp2_with fail
 obtain ⟨W,hW,P0,PB,Phs⟩:=aA w 43 [.int .i64 O,.int .i64 V,.slice Al gs.length cl,.int .i64 k,.bool s,.slice A m c,.slice A' m' c',.slice Am ml cm]
 rw [<- hW]
 clear hW
 obtain ⟨p0,p1,p2,p3,p4,p5,p6,p7⟩:=an P0.o
 go_wp2_with fail
 refine (vE W O V Al cl gs.length gs (HG.o.below PB.o) rfl).mono ?_
 rintro e w1 ⟨rfl,hb1⟩
 have P1:=aH (P0.o.below' hb1)
 have B1:=aH (PB.o.trans (hb1.mono PB.o.size))
 rw [HSB.o]
 clear p0 p1 p2 p3 p4 p5 p6 p7 hb1 P0 PB
 obtain ⟨p0,p1,p2,p3,p4,p5,p6,p7⟩:=an P1.o
 cases sb with
 | false =>
  have HT:Hd (da V gs a rs = false):=aH (by unfold da; rw [HSB.o]; rfl)
  go_wp2_with fail
  go_ret
  exact ⟨ai HT.o.symm,B1.o⟩
 | true =>
  by_cases h1:ml <= 8
  ·have d1:decide ((8:Int) < (ml:Int)) = false:=dF (by omega)
   by_cases h2:m <= 1
   ·have d2:decide ((1:Int) < (m:Int)) = false:=dF (by omega)
    by_cases h3:m' <= 1
    ·have d3:decide ((1:Int) < (m':Int)) = false:=dF (by omega)
     have HS:Hd (da V gs a rs = (rs.drop 0).all Raw.thin):=aH (by unfold da Raw.thin; rw [HSB.o,HML.o,HM.o,HM'.o,dT h1,dT h2,dT h3]; rfl)
     clear h2 h3
     go_wp2_with fail
     go_loopg [3] ml (fun g i wr=>∃ (j:Nat),wr = w1/\i = .int .i64 j/\j + g = ml/\Hd (da V gs a rs = (rs.drop j).all Raw.thin))
     case atStart=>exact ⟨0,rfl,rfl,by omega,HS⟩
     obtain ⟨j,rfl,rfl,hj,HQ⟩:=hrel
     rcases zP gk with h | h
     ·obtain rfl:j = ml:=by omega
      have HT:Hd (da V gs a rs = true):=aH (by rw [HQ.o,dN (by rw [HML.o]; exact nR _)]; rfl)
      go_wp2_with fail
      go_ret
      exact ⟨ai HT.o.symm,B1.o⟩
     obtain ⟨g,rfl⟩:∃ g,gk = g + 1:=⟨gk - 1,by omega⟩
     obtain ⟨x,hx⟩:∃ x,rs[j]? = some x:=⟨_,eG (by rw [HML.o]; omega)⟩
     obtain ⟨bm,om,An,nc,Ad,dc,rfl,hbm,e0,e1,e2⟩:=HAT.o j x hx
     have c0:=(B1.o.cell (p:=⟨bm,om + j * 3,none⟩) hbm).trans e0
     have c1:=(B1.o.cell (p:=⟨bm,om + j * 3 + 1,none⟩) hbm).trans e1
     have c2:=(B1.o.cell (p:=⟨bm,om + j * 3 + 2,none⟩) hbm).trans e2
     have ST:=aH (HQ.o.trans (nH hx))
     obtain ⟨p,hp⟩:=nm (x.n.length)
     obtain ⟨q,hq⟩:=nm (x.d.length)
     have HTH:Hd (x.thin = (decide (p <= 1) && decide (q <= 1))):=aH (by unfold Raw.thin; rw [hp,hq])
     rw [hp] at c1
     rw [hq] at c2
     clear hx e0 e1 e2 hp hq
     by_cases h3:p <= 1
     ·have d4:decide ((1:Int) < (p:Int)) = false:=dF (by omega)
      by_cases h4:q <= 1
      ·have d5:decide ((1:Int) < (q:Int)) = false:=dF (by omega)
       have HT:Hd (da V gs a rs = (rs.drop (j + 1)).all Raw.thin):=aH (by rw [ST.o,HTH.o,dT h3,dT h4]; rfl)
       clear h3 h4
       go_wp2_with fail
       go_roundg g
       case measure=>omega
       case rel=>exact ⟨j + 1,rfl,rfl,by omega,HT⟩
      have d5:decide ((1:Int) < (q:Int)) = true:=dT (by omega)
      have HT:Hd (da V gs a rs = false):=aH (by rw [ST.o,HTH.o,dF h4,Bool.and_false]; rfl)
      clear h3 h4
      go_wp2_with fail
      go_ret
      exact ⟨ai HT.o.symm,B1.o⟩
     have d4:decide ((1:Int) < (p:Int)) = true:=dT (by omega)
     have HT:Hd (da V gs a rs = false):=aH (by rw [ST.o,HTH.o,dF h3,Bool.false_and]; rfl)
     clear h3
     go_wp2_with fail
     go_ret
     exact ⟨ai HT.o.symm,B1.o⟩
    have d3:decide ((1:Int) < (m':Int)) = true:=dT (by omega)
    have HT:Hd (da V gs a rs = false):=aH (by unfold da Raw.thin; rw [HM'.o,dF h3]; simp)
    clear h2 h3
    go_wp2_with fail
    go_ret
    exact ⟨ai HT.o.symm,B1.o⟩
   have d2:decide ((1:Int) < (m:Int)) = true:=dT (by omega)
   have HT:Hd (da V gs a rs = false):=aH (by unfold da Raw.thin; rw [HM.o,dF h2]; simp)
   clear h2
   go_wp2_with fail
   go_ret
   exact ⟨ai HT.o.symm,B1.o⟩
  have d1:decide ((8:Int) < (ml:Int)) = true:=dT (by omega)
  have HT:Hd (da V gs a rs = false):=aH (by unfold da; rw [HML.o,dF h1]; simp)
  clear h1
  go_wp2_with fail
  go_ret
  exact ⟨ai HT.o.symm,B1.o⟩
end Go.Proofs.YtjebfdfkjlkifaaGreat
