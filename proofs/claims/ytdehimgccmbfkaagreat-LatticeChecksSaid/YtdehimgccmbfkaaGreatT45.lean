/- Lemmas on the way: Jk1, Jk2. -/
import Derived.Test.YtdehimgccmbfkaaGreatT44
set_option linter.all false
set_option maxRecDepth 1000000
set_option maxHeartbeats 32000000
namespace Go.Proofs.YtdehimgccmbfkaaGreat
open Go.RowKit
section
def capOk:AV->Bool
 | .sl _ _ n c=>Nat.ble n c
 | _=>true
def numsA:List AV->Option (List Int)
 | []=>some []
 | .i .i64 n :: l=>(numsA l).map (n :: ·)
 | _=>none
def intsA (s:St) (x:AV):Option (List Int):=match readsA s 1 x with
 | some l=>cond (capOk x) (numsA l) none
 | none=>none
def gramL (s:St):List AV->Option (List Gr)
 | []=>some []
 | x :: .i .i64 k :: l=>match intsA s x,gramL s l with
  | some g,some r=>some ((g,k) :: r)
  | _,_=>none
 | _=>none
def gramsA (s:St) (x:AV):Option (List Gr):=match readsA s 2 x with
 | some l=>cond (capOk x) (gramL s l) none
 | none=>none
def rat64 (x:AV):Option Rat:=(partsV x).bind fun p=>cond (Nat.blt p.2.1 (2 ^ 64) && Nat.blt p.2.2 (2 ^ 64)) (some (fracVal p.1 p.2.1 p.2.2)) none
def ratsL:List AV->Option (List Rat)
 | []=>some []
 | a :: b :: c :: l=>match rat64 (.agg [a,b,c]),ratsL l with
  | some q,some r=>some (q :: r)
  | _,_=>none
 | _=>none
def ratsA (s:St) (x:AV):Option (List Rat):=match readsA s 3 x with
 | some l=>cond (capOk x) (ratsL l) none
 | none=>none
def langS (s:St):AV->Option (Int × Int × List Gr × Int × Rat × List Rat)
 | .agg [.i .i64 O,.i .i64 V,lv,.i .i64 k,.b neg,x,y,mx]=>match gramsA s lv,rat64 (.agg [.b neg,x,y]),ratsA s mx with
  | some gs,some a,some mix=>cond (Nat.ble mix.length 1000000) (some (O,V,gs,k,a,mix)) none
  | _,_,_=>none
 | _=>none

section
variable {P:Program} {μ:Mu} {s:St} {w w':World}
theorem reads_sl (h:Rel μ s w) {z:Nat} (hz:0 < z) {x:AV} {v:Value} {l:List AV} (hx:readsA s z x = some l)(hv:VR μ x v)(hcap:capOk x = true):∃ n m,Sl w z v n m/\VRs μ l m/\l.length = n * z:=by
 obtain ⟨m,h1,_,h3⟩:=reads_run h hx hv (fun _ _ _ _ _=>.inr trivial)
 have hlen:=h1.length
 rcases h3 with ⟨rfl,rfl,rfl⟩ | ⟨o,off,n,c,c',p,rfl,hl,hm,rfl,hcell,hblk⟩ | ⟨c,n,cap,A,rfl,hl,rfl,g1,g2,g3⟩
 ·have:m = []:=List.eq_nil_of_length_eq_zero (by simpa using hlen.symm)
  subst this
  exact ⟨0,[],Sl.nil_ w z,h1,by simp⟩
 ·have hnc:n <= c:=by simpa [capOk] using hcap
  simp only [VR] at hv
  obtain ⟨p',c2,hm',e,k1,k2⟩:=hv
  rw [hm] at hm'
  cases hm'
  simp only [Value.slice.injEq,true_and] at e
  obtain ⟨_,rfl⟩:=e
  have hc:n <= c'/\c' < big:=by
   by_cases e:c < big
   ·rw [k1 e]; exact ⟨hnc,e⟩
   have:=k2 e; exact ⟨this.1,this.2.1⟩
  exact ⟨n,m,⟨by omega,_,c',rfl,hc.1,by have:=hc.2; unfold big at this; unfold maxLen; omega,fun _=>⟨p.blk,p.base + off,rfl,hblk,hcell⟩⟩,h1,hl⟩
 refine ⟨n,m,⟨by omega,A,cap,rfl,g1,g2,fun hn=>?_⟩,h1,hl⟩
 obtain ⟨b,base,e,k1,k2⟩:=g3 hn
 exact ⟨b,base,e,k2 hz,k1⟩
theorem numsA_at:∀ {l:List AV} {m:List Value} {ns:List Int},numsA l = some ns->VRs μ l m->m = ns.map (Value.int .i64)
 | [],m,ns,hx,hv=>by
  simp only [numsA,Option.some.injEq] at hx
  subst hx
  simp only [VRs] at hv
  subst hv
  rfl
 | x :: l,m,ns,hx,hv=>by
  obtain ⟨n,rfl⟩:∃ n,x = .i .i64 n:=by
   cases x with
   | i k n=>cases k with
    | i64=>exact ⟨n,rfl⟩
    | _=>simp [numsA] at hx
   | _=>simp [numsA] at hx
  simp only [numsA,Option.map_eq_some_iff] at hx
  obtain ⟨ns',h1,rfl⟩:=hx
  simp only [VRs,VR] at hv
  obtain ⟨y,ys,rfl,rfl,h2⟩:=hv
  rw [numsA_at h1 h2]
  rfl
theorem intsA_at (h:Rel μ s w) {x:AV} {v:Value} {ns:List Int} (hx:intsA s x = some ns)(hv:VR μ x v):IntsAt w v ns:=by
 unfold intsA at hx
 split at hx
 ·next l hl =>
  obtain ⟨hc,hx⟩:=cond_some hx
  obtain ⟨n,m,h1,h2,h3⟩:=reads_sl h (by omega) hl hv hc
  have e:=numsA_at hx h2
  subst e
  have hn:n = ns.length:=by have:=h2.length; simp at this; omega
  subst hn
  exact h1
 cases hx
theorem gramL_at (h:Rel μ s w):∀ {l:List AV} {m:List Value} {gs:List Gr},gramL s l = some gs->VRs μ l m->m.length = gs.length * 2/\∀ (i:Nat) (g:Gr),gs[i]? = some g->∃ c0,m[i * 2]? = some c0/\m[i * 2 + 1]? = some (.int .i64 g.2)/\IntsAt w c0 g.1
 | [],m,gs,hx,hv=>by
  simp only [gramL,Option.some.injEq] at hx
  subst hx
  simp only [VRs] at hv
  subst hv
  simp
 | [_],_,_,hx,_=>by simp [gramL] at hx
 | a :: b :: l,m,gs,hx,hv=>by
  obtain ⟨n,rfl⟩:∃ n,b = .i .i64 n:=by
   cases b with
   | i k n=>cases k with
    | i64=>exact ⟨n,rfl⟩
    | _=>simp [gramL] at hx
   | _=>simp [gramL] at hx
  simp only [gramL] at hx
  split at hx
  ·next g r hg hr =>
   simp only [Option.some.injEq] at hx
   subst hx
   simp only [VRs,VR] at hv
   obtain ⟨y0,_,rfl,g0,y1,m',rfl,rfl,hl⟩:=hv
   obtain ⟨k1,k2⟩:=gramL_at h hr hl
   refine ⟨by simp [k1]; omega,fun i g' hg'=>?_⟩
   cases i with
   | zero =>
    simp at hg'
    subst hg'
    exact ⟨y0,rfl,rfl,intsA_at h hg g0⟩
   | succ i =>
    obtain ⟨c0,e0,e1,e3⟩:=k2 i g' (by simpa using hg')
    refine ⟨c0,?_,?_,e3⟩
    ·rw [show (i + 1) * 2 = i * 2 + 1 + 1 by omega]; simpa using e0
    rw [show (i + 1) * 2 + 1 = i * 2 + 1 + 1 + 1 by omega]; simpa using e1
  cases hx
theorem gramsA_at (h:Rel μ s w) {x:AV} {v:Value} {gs:List Gr} (hx:gramsA s x = some gs)(hv:VR μ x v):GramsAt w v gs:=by
 unfold gramsA at hx
 split at hx
 ·next l hl =>
  obtain ⟨hc,hx⟩:=cond_some hx
  obtain ⟨n,m,h1,h2,h3⟩:=reads_sl h (by omega) hl hv hc
  obtain ⟨g1,g2⟩:=gramL_at h hx h2
  have hn:n = gs.length:=by have:=h2.length; omega
  subst hn
  exact ⟨m,h1,g2⟩
 cases hx
theorem rat64_at (h:Rel μ s w) {x:AV} {v:Value} {q:Rat} (hx:rat64 x = some q)(hv:VR μ x v):FracAt 64 w v q:=by
 unfold rat64 at hx
 simp only [Option.bind_eq_some_iff] at hx
 obtain ⟨⟨neg,n,d⟩,h1,h2⟩:=hx
 obtain ⟨hc,h2⟩:=cond_some h2
 cases h2
 simp only [Bool.and_eq_true,Nat.blt_eq] at hc
 unfold partsV at h1
 split at h1
 ·next neg' xn xd =>
  split at h1
  ·next n' d' hn hd =>
   obtain ⟨_,h1⟩:=cond_some h1
   cases h1
   simp only [VR,VRs] at hv
   obtain ⟨l,rfl,y0,_,rfl,rfl,y1,_,rfl,hv1,y2,_,rfl,hv2,rfl⟩:=hv
   obtain ⟨l1,a1,a2,a3⟩:=natV_at h hn hc.1 (by omega) hv1
   obtain ⟨l2,b1,b2,b3⟩:=natV_at h hd hc.2 (by omega) hv2
   exact ⟨neg,y1,y2,l1,l2,rfl,a1,b1,by rw [a2,b2],a2 ▸ hc.1,b2 ▸ hc.2,a3,b3⟩
  cases h1
 cases h1
theorem ratsL_at (h:Rel μ s w):∀ {l:List AV} {m:List Value} {qs:List Rat},ratsL l = some qs->VRs μ l m->m.length = qs.length * 3/\∀ (i:Nat) (q:Rat),qs[i]? = some q->∃ c0 c1 c2,m[i * 3]? = some c0/\m[i * 3 + 1]? = some c1/\m[i * 3 + 2]? = some c2/\FracAt 64 w (.agg #[c0,c1,c2]) q
 | [],m,qs,hx,hv=>by
  simp only [ratsL,Option.some.injEq] at hx
  subst hx
  simp only [VRs] at hv
  subst hv
  simp
 | [_],_,_,hx,_ | [_,_],_,_,hx,_=>by simp [ratsL] at hx
 | a :: b :: c :: l,m,qs,hx,hv=>by
  simp only [ratsL] at hx
  split at hx
  ·next q r hq hr =>
   simp only [Option.some.injEq] at hx
   subst hx
   simp only [VRs] at hv
   obtain ⟨y0,_,rfl,g0,y1,_,rfl,g1,y2,m',rfl,g2,hl⟩:=hv
   obtain ⟨k1,k2⟩:=ratsL_at h hr hl
   refine ⟨by simp [k1]; omega,fun i q' hq'=>?_⟩
   cases i with
   | zero =>
    simp at hq'
    subst hq'
    exact ⟨y0,y1,y2,rfl,rfl,rfl,rat64_at h hq (v:=.agg #[y0,y1,y2]) (by simp only [VR]; exact ⟨[y0,y1,y2],rfl,VRs.cons g0 (VRs.cons g1 (VRs.cons g2 VRs.nil_))⟩)⟩
   | succ i =>
    obtain ⟨c0,c1,c2,e0,e1,e2,e3⟩:=k2 i q' (by simpa using hq')
    refine ⟨c0,c1,c2,?_,?_,?_,e3⟩
    ·rw [show (i + 1) * 3 = i * 3 + 1 + 1 + 1 by omega]; simpa using e0
    ·rw [show (i + 1) * 3 + 1 = i * 3 + 1 + 1 + 1 + 1 by omega]; simpa using e1
    rw [show (i + 1) * 3 + 2 = i * 3 + 2 + 1 + 1 + 1 by omega]; simpa using e2
  cases hx
theorem ratsA_at (h:Rel μ s w) {x:AV} {v:Value} {qs:List Rat} (hx:ratsA s x = some qs)(hv:VR μ x v):FracsAt 64 w v qs:=by
 unfold ratsA at hx
 split at hx
 ·next l hl =>
  obtain ⟨hc,hx⟩:=cond_some hx
  obtain ⟨n,m,h1,h2,h3⟩:=reads_sl h (by omega) hl hv hc
  obtain ⟨g1,g2⟩:=ratsL_at h hx h2
  have hn:n = qs.length:=by have:=h2.length; omega
  subst hn
  exact ⟨m,h1,g2⟩
 cases hx
theorem langS_at (h:Rel μ s w) {x:AV} {v:Value} {O V:Int} {gs:List Gr} {k:Int} {a:Rat} {mix:List Rat} (hx:langS s x = some (O,V,gs,k,a,mix))(hv:VR μ x v) :
  ∃ lv b A A' m c m' c' mv,v = langV O V lv k b A A' m c m' c' mv/\LangAt w lv gs b A A' m c m' c' a mv mix:=by
 unfold langS at hx
 split at hx
 ·next O' V' lv k' neg x y mx =>
  split at hx
  ·next gs' a' mix' hg ha hm =>
   obtain ⟨hc,hx⟩:=cond_some hx
   simp only [Nat.ble_eq] at hc
   simp only [Option.some.injEq,Prod.mk.injEq] at hx
   obtain ⟨rfl,rfl,rfl,rfl,rfl,rfl⟩:=hx
   simp only [VR,VRs] at hv
   obtain ⟨l,rfl,y0,_,rfl,rfl,y1,_,rfl,rfl,y2,_,rfl,h2,y3,_,rfl,rfl,y4,_,rfl,rfl,y5,_,rfl,h5,y6,_,rfl,h6,y7,_,rfl,h7,rfl⟩:=hv
   have a1:=rat64_at h ha (v:=.agg #[.bool neg,y5,y6]) (by simp only [VR]; exact ⟨[_,y5,y6],rfl,VRs.cons (by simp [VR]) (VRs.cons h5 (VRs.cons h6 VRs.nil_))⟩)
   obtain ⟨s',A,n,cn,A',n',cn',e1,rfl,rfl⟩:=a1.cells3
   exact ⟨y2,neg,A,A',n,cn,n',cn',y7,rfl,gramsA_at h hg h2,a1,ratsA_at h hm h7,hc⟩
  cases hx
 cases hx

def gcheckS (args:List AV) (s:St):Option (AV × St) :=
 match args with
 | [x]=>(langS s x).map fun (O,V,gs,k,a,mix)=>(.i .i64 (checkE O V gs k a mix),s)
 | _=>none
theorem gcheck_ok {f:FuncId} (hco:enterOk P f = true)(hC:∀ (w:World) (O V:Int) (lv:Value) (gs:List Gr) (k:Int) (s:Bool) (A A':Option Addr) (m c m' c':Nat) (mv:Value) (a:Rat) (mix:List Rat),LangAt w lv gs s A A' m c m' c' a mv mix->Calls P f #[langV O V lv k s A A' m c m' c' mv] w fun e w'=>e = .returned (.int .i64 (checkE O V gs k a mix))/\Below w.heap.size w w'):Answers P f gcheckS:=by
 intro args s v s' h
 unfold gcheckS at h
 split at h
 ·next x =>
  simp only [Option.map_eq_some_iff] at h
  obtain ⟨⟨O,V,gs,k,a,mix⟩,hq,h⟩:=h
  simp only [Prod.mk.injEq] at h
  obtain ⟨rfl,rfl⟩:=h
  refine ⟨⟨callOk_of hco,Nat.le_refl _,id⟩,?_⟩
  intro μ w vs n hR hvs hF
  simp only [VRs] at hvs
  obtain ⟨y,_,rfl,ha,rfl⟩:=hvs
  obtain ⟨lv,b,A,A',m,c,m',c',mv,rfl,hL⟩:=langS_at hR hq ha
  exact ret_val hR (by simp [VR]) (hC w O V lv gs k b A A' m c m' c' mv a mix hL)
 cases h
theorem num_vrD {μ':Mu} {n:Nat} {v:Value} (hn:∀ b i u,w'.cell? ⟨b,i,none⟩ = some u->noDig u = false->μ'.fz b i = some u)(h:NatAt w' v n):VR μ' (.num n) v:=by
 obtain ⟨l,⟨⟨h0,A,c,rfl,h1,h2,h3⟩,h4⟩,h5,h6⟩:=h
 simp only [VR]
 refine ⟨l,h5,h6,h4,A,c,rfl,h1,h2,fun hpos=>?_⟩
 obtain ⟨b,off,rfl,hlt,hc⟩:=h3 hpos
 refine ⟨b,off,rfl,fun i u hu=>hn _ _ _ (hc i u hu) ?_⟩
 rw [List.getElem?_map,Option.map_eq_some_iff] at hu
 obtain ⟨d,_,rfl⟩:=hu
 rfl
theorem can_vrD {μ':Mu} {q:Rat} {s:Bool} {x y:Value} (hn:∀ b i u,w'.cell? ⟨b,i,none⟩ = some u->noDig u = false->μ'.fz b i = some u)(h:CanAt w' (.agg #[.bool s,x,y]) q):VRs μ' (fcells q) [.bool s,x,y]:=by
 obtain ⟨vn,vd,e,h1,h2⟩:=h
 simp only [Value.agg.injEq] at e
 have e:[Value.bool s,x,y] = [.bool (isNeg q),vn,vd]:=by simpa using congrArg Array.toList e
 rw [e]
 exact VRs.cons (by simp [VR]) (VRs.cons (num_vrD hn h1) (VRs.cons (num_vrD hn h2) VRs.nil_))
theorem frc_vr {μ':Mu} {B b:Nat} {qs:List Rat} (hn:∀ b i u,B <= b->w'.cell? ⟨b,i,none⟩ = some u->μ'.fz b i = some u)(hd:∀ b i u,w'.cell? ⟨b,i,none⟩ = some u->noDig u = false->μ'.fz b i = some u)(h:FArc w' b qs)(hb:B <= b)(hl:qs.length <= maxLen) :
  VR μ' (.vw (fr qs) qs.length) (.slice (some ⟨b,0,none⟩) qs.length qs.length):=by
 obtain ⟨xs,h1,h2,h3,h4⟩:=h
 simp only [VR]
 refine ⟨xs,⟨_,_,rfl,Nat.le_refl _,hl,fun _=>⟨b,0,rfl,fun i v hi=>hn _ _ _ hb (by rw [Nat.zero_add,h1.cell]; exact hi)⟩⟩,?_⟩
 refine VRs.of_get (by rw [fr_len,h2]) fun i x hx=>?_
 have hi:=(List.getElem?_eq_some_iff.1 hx).1
 rw [fr_len] at hi
 obtain ⟨q,hq⟩:∃ q,qs[i / 3]? = some q:=⟨_,List.getElem?_eq_getElem (by omega)⟩
 obtain ⟨A,m,c,A',m',c',e0,e1,e2,e3⟩:=h4 _ q hq
 have hv:=can_vrD (μ':=μ'.blind) (fun b i u a c=>hd b i u a c) e3
 have hx':(fcells q)[i % 3]? = some x:=by
  rw [<- hx,show i = i / 3 * 3 + i % 3 by omega]
  have:=flatMap_at fcells_len qs (i / 3) (i % 3) (Nat.mod_lt _ (by omega))
  rw [hq] at this
  rw [show (i / 3 * 3 + i % 3) % 3 = i % 3 by omega]
  exact this.symm
 obtain ⟨y,hy,hvy⟩:=hv.get hx'
 refine ⟨y,?_,hvy⟩
 rw [<- hy]
 have:i % 3 = 0 ∨ i % 3 = 1 ∨ i % 3 = 2:=by omega
 rcases this with e | e | e
 ·rw [e,show i = i / 3 * 3 by omega,e0]; rfl
 ·rw [e,show i = i / 3 * 3 + 1 by omega,e1]; rfl
 rw [e,show i = i / 3 * 3 + 2 by omega,e2]; rfl
def growW (ok:Int->Bool) (row:Int->Nat->List Gr->Nat->Rat->List Rat->List Int->List Rat) (args:List AV) (s:St):Option (AV × St) :=
 match args with
 | [x,y]=>match langS s x,intsA s y with
  | some (O,V,gs,k,a,mix),some hl =>
   cond (decide (0 <= O) && decide (0 <= V) && decide (V <= 8) && ok k && decide (histE O V gs k a mix hl = 0))
    (some (.tup [.vw (fr (row k O.toNat gs V.toNat a mix hl)) (V.toNat + 1),.i .i64 0],s)) none
  | _,_=>none
 | _=>none
theorem growW_ok {f:FuncId} (hco:enterOk P f = true) {ok:Int->Bool} {row:Int->Nat->List Gr->Nat->Rat->List Rat->List Int->List Rat} (hlen:∀ k O gs v a mix hl,(row k O gs v a mix hl).length = v + 1)
  (hC:∀ (w:World) (O v:Nat) (lv:Value) (gs:List Gr) (k:Int) (s:Bool) (A A':Option Addr) (m c m' c':Nat) (mv:Value) (a:Rat) (mix:List Rat)(hv:Value)(hl:List Int),ok k = true->LangAt w lv gs s A A' m c m' c' a mv mix->IntsAt w hv hl->histE O v gs k a mix hl = 0->v <= 8 ->
  Calls P f #[langV O v lv k s A A' m c m' c' mv,hv] w (RowOk w v (row k O gs v a mix hl))):Answers P f (growW ok row):=by
 intro args s v s' h
 unfold growW at h
 split at h
 ·next x y =>
  split at h
  ·next O V gs k a mix hl hq hi =>
   obtain ⟨hc,h1⟩:=cond_some h
   clear h
   simp only [Bool.and_eq_true,decide_eq_true_eq] at hc
   obtain ⟨⟨⟨⟨c1,c2⟩,c3⟩,ck⟩,c5⟩:=hc
   simp only [Option.some.injEq,Prod.mk.injEq] at h1
   obtain ⟨rfl,rfl⟩:=h1
   refine ⟨⟨callOk_of hco,Nat.le_refl _,id⟩,?_⟩
   intro μ w vs n hR hvs hF
   simp only [VRs] at hvs
   obtain ⟨x',_,rfl,ha,y',_,rfl,hb,rfl⟩:=hvs
   obtain ⟨lv,b,A,A',m,c,m',c',mv,rfl,hL⟩:=langS_at hR hq ha
   have hI:=intsA_at hR hi hb
   obtain ⟨O,rfl⟩:=Int.eq_ofNat_of_zero_le c1
   obtain ⟨V,rfl⟩:=Int.eq_ofNat_of_zero_le c2
   simp only [Int.toNat_natCast] at hF ⊢
   refine CallsIn.mono (callsIn_wide.2 (hC w O V lv gs k b A A' m c m' c' mv a mix y' hl ck hL hI c5 (by omega))) ?_
   rintro e w' ⟨b',rfl,h1,h2,h3⟩
   have hl':=hlen k O gs V a mix hl
   obtain ⟨μ',r,t,n1,_,d1⟩:=freeze_newD hR h3
   have hv:=frc_vr n1 d1 h2 h1 (by rw [hl']; unfold maxLen; omega)
   rw [hl'] at hv
   exact ⟨_,μ',rfl,r,t,by simp only [VR]; exact ⟨[_,.int .i64 0],rfl,VRs.cons hv (VRs.cons (by simp [VR]) VRs.nil_)⟩⟩
  cases h
 cases h
end
theorem ansGcheck:Answers Tryz.prog 127 gcheckS:=gcheck_ok (by kernel_rfl) checkLG
def oneB (k:Int):Bool:=decide (k = 1)
def addedW (_:Int) (O:Nat) (gs:List Gr) (v:Nat) (a:Rat) (_:List Rat)(hl:List Int):List Rat:=addedQ (totN O gs O hl) v a
theorem ansGrowAdd:Answers Tryz.prog 145 (growW oneB addedW):=growW_ok (by kernel_rfl) (fun _ _ _ _ _ _ _=>by simp [addedW,addedQ]) fun w O v lv gs k s A A' m c m' c' mv a mix hv hl hk h1 h2 h3 h4=>by
 have hk:=of_decide_eq_true hk
 subst hk
 exact rowAdded w O v lv gs s A A' m c m' c' mv a mix hv hl h1 h2 h3 h4
end
section
def ratsV:List AV->Option (List Rat)
 | []=>some []
 | a :: b :: c :: l=>match ratV (.agg [a,b,c]),ratsV l with
  | some q,some r=>some (q :: r)
  | _,_=>none
 | _=>none
def ratsS (s:St) (x:AV):Option (List Rat):=match readsA s 3 x with
 | some l=>cond (capOk x) (ratsV l) none
 | none=>none
section
variable {P:Program} {μ:Mu} {s:St} {w w':World}
theorem ratsV_at (h:Rel μ s w):∀ {l:List AV} {m:List Value} {qs:List Rat},ratsV l = some qs->VRs μ l m->m.length = qs.length * 3/\∀ (i:Nat) (q:Rat),qs[i]? = some q->∃ c0 c1 c2,m[i * 3]? = some c0/\m[i * 3 + 1]? = some c1/\m[i * 3 + 2]? = some c2/\FracAt lim w (.agg #[c0,c1,c2]) q
 | [],m,qs,hx,hv=>by
  simp only [ratsV,Option.some.injEq] at hx
  subst hx
  simp only [VRs] at hv
  subst hv
  simp
 | [_],_,_,hx,_ | [_,_],_,_,hx,_=>by simp [ratsV] at hx
 | a :: b :: c :: l,m,qs,hx,hv=>by
  simp only [ratsV] at hx
  split at hx
  ·next q r hq hr =>
   simp only [Option.some.injEq] at hx
   subst hx
   simp only [VRs] at hv
   obtain ⟨y0,_,rfl,g0,y1,_,rfl,g1,y2,m',rfl,g2,hl⟩:=hv
   obtain ⟨k1,k2⟩:=ratsV_at h hr hl
   refine ⟨by simp [k1]; omega,fun i q' hq'=>?_⟩
   cases i with
   | zero =>
    simp at hq'
    subst hq'
    exact ⟨y0,y1,y2,rfl,rfl,rfl,ratV_at h hq (v:=.agg #[y0,y1,y2]) (by simp only [VR]; exact ⟨[y0,y1,y2],rfl,VRs.cons g0 (VRs.cons g1 (VRs.cons g2 VRs.nil_))⟩) lim_k.1 lim_k.2⟩
   | succ i =>
    obtain ⟨c0,c1,c2,e0,e1,e2,e3⟩:=k2 i q' (by simpa using hq')
    refine ⟨c0,c1,c2,?_,?_,?_,e3⟩
    ·rw [show (i + 1) * 3 = i * 3 + 1 + 1 + 1 by omega]; simpa using e0
    ·rw [show (i + 1) * 3 + 1 = i * 3 + 1 + 1 + 1 + 1 by omega]; simpa using e1
    rw [show (i + 1) * 3 + 2 = i * 3 + 2 + 1 + 1 + 1 by omega]; simpa using e2
  cases hx
theorem ratsS_at (h:Rel μ s w) {x:AV} {v:Value} {qs:List Rat} (hx:ratsS s x = some qs)(hv:VR μ x v):FracsAt lim w v qs:=by
 unfold ratsS at hx
 split at hx
 ·next l hl =>
  obtain ⟨hc,hx⟩:=cond_some hx
  obtain ⟨n,m,h1,h2,h3⟩:=reads_sl h (by omega) hl hv hc
  obtain ⟨g1,g2⟩:=ratsV_at h hx h2
  have hn:n = qs.length:=by have:=h2.length; omega
  subst hn
  exact ⟨m,h1,g2⟩
 cases hx
def prodS (args:List AV) (s:St):Option (AV × St) :=
 match args with
 | [x]=>(ratsS s x).bind fun qs=>cond (Nat.ble qs.length 7) (some (fq (prodQ qs),s)) none
 | _=>none
theorem prod_ok {f:FuncId} (hco:enterOk P f = true)(hC:∀ w k v qs,FracsAt k w v qs->0 < k->(qs.length + 1) * (2 * k) <= 4398046511104->Calls P f #[v] w fun e w'=>∃ u,e = .returned u/\CanNew w.heap.size w' u (prodQ qs)/\Below w.heap.size w w'):Answers P f prodS:=by
 intro args s v s' h
 unfold prodS at h
 split at h
 ·next x =>
  simp only [Option.bind_eq_some_iff] at h
  obtain ⟨qs,hq,h⟩:=h
  obtain ⟨hc,h⟩:=cond_some h
  simp only [Nat.ble_eq] at hc
  simp only [Option.some.injEq,Prod.mk.injEq] at h
  obtain ⟨rfl,rfl⟩:=h
  refine ⟨⟨callOk_of hco,Nat.le_refl _,id⟩,?_⟩
  intro μ w vs n hR hvs hF
  simp only [VRs] at hvs
  obtain ⟨y,_,rfl,ha,rfl⟩:=hvs
  refine ret_frac hR (hC w lim y qs (ratsS_at hR hq ha) (by unfold lim; omega) ?_)
  have:(qs.length + 1) * (2 * lim) <= 8 * (2 * lim):=Nat.mul_le_mul_right _ (by omega)
  refine Nat.le_trans this ?_
  unfold lim
  omega
 cases h
end
theorem ansProd:Answers Tryz.prog 144 prodS:=prod_ok (by kernel_rfl) fun w k v qs h h0 hk=>prodF w k v qs h h0 hk
theorem ansSub:Answers Tryz.prog 98 (pureA (bin2V (· - ·))):=bin2_ok (by kernel_rfl) _ subFr

def orcK:List (FuncId × (List AV->St->Option (AV × St))) :=
 [(86,pureA (bin2V (· + ·))),(93,pureA (bin2V (· * ·))),(98,pureA (bin2V (· - ·))),(97,pureA divV),(92,pureA ofV),(103,pureA (canonV id)),(91,pureA signV),(101,pureA cmpV),(144,prodS),
  (67,pureA makeV),(24,pureA ofV),(23,pureA sameV),(27,pureA signV),(127,gcheckS),(145,growW oneB addedW)]
theorem orcK_ok:∀ p ∈ orcK,Answers Tryz.prog p.1 p.2:=by
 unfold orcK
 simp only [List.forall_mem_cons]
 exact ⟨ansAdd,ansMul,ansSub,ansDiv,ansOf,ansCanon,ansSign,ansCmp,ansProd,ansMakeR,ansOfR,ansSameR,ansSignR,ansGcheck,ansGrowAdd,fun p h=>by cases h⟩
def methL (t:TypeId) (m:String):Option (FuncId × Via) :=
 cond (Nat.beq t 210) (match m with
  | "Len"=>some (158,.deref 212)
  | "Less"=>some (249,.deref 212)
  | "Swap"=>some (252,.deref 212)
  | "Push"=>some (251,.same)
  | "Pop"=>some (250,.same)
  | _=>none) none
def envK:Env:=⟨fun f=>pick f orcK,methL⟩
theorem orcK_env:OrcOk Tryz.prog envK:=fun {f g} h=>pick_ok orcK_ok h
theorem mPush (v:Value) (w:World):(method 426 210 v "Push").run Tryz.prog w = .ok (251,v) w:=by kernel_rfl
theorem mPop (v:Value) (w:World):(method 426 210 v "Pop").run Tryz.prog w = .ok (250,v) w:=by kernel_rfl
theorem chk_nil (ts:Array TypeId) (t:TypeId) (a:Addr) (m:String):Builtin.ssaWrapNilChk_ ts t #[.pointer (some a),strVal "",strVal m] = pure (.pointer (some a)):=rfl
def derefOk (P:Program) (t:TypeId) (m:String) (f:FuncId) (e:TypeId):Bool :=
 match P.info? t,P.underlying t with
 | some i,some (.pointer e')=>match i.methods.find? (·.name == m) with
  | some r=>Nat.beq e e' && r.path.isEmpty && (match r.func with
   | some (g,b)=>Nat.beq f g && !b
   | none=>false)
  | none=>false
 | _,_=>false
theorem deref_meth {P:Program} {t:TypeId} {m:String} {f:FuncId} {e:TypeId} (h:derefOk P t m f e = true) (b off:Nat) (w:World) :
  (method (P.types.size + Made.depth) t (.pointer (some ⟨b,off,none⟩)) m).run P w = ((loadVar e ⟨b,off,none⟩).run P w).andThen fun v w'=>.ok (f,v) w':=by
 unfold derefOk at h
 split at h
 ·next i e' hi hu =>
  split at h
  ·next r hr =>
   simp only [Bool.and_eq_true] at h
   obtain ⟨⟨h1,h2⟩,h3⟩:=h
   have h1:=Nat.eq_of_beq_eq_true h1
   subst h1
   split at h3
   ·next g b' hf =>
    simp only [Bool.and_eq_true,Bool.not_eq_true'] at h3
    obtain ⟨h3,rfl⟩:=h3
    have h3:=Nat.eq_of_beq_eq_true h3
    subst h3
    have hd:P.types.size + Made.depth = (P.types.size + (Made.depth - 1)) + 1:=by
     have:Made.depth = (Made.depth - 1) + 1:=by decide
     omega
    have hp:r.path = #[]:=by simpa using h2
    have hti:(typeInfo t).run P w = .ok i w:=by simp [typeInfo,hi]
    rw [hd,method]
    simp only [Sem.run_bind,hti,Result.andThen_ok,hr,hp,hf,List.toArray,follow,Sem.run_pure,receiverAt,run_underlying hu,Place.get,chk_nil,asAddr,Array.isEmpty_empty,if_true,Array.toList_empty]
   cases h3
  cases h
 cases h
theorem fuelE:Tryz.prog.types.size + Made.depth = 426:=by kernel_rfl
theorem methK_ok:MethOk Tryz.prog envK:=by
 intro t m f via h
 simp only [envK,methL] at h
 obtain ⟨ht,h1⟩:=cond_some h
 clear h
 have ht:=Nat.eq_of_beq_eq_true ht
 subst ht
 split at h1
 ·simp only [Option.some.injEq,Prod.mk.injEq] at h1; obtain ⟨rfl,rfl⟩:=h1; exact deref_meth (by kernel_rfl)
 ·simp only [Option.some.injEq,Prod.mk.injEq] at h1; obtain ⟨rfl,rfl⟩:=h1; exact deref_meth (by kernel_rfl)
 ·simp only [Option.some.injEq,Prod.mk.injEq] at h1; obtain ⟨rfl,rfl⟩:=h1; exact deref_meth (by kernel_rfl)
 ·simp only [Option.some.injEq,Prod.mk.injEq] at h1; obtain ⟨rfl,rfl⟩:=h1; rw [fuelE]; exact mPush
 ·simp only [Option.some.injEq,Prod.mk.injEq] at h1; obtain ⟨rfl,rfl⟩:=h1; rw [fuelE]; exact mPop
 cases h1
end
end Go.Proofs.YtdehimgccmbfkaaGreat
