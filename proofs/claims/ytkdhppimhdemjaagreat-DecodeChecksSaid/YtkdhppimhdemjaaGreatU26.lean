/- Lemmas on the way: Jn1. -/
import Derived.Test.YtkdhppimhdemjaaGreatU25
set_option linter.all false
set_option maxRecDepth 1000000
set_option maxHeartbeats 32000000
namespace Go.Proofs.YtkdhppimhdemjaaGreat
open Go.RowKit
section
def lY:List AV->Option (List Nat)
 | []=>some []
 | .i .u32 (.ofNat d) :: l=>cond (Nat.blt d 4294967296) ((lY l).map (d :: ·)) none
 | _=>none
def FS:AV->Option (List Nat)
 | .snil=>some []
 | .vw c n=>match lY c with
  | some l=>cond (Nat.beq l.length n && Nat.ble n 17592186044416) (some l) none
  | none=>none
 | _=>none
def sf:AV->Option Nat
 | .num n=>some n
 | x=>(FS x).map val
def mf:Nat:=274877906944
def qz (q:Rat):Nat:=max (Nat.log2 q.num.natAbs) (Nat.log2 q.den) + 1
def n8 (n d:Nat):Bool:=Nat.ble (max (Nat.log2 n) (Nat.log2 d) + 1) mf
def kh:AV->Option (Bool × Nat × Nat)
 | .agg [.b neg,n,d]=>match sf n,sf d with
  | some n,some d=>cond (n8 n d) (some (neg,n,d)) none
  | _,_=>none
 | _=>none
def jp (x:AV):Option Rat:=(kh x).map fun p=>bX p.1 p.2.1 p.2.2
def zl (q:Rat):Nat:=if q.den = 1 then 0 else q.den
def gN (q:Rat):List AV:=[.b (ap q),.num q.num.natAbs,.num (zl q)]
def fq (q:Rat):AV:=.agg (gN q)
def Ju:AV->Option Rat
 | .agg [.b neg,n,d]=>match (match n with | .num n=>some n | .snil=>some 0 | _=>none),(match d with | .num d=>some d | .snil=>some 0 | _=>none) with
  | some n,some d=>cond ((neg == ap (bX neg n d)) && Nat.beq n (bX neg n d).num.natAbs && Nat.beq d (zl (bX neg n d))) (some (bX neg n d)) none
  | _,_=>none
 | _=>none

theorem Iz (n:Nat):n < 2 ^ (Nat.log2 n + 1):=Nat.lt_log2_self
theorem log2_lt {n k:Nat} (h:n < 2 ^ k)(hk:0 < k):Nat.log2 n + 1 <= k:=by
 by_cases h0:n = 0
 ·subst h0; rw [show Nat.log2 0 = 0 from rfl]; omega
 exact (Nat.log2_lt h0).2 h
theorem MZ {q:Rat} {k:Nat} (h:QB k q):qz q <= k:=by
 have hk:0 < k:=by
  rcases Nat.eq_zero_or_pos k with e | e
  ·subst e; have:=h.2; have:=q.den_pos; simp at *; omega
  exact e
 have h1:=log2_lt h.1 hk
 have h2:=log2_lt h.2 hk
 unfold qz; omega
theorem KV (n:Nat)(h:n < 9223372036854775808):qz (n:Rat) <= 63:=MZ (eX (by simpa using h) (by omega))

theorem u6 (q:Rat):bX (ap q) q.num.natAbs (zl q) = q:=by
 unfold bX zl
 have h1:(if (if q.den = 1 then 0 else q.den) = 0 then 1 else (if q.den = 1 then 0 else q.den)) = q.den:=by
  have:=q.den_pos
  by_cases e:q.den = 1
  ·simp [e]
  rw [if_neg e,if_neg (by omega)]
 rw [h1]
 rw [<- f6]
 exact Rat.mkRat_self q
theorem CF (q:Rat):Nat.log2 (zl q) = Nat.log2 q.den:=by
 unfold zl
 by_cases e:q.den = 1
 ·rw [if_pos e,e]; rfl
 rw [if_neg e]
theorem Ia {q:Rat} (h:qz q <= mf):jp (fq q) = some q:=by
 have hs:n8 q.num.natAbs (zl q) = true:=by
  unfold n8
  rw [CF,Nat.ble_eq]
  exact h
 simp only [jp,fq,gN,kh,sf,hs,cond_true,Option.map_some,u6]
section
variable {P:Program} {μ:Mu} {s:St} {w w':World}
theorem ve (l:List Nat):∀ u ∈ l.map dg,yB u = false:=fun u hu=>by obtain ⟨d,_,rfl⟩:=List.mem_map.1 hu; rfl
theorem Ft (h:bA μ s w) {n:Nat} {cs:List Value} {v:Value} (hf:Kw μ n cs v)(hl:cs.length = n)(hm:∀ u ∈ cs,yB u = false):Sl w 1 v n cs:=by
 obtain ⟨A,cap,rfl,h1,h2,h3⟩:=hf
 refine ⟨by omega,A,cap,rfl,h1,h2,fun hn=>?_⟩
 obtain ⟨b,base,rfl,h4⟩:=h3 hn
 obtain ⟨u,hu⟩:∃ u,cs[0]? = some u:=⟨_,List.getElem?_eq_getElem (by omega)⟩
 exact ⟨b,base,rfl,(h.fz _ _ _ (h4 0 u hu)).1,fun j u hu=>d8 (h.fz _ _ _ (h4 j u hu)).2.1 (hm u (List.mem_of_getElem? hu))⟩
theorem xK:∀ {c:List AV} {l:List Nat} {cs:List Value},lY c = some l->ao μ c cs->cs = l.map dg/\Ok l
 | [],l,cs,h,hv=>by
  simp only [lY,Option.some.injEq] at h
  subst h
  simp only [ao] at hv
  subst hv
  exact ⟨rfl,fun d hd=>by cases hd⟩
 | x :: c,l,cs,h,hv=>by
  obtain ⟨d,rfl⟩:∃ d,x = .i .u32 (.ofNat d):=by
   cases x with
   | i k n=>cases k <;> first | (cases n with | ofNat d=>exact ⟨d,rfl⟩ | negSucc d=>simp [lY] at h) | (simp [lY] at h; done)
   | _=>simp [lY] at h
  simp only [lY] at h
  obtain ⟨hd,h⟩:=aj h
  simp only [Option.map_eq_some_iff] at h
  obtain ⟨l',h1,rfl⟩:=h
  simp only [ao,VR] at hv
  obtain ⟨y,ys,rfl,rfl,h2⟩:=hv
  obtain ⟨e,hok⟩:=xK h1 h2
  subst e
  rw [Nat.blt_eq] at hd
  refine ⟨rfl,fun d' hd'=>?_⟩
  rcases List.mem_cons.1 hd' with rfl | hd'
  ·exact hd
  exact hok d' hd'
theorem Jk (h:bA μ s w) {x:AV} {v:Value} {l:List Nat} (hx:FS x = some l)(hv:VR μ x v):bW w v l/\l.length <= 17592186044416:=by
 cases x <;> simp only [FS] at hx <;> try cases hx
 case snil=>simp only [VR] at hv; subst hv; exact ⟨bW.nil_ w,Nat.zero_le _⟩
 case vw c n =>
  split at hx
  ·next l' hl =>
   obtain ⟨hc,hx⟩:=aj hx
   cases hx
   simp only [Bool.and_eq_true,Nat.beq_eq,Nat.ble_eq] at hc
   simp only [VR] at hv
   obtain ⟨cs,h1,h2⟩:=hv
   obtain ⟨rfl,hok⟩:=xK hl h2
   rw [<- hc.1] at h1
   exact ⟨⟨Ft h h1 (by simp) (ve _),hok⟩,by omega⟩
  cases hx
theorem E3 (h:bA μ s w) {n:Nat} {v:Value} (hv:VR μ (.num n) v):ab w v n:=by
 simp only [VR] at hv
 obtain ⟨l,h1,h2,h3,h4⟩:=hv
 exact ⟨l,⟨Ft h h4 (by simp) (ve _),h3⟩,h1,h2⟩
theorem qf (h:bA μ s w) {x:AV} {v:Value} {n:Nat} (hx:sf x = some n) {k:Nat} (hn:n < 2 ^ k)(hk:k <= 281474976710656)(hv:VR μ x v):∃ l,bW w v l/\val l = n/\l.length <= 17592186044416:=by
 by_cases e:∃ m,x = .num m
 ·obtain ⟨m,rfl⟩:=e
  simp only [sf,Option.some.injEq] at hx
  subst hx
  obtain ⟨l,h1,h2,h3⟩:=E3 h hv
  refine ⟨l,h1,h3,?_⟩
  have:=h2.length_le (h3.symm ▸ hn)
  omega
 have:sf x = (FS x).map val:=by cases x <;> first | rfl | exact absurd ⟨_,rfl⟩ e
 rw [this] at hx
 simp only [Option.map_eq_some_iff] at hx
 obtain ⟨l,h1,rfl⟩:=hx
 obtain ⟨h2,h3⟩:=Jk h h1 hv
 exact ⟨l,h2,rfl,h3⟩
theorem pY {n k:Nat} (h:Nat.log2 n + 1 <= k):n < 2 ^ k:=Nat.lt_of_lt_of_le (Iz n) (Nat.pow_le_pow_right (by omega) h)
theorem jo (h:bA μ s w) {x:AV} {v:Value} {q:Rat} (hx:jp x = some q)(hv:VR μ x v) {k:Nat} (hk:mf <= k)(hk2:k <= 281474976710656):az k w v q:=by
 unfold jp at hx
 simp only [Option.map_eq_some_iff] at hx
 obtain ⟨⟨neg,n,d⟩,h1,rfl⟩:=hx
 unfold kh at h1
 split at h1
 ·next neg' xn xd =>
  split at h1
  ·next n' d' hn hd =>
   obtain ⟨hc,h1⟩:=aj h1
   cases h1
   unfold n8 at hc
   rw [Nat.ble_eq] at hc
   simp only [VR,ao] at hv
   obtain ⟨l,rfl,y0,_,rfl,rfl,y1,_,rfl,hv1,y2,_,rfl,hv2,rfl⟩:=hv
   obtain ⟨l1,a1,a2,a3⟩:=qf h hn (pY (k:=k) (by omega)) hk2 hv1
   obtain ⟨l2,b1,b2,b3⟩:=qf h hd (pY (k:=k) (by omega)) hk2 hv2
   exact ⟨neg,y1,y2,l1,l2,rfl,a1,b1,by rw [a2,b2],a2 ▸ pY (by omega),b2 ▸ pY (by omega),a3,b3⟩
  cases h1
 cases h1
theorem Bt (h:bA μ s w) {x:AV} {v:Value} {q:Rat} (hx:Ju x = some q)(hv:VR μ x v):cJ w v q:=by
 have one:∀ {x:AV} {n:Nat} {v:Value},(match x with | .num n=>some n | .snil=>some 0 | _=>none) = some n->VR μ x v->ab w v n:=by
  intro x n v hx hv
  cases x <;> simp only at hx <;> try cases hx
  ·simp only [VR] at hv; subst hv; exact ab.nil_ w
  exact E3 h hv
 unfold Ju at hx
 split at hx
 ·next neg xn xd =>
  split at hx
  ·next n d hn hd =>
   obtain ⟨hc,hx⟩:=aj hx
   simp only [Bool.and_eq_true,beq_iff_eq,Nat.beq_eq] at hc
   obtain ⟨⟨c1,c2⟩,c3⟩:=hc
   simp only [VR,ao] at hv
   obtain ⟨l,rfl,y0,_,rfl,rfl,y1,_,rfl,hv1,y2,_,rfl,hv2,rfl⟩:=hv
   simp only [Option.some.injEq] at hx
   rw [hx] at c1 c2 c3
   exact ⟨y1,y2,by rw [c1],c2 ▸ one hn hv1,(show d = (if q.den = 1 then 0 else q.den) from c3) ▸ one hd hv2⟩
  cases hx
 cases hx
theorem E2 {μ':Mu} {B n:Nat} {v:Value} (hn:∀ b i u,B <= b->w'.cell? ⟨b,i,none⟩ = some u->yB u = false->μ'.fz b i = some u)(h:ab w' v n)(hf:bf v B):VR μ' (.num n) v:=by
 obtain ⟨l,⟨⟨h0,A,c,rfl,h1,h2,h3⟩,h4⟩,h5,h6⟩:=h
 simp only [VR]
 refine ⟨l,h5,h6,h4,A,c,rfl,h1,h2,fun hpos=>?_⟩
 obtain ⟨b,off,rfl,hlt,hc⟩:=h3 hpos
 exact ⟨b,off,rfl,fun i u hu=>hn _ _ _ (hf _ _ _ rfl) (hc i u hu) (ve _ u (List.mem_of_getElem? hu))⟩
theorem Nt {μ':Mu} {B:Nat} {q:Rat} {v:Value} (hn:∀ b i u,B <= b->w'.cell? ⟨b,i,none⟩ = some u->yB u = false->μ'.fz b i = some u)(h:ay B w' v q):VR μ' (fq q) v:=by
 obtain ⟨vn,vd,rfl,h1,h2,f1,f2⟩:=h
 simp only [fq,gN,VR]
 exact ⟨_,rfl,ao.cons (by simp [VR]) (ao.cons (E2 hn h1 f1) (ao.cons (E2 hn h2 f2) ao.nil_))⟩
theorem j8 {f:FuncId} {vs:List Value} {n:Nat} {q:Rat} (h:bA μ s w)(hc:Calls P f vs.toArray w fun e w'=>∃ u,e = .returned u/\ay w.heap.size w' u q/\Below w.heap.size w w') :
  CallsIn Fence.wide n P f vs.toArray w fun e w'=>∃ v' μ',e = .returned v'/\bA μ' s w'/\dJ μ s w μ' s w'/\VR μ' (fq q) v':=by
 refine CallsIn.mono (callsIn_wide.2 hc) ?_
 rintro e w' ⟨u,rfl,hu,hb⟩
 obtain ⟨μ',r,t,n1,_⟩:=zg h hb
 exact ⟨u,μ',rfl,r,t,Nt n1 hu⟩
theorem kR {f:FuncId} {vs:List Value} {n:Nat} {u:Value} {x:AV} (h:bA μ s w)(hx:VR μ x u)(hc:Calls P f vs.toArray w fun e w'=>e = .returned u/\Below w.heap.size w w') :
  CallsIn Fence.wide n P f vs.toArray w fun e w'=>∃ v' μ',e = .returned v'/\bA μ' s w'/\dJ μ s w μ' s w'/\VR μ' x v':=by
 refine CallsIn.mono (callsIn_wide.2 hc) ?_
 rintro e w' ⟨rfl,hb⟩
 exact ⟨u,μ,rfl,h.below hb,dJ.below μ s hb,hx⟩
end
def ui (op:Rat->Rat->Rat):List AV->Option AV
 | [x,y]=>match jp x,jp y with
  | some q,some r=>some (fq (op q r))
  | _,_=>none
 | _=>none
def sp:List AV->Option AV
 | [x,y]=>match jp x,jp y with
  | some q,some r=>some (.i .i64 (ce (q - r)))
  | _,_=>none
 | _=>none
def iU:List AV->Option AV
 | [x]=>(jp x).map fun q=>.i .i64 (ce q)
 | _=>none
def rK (op:Rat->Rat):List AV->Option AV
 | [x]=>(jp x).map fun q=>fq (op q)
 | _=>none
def DC:List AV->Option AV
 | [.i .i64 (.ofNat n)]=>cond (Nat.blt n 9223372036854775808) (some (fq (n:Rat))) none
 | _=>none
def A8:List AV->Option AV
 | [.i .i64 (.ofNat n),.i .i64 (.ofNat d)]=>cond (Nat.blt n 9223372036854775808 && Nat.blt d 9223372036854775808 && Nat.blt 0 d) (some (fq ((n:Rat) / (d:Rat)))) none
 | _=>none
def Az:List AV->Option AV
 | [x,y]=>match Ju x,Ju y with
  | some q,some r=>some (.b (decide (q = r)))
  | _,_=>none
 | _=>none
section
variable {P:Program} {f:FuncId}
theorem pr:mf <= mf/\mf <= 281474976710656:=by unfold mf; omega
theorem Bw (hco:cP P f = true) (op:Rat->Rat->Rat)(hC:∀ w v v' q r k,az k w v q->az k w v' r->0 < k->k <= 549755813888->Calls P f #[v,v'] w fun e w'=>∃ u,e = .returned u/\ay w.heap.size w' u (op q r)/\Below w.heap.size w w'):ag P f (ae (ui op)):=by
 refine hZ hco ?_
 intro args v h μ s w vs n hR hvs
 unfold ui at h
 split at h
 ·next x y =>
  split at h
  ·next q r hq hr =>
   cases h
   simp only [ao] at hvs
   obtain ⟨a,_,rfl,ha,b,_,rfl,hb,rfl⟩:=hvs
   obtain ⟨k,hk⟩:∃ k,k = mf:=⟨_,rfl⟩
   exact j8 hR (hC w a b q r k (jo hR hq ha (by omega) (by rw [hk]; exact pr.2)) (jo hR hr hb (by omega) (by rw [hk]; exact pr.2)) (by rw [hk]; unfold mf; omega) (by rw [hk]; unfold mf; omega))
  cases h
 cases h
theorem FY (hco:cP P f = true)(hC:∀ w v v' q r k,az k w v q->az k w v' r->0 < k->k <= 549755813888->Calls P f #[v,v'] w fun e w'=>e = .returned (.int .i64 (ce (q - r)))/\Below w.heap.size w w'):ag P f (ae sp):=by
 refine hZ hco ?_
 intro args v h μ s w vs n hR hvs
 unfold sp at h
 split at h
 ·next x y =>
  split at h
  ·next q r hq hr =>
   cases h
   simp only [ao] at hvs
   obtain ⟨a,_,rfl,ha,b,_,rfl,hb,rfl⟩:=hvs
   obtain ⟨k,hk⟩:∃ k,k = mf:=⟨_,rfl⟩
   exact kR hR (by simp [VR]) (hC w a b q r k (jo hR hq ha (by omega) (by rw [hk]; exact pr.2)) (jo hR hr hb (by omega) (by rw [hk]; exact pr.2)) (by rw [hk]; unfold mf; omega) (by rw [hk]; unfold mf; omega))
  cases h
 cases h
theorem Aq (hco:cP P f = true)(hC:∀ w v q k,az k w v q->0 < k->k <= 549755813888->Calls P f #[v] w fun e w'=>e = .returned (.int .i64 (ce q))/\Below w.heap.size w w'):ag P f (ae iU):=by
 refine hZ hco ?_
 intro args v h μ s w vs n hR hvs
 unfold iU at h
 split at h
 ·next x =>
  simp only [Option.map_eq_some_iff] at h
  obtain ⟨q,hq,rfl⟩:=h
  simp only [ao] at hvs
  obtain ⟨a,_,rfl,ha,rfl⟩:=hvs
  obtain ⟨k,hk⟩:∃ k,k = mf:=⟨_,rfl⟩
  exact kR hR (by simp [VR]) (hC w a q k (jo hR hq ha (by omega) (by rw [hk]; exact pr.2)) (by rw [hk]; unfold mf; omega) (by rw [hk]; unfold mf; omega))
 cases h
theorem xZ (hco:cP P f = true) (op:Rat->Rat)(hC:∀ w v q k,az k w v q->0 < k->k <= 549755813888->Calls P f #[v] w fun e w'=>∃ u,e = .returned u/\ay w.heap.size w' u (op q)/\Below w.heap.size w w'):ag P f (ae (rK op)):=by
 refine hZ hco ?_
 intro args v h μ s w vs n hR hvs
 unfold rK at h
 split at h
 ·next x =>
  simp only [Option.map_eq_some_iff] at h
  obtain ⟨q,hq,rfl⟩:=h
  simp only [ao] at hvs
  obtain ⟨a,_,rfl,ha,rfl⟩:=hvs
  obtain ⟨k,hk⟩:∃ k,k = mf:=⟨_,rfl⟩
  exact j8 hR (hC w a q k (jo hR hq ha (by omega) (by rw [hk]; exact pr.2)) (by rw [hk]; unfold mf; omega) (by rw [hk]; unfold mf; omega))
 cases h
theorem Kh (hco:cP P f = true)(hC:∀ w (n:Nat),n < 9223372036854775808->Calls P f #[.int .i64 (n:Int)] w fun e w'=>∃ u,e = .returned u/\ay w.heap.size w' u (n:Rat)/\Below w.heap.size w w'):ag P f (ae DC):=by
 refine hZ hco ?_
 intro args v h μ s w vs n hR hvs
 unfold DC at h
 split at h
 ·next m =>
  obtain ⟨hc,h⟩:=aj h
  rw [Nat.blt_eq] at hc
  cases h
  simp only [ao,VR] at hvs
  obtain ⟨a,_,rfl,rfl,rfl⟩:=hvs
  exact j8 hR (hC w m hc)
 cases h
theorem Iy (hco:cP P f = true)(hC:∀ w (n d:Nat),n < 9223372036854775808->d < 9223372036854775808->0 < d->Calls P f #[.int .i64 (n:Int),.int .i64 (d:Int)] w fun e w'=>∃ u,e = .returned u/\ay w.heap.size w' u ((n:Rat) / (d:Rat))/\Below w.heap.size w w'):ag P f (ae A8):=by
 refine hZ hco ?_
 intro args v h μ s w vs n hR hvs
 unfold A8 at h
 split at h
 ·next m d =>
  obtain ⟨hc,h⟩:=aj h
  simp only [Bool.and_eq_true,Nat.blt_eq] at hc
  cases h
  simp only [ao,VR] at hvs
  obtain ⟨a,_,rfl,rfl,b,_,rfl,rfl,rfl⟩:=hvs
  exact j8 hR (hC w m d hc.1.1 hc.1.2 hc.2)
 cases h
theorem Hu (hco:cP P f = true)(hC:∀ w v v' q r,cJ w v q->cJ w v' r->Calls P f #[v,v'] w fun e w'=>e = .returned (.bool (decide (q = r)))/\Below w.heap.size w w'):ag P f (ae Az):=by
 refine hZ hco ?_
 intro args v h μ s w vs n hR hvs
 unfold Az at h
 split at h
 ·next x y =>
  split at h
  ·next q r hq hr =>
   cases h
   simp only [ao] at hvs
   obtain ⟨a,_,rfl,ha,b,_,rfl,hb,rfl⟩:=hvs
   exact kR hR (by simp [VR]) (hC w a b q r (Bt hR hq ha) (Bt hR hr hb))
  cases h
 cases h
end
end
end Go.Proofs.YtkdhppimhdemjaaGreat
