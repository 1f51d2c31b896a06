/- Lemmas on the way: Jn1. -/
import Derived.Test.YtdehimgccmbfkaaGreatT28
set_option linter.all false
set_option maxRecDepth 1000000
set_option maxHeartbeats 32000000
namespace Go.Proofs.YtdehimgccmbfkaaGreat
open Go.RowKit
section
def digsV:List AV->Option (List Nat)
 | []=>some []
 | .i .u32 (.ofNat d) :: l=>cond (Nat.blt d 4294967296) ((digsV l).map (d :: ·)) none
 | _=>none
def digV:AV->Option (List Nat)
 | .snil=>some []
 | .vw c n=>match digsV c with
  | some l=>cond (Nat.beq l.length n && Nat.ble n 17592186044416) (some l) none
  | none=>none
 | _=>none
def natV:AV->Option Nat
 | .num n=>some n
 | x=>(digV x).map val
def lim:Nat:=274877906944
def qz (q:Rat):Nat:=max (Nat.log2 q.num.natAbs) (Nat.log2 q.den) + 1
def smallP (n d:Nat):Bool:=Nat.ble (max (Nat.log2 n) (Nat.log2 d) + 1) lim
def partsV:AV->Option (Bool × Nat × Nat)
 | .agg [.b neg,n,d]=>match natV n,natV d with
  | some n,some d=>cond (smallP n d) (some (neg,n,d)) none
  | _,_=>none
 | _=>none
def ratV (x:AV):Option Rat:=(partsV x).map fun p=>fracVal p.1 p.2.1 p.2.2
def denQ (q:Rat):Nat:=if q.den = 1 then 0 else q.den
def fcells (q:Rat):List AV:=[.b (isNeg q),.num q.num.natAbs,.num (denQ q)]
def fq (q:Rat):AV:=.agg (fcells q)
def canV:AV->Option Rat
 | .agg [.b neg,n,d]=>match (match n with | .num n=>some n | .snil=>some 0 | _=>none),(match d with | .num d=>some d | .snil=>some 0 | _=>none) with
  | some n,some d=>cond ((neg == isNeg (fracVal neg n d)) && Nat.beq n (fracVal neg n d).num.natAbs && Nat.beq d (denQ (fracVal neg n d))) (some (fracVal neg n d)) none
  | _,_=>none
 | _=>none

theorem lt_log2 (n:Nat):n < 2 ^ (Nat.log2 n + 1):=Nat.lt_log2_self
theorem log2_lt {n k:Nat} (h:n < 2 ^ k)(hk:0 < k):Nat.log2 n + 1 <= k:=by
 by_cases h0:n = 0
 ·subst h0; rw [show Nat.log2 0 = 0 from rfl]; omega
 exact (Nat.log2_lt h0).2 h
theorem qz_le {q:Rat} {k:Nat} (h:QB k q):qz q <= k:=by
 have hk:0 < k:=by
  rcases Nat.eq_zero_or_pos k with e | e
  ·subst e; have:=h.2; have:=q.den_pos; simp at *; omega
  exact e
 have h1:=log2_lt h.1 hk
 have h2:=log2_lt h.2 hk
 unfold qz; omega
theorem qz_nat (n:Nat)(h:n < 9223372036854775808):qz (n:Rat) <= 63:=qz_le (qb_nat (by simpa using h) (by omega))

theorem fracVal_self (q:Rat):fracVal (isNeg q) q.num.natAbs (denQ q) = q:=by
 unfold fracVal denQ
 have h1:(if (if q.den = 1 then 0 else q.den) = 0 then 1 else (if q.den = 1 then 0 else q.den)) = q.den:=by
  have:=q.den_pos
  by_cases e:q.den = 1
  ·simp [e]
  rw [if_neg e,if_neg (by omega)]
 rw [h1]
 rw [<- num_eq]
 exact Rat.mkRat_self q
theorem log2_denQ (q:Rat):Nat.log2 (denQ q) = Nat.log2 q.den:=by
 unfold denQ
 by_cases e:q.den = 1
 ·rw [if_pos e,e]; rfl
 rw [if_neg e]
theorem ratV_fq {q:Rat} (h:qz q <= lim):ratV (fq q) = some q:=by
 have hs:smallP q.num.natAbs (denQ q) = true:=by
  unfold smallP
  rw [log2_denQ,Nat.ble_eq]
  exact h
 simp only [ratV,fq,fcells,partsV,natV,hs,cond_true,Option.map_some,fracVal_self]
theorem canV_fq (q:Rat):canV (fq q) = some q:=by
 simp only [canV,fq,fcells,fracVal_self]
 simp
section
variable {P:Program} {μ:Mu} {s:St} {w w':World}
theorem fzS_sl (h:Rel μ s w) {n:Nat} {cs:List Value} {v:Value} (hf:FzS μ n cs v)(hl:cs.length = n):Sl w 1 v n cs:=by
 obtain ⟨A,cap,rfl,h1,h2,h3⟩:=hf
 refine ⟨by omega,A,cap,rfl,h1,h2,fun hn=>?_⟩
 obtain ⟨b,base,rfl,h4⟩:=h3 hn
 obtain ⟨u,hu⟩:∃ u,cs[0]? = some u:=⟨_,List.getElem?_eq_getElem (by omega)⟩
 exact ⟨b,base,rfl,(h.fz _ _ _ (h4 0 u hu)).1,fun j u hu=>(h.fz _ _ _ (h4 j u hu)).2.1⟩
theorem digsV_at:∀ {c:List AV} {l:List Nat} {cs:List Value},digsV c = some l->VRs μ c cs->cs = l.map dg/\Ok l
 | [],l,cs,h,hv=>by
  simp only [digsV,Option.some.injEq] at h
  subst h
  simp only [VRs] at hv
  subst hv
  exact ⟨rfl,fun d hd=>by cases hd⟩
 | x :: c,l,cs,h,hv=>by
  obtain ⟨d,rfl⟩:∃ d,x = .i .u32 (.ofNat d):=by
   cases x with
   | i k n=>cases k <;> first | (cases n with | ofNat d=>exact ⟨d,rfl⟩ | negSucc d=>simp [digsV] at h) | (simp [digsV] at h; done)
   | _=>simp [digsV] at h
  simp only [digsV] at h
  obtain ⟨hd,h⟩:=cond_some h
  simp only [Option.map_eq_some_iff] at h
  obtain ⟨l',h1,rfl⟩:=h
  simp only [VRs,VR] at hv
  obtain ⟨y,ys,rfl,rfl,h2⟩:=hv
  obtain ⟨e,hok⟩:=digsV_at h1 h2
  subst e
  rw [Nat.blt_eq] at hd
  refine ⟨rfl,fun d' hd'=>?_⟩
  rcases List.mem_cons.1 hd' with rfl | hd'
  ·exact hd
  exact hok d' hd'
theorem digV_at (h:Rel μ s w) {x:AV} {v:Value} {l:List Nat} (hx:digV x = some l)(hv:VR μ x v):DigAt w v l/\l.length <= 17592186044416:=by
 cases x <;> simp only [digV] at hx <;> try cases hx
 case snil=>simp only [VR] at hv; subst hv; exact ⟨DigAt.nil_ w,Nat.zero_le _⟩
 case vw c n =>
  split at hx
  ·next l' hl =>
   obtain ⟨hc,hx⟩:=cond_some hx
   cases hx
   simp only [Bool.and_eq_true,Nat.beq_eq,Nat.ble_eq] at hc
   simp only [VR] at hv
   obtain ⟨cs,h1,h2⟩:=hv
   obtain ⟨rfl,hok⟩:=digsV_at hl h2
   rw [<- hc.1] at h1
   exact ⟨⟨fzS_sl h h1 (by simp),hok⟩,by omega⟩
  cases hx
theorem num_at (h:Rel μ s w) {n:Nat} {v:Value} (hv:VR μ (.num n) v):NatAt w v n:=by
 simp only [VR] at hv
 obtain ⟨l,h1,h2,h3,h4⟩:=hv
 exact ⟨l,⟨fzS_sl h h4 (by simp),h3⟩,h1,h2⟩
theorem natV_at (h:Rel μ s w) {x:AV} {v:Value} {n:Nat} (hx:natV x = some n) {k:Nat} (hn:n < 2 ^ k)(hk:k <= 281474976710656)(hv:VR μ x v):∃ l,DigAt w v l/\val l = n/\l.length <= 17592186044416:=by
 by_cases e:∃ m,x = .num m
 ·obtain ⟨m,rfl⟩:=e
  simp only [natV,Option.some.injEq] at hx
  subst hx
  obtain ⟨l,h1,h2,h3⟩:=num_at h hv
  refine ⟨l,h1,h3,?_⟩
  have:=h2.length_le (h3.symm ▸ hn)
  omega
 have:natV x = (digV x).map val:=by cases x <;> first | rfl | exact absurd ⟨_,rfl⟩ e
 rw [this] at hx
 simp only [Option.map_eq_some_iff] at hx
 obtain ⟨l,h1,rfl⟩:=hx
 obtain ⟨h2,h3⟩:=digV_at h h1 hv
 exact ⟨l,h2,rfl,h3⟩
theorem pow_big {n k:Nat} (h:Nat.log2 n + 1 <= k):n < 2 ^ k:=Nat.lt_of_lt_of_le (lt_log2 n) (Nat.pow_le_pow_right (by omega) h)
theorem ratV_at (h:Rel μ s w) {x:AV} {v:Value} {q:Rat} (hx:ratV x = some q)(hv:VR μ x v) {k:Nat} (hk:lim <= k)(hk2:k <= 281474976710656):FracAt k w v q:=by
 unfold ratV at hx
 simp only [Option.map_eq_some_iff] at hx
 obtain ⟨⟨neg,n,d⟩,h1,rfl⟩:=hx
 unfold partsV at h1
 split at h1
 ·next neg' xn xd =>
  split at h1
  ·next n' d' hn hd =>
   obtain ⟨hc,h1⟩:=cond_some h1
   cases h1
   unfold smallP at hc
   rw [Nat.ble_eq] at hc
   simp only [VR,VRs] at hv
   obtain ⟨l,rfl,y0,_,rfl,rfl,y1,_,rfl,hv1,y2,_,rfl,hv2,rfl⟩:=hv
   obtain ⟨l1,a1,a2,a3⟩:=natV_at h hn (pow_big (k:=k) (by omega)) hk2 hv1
   obtain ⟨l2,b1,b2,b3⟩:=natV_at h hd (pow_big (k:=k) (by omega)) hk2 hv2
   exact ⟨neg,y1,y2,l1,l2,rfl,a1,b1,by rw [a2,b2],a2 ▸ pow_big (by omega),b2 ▸ pow_big (by omega),a3,b3⟩
  cases h1
 cases h1
theorem canV_at (h:Rel μ s w) {x:AV} {v:Value} {q:Rat} (hx:canV x = some q)(hv:VR μ x v):CanAt w v q:=by
 have one:∀ {x:AV} {n:Nat} {v:Value},(match x with | .num n=>some n | .snil=>some 0 | _=>none) = some n->VR μ x v->NatAt w v n:=by
  intro x n v hx hv
  cases x <;> simp only at hx <;> try cases hx
  ·simp only [VR] at hv; subst hv; exact NatAt.nil_ w
  exact num_at h hv
 unfold canV at hx
 split at hx
 ·next neg xn xd =>
  split at hx
  ·next n d hn hd =>
   obtain ⟨hc,hx⟩:=cond_some hx
   simp only [Bool.and_eq_true,beq_iff_eq,Nat.beq_eq] at hc
   obtain ⟨⟨c1,c2⟩,c3⟩:=hc
   simp only [VR,VRs] at hv
   obtain ⟨l,rfl,y0,_,rfl,rfl,y1,_,rfl,hv1,y2,_,rfl,hv2,rfl⟩:=hv
   simp only [Option.some.injEq] at hx
   rw [hx] at c1 c2 c3
   exact ⟨y1,y2,by rw [c1],c2 ▸ one hn hv1,(show d = (if q.den = 1 then 0 else q.den) from c3) ▸ one hd hv2⟩
  cases hx
 cases hx
theorem num_vr {μ':Mu} {B n:Nat} {v:Value} (hn:∀ b i u,B <= b->w'.cell? ⟨b,i,none⟩ = some u->μ'.fz b i = some u)(h:NatAt w' v n)(hf:From v B):VR μ' (.num n) v:=by
 obtain ⟨l,⟨⟨h0,A,c,rfl,h1,h2,h3⟩,h4⟩,h5,h6⟩:=h
 simp only [VR]
 refine ⟨l,h5,h6,h4,A,c,rfl,h1,h2,fun hpos=>?_⟩
 obtain ⟨b,off,rfl,hlt,hc⟩:=h3 hpos
 exact ⟨b,off,rfl,fun i u hu=>hn _ _ _ (hf _ _ _ rfl) (hc i u hu)⟩
theorem fq_vr {μ':Mu} {B:Nat} {q:Rat} {v:Value} (hn:∀ b i u,B <= b->w'.cell? ⟨b,i,none⟩ = some u->μ'.fz b i = some u)(h:CanNew B w' v q):VR μ' (fq q) v:=by
 obtain ⟨vn,vd,rfl,h1,h2,f1,f2⟩:=h
 simp only [fq,fcells,VR]
 exact ⟨_,rfl,VRs.cons (by simp [VR]) (VRs.cons (num_vr hn h1 f1) (VRs.cons (num_vr hn h2 f2) VRs.nil_))⟩
theorem ret_frac {f:FuncId} {vs:List Value} {n:Nat} {q:Rat} (h:Rel μ s w)(hc:Calls P f vs.toArray w fun e w'=>∃ u,e = .returned u/\CanNew w.heap.size w' u q/\Below w.heap.size w w') :
  CallsIn Fence.wide n P f vs.toArray w fun e w'=>∃ v' μ',e = .returned v'/\Rel μ' s w'/\Stp μ s w μ' s w'/\VR μ' (fq q) v':=by
 refine CallsIn.mono (callsIn_wide.2 hc) ?_
 rintro e w' ⟨u,rfl,hu,hb⟩
 obtain ⟨μ',r,t,n1,_⟩:=freeze_new h hb
 exact ⟨u,μ',rfl,r,t,fq_vr n1 hu⟩
theorem ret_val {f:FuncId} {vs:List Value} {n:Nat} {u:Value} {x:AV} (h:Rel μ s w)(hx:VR μ x u)(hc:Calls P f vs.toArray w fun e w'=>e = .returned u/\Below w.heap.size w w') :
  CallsIn Fence.wide n P f vs.toArray w fun e w'=>∃ v' μ',e = .returned v'/\Rel μ' s w'/\Stp μ s w μ' s w'/\VR μ' x v':=by
 refine CallsIn.mono (callsIn_wide.2 hc) ?_
 rintro e w' ⟨rfl,hb⟩
 exact ⟨u,μ,rfl,h.below hb,Stp.below μ s hb,hx⟩
end
def bin2V (op:Rat->Rat->Rat):List AV->Option AV
 | [x,y]=>match ratV x,ratV y with
  | some q,some r=>some (fq (op q r))
  | _,_=>none
 | _=>none
def cmpV:List AV->Option AV
 | [x,y]=>match ratV x,ratV y with
  | some q,some r=>some (.i .i64 (sgnI (q - r)))
  | _,_=>none
 | _=>none
def signV:List AV->Option AV
 | [x]=>(ratV x).map fun q=>.i .i64 (sgnI q)
 | _=>none
def canonV (op:Rat->Rat):List AV->Option AV
 | [x]=>(ratV x).map fun q=>fq (op q)
 | _=>none
def ofV:List AV->Option AV
 | [.i .i64 (.ofNat n)]=>cond (Nat.blt n 9223372036854775808) (some (fq (n:Rat))) none
 | _=>none
def makeV:List AV->Option AV
 | [.i .i64 (.ofNat n),.i .i64 (.ofNat d)]=>cond (Nat.blt n 9223372036854775808 && Nat.blt d 9223372036854775808 && Nat.blt 0 d) (some (fq ((n:Rat) / (d:Rat)))) none
 | _=>none
def sameV:List AV->Option AV
 | [x,y]=>match canV x,canV y with
  | some q,some r=>some (.b (decide (q = r)))
  | _,_=>none
 | _=>none
def divV:List AV->Option AV
 | [x,y]=>match ratV x,ratV y with
  | some q,some r=>cond (decide (r = 0)) none (some (.tup [fq (q / r),.i .i64 0]))
  | _,_=>none
 | _=>none
section
variable {P:Program} {f:FuncId}
theorem lim_k:lim <= lim/\lim <= 281474976710656:=by unfold lim; omega
theorem bin2_ok (hco:enterOk P f = true) (op:Rat->Rat->Rat)(hC:∀ w v v' q r k,FracAt k w v q->FracAt k w v' r->0 < k->k <= 549755813888->Calls P f #[v,v'] w fun e w'=>∃ u,e = .returned u/\CanNew w.heap.size w' u (op q r)/\Below w.heap.size w w'):Answers P f (pureA (bin2V op)):=by
 refine pure_of hco ?_
 intro args v h μ s w vs n hR hvs
 unfold bin2V at h
 split at h
 ·next x y =>
  split at h
  ·next q r hq hr =>
   cases h
   simp only [VRs] at hvs
   obtain ⟨a,_,rfl,ha,b,_,rfl,hb,rfl⟩:=hvs
   obtain ⟨k,hk⟩:∃ k,k = lim:=⟨_,rfl⟩
   exact ret_frac hR (hC w a b q r k (ratV_at hR hq ha (by omega) (by rw [hk]; exact lim_k.2)) (ratV_at hR hr hb (by omega) (by rw [hk]; exact lim_k.2)) (by rw [hk]; unfold lim; omega) (by rw [hk]; unfold lim; omega))
  cases h
 cases h
theorem cmp_ok (hco:enterOk P f = true)(hC:∀ w v v' q r k,FracAt k w v q->FracAt k w v' r->0 < k->k <= 549755813888->Calls P f #[v,v'] w fun e w'=>e = .returned (.int .i64 (sgnI (q - r)))/\Below w.heap.size w w'):Answers P f (pureA cmpV):=by
 refine pure_of hco ?_
 intro args v h μ s w vs n hR hvs
 unfold cmpV at h
 split at h
 ·next x y =>
  split at h
  ·next q r hq hr =>
   cases h
   simp only [VRs] at hvs
   obtain ⟨a,_,rfl,ha,b,_,rfl,hb,rfl⟩:=hvs
   obtain ⟨k,hk⟩:∃ k,k = lim:=⟨_,rfl⟩
   exact ret_val hR (by simp [VR]) (hC w a b q r k (ratV_at hR hq ha (by omega) (by rw [hk]; exact lim_k.2)) (ratV_at hR hr hb (by omega) (by rw [hk]; exact lim_k.2)) (by rw [hk]; unfold lim; omega) (by rw [hk]; unfold lim; omega))
  cases h
 cases h
theorem sign_ok (hco:enterOk P f = true)(hC:∀ w v q k,FracAt k w v q->0 < k->k <= 549755813888->Calls P f #[v] w fun e w'=>e = .returned (.int .i64 (sgnI q))/\Below w.heap.size w w'):Answers P f (pureA signV):=by
 refine pure_of hco ?_
 intro args v h μ s w vs n hR hvs
 unfold signV at h
 split at h
 ·next x =>
  simp only [Option.map_eq_some_iff] at h
  obtain ⟨q,hq,rfl⟩:=h
  simp only [VRs] at hvs
  obtain ⟨a,_,rfl,ha,rfl⟩:=hvs
  obtain ⟨k,hk⟩:∃ k,k = lim:=⟨_,rfl⟩
  exact ret_val hR (by simp [VR]) (hC w a q k (ratV_at hR hq ha (by omega) (by rw [hk]; exact lim_k.2)) (by rw [hk]; unfold lim; omega) (by rw [hk]; unfold lim; omega))
 cases h
theorem canon_ok (hco:enterOk P f = true) (op:Rat->Rat)(hC:∀ w v q k,FracAt k w v q->0 < k->k <= 549755813888->Calls P f #[v] w fun e w'=>∃ u,e = .returned u/\CanNew w.heap.size w' u (op q)/\Below w.heap.size w w'):Answers P f (pureA (canonV op)):=by
 refine pure_of hco ?_
 intro args v h μ s w vs n hR hvs
 unfold canonV at h
 split at h
 ·next x =>
  simp only [Option.map_eq_some_iff] at h
  obtain ⟨q,hq,rfl⟩:=h
  simp only [VRs] at hvs
  obtain ⟨a,_,rfl,ha,rfl⟩:=hvs
  obtain ⟨k,hk⟩:∃ k,k = lim:=⟨_,rfl⟩
  exact ret_frac hR (hC w a q k (ratV_at hR hq ha (by omega) (by rw [hk]; exact lim_k.2)) (by rw [hk]; unfold lim; omega) (by rw [hk]; unfold lim; omega))
 cases h
theorem of_ok (hco:enterOk P f = true)(hC:∀ w (n:Nat),n < 9223372036854775808->Calls P f #[.int .i64 (n:Int)] w fun e w'=>∃ u,e = .returned u/\CanNew w.heap.size w' u (n:Rat)/\Below w.heap.size w w'):Answers P f (pureA ofV):=by
 refine pure_of hco ?_
 intro args v h μ s w vs n hR hvs
 unfold ofV at h
 split at h
 ·next m =>
  obtain ⟨hc,h⟩:=cond_some h
  rw [Nat.blt_eq] at hc
  cases h
  simp only [VRs,VR] at hvs
  obtain ⟨a,_,rfl,rfl,rfl⟩:=hvs
  exact ret_frac hR (hC w m hc)
 cases h
theorem make_ok (hco:enterOk P f = true)(hC:∀ w (n d:Nat),n < 9223372036854775808->d < 9223372036854775808->0 < d->Calls P f #[.int .i64 (n:Int),.int .i64 (d:Int)] w fun e w'=>∃ u,e = .returned u/\CanNew w.heap.size w' u ((n:Rat) / (d:Rat))/\Below w.heap.size w w'):Answers P f (pureA makeV):=by
 refine pure_of hco ?_
 intro args v h μ s w vs n hR hvs
 unfold makeV at h
 split at h
 ·next m d =>
  obtain ⟨hc,h⟩:=cond_some h
  simp only [Bool.and_eq_true,Nat.blt_eq] at hc
  cases h
  simp only [VRs,VR] at hvs
  obtain ⟨a,_,rfl,rfl,b,_,rfl,rfl,rfl⟩:=hvs
  exact ret_frac hR (hC w m d hc.1.1 hc.1.2 hc.2)
 cases h
theorem same_ok (hco:enterOk P f = true)(hC:∀ w v v' q r,CanAt w v q->CanAt w v' r->Calls P f #[v,v'] w fun e w'=>e = .returned (.bool (decide (q = r)))/\Below w.heap.size w w'):Answers P f (pureA sameV):=by
 refine pure_of hco ?_
 intro args v h μ s w vs n hR hvs
 unfold sameV at h
 split at h
 ·next x y =>
  split at h
  ·next q r hq hr =>
   cases h
   simp only [VRs] at hvs
   obtain ⟨a,_,rfl,ha,b,_,rfl,hb,rfl⟩:=hvs
   exact ret_val hR (by simp [VR]) (hC w a b q r (canV_at hR hq ha) (canV_at hR hr hb))
  cases h
 cases h
theorem div_ok (hco:enterOk P f = true)(hC:∀ w v v' q r k,FracAt k w v q->FracAt k w v' r->0 < k->k <= 549755813888->r ≠ 0->Calls P f #[v,v'] w fun e w'=>∃ u,e = .returned (.tuple #[u,.int .i64 0])/\CanNew w.heap.size w' u (q / r)/\Below w.heap.size w w'):Answers P f (pureA divV):=by
 refine pure_of hco ?_
 intro args v h μ s w vs n hR hvs
 unfold divV at h
 split at h
 ·next x y =>
  split at h
  ·next q r hq hr =>
   by_cases hr0:r = 0
   ·rw [decide_eq_true hr0] at h; cases h
   rw [decide_eq_false hr0] at h
   cases h
   simp only [VRs] at hvs
   obtain ⟨a,_,rfl,ha,b,_,rfl,hb,rfl⟩:=hvs
   obtain ⟨k,hk⟩:∃ k,k = lim:=⟨_,rfl⟩
   refine CallsIn.mono (callsIn_wide.2 (hC w a b q r k (ratV_at hR hq ha (by omega) (by rw [hk]; exact lim_k.2)) (ratV_at hR hr hb (by omega) (by rw [hk]; exact lim_k.2)) (by rw [hk]; unfold lim; omega) (by rw [hk]; unfold lim; omega) hr0)) ?_
   rintro e w' ⟨u,rfl,hu,hb⟩
   obtain ⟨μ',r',t,n1,_⟩:=freeze_new hR hb
   exact ⟨_,μ',rfl,r',t,by simp only [VR]; exact ⟨[u,.int .i64 0],rfl,VRs.cons (fq_vr n1 hu) (VRs.cons (by simp [VR]) VRs.nil_)⟩⟩
  cases h
 cases h
end
end
end Go.Proofs.YtdehimgccmbfkaaGreat
