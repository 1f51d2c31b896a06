/- Lemmas on the way: Jv1. -/
import Derived.Test.YtkdhppimhdemjaaGreatU26
set_option linter.all false
set_option maxRecDepth 1000000
set_option maxHeartbeats 32000000
namespace Go.Proofs.YtkdhppimhdemjaaGreat
open Go.RowKit
section
def fo {α:Type}:List (Nat × α)->Nat->Option α
 | [],_=>none
 | p :: l,k=>cond (Nat.beq k p.1) (some p.2) (fo l k)
theorem xy {α:Type} (k:Nat):fo ([]:List (Nat × α)) k = none:=rfl
theorem fH {α:Type} (j:Nat) (x:α) (l:List (Nat × α)) (k:Nat):fo ((j,x) :: l) k = if k = j then some x else fo l k:=by
 simp only [fo]
 by_cases h:k = j
 ·subst h; simp
 rw [vl.2 h,if_neg h]; rfl
def Tr.of (l:List (Nat × AV)):Tr AV:=l.foldr (fun p t=>t.set p.1 (some p.2)) .nil
theorem Tr.of_set (l:List (Nat × AV)) (d:Nat) (v:AV):(Tr.of l).set d (some v) = Tr.of ((d,v) :: l):=rfl
theorem Tr.of_get (k:Nat):∀ l:List (Nat × AV),(Tr.of l).get k = fo l k
 | []=>rfl
 | p :: l=>by rw [show Tr.of (p :: l) = (Tr.of l).set p.1 (some p.2) from rfl,Tr.get_set,Tr.of_get k l,show fo (p :: l) k = _ from fH p.1 p.2 l k]
theorem bT (a:AV):Tr.ofList [a] = Tr.of [(0,a)]:=rfl
theorem bS (a b:AV):Tr.ofList [a,b] = Tr.of [(1,b),(0,a)]:=rfl
theorem p8 (a b c:AV):Tr.ofList [a,b,c] = Tr.of [(2,c),(1,b),(0,a)]:=rfl
theorem Il (a b c d:AV):Tr.ofList [a,b,c,d] = Tr.of [(3,d),(2,c),(1,b),(0,a)]:=rfl
def St.of (l:List (Nat × Option AO)) (n:Nat):St:=⟨l.foldr (fun p t=>t.set p.1 p.2) .nil,n⟩
def lD (l:List (Nat × Option AO)) (k:Nat):Option AO:=match fo l k with
 | some x=>x
 | none=>none
theorem xx (k:Nat):lD [] k = none:=rfl
theorem fG (j:Nat) (x:Option AO) (l:List (Nat × Option AO)) (k:Nat):lD ((j,x) :: l) k = if k = j then x else lD l k:=by
 unfold lD
 rw [fH]
 by_cases h:k = j
 ·rw [if_pos h,if_pos h]
 rw [if_neg h,if_neg h]
theorem St.of_nil:(⟨.nil,0⟩:St) = St.of [] 0:=rfl
theorem St.of_new (l:List (Nat × Option AO)) (n:Nat) (x:AO):(St.of l n).new x = St.of ((n,some x) :: l) (n + 1):=rfl
theorem St.of_set (l:List (Nat × Option AO)) (n k:Nat) (x:AO):(St.of l n).set k x = St.of ((k,some x) :: l) n:=rfl
theorem St.of_drop (l:List (Nat × Option AO)) (n k:Nat):(St.of l n).drop k = St.of ((k,none) :: l) n:=rfl
theorem St.of_nx (l:List (Nat × Option AO)) (n:Nat):(St.of l n).nx = n:=rfl
theorem St.of_get (n k:Nat):∀ l:List (Nat × Option AO),(St.of l n).h.get k = lD l k
 | []=>rfl
 | p :: l=>by
  rw [show (St.of (p :: l) n).h = (St.of l n).h.set p.1 p.2 from rfl,Tr.get_set,St.of_get n k l,show lD (p :: l) k = _ from fG p.1 p.2 l k]

def aw {α:Type} (o:Option α) (k:α->Prop):Prop:=match o with
 | some a=>k a
 | none=>False
theorem au {α:Type} (a:α) (k:α->Prop):aw (some a) k = k a:=rfl
def Bv (v:AV) (k:Bool->Prop):Prop:=match v with
 | .b t=>k t
 | _=>False
theorem nQ (t:Bool) (k:Bool->Prop):Bv (.b t) k = k t:=rfl
def uT (ρ:Operand->Option AV):List Operand->(List AV->Prop)->Prop
 | [],k=>k []
 | x :: l,k=>aw (ρ x) fun v=>uT ρ l fun vs=>k (v :: vs)
theorem A6 (ρ:Operand->Option AV):∀ (l:List Operand) (k:List AV->Prop),aw (l.mapM ρ) k = uT ρ l k
 | [],k=>rfl
 | x :: l,k=>by
  rw [List.mapM_cons,uT]
  cases ρ x with
  | none=>rfl
  | some v =>
   rw [au,<- A6 ρ l]
   cases l.mapM ρ <;> rfl
section
variable {P:Program} {X:dY} {E:Ev} {ρ:Operand->Option AV} {s:St} {K:AV->St->Prop}
def oE (P:Program) (t:TypeId) (a i:AV):Option AV:=match P.underlying t,a,nU i with
 | some (.array n e),.ptr o off,some i=>match bk P e with
  | some z=>cond (Nat.blt i n) (some (.ptr o (off + i * z))) none
  | none=>none
 | some (.slice e),.sl o off n _,some i=>match bk P e with
  | some z=>cond (Nat.blt i n) (some (.ptr o (off + i * z))) none
  | none=>none
 | some (.array n e),.vp c off,some i=>match bk P e with
  | some z=>cond (Nat.blt i n) (some (.vp c (off + i * z))) none
  | none=>none
 | some (.slice e),.vw c n,some i=>match bk P e with
  | some z=>cond (Nat.blt i n) (some (.vp c (i * z))) none
  | none=>none
 | _,_,_=>none
def si (P:Program) (t:TypeId) (f:Nat) (a:AV):Option AV:=match iC P t f,a with
 | some fd,.ptr o off=>match bk P fd.type with
  | some (_ + 1)=>some (.ptr o (off + fd.offset))
  | _=>none
 | some fd,.vp c off=>match bk P fd.type with
  | some (_ + 1)=>some (.vp c (off + fd.offset))
  | _=>none
 | _,_=>none
def CX (P:Program) (t:TypeId) (f:Nat) (a:AV):Option AV:=match iC P t f,a with
 | some fd,.agg l=>fx P fd.type l fd.offset
 | _,_=>none
def Nl (s:St):AV->Option AV
 | .sl _ _ n _=>some (.i .i64 n)
 | .vw _ n=>some (.i .i64 n)
 | .snil=>some (.i .i64 0)
 | .mnil=>some (.i .i64 0)
 | .mp o=>match s.h.get o with
  | some (.map es _)=>some (.i .i64 es.length)
  | _=>none
 | _=>none
theorem vF (x:Operand):cZ P X E ρ s (.move x) K = aw (ρ x) fun v=>K v s:=by unfold cZ; simp only [f5,bu,dL]; cases ρ x <;> rfl
theorem nX (x:Operand):cZ P X E ρ s (.assign x) K = aw (ρ x) fun v=>K v s:=by unfold cZ; simp only [f5,bu,dL]; cases ρ x <;> rfl
theorem vE (c a b:Operand):cZ P X E ρ s (.pick c a b) K = aw (ρ c) fun v=>Bv v fun t=>aw (cond t (ρ a) (ρ b)) fun v=>K v s:=by
 unfold cZ
 simp only [f5,bu,dL]
 cases ρ c with
 | none=>rfl
 | some v=>cases v <;> first | rfl | (rename_i t; simp only [au,nQ]; cases (cond t (ρ a) (ρ b)) <;> rfl)
theorem vG (t:TypeId) (a:Operand):cZ P X E ρ s (.load t a) K = aw (ρ a) fun p=>aw (ig P s t p) fun v=>K v s:=by
 unfold cZ
 simp only [f5,bu,dL]
 cases ρ a with
 | none=>rfl
 | some p=>simp only [Option.bind_some,au]; cases ig P s t p <;> rfl
theorem qm (t:TypeId) (a v:Operand):cZ P X E ρ s (.store t a v) K = aw (ρ a) fun p=>aw (ρ v) fun v=>aw (gF P s t v p) fun s'=>K (.tup []) s':=by
 unfold cZ
 simp only [f5,bu,gy]
 cases ρ a with
 | none=>rfl
 | some p =>
  cases ρ v with
  | none=>rfl
  | some v=>simp only [au]; cases gF P s t v p <;> rfl
theorem BQ (op:BinOp) (t:TypeId) (x y:Operand) (yt:TypeId):cZ P X E ρ s (.binOp op t x y yt) K = aw (ρ x) fun a=>aw (ρ y) fun b=>aw (lG P op t a b) fun v=>K v s:=by
 unfold cZ
 simp only [f5,bu,dL]
 cases ρ x with
 | none=>rfl
 | some a =>
  cases ρ y with
  | none=>rfl
  | some b=>simp only [au]; cases lG P op t a b <;> rfl
theorem BO (t:TypeId) (x:Operand):cZ P X E ρ s (.unOp .not t x) K = aw (ρ x) fun a=>aw (match a with | .b x=>some (.b !x) | _=>none) fun v=>K v s:=by
 unfold cZ
 simp only [f5,bu,dL]
 cases ρ x with
 | none=>rfl
 | some a=>cases a <;> first | rfl | (rename_i k n; cases k <;> rfl)
theorem jB (x:Operand):cZ P X E ρ s (.nilCheck x) K = aw (ρ x) fun a=>aw (match a with | .ptr o off=>some (.ptr o off) | .vp c off=>some (.vp c off) | .fn f a b=>some (.fn f a b) | .yl l=>some (.yl l) | _=>none) fun v=>K v s:=by
 unfold cZ
 simp only [f5,bu,dL]
 cases ρ x with
 | none=>rfl
 | some a=>cases a <;> rfl
theorem iv (t:TypeId) (x:Operand) (f:Nat):cZ P X E ρ s (.fieldAddr t x f) K = aw (ρ x) fun a=>aw (si P t f a) fun v=>K v s:=by
 unfold cZ
 simp only [f5,bu,dL,si]
 cases ρ x with
 | none=>cases iC P t f <;> rfl
 | some a =>
  simp only [au]
  cases iC P t f with
  | none=>rfl
  | some fd=>cases a <;> first | rfl | (simp only; cases bk P fd.type with | none=>rfl | some z=>cases z <;> rfl)
theorem qo (t:TypeId) (x:Operand) (f:Nat):cZ P X E ρ s (.field t x f) K = aw (ρ x) fun a=>aw (CX P t f a) fun v=>K v s:=by
 unfold cZ
 simp only [f5,bu,dL,CX]
 cases ρ x with
 | none=>cases iC P t f <;> rfl
 | some a =>
  simp only [au]
  cases iC P t f with
  | none=>rfl
  | some fd=>cases a <;> first | rfl | (simp only; cases fx P fd.type _ fd.offset <;> rfl)
theorem iu (t:TypeId) (x ix:Operand):cZ P X E ρ s (.indexAddr t x ix) K = aw (ρ x) fun a=>aw (ρ ix) fun i=>aw (oE P t a i) fun v=>K v s:=by
 have key:dL P ρ s (.indexAddr t x ix) = (ρ x).bind fun a=>(ρ ix).bind fun i=>oE P t a i:=by
  simp only [dL]
  cases hx:ρ x with
  | none=>simp only [Option.bind_none]; split <;> first | rfl | (rename_i h _; cases h)
  | some a =>
   cases hi:ρ ix with
   | none=>simp only [Option.bind_none,Option.bind_some]; split <;> first | rfl | (rename_i h; cases h)
   | some i =>
    simp only [Option.bind_some,oE]
    cases P.underlying t with
    | none=>rfl
    | some d=>cases d <;> first | rfl | (cases a <;> first | rfl | (cases nU i <;> rfl))
 unfold cZ
 simp only [f5,bu,key]
 cases ρ x with
 | none=>rfl
 | some a =>
  cases ρ ix with
  | none=>rfl
  | some i=>simp only [Option.bind_some,au]; cases oE P t a i <;> rfl
theorem lB (x:Operand) (k:Nat):cZ P X E ρ s (.extract x k) K = aw (ρ x) fun a=>aw (match a with | .tup l=>l[k]? | _=>none) fun v=>K v s:=by
 unfold cZ
 simp only [f5,bu,dL]
 cases ρ x with
 | none=>rfl
 | some a=>cases a <;> first | rfl | (rename_i l; simp only [au]; cases l[k]? <;> rfl)
theorem BP (t:TypeId) (x:Operand):cZ P X E ρ s (.box t x) K = aw (ρ x) fun v=>v.cells.all flat = true/\K (.ptr s.nx 0) (s.new (.cells v.cells t false)):=by
 unfold cZ
 simp only [f5,bu,oT]
 cases ρ x with
 | none=>rfl
 | some v=>simp only [Option.bind_some,au]; cases v.cells.all flat <;> simp
theorem qp (t:TypeId):cZ P X E ρ s (.alloc t) K = aw (bP P t) fun v=>v.cells.all flat = true/\K (.ptr s.nx 0) (s.new (.cells v.cells t false)):=by
 unfold cZ
 simp only [f5,bu,oT]
 cases bP P t with
 | none=>rfl
 | some v=>simp only [Option.bind_some,au]; cases v.cells.all flat <;> simp
theorem ym (t:TypeId) (l c:Operand):cZ P X E ρ s (.makeSlice t l c) K = aw (oT P ρ (.makeSlice t l c)) fun p=>K (p.2 s.nx) (s.new p.1):=by
 unfold cZ
 simp only [f5,bu]
 cases oT P ρ (.makeSlice t l c) <;> rfl
theorem nW (t:TypeId) (n:Nat) (ps:Array (Nat × Operand)):cZ P X E ρ s (.buildSlice t n ps) K = aw (oT P ρ (.buildSlice t n ps)) fun p=>K (p.2 s.nx) (s.new p.1):=by
 unfold cZ
 simp only [f5,bu]
 cases oT P ρ (.buildSlice t n ps) <;> rfl
theorem JU (t:TypeId) (ps:Array (Nat × Operand)):cZ P X E ρ s (.build t ps) K = aw (dL P ρ s (.build t ps)) fun v=>K v s:=by
 unfold cZ
 simp only [f5,bu]
 cases dL P ρ s (.build t ps) <;> rfl
theorem vD (t:TypeId) (x:Operand) (lo hi mx:Option Operand):cZ P X E ρ s (.slice t x lo hi mx) K = aw (dL P ρ s (.slice t x lo hi mx)) fun v=>K v s:=by
 unfold cZ
 simp only [f5,bu]
 cases dL P ρ s (.slice t x lo hi mx) <;> rfl
theorem OZ (x:Operand) (t:TypeId)(hs:(match P.underlying t with | some (.slice _) | some (.map _ _)=>true | _=>false) = true)(hk:∀ v,ρ x = some v->(match P.underlying t with | some (.slice _)=>(match v with | .mp _ | .mnil=>false | _=>true) | _=>(match v with | .mp _ | .mnil=>true | _=>false)) = true):cZ P X E ρ s (.call ⟨.builtin .len,#[x],#[t]⟩) K = aw (ρ x) fun a=>aw (Nl s a) fun v=>K v s:=by
 unfold cZ
 simp only [f5,bu,dL]
 cases hx:ρ x with
 | none =>
  cases hu:P.underlying t with
  | none=>rw [hu] at hs; cases hs
  | some d=>cases d <;> first | rfl | (rw [hu] at hs; cases hs)
 | some v =>
  have hk:=hk v hx
  cases hu:P.underlying t with
  | none=>rw [hu] at hs; cases hs
  | some d =>
   rw [hu] at hk hs
   cases d <;> simp only at hs <;> try cases hs
   ·simp only [au]
    cases v <;> simp only at hk <;> first | rfl | cases hk
   simp only [au]
   cases v <;> simp only at hk <;> first | rfl | cases hk | skip
   simp only [IG,Nl]
   rename_i o
   cases s.h.get o with
   | none=>rfl
   | some y=>cases y <;> rfl
def rL (E:Ev) (f:AV) (asn:List AV) (s:St):Option (AV × St):=match f with
 | .fn f fs cs=>E.call f (fs ++ asn ++ cs) s
 | .yl l=>cV E l asn s
 | _=>none
theorem vH (f:Operand) (args:Array Operand) (ts:Array TypeId):cZ P X E ρ s (.call ⟨.value f,args,ts⟩) K = aw (ρ f) fun fv=>uT ρ args.toList fun asn=>aw (rL E fv asn s) fun p=>K p.1 p.2:=by
 unfold cZ
 simp only [f5,bu,gy]
 cases ρ f with
 | none=>rfl
 | some fv =>
  rw [au,<- A6]
  cases args.toList.mapM ρ with
  | none=>cases fv <;> rfl
  | some asn =>
   cases fv <;> first | rfl | (simp only [au,rL]; first | (cases E.call _ _ s <;> rfl) | (cases cV E _ asn s <;> rfl))
def lH (P:Program) (t t':TypeId) (a b:AV) (s:St):Option (AV × St):=match P.underlying t,P.underlying t' with
 | some (.slice e),some (.slice _)=>fR P s e a b
 | _,_=>none
theorem nY (x y:Operand) (t t':TypeId):cZ P X E ρ s (.call ⟨.builtin .append,#[x,y],#[t,t']⟩) K = aw (ρ x) fun a=>aw (ρ y) fun b=>aw (lH P t t' a b s) fun p=>K p.1 p.2:=by
 have key:gy P X E ρ s (.call ⟨.builtin .append,#[x,y],#[t,t']⟩) = (ρ x).bind fun a=>(ρ y).bind fun b=>lH P t t' a b s:=by
  simp only [gy,List.mapM_cons,List.mapM_nil]
  cases hx:ρ x with
  | none=>rfl
  | some a =>
   cases hy:ρ y with
   | none=>rfl
   | some b=>rfl
 unfold cZ
 simp only [f5,bu,key]
 cases ρ x with
 | none=>rfl
 | some a =>
  cases ρ y with
  | none=>rfl
  | some b=>simp only [Option.bind_some,au]; cases lH P t t' a b s <;> rfl
theorem pU {n:Nat} {gl:List (Option Tmp)} {T:Tr AV} {Q:Tr AV->St->Prop}:iH P X E n gl [] T s Q = Q T s:=rfl
theorem mK {n:Nat} {gl:List (Option Tmp)} {T:Tr AV} {Q:Tr AV->St->Prop} {d:Tmp} {op:Op} {ty:TypeId} {pos:String} {af:Array Edge} {os:List Oper} :
  iH P X E n gl (⟨some d,op,ty,pos,af,none⟩ :: os) T s Q = cZ P X E (fZ T) s op fun v s'=>d < n/\iH P X E n gl os (T.set d (some v)) s' Q:=rfl
theorem mL {n:Nat} {gl:List (Option Tmp)} {T:Tr AV} {Q:Tr AV->St->Prop} {op:Op} {ty:TypeId} {pos:String} {af:Array Edge} {os:List Oper} :
  iH P X E n gl (⟨none,op,ty,pos,af,none⟩ :: os) T s Q = cZ P X E (fZ T) s op fun _ s'=>iH P X E n gl os T s' Q:=rfl
def IT (o:Option Bool) (A B:Prop):Prop:=match o with
 | some true=>A
 | some false=>B
 | none=>False
theorem ku (A B:Prop):IT (some true) A B = A:=rfl
theorem i7 (A B:Prop):IT (some false) A B = B:=rfl
theorem zT {n:Nat} {gl:List (Option Tmp)} {T:Tr AV} {Q:Tr AV->St->Prop} {d:Tmp} {op:Op} {ty:TypeId} {pos:String} {af:Array Edge} {g:Nat × Bool} {os:List Oper} :
  iH P X E n gl (⟨some d,op,ty,pos,af,some g⟩ :: os) T s Q = IT (iJ gl T (some g)) (cZ P X E (fZ T) s op fun v s'=>d < n/\iH P X E n gl os (T.set d (some v)) s' Q) (d < n/\iH P X E n gl os (T.set d (some (.tup []))) s Q):=by
 rw [iH]
 rcases iJ gl T (some g) with _ | _ | _ <;> rfl
theorem uy {n:Nat} {gl:List (Option Tmp)} {T:Tr AV} {Q:Tr AV->St->Prop} {op:Op} {ty:TypeId} {pos:String} {af:Array Edge} {g:Nat × Bool} {os:List Oper} :
  iH P X E n gl (⟨none,op,ty,pos,af,some g⟩ :: os) T s Q = IT (iJ gl T (some g)) (cZ P X E (fZ T) s op fun _ s'=>iH P X E n gl os T s' Q) (iH P X E n gl os T s Q):=by
 rw [iH]
 rcases iJ gl T (some g) with _ | _ | _ <;> rfl
theorem qr {gl:List (Option Tmp)} {T:Tr AV} {j:Nat} {b:Bool}:iJ gl T (some (j,b)) = match gl[j]? with
  | some (some t)=>match T.get t with
   | some (.b x)=>some (x == b)
   | some (.tup [])=>some false
   | _=>none
  | _=>none:=rfl
theorem AI (T:Tr AV) (t:Tmp):fZ T (.tmp t) = T.get t:=rfl
theorem sV (T:Tr AV) (v:Value):fZ T (.const v) = br v:=rfl
theorem wK (T:Tr AV) (f:FuncId):fZ T (.func f) = some (.fn f [] []):=rfl
theorem nS {z:Int} (h:0 <= z):nU (.i .i64 z) = some z.toNat:=by
 cases z with
 | ofNat k=>rfl
 | negSucc k=>exact absurd h (by omega)
theorem eE {a b:Nat} (h:a < b):Nat.blt a b = true:=by rw [Nat.blt_eq]; exact h
theorem cQ {a b:Nat} (h:a <= b):Nat.ble a b = true:=Nat.ble_eq_true_of_le h
theorem zO {z:Int} (h:-9223372036854775808 <= z) (h':z < 9223372036854775808):IntKind.i64.wrap z = z:=by
 unfold IntKind.wrap
 simp only [IntKind.bits,IntKind.signed]
 have e:(2:Int) ^ 64 = 18446744073709551616:=rfl
 have e2:(2:Int) ^ (64 - 1) = 9223372036854775808:=rfl
 simp only [e,e2]
 rcases Int.lt_or_le z 0 with hz | hz
 ·have h1:z % 18446744073709551616 = z + 18446744073709551616:=by omega
  rw [h1,if_pos (by simp; omega)]
  omega
 have h1:z % 18446744073709551616 = z:=Int.emod_eq_of_lt (by omega) (by omega)
 rw [h1,if_neg (by simp; omega)]
theorem KA (t:TypeId) (a b:Int):lG P .lss t (.i .i64 a) (.i .i64 b) = some (.b (decide (a < b))):=rfl
theorem KC (t:TypeId) (a b:Int):lG P .leq t (.i .i64 a) (.i .i64 b) = some (.b (decide (a <= b))):=rfl
theorem KE (t:TypeId) (a b:Int):lG P .gtr t (.i .i64 a) (.i .i64 b) = some (.b (decide (a > b))):=rfl
theorem KF (t:TypeId) (a b:Int):lG P .geq t (.i .i64 a) (.i .i64 b) = some (.b (decide (a ≥ b))):=rfl
theorem KG (t:TypeId) (a b:Int):lG P .eql t (.i .i64 a) (.i .i64 b) = some (.b (decide (a = b))):=rfl
theorem Ky (t:TypeId) (a b:Int):lG P .neq t (.i .i64 a) (.i .i64 b) = some (.b (!decide (a = b))):=rfl
theorem KH (t:TypeId) (a b:Int):lG P .add t (.i .i64 a) (.i .i64 b) = some (.i .i64 (IntKind.i64.wrap (a + b))):=rfl
theorem Kx (t:TypeId) (a b:Int):lG P .sub t (.i .i64 a) (.i .i64 b) = some (.i .i64 (IntKind.i64.wrap (a - b))):=rfl
theorem Kz (t:TypeId) (a b:Int):lG P .mul t (.i .i64 a) (.i .i64 b) = some (.i .i64 (IntKind.i64.wrap (a * b))):=rfl
end
section
variable {P:Program} {X:dY} {E:Ev} {ρ:Operand->Option AV} {s:St} {K:AV->St->Prop}
theorem EP {t:TypeId} (h:kr P t = some false) (c:List AV) (o:Nat):fx P t c o = c[o]?:=by unfold fx; rw [h]
theorem ER {t:TypeId} {n:Nat} (h:kr P t = some true)(hz:bk P t = some n) (c:List AV) (o:Nat):fx P t c o = (getR c o n).map .agg:=by unfold fx; rw [h,hz]
def Ei (s:St) (n:Nat) (v:AV) (o f:Nat):Option AO->Option St
 | some (.cells c e op)=>cond (Nat.beq v.cells.length n && Nat.ble (f + n) c.length && v.cells.all flat) (some (s.set o (.cells (cY c f v.cells) e op))) none
 | _=>none
theorem sQ {t:TypeId} {n:Nat} (hz:bk P t = some n) (s:St) (v:AV) (o f:Nat):gF P s t v (.ptr o f) = Ei s n v o f (s.h.get o):=by
 unfold gF Ei
 simp only [hz]
 generalize s.h.get o = y
 cases y with
 | none=>rfl
 | some x=>cases x <;> rfl
theorem IW {t e:TypeId} {z:Nat} (hu:P.underlying t = some (.slice e))(hz:bk P e = some z) {i:Int} {n:Nat} (h:0 <= i)(h1:i.toNat < n) (o f c:Nat):oE P t (.sl o f n c) (.i .i64 i) = some (.ptr o (f + i.toNat * z)):=by
 unfold oE
 rw [hu,nS h]
 simp only [hz,eE h1,cond_true]
theorem IV {t e:TypeId} {z:Nat} (hu:P.underlying t = some (.slice e))(hz:bk P e = some z) {i:Int} {n:Nat} (h:0 <= i)(h1:i.toNat < n) (c:List AV):oE P t (.vw c n) (.i .i64 i) = some (.vp c (i.toNat * z)):=by
 unfold oE
 rw [hu,nS h]
 simp only [hz,eE h1,cond_true]
def CG:AV->Option AV
 | .sl _ _ n _=>some (.i .i64 n)
 | .vw _ n=>some (.i .i64 n)
 | .snil=>some (.i .i64 0)
 | _=>none
theorem Mi {t e:TypeId} (hu:P.underlying t = some (.slice e)) (x:Operand):cZ P X E ρ s (.call ⟨.builtin .len,#[x],#[t]⟩) K = aw (ρ x) fun a=>aw (CG a) fun v=>K v s:=by
 unfold cZ
 simp only [f5,bu,dL,hu]
 cases ρ x with
 | none=>rfl
 | some v=>cases v <;> rfl
theorem sZ (t:TypeId) (o f:Nat):ig P s t (.ptr o f) = match s.h.get o with | some (.cells c _ _)=>fx P t c f | _=>none:=rfl
theorem wZ (t:TypeId) (c:List AV) (f:Nat):ig P s t (.vp c f) = fx P t c f:=rfl
end
section
variable {P:Program} {X:dY} {E:Ev} {ρ:Operand->Option AV}
def DA (ex:List (Nat × Nat)) (i:Nat) (ns:List Nat):List (Nat × St × St)->Prop
 | []=>True
 | e :: W=>(sC ex i e.1 ∨ eg ns e.2.1 e.2.2)/\DA ex i ns W
def Cy (ex:List (Nat × Nat)) (i:Nat) (s s':St):List (Nat × List Nat)->Prop
 | []=>True
 | r :: R=>(sC ex i r.1 ∨ eg r.2 s s')/\Cy ex i s s' R
theorem AM {ex:List (Nat × Nat)} {i:Nat} {ns:List Nat}:∀ {W:List (Nat × St × St)},DA ex i ns W->∀ e ∈ W,sC ex i e.1 ∨ eg ns e.2.1 e.2.2
 | [],_,e,he=>by cases he
 | e :: W,h,e',he=>by
  rcases List.mem_cons.1 he with rfl | he
  ·exact h.1
  exact AM h.2 e' he
theorem AK {ex:List (Nat × Nat)} {i:Nat} {s s':St}:∀ {R:List (Nat × List Nat)},Cy ex i s s' R->∀ r ∈ R,sC ex i r.1 ∨ eg r.2 s s'
 | [],_,e,he=>by cases he
 | e :: W,h,e',he=>by
  rcases List.mem_cons.1 he with rfl | he
  ·exact h.1
  exact AK h.2 e' he
def dW (ex:List (Nat × Nat)) (i:Nat) (op:Op) (ρ:Operand->Option AV) (s s':St) (R:List (Nat × List Nat)) (W:List (Nat × St × St)) (k:List (Nat × List Nat)->List (Nat × St × St)->Prop):Prop :=
 match bE op with
 | true=>aw (yz ρ s op) fun ns=>DA ex i ns W/\k ((i,ns) :: R) W
 | false=>match bu op with
  | .ef=>Cy ex i s s' R/\k R ((i,s,s') :: W)
  | _=>k R W
def r5 (P:Program) (X:dY) (E:Ev) (n:Nat) (gl:List (Option Tmp)) (ex:List (Nat × Nat)):Nat->List Oper->Tr AV->St->List (Nat × List Nat)->List (Nat × St × St)->(Tr AV->St->Prop)->Prop
 | _,[],T,s,_,_,K=>K T s
 | i,o :: os,T,s,R,W,K=>IT (iJ gl T o.guard) (cZ P X E (fZ T) s o.op fun v s'=>dW ex i o.op (fZ T) s s' R W fun R W=>nc n o.dst v T fun T'=>r5 P X E n gl ex (i + 1) os T' s' R W K) (nc n o.dst (.tup []) T fun T'=>r5 P X E n gl ex (i + 1) os T' s R W K)
theorem kf {n:Nat} {d:Option Tmp} {v:AV} {T:Tr AV} {K K':Tr AV->Prop} (h:nc n d v T K)(hk:∀ T,K T->K' T):nc n d v T K':=by
 cases d with
 | none=>exact hk _ h
 | some d=>exact ⟨h.1,hk _ h.2⟩
theorem Ik {s:St} {o:Op} {K K':AV->St->Prop} (h:cZ P X E ρ s o K)(hk:∀ v s',K v s'->K' v s'):cZ P X E ρ s o K':=by
 unfold cZ at h ⊢
 split at h
 ·exact hk _ _ h
 exact h.elim
theorem sF {n:Nat} {gl:List (Option Tmp)} {ex:List (Nat × Nat)}:∀ {os:List Oper} {i:Nat} {T:Tr AV} {s:St} {R:List (Nat × List Nat)} {W:List (Nat × St × St)} {K:Tr AV->St->Prop},r5 P X E n gl ex i os T s R W K->Dz P X E n gl ex i os T s R W K
 | [],_,_,_,_,_,_,h=>h
 | o :: os,i,T,s,R,W,K,h=>by
  simp only [r5] at h
  simp only [Dz]
  cases hw:iJ gl T o.guard with
  | none=>rw [hw] at h; exact h.elim
  | some b =>
   rw [hw] at h
   cases b with
   | false=>rw [i7] at h; exact kf h fun T' h=>sF h
   | true =>
    rw [ku] at h
    refine Ik h fun v s' h=>?_
    unfold dW at h
    cases hl:bE o.op with
    | true =>
     rw [hl] at h
     simp only at h
     cases hr:yz (fZ T) s o.op with
     | none=>rw [hr] at h; exact h.elim
     | some ns =>
      rw [hr] at h
      exact kf h.2 fun T' h'=>⟨AM h.1,sF h'⟩
    | false =>
     rw [hl] at h
     simp only at h
     unfold bJ
     cases hk:bu o.op with
     | ef=>rw [hk] at h; exact kf h.2 fun T' h'=>⟨AK h.1,sF h'⟩
     | rd=>rw [hk] at h; exact kf h fun T' h'=>sF h'
     | al=>rw [hk] at h; exact kf h fun T' h'=>sF h'
variable {n:Nat} {gl:List (Option Tmp)} {ex:List (Nat × Nat)} {i:Nat} {T:Tr AV} {s s':St} {R:List (Nat × List Nat)} {W:List (Nat × St × St)} {Q:Tr AV->St->Prop} {os:List Oper} {ty:TypeId} {pos:String} {af:Array Edge} {op:Op} {k:List (Nat × List Nat)->List (Nat × St × St)->Prop}
theorem pV:r5 P X E n gl ex i [] T s R W Q = Q T s:=rfl
theorem mN {d:Tmp}:r5 P X E n gl ex i (⟨some d,op,ty,pos,af,none⟩ :: os) T s R W Q = cZ P X E (fZ T) s op fun v s'=>dW ex i op (fZ T) s s' R W fun R W=>d < n/\r5 P X E n gl ex (i + 1) os (T.set d (some v)) s' R W Q:=rfl
theorem mO:r5 P X E n gl ex i (⟨none,op,ty,pos,af,none⟩ :: os) T s R W Q = cZ P X E (fZ T) s op fun _ s'=>dW ex i op (fZ T) s s' R W fun R W=>r5 P X E n gl ex (i + 1) os T s' R W Q:=rfl
theorem zY {d:Tmp} {g:Nat × Bool}:r5 P X E n gl ex i (⟨some d,op,ty,pos,af,some g⟩ :: os) T s R W Q = IT (iJ gl T (some g)) (cZ P X E (fZ T) s op fun v s'=>dW ex i op (fZ T) s s' R W fun R W=>d < n/\r5 P X E n gl ex (i + 1) os (T.set d (some v)) s' R W Q) (d < n/\r5 P X E n gl ex (i + 1) os (T.set d (some (.tup []))) s R W Q):=rfl
theorem uz {g:Nat × Bool}:r5 P X E n gl ex i (⟨none,op,ty,pos,af,some g⟩ :: os) T s R W Q = IT (iJ gl T (some g)) (cZ P X E (fZ T) s op fun _ s'=>dW ex i op (fZ T) s s' R W fun R W=>r5 P X E n gl ex (i + 1) os T s' R W Q) (r5 P X E n gl ex (i + 1) os T s R W Q):=rfl
theorem AL {ns:List Nat}:DA ex i ns [] = True:=rfl
theorem wO {ns:List Nat} {j:Nat} {a b:St}:DA ex i ns ((j,a,b) :: W) = ((sC ex i j ∨ eg ns a b)/\DA ex i ns W):=rfl
theorem wN {ns:List Nat} {j:Nat} {a:St}:DA ex i ns ((j,a,a) :: W) = DA ex i ns W:=by
 have:eg ns a a:=fun _ _=>rfl
 simp only [DA,this,or_true,true_and]
theorem AJ:Cy ex i s s' [] = True:=rfl
theorem wM {j:Nat} {ns:List Nat}:Cy ex i s s' ((j,ns) :: R) = ((sC ex i j ∨ eg ns s s')/\Cy ex i s s' R):=rfl
theorem wL:Cy ex i s s R = True:=by
 induction R with
 | nil=>rfl
 | cons r R ih=>rw [Cy,ih]; simp [eg]
theorem sR:eg [] s s' = True:=by simp [eg]
theorem qK {o:Nat} {ns:List Nat}:eg (o :: ns) s s' = (s'.h.get o = s.h.get o/\eg ns s s'):=by simp [eg]
theorem BU {j:Nat}:sC [] i j = False:=by simp [sC]
theorem yu {a b j:Nat} {l:List (Nat × Nat)}:sC ((a,b) :: l) i j = ((i = a/\j = b) ∨ sC l i j):=by simp [sC]
theorem qa (x:Operand):dW ex i (.move x) ρ s s' R W k = k R W:=rfl
theorem kY (x:Operand):dW ex i (.assign x) ρ s s' R W k = k R W:=rfl
theorem p9 (x y z:Operand):dW ex i (.pick x y z) ρ s s' R W k = k R W:=rfl
theorem qc (t:TypeId) (x:Operand):dW ex i (.load t x) ρ s s' R W k = aw (ρ x) fun p=>aw (match p with | .ptr o _=>(s.h.get o).map fun _=>[o] | .vp _ _=>some [] | _=>none) fun ns=>DA ex i ns W/\k ((i,ns) :: R) W:=by
 unfold dW
 simp only [bE,yz]
 cases ρ x with
 | none=>rfl
 | some p=>cases p <;> rfl
theorem uQ (o:BinOp) (t:TypeId) (x y:Operand) (yt:TypeId):dW ex i (.binOp o t x y yt) ρ s s' R W k = k R W:=rfl
theorem AP (o:UnOp) (t:TypeId) (x:Operand):dW ex i (.unOp o t x) ρ s s' R W k = k R W:=rfl
theorem ic (x:Operand):dW ex i (.nilCheck x) ρ s s' R W k = k R W:=rfl
theorem gn (t:TypeId) (x:Operand) (f:Nat):dW ex i (.fieldAddr t x f) ρ s s' R W k = k R W:=rfl
theorem nk (t:TypeId) (x:Operand) (f:Nat):dW ex i (.field t x f) ρ s s' R W k = k R W:=rfl
theorem gm (t:TypeId) (x y:Operand):dW ex i (.indexAddr t x y) ρ s s' R W k = k R W:=rfl
theorem jt (x:Operand) (j:Nat):dW ex i (.extract x j) ρ s s' R W k = k R W:=rfl
theorem ni (t:TypeId) (x:Operand) (a b c:Option Operand):dW ex i (.slice t x a b c) ρ s s' R W k = k R W:=rfl
theorem np (t:TypeId) (ps:Array (Nat × Operand)):dW ex i (.build t ps) ρ s s' R W k = k R W:=rfl
theorem nr (t:TypeId):dW ex i (.alloc t) ρ s s' R W k = k R W:=rfl
theorem uP (t:TypeId) (x:Operand):dW ex i (.box t x) ρ s s' R W k = k R W:=rfl
theorem gj (t:TypeId) (x y:Operand):dW ex i (.makeSlice t x y) ρ s s' R W k = k R W:=rfl
theorem fN (t:TypeId) (m:Nat) (ps:Array (Nat × Operand)):dW ex i (.buildSlice t m ps) ρ s s' R W k = k R W:=rfl
theorem js (t:TypeId) (x:Option Operand):dW ex i (.makeMap t x) ρ s s' R W k = k R W:=rfl
theorem nh (t:TypeId) (x y:Operand):dW ex i (.store t x y) ρ s s' R W k = (Cy ex i s s' R/\k R ((i,s,s') :: W)):=rfl
theorem qe (f:Operand) (xs:Array Operand) (ts:Array TypeId):dW ex i (.call ⟨.value f,xs,ts⟩) ρ s s' R W k = (Cy ex i s s' R/\k R ((i,s,s') :: W)):=rfl
theorem kZ (xs:Array Operand) (ts:Array TypeId):dW ex i (.call ⟨.builtin .append,xs,ts⟩) ρ s s' R W k = (Cy ex i s s' R/\k R ((i,s,s') :: W)):=rfl
theorem uO (x:Operand) (ts:Array TypeId):dW ex i (.call ⟨.builtin .len,#[x],ts⟩) ρ s s' R W k = aw (match ρ x with | some (.mp o)=>(s.h.get o).map fun _=>[o] | _=>some []) fun ns=>DA ex i ns W/\k ((i,ns) :: R) W:=by
 unfold dW
 simp only [bE,yz]
 rfl
end
theorem ny (ρ:Operand->Option AV) (k:List AV->Prop):uT ρ [] k = k []:=rfl
theorem lg (ρ:Operand->Option AV) (x:Operand) (l:List Operand) (k:List AV->Prop):uT ρ (x :: l) k = aw (ρ x) fun v=>uT ρ l fun vs=>k (v :: vs):=rfl
theorem x5 (E:Ev) (f:FuncId) (asn:List AV) (s:St):rL E (.fn f [] []) asn s = E.call f asn s:=by simp [rL]
theorem Bb (o f n c:Nat):CG (.sl o f n c) = some (.i .i64 n):=rfl
theorem Ba (c:List AV) (n:Nat):CG (.vw c n) = some (.i .i64 n):=rfl
theorem xb:CG .snil = some (.i .i64 0):=rfl
theorem tY (l:List AV):AV.cells (.agg l) = l:=rfl
theorem Bs (x:Bool):AV.cells (.b x) = [.b x]:=rfl
theorem Br (k:IntKind) (n:Int):AV.cells (.i k n) = [.i k n]:=rfl
theorem xV (o f n c:Nat):AV.cells (.sl o f n c) = [.sl o f n c]:=rfl
theorem rH:AV.cells .snil = [.snil]:=rfl
theorem xU (c:List AV) (n:Nat):AV.cells (.vw c n) = [.vw c n]:=rfl
theorem tX (n:Nat):AV.cells (.num n) = [.num n]:=rfl
theorem xW (o:Nat):AV.cells (.mp o) = [.mp o]:=rfl
theorem tW (o f:Nat):AV.cells (.ptr o f) = [.ptr o f]:=rfl
theorem Nc (x:Bool):br (.bool x) = some (.b x):=rfl
theorem Nb (k:IntKind) (n:Int):br (.int k n) = some (.i k n):=rfl
theorem Kj:br (.pointer none) = some .pnil:=rfl
theorem Ki:br (.slice none 0 0) = some .snil:=rfl
theorem Kk:br (.map none) = some .mnil:=rfl
theorem Kl:br .nilFunc = some .fnil:=rfl
theorem E1 (l:List Value):br (.agg ⟨l⟩) = (eZ l).map .agg:=rfl
theorem E0:eZ [] = some []:=rfl
theorem AN (v:Value) (l:List Value):eZ (v :: l) = match br v with | some x=>(eZ l).map (x :: ·) | none=>none:=rfl
theorem JY {α β:Type} (f:α->β) (a:α):Option.map f (some a) = some (f a):=rfl
theorem JZ {α β:Type} (f:α->β):Option.map f none = none:=rfl
theorem J1 {α β:Type} (f:α->Option β) (a:α):Option.bind (some a) f = f a:=rfl
theorem Mz {α:Type} (a:α) (l:List α):(a :: l).length = l.length + 1:=rfl
theorem My {α:Type}:([]:List α).length = 0:=rfl
theorem ME {α:Type} (a b:α):cond true a b = a:=rfl
theorem MF {α:Type} (a b:α):cond false a b = b:=rfl
theorem zM {α:Type} (x:α) (l:List α):(x :: l)[0]? = some x:=rfl
theorem zL {α:Type} (x:α) (l:List α) (i:Nat):(x :: l)[i + 1]? = l[i]?:=rfl
theorem J2 {α:Type} (i:Nat):([]:List α)[i]? = none:=rfl
theorem zK {α:Type} (l:List α):getR l 0 0 = some []:=rfl
theorem u5 {α:Type} (x:α):∀ (n o:Nat) (l:List α),getR (x :: l) (o + 1) n = getR l o n
 | 0,_,_=>rfl
 | n + 1,o,l=>by simp only [getR,List.getElem?_cons_succ,u5 x n (o + 1) l]
theorem zJ {α:Type} (x:α) (l:List α) (o n:Nat):getR (x :: l) (o + 1) n = getR l o n:=u5 x n o l
theorem uw {α:Type} (x:α) (l:List α) (n:Nat):getR (x :: l) 0 (n + 1) = (getR l 0 n).map (x :: ·):=by simp only [getR,List.getElem?_cons_zero,u5]
theorem zI {α:Type} (l:List α) (o:Nat):cY l o [] = l:=rfl
theorem zH {α:Type} (l:List α) (o:Nat) (x:α) (xs:List α):cY l o (x :: xs) = cY (l.set o x) (o + 1) xs:=rfl
theorem DW {α:Type} (x y:α) (l:List α):(x :: l).set 0 y = y :: l:=rfl
theorem DS {α:Type} (x y:α) (l:List α) (i:Nat):(x :: l).set (i + 1) y = x :: l.set i y:=rfl
theorem DT {α:Type} (y:α) (i:Nat):([]:List α).set i y = []:=rfl
theorem DY:([]:List AV).all flat = true:=rfl
theorem DX (x:AV) (l:List AV):(x :: l).all flat = (flat x && l.all flat):=rfl
theorem uv {α β:Type} (f:α->β):List.map f [] = []:=rfl
theorem pT {α β:Type} (f:α->β) (x:α) (l:List α):List.map f (x :: l) = f x :: List.map f l:=rfl
theorem zN {α:Type} (l:List α):(Array.mk l).toList = l:=rfl
theorem lZ:(!true) = false:=rfl
theorem kJ:(!false) = true:=rfl
theorem Gh:(true == true) = true:=rfl
theorem Gi:(true == false) = false:=rfl
theorem Gj:(false == true) = false:=rfl
theorem Gk:(false == false) = true:=rfl
theorem FD (x:Bool):flat (.b x) = true:=rfl
theorem xA (o f:Nat):flat (.ptr o f) = true:=rfl
theorem Bk (o f n c:Nat):flat (.sl o f n c) = true:=rfl
theorem tF:flat .snil = true:=rfl
theorem Bj (c:List AV) (n:Nat):flat (.vw c n) = true:=rfl
theorem xB (n:Nat):flat (.num n) = true:=rfl
theorem Bl (n:Nat):flat (.mp n) = true:=rfl
theorem xC (z:Int):flat (.i .i64 z) = true:=rfl
theorem xN {p:Prop} [Decidable p] (h:p):decide p = true:=decide_eq_true h
theorem tT {p:Prop} [Decidable p] (h:¬ p):decide p = false:=decide_eq_false h
theorem Mx (b:Bool):(true && b) = b:=rfl
theorem MA (b:Bool):(false && b) = false:=rfl
theorem JX:(true = true) = True:=by simp
theorem J3 (a:Int):(a = a) = True:=by simp
theorem J0 (a:Option AO):(a = a) = True:=by simp
theorem Ak (s:St) (n:Nat) (v:AV) (o f:Nat) (c:List AV) (e:TypeId) (op:Bool):Ei s n v o f (some (.cells c e op)) = cond (Nat.beq v.cells.length n && Nat.ble (f + n) c.length && v.cells.all flat) (some (s.set o (.cells (cY c f v.cells) e op))) none:=rfl
theorem jh (n:Nat):Nat.beq n n = true:=by simp
theorem Nq:type_of% (And.intro @pT (And.intro @uv @zN)):=And.intro @pT (And.intro @uv @zN)
def o8 {α:Type} (a:α):α:=a
theorem iE.r {K:Fr->St->Prop} {Q:Ex->Fr->St->Prop} {fr:Fr} {s:St} (h:Q .ret fr s):iE K Q .ret fr s:=h
theorem vT {α:Type} (a:α):o8 a = a:=rfl
theorem zX {P:Program} {X:dY} {E:Ev} {n:Nat} {gl:List (Option Tmp)} {T:Tr AV} {s:St} {Q:Tr AV->St->Prop} (l:List Oper):iH P X E n gl (l.toArray).toList T s Q = iH P X E n gl l T s Q:=rfl
theorem zZ {P:Program} {X:dY} {E:Ev} {n:Nat} {gl:List (Option Tmp)} {ex:List (Nat × Nat)} {i:Nat} {T:Tr AV} {s:St} {R:List (Nat × List Nat)} {W:List (Nat × St × St)} {Q:Tr AV->St->Prop} (l:List Oper):r5 P X E n gl ex i (l.toArray).toList T s R W Q = r5 P X E n gl ex i l T s R W Q:=rfl
theorem wS (ρ:Operand->Option AV) (l:List Operand) (k:List AV->Prop):uT ρ (l.toArray).toList k = uT ρ l k:=rfl
theorem zS {P:Program} {X:dY} {E:Ev} {n:Nat} {gl:List (Option Tmp)} {T:Tr AV} {s:St} {Q:Tr AV->St->Prop} (l:List Oper):iH P X E n gl (List.take 0 l) T s Q = Q T s:=rfl
theorem zQ {P:Program} {X:dY} {E:Ev} {n:Nat} {gl:List (Option Tmp)} {T:Tr AV} {s:St} {Q:Tr AV->St->Prop} (o:Oper) (l:List Oper) (k:Nat):iH P X E n gl (List.take (k + 1) (o :: l)) T s Q = iH P X E n gl (o :: List.take k l) T s Q:=rfl
theorem zR {P:Program} {X:dY} {E:Ev} {n:Nat} {gl:List (Option Tmp)} {T:Tr AV} {s:St} {Q:Tr AV->St->Prop} (l:List Oper) (k:Nat):iH P X E n gl (List.take k (l.toArray).toList) T s Q = iH P X E n gl (List.take k l) T s Q:=rfl
theorem zW {P:Program} {X:dY} {E:Ev} {n:Nat} {gl:List (Option Tmp)} {T:Tr AV} {s:St} {Q:Tr AV->St->Prop} (l:List Oper):iH P X E n gl (List.drop 0 l) T s Q = iH P X E n gl l T s Q:=rfl
theorem zU {P:Program} {X:dY} {E:Ev} {n:Nat} {gl:List (Option Tmp)} {T:Tr AV} {s:St} {Q:Tr AV->St->Prop} (o:Oper) (l:List Oper) (k:Nat):iH P X E n gl (List.drop (k + 1) (o :: l)) T s Q = iH P X E n gl (List.drop k l) T s Q:=rfl
theorem zV {P:Program} {X:dY} {E:Ev} {n:Nat} {gl:List (Option Tmp)} {T:Tr AV} {s:St} {Q:Tr AV->St->Prop} (l:List Oper) (k:Nat):iH P X E n gl (List.drop k (l.toArray).toList) T s Q = iH P X E n gl (List.drop k l) T s Q:=rfl
theorem ev:type_of% (And.intro @vT (And.intro @J0 (And.intro @J3 (And.intro @JX (And.intro @MA (And.intro @Mx (And.intro @Tr.of_set (And.intro @Tr.of_get (And.intro @fH (And.intro @xy (And.intro @St.of_nil (And.intro @St.of_new (And.intro @St.of_set (And.intro @St.of_drop (And.intro @St.of_nx (And.intro @St.of_get (And.intro @fG (And.intro @xx (And.intro @au (And.intro @nQ (And.intro @vF (And.intro @nX (And.intro @vE (And.intro @vG (And.intro @qm (And.intro @BQ (And.intro @BO (And.intro @jB (And.intro @iv (And.intro @qo (And.intro @iu (And.intro @lB (And.intro @BP (And.intro @qp (And.intro @vH (And.intro @nY (And.intro @pU (And.intro @mK (And.intro @mL (And.intro @ku (And.intro @i7 (And.intro @zT (And.intro @uy (And.intro @qr (And.intro @AI (And.intro @sV (And.intro @wK (And.intro @nS (And.intro @zO (And.intro @KA (And.intro @KC (And.intro @KE (And.intro @KF (And.intro @KG (And.intro @Ky (And.intro @KH (And.intro @Kx (And.intro @Kz (And.intro @sZ (And.intro @wZ (And.intro @ny (And.intro @lg (And.intro @x5 (And.intro @Bb (And.intro @Ba (And.intro @xb (And.intro @tY (And.intro @Bs (And.intro @Br (And.intro @xV (And.intro @rH (And.intro @xU (And.intro @tX (And.intro @xW (And.intro @tW (And.intro @Nc (And.intro @Nb (And.intro @Kj (And.intro @Ki (And.intro @Kk (And.intro @Kl (And.intro @E1 (And.intro @E0 (And.intro @AN (And.intro @pV (And.intro @mN (And.intro @mO (And.intro @zY (And.intro @uz (And.intro @AL (And.intro @wO (And.intro @wN (And.intro @AJ (And.intro @wM (And.intro @wL (And.intro @sR (And.intro @qK (And.intro @BU (And.intro @yu (And.intro @qa (And.intro @kY (And.intro @p9 (And.intro @qc (And.intro @uQ (And.intro @AP (And.intro @ic (And.intro @gn (And.intro @nk (And.intro @gm (And.intro @jt (And.intro @ni (And.intro @np (And.intro @nr (And.intro @uP (And.intro @gj (And.intro @fN (And.intro @js (And.intro @nh (And.intro @qe (And.intro @kZ (And.intro @uO (And.intro @JY (And.intro @J1 (And.intro @JZ (And.intro @Nat.zero_add (And.intro @Mz (And.intro @My (And.intro @zM (And.intro @zL (And.intro @J2 (And.intro @zK (And.intro @zJ (And.intro @uw (And.intro @zI (And.intro @zH (And.intro @DW (And.intro @DS (And.intro @DT (And.intro @DY (And.intro @DX (And.intro @uv (And.intro @pT (And.intro @lZ (And.intro @kJ (And.intro @Gh (And.intro @Gi (And.intro @Gj (And.intro @Gk (And.intro @FD (And.intro @xA (And.intro @Bk (And.intro @tF (And.intro @Bj (And.intro @xB (And.intro @Bl (And.intro @xC (And.intro @zN (And.intro @ME (And.intro @MF (And.intro @xN (And.intro @tT (And.intro @Ak (And.intro @jh (And.intro @cQ @eE)))))))))))))))))))))))))))))))))))))))))))))))))))))))))))))))))))))))))))))))))))))))))))))))))))))))))))))))))))))))))))))))))))))))))))))))))))))))))))))))))))):=(And.intro @vT (And.intro @J0 (And.intro @J3 (And.intro @JX (And.intro @MA (And.intro @Mx (And.intro @Tr.of_set (And.intro @Tr.of_get (And.intro @fH (And.intro @xy (And.intro @St.of_nil (And.intro @St.of_new (And.intro @St.of_set (And.intro @St.of_drop (And.intro @St.of_nx (And.intro @St.of_get (And.intro @fG (And.intro @xx (And.intro @au (And.intro @nQ (And.intro @vF (And.intro @nX (And.intro @vE (And.intro @vG (And.intro @qm (And.intro @BQ (And.intro @BO (And.intro @jB (And.intro @iv (And.intro @qo (And.intro @iu (And.intro @lB (And.intro @BP (And.intro @qp (And.intro @vH (And.intro @nY (And.intro @pU (And.intro @mK (And.intro @mL (And.intro @ku (And.intro @i7 (And.intro @zT (And.intro @uy (And.intro @qr (And.intro @AI (And.intro @sV (And.intro @wK (And.intro @nS (And.intro @zO (And.intro @KA (And.intro @KC (And.intro @KE (And.intro @KF (And.intro @KG (And.intro @Ky (And.intro @KH (And.intro @Kx (And.intro @Kz (And.intro @sZ (And.intro @wZ (And.intro @ny (And.intro @lg (And.intro @x5 (And.intro @Bb (And.intro @Ba (And.intro @xb (And.intro @tY (And.intro @Bs (And.intro @Br (And.intro @xV (And.intro @rH (And.intro @xU (And.intro @tX (And.intro @xW (And.intro @tW (And.intro @Nc (And.intro @Nb (And.intro @Kj (And.intro @Ki (And.intro @Kk (And.intro @Kl (And.intro @E1 (And.intro @E0 (And.intro @AN (And.intro @pV (And.intro @mN (And.intro @mO (And.intro @zY (And.intro @uz (And.intro @AL (And.intro @wO (And.intro @wN (And.intro @AJ (And.intro @wM (And.intro @wL (And.intro @sR (And.intro @qK (And.intro @BU (And.intro @yu (And.intro @qa (And.intro @kY (And.intro @p9 (And.intro @qc (And.intro @uQ (And.intro @AP (And.intro @ic (And.intro @gn (And.intro @nk (And.intro @gm (And.intro @jt (And.intro @ni (And.intro @np (And.intro @nr (And.intro @uP (And.intro @gj (And.intro @fN (And.intro @js (And.intro @nh (And.intro @qe (And.intro @kZ (And.intro @uO (And.intro @JY (And.intro @J1 (And.intro @JZ (And.intro @Nat.zero_add (And.intro @Mz (And.intro @My (And.intro @zM (And.intro @zL (And.intro @J2 (And.intro @zK (And.intro @zJ (And.intro @uw (And.intro @zI (And.intro @zH (And.intro @DW (And.intro @DS (And.intro @DT (And.intro @DY (And.intro @DX (And.intro @uv (And.intro @pT (And.intro @lZ (And.intro @kJ (And.intro @Gh (And.intro @Gi (And.intro @Gj (And.intro @Gk (And.intro @FD (And.intro @xA (And.intro @Bk (And.intro @tF (And.intro @Bj (And.intro @xB (And.intro @Bl (And.intro @xC (And.intro @zN (And.intro @ME (And.intro @MF (And.intro @xN (And.intro @tT (And.intro @Ak (And.intro @jh (And.intro @cQ @eE))))))))))))))))))))))))))))))))))))))))))))))))))))))))))))))))))))))))))))))))))))))))))))))))))))))))))))))))))))))))))))))))))))))))))))))))))))))))))))))))))))
theorem FG:type_of% (And.intro @zV (And.intro @zU (And.intro @zW (And.intro @zR (And.intro @zQ (And.intro @zS (And.intro @wS (And.intro @zZ (And.intro @zX (And.intro @au (And.intro @nQ (And.intro @vF (And.intro @nX (And.intro @vE (And.intro @vG (And.intro @qm (And.intro @BQ (And.intro @BO (And.intro @jB (And.intro @iv (And.intro @qo (And.intro @iu (And.intro @lB (And.intro @BP (And.intro @qp (And.intro @vH (And.intro @nY (And.intro @pU (And.intro @mK (And.intro @mL (And.intro @ku (And.intro @i7 (And.intro @zT (And.intro @uy (And.intro @ny (And.intro @lg (And.intro @pV (And.intro @mN (And.intro @mO (And.intro @zY (And.intro @uz (And.intro @qa (And.intro @kY (And.intro @p9 (And.intro @qc (And.intro @uQ (And.intro @AP (And.intro @ic (And.intro @gn (And.intro @nk (And.intro @gm (And.intro @jt (And.intro @ni (And.intro @np (And.intro @nr (And.intro @uP (And.intro @gj (And.intro @fN (And.intro @js (And.intro @nh (And.intro @qe (And.intro @kZ @uO)))))))))))))))))))))))))))))))))))))))))))))))))))))))))))))):=(And.intro @zV (And.intro @zU (And.intro @zW (And.intro @zR (And.intro @zQ (And.intro @zS (And.intro @wS (And.intro @zZ (And.intro @zX (And.intro @au (And.intro @nQ (And.intro @vF (And.intro @nX (And.intro @vE (And.intro @vG (And.intro @qm (And.intro @BQ (And.intro @BO (And.intro @jB (And.intro @iv (And.intro @qo (And.intro @iu (And.intro @lB (And.intro @BP (And.intro @qp (And.intro @vH (And.intro @nY (And.intro @pU (And.intro @mK (And.intro @mL (And.intro @ku (And.intro @i7 (And.intro @zT (And.intro @uy (And.intro @ny (And.intro @lg (And.intro @pV (And.intro @mN (And.intro @mO (And.intro @zY (And.intro @uz (And.intro @qa (And.intro @kY (And.intro @p9 (And.intro @qc (And.intro @uQ (And.intro @AP (And.intro @ic (And.intro @gn (And.intro @nk (And.intro @gm (And.intro @jt (And.intro @ni (And.intro @np (And.intro @nr (And.intro @uP (And.intro @gj (And.intro @fN (And.intro @js (And.intro @nh (And.intro @qe (And.intro @kZ @uO))))))))))))))))))))))))))))))))))))))))))))))))))))))))))))))
def pick (f:FuncId):List (FuncId × (List AV->St->Option (AV × St)))->Option (List AV->St->Option (AV × St))
 | []=>none
 | p :: l=>cond (Nat.beq f p.1) (some p.2) (pick f l)
theorem pZ {P:Program} {f:FuncId} {g:List AV->St->Option (AV × St)}:∀ {l:List (FuncId × (List AV->St->Option (AV × St)))},(∀ p ∈ l,ag P p.1 p.2)->pick f l = some g->ag P f g
 | [],_,h=>by cases h
 | p :: l,ha,h=>by
  simp only [pick] at h
  cases e:Nat.beq f p.1 with
  | true =>
   rw [e] at h
   simp only [cond_true,Option.some.injEq] at h
   subst h
   rw [Nat.eq_of_beq_eq_true e]
   exact ha p (List.mem_cons_self ..)
  | false =>
   rw [e] at h
   exact pZ (fun q hq=>ha q (List.mem_cons_of_mem _ hq)) h
def df (l:List (FuncId × (List AV->St->Option (AV × St)))):dY:=⟨fun f=>pick f l,fun _ _=>none⟩
structure Mc (P:Program) (X:dY) (E:Ev):Prop where
 is:∃ k,E = Ev.at_ P X k/\cX P (Ev.at_ P X k)/\cX P (Ev.at_ P X (k + 1))
theorem pn {P:Program} (hl:laidOutB P = true)(hmo:P.follows .mixedOrders = true) {l:List (FuncId × (List AV->St->Option (AV × St)))} (ha:∀ p ∈ l,ag P p.1 p.2):Mc P (df l) (Ev.at_ P (df l) 1) :=
 ⟨1,rfl,x7 hl hmo (fun t m f via h=>by cases h) (fun {f g} h=>pZ ha h) _,x7 hl hmo (fun t m f via h=>by cases h) (fun {f g} h=>pZ ha h) _⟩
section
variable {bb:Nat} {P:Program} {X:dY} {E:Ev} {f:FuncId} {n:Nat} {T:Tr AV} {rd:Option Nat} {ms:List Nat} {s:St} {Q:Ex->Fr->St->Prop} {id:Nat} {ops:Array Oper}
theorem Jd.reg (M:Mc P X E) (gl:List (Option Tmp))(hgl:ops.toList.map (·.dst) = gl)(h:iH P X E n gl ops.toList T s fun T s=>Q .normal ⟨f,n,T,rd,ms⟩ s):Jb bb P (.region id ops false) ⟨f,n,T,rd,ms⟩ s Q:=by
 obtain ⟨k,rfl,_,S⟩:=M.is
 exact Jd.region S gl hgl h
theorem Jd.drw (M:Mc P X E) (gl:List (Option Tmp)) (ex:List (Nat × Nat))(hgl:ops.toList.map (·.dst) = gl)
  (hst:(match eW ops.toList with | some M=>ex.all (fun p=>match M.get p.1 with | some m=>m.testBit p.2 | none=>false) | none=>false) = true)
  (h:Dz P X E n gl ex 0 ops.toList T s [] [] fun T s=>Q .normal ⟨f,n,T,rd,ms⟩ s):Jb bb P (.region id ops true) ⟨f,n,T,rd,ms⟩ s Q:=by
 obtain ⟨k,rfl,S0,S⟩:=M.is
 exact Jd.draw S S0 gl ex hgl hst h
theorem Jd.regS (M:Mc P X E) {b:Code} {T':Tr AV} {s':St} (h1:∀ (K:Tr AV->St->Prop) (gl:List (Option Tmp)),ops.toList.map (·.dst) = gl->K T' s'->iH P X E n gl ops.toList T s K)(h2:Jb bb P b ⟨f,n,T',rd,ms⟩ s' Q):Jb bb P (.seq (.region id ops false) b) ⟨f,n,T,rd,ms⟩ s Q:=by
 exact Jd.seq (Jd.reg M _ rfl (h1 _ _ rfl h2))
theorem Jd.regQ (M:Mc P X E) {T':Tr AV} {s':St} (h1:∀ (K:Tr AV->St->Prop) (gl:List (Option Tmp)),ops.toList.map (·.dst) = gl->K T' s'->iH P X E n gl ops.toList T s K)(h2:Q .normal ⟨f,n,T',rd,ms⟩ s'):Jb bb P (.region id ops false) ⟨f,n,T,rd,ms⟩ s Q:=by
 exact Jd.reg M _ rfl (h1 _ _ rfl h2)
theorem Jd.drwS (M:Mc P X E) {b:Code} (ex:List (Nat × Nat))
  (hst:(match eW ops.toList with | some M=>ex.all (fun p=>match M.get p.1 with | some m=>m.testBit p.2 | none=>false) | none=>false) = true)
  {T':Tr AV} {s':St} (h1:∀ (K:Tr AV->St->Prop) (gl:List (Option Tmp)),ops.toList.map (·.dst) = gl->K T' s'->r5 P X E n gl ex 0 ops.toList T s [] [] K) (h2:Jb bb P b ⟨f,n,T',rd,ms⟩ s' Q):Jb bb P (.seq (.region id ops true) b) ⟨f,n,T,rd,ms⟩ s Q:=by
 exact Jd.seq (Jd.drw M _ ex rfl hst (sF (h1 _ _ rfl h2)))
def CT (l:List (Nat × AV)):Operand->Option AV
 | .tmp t=>fo l t
 | .const v=>br v
 | .global _=>none
 | .func f=>some (.fn f [] [])
theorem wJ (l:List (Nat × AV)) (x:Operand):fZ (Tr.of l) x = CT l x:=by
 cases x <;> first | rfl | exact Tr.of_get _ l
theorem Jd.cnd {l:List (Nat × AV)} {a b:Code} {x:Operand} {t:Bool} (hx:CT l x = some (.b t))(h1:t = true->Jb bb P a ⟨f,n,Tr.of l,rd,ms⟩ s Q)(h2:t = false->Jb bb P b ⟨f,n,Tr.of l,rd,ms⟩ s Q):Jb bb P (.cond x a b) ⟨f,n,Tr.of l,rd,ms⟩ s Q :=
 Jd.cond ((wJ l x).trans hx) h1 h2
theorem Jd.skipT {K:Fr->St->Prop} {fr:Fr} (h:K fr s):Jb bb P .skip fr s (iE K Q):=Jd.skip h
theorem Jd.retT {K:Fr->St->Prop} {fr:Fr} (h:Q .ret fr s):Jb bb P .ret fr s (iE K Q):=Jd.ret h
theorem Jd.exitT {K:Fr->St->Prop} {fr:Fr} {i:Nat} (h:Q (.exit i) fr s):Jb bb P (.exit i) fr s (iE K Q):=Jd.exit h
theorem dX.out {Q:Ex->Fr->St->Prop} {i:Nat} {fr:Fr} (h:Q .normal fr s):dX i Q (.exit i) fr s:=by simp only [dX,if_true]; exact h
theorem aA.one {fn:Func} {R:AV->St->Prop} {l:List (Nat × AV)} {k:Tmp} {v:AV} (hr:fn.results = #[.tmp k])(hv:fo l k = some v)(h:R v s):aA P fn R .ret ⟨f,n,Tr.of l,none,[]⟩ s:=by
 refine ⟨trivial,rfl,[v],?_,h⟩
 rw [hr]
 simp only [j9,Cr,Tr.of_get,hv,Option.map_some]
theorem aA.two {fn:Func} {R:AV->St->Prop} {l:List (Nat × AV)} {k j:Tmp} {v u:AV} (hr:fn.results = #[.tmp k,.tmp j])(hv:fo l k = some v)(hu:fo l j = some u)(h:R (.tup [v,u]) s):aA P fn R .ret ⟨f,n,Tr.of l,none,[]⟩ s:=by
 refine ⟨trivial,rfl,[v,u],?_,h⟩
 rw [hr]
 simp only [j9,Cr,Tr.of_get,hv,hu,Option.map_some]
end
end
end Go.Proofs.YtkdhppimhdemjaaGreat
