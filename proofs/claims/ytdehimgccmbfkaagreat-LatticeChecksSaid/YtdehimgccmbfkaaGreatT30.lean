/- Lemmas on the way: Jv1. -/
import Derived.Test.YtdehimgccmbfkaaGreatT29
set_option linter.all false
set_option maxRecDepth 1000000
set_option maxHeartbeats 32000000
namespace Go.Proofs.YtdehimgccmbfkaaGreat
open Go.RowKit
section
def getL {α:Type}:List (Nat × α)->Nat->Option α
 | [],_=>none
 | p :: l,k=>cond (Nat.beq k p.1) (some p.2) (getL l k)
theorem getL_nil {α:Type} (k:Nat):getL ([]:List (Nat × α)) k = none:=rfl
theorem getL_cons {α:Type} (j:Nat) (x:α) (l:List (Nat × α)) (k:Nat):getL ((j,x) :: l) k = if k = j then some x else getL l k:=by
 simp only [getL]
 by_cases h:k = j
 ·subst h; simp
 rw [beqF.2 h,if_neg h]; rfl
def Tr.of (l:List (Nat × AV)):Tr AV:=l.foldr (fun p t=>t.set p.1 (some p.2)) .nil
theorem Tr.of_set (l:List (Nat × AV)) (d:Nat) (v:AV):(Tr.of l).set d (some v) = Tr.of ((d,v) :: l):=rfl
theorem Tr.of_get (k:Nat):∀ l:List (Nat × AV),(Tr.of l).get k = getL l k
 | []=>rfl
 | p :: l=>by rw [show Tr.of (p :: l) = (Tr.of l).set p.1 (some p.2) from rfl,Tr.get_set,Tr.of_get k l,show getL (p :: l) k = _ from getL_cons p.1 p.2 l k]
theorem ofList1 (a:AV):Tr.ofList [a] = Tr.of [(0,a)]:=rfl
theorem ofList2 (a b:AV):Tr.ofList [a,b] = Tr.of [(1,b),(0,a)]:=rfl
def St.of (l:List (Nat × Option AO)) (n:Nat):St:=⟨l.foldr (fun p t=>t.set p.1 p.2) .nil,n⟩
def getO (l:List (Nat × Option AO)) (k:Nat):Option AO:=match getL l k with
 | some x=>x
 | none=>none
theorem getO_nil (k:Nat):getO [] k = none:=rfl
theorem getO_cons (j:Nat) (x:Option AO) (l:List (Nat × Option AO)) (k:Nat):getO ((j,x) :: l) k = if k = j then x else getO l k:=by
 unfold getO
 rw [getL_cons]
 by_cases h:k = j
 ·rw [if_pos h,if_pos h]
 rw [if_neg h,if_neg h]
theorem St.of_nil:(⟨.nil,0⟩:St) = St.of [] 0:=rfl
theorem St.of_new (l:List (Nat × Option AO)) (n:Nat) (x:AO):(St.of l n).new x = St.of ((n,some x) :: l) (n + 1):=rfl
theorem St.of_set (l:List (Nat × Option AO)) (n k:Nat) (x:AO):(St.of l n).set k x = St.of ((k,some x) :: l) n:=rfl
theorem St.of_drop (l:List (Nat × Option AO)) (n k:Nat):(St.of l n).drop k = St.of ((k,none) :: l) n:=rfl
theorem St.of_nx (l:List (Nat × Option AO)) (n:Nat):(St.of l n).nx = n:=rfl
theorem St.of_get (n k:Nat):∀ l:List (Nat × Option AO),(St.of l n).h.get k = getO l k
 | []=>rfl
 | p :: l=>by
  rw [show (St.of (p :: l) n).h = (St.of l n).h.set p.1 p.2 from rfl,Tr.get_set,St.of_get n k l,show getO (p :: l) k = _ from getO_cons p.1 p.2 l k]

def bindK {α:Type} (o:Option α) (k:α->Prop):Prop:=match o with
 | some a=>k a
 | none=>False
theorem bindK_some {α:Type} (a:α) (k:α->Prop):bindK (some a) k = k a:=rfl
def boolK (v:AV) (k:Bool->Prop):Prop:=match v with
 | .b t=>k t
 | _=>False
theorem boolK_b (t:Bool) (k:Bool->Prop):boolK (.b t) k = k t:=rfl
def mapO (ρ:Operand->Option AV):List Operand->(List AV->Prop)->Prop
 | [],k=>k []
 | x :: l,k=>bindK (ρ x) fun v=>mapO ρ l fun vs=>k (v :: vs)
theorem mapO_eq (ρ:Operand->Option AV):∀ (l:List Operand) (k:List AV->Prop),bindK (l.mapM ρ) k = mapO ρ l k
 | [],k=>rfl
 | x :: l,k=>by
  rw [List.mapM_cons,mapO]
  cases ρ x with
  | none=>rfl
  | some v =>
   rw [bindK_some,<- mapO_eq ρ l]
   cases l.mapM ρ <;> rfl
section
variable {P:Program} {X:Env} {E:Ev} {ρ:Operand->Option AV} {s:St} {K:AV->St->Prop}
def idxA (P:Program) (t:TypeId) (a i:AV):Option AV:=match P.underlying t,a,bnd i with
 | some (.array n e),.ptr o off,some i=>match sizeT P e with
  | some z=>cond (Nat.blt i n) (some (.ptr o (off + i * z))) none
  | none=>none
 | some (.slice e),.sl o off n _,some i=>match sizeT P e with
  | some z=>cond (Nat.blt i n) (some (.ptr o (off + i * z))) none
  | none=>none
 | some (.array n e),.vp c off,some i=>match sizeT P e with
  | some z=>cond (Nat.blt i n) (some (.vp c (off + i * z))) none
  | none=>none
 | some (.slice e),.vw c n,some i=>match sizeT P e with
  | some z=>cond (Nat.blt i n) (some (.vp c (i * z))) none
  | none=>none
 | _,_,_=>none
def fadA (P:Program) (t:TypeId) (f:Nat) (a:AV):Option AV:=match fieldT P t f,a with
 | some fd,.ptr o off=>match sizeT P fd.type with
  | some (_ + 1)=>some (.ptr o (off + fd.offset))
  | _=>none
 | some fd,.vp c off=>match sizeT P fd.type with
  | some (_ + 1)=>some (.vp c (off + fd.offset))
  | _=>none
 | _,_=>none
def fldA (P:Program) (t:TypeId) (f:Nat) (a:AV):Option AV:=match fieldT P t f,a with
 | some fd,.agg l=>partA P fd.type l fd.offset
 | _,_=>none
theorem O_move (x:Operand):opK P X E ρ s (.move x) K = bindK (ρ x) fun v=>K v s:=by unfold opK; simp only [opA,kindA,rdA]; cases ρ x <;> rfl
theorem O_assign (x:Operand):opK P X E ρ s (.assign x) K = bindK (ρ x) fun v=>K v s:=by unfold opK; simp only [opA,kindA,rdA]; cases ρ x <;> rfl
theorem O_pick (c a b:Operand):opK P X E ρ s (.pick c a b) K = bindK (ρ c) fun v=>boolK v fun t=>bindK (cond t (ρ a) (ρ b)) fun v=>K v s:=by
 unfold opK
 simp only [opA,kindA,rdA]
 cases ρ c with
 | none=>rfl
 | some v=>cases v <;> first | rfl | (rename_i t; simp only [bindK_some,boolK_b]; cases (cond t (ρ a) (ρ b)) <;> rfl)
theorem O_load (t:TypeId) (a:Operand):opK P X E ρ s (.load t a) K = bindK (ρ a) fun p=>bindK (loadA P s t p) fun v=>K v s:=by
 unfold opK
 simp only [opA,kindA,rdA]
 cases ρ a with
 | none=>rfl
 | some p=>simp only [Option.bind_some,bindK_some]; cases loadA P s t p <;> rfl
theorem O_store (t:TypeId) (a v:Operand):opK P X E ρ s (.store t a v) K = bindK (ρ a) fun p=>bindK (ρ v) fun v=>bindK (storeA P s t v p) fun s'=>K (.tup []) s':=by
 unfold opK
 simp only [opA,kindA,efA]
 cases ρ a with
 | none=>rfl
 | some p =>
  cases ρ v with
  | none=>rfl
  | some v=>simp only [bindK_some]; cases storeA P s t v p <;> rfl
theorem O_bin (op:BinOp) (t:TypeId) (x y:Operand) (yt:TypeId):opK P X E ρ s (.binOp op t x y yt) K = bindK (ρ x) fun a=>bindK (ρ y) fun b=>bindK (binA P op t a b) fun v=>K v s:=by
 unfold opK
 simp only [opA,kindA,rdA]
 cases ρ x with
 | none=>rfl
 | some a =>
  cases ρ y with
  | none=>rfl
  | some b=>simp only [bindK_some]; cases binA P op t a b <;> rfl
theorem O_not (t:TypeId) (x:Operand):opK P X E ρ s (.unOp .not t x) K = bindK (ρ x) fun a=>bindK (match a with | .b x=>some (.b !x) | _=>none) fun v=>K v s:=by
 unfold opK
 simp only [opA,kindA,rdA]
 cases ρ x with
 | none=>rfl
 | some a=>cases a <;> first | rfl | (rename_i k n; cases k <;> rfl)
theorem O_nilCheck (x:Operand):opK P X E ρ s (.nilCheck x) K = bindK (ρ x) fun a=>bindK (match a with | .ptr o off=>some (.ptr o off) | .vp c off=>some (.vp c off) | .fn f a b=>some (.fn f a b) | .yl l=>some (.yl l) | _=>none) fun v=>K v s:=by
 unfold opK
 simp only [opA,kindA,rdA]
 cases ρ x with
 | none=>rfl
 | some a=>cases a <;> rfl
theorem O_fieldAddr (t:TypeId) (x:Operand) (f:Nat):opK P X E ρ s (.fieldAddr t x f) K = bindK (ρ x) fun a=>bindK (fadA P t f a) fun v=>K v s:=by
 unfold opK
 simp only [opA,kindA,rdA,fadA]
 cases ρ x with
 | none=>cases fieldT P t f <;> rfl
 | some a =>
  simp only [bindK_some]
  cases fieldT P t f with
  | none=>rfl
  | some fd=>cases a <;> first | rfl | (simp only; cases sizeT P fd.type with | none=>rfl | some z=>cases z <;> rfl)
theorem O_field (t:TypeId) (x:Operand) (f:Nat):opK P X E ρ s (.field t x f) K = bindK (ρ x) fun a=>bindK (fldA P t f a) fun v=>K v s:=by
 unfold opK
 simp only [opA,kindA,rdA,fldA]
 cases ρ x with
 | none=>cases fieldT P t f <;> rfl
 | some a =>
  simp only [bindK_some]
  cases fieldT P t f with
  | none=>rfl
  | some fd=>cases a <;> first | rfl | (simp only; cases partA P fd.type _ fd.offset <;> rfl)
theorem O_indexAddr (t:TypeId) (x ix:Operand):opK P X E ρ s (.indexAddr t x ix) K = bindK (ρ x) fun a=>bindK (ρ ix) fun i=>bindK (idxA P t a i) fun v=>K v s:=by
 have key:rdA P ρ s (.indexAddr t x ix) = (ρ x).bind fun a=>(ρ ix).bind fun i=>idxA P t a i:=by
  simp only [rdA]
  cases hx:ρ x with
  | none=>simp only [Option.bind_none]; split <;> first | rfl | (rename_i h _; cases h)
  | some a =>
   cases hi:ρ ix with
   | none=>simp only [Option.bind_none,Option.bind_some]; split <;> first | rfl | (rename_i h; cases h)
   | some i =>
    simp only [Option.bind_some,idxA]
    cases P.underlying t with
    | none=>rfl
    | some d=>cases d <;> first | rfl | (cases a <;> first | rfl | (cases bnd i <;> rfl))
 unfold opK
 simp only [opA,kindA,key]
 cases ρ x with
 | none=>rfl
 | some a =>
  cases ρ ix with
  | none=>rfl
  | some i=>simp only [Option.bind_some,bindK_some]; cases idxA P t a i <;> rfl
theorem O_extract (x:Operand) (k:Nat):opK P X E ρ s (.extract x k) K = bindK (ρ x) fun a=>bindK (match a with | .tup l=>l[k]? | _=>none) fun v=>K v s:=by
 unfold opK
 simp only [opA,kindA,rdA]
 cases ρ x with
 | none=>rfl
 | some a=>cases a <;> first | rfl | (rename_i l; simp only [bindK_some]; cases l[k]? <;> rfl)
theorem O_box (t:TypeId) (x:Operand):opK P X E ρ s (.box t x) K = bindK (ρ x) fun v=>v.cells.all flat = true/\K (.ptr s.nx 0) (s.new (.cells v.cells t false)):=by
 unfold opK
 simp only [opA,kindA,alA]
 cases ρ x with
 | none=>rfl
 | some v=>simp only [Option.bind_some,bindK_some]; cases v.cells.all flat <;> simp
theorem O_alloc (t:TypeId):opK P X E ρ s (.alloc t) K = bindK (zeroT P t) fun v=>v.cells.all flat = true/\K (.ptr s.nx 0) (s.new (.cells v.cells t false)):=by
 unfold opK
 simp only [opA,kindA,alA]
 cases zeroT P t with
 | none=>rfl
 | some v=>simp only [Option.bind_some,bindK_some]; cases v.cells.all flat <;> simp
theorem O_makeSlice (t:TypeId) (l c:Operand):opK P X E ρ s (.makeSlice t l c) K = bindK (alA P ρ (.makeSlice t l c)) fun p=>K (p.2 s.nx) (s.new p.1):=by
 unfold opK
 simp only [opA,kindA]
 cases alA P ρ (.makeSlice t l c) <;> rfl
theorem O_buildSlice (t:TypeId) (n:Nat) (ps:Array (Nat × Operand)):opK P X E ρ s (.buildSlice t n ps) K = bindK (alA P ρ (.buildSlice t n ps)) fun p=>K (p.2 s.nx) (s.new p.1):=by
 unfold opK
 simp only [opA,kindA]
 cases alA P ρ (.buildSlice t n ps) <;> rfl
theorem O_build (t:TypeId) (ps:Array (Nat × Operand)):opK P X E ρ s (.build t ps) K = bindK (rdA P ρ s (.build t ps)) fun v=>K v s:=by
 unfold opK
 simp only [opA,kindA]
 cases rdA P ρ s (.build t ps) <;> rfl
theorem O_slice (t:TypeId) (x:Operand) (lo hi mx:Option Operand):opK P X E ρ s (.slice t x lo hi mx) K = bindK (rdA P ρ s (.slice t x lo hi mx)) fun v=>K v s:=by
 unfold opK
 simp only [opA,kindA]
 cases rdA P ρ s (.slice t x lo hi mx) <;> rfl
def callV (E:Ev) (f:AV) (asn:List AV) (s:St):Option (AV × St):=match f with
 | .fn f fs cs=>E.call f (fs ++ asn ++ cs) s
 | .yl l=>enterYield E l asn s
 | _=>none
theorem O_call (f:Operand) (args:Array Operand) (ts:Array TypeId):opK P X E ρ s (.call ⟨.value f,args,ts⟩) K = bindK (ρ f) fun fv=>mapO ρ args.toList fun asn=>bindK (callV E fv asn s) fun p=>K p.1 p.2:=by
 unfold opK
 simp only [opA,kindA,efA]
 cases ρ f with
 | none=>rfl
 | some fv =>
  rw [bindK_some,<- mapO_eq]
  cases args.toList.mapM ρ with
  | none=>cases fv <;> rfl
  | some asn =>
   cases fv <;> first | rfl | (simp only [bindK_some,callV]; first | (cases E.call _ _ s <;> rfl) | (cases enterYield E _ asn s <;> rfl))
def appV (P:Program) (t t':TypeId) (a b:AV) (s:St):Option (AV × St):=match P.underlying t,P.underlying t' with
 | some (.slice e),some (.slice _)=>appendA P s e a b
 | _,_=>none
theorem O_append (x y:Operand) (t t':TypeId):opK P X E ρ s (.call ⟨.builtin .append,#[x,y],#[t,t']⟩) K = bindK (ρ x) fun a=>bindK (ρ y) fun b=>bindK (appV P t t' a b s) fun p=>K p.1 p.2:=by
 have key:efA P X E ρ s (.call ⟨.builtin .append,#[x,y],#[t,t']⟩) = (ρ x).bind fun a=>(ρ y).bind fun b=>appV P t t' a b s:=by
  simp only [efA,List.mapM_cons,List.mapM_nil]
  cases hx:ρ x with
  | none=>rfl
  | some a =>
   cases hy:ρ y with
   | none=>rfl
   | some b=>rfl
 unfold opK
 simp only [opA,kindA,key]
 cases ρ x with
 | none=>rfl
 | some a =>
  cases ρ y with
  | none=>rfl
  | some b=>simp only [Option.bind_some,bindK_some]; cases appV P t t' a b s <;> rfl
theorem wpO_nil {n:Nat} {gl:List (Option Tmp)} {T:Tr AV} {Q:Tr AV->St->Prop}:wpO P X E n gl [] T s Q = Q T s:=rfl
theorem wpO_some {n:Nat} {gl:List (Option Tmp)} {T:Tr AV} {Q:Tr AV->St->Prop} {d:Tmp} {op:Op} {ty:TypeId} {pos:String} {af:Array Edge} {os:List Oper} :
  wpO P X E n gl (⟨some d,op,ty,pos,af,none⟩ :: os) T s Q = opK P X E (opd T) s op fun v s'=>d < n/\wpO P X E n gl os (T.set d (some v)) s' Q:=rfl
theorem wpO_none {n:Nat} {gl:List (Option Tmp)} {T:Tr AV} {Q:Tr AV->St->Prop} {op:Op} {ty:TypeId} {pos:String} {af:Array Edge} {os:List Oper} :
  wpO P X E n gl (⟨none,op,ty,pos,af,none⟩ :: os) T s Q = opK P X E (opd T) s op fun _ s'=>wpO P X E n gl os T s' Q:=rfl
def ifK (o:Option Bool) (A B:Prop):Prop:=match o with
 | some true=>A
 | some false=>B
 | none=>False
theorem ifK_true (A B:Prop):ifK (some true) A B = A:=rfl
theorem ifK_false (A B:Prop):ifK (some false) A B = B:=rfl
theorem wpO_g {n:Nat} {gl:List (Option Tmp)} {T:Tr AV} {Q:Tr AV->St->Prop} {d:Tmp} {op:Op} {ty:TypeId} {pos:String} {af:Array Edge} {g:Nat × Bool} {os:List Oper} :
  wpO P X E n gl (⟨some d,op,ty,pos,af,some g⟩ :: os) T s Q = ifK (wantG gl T (some g)) (opK P X E (opd T) s op fun v s'=>d < n/\wpO P X E n gl os (T.set d (some v)) s' Q) (d < n/\wpO P X E n gl os (T.set d (some (.tup []))) s Q):=by
 rw [wpO]
 rcases wantG gl T (some g) with _ | _ | _ <;> rfl
theorem wpO_gn {n:Nat} {gl:List (Option Tmp)} {T:Tr AV} {Q:Tr AV->St->Prop} {op:Op} {ty:TypeId} {pos:String} {af:Array Edge} {g:Nat × Bool} {os:List Oper} :
  wpO P X E n gl (⟨none,op,ty,pos,af,some g⟩ :: os) T s Q = ifK (wantG gl T (some g)) (opK P X E (opd T) s op fun _ s'=>wpO P X E n gl os T s' Q) (wpO P X E n gl os T s Q):=by
 rw [wpO]
 rcases wantG gl T (some g) with _ | _ | _ <;> rfl
theorem wantG_some {gl:List (Option Tmp)} {T:Tr AV} {j:Nat} {b:Bool}:wantG gl T (some (j,b)) = match gl[j]? with
  | some (some t)=>match T.get t with
   | some (.b x)=>some (x == b)
   | some (.tup [])=>some false
   | _=>none
  | _=>none:=rfl
theorem opd_tmp (T:Tr AV) (t:Tmp):opd T (.tmp t) = T.get t:=rfl
theorem opd_const (T:Tr AV) (v:Value):opd T (.const v) = ofConst v:=rfl
theorem opd_func (T:Tr AV) (f:FuncId):opd T (.func f) = some (.fn f [] []):=rfl
theorem bnd_pos {z:Int} (h:0 <= z):bnd (.i .i64 z) = some z.toNat:=by
 cases z with
 | ofNat k=>rfl
 | negSucc k=>exact absurd h (by omega)
theorem blt_true {a b:Nat} (h:a < b):Nat.blt a b = true:=by rw [Nat.blt_eq]; exact h
theorem ble_true {a b:Nat} (h:a <= b):Nat.ble a b = true:=Nat.ble_eq_true_of_le h
theorem wrap_id {z:Int} (h:-9223372036854775808 <= z) (h':z < 9223372036854775808):IntKind.i64.wrap z = z:=by
 unfold IntKind.wrap
 simp only [IntKind.bits,IntKind.signed]
 have e:(2:Int) ^ 64 = 18446744073709551616:=rfl
 have e2:(2:Int) ^ (64 - 1) = 9223372036854775808:=rfl
 simp only [e,e2]
 rcases Int.lt_or_le z 0 with hz | hz
 ·have h1:z % 18446744073709551616 = z + 18446744073709551616:=by omega
  rw [h1,if_pos (by simp; omega)]
  omega
 have h1:z % 18446744073709551616 = z:=Int.emod_eq_of_lt (by omega) (by omega)
 rw [h1,if_neg (by simp; omega)]
theorem B_lss (t:TypeId) (a b:Int):binA P .lss t (.i .i64 a) (.i .i64 b) = some (.b (decide (a < b))):=rfl
theorem B_leq (t:TypeId) (a b:Int):binA P .leq t (.i .i64 a) (.i .i64 b) = some (.b (decide (a <= b))):=rfl
theorem B_gtr (t:TypeId) (a b:Int):binA P .gtr t (.i .i64 a) (.i .i64 b) = some (.b (decide (a > b))):=rfl
theorem B_geq (t:TypeId) (a b:Int):binA P .geq t (.i .i64 a) (.i .i64 b) = some (.b (decide (a ≥ b))):=rfl
theorem B_eql (t:TypeId) (a b:Int):binA P .eql t (.i .i64 a) (.i .i64 b) = some (.b (decide (a = b))):=rfl
theorem B_neq (t:TypeId) (a b:Int):binA P .neq t (.i .i64 a) (.i .i64 b) = some (.b (!decide (a = b))):=rfl
theorem B_add (t:TypeId) (a b:Int):binA P .add t (.i .i64 a) (.i .i64 b) = some (.i .i64 (IntKind.i64.wrap (a + b))):=rfl
theorem B_sub (t:TypeId) (a b:Int):binA P .sub t (.i .i64 a) (.i .i64 b) = some (.i .i64 (IntKind.i64.wrap (a - b))):=rfl
theorem B_mul (t:TypeId) (a b:Int):binA P .mul t (.i .i64 a) (.i .i64 b) = some (.i .i64 (IntKind.i64.wrap (a * b))):=rfl
end
section
variable {P:Program} {X:Env} {E:Ev} {ρ:Operand->Option AV} {s:St} {K:AV->St->Prop}
theorem partA_sc {t:TypeId} (h:isAggT P t = some false) (c:List AV) (o:Nat):partA P t c o = c[o]?:=by unfold partA; rw [h]
theorem partA_ag {t:TypeId} {n:Nat} (h:isAggT P t = some true)(hz:sizeT P t = some n) (c:List AV) (o:Nat):partA P t c o = (getR c o n).map .agg:=by unfold partA; rw [h,hz]
def stoK (s:St) (n:Nat) (v:AV) (o f:Nat):Option AO->Option St
 | some (.cells c e op)=>cond (Nat.beq v.cells.length n && Nat.ble (f + n) c.length && v.cells.all flat) (some (s.set o (.cells (putR c f v.cells) e op))) none
 | _=>none
theorem storeA_eq {t:TypeId} {n:Nat} (hz:sizeT P t = some n) (s:St) (v:AV) (o f:Nat):storeA P s t v (.ptr o f) = stoK s n v o f (s.h.get o):=by
 unfold storeA stoK
 simp only [hz]
 generalize s.h.get o = y
 cases y with
 | none=>rfl
 | some x=>cases x <;> rfl
theorem idxA_sl {t e:TypeId} {z:Nat} (hu:P.underlying t = some (.slice e))(hz:sizeT P e = some z) {i:Int} {n:Nat} (h:0 <= i)(h1:i.toNat < n) (o f c:Nat):idxA P t (.sl o f n c) (.i .i64 i) = some (.ptr o (f + i.toNat * z)):=by
 unfold idxA
 rw [hu,bnd_pos h]
 simp only [hz,blt_true h1,cond_true]
theorem idxA_vw {t e:TypeId} {z:Nat} (hu:P.underlying t = some (.slice e))(hz:sizeT P e = some z) {i:Int} {n:Nat} (h:0 <= i)(h1:i.toNat < n) (c:List AV):idxA P t (.vw c n) (.i .i64 i) = some (.vp c (i.toNat * z)):=by
 unfold idxA
 rw [hu,bnd_pos h]
 simp only [hz,blt_true h1,cond_true]
def lenS:AV->Option AV
 | .sl _ _ n _=>some (.i .i64 n)
 | .vw _ n=>some (.i .i64 n)
 | .snil=>some (.i .i64 0)
 | _=>none
theorem O_lenS {t e:TypeId} (hu:P.underlying t = some (.slice e)) (x:Operand):opK P X E ρ s (.call ⟨.builtin .len,#[x],#[t]⟩) K = bindK (ρ x) fun a=>bindK (lenS a) fun v=>K v s:=by
 unfold opK
 simp only [opA,kindA,rdA,hu]
 cases ρ x with
 | none=>rfl
 | some v=>cases v <;> rfl
theorem loadA_ptr (t:TypeId) (o f:Nat):loadA P s t (.ptr o f) = match s.h.get o with | some (.cells c _ _)=>partA P t c f | _=>none:=rfl
theorem loadA_vp (t:TypeId) (c:List AV) (f:Nat):loadA P s t (.vp c f) = partA P t c f:=rfl
end
section
variable {P:Program} {X:Env} {E:Ev} {ρ:Operand->Option AV}
def okR (ex:List (Nat × Nat)) (i:Nat) (ns:List Nat):List (Nat × St × St)->Prop
 | []=>True
 | e :: W=>(Ex2 ex i e.1 ∨ sameN ns e.2.1 e.2.2)/\okR ex i ns W
def okW (ex:List (Nat × Nat)) (i:Nat) (s s':St):List (Nat × List Nat)->Prop
 | []=>True
 | r :: R=>(Ex2 ex i r.1 ∨ sameN r.2 s s')/\okW ex i s s' R
theorem okR_all {ex:List (Nat × Nat)} {i:Nat} {ns:List Nat}:∀ {W:List (Nat × St × St)},okR ex i ns W->∀ e ∈ W,Ex2 ex i e.1 ∨ sameN ns e.2.1 e.2.2
 | [],_,e,he=>by cases he
 | e :: W,h,e',he=>by
  rcases List.mem_cons.1 he with rfl | he
  ·exact h.1
  exact okR_all h.2 e' he
theorem okW_all {ex:List (Nat × Nat)} {i:Nat} {s s':St}:∀ {R:List (Nat × List Nat)},okW ex i s s' R->∀ r ∈ R,Ex2 ex i r.1 ∨ sameN r.2 s s'
 | [],_,e,he=>by cases he
 | e :: W,h,e',he=>by
  rcases List.mem_cons.1 he with rfl | he
  ·exact h.1
  exact okW_all h.2 e' he
def nxtD (ex:List (Nat × Nat)) (i:Nat) (op:Op) (ρ:Operand->Option AV) (s s':St) (R:List (Nat × List Nat)) (W:List (Nat × St × St)) (k:List (Nat × List Nat)->List (Nat × St × St)->Prop):Prop :=
 match looksIn op with
 | true=>bindK (rdN ρ s op) fun ns=>okR ex i ns W/\k ((i,ns) :: R) W
 | false=>match kindA op with
  | .ef=>okW ex i s s' R/\k R ((i,s,s') :: W)
  | _=>k R W
def wpE (P:Program) (X:Env) (E:Ev) (n:Nat) (gl:List (Option Tmp)) (ex:List (Nat × Nat)):Nat->List Oper->Tr AV->St->List (Nat × List Nat)->List (Nat × St × St)->(Tr AV->St->Prop)->Prop
 | _,[],T,s,_,_,K=>K T s
 | i,o :: os,T,s,R,W,K=>ifK (wantG gl T o.guard) (opK P X E (opd T) s o.op fun v s'=>nxtD ex i o.op (opd T) s s' R W fun R W=>putK n o.dst v T fun T'=>wpE P X E n gl ex (i + 1) os T' s' R W K) (putK n o.dst (.tup []) T fun T'=>wpE P X E n gl ex (i + 1) os T' s R W K)
theorem putK_imp {n:Nat} {d:Option Tmp} {v:AV} {T:Tr AV} {K K':Tr AV->Prop} (h:putK n d v T K)(hk:∀ T,K T->K' T):putK n d v T K':=by
 cases d with
 | none=>exact hk _ h
 | some d=>exact ⟨h.1,hk _ h.2⟩
theorem opK_imp {s:St} {o:Op} {K K':AV->St->Prop} (h:opK P X E ρ s o K)(hk:∀ v s',K v s'->K' v s'):opK P X E ρ s o K':=by
 unfold opK at h ⊢
 split at h
 ·exact hk _ _ h
 exact h.elim
theorem wpE_D {n:Nat} {gl:List (Option Tmp)} {ex:List (Nat × Nat)}:∀ {os:List Oper} {i:Nat} {T:Tr AV} {s:St} {R:List (Nat × List Nat)} {W:List (Nat × St × St)} {K:Tr AV->St->Prop},wpE P X E n gl ex i os T s R W K->wpD P X E n gl ex i os T s R W K
 | [],_,_,_,_,_,_,h=>h
 | o :: os,i,T,s,R,W,K,h=>by
  simp only [wpE] at h
  simp only [wpD]
  cases hw:wantG gl T o.guard with
  | none=>rw [hw] at h; exact h.elim
  | some b =>
   rw [hw] at h
   cases b with
   | false=>rw [ifK_false] at h; exact putK_imp h fun T' h=>wpE_D h
   | true =>
    rw [ifK_true] at h
    refine opK_imp h fun v s' h=>?_
    unfold nxtD at h
    cases hl:looksIn o.op with
    | true =>
     rw [hl] at h
     simp only at h
     cases hr:rdN (opd T) s o.op with
     | none=>rw [hr] at h; exact h.elim
     | some ns =>
      rw [hr] at h
      exact putK_imp h.2 fun T' h'=>⟨okR_all h.1,wpE_D h'⟩
    | false =>
     rw [hl] at h
     simp only at h
     unfold isEf
     cases hk:kindA o.op with
     | ef=>rw [hk] at h; exact putK_imp h.2 fun T' h'=>⟨okW_all h.1,wpE_D h'⟩
     | rd=>rw [hk] at h; exact putK_imp h fun T' h'=>wpE_D h'
     | al=>rw [hk] at h; exact putK_imp h fun T' h'=>wpE_D h'
variable {n:Nat} {gl:List (Option Tmp)} {ex:List (Nat × Nat)} {i:Nat} {T:Tr AV} {s s':St} {R:List (Nat × List Nat)} {W:List (Nat × St × St)} {Q:Tr AV->St->Prop} {os:List Oper} {ty:TypeId} {pos:String} {af:Array Edge} {op:Op} {k:List (Nat × List Nat)->List (Nat × St × St)->Prop}
theorem wpE_nil:wpE P X E n gl ex i [] T s R W Q = Q T s:=rfl
theorem wpE_some {d:Tmp}:wpE P X E n gl ex i (⟨some d,op,ty,pos,af,none⟩ :: os) T s R W Q = opK P X E (opd T) s op fun v s'=>nxtD ex i op (opd T) s s' R W fun R W=>d < n/\wpE P X E n gl ex (i + 1) os (T.set d (some v)) s' R W Q:=rfl
theorem wpE_none:wpE P X E n gl ex i (⟨none,op,ty,pos,af,none⟩ :: os) T s R W Q = opK P X E (opd T) s op fun _ s'=>nxtD ex i op (opd T) s s' R W fun R W=>wpE P X E n gl ex (i + 1) os T s' R W Q:=rfl
theorem wpE_g {d:Tmp} {g:Nat × Bool}:wpE P X E n gl ex i (⟨some d,op,ty,pos,af,some g⟩ :: os) T s R W Q = ifK (wantG gl T (some g)) (opK P X E (opd T) s op fun v s'=>nxtD ex i op (opd T) s s' R W fun R W=>d < n/\wpE P X E n gl ex (i + 1) os (T.set d (some v)) s' R W Q) (d < n/\wpE P X E n gl ex (i + 1) os (T.set d (some (.tup []))) s R W Q):=rfl
theorem wpE_gn {g:Nat × Bool}:wpE P X E n gl ex i (⟨none,op,ty,pos,af,some g⟩ :: os) T s R W Q = ifK (wantG gl T (some g)) (opK P X E (opd T) s op fun _ s'=>nxtD ex i op (opd T) s s' R W fun R W=>wpE P X E n gl ex (i + 1) os T s' R W Q) (wpE P X E n gl ex (i + 1) os T s R W Q):=rfl
theorem okR_nil {ns:List Nat}:okR ex i ns [] = True:=rfl
theorem okR_cons {ns:List Nat} {j:Nat} {a b:St}:okR ex i ns ((j,a,b) :: W) = ((Ex2 ex i j ∨ sameN ns a b)/\okR ex i ns W):=rfl
theorem okR_skip {ns:List Nat} {j:Nat} {a:St}:okR ex i ns ((j,a,a) :: W) = okR ex i ns W:=by
 have:sameN ns a a:=fun _ _=>rfl
 simp only [okR,this,or_true,true_and]
theorem okW_nil:okW ex i s s' [] = True:=rfl
theorem okW_cons {j:Nat} {ns:List Nat}:okW ex i s s' ((j,ns) :: R) = ((Ex2 ex i j ∨ sameN ns s s')/\okW ex i s s' R):=rfl
theorem okW_skip:okW ex i s s R = True:=by
 induction R with
 | nil=>rfl
 | cons r R ih=>rw [okW,ih]; simp [sameN]
theorem sameN_nil:sameN [] s s' = True:=by simp [sameN]
theorem sameN_cons {o:Nat} {ns:List Nat}:sameN (o :: ns) s s' = (s'.h.get o = s.h.get o/\sameN ns s s'):=by simp [sameN]
theorem Ex2_nil {j:Nat}:Ex2 [] i j = False:=by simp [Ex2]
theorem Ex2_cons {a b j:Nat} {l:List (Nat × Nat)}:Ex2 ((a,b) :: l) i j = ((i = a/\j = b) ∨ Ex2 l i j):=by simp [Ex2]
theorem nx_move (x:Operand):nxtD ex i (.move x) ρ s s' R W k = k R W:=rfl
theorem nx_assign (x:Operand):nxtD ex i (.assign x) ρ s s' R W k = k R W:=rfl
theorem nx_pick (x y z:Operand):nxtD ex i (.pick x y z) ρ s s' R W k = k R W:=rfl
theorem nx_load (t:TypeId) (x:Operand):nxtD ex i (.load t x) ρ s s' R W k = bindK (ρ x) fun p=>bindK (match p with | .ptr o _=>(s.h.get o).map fun _=>[o] | .vp _ _=>some [] | _=>none) fun ns=>okR ex i ns W/\k ((i,ns) :: R) W:=by
 unfold nxtD
 simp only [looksIn,rdN]
 cases ρ x with
 | none=>rfl
 | some p=>cases p <;> rfl
theorem nx_bin (o:BinOp) (t:TypeId) (x y:Operand) (yt:TypeId):nxtD ex i (.binOp o t x y yt) ρ s s' R W k = k R W:=rfl
theorem nx_un (o:UnOp) (t:TypeId) (x:Operand):nxtD ex i (.unOp o t x) ρ s s' R W k = k R W:=rfl
theorem nx_nilCheck (x:Operand):nxtD ex i (.nilCheck x) ρ s s' R W k = k R W:=rfl
theorem nx_fieldAddr (t:TypeId) (x:Operand) (f:Nat):nxtD ex i (.fieldAddr t x f) ρ s s' R W k = k R W:=rfl
theorem nx_field (t:TypeId) (x:Operand) (f:Nat):nxtD ex i (.field t x f) ρ s s' R W k = k R W:=rfl
theorem nx_indexAddr (t:TypeId) (x y:Operand):nxtD ex i (.indexAddr t x y) ρ s s' R W k = k R W:=rfl
theorem nx_extract (x:Operand) (j:Nat):nxtD ex i (.extract x j) ρ s s' R W k = k R W:=rfl
theorem nx_slice (t:TypeId) (x:Operand) (a b c:Option Operand):nxtD ex i (.slice t x a b c) ρ s s' R W k = k R W:=rfl
theorem nx_build (t:TypeId) (ps:Array (Nat × Operand)):nxtD ex i (.build t ps) ρ s s' R W k = k R W:=rfl
theorem nx_alloc (t:TypeId):nxtD ex i (.alloc t) ρ s s' R W k = k R W:=rfl
theorem nx_box (t:TypeId) (x:Operand):nxtD ex i (.box t x) ρ s s' R W k = k R W:=rfl
theorem nx_makeSlice (t:TypeId) (x y:Operand):nxtD ex i (.makeSlice t x y) ρ s s' R W k = k R W:=rfl
theorem nx_buildSlice (t:TypeId) (m:Nat) (ps:Array (Nat × Operand)):nxtD ex i (.buildSlice t m ps) ρ s s' R W k = k R W:=rfl
theorem nx_makeMap (t:TypeId) (x:Option Operand):nxtD ex i (.makeMap t x) ρ s s' R W k = k R W:=rfl
theorem nx_store (t:TypeId) (x y:Operand):nxtD ex i (.store t x y) ρ s s' R W k = (okW ex i s s' R/\k R ((i,s,s') :: W)):=rfl
theorem nx_call (f:Operand) (xs:Array Operand) (ts:Array TypeId):nxtD ex i (.call ⟨.value f,xs,ts⟩) ρ s s' R W k = (okW ex i s s' R/\k R ((i,s,s') :: W)):=rfl
theorem nx_append (xs:Array Operand) (ts:Array TypeId):nxtD ex i (.call ⟨.builtin .append,xs,ts⟩) ρ s s' R W k = (okW ex i s s' R/\k R ((i,s,s') :: W)):=rfl
theorem nx_len (x:Operand) (ts:Array TypeId):nxtD ex i (.call ⟨.builtin .len,#[x],ts⟩) ρ s s' R W k = bindK (match ρ x with | some (.mp o)=>(s.h.get o).map fun _=>[o] | _=>some []) fun ns=>okR ex i ns W/\k ((i,ns) :: R) W:=by
 unfold nxtD
 simp only [looksIn,rdN]
 rfl
end
theorem mapO_nil (ρ:Operand->Option AV) (k:List AV->Prop):mapO ρ [] k = k []:=rfl
theorem mapO_cons (ρ:Operand->Option AV) (x:Operand) (l:List Operand) (k:List AV->Prop):mapO ρ (x :: l) k = bindK (ρ x) fun v=>mapO ρ l fun vs=>k (v :: vs):=rfl
theorem callV_fn (E:Ev) (f:FuncId) (asn:List AV) (s:St):callV E (.fn f [] []) asn s = E.call f asn s:=by simp [callV]
theorem lenS_sl (o f n c:Nat):lenS (.sl o f n c) = some (.i .i64 n):=rfl
theorem lenS_vw (c:List AV) (n:Nat):lenS (.vw c n) = some (.i .i64 n):=rfl
theorem lenS_nil:lenS .snil = some (.i .i64 0):=rfl
theorem cells_agg (l:List AV):AV.cells (.agg l) = l:=rfl
theorem cells_b (x:Bool):AV.cells (.b x) = [.b x]:=rfl
theorem cells_i (k:IntKind) (n:Int):AV.cells (.i k n) = [.i k n]:=rfl
theorem cells_sl (o f n c:Nat):AV.cells (.sl o f n c) = [.sl o f n c]:=rfl
theorem cells_snil:AV.cells .snil = [.snil]:=rfl
theorem cells_vw (c:List AV) (n:Nat):AV.cells (.vw c n) = [.vw c n]:=rfl
theorem cells_num (n:Nat):AV.cells (.num n) = [.num n]:=rfl
theorem cells_mp (o:Nat):AV.cells (.mp o) = [.mp o]:=rfl
theorem cells_ptr (o f:Nat):AV.cells (.ptr o f) = [.ptr o f]:=rfl
theorem oc_b (x:Bool):ofConst (.bool x) = some (.b x):=rfl
theorem oc_i (k:IntKind) (n:Int):ofConst (.int k n) = some (.i k n):=rfl
theorem oc_pn:ofConst (.pointer none) = some .pnil:=rfl
theorem oc_sn:ofConst (.slice none 0 0) = some .snil:=rfl
theorem oc_mn:ofConst (.map none) = some .mnil:=rfl
theorem oc_fn:ofConst .nilFunc = some .fnil:=rfl
theorem oc_agg (l:List Value):ofConst (.agg ⟨l⟩) = (ofConsts l).map .agg:=rfl
theorem oc_nil:ofConsts [] = some []:=rfl
theorem oc_cons (v:Value) (l:List Value):ofConsts (v :: l) = match ofConst v with | some x=>(ofConsts l).map (x :: ·) | none=>none:=rfl
theorem x_oms {α β:Type} (f:α->β) (a:α):Option.map f (some a) = some (f a):=rfl
theorem x_omn {α β:Type} (f:α->β):Option.map f none = none:=rfl
theorem x_obs {α β:Type} (f:α->Option β) (a:α):Option.bind (some a) f = f a:=rfl
theorem x_lc {α:Type} (a:α) (l:List α):(a :: l).length = l.length + 1:=rfl
theorem x_ln {α:Type}:([]:List α).length = 0:=rfl
theorem x_ct {α:Type} (a b:α):cond true a b = a:=rfl
theorem x_cf {α:Type} (a b:α):cond false a b = b:=rfl
theorem x_cons0 {α:Type} (x:α) (l:List α):(x :: l)[0]? = some x:=rfl
theorem x_consS {α:Type} (x:α) (l:List α) (i:Nat):(x :: l)[i + 1]? = l[i]?:=rfl
theorem x_nil {α:Type} (i:Nat):([]:List α)[i]? = none:=rfl
theorem x_getR0 {α:Type} (l:List α):getR l 0 0 = some []:=rfl
theorem getR_tl {α:Type} (x:α):∀ (n o:Nat) (l:List α),getR (x :: l) (o + 1) n = getR l o n
 | 0,_,_=>rfl
 | n + 1,o,l=>by simp only [getR,List.getElem?_cons_succ,getR_tl x n (o + 1) l]
theorem x_getRS {α:Type} (x:α) (l:List α) (o n:Nat):getR (x :: l) (o + 1) n = getR l o n:=getR_tl x n o l
theorem x_getRC {α:Type} (x:α) (l:List α) (n:Nat):getR (x :: l) 0 (n + 1) = (getR l 0 n).map (x :: ·):=by simp only [getR,List.getElem?_cons_zero,getR_tl]
theorem x_putR0 {α:Type} (l:List α) (o:Nat):putR l o [] = l:=rfl
theorem x_putRS {α:Type} (l:List α) (o:Nat) (x:α) (xs:List α):putR l o (x :: xs) = putR (l.set o x) (o + 1) xs:=rfl
theorem x_set0 {α:Type} (x y:α) (l:List α):(x :: l).set 0 y = y :: l:=rfl
theorem x_setS {α:Type} (x y:α) (l:List α) (i:Nat):(x :: l).set (i + 1) y = x :: l.set i y:=rfl
theorem x_setN {α:Type} (y:α) (i:Nat):([]:List α).set i y = []:=rfl
theorem x_all0:([]:List AV).all flat = true:=rfl
theorem x_allS (x:AV) (l:List AV):(x :: l).all flat = (flat x && l.all flat):=rfl
theorem x_mnil {α β:Type} (f:α->β):List.map f [] = []:=rfl
theorem x_mcons {α β:Type} (f:α->β) (x:α) (l:List α):List.map f (x :: l) = f x :: List.map f l:=rfl
theorem x_arr {α:Type} (l:List α):(Array.mk l).toList = l:=rfl
theorem Bool_not_true:(!true) = false:=rfl
theorem Bool_not_false:(!false) = true:=rfl
theorem beq_tt:(true == true) = true:=rfl
theorem beq_tf:(true == false) = false:=rfl
theorem beq_ft:(false == true) = false:=rfl
theorem beq_ff:(false == false) = true:=rfl
theorem flat_b (x:Bool):flat (.b x) = true:=rfl
theorem flat_ptr (o f:Nat):flat (.ptr o f) = true:=rfl
theorem flat_sl (o f n c:Nat):flat (.sl o f n c) = true:=rfl
theorem flat_snil:flat .snil = true:=rfl
theorem flat_vw (c:List AV) (n:Nat):flat (.vw c n) = true:=rfl
theorem flat_num (n:Nat):flat (.num n) = true:=rfl
theorem flat_mp (n:Nat):flat (.mp n) = true:=rfl
theorem flat_i64 (z:Int):flat (.i .i64 z) = true:=rfl
theorem dec_true {p:Prop} [Decidable p] (h:p):decide p = true:=decide_eq_true h
theorem dec_false {p:Prop} [Decidable p] (h:¬ p):decide p = false:=decide_eq_false h
theorem x_tb (b:Bool):(true && b) = b:=rfl
theorem x_fb (b:Bool):(false && b) = false:=rfl
theorem x_teq:(true = true) = True:=by simp
theorem x_ieq (a:Int):(a = a) = True:=by simp
theorem x_oeq (a:Option AO):(a = a) = True:=by simp
theorem stoK_eq (s:St) (n:Nat) (v:AV) (o f:Nat) (c:List AV) (e:TypeId) (op:Bool):stoK s n v o f (some (.cells c e op)) = cond (Nat.beq v.cells.length n && Nat.ble (f + n) c.length && v.cells.all flat) (some (s.set o (.cells (putR c f v.cells) e op))) none:=rfl
theorem x_nbeq (n:Nat):Nat.beq n n = true:=by simp
theorem glw:type_of% (And.intro @x_mcons (And.intro @x_mnil @x_arr)):=And.intro @x_mcons (And.intro @x_mnil @x_arr)
def tickA {α:Type} (a:α):α:=a
theorem Thn.r {K:Fr->St->Prop} {Q:Ex->Fr->St->Prop} {fr:Fr} {s:St} (h:Q .ret fr s):Thn K Q .ret fr s:=h
theorem tickA_eq {α:Type} (a:α):tickA a = a:=rfl
theorem wpO_arr {P:Program} {X:Env} {E:Ev} {n:Nat} {gl:List (Option Tmp)} {T:Tr AV} {s:St} {Q:Tr AV->St->Prop} (l:List Oper):wpO P X E n gl (l.toArray).toList T s Q = wpO P X E n gl l T s Q:=rfl
theorem wpE_arr {P:Program} {X:Env} {E:Ev} {n:Nat} {gl:List (Option Tmp)} {ex:List (Nat × Nat)} {i:Nat} {T:Tr AV} {s:St} {R:List (Nat × List Nat)} {W:List (Nat × St × St)} {Q:Tr AV->St->Prop} (l:List Oper):wpE P X E n gl ex i (l.toArray).toList T s R W Q = wpE P X E n gl ex i l T s R W Q:=rfl
theorem mapO_arr (ρ:Operand->Option AV) (l:List Operand) (k:List AV->Prop):mapO ρ (l.toArray).toList k = mapO ρ l k:=rfl
theorem wpO_tk0 {P:Program} {X:Env} {E:Ev} {n:Nat} {gl:List (Option Tmp)} {T:Tr AV} {s:St} {Q:Tr AV->St->Prop} (l:List Oper):wpO P X E n gl (List.take 0 l) T s Q = Q T s:=rfl
theorem wpO_tkS {P:Program} {X:Env} {E:Ev} {n:Nat} {gl:List (Option Tmp)} {T:Tr AV} {s:St} {Q:Tr AV->St->Prop} (o:Oper) (l:List Oper) (k:Nat):wpO P X E n gl (List.take (k + 1) (o :: l)) T s Q = wpO P X E n gl (o :: List.take k l) T s Q:=rfl
theorem wpO_tkA {P:Program} {X:Env} {E:Ev} {n:Nat} {gl:List (Option Tmp)} {T:Tr AV} {s:St} {Q:Tr AV->St->Prop} (l:List Oper) (k:Nat):wpO P X E n gl (List.take k (l.toArray).toList) T s Q = wpO P X E n gl (List.take k l) T s Q:=rfl
theorem wpO_dr0 {P:Program} {X:Env} {E:Ev} {n:Nat} {gl:List (Option Tmp)} {T:Tr AV} {s:St} {Q:Tr AV->St->Prop} (l:List Oper):wpO P X E n gl (List.drop 0 l) T s Q = wpO P X E n gl l T s Q:=rfl
theorem wpO_drS {P:Program} {X:Env} {E:Ev} {n:Nat} {gl:List (Option Tmp)} {T:Tr AV} {s:St} {Q:Tr AV->St->Prop} (o:Oper) (l:List Oper) (k:Nat):wpO P X E n gl (List.drop (k + 1) (o :: l)) T s Q = wpO P X E n gl (List.drop k l) T s Q:=rfl
theorem wpO_drA {P:Program} {X:Env} {E:Ev} {n:Nat} {gl:List (Option Tmp)} {T:Tr AV} {s:St} {Q:Tr AV->St->Prop} (l:List Oper) (k:Nat):wpO P X E n gl (List.drop k (l.toArray).toList) T s Q = wpO P X E n gl (List.drop k l) T s Q:=rfl
theorem ev:type_of% (And.intro @tickA_eq (And.intro @x_oeq (And.intro @x_ieq (And.intro @x_teq (And.intro @x_fb (And.intro @x_tb (And.intro @Tr.of_set (And.intro @Tr.of_get (And.intro @getL_cons (And.intro @getL_nil (And.intro @St.of_nil (And.intro @St.of_new (And.intro @St.of_set (And.intro @St.of_drop (And.intro @St.of_nx (And.intro @St.of_get (And.intro @getO_cons (And.intro @getO_nil (And.intro @bindK_some (And.intro @boolK_b (And.intro @O_move (And.intro @O_assign (And.intro @O_pick (And.intro @O_load (And.intro @O_store (And.intro @O_bin (And.intro @O_not (And.intro @O_nilCheck (And.intro @O_fieldAddr (And.intro @O_field (And.intro @O_indexAddr (And.intro @O_extract (And.intro @O_box (And.intro @O_alloc (And.intro @O_slice (And.intro @O_call (And.intro @O_append (And.intro @wpO_nil (And.intro @wpO_some (And.intro @wpO_none (And.intro @ifK_true (And.intro @ifK_false (And.intro @wpO_g (And.intro @wpO_gn (And.intro @wantG_some (And.intro @opd_tmp (And.intro @opd_const (And.intro @opd_func (And.intro @bnd_pos (And.intro @wrap_id (And.intro @B_lss (And.intro @B_leq (And.intro @B_gtr (And.intro @B_geq (And.intro @B_eql (And.intro @B_neq (And.intro @B_add (And.intro @B_sub (And.intro @B_mul (And.intro @loadA_ptr (And.intro @loadA_vp (And.intro @mapO_nil (And.intro @mapO_cons (And.intro @callV_fn (And.intro @lenS_sl (And.intro @lenS_vw (And.intro @lenS_nil (And.intro @cells_agg (And.intro @cells_b (And.intro @cells_i (And.intro @cells_sl (And.intro @cells_snil (And.intro @cells_vw (And.intro @cells_num (And.intro @cells_mp (And.intro @cells_ptr (And.intro @oc_b (And.intro @oc_i (And.intro @oc_pn (And.intro @oc_sn (And.intro @oc_mn (And.intro @oc_fn (And.intro @oc_agg (And.intro @oc_nil (And.intro @oc_cons (And.intro @wpE_nil (And.intro @wpE_some (And.intro @wpE_none (And.intro @wpE_g (And.intro @wpE_gn (And.intro @okR_nil (And.intro @okR_cons (And.intro @okR_skip (And.intro @okW_nil (And.intro @okW_cons (And.intro @okW_skip (And.intro @sameN_nil (And.intro @sameN_cons (And.intro @Ex2_nil (And.intro @Ex2_cons (And.intro @nx_move (And.intro @nx_assign (And.intro @nx_pick (And.intro @nx_load (And.intro @nx_bin (And.intro @nx_un (And.intro @nx_nilCheck (And.intro @nx_fieldAddr (And.intro @nx_field (And.intro @nx_indexAddr (And.intro @nx_extract (And.intro @nx_slice (And.intro @nx_build (And.intro @nx_alloc (And.intro @nx_box (And.intro @nx_makeSlice (And.intro @nx_buildSlice (And.intro @nx_makeMap (And.intro @nx_store (And.intro @nx_call (And.intro @nx_append (And.intro @nx_len (And.intro @x_oms (And.intro @x_obs (And.intro @x_omn (And.intro @Nat.zero_add (And.intro @x_lc (And.intro @x_ln (And.intro @x_cons0 (And.intro @x_consS (And.intro @x_nil (And.intro @x_getR0 (And.intro @x_getRS (And.intro @x_getRC (And.intro @x_putR0 (And.intro @x_putRS (And.intro @x_set0 (And.intro @x_setS (And.intro @x_setN (And.intro @x_all0 (And.intro @x_allS (And.intro @x_mnil (And.intro @x_mcons (And.intro @Bool_not_true (And.intro @Bool_not_false (And.intro @beq_tt (And.intro @beq_tf (And.intro @beq_ft (And.intro @beq_ff (And.intro @flat_b (And.intro @flat_ptr (And.intro @flat_sl (And.intro @flat_snil (And.intro @flat_vw (And.intro @flat_num (And.intro @flat_mp (And.intro @flat_i64 (And.intro @x_arr (And.intro @x_ct (And.intro @x_cf (And.intro @dec_true (And.intro @dec_false (And.intro @stoK_eq (And.intro @x_nbeq (And.intro @ble_true @blt_true))))))))))))))))))))))))))))))))))))))))))))))))))))))))))))))))))))))))))))))))))))))))))))))))))))))))))))))))))))))))))))))))))))))))))))))))))))))))))))))))))))):=(And.intro @tickA_eq (And.intro @x_oeq (And.intro @x_ieq (And.intro @x_teq (And.intro @x_fb (And.intro @x_tb (And.intro @Tr.of_set (And.intro @Tr.of_get (And.intro @getL_cons (And.intro @getL_nil (And.intro @St.of_nil (And.intro @St.of_new (And.intro @St.of_set (And.intro @St.of_drop (And.intro @St.of_nx (And.intro @St.of_get (And.intro @getO_cons (And.intro @getO_nil (And.intro @bindK_some (And.intro @boolK_b (And.intro @O_move (And.intro @O_assign (And.intro @O_pick (And.intro @O_load (And.intro @O_store (And.intro @O_bin (And.intro @O_not (And.intro @O_nilCheck (And.intro @O_fieldAddr (And.intro @O_field (And.intro @O_indexAddr (And.intro @O_extract (And.intro @O_box (And.intro @O_alloc (And.intro @O_slice (And.intro @O_call (And.intro @O_append (And.intro @wpO_nil (And.intro @wpO_some (And.intro @wpO_none (And.intro @ifK_true (And.intro @ifK_false (And.intro @wpO_g (And.intro @wpO_gn (And.intro @wantG_some (And.intro @opd_tmp (And.intro @opd_const (And.intro @opd_func (And.intro @bnd_pos (And.intro @wrap_id (And.intro @B_lss (And.intro @B_leq (And.intro @B_gtr (And.intro @B_geq (And.intro @B_eql (And.intro @B_neq (And.intro @B_add (And.intro @B_sub (And.intro @B_mul (And.intro @loadA_ptr (And.intro @loadA_vp (And.intro @mapO_nil (And.intro @mapO_cons (And.intro @callV_fn (And.intro @lenS_sl (And.intro @lenS_vw (And.intro @lenS_nil (And.intro @cells_agg (And.intro @cells_b (And.intro @cells_i (And.intro @cells_sl (And.intro @cells_snil (And.intro @cells_vw (And.intro @cells_num (And.intro @cells_mp (And.intro @cells_ptr (And.intro @oc_b (And.intro @oc_i (And.intro @oc_pn (And.intro @oc_sn (And.intro @oc_mn (And.intro @oc_fn (And.intro @oc_agg (And.intro @oc_nil (And.intro @oc_cons (And.intro @wpE_nil (And.intro @wpE_some (And.intro @wpE_none (And.intro @wpE_g (And.intro @wpE_gn (And.intro @okR_nil (And.intro @okR_cons (And.intro @okR_skip (And.intro @okW_nil (And.intro @okW_cons (And.intro @okW_skip (And.intro @sameN_nil (And.intro @sameN_cons (And.intro @Ex2_nil (And.intro @Ex2_cons (And.intro @nx_move (And.intro @nx_assign (And.intro @nx_pick (And.intro @nx_load (And.intro @nx_bin (And.intro @nx_un (And.intro @nx_nilCheck (And.intro @nx_fieldAddr (And.intro @nx_field (And.intro @nx_indexAddr (And.intro @nx_extract (And.intro @nx_slice (And.intro @nx_build (And.intro @nx_alloc (And.intro @nx_box (And.intro @nx_makeSlice (And.intro @nx_buildSlice (And.intro @nx_makeMap (And.intro @nx_store (And.intro @nx_call (And.intro @nx_append (And.intro @nx_len (And.intro @x_oms (And.intro @x_obs (And.intro @x_omn (And.intro @Nat.zero_add (And.intro @x_lc (And.intro @x_ln (And.intro @x_cons0 (And.intro @x_consS (And.intro @x_nil (And.intro @x_getR0 (And.intro @x_getRS (And.intro @x_getRC (And.intro @x_putR0 (And.intro @x_putRS (And.intro @x_set0 (And.intro @x_setS (And.intro @x_setN (And.intro @x_all0 (And.intro @x_allS (And.intro @x_mnil (And.intro @x_mcons (And.intro @Bool_not_true (And.intro @Bool_not_false (And.intro @beq_tt (And.intro @beq_tf (And.intro @beq_ft (And.intro @beq_ff (And.intro @flat_b (And.intro @flat_ptr (And.intro @flat_sl (And.intro @flat_snil (And.intro @flat_vw (And.intro @flat_num (And.intro @flat_mp (And.intro @flat_i64 (And.intro @x_arr (And.intro @x_ct (And.intro @x_cf (And.intro @dec_true (And.intro @dec_false (And.intro @stoK_eq (And.intro @x_nbeq (And.intro @ble_true @blt_true)))))))))))))))))))))))))))))))))))))))))))))))))))))))))))))))))))))))))))))))))))))))))))))))))))))))))))))))))))))))))))))))))))))))))))))))))))))))))))))))))))))
theorem evp:type_of% (And.intro @wpO_drA (And.intro @wpO_drS (And.intro @wpO_dr0 (And.intro @wpO_tkA (And.intro @wpO_tkS (And.intro @wpO_tk0 (And.intro @mapO_arr (And.intro @wpE_arr (And.intro @wpO_arr (And.intro @bindK_some (And.intro @boolK_b (And.intro @O_move (And.intro @O_assign (And.intro @O_pick (And.intro @O_load (And.intro @O_store (And.intro @O_bin (And.intro @O_not (And.intro @O_nilCheck (And.intro @O_fieldAddr (And.intro @O_field (And.intro @O_indexAddr (And.intro @O_extract (And.intro @O_box (And.intro @O_alloc (And.intro @O_slice (And.intro @O_call (And.intro @O_append (And.intro @wpO_nil (And.intro @wpO_some (And.intro @wpO_none (And.intro @ifK_true (And.intro @ifK_false (And.intro @wpO_g (And.intro @wpO_gn (And.intro @mapO_nil (And.intro @mapO_cons (And.intro @wpE_nil (And.intro @wpE_some (And.intro @wpE_none (And.intro @wpE_g (And.intro @wpE_gn (And.intro @nx_move (And.intro @nx_assign (And.intro @nx_pick (And.intro @nx_load (And.intro @nx_bin (And.intro @nx_un (And.intro @nx_nilCheck (And.intro @nx_fieldAddr (And.intro @nx_field (And.intro @nx_indexAddr (And.intro @nx_extract (And.intro @nx_slice (And.intro @nx_build (And.intro @nx_alloc (And.intro @nx_box (And.intro @nx_makeSlice (And.intro @nx_buildSlice (And.intro @nx_makeMap (And.intro @nx_store (And.intro @nx_call (And.intro @nx_append @nx_len))))))))))))))))))))))))))))))))))))))))))))))))))))))))))))))):=(And.intro @wpO_drA (And.intro @wpO_drS (And.intro @wpO_dr0 (And.intro @wpO_tkA (And.intro @wpO_tkS (And.intro @wpO_tk0 (And.intro @mapO_arr (And.intro @wpE_arr (And.intro @wpO_arr (And.intro @bindK_some (And.intro @boolK_b (And.intro @O_move (And.intro @O_assign (And.intro @O_pick (And.intro @O_load (And.intro @O_store (And.intro @O_bin (And.intro @O_not (And.intro @O_nilCheck (And.intro @O_fieldAddr (And.intro @O_field (And.intro @O_indexAddr (And.intro @O_extract (And.intro @O_box (And.intro @O_alloc (And.intro @O_slice (And.intro @O_call (And.intro @O_append (And.intro @wpO_nil (And.intro @wpO_some (And.intro @wpO_none (And.intro @ifK_true (And.intro @ifK_false (And.intro @wpO_g (And.intro @wpO_gn (And.intro @mapO_nil (And.intro @mapO_cons (And.intro @wpE_nil (And.intro @wpE_some (And.intro @wpE_none (And.intro @wpE_g (And.intro @wpE_gn (And.intro @nx_move (And.intro @nx_assign (And.intro @nx_pick (And.intro @nx_load (And.intro @nx_bin (And.intro @nx_un (And.intro @nx_nilCheck (And.intro @nx_fieldAddr (And.intro @nx_field (And.intro @nx_indexAddr (And.intro @nx_extract (And.intro @nx_slice (And.intro @nx_build (And.intro @nx_alloc (And.intro @nx_box (And.intro @nx_makeSlice (And.intro @nx_buildSlice (And.intro @nx_makeMap (And.intro @nx_store (And.intro @nx_call (And.intro @nx_append @nx_len)))))))))))))))))))))))))))))))))))))))))))))))))))))))))))))))
def pick (f:FuncId):List (FuncId × (List AV->St->Option (AV × St)))->Option (List AV->St->Option (AV × St))
 | []=>none
 | p :: l=>cond (Nat.beq f p.1) (some p.2) (pick f l)
theorem pick_ok {P:Program} {f:FuncId} {g:List AV->St->Option (AV × St)}:∀ {l:List (FuncId × (List AV->St->Option (AV × St)))},(∀ p ∈ l,Answers P p.1 p.2)->pick f l = some g->Answers P f g
 | [],_,h=>by cases h
 | p :: l,ha,h=>by
  simp only [pick] at h
  cases e:Nat.beq f p.1 with
  | true =>
   rw [e] at h
   simp only [cond_true,Option.some.injEq] at h
   subst h
   rw [Nat.eq_of_beq_eq_true e]
   exact ha p (List.mem_cons_self ..)
  | false =>
   rw [e] at h
   exact pick_ok (fun q hq=>ha q (List.mem_cons_of_mem _ hq)) h
def envOf (l:List (FuncId × (List AV->St->Option (AV × St)))):Env:=⟨fun f=>pick f l,fun _ _=>none⟩
structure Mc (P:Program) (X:Env) (E:Ev):Prop where
 is:∃ k,E = Ev.at_ P X k/\Sound P (Ev.at_ P X k)/\Sound P (Ev.at_ P X (k + 1))
theorem mc_of {P:Program} (hl:laidOutB P = true)(hmo:P.follows .mixedOrders = true) {l:List (FuncId × (List AV->St->Option (AV × St)))} (ha:∀ p ∈ l,Answers P p.1 p.2):Mc P (envOf l) (Ev.at_ P (envOf l) 1) :=
 ⟨1,rfl,at_ok hl hmo (fun t m f via h=>by cases h) (fun {f g} h=>pick_ok ha h) _,at_ok hl hmo (fun t m f via h=>by cases h) (fun {f g} h=>pick_ok ha h) _⟩
section
variable {bb:Nat} {P:Program} {X:Env} {E:Ev} {f:FuncId} {n:Nat} {T:Tr AV} {rd:Option Nat} {ms:List Nat} {s:St} {Q:Ex->Fr->St->Prop} {id:Nat} {ops:Array Oper}
theorem Jd.reg (M:Mc P X E) (gl:List (Option Tmp))(hgl:ops.toList.map (·.dst) = gl)(h:wpO P X E n gl ops.toList T s fun T s=>Q .normal ⟨f,n,T,rd,ms⟩ s):Jb bb P (.region id ops false) ⟨f,n,T,rd,ms⟩ s Q:=by
 obtain ⟨k,rfl,_,S⟩:=M.is
 exact Jd.region S gl hgl h
theorem Jd.drw (M:Mc P X E) (gl:List (Option Tmp)) (ex:List (Nat × Nat))(hgl:ops.toList.map (·.dst) = gl)
  (hst:(match staticOk ops.toList with | some M=>ex.all (fun p=>match M.get p.1 with | some m=>m.testBit p.2 | none=>false) | none=>false) = true)
  (h:wpD P X E n gl ex 0 ops.toList T s [] [] fun T s=>Q .normal ⟨f,n,T,rd,ms⟩ s):Jb bb P (.region id ops true) ⟨f,n,T,rd,ms⟩ s Q:=by
 obtain ⟨k,rfl,S0,S⟩:=M.is
 exact Jd.draw S S0 gl ex hgl hst h
theorem Jd.regS (M:Mc P X E) {b:Code} {T':Tr AV} {s':St} (h1:∀ (K:Tr AV->St->Prop) (gl:List (Option Tmp)),ops.toList.map (·.dst) = gl->K T' s'->wpO P X E n gl ops.toList T s K)(h2:Jb bb P b ⟨f,n,T',rd,ms⟩ s' Q):Jb bb P (.seq (.region id ops false) b) ⟨f,n,T,rd,ms⟩ s Q:=by
 exact Jd.seq (Jd.reg M _ rfl (h1 _ _ rfl h2))
theorem Jd.regQ (M:Mc P X E) {T':Tr AV} {s':St} (h1:∀ (K:Tr AV->St->Prop) (gl:List (Option Tmp)),ops.toList.map (·.dst) = gl->K T' s'->wpO P X E n gl ops.toList T s K)(h2:Q .normal ⟨f,n,T',rd,ms⟩ s'):Jb bb P (.region id ops false) ⟨f,n,T,rd,ms⟩ s Q:=by
 exact Jd.reg M _ rfl (h1 _ _ rfl h2)
theorem Jd.drwS (M:Mc P X E) {b:Code} (ex:List (Nat × Nat))
  (hst:(match staticOk ops.toList with | some M=>ex.all (fun p=>match M.get p.1 with | some m=>m.testBit p.2 | none=>false) | none=>false) = true)
  {T':Tr AV} {s':St} (h1:∀ (K:Tr AV->St->Prop) (gl:List (Option Tmp)),ops.toList.map (·.dst) = gl->K T' s'->wpE P X E n gl ex 0 ops.toList T s [] [] K) (h2:Jb bb P b ⟨f,n,T',rd,ms⟩ s' Q):Jb bb P (.seq (.region id ops true) b) ⟨f,n,T,rd,ms⟩ s Q:=by
 exact Jd.seq (Jd.drw M _ ex rfl hst (wpE_D (h1 _ _ rfl h2)))
theorem Jd.drwQ (M:Mc P X E) (ex:List (Nat × Nat))
  (hst:(match staticOk ops.toList with | some M=>ex.all (fun p=>match M.get p.1 with | some m=>m.testBit p.2 | none=>false) | none=>false) = true)
  {T':Tr AV} {s':St} (h1:∀ (K:Tr AV->St->Prop) (gl:List (Option Tmp)),ops.toList.map (·.dst) = gl->K T' s'->wpE P X E n gl ex 0 ops.toList T s [] [] K) (h2:Q .normal ⟨f,n,T',rd,ms⟩ s'):Jb bb P (.region id ops true) ⟨f,n,T,rd,ms⟩ s Q:=by
 exact Jd.drw M _ ex rfl hst (wpE_D (h1 _ _ rfl h2))
def getX (l:List (Nat × AV)):Operand->Option AV
 | .tmp t=>getL l t
 | .const v=>ofConst v
 | .global _=>none
 | .func f=>some (.fn f [] [])
theorem opd_getX (l:List (Nat × AV)) (x:Operand):opd (Tr.of l) x = getX l x:=by
 cases x <;> first | rfl | exact Tr.of_get _ l
theorem Jd.cnd {l:List (Nat × AV)} {a b:Code} {x:Operand} {t:Bool} (hx:getX l x = some (.b t))(h1:t = true->Jb bb P a ⟨f,n,Tr.of l,rd,ms⟩ s Q)(h2:t = false->Jb bb P b ⟨f,n,Tr.of l,rd,ms⟩ s Q):Jb bb P (.cond x a b) ⟨f,n,Tr.of l,rd,ms⟩ s Q :=
 Jd.cond ((opd_getX l x).trans hx) h1 h2
theorem Jd.skipT {K:Fr->St->Prop} {fr:Fr} (h:K fr s):Jb bb P .skip fr s (Thn K Q):=Jd.skip h
theorem Jd.retT {K:Fr->St->Prop} {fr:Fr} (h:Q .ret fr s):Jb bb P .ret fr s (Thn K Q):=Jd.ret h
theorem Jd.exitT {K:Fr->St->Prop} {fr:Fr} {i:Nat} (h:Q (.exit i) fr s):Jb bb P (.exit i) fr s (Thn K Q):=Jd.exit h
theorem Blk_.out {Q:Ex->Fr->St->Prop} {i:Nat} {fr:Fr} (h:Q .normal fr s):Blk_ i Q (.exit i) fr s:=by simp only [Blk_,if_true]; exact h
theorem Blk_.far {Q:Ex->Fr->St->Prop} {i j:Nat} {fr:Fr} (hne:j ≠ i)(h:Q (.exit j) fr s):Blk_ i Q (.exit j) fr s:=by simp only [Blk_,if_neg hne]; exact h
theorem Done.one {fn:Func} {R:AV->St->Prop} {l:List (Nat × AV)} {k:Tmp} {v:AV} (hr:fn.results = #[.tmp k])(hv:getL l k = some v)(h:R v s):Done P fn R .ret ⟨f,n,Tr.of l,none,[]⟩ s:=by
 refine ⟨trivial,rfl,[v],?_,h⟩
 rw [hr]
 simp only [resAs,resA,Tr.of_get,hv,Option.map_some]
theorem Done.two {fn:Func} {R:AV->St->Prop} {l:List (Nat × AV)} {k j:Tmp} {v u:AV} (hr:fn.results = #[.tmp k,.tmp j])(hv:getL l k = some v)(hu:getL l j = some u)(h:R (.tup [v,u]) s):Done P fn R .ret ⟨f,n,Tr.of l,none,[]⟩ s:=by
 refine ⟨trivial,rfl,[v,u],?_,h⟩
 rw [hr]
 simp only [resAs,resA,Tr.of_get,hv,hu,Option.map_some]
end
end
end Go.Proofs.YtdehimgccmbfkaaGreat
