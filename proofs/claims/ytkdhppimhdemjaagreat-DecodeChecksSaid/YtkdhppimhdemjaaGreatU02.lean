/- Lemmas on the way: Ev0. -/
import GoSem.Machine.Report
import GoSem.Machine.Return
import Derived.Maps.Keyed
import Derived.DeepKeys4
import Derived.WalkKit
set_option linter.all false
set_option maxRecDepth 1000000
set_option maxHeartbeats 32000000
namespace Go.Proofs.YtkdhppimhdemjaaGreat
open Go.RowKit
section
inductive Tr (α:Type) where
 | nil
 | node (v:Option α) (l r:Tr α)
namespace Tr
variable {α:Type}
def get:Tr α->Nat->Option α
 | .nil,_=>none
 | .node v l r,k=>cond (Nat.beq k 0) v (cond (Nat.beq (k % 2) 1) (l.get (k / 2)) (r.get (k / 2 - 1)))
def put (x:Option α):Nat->Tr α->Nat->Tr α
 | 0,t,_=>t
 | f + 1,.nil,k=>cond (Nat.beq k 0) (.node x .nil .nil) (cond (Nat.beq (k % 2) 1) (.node none (put x f .nil (k / 2)) .nil) (.node none .nil (put x f .nil (k / 2 - 1))))
 | f + 1,.node v l r,k=>cond (Nat.beq k 0) (.node x l r) (cond (Nat.beq (k % 2) 1) (.node v (put x f l (k / 2)) r) (.node v l (put x f r (k / 2 - 1))))
def set (t:Tr α) (k:Nat) (x:Option α):Tr α:=put x (k + 1) t k
def ofList (l:List α):Tr α:=(l.foldl (fun (p:Tr α × Nat) x=>(p.1.set p.2 (some x),p.2 + 1)) (.nil,0)).1
end Tr

inductive AV where
 | b (x:Bool)
 | i (k:IntKind) (n:Int)
 | ptr (o off:Nat)
 | pnil
 | sl (o off len cap:Nat)
 | snil
 | nat (o:Nat)
 | num (n:Nat)
 | vw (c:List AV) (n:Nat)
 | vp (c:List AV) (off:Nat)
 | fm (ks vs:List AV)
 | mp (o:Nat)
 | mnil
 | fn (f:FuncId) (fs cs:List AV)
 | yl (l:Nat)
 | fnil
 | ifc (t:TypeId) (v:AV)
 | inil
 | agg (l:List AV)
 | tup (l:List AV)
 deriving Inhabited

mutual
def same:AV->AV->Bool
 | .b x,.b y=>x == y
 | .i k n,.i k' n'=>k == k' && n == n'
 | .ptr o f,.ptr o' f'=>Nat.beq o o' && Nat.beq f f'
 | .pnil,.pnil=>true
 | .sl o f n c,.sl o' f' n' c'=>Nat.beq o o' && Nat.beq f f' && Nat.beq n n' && Nat.beq c c'
 | .snil,.snil=>true
 | .nat o,.nat o'=>Nat.beq o o'
 | .num n,.num n'=>Nat.beq n n'
 | .vw c n,.vw c' n'=>gH c c' && Nat.beq n n'
 | .vp c n,.vp c' n'=>gH c c' && Nat.beq n n'
 | .fm a b,.fm a' b'=>gH a a' && gH b b'
 | .mp o,.mp o'=>Nat.beq o o'
 | .mnil,.mnil=>true
 | .fn f a b,.fn f' a' b'=>Nat.beq f f' && gH a a' && gH b b'
 | .yl l,.yl l'=>Nat.beq l l'
 | .fnil,.fnil=>true
 | .ifc t v,.ifc t' v'=>Nat.beq t t' && same v v'
 | .inil,.inil=>true
 | .agg l,.agg l'=>gH l l'
 | .tup l,.tup l'=>gH l l'
 | _,_=>false
def gH:List AV->List AV->Bool
 | [],[]=>true
 | x :: l,y :: l'=>same x y && gH l l'
 | _,_=>false
end

def flat:AV->Bool
 | .agg _ | .tup _ | .i .u32 _=>false
 | _=>true

structure AE where
 key:AV
 val:AV
 born:Nat

inductive LS where
 | ready | busy | done | over

inductive AO where
 | cells (c:List AV) (t:TypeId) (op:Bool)
 | map (es:List AE) (clock:Nat)
 | iter (m:Option Nat) (since:Nat) (seen:List Nat) (stepped:Nat)
 | amap (I:List AE->Prop)
 | walk (cur ks vs:List AV)
 | loop (st:LS) (pe:Option Code) (fn:FuncId) (n:Nat) (T:Tr AV) (ps:List Tmp) (asn body:Code) (ds:Nat)
 | defs
 | nat (n:Nat)

structure St where
 h:Tr AO
 nx:Nat

structure Fr where
 fn:FuncId
 n:Nat
 T:Tr AV
 rd:Option Nat
 ms:List Nat

inductive Ex where
 | normal | exit (id:Nat) | ret

structure Ev where
 call:FuncId->List AV->St->Option (AV × St)
 code:Code->Fr->St->Option (Ex × Fr × St)

def cW:Nat:=2 ^ 63

def St.new (s:St) (o:AO):St:=⟨s.h.set s.nx (some o),s.nx + 1⟩
def St.set (s:St) (k:Nat) (o:AO):St:=⟨s.h.set k (some o),s.nx⟩
def St.drop (s:St) (k:Nat):St:=⟨s.h.set k none,s.nx⟩

mutual
def br:Value->Option AV
 | .bool x=>some (.b x)
 | .int k n=>some (.i k n)
 | .pointer none=>some .pnil
 | .slice none 0 0=>some .snil
 | .map none=>some .mnil
 | .nilFunc=>some .fnil
 | .nilIface=>some .inil
 | .agg ⟨l⟩=>(eZ l).map .agg
 | .tuple ⟨[]⟩=>some (.tup [])
 | _=>none
def eZ:List Value->Option (List AV)
 | []=>some []
 | v :: l=>match br v with
  | some x=>(eZ l).map (x :: ·)
  | none=>none
end
def uC:AV->Option Value
 | .b x=>some (.bool x)
 | .i k n=>some (.int k n)
 | _=>none
def gi (P:Program) {α:Type}:Sem α->Option α
 | .pure a=>some a
 | .program k=>gi P (k P)
 | _=>none

section
variable (P:Program)
def fZ (T:Tr AV):Operand->Option AV
 | .tmp t=>T.get t
 | .const v=>br v
 | .global _=>none
 | .func f=>some (.fn f [] [])
def kr (t:TypeId):Option Bool :=
 match P.underlying t with
 | some (.struct _)=>some true
 | some (.array _ _)=>some true
 | some _=>some false
 | none=>none
def bk (t:TypeId):Option Nat:=(P.info? t).map (·.size)
def bP (t:TypeId):Option AV:=(P.info? t).bind fun i=>i.zero.bind br
def AV.cells:AV->List AV
 | .agg l=>l
 | v=>[v]
def getR {α:Type}:List α->Nat->Nat->Option (List α)
 | _,_,0=>some []
 | l,off,n + 1=>match l[off]? with
  | some x=>(getR l (off + 1) n).map (x :: ·)
  | none=>none
def cY {α:Type}:List α->Nat->List α->List α
 | l,_,[]=>l
 | l,off,x :: xs=>cY (l.set off x) (off + 1) xs
def fx (t:TypeId) (l:List AV) (off:Nat):Option AV :=
 match kr P t,bk P t with
 | some true,some n=>(getR l off n).map .agg
 | some false,_=>l[off]?
 | _,_=>none
def ig (s:St) (t:TypeId):AV->Option AV
 | .ptr o off=>match s.h.get o with
  | some (.cells c _ _)=>fx P t c off
  | _=>none
 | .vp c off=>fx P t c off
 | _=>none
def gF (s:St) (t:TypeId) (v:AV):AV->Option St
 | .ptr o off=>match s.h.get o with
  | some (.cells c e op)=>match bk P t with
   | some n=>cond (Nat.beq v.cells.length n && Nat.ble (off + n) c.length && v.cells.all flat) (some (s.set o (.cells (cY c off v.cells) e op))) none
   | none=>none
  | _=>none
 | _=>none
def th:List AV->Option (List Int)
 | []=>some []
 | .i .i64 n :: l=>(th l).map (n :: ·)
 | _=>none
def gX:AV->Option (Bool × List Int)
 | .i .i64 n=>some (false,[n])
 | .agg l=>(th l).map fun l=>(true,l)
 | _=>none
def bG (q:Bool × List Int):Value:=cond q.1 (.agg (q.2.map (Value.int .i64)).toArray) (.int .i64 (q.2.headD 0))
def s6 (k:TypeId) (q:Bool × List Int):Bool:=(keyOf P k (bG q)).isSome
def lS (k:TypeId):List AE->Option (List (Bool × List Int))
 | []=>some []
 | e :: es=>match gX e.key with
  | some q=>cond (s6 P k q) ((lS k es).map (q :: ·)) none
  | none=>none
def pN (q:Bool × List Int):List (Bool × List Int)->Nat->List Nat
 | [],_=>[]
 | x :: xs,i=>cond (x.1 == q.1 && x.2 == q.2) (i :: pN q xs (i + 1)) (pN q xs (i + 1))
def xi (k:TypeId):Bool :=
 match P.underlying k with
 | some (.int _)=>true
 | some (.array _ _) | some (.struct _)=>Nat.blt k P.types.size && P.keyTypeAt 100 k
 | _=>false
def f8 (k:TypeId) (q:Bool × List Int) (es:List AE):Option (Option Nat) :=
 cond (xi P k && s6 P k q) (match lS P k es with
 | some ks=>match pN q ks 0 with
  | []=>some none
  | [i]=>some (some i)
  | _=>none
 | none=>none) none
def xE (op:BinOp) (r:Bool):Option AV :=
 match op with
 | .eql=>some (.b r)
 | .neq=>some (.b !r)
 | _=>none
def lG (op:BinOp) (t:TypeId) (x y:AV):Option AV :=
 match x,y with
 | .i k a,.i k' b=>(gi P (binOp op t (.int k a) (.int k' b))).bind br
 | .b a,.b b=>(gi P (binOp op t (.bool a) (.bool b))).bind br
 | _,_=>match P.underlying t,x,y with
  | some (.pointer _),.pnil,.pnil | some (.slice _),.snil,.snil | some (.func _ _ _),.fnil,.fnil | some (.map _ _),.mnil,.mnil=>xE op true
  | some (.pointer _),.ptr ..,.pnil | some (.pointer _),.pnil,.ptr .. | some (.slice _),.sl ..,.snil | some (.slice _),.snil,.sl .. | some (.func _ _ _),.fn ..,.fnil | some (.func _ _ _),.fnil,.fn ..
  | some (.func _ _ _),.yl _,.fnil | some (.func _ _ _),.fnil,.yl _ | some (.map _ _),.mp _,.mnil | some (.map _ _),.mnil,.mp _
  | some (.pointer _),.vp ..,.pnil | some (.pointer _),.pnil,.vp .. | some (.slice _),.vw _ (_ + 1),.snil | some (.slice _),.snil,.vw _ (_ + 1)
  | some (.map _ _),.fm _ _,.mnil | some (.map _ _),.mnil,.fm _ _=>xE op false
  | _,_,_=>none
def nU (x:AV):Option Nat :=
 match x with
 | .i .i64 n=>match n with
  | .ofNat k=>some k
  | _=>none
 | _=>none
def di (ρ:Operand->Option AV) (d:Nat):Option Operand->Option Nat
 | none=>some d
 | some x=>(ρ x).bind nU
def eu (ρ:Operand->Option AV) (t:TypeId) (x:AV) (lo hi mx:Option Operand):Option AV :=
 match P.underlying t,x with
 | some (.slice e),.sl o off len cap =>
  match bk P e,di ρ 0 lo,di ρ len hi,di ρ cap mx with
  | some z,some l,some h,some m =>
   cond (Nat.ble l h && Nat.ble h len && (mx.isNone || (Nat.ble h m && Nat.ble m len)) && Nat.ble len cap)
    (cond (mx.isNone && Nat.ble cW cap)
     (cond (Nat.beq cap (cW + z) && (Nat.beq l 0 || Nat.blt l len)) (some (.sl o (off + l * z) (h - l) cap)) none)
     (cond (Nat.beq l 0 || Nat.blt l m) (some (.sl o (off + l * z) (h - l) (m - l))) none)) none
  | _,_,_,_=>none
 | some (.slice e),.vw c len =>
  match bk P e,di ρ 0 lo,di ρ len hi,mx with
  | some z,some l,some h,none=>cond (Nat.ble l h && Nat.ble h len) (some (.vw (c.drop (l * z)) (h - l))) none
  | _,_,_,_=>none
 | some (.slice e),.snil =>
  match bk P e,di ρ 0 lo,di ρ 0 hi,di ρ 0 mx with
  | some _,some 0,some 0,some 0=>some .snil
  | _,_,_,_=>none
 | some (.array n e),.ptr o off =>
  match bk P e,di ρ 0 lo,di ρ n hi,di ρ n mx with
  | some z,some l,some h,some m=>cond (Nat.ble l h && Nat.ble h m && Nat.ble m n && (Nat.beq l 0 || Nat.blt l m) && Nat.blt n cW) (some (.sl o (off + l * z) (h - l) (m - l))) none
  | _,_,_,_=>none
 | _,_=>none
def iC (t:TypeId) (f:Nat):Option Field :=
 match P.underlying t with
 | some (.struct fs)=>fs[f]?
 | _=>none
def DI:List AV->List AV->List AE
 | k :: ks,v :: vs=>⟨k,v,0⟩ :: DI ks vs
 | _,_=>[]
def nC (s:St) (t:TypeId) (x k:AV) (ok:Bool):Option AV :=
 match P.underlying t,gX k with
 | some (.map kt e),some q =>
  match (match x with
   | .mnil=>some []
   | .mp o=>match s.h.get o with
    | some (.map es _)=>some es
    | _=>none
   | .fm ks vs=>some (DI ks vs)
   | _=>none) with
  | some es=>match f8 P kt q es with
   | some (some i)=>match es[i]? with
    | some e=>some (cond ok (.tup [e.val,.b true]) e.val)
    | none=>none
   | some none=>(bP P e).map fun v=>cond ok (.tup [v,.b false]) v
   | none=>none
  | none=>none
 | _,_=>none
def IG (s:St):AV->Option Nat
 | .sl _ _ n _=>some n
 | .vw _ n=>some n
 | .snil=>some 0
 | .mnil=>some 0
 | .fm ks _=>some ks.length
 | .mp o=>match s.h.get o with
  | some (.map es _)=>some es.length
  | _=>none
 | _=>none
def il (ρ:Operand->Option AV) (pl:Nat->Option (Nat × Nat)):List AV->List (Nat × Operand)->Option (List AV)
 | c,[]=>some c
 | c,p :: ps=>match pl p.1,ρ p.2 with
  | some (off,n),some v=>cond (Nat.beq v.cells.length n && Nat.ble (off + n) c.length) (il ρ pl (cY c off v.cells) ps) none
  | _,_=>none
def jq:List Field->Option (List (Nat × Nat))
 | []=>some []
 | f :: fs=>match bk P f.type with
  | some n=>(jq fs).map ((f.offset,n) :: ·)
  | none=>none
def dL (ρ:Operand->Option AV) (s:St) (o:Op):Option AV :=
 match o with
 | .move x | .assign x=>ρ x
 | .pick c a b=>match ρ c with
  | some (.b t)=>cond t (ρ a) (ρ b)
  | _=>none
 | .load t a=>(ρ a).bind (ig P s t)
 | .nilCheck x=>match ρ x with
  | some (.ptr o off)=>some (.ptr o off)
  | some (.vp c off)=>some (.vp c off)
  | some (.fn f fs cs)=>some (.fn f fs cs)
  | some (.yl l)=>some (.yl l)
  | _=>none
 | .binOp op t x y _=>match ρ x,ρ y with
  | some a,some b=>lG P op t a b
  | _,_=>none
 | .unOp op _ x=>(ρ x).bind fun a=>(uC a).bind fun v=>(gi P (Op.unary op v)).bind br
 | .convert src dst x=>(ρ x).bind fun a=>match a with
  | .i k n=>(gi P (convert src dst (.int k n))).bind br
  | _=>none
 | .makeInterface t x=>match P.underlying t with
  | some (.interface _)=>none
  | some _=>(ρ x).map (.ifc t)
  | none=>none
 | .makeFunc (.func f) fs cs=>(fs.toList.mapM ρ).bind fun fs=>(cs.toList.mapM ρ).map fun cs=>.fn f fs cs
 | .slice t x lo hi mx=>cond (hi.isSome || mx.isNone) ((ρ x).bind fun a=>eu P ρ t a lo hi mx) none
 | .fieldAddr t x f=>match iC P t f,ρ x with
  | some fd,some (.ptr o off)=>match bk P fd.type with
   | some (_ + 1)=>some (.ptr o (off + fd.offset))
   | _=>none
  | some fd,some (.vp c off)=>match bk P fd.type with
   | some (_ + 1)=>some (.vp c (off + fd.offset))
   | _=>none
  | _,_=>none
 | .field t x f=>match iC P t f,ρ x with
  | some fd,some (.agg l)=>fx P fd.type l fd.offset
  | _,_=>none
 | .indexAddr t x ix=>match P.underlying t,ρ x,(ρ ix).bind nU with
  | some (.array n e),some (.ptr o off),some i=>match bk P e with
   | some z=>cond (Nat.blt i n) (some (.ptr o (off + i * z))) none
   | none=>none
  | some (.slice e),some (.sl o off n _),some i=>match bk P e with
   | some z=>cond (Nat.blt i n) (some (.ptr o (off + i * z))) none
   | none=>none
  | some (.array n e),some (.vp c off),some i=>match bk P e with
   | some z=>cond (Nat.blt i n) (some (.vp c (off + i * z))) none
   | none=>none
  | some (.slice e),some (.vw c n),some i=>match bk P e with
   | some z=>cond (Nat.blt i n) (some (.vp c (i * z))) none
   | none=>none
  | _,_,_=>none
 | .index t x ix=>match P.underlying t,ρ x,(ρ ix).bind nU with
  | some (.array n e),some (.agg l),some i=>match bk P e with
   | some z=>cond (Nat.blt i n) (fx P e l (i * z)) none
   | none=>none
  | _,_,_=>none
 | .lookup t x k ok=>match ρ x,ρ k with
  | some a,some b=>nC P s t a b ok
  | _,_=>none
 | .typeAssert x _ t ok=>match P.underlying t,ρ x with
  | some (.interface _),_=>none
  | some _,some (.ifc t' v)=>cond (Nat.beq t t') (some (cond ok (.tup [v,.b true]) v)) none
  | _,_=>none
 | .extract x k=>match ρ x with
  | some (.tup l)=>l[k]?
  | _=>none
 | .entry it=>match ρ it with
  | some (.ptr o 0)=>match s.h.get o with
   | some (.walk [k,v] _ _)=>some (.tup [k,v])
   | some (.iter (some m) _ seen st)=>match s.h.get m with
    | some (.map es clock)=>match seen.getLast? with
     | some b=>cond (Nat.beq clock st) (match es.find? (fun e=>Nat.beq e.born b) with
      | some e=>some (.tup [e.key,e.val])
      | none=>none) none
     | none=>none
    | _=>none
   | _=>none
  | _=>none
 | .call { callee:=.builtin .len,args,argTypes }=>match argTypes.toList,args.toList with
  | [t],[x]=>match P.underlying t with
   | some (.array n _)=>some (.i .i64 n)
   | some (.slice _)=>match ρ x with
    | some (.sl _ _ n _)=>some (.i .i64 n)
    | some (.vw _ n)=>some (.i .i64 n)
    | some .snil=>some (.i .i64 0)
    | _=>none
   | some (.map _ _)=>match ρ x with
    | some (.mp o)=>(IG s (.mp o)).map fun n=>.i .i64 n
    | some .mnil=>some (.i .i64 0)
    | some (.fm ks _)=>some (.i .i64 ks.length)
    | _=>none
   | _=>none
  | _,_=>none
 | .call { callee:=.builtin .cap,args,argTypes }=>match argTypes.toList,args.toList with
  | [t],[x]=>match P.underlying t with
   | some (.slice _)=>match ρ x with
    | some (.sl _ _ _ c)=>cond (Nat.blt c cW) (some (.i .i64 c)) none
    | some .snil=>some (.i .i64 0)
    | _=>none
   | _=>none
  | _,_=>none
 | .call { callee:=.builtin .min,args,argTypes }=>match args.toList.mapM ρ with
  | some [.i k a,.i k' b]=>cond (k == k') (some (.i k (cond (decide (b < a)) b a))) none
  | _=>none
 | .call { callee:=.builtin .max,args,argTypes }=>match args.toList.mapM ρ with
  | some [.i k a,.i k' b]=>cond (k == k') (some (.i k (cond (decide (b > a)) b a))) none
  | _=>none
 | .build t ps=>match bP P t,P.underlying t with
  | some z,some (.struct fs)=>match jq P fs.toList with
   | some pl=>(il ρ (fun i=>pl[i]?) z.cells ps.toList).map .agg
   | none=>none
  | some z,some (.array _ e)=>match bk P e with
   | some n=>(il ρ (fun i=>some (i * n,n)) z.cells ps.toList).map .agg
   | none=>none
  | _,_=>none
 | _=>none
def reps {α:Type} (z:List α):Nat->List α
 | 0=>[]
 | n + 1=>z ++ reps z n
def oT (ρ:Operand->Option AV) (o:Op):Option (AO × (Nat->AV)) :=
 match o with
 | .alloc t=>(bP P t).bind fun z=>cond (z.cells.all flat) (some (.cells z.cells t false,fun k=>.ptr k 0)) none
 | .box t x=>(ρ x).bind fun v=>cond (v.cells.all flat) (some (.cells v.cells t false,fun k=>.ptr k 0)) none
 | .buildSlice t len ps=>match P.underlying t with
  | some (.slice e)=>match bP P e,bk P e with
   | some z,some n=>cond (Nat.beq z.cells.length n && Nat.blt 0 n && Nat.ble (len * n) (2 ^ 24))
     ((il ρ (fun i=>some (i * n,n)) (reps z.cells len) ps.toList).bind fun c=>cond (c.all flat) (some (.cells c e false,fun k=>.sl k 0 len len)) none) none
   | _,_=>none
  | _=>none
 | .makeMap _ none=>some (.map [] 0,fun k=>.mp k)
 | .makeMap t (some x)=>match P.underlying t,ρ x with
  | some (.map _ _),some (.i _ _)=>some (.map [] 0,fun k=>.mp k)
  | _,_=>none
 | .makeSlice t l c=>match P.underlying t,(ρ l).bind nU,(ρ c).bind nU with
  | some (.slice e),some l,some c=>match bP P e,P.info? e with
   | some z,some i=>cond (z.cells.all flat && Nat.beq z.cells.length i.size && Nat.blt 0 i.size && Nat.ble l c && Nat.ble c 1000000 && Nat.ble i.bytes 1000000)
     (some (.cells (reps z.cells c) e false,fun k=>.sl k 0 l c)) none
   | _,_=>none
  | _,_,_=>none
 | _=>none

def gK (s:St) (kt:TypeId) (m k v:AV):Option St :=
 match m,gX k with
 | .mp o,some q=>match s.h.get o with
  | some (.map es clock)=>match f8 P kt q es with
   | some (some i)=>match es[i]? with
    | some e=>some (s.set o (.map (es.set i ⟨k,v,e.born⟩) clock))
    | none=>none
   | some none=>some (s.set o (.map (es ++ [⟨k,v,clock⟩]) (clock + 1)))
   | none=>none
  | _=>none
 | _,_=>none
def cA (s:St) (z:Nat):AV->Option (List AV)
 | .snil=>some []
 | .sl o off n _=>match s.h.get o with
  | some (.cells c _ _)=>getR c off (n * z)
  | _=>none
 | .vw c n=>(getR c 0 (n * z)).bind fun l=>cond (l.all flat) (some l) none
 | _=>none
def fR (s:St) (e:TypeId) (x y:AV):Option (AV × St) :=
 match P.info? e,bP P e with
 | some i,some zv =>
  match cA s i.size x,cA s i.size y with
  | some old,some new =>
   cond (zv.cells.all flat && Nat.blt 0 i.size && Nat.beq zv.cells.length i.size && Nat.ble (old.length + new.length) 1000000 && Nat.ble i.bytes 1000000)
   (match x with
   | .snil=>cond (Nat.beq new.length 0) (some (.snil,s)) (some (.sl s.nx 0 (new.length / i.size) (cW + i.size),s.new (.cells new e true)))
   | .sl o off n cap=>cond (Nat.blt cap cW)
    (cond (Nat.ble (n + new.length / i.size) cap)
     (match s.h.get o with
     | some (.cells c e' op)=>cond (Nat.ble (off + cap * i.size) c.length) (some (.sl o off (n + new.length / i.size) cap,s.set o (.cells (cY c (off + n * i.size) new) e' op))) none
     | _=>none)
     (some (.sl s.nx 0 (n + new.length / i.size) (cW + i.size),s.new (.cells (old ++ new) e true))))
    (cond (Nat.beq cap (cW + i.size))
     (match s.h.get o with
     | some (.cells c e' op)=>cond (Nat.ble (off + n * i.size + new.length) c.length)
       (some (.sl o off (n + new.length / i.size) cap,s.set o (.cells (cY c (off + n * i.size) new) e' op)))
       (cond (Nat.beq e e') (some (.sl s.nx 0 (n + new.length / i.size) cap,(s.drop o).new (.cells (old ++ new) e true))) none)
     | _=>none) none)
   | _=>none) none
  | _,_=>none
 | _,_=>none
def pz (s:St) (e:TypeId) (x y:AV):Option (AV × St) :=
 match bk P e,x,y with
 | some z,.sl o off n _,.sl o' off' n' _ =>
  match s.h.get o,s.h.get o' with
  | some (.cells c t op),some (.cells c' _ _)=>match getR c' off' (min n n' * z) with
   | some l=>cond (Nat.ble (off + l.length) c.length) (some (.i .i64 (min n n':Nat),s.set o (.cells (cY c off l) t op))) none
   | none=>none
  | _,_=>none
 | some z,.sl o off n _,.vw c' n' =>
  match s.h.get o,getR c' 0 (min n n' * z) with
  | some (.cells c t op),some l=>cond (Nat.ble (off + l.length) c.length && l.all flat) (some (.i .i64 (min n n':Nat),s.set o (.cells (cY c off l) t op))) none
  | _,_=>none
 | _,_,_=>none
def cV (E:Ev) (l:Nat) (args:List AV) (s:St):Option (AV × St) :=
 match s.h.get l with
 | some (.loop .ready pe fn n T ps asn body ds) =>
  cond (Nat.beq args.length ps.length && ps.all fun t=>Nat.blt t n)
   (match E.code asn ⟨fn,n,(ps.zip args).foldl (fun T p=>T.set p.1 (some p.2)) T,some l,[]⟩ s with
   | some (.normal,fr,s1) =>
    match s1.h.get l with
    | some (.loop .ready pe1 fn1 n1 T1 ps1 asn1 body1 ds1) =>
     match E.code body fr (s1.set l (.loop .busy pe1 fn1 n1 T1 ps1 asn1 body1 ds1)) with
     | some (ex,_,s2) =>
      match s2.h.get l with
      | some (.loop _ _ fn2 n2 T2 ps2 asn2 body2 ds2) =>
       match ex with
       | .normal=>some (.b true,s2.set l (.loop .ready none fn2 n2 T2 ps2 asn2 body2 ds2))
       | .ret=>some (.b false,s2.set l (.loop .done (some .ret) fn2 n2 T2 ps2 asn2 body2 ds2))
       | .exit id=>some (.b false,s2.set l (.loop .done (some (.exit id)) fn2 n2 T2 ps2 asn2 body2 ds2))
      | _=>none
     | none=>none
    | _=>none
   | _=>none) none
 | _=>none
inductive Pb where
 | same | deref (t:TypeId)
structure dY where
 orc:FuncId->Option (List AV->St->Option (AV × St))
 meth:TypeId->String->Option (FuncId × Pb)
def gy (X:dY) (E:Ev) (ρ:Operand->Option AV) (s:St) (o:Op):Option (AV × St) :=
 match o with
 | .store t a v=>match ρ a,ρ v with
  | some a,some v=>(gF P s t v a).map fun s=>(.tup [],s)
  | _,_=>none
 | .mapUpdate t m k v=>match P.underlying t,ρ m,ρ k,ρ v with
  | some (.map kt _),some m,some k,some v=>(gK P s kt m k v).map fun s=>(.tup [],s)
  | _,_,_,_=>none
 | .mapEntry t m k=>match P.underlying t,ρ m,ρ k with
  | some (.map kt e),some (.mp o),some k=>match gX k,s.h.get o with
   | some q,some (.map es clock)=>match f8 P kt q es with
    | some (some i)=>match es[i]? with
     | some e=>some (.tup [e.val,.i .i64 e.born],s.set o (.map (es.set i ⟨k,e.val,e.born⟩) clock))
     | none=>none
    | some none=>match bP P e with
     | some z=>some (.tup [z,.i .i64 clock],s.set o (.map (es ++ [⟨k,z,clock⟩]) (clock + 1)))
     | none=>none
    | none=>none
   | _,_=>none
  | _,_,_=>none
 | .entryStore _ m b v=>match ρ m,(ρ b).bind nU,ρ v with
  | some (.mp o),some b,some v=>match s.h.get o with
   | some (.map es clock)=>match es.findIdx? (fun e=>Nat.beq e.born b) with
    | some i=>match es[i]? with
     | some e=>some (.tup [],s.set o (.map (es.set i ⟨e.key,v,e.born⟩) clock))
     | none=>none
    | none=>none
   | _=>none
  | _,_,_=>none
 | .range t x=>match P.underlying t,ρ x with
  | some (.map _ _),some .mnil=>some (.ptr s.nx 0,s.new (.iter none 0 [] 0))
  | some (.map _ _),some (.fm ks vs)=>some (.ptr s.nx 0,s.new (.walk [] ks vs))
  | some (.map _ _),some (.mp o)=>match s.h.get o with
   | some (.map _ clock)=>some (.ptr s.nx 0,s.new (.iter (some o) clock [] clock))
   | _=>none
  | _,_=>none
 | .next it false=>match ρ it with
  | some (.ptr o 0)=>match s.h.get o with
   | some (.iter none _ _ _)=>some (.tup [.b false],s)
   | some (.walk _ [] [])=>some (.tup [.b false],s)
   | some (.iter (some m) since seen last)=>match s.h.get m with
    | some (.map es clock) =>
     cond (!seen.isEmpty && !es.isEmpty && es.all fun e=>Nat.ble last e.born) none
     (match (es.filter fun e=>!seen.contains e.born) with
     | []=>some (.tup [.b false],s)
     | [e]=>cond (Nat.blt e.born since) (some (.tup [.b true,e.key,e.val],s.set o (.iter (some m) since (seen ++ [e.born]) clock))) none
     | _=>none)
    | _=>none
   | _=>none
  | _=>none
 | .call { callee:=.builtin .append,args,argTypes }=>match argTypes.toList,args.toList.mapM ρ with
  | [t,t'],some [x,y]=>match P.underlying t,P.underlying t' with
   | some (.slice e),some (.slice _)=>fR P s e x y
   | _,_=>none
  | _,_=>none
 | .call { callee:=.builtin .copy,args,argTypes }=>match argTypes.toList,args.toList.mapM ρ with
  | [t,_],some [x,y]=>match P.underlying t with
   | some (.slice e)=>pz P s e x y
   | _=>none
  | _,_=>none
 | .call { callee:=.value f,args,.. }=>match ρ f,args.toList.mapM ρ with
  | some (.fn f fs cs),some asn=>E.call f (fs ++ asn ++ cs) s
  | some (.yl l),some asn=>cV E l asn s
  | _,_=>none
 | .call { callee:=.invoke r m,args,.. }=>match ρ r,args.toList.mapM ρ with
  | some (.ifc t v),some asn=>match X.meth t m with
   | some (f,.same)=>E.call f (v :: asn) s
   | some (f,.deref e)=>match ig P s e v with
    | some v=>E.call f (v :: asn) s
    | none=>none
   | none=>none
  | _,_=>none
 | _=>none

inductive Kd where
 | rd | al | ef
def bu:Op->Kd
 | .alloc _ | .box .. | .buildSlice .. | .makeMap .. | .makeSlice ..=>.al
 | .store .. | .mapUpdate .. | .mapEntry .. | .entryStore .. | .range .. | .next ..=>.ef
 | .call { callee:=.builtin .append,.. } | .call { callee:=.builtin .copy,.. } | .call { callee:=.value _,.. } | .call { callee:=.invoke ..,.. }=>.ef
 | _=>.rd
def f5 (X:dY) (E:Ev) (ρ:Operand->Option AV) (s:St) (o:Op):Option (AV × St) :=
 match bu o with
 | .rd=>(dL P ρ s o).map fun v=>(v,s)
 | .al=>(oT P ρ o).map fun p=>(p.2 s.nx,s.new p.1)
 | .ef=>gy P X E ρ s o
def fu (ops:List Oper) (T:Tr AV) (o:Oper):Option Bool :=
 match o.guard with
 | none=>some true
 | some (j,want)=>match (ops[j]?).bind (·.dst) with
  | some t=>match T.get t with
   | some (.b x)=>some (x == want)
   | some (.tup [])=>some false
   | _=>none
  | none=>none
def jM (T:Tr AV) (n:Nat):Option Tmp->AV->Option (Tr AV)
 | none,_=>some T
 | some d,v=>cond (Nat.blt d n) (some (T.set d (some v))) none
def jN (X:dY) (E:Ev) (n:Nat) (all:List Oper):List Oper->Tr AV->St->Option (Tr AV × St)
 | [],T,s=>some (T,s)
 | o :: os,T,s=>match fu all T o with
  | some true=>match f5 P X E (fZ T) s o.op with
   | some (v,s')=>match jM T n o.dst v with
    | some T'=>jN X E n all os T' s'
    | none=>none
   | none=>none
  | some false=>match jM T n o.dst (.tup []) with
   | some T'=>jN X E n all os T' s
   | none=>none
  | none=>none
def iP (X:dY) (E:Ev) (n:Nat) (all:List Oper):List Oper->Tr AV->St->Option (List (Option AV × Tr AV × St) × Tr AV × St)
 | [],T,s=>some ([],T,s)
 | o :: os,T,s=>match fu all T o with
  | some true=>match f5 P X E (fZ T) s o.op with
   | some (v,s')=>match jM T n o.dst v with
    | some T'=>match iP X E n all os T' s' with
     | some (l,r)=>some ((some v,T,s) :: l,r)
     | none=>none
    | none=>none
   | none=>none
  | some false=>match jM T n o.dst (.tup []) with
   | some T'=>match iP X E n all os T' s with
     | some (l,r)=>some ((none,T,s) :: l,r)
     | none=>none
   | none=>none
  | none=>none

end

def Lq (M:Tr Nat) (i:Nat) (o:Oper):Option Nat :=
 o.after.toList.foldlM (fun m e=>cond (Region.binds .any e) (cond (Nat.blt e.on i) ((M.get e.on).map fun x=>m ||| 2 ^ e.on ||| x) none) (some m)) 0
def po:List Oper->Nat->Tr Nat->Option (Tr Nat)
 | [],_,M=>some M
 | o :: os,i,M=>match Lq M i o with
  | some m=>po os (i + 1) (M.set i (some m))
  | none=>none
def bJ (o:Oper):Bool:=match bu o.op with
 | .ef=>true
 | _=>false
def kq (all:List Oper) (o:Oper):List Tmp :=
 (o.op.operands.toList.filterMap fun | .tmp t=>some t | _=>none) ++
 (match o.guard with
  | some (g,_)=>((all[g]?).bind (·.dst)).toList
  | none=>[])
def mB:List Oper->Nat->List (Nat × Tmp)
 | [],_=>[]
 | o :: os,i=>match o.dst with
  | some t=>(i,t) :: mB os (i + 1)
  | none=>mB os (i + 1)
def ip:List Oper->Nat->List Nat
 | [],_=>[]
 | o :: os,i=>cond (bJ o) (i :: ip os (i + 1)) (ip os (i + 1))
def lk (M:Tr Nat):List Nat->Bool
 | a :: b :: l=>(match M.get b with | some m=>m.testBit a | none=>false) && lk M (b :: l)
 | _=>true
def Ij (all:List Oper) (M:Tr Nat) (D:List (Nat × Tmp)) (i:Nat) (o:Oper):Bool :=
 match M.get i with
 | some m=>D.all fun p=>(!(kq all o).contains p.2 || m.testBit p.1 || (match M.get p.1 with | some m'=>m'.testBit i | none=>false)) && (!(o.dst == some p.2) || p.1 == i) 
 | none=>false
def AH (all:List Oper) (M:Tr Nat) (D:List (Nat × Tmp)):List Oper->Nat->Bool
 | [],_=>true
 | o :: os,i=>Ij all M D i o && AH all M D os (i + 1)
def eW (ops:List Oper):Option (Tr Nat) :=
 match po ops 0 .nil with
 | some M=>cond (lk M (ip ops 0) && AH ops M (mB ops 0) ops 0) (some M) none
 | none=>none
def bE:Op->Bool
 | .load .. | .lookup .. | .entry _=>true
 | .call { callee:=.builtin .len,.. }=>true
 | _=>false
def be (fin:St)(h:Tr AO):List Oper->List (Option AV × Tr AV × St)->Tr AO
 | o :: os,(some _,_,s) :: tr=>match bu o.op with
  | .al=>match tr with
   | (_,_,s') :: _=>be fin (h.set s.nx (s'.h.get s.nx)) os tr
   | []=>be fin (h.set s.nx (fin.h.get s.nx)) os tr
  | _=>be fin h os tr
 | _ :: os,_ :: tr=>be fin h os tr
 | _,_=>h
def cL (M:Tr Nat) (fin:St):(prev:Nat)->List Oper->Nat->List (Option AV × Tr AV × St)->List (Nat × Nat × St)
 | prev,o :: os,i,(_,_,s) :: tr=>cond (bJ o)
   ((prev,i,⟨be fin s.h os tr,fin.nx⟩) :: cL M fin ((M.get i).getD 0) os (i + 1) tr)
   (cL M fin prev os (i + 1) tr)
 | prev,_,i,_=>[(prev,i,fin)]
def dS (P:Program) (M:Tr Nat) (ep:List (Nat × Nat × St)):List Oper->Nat->List (Option AV × Tr AV × St)->Bool
 | o :: os,i,(some v,T,_) :: tr =>
  (match bu o.op with
  | .rd=>cond (bE o.op) (match M.get i with
   | some m=>ep.all fun p=>p.1.testBit i || m.testBit p.2.1 || (match dL P (fZ T) p.2.2 o.op with
    | some v'=>same v' v
    | none=>false)
   | none=>false) true
  | _=>true) && dS P M ep os (i + 1) tr
 | _ :: os,i,_ :: tr=>dS P M ep os (i + 1) tr
 | _,_,_=>true
def px (P:Program) (X:dY) (E:Ev) (n:Nat) (ops:List Oper) (T:Tr AV) (s:St):Option (Tr AV × St) :=
 match eW ops with
 | some M=>match iP P X E n ops ops T s with
  | some (tr,T',s')=>cond (dS P M (cL M s' 0 ops 0 tr) ops 0 tr) (some (T',s')) none
  | none=>none
 | none=>none

def cH (P:Program) (X:dY) (E:Ev) (c:Code) (fr:Fr) (s:St):Option (Ex × Fr × St) :=
 match c with
 | .skip | .label _=>some (.normal,fr,s)
 | .ret=>some (.ret,fr,s)
 | .exit id=>some (.exit id,fr,s)
 | .seq a b=>match E.code a fr s with
  | some (.normal,fr,s)=>E.code b fr s
  | r=>r
 | .cond c a b=>match fZ fr.T c with
  | some (.b true)=>E.code a fr s
  | some (.b false)=>E.code b fr s
  | _=>none
 | .block id c=>match E.code c fr s with
  | some (.exit id',fr,s)=>cond (Nat.beq id' id) (some (.normal,fr,s)) (some (.exit id',fr,s))
  | r=>r
 | .loop c=>match E.code c fr s with
  | some (.normal,fr,s)=>E.code (.loop c) fr s
  | r=>r
 | .scope c=>E.code c fr s
 | .region _ ops draw=>match (match draw with
   | true=>px P X E fr.n ops.toList fr.T s
   | false=>jN P X E fr.n ops.toList ops.toList fr.T s) with
  | some (T,s)=>some (.normal,{ fr with T },s)
  | none=>none
 | .rangeFunc f ps asn body =>
  match fZ fr.T f with
  | some (.fn g fs cs) =>
   match (match fr.rd with
    | some l=>match s.h.get l with
     | some (.loop _ _ _ _ _ _ _ _ ds)=>some (ds,fr,s)
     | _=>none
    | none=>some (s.nx,{ fr with ms:=s.nx :: fr.ms },s.new .defs)) with
   | some (ds,fr',s1) =>
    match E.call g (fs ++ .yl s1.nx :: cs) (s1.new (.loop .ready none fr.fn fr.n fr.T ps.toList asn body ds)) with
    | some (_,s2)=>match s2.h.get s1.nx with
     | some (.loop .busy ..)=>none
     | some (.loop _ pe fn n T ps asn body ds) =>
      match pe with
      | none=>some (.normal,fr',s2.set s1.nx (.loop .over pe fn n T ps asn body ds))
      | some .ret=>some (.ret,fr',s2.set s1.nx (.loop .over pe fn n T ps asn body ds))
      | some (.exit id)=>some (.exit id,fr',s2.set s1.nx (.loop .over pe fn n T ps asn body ds))
      | some _=>none
     | _=>none
    | none=>none
   | none=>none
  | _=>none
 | _=>none
def Cr (P:Program) (T:Tr AV) (s:St):ResultVar->Option AV
 | .tmp t=>T.get t
 | .cell a t=>match T.get a with
  | some p=>ig P s t p
  | none=>none
def j9 (P:Program) (T:Tr AV) (s:St):List ResultVar->Option (List AV)
 | []=>some []
 | r :: rs=>match Cr P T s r with
  | some v=>(j9 P T s rs).map (v :: ·)
  | none=>none
def fO (s:St):List Nat->Bool
 | []=>true
 | r :: ms=>(match s.h.get r with | some .defs=>true | _=>false) && !ms.contains r && fO s ms
def pC (P:Program) (X:dY) (E:Ev) (f:FuncId) (args:List AV) (s:St):Option (AV × St) :=
 match X.orc f with
 | some g=>g args s
 | none=>match P.funcs[f]? with
  | some fn=>match fn.body with
   | some c=>cond (Nat.ble args.length fn.ntmps && !(fn.name == "runtime.NumGoroutine"))
    (match E.code c ⟨f,fn.ntmps,Tr.ofList args,none,[]⟩ s with
    | some (.exit _,_,_)=>none
    | some (_,fr,s1)=>cond (fO s1 fr.ms) (match j9 P fr.T (fr.ms.foldl St.drop s1) fn.results.toList with
     | some [v]=>some (v,fr.ms.foldl St.drop s1)
     | some l=>some (.tup l,fr.ms.foldl St.drop s1)
     | none=>none) none
    | none=>none) none
   | none=>none
  | none=>none
def Ev.at_ (P:Program) (X:dY):Nat->Ev
 | 0=>⟨fun _ _ _=>none,fun _ _ _=>none⟩
 | k + 1=>⟨pC P X (Ev.at_ P X k),cH P X (Ev.at_ P X k)⟩
end
end Go.Proofs.YtkdhppimhdemjaaGreat
