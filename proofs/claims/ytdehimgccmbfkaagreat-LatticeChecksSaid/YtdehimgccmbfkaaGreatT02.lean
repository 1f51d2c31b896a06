/- Lemmas on the way: Ev0. -/
import GoSem.Machine.Report
import GoSem.Machine.Return
import Derived.Maps.Keyed
import Derived.DeepKeys4
import Derived.WalkKit
set_option linter.all false
set_option maxRecDepth 1000000
set_option maxHeartbeats 32000000
namespace Go.Proofs.YtdehimgccmbfkaaGreat
open Go.RowKit
section
inductive Tr (α:Type) where
 | nil
 | node (v:Option α) (l r:Tr α)
namespace Tr
variable {α:Type}
def get:Tr α->Nat->Option α
 | .nil,_=>none
 | .node v l r,k=>cond (Nat.beq k 0) v (cond (Nat.beq (k % 2) 1) (l.get (k / 2)) (r.get (k / 2 - 1)))
def put (x:Option α):Nat->Tr α->Nat->Tr α
 | 0,t,_=>t
 | f + 1,.nil,k=>cond (Nat.beq k 0) (.node x .nil .nil) (cond (Nat.beq (k % 2) 1) (.node none (put x f .nil (k / 2)) .nil) (.node none .nil (put x f .nil (k / 2 - 1))))
 | f + 1,.node v l r,k=>cond (Nat.beq k 0) (.node x l r) (cond (Nat.beq (k % 2) 1) (.node v (put x f l (k / 2)) r) (.node v l (put x f r (k / 2 - 1))))
def set (t:Tr α) (k:Nat) (x:Option α):Tr α:=put x (k + 1) t k
def ofList (l:List α):Tr α:=(l.foldl (fun (p:Tr α × Nat) x=>(p.1.set p.2 (some x),p.2 + 1)) (.nil,0)).1
end Tr

inductive AV where
 | b (x:Bool)
 | i (k:IntKind) (n:Int)
 | ptr (o off:Nat)
 | pnil
 | sl (o off len cap:Nat)
 | snil
 | nat (o:Nat)
 | num (n:Nat)
 | vw (c:List AV) (n:Nat)
 | vp (c:List AV) (off:Nat)
 | mp (o:Nat)
 | mnil
 | fn (f:FuncId) (fs cs:List AV)
 | yl (l:Nat)
 | fnil
 | ifc (t:TypeId) (v:AV)
 | inil
 | agg (l:List AV)
 | tup (l:List AV)
 deriving Inhabited

mutual
def same:AV->AV->Bool
 | .b x,.b y=>x == y
 | .i k n,.i k' n'=>k == k' && n == n'
 | .ptr o f,.ptr o' f'=>Nat.beq o o' && Nat.beq f f'
 | .pnil,.pnil=>true
 | .sl o f n c,.sl o' f' n' c'=>Nat.beq o o' && Nat.beq f f' && Nat.beq n n' && Nat.beq c c'
 | .snil,.snil=>true
 | .nat o,.nat o'=>Nat.beq o o'
 | .num n,.num n'=>Nat.beq n n'
 | .vw c n,.vw c' n'=>sames c c' && Nat.beq n n'
 | .vp c n,.vp c' n'=>sames c c' && Nat.beq n n'
 | .mp o,.mp o'=>Nat.beq o o'
 | .mnil,.mnil=>true
 | .fn f a b,.fn f' a' b'=>Nat.beq f f' && sames a a' && sames b b'
 | .yl l,.yl l'=>Nat.beq l l'
 | .fnil,.fnil=>true
 | .ifc t v,.ifc t' v'=>Nat.beq t t' && same v v'
 | .inil,.inil=>true
 | .agg l,.agg l'=>sames l l'
 | .tup l,.tup l'=>sames l l'
 | _,_=>false
def sames:List AV->List AV->Bool
 | [],[]=>true
 | x :: l,y :: l'=>same x y && sames l l'
 | _,_=>false
end

def flat:AV->Bool
 | .agg _ | .tup _ | .i .u32 _=>false
 | _=>true

structure AE where
 key:AV
 val:AV
 born:Nat

inductive LS where
 | ready | busy | done | over

inductive AO where
 | cells (c:List AV) (t:TypeId) (op:Bool)
 | map (es:List AE) (clock:Nat)
 | iter (m:Option Nat) (since:Nat) (seen:List Nat) (stepped:Nat)
 | loop (st:LS) (pe:Option Code) (fn:FuncId) (n:Nat) (T:Tr AV) (ps:List Tmp) (asn body:Code) (ds:Nat)
 | defs
 | nat (n:Nat)

structure St where
 h:Tr AO
 nx:Nat

structure Fr where
 fn:FuncId
 n:Nat
 T:Tr AV
 rd:Option Nat
 ms:List Nat

inductive Ex where
 | normal | exit (id:Nat) | ret

structure Ev where
 call:FuncId->List AV->St->Option (AV × St)
 code:Code->Fr->St->Option (Ex × Fr × St)

def big:Nat:=2 ^ 63

def St.new (s:St) (o:AO):St:=⟨s.h.set s.nx (some o),s.nx + 1⟩
def St.set (s:St) (k:Nat) (o:AO):St:=⟨s.h.set k (some o),s.nx⟩
def St.drop (s:St) (k:Nat):St:=⟨s.h.set k none,s.nx⟩

mutual
def ofConst:Value->Option AV
 | .bool x=>some (.b x)
 | .int k n=>some (.i k n)
 | .pointer none=>some .pnil
 | .slice none 0 0=>some .snil
 | .map none=>some .mnil
 | .nilFunc=>some .fnil
 | .nilIface=>some .inil
 | .agg ⟨l⟩=>(ofConsts l).map .agg
 | .tuple ⟨[]⟩=>some (.tup [])
 | _=>none
def ofConsts:List Value->Option (List AV)
 | []=>some []
 | v :: l=>match ofConst v with
  | some x=>(ofConsts l).map (x :: ·)
  | none=>none
end
def toConst:AV->Option Value
 | .b x=>some (.bool x)
 | .i k n=>some (.int k n)
 | _=>none
def pureRun (P:Program) {α:Type}:Sem α->Option α
 | .pure a=>some a
 | .program k=>pureRun P (k P)
 | _=>none

section
variable (P:Program)
def opd (T:Tr AV):Operand->Option AV
 | .tmp t=>T.get t
 | .const v=>ofConst v
 | .global _=>none
 | .func f=>some (.fn f [] [])
def isAggT (t:TypeId):Option Bool :=
 match P.underlying t with
 | some (.struct _)=>some true
 | some (.array _ _)=>some true
 | some _=>some false
 | none=>none
def sizeT (t:TypeId):Option Nat:=(P.info? t).map (·.size)
def zeroT (t:TypeId):Option AV:=(P.info? t).bind fun i=>i.zero.bind ofConst
def AV.cells:AV->List AV
 | .agg l=>l
 | v=>[v]
def getR {α:Type}:List α->Nat->Nat->Option (List α)
 | _,_,0=>some []
 | l,off,n + 1=>match l[off]? with
  | some x=>(getR l (off + 1) n).map (x :: ·)
  | none=>none
def putR {α:Type}:List α->Nat->List α->List α
 | l,_,[]=>l
 | l,off,x :: xs=>putR (l.set off x) (off + 1) xs
def partA (t:TypeId) (l:List AV) (off:Nat):Option AV :=
 match isAggT P t,sizeT P t with
 | some true,some n=>(getR l off n).map .agg
 | some false,_=>l[off]?
 | _,_=>none
def loadA (s:St) (t:TypeId):AV->Option AV
 | .ptr o off=>match s.h.get o with
  | some (.cells c _ _)=>partA P t c off
  | _=>none
 | .vp c off=>partA P t c off
 | _=>none
def storeA (s:St) (t:TypeId) (v:AV):AV->Option St
 | .ptr o off=>match s.h.get o with
  | some (.cells c e op)=>match sizeT P t with
   | some n=>cond (Nat.beq v.cells.length n && Nat.ble (off + n) c.length && v.cells.all flat) (some (s.set o (.cells (putR c off v.cells) e op))) none
   | none=>none
  | _=>none
 | _=>none
def intsN:List AV->Option (List Int)
 | []=>some []
 | .i .i64 n :: l=>(intsN l).map (n :: ·)
 | _=>none
def keyN:AV->Option (Bool × List Int)
 | .i .i64 n=>some (false,[n])
 | .agg l=>(intsN l).map fun l=>(true,l)
 | _=>none
def keyVal (q:Bool × List Int):Value:=cond q.1 (.agg (q.2.map (Value.int .i64)).toArray) (.int .i64 (q.2.headD 0))
def keyOk (k:TypeId) (q:Bool × List Int):Bool:=(keyOf P k (keyVal q)).isSome
def keysA (k:TypeId):List AE->Option (List (Bool × List Int))
 | []=>some []
 | e :: es=>match keyN e.key with
  | some q=>cond (keyOk P k q) ((keysA k es).map (q :: ·)) none
  | none=>none
def hits (q:Bool × List Int):List (Bool × List Int)->Nat->List Nat
 | [],_=>[]
 | x :: xs,i=>cond (x.1 == q.1 && x.2 == q.2) (i :: hits q xs (i + 1)) (hits q xs (i + 1))
def keyTy (k:TypeId):Bool :=
 match P.underlying k with
 | some (.int _)=>true
 | some (.array _ _) | some (.struct _)=>Nat.blt k P.types.size && P.keyTypeAt 100 k
 | _=>false
def spotA (k:TypeId) (q:Bool × List Int) (es:List AE):Option (Option Nat) :=
 cond (keyTy P k && keyOk P k q) (match keysA P k es with
 | some ks=>match hits q ks 0 with
  | []=>some none
  | [i]=>some (some i)
  | _=>none
 | none=>none) none
def eqNil (op:BinOp) (r:Bool):Option AV :=
 match op with
 | .eql=>some (.b r)
 | .neq=>some (.b !r)
 | _=>none
def binA (op:BinOp) (t:TypeId) (x y:AV):Option AV :=
 match x,y with
 | .i k a,.i k' b=>(pureRun P (binOp op t (.int k a) (.int k' b))).bind ofConst
 | .b a,.b b=>(pureRun P (binOp op t (.bool a) (.bool b))).bind ofConst
 | _,_=>match P.underlying t,x,y with
  | some (.pointer _),.pnil,.pnil | some (.slice _),.snil,.snil | some (.func _ _ _),.fnil,.fnil | some (.map _ _),.mnil,.mnil=>eqNil op true
  | some (.pointer _),.ptr ..,.pnil | some (.pointer _),.pnil,.ptr .. | some (.slice _),.sl ..,.snil | some (.slice _),.snil,.sl .. | some (.func _ _ _),.fn ..,.fnil | some (.func _ _ _),.fnil,.fn ..
  | some (.func _ _ _),.yl _,.fnil | some (.func _ _ _),.fnil,.yl _ | some (.map _ _),.mp _,.mnil | some (.map _ _),.mnil,.mp _
  | some (.pointer _),.vp ..,.pnil | some (.pointer _),.pnil,.vp .. | some (.slice _),.vw _ (_ + 1),.snil | some (.slice _),.snil,.vw _ (_ + 1)=>eqNil op false
  | _,_,_=>none
def bnd (x:AV):Option Nat :=
 match x with
 | .i .i64 n=>match n with
  | .ofNat k=>some k
  | _=>none
 | _=>none
def bndO (ρ:Operand->Option AV) (d:Nat):Option Operand->Option Nat
 | none=>some d
 | some x=>(ρ x).bind bnd
def sliceA (ρ:Operand->Option AV) (t:TypeId) (x:AV) (lo hi mx:Option Operand):Option AV :=
 match P.underlying t,x with
 | some (.slice e),.sl o off len cap =>
  match sizeT P e,bndO ρ 0 lo,bndO ρ len hi,bndO ρ cap mx with
  | some z,some l,some h,some m =>
   cond (Nat.ble l h && Nat.ble h len && (mx.isNone || (Nat.ble h m && Nat.ble m len)) && Nat.ble len cap)
    (cond (mx.isNone && Nat.ble big cap)
     (cond (Nat.beq cap (big + z) && (Nat.beq l 0 || Nat.blt l len)) (some (.sl o (off + l * z) (h - l) cap)) none)
     (cond (Nat.beq l 0 || Nat.blt l m) (some (.sl o (off + l * z) (h - l) (m - l))) none)) none
  | _,_,_,_=>none
 | some (.slice e),.vw c len =>
  match sizeT P e,bndO ρ 0 lo,bndO ρ len hi,mx with
  | some z,some l,some h,none=>cond (Nat.ble l h && Nat.ble h len) (some (.vw (c.drop (l * z)) (h - l))) none
  | _,_,_,_=>none
 | some (.slice e),.snil =>
  match sizeT P e,bndO ρ 0 lo,bndO ρ 0 hi,bndO ρ 0 mx with
  | some _,some 0,some 0,some 0=>some .snil
  | _,_,_,_=>none
 | some (.array n e),.ptr o off =>
  match sizeT P e,bndO ρ 0 lo,bndO ρ n hi,bndO ρ n mx with
  | some z,some l,some h,some m=>cond (Nat.ble l h && Nat.ble h m && Nat.ble m n && (Nat.beq l 0 || Nat.blt l m) && Nat.blt n big) (some (.sl o (off + l * z) (h - l) (m - l))) none
  | _,_,_,_=>none
 | _,_=>none
def fieldT (t:TypeId) (f:Nat):Option Field :=
 match P.underlying t with
 | some (.struct fs)=>fs[f]?
 | _=>none
def lookA (s:St) (t:TypeId) (x k:AV) (ok:Bool):Option AV :=
 match P.underlying t,keyN k with
 | some (.map kt e),some q =>
  match (match x with
   | .mnil=>some []
   | .mp o=>match s.h.get o with
    | some (.map es _)=>some es
    | _=>none
   | _=>none) with
  | some es=>match spotA P kt q es with
   | some (some i)=>match es[i]? with
    | some e=>some (cond ok (.tup [e.val,.b true]) e.val)
    | none=>none
   | some none=>(zeroT P e).map fun v=>cond ok (.tup [v,.b false]) v
   | none=>none
  | none=>none
 | _,_=>none
def lenA (s:St):AV->Option Nat
 | .sl _ _ n _=>some n
 | .vw _ n=>some n
 | .snil=>some 0
 | .mnil=>some 0
 | .mp o=>match s.h.get o with
  | some (.map es _)=>some es.length
  | _=>none
 | _=>none
def fillA (ρ:Operand->Option AV) (pl:Nat->Option (Nat × Nat)):List AV->List (Nat × Operand)->Option (List AV)
 | c,[]=>some c
 | c,p :: ps=>match pl p.1,ρ p.2 with
  | some (off,n),some v=>cond (Nat.beq v.cells.length n && Nat.ble (off + n) c.length) (fillA ρ pl (putR c off v.cells) ps) none
  | _,_=>none
def placesA:List Field->Option (List (Nat × Nat))
 | []=>some []
 | f :: fs=>match sizeT P f.type with
  | some n=>(placesA fs).map ((f.offset,n) :: ·)
  | none=>none
def rdA (ρ:Operand->Option AV) (s:St) (o:Op):Option AV :=
 match o with
 | .move x | .assign x=>ρ x
 | .pick c a b=>match ρ c with
  | some (.b t)=>cond t (ρ a) (ρ b)
  | _=>none
 | .load t a=>(ρ a).bind (loadA P s t)
 | .nilCheck x=>match ρ x with
  | some (.ptr o off)=>some (.ptr o off)
  | some (.vp c off)=>some (.vp c off)
  | some (.fn f fs cs)=>some (.fn f fs cs)
  | some (.yl l)=>some (.yl l)
  | _=>none
 | .binOp op t x y _=>match ρ x,ρ y with
  | some a,some b=>binA P op t a b
  | _,_=>none
 | .unOp op _ x=>(ρ x).bind fun a=>(toConst a).bind fun v=>(pureRun P (Op.unary op v)).bind ofConst
 | .convert src dst x=>(ρ x).bind fun a=>match a with
  | .i k n=>(pureRun P (convert src dst (.int k n))).bind ofConst
  | _=>none
 | .makeInterface t x=>match P.underlying t with
  | some (.interface _)=>none
  | some _=>(ρ x).map (.ifc t)
  | none=>none
 | .makeFunc (.func f) fs cs=>(fs.toList.mapM ρ).bind fun fs=>(cs.toList.mapM ρ).map fun cs=>.fn f fs cs
 | .slice t x lo hi mx=>cond (hi.isSome || mx.isNone) ((ρ x).bind fun a=>sliceA P ρ t a lo hi mx) none
 | .fieldAddr t x f=>match fieldT P t f,ρ x with
  | some fd,some (.ptr o off)=>match sizeT P fd.type with
   | some (_ + 1)=>some (.ptr o (off + fd.offset))
   | _=>none
  | some fd,some (.vp c off)=>match sizeT P fd.type with
   | some (_ + 1)=>some (.vp c (off + fd.offset))
   | _=>none
  | _,_=>none
 | .field t x f=>match fieldT P t f,ρ x with
  | some fd,some (.agg l)=>partA P fd.type l fd.offset
  | _,_=>none
 | .indexAddr t x ix=>match P.underlying t,ρ x,(ρ ix).bind bnd with
  | some (.array n e),some (.ptr o off),some i=>match sizeT P e with
   | some z=>cond (Nat.blt i n) (some (.ptr o (off + i * z))) none
   | none=>none
  | some (.slice e),some (.sl o off n _),some i=>match sizeT P e with
   | some z=>cond (Nat.blt i n) (some (.ptr o (off + i * z))) none
   | none=>none
  | some (.array n e),some (.vp c off),some i=>match sizeT P e with
   | some z=>cond (Nat.blt i n) (some (.vp c (off + i * z))) none
   | none=>none
  | some (.slice e),some (.vw c n),some i=>match sizeT P e with
   | some z=>cond (Nat.blt i n) (some (.vp c (i * z))) none
   | none=>none
  | _,_,_=>none
 | .index t x ix=>match P.underlying t,ρ x,(ρ ix).bind bnd with
  | some (.array n e),some (.agg l),some i=>match sizeT P e with
   | some z=>cond (Nat.blt i n) (partA P e l (i * z)) none
   | none=>none
  | _,_,_=>none
 | .lookup t x k ok=>match ρ x,ρ k with
  | some a,some b=>lookA P s t a b ok
  | _,_=>none
 | .typeAssert x _ t ok=>match P.underlying t,ρ x with
  | some (.interface _),_=>none
  | some _,some (.ifc t' v)=>cond (Nat.beq t t') (some (cond ok (.tup [v,.b true]) v)) none
  | _,_=>none
 | .extract x k=>match ρ x with
  | some (.tup l)=>l[k]?
  | _=>none
 | .entry it=>match ρ it with
  | some (.ptr o 0)=>match s.h.get o with
   | some (.iter (some m) _ seen st)=>match s.h.get m with
    | some (.map es clock)=>match seen.getLast? with
     | some b=>cond (Nat.beq clock st) (match es.find? (fun e=>Nat.beq e.born b) with
      | some e=>some (.tup [e.key,e.val])
      | none=>none) none
     | none=>none
    | _=>none
   | _=>none
  | _=>none
 | .call { callee:=.builtin .len,args,argTypes }=>match argTypes.toList,args.toList with
  | [t],[x]=>match P.underlying t with
   | some (.array n _)=>some (.i .i64 n)
   | some (.slice _)=>match ρ x with
    | some (.sl _ _ n _)=>some (.i .i64 n)
    | some (.vw _ n)=>some (.i .i64 n)
    | some .snil=>some (.i .i64 0)
    | _=>none
   | some (.map _ _)=>match ρ x with
    | some (.mp o)=>(lenA s (.mp o)).map fun n=>.i .i64 n
    | some .mnil=>some (.i .i64 0)
    | _=>none
   | _=>none
  | _,_=>none
 | .call { callee:=.builtin .cap,args,argTypes }=>match argTypes.toList,args.toList with
  | [t],[x]=>match P.underlying t with
   | some (.slice _)=>match ρ x with
    | some (.sl _ _ _ c)=>cond (Nat.blt c big) (some (.i .i64 c)) none
    | some .snil=>some (.i .i64 0)
    | _=>none
   | _=>none
  | _,_=>none
 | .call { callee:=.builtin .min,args,argTypes }=>match args.toList.mapM ρ with
  | some [.i k a,.i k' b]=>cond (k == k') (some (.i k (cond (decide (b < a)) b a))) none
  | _=>none
 | .call { callee:=.builtin .max,args,argTypes }=>match args.toList.mapM ρ with
  | some [.i k a,.i k' b]=>cond (k == k') (some (.i k (cond (decide (b > a)) b a))) none
  | _=>none
 | .build t ps=>match zeroT P t,P.underlying t with
  | some z,some (.struct fs)=>match placesA P fs.toList with
   | some pl=>(fillA ρ (fun i=>pl[i]?) z.cells ps.toList).map .agg
   | none=>none
  | some z,some (.array _ e)=>match sizeT P e with
   | some n=>(fillA ρ (fun i=>some (i * n,n)) z.cells ps.toList).map .agg
   | none=>none
  | _,_=>none
 | _=>none
def reps {α:Type} (z:List α):Nat->List α
 | 0=>[]
 | n + 1=>z ++ reps z n
def alA (ρ:Operand->Option AV) (o:Op):Option (AO × (Nat->AV)) :=
 match o with
 | .alloc t=>(zeroT P t).bind fun z=>cond (z.cells.all flat) (some (.cells z.cells t false,fun k=>.ptr k 0)) none
 | .box t x=>(ρ x).bind fun v=>cond (v.cells.all flat) (some (.cells v.cells t false,fun k=>.ptr k 0)) none
 | .buildSlice t len ps=>match P.underlying t with
  | some (.slice e)=>match zeroT P e,sizeT P e with
   | some z,some n=>cond (Nat.beq z.cells.length n && Nat.blt 0 n && Nat.ble (len * n) (2 ^ 24))
     ((fillA ρ (fun i=>some (i * n,n)) (reps z.cells len) ps.toList).bind fun c=>cond (c.all flat) (some (.cells c e false,fun k=>.sl k 0 len len)) none) none
   | _,_=>none
  | _=>none
 | .makeMap _ none=>some (.map [] 0,fun k=>.mp k)
 | .makeMap t (some x)=>match P.underlying t,ρ x with
  | some (.map _ _),some (.i _ _)=>some (.map [] 0,fun k=>.mp k)
  | _,_=>none
 | .makeSlice t l c=>match P.underlying t,(ρ l).bind bnd,(ρ c).bind bnd with
  | some (.slice e),some l,some c=>match zeroT P e,P.info? e with
   | some z,some i=>cond (z.cells.all flat && Nat.beq z.cells.length i.size && Nat.blt 0 i.size && Nat.ble l c && Nat.ble c 1000000 && Nat.ble i.bytes 1000000)
     (some (.cells (reps z.cells c) e false,fun k=>.sl k 0 l c)) none
   | _,_=>none
  | _,_,_=>none
 | _=>none

def mapPut (s:St) (kt:TypeId) (m k v:AV):Option St :=
 match m,keyN k with
 | .mp o,some q=>match s.h.get o with
  | some (.map es clock)=>match spotA P kt q es with
   | some (some i)=>match es[i]? with
    | some e=>some (s.set o (.map (es.set i ⟨k,v,e.born⟩) clock))
    | none=>none
   | some none=>some (s.set o (.map (es ++ [⟨k,v,clock⟩]) (clock + 1)))
   | none=>none
  | _=>none
 | _,_=>none
def readsA (s:St) (z:Nat):AV->Option (List AV)
 | .snil=>some []
 | .sl o off n _=>match s.h.get o with
  | some (.cells c _ _)=>getR c off (n * z)
  | _=>none
 | .vw c n=>(getR c 0 (n * z)).bind fun l=>cond (l.all flat) (some l) none
 | _=>none
def appendA (s:St) (e:TypeId) (x y:AV):Option (AV × St) :=
 match P.info? e,zeroT P e with
 | some i,some zv =>
  match readsA s i.size x,readsA s i.size y with
  | some old,some new =>
   cond (zv.cells.all flat && Nat.blt 0 i.size && Nat.beq zv.cells.length i.size && Nat.ble (old.length + new.length) 1000000 && Nat.ble i.bytes 1000000)
   (match x with
   | .snil=>cond (Nat.beq new.length 0) (some (.snil,s)) (some (.sl s.nx 0 (new.length / i.size) (big + i.size),s.new (.cells new e true)))
   | .sl o off n cap=>cond (Nat.blt cap big)
    (cond (Nat.ble (n + new.length / i.size) cap)
     (match s.h.get o with
     | some (.cells c e' op)=>cond (Nat.ble (off + cap * i.size) c.length) (some (.sl o off (n + new.length / i.size) cap,s.set o (.cells (putR c (off + n * i.size) new) e' op))) none
     | _=>none)
     (some (.sl s.nx 0 (n + new.length / i.size) (big + i.size),s.new (.cells (old ++ new) e true))))
    (cond (Nat.beq cap (big + i.size))
     (match s.h.get o with
     | some (.cells c e' op)=>cond (Nat.ble (off + n * i.size + new.length) c.length)
       (some (.sl o off (n + new.length / i.size) cap,s.set o (.cells (putR c (off + n * i.size) new) e' op)))
       (cond (Nat.beq e e') (some (.sl s.nx 0 (n + new.length / i.size) cap,(s.drop o).new (.cells (old ++ new) e true))) none)
     | _=>none) none)
   | _=>none) none
  | _,_=>none
 | _,_=>none
def copyA (s:St) (e:TypeId) (x y:AV):Option (AV × St) :=
 match sizeT P e,x,y with
 | some z,.sl o off n _,.sl o' off' n' _ =>
  match s.h.get o,s.h.get o' with
  | some (.cells c t op),some (.cells c' _ _)=>match getR c' off' (min n n' * z) with
   | some l=>cond (Nat.ble (off + l.length) c.length) (some (.i .i64 (min n n':Nat),s.set o (.cells (putR c off l) t op))) none
   | none=>none
  | _,_=>none
 | some z,.sl o off n _,.vw c' n' =>
  match s.h.get o,getR c' 0 (min n n' * z) with
  | some (.cells c t op),some l=>cond (Nat.ble (off + l.length) c.length && l.all flat) (some (.i .i64 (min n n':Nat),s.set o (.cells (putR c off l) t op))) none
  | _,_=>none
 | _,_,_=>none
def enterYield (E:Ev) (l:Nat) (args:List AV) (s:St):Option (AV × St) :=
 match s.h.get l with
 | some (.loop .ready pe fn n T ps asn body ds) =>
  cond (Nat.beq args.length ps.length && ps.all fun t=>Nat.blt t n)
   (match E.code asn ⟨fn,n,(ps.zip args).foldl (fun T p=>T.set p.1 (some p.2)) T,some l,[]⟩ s with
   | some (.normal,fr,s1) =>
    match s1.h.get l with
    | some (.loop .ready pe1 fn1 n1 T1 ps1 asn1 body1 ds1) =>
     match E.code body fr (s1.set l (.loop .busy pe1 fn1 n1 T1 ps1 asn1 body1 ds1)) with
     | some (ex,_,s2) =>
      match s2.h.get l with
      | some (.loop _ _ fn2 n2 T2 ps2 asn2 body2 ds2) =>
       match ex with
       | .normal=>some (.b true,s2.set l (.loop .ready none fn2 n2 T2 ps2 asn2 body2 ds2))
       | .ret=>some (.b false,s2.set l (.loop .done (some .ret) fn2 n2 T2 ps2 asn2 body2 ds2))
       | .exit id=>some (.b false,s2.set l (.loop .done (some (.exit id)) fn2 n2 T2 ps2 asn2 body2 ds2))
      | _=>none
     | none=>none
    | _=>none
   | _=>none) none
 | _=>none
inductive Via where
 | same | deref (t:TypeId)
structure Env where
 orc:FuncId->Option (List AV->St->Option (AV × St))
 meth:TypeId->String->Option (FuncId × Via)
def efA (X:Env) (E:Ev) (ρ:Operand->Option AV) (s:St) (o:Op):Option (AV × St) :=
 match o with
 | .store t a v=>match ρ a,ρ v with
  | some a,some v=>(storeA P s t v a).map fun s=>(.tup [],s)
  | _,_=>none
 | .mapUpdate t m k v=>match P.underlying t,ρ m,ρ k,ρ v with
  | some (.map kt _),some m,some k,some v=>(mapPut P s kt m k v).map fun s=>(.tup [],s)
  | _,_,_,_=>none
 | .mapEntry t m k=>match P.underlying t,ρ m,ρ k with
  | some (.map kt e),some (.mp o),some k=>match keyN k,s.h.get o with
   | some q,some (.map es clock)=>match spotA P kt q es with
    | some (some i)=>match es[i]? with
     | some e=>some (.tup [e.val,.i .i64 e.born],s.set o (.map (es.set i ⟨k,e.val,e.born⟩) clock))
     | none=>none
    | some none=>match zeroT P e with
     | some z=>some (.tup [z,.i .i64 clock],s.set o (.map (es ++ [⟨k,z,clock⟩]) (clock + 1)))
     | none=>none
    | none=>none
   | _,_=>none
  | _,_,_=>none
 | .entryStore _ m b v=>match ρ m,(ρ b).bind bnd,ρ v with
  | some (.mp o),some b,some v=>match s.h.get o with
   | some (.map es clock)=>match es.findIdx? (fun e=>Nat.beq e.born b) with
    | some i=>match es[i]? with
     | some e=>some (.tup [],s.set o (.map (es.set i ⟨e.key,v,e.born⟩) clock))
     | none=>none
    | none=>none
   | _=>none
  | _,_,_=>none
 | .range t x=>match P.underlying t,ρ x with
  | some (.map _ _),some .mnil=>some (.ptr s.nx 0,s.new (.iter none 0 [] 0))
  | some (.map _ _),some (.mp o)=>match s.h.get o with
   | some (.map _ clock)=>some (.ptr s.nx 0,s.new (.iter (some o) clock [] clock))
   | _=>none
  | _,_=>none
 | .next it false=>match ρ it with
  | some (.ptr o 0)=>match s.h.get o with
   | some (.iter none _ _ _)=>some (.tup [.b false],s)
   | some (.iter (some m) since seen last)=>match s.h.get m with
    | some (.map es clock) =>
     cond (!seen.isEmpty && !es.isEmpty && es.all fun e=>Nat.ble last e.born) none
     (match (es.filter fun e=>!seen.contains e.born) with
     | []=>some (.tup [.b false],s)
     | [e]=>cond (Nat.blt e.born since) (some (.tup [.b true,e.key,e.val],s.set o (.iter (some m) since (seen ++ [e.born]) clock))) none
     | _=>none)
    | _=>none
   | _=>none
  | _=>none
 | .call { callee:=.builtin .append,args,argTypes }=>match argTypes.toList,args.toList.mapM ρ with
  | [t,t'],some [x,y]=>match P.underlying t,P.underlying t' with
   | some (.slice e),some (.slice _)=>appendA P s e x y
   | _,_=>none
  | _,_=>none
 | .call { callee:=.builtin .copy,args,argTypes }=>match argTypes.toList,args.toList.mapM ρ with
  | [t,_],some [x,y]=>match P.underlying t with
   | some (.slice e)=>copyA P s e x y
   | _=>none
  | _,_=>none
 | .call { callee:=.value f,args,.. }=>match ρ f,args.toList.mapM ρ with
  | some (.fn f fs cs),some asn=>E.call f (fs ++ asn ++ cs) s
  | some (.yl l),some asn=>enterYield E l asn s
  | _,_=>none
 | .call { callee:=.invoke r m,args,.. }=>match ρ r,args.toList.mapM ρ with
  | some (.ifc t v),some asn=>match X.meth t m with
   | some (f,.same)=>E.call f (v :: asn) s
   | some (f,.deref e)=>match loadA P s e v with
    | some v=>E.call f (v :: asn) s
    | none=>none
   | none=>none
  | _,_=>none
 | _=>none

inductive Kd where
 | rd | al | ef
def kindA:Op->Kd
 | .alloc _ | .box .. | .buildSlice .. | .makeMap .. | .makeSlice ..=>.al
 | .store .. | .mapUpdate .. | .mapEntry .. | .entryStore .. | .range .. | .next ..=>.ef
 | .call { callee:=.builtin .append,.. } | .call { callee:=.builtin .copy,.. } | .call { callee:=.value _,.. } | .call { callee:=.invoke ..,.. }=>.ef
 | _=>.rd
def opA (X:Env) (E:Ev) (ρ:Operand->Option AV) (s:St) (o:Op):Option (AV × St) :=
 match kindA o with
 | .rd=>(rdA P ρ s o).map fun v=>(v,s)
 | .al=>(alA P ρ o).map fun p=>(p.2 s.nx,s.new p.1)
 | .ef=>efA P X E ρ s o
def wantA (ops:List Oper) (T:Tr AV) (o:Oper):Option Bool :=
 match o.guard with
 | none=>some true
 | some (j,want)=>match (ops[j]?).bind (·.dst) with
  | some t=>match T.get t with
   | some (.b x)=>some (x == want)
   | some (.tup [])=>some false
   | _=>none
  | none=>none
def putV (T:Tr AV) (n:Nat):Option Tmp->AV->Option (Tr AV)
 | none,_=>some T
 | some d,v=>cond (Nat.blt d n) (some (T.set d (some v))) none
def opsA (X:Env) (E:Ev) (n:Nat) (all:List Oper):List Oper->Tr AV->St->Option (Tr AV × St)
 | [],T,s=>some (T,s)
 | o :: os,T,s=>match wantA all T o with
  | some true=>match opA P X E (opd T) s o.op with
   | some (v,s')=>match putV T n o.dst v with
    | some T'=>opsA X E n all os T' s'
    | none=>none
   | none=>none
  | some false=>match putV T n o.dst (.tup []) with
   | some T'=>opsA X E n all os T' s
   | none=>none
  | none=>none
def trace (X:Env) (E:Ev) (n:Nat) (all:List Oper):List Oper->Tr AV->St->Option (List (Option AV × Tr AV × St) × Tr AV × St)
 | [],T,s=>some ([],T,s)
 | o :: os,T,s=>match wantA all T o with
  | some true=>match opA P X E (opd T) s o.op with
   | some (v,s')=>match putV T n o.dst v with
    | some T'=>match trace X E n all os T' s' with
     | some (l,r)=>some ((some v,T,s) :: l,r)
     | none=>none
    | none=>none
   | none=>none
  | some false=>match putV T n o.dst (.tup []) with
   | some T'=>match trace X E n all os T' s with
     | some (l,r)=>some ((none,T,s) :: l,r)
     | none=>none
   | none=>none
  | none=>none

end

def maskOf (M:Tr Nat) (i:Nat) (o:Oper):Option Nat :=
 o.after.toList.foldlM (fun m e=>cond (Region.binds .any e) (cond (Nat.blt e.on i) ((M.get e.on).map fun x=>m ||| 2 ^ e.on ||| x) none) (some m)) 0
def masks:List Oper->Nat->Tr Nat->Option (Tr Nat)
 | [],_,M=>some M
 | o :: os,i,M=>match maskOf M i o with
  | some m=>masks os (i + 1) (M.set i (some m))
  | none=>none
def isEf (o:Oper):Bool:=match kindA o.op with
 | .ef=>true
 | _=>false
def looks (all:List Oper) (o:Oper):List Tmp :=
 (o.op.operands.toList.filterMap fun | .tmp t=>some t | _=>none) ++
 (match o.guard with
  | some (g,_)=>((all[g]?).bind (·.dst)).toList
  | none=>[])
def dstsOf:List Oper->Nat->List (Nat × Tmp)
 | [],_=>[]
 | o :: os,i=>match o.dst with
  | some t=>(i,t) :: dstsOf os (i + 1)
  | none=>dstsOf os (i + 1)
def efsOf:List Oper->Nat->List Nat
 | [],_=>[]
 | o :: os,i=>cond (isEf o) (i :: efsOf os (i + 1)) (efsOf os (i + 1))
def chainOk (M:Tr Nat):List Nat->Bool
 | a :: b :: l=>(match M.get b with | some m=>m.testBit a | none=>false) && chainOk M (b :: l)
 | _=>true
def opOk (all:List Oper) (M:Tr Nat) (D:List (Nat × Tmp)) (i:Nat) (o:Oper):Bool :=
 match M.get i with
 | some m=>D.all fun p=>(!(looks all o).contains p.2 || m.testBit p.1 || (match M.get p.1 with | some m'=>m'.testBit i | none=>false)) && (!(o.dst == some p.2) || p.1 == i) 
 | none=>false
def opsOk (all:List Oper) (M:Tr Nat) (D:List (Nat × Tmp)):List Oper->Nat->Bool
 | [],_=>true
 | o :: os,i=>opOk all M D i o && opsOk all M D os (i + 1)
def staticOk (ops:List Oper):Option (Tr Nat) :=
 match masks ops 0 .nil with
 | some M=>cond (chainOk M (efsOf ops 0) && opsOk ops M (dstsOf ops 0) ops 0) (some M) none
 | none=>none
def looksIn:Op->Bool
 | .load .. | .lookup .. | .entry _=>true
 | .call { callee:=.builtin .len,.. }=>true
 | _=>false
def overlay (fin:St)(h:Tr AO):List Oper->List (Option AV × Tr AV × St)->Tr AO
 | o :: os,(some _,_,s) :: tr=>match kindA o.op with
  | .al=>match tr with
   | (_,_,s') :: _=>overlay fin (h.set s.nx (s'.h.get s.nx)) os tr
   | []=>overlay fin (h.set s.nx (fin.h.get s.nx)) os tr
  | _=>overlay fin h os tr
 | _ :: os,_ :: tr=>overlay fin h os tr
 | _,_=>h
def epochs (M:Tr Nat) (fin:St):(prev:Nat)->List Oper->Nat->List (Option AV × Tr AV × St)->List (Nat × Nat × St)
 | prev,o :: os,i,(_,_,s) :: tr=>cond (isEf o)
   ((prev,i,⟨overlay fin s.h os tr,fin.nx⟩) :: epochs M fin ((M.get i).getD 0) os (i + 1) tr)
   (epochs M fin prev os (i + 1) tr)
 | prev,_,i,_=>[(prev,i,fin)]
def floatOk (P:Program) (M:Tr Nat) (ep:List (Nat × Nat × St)):List Oper->Nat->List (Option AV × Tr AV × St)->Bool
 | o :: os,i,(some v,T,_) :: tr =>
  (match kindA o.op with
  | .rd=>cond (looksIn o.op) (match M.get i with
   | some m=>ep.all fun p=>p.1.testBit i || m.testBit p.2.1 || (match rdA P (opd T) p.2.2 o.op with
    | some v'=>same v' v
    | none=>false)
   | none=>false) true
  | _=>true) && floatOk P M ep os (i + 1) tr
 | _ :: os,i,_ :: tr=>floatOk P M ep os (i + 1) tr
 | _,_,_=>true
def drawA (P:Program) (X:Env) (E:Ev) (n:Nat) (ops:List Oper) (T:Tr AV) (s:St):Option (Tr AV × St) :=
 match staticOk ops with
 | some M=>match trace P X E n ops ops T s with
  | some (tr,T',s')=>cond (floatOk P M (epochs M s' 0 ops 0 tr) ops 0 tr) (some (T',s')) none
  | none=>none
 | none=>none

def codeA (P:Program) (X:Env) (E:Ev) (c:Code) (fr:Fr) (s:St):Option (Ex × Fr × St) :=
 match c with
 | .skip | .label _=>some (.normal,fr,s)
 | .ret=>some (.ret,fr,s)
 | .exit id=>some (.exit id,fr,s)
 | .seq a b=>match E.code a fr s with
  | some (.normal,fr,s)=>E.code b fr s
  | r=>r
 | .cond c a b=>match opd fr.T c with
  | some (.b true)=>E.code a fr s
  | some (.b false)=>E.code b fr s
  | _=>none
 | .block id c=>match E.code c fr s with
  | some (.exit id',fr,s)=>cond (Nat.beq id' id) (some (.normal,fr,s)) (some (.exit id',fr,s))
  | r=>r
 | .loop c=>match E.code c fr s with
  | some (.normal,fr,s)=>E.code (.loop c) fr s
  | r=>r
 | .scope c=>E.code c fr s
 | .region _ ops draw=>match (match draw with
   | true=>drawA P X E fr.n ops.toList fr.T s
   | false=>opsA P X E fr.n ops.toList ops.toList fr.T s) with
  | some (T,s)=>some (.normal,{ fr with T },s)
  | none=>none
 | .rangeFunc f ps asn body =>
  match opd fr.T f with
  | some (.fn g fs cs) =>
   match (match fr.rd with
    | some l=>match s.h.get l with
     | some (.loop _ _ _ _ _ _ _ _ ds)=>some (ds,fr,s)
     | _=>none
    | none=>some (s.nx,{ fr with ms:=s.nx :: fr.ms },s.new .defs)) with
   | some (ds,fr',s1) =>
    match E.call g (fs ++ .yl s1.nx :: cs) (s1.new (.loop .ready none fr.fn fr.n fr.T ps.toList asn body ds)) with
    | some (_,s2)=>match s2.h.get s1.nx with
     | some (.loop .busy ..)=>none
     | some (.loop _ pe fn n T ps asn body ds) =>
      match pe with
      | none=>some (.normal,fr',s2.set s1.nx (.loop .over pe fn n T ps asn body ds))
      | some .ret=>some (.ret,fr',s2.set s1.nx (.loop .over pe fn n T ps asn body ds))
      | some (.exit id)=>some (.exit id,fr',s2.set s1.nx (.loop .over pe fn n T ps asn body ds))
      | some _=>none
     | _=>none
    | none=>none
   | none=>none
  | _=>none
 | _=>none
def resA (P:Program) (T:Tr AV) (s:St):ResultVar->Option AV
 | .tmp t=>T.get t
 | .cell a t=>match T.get a with
  | some p=>loadA P s t p
  | none=>none
def resAs (P:Program) (T:Tr AV) (s:St):List ResultVar->Option (List AV)
 | []=>some []
 | r :: rs=>match resA P T s r with
  | some v=>(resAs P T s rs).map (v :: ·)
  | none=>none
def marksOk (s:St):List Nat->Bool
 | []=>true
 | r :: ms=>(match s.h.get r with | some .defs=>true | _=>false) && !ms.contains r && marksOk s ms
def callA (P:Program) (X:Env) (E:Ev) (f:FuncId) (args:List AV) (s:St):Option (AV × St) :=
 match X.orc f with
 | some g=>g args s
 | none=>match P.funcs[f]? with
  | some fn=>match fn.body with
   | some c=>cond (Nat.ble args.length fn.ntmps && !(fn.name == "runtime.NumGoroutine"))
    (match E.code c ⟨f,fn.ntmps,Tr.ofList args,none,[]⟩ s with
    | some (.exit _,_,_)=>none
    | some (_,fr,s1)=>cond (marksOk s1 fr.ms) (match resAs P fr.T (fr.ms.foldl St.drop s1) fn.results.toList with
     | some [v]=>some (v,fr.ms.foldl St.drop s1)
     | some l=>some (.tup l,fr.ms.foldl St.drop s1)
     | none=>none) none
    | none=>none) none
   | none=>none
  | none=>none
def Ev.at_ (P:Program) (X:Env):Nat->Ev
 | 0=>⟨fun _ _ _=>none,fun _ _ _=>none⟩
 | k + 1=>⟨callA P X (Ev.at_ P X k),codeA P X (Ev.at_ P X k)⟩
end
end Go.Proofs.YtdehimgccmbfkaaGreat
