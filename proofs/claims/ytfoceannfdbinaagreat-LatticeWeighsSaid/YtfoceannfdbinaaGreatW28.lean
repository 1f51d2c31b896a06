/- Lemmas. -/
import Derived.Test.YtfoceannfdbinaaGreatW26
set_option linter.all false
set_option maxRecDepth 1000000
set_option maxHeartbeats 32000000
namespace Go.Proofs.YtfoceannfdbinaaGreat
open Go.RowKit
section
def gG{α:Type}:List (Nat×α)->Nat->Option α
 | [],_=>none
 |p::l,k=>cond (Nat.beq k p.1) (some p.2) (gG l k)
theorem Eh{α}k:gG ([]:List (Nat×α)) k=none:=rfl
theorem i5{α}j x(l:List (Nat×α))k:gG ((j,x)::l) k=if k=j then some x else gG l k:=by
 simp only[gG];by_cases h:k=j
 ·subst h;simp
 rw[BW.2 h,iF h];rfl
def Tr.of(l:List (Nat×AV)):Tr AV:=l.foldr (fun p t=>t.set p.1 (some p.2)) .nil
theorem Tr.of_set l d v:(Tr.of l).set d (some v)=Tr.of ((d,v)::l):=rfl
theorem Tr.of_get k:∀l:List (Nat×AV),(Tr.of l).get k=gG l k
 | []=>rfl
 |p::l=>by rw[show Tr.of (p::l)=(Tr.of l).set p.1 (some p.2)from rfl,Tr.get_set,Tr.of_get k l,show gG (p::l) k=_ from i5 p.1 p.2 l k]
theorem pk a:Tr.ofList [a]=Tr.of [(0,a)]:=rfl
theorem cZ a b:Tr.ofList [a,b]=Tr.of [(1,b),(0,a)]:=rfl
theorem dZ a b c:Tr.ofList [a,b,c]=Tr.of [(2,c),(1,b),(0,a)]:=rfl
def St.of(l:List (Nat×Option AO))(n:Nat):St:=⟨l.foldr (fun p t=>t.set p.1 p.2) .nil,n⟩
def gF(l:List (Nat×Option AO))(k:Nat):Option AO:=match gG l k with
 |some x=>x
 |none=>none
theorem Eg k:gF [] k=none:=rfl
theorem hY j x l k:gF ((j,x)::l) k=if k=j then x else gF l k:=by
 unfold gF;rw[i5];by_cases h:k=j
 ·rw[oR h,oR h]
 rw[iF h,iF h]
theorem St.of_nil:(⟨.nil,0⟩:St)=St.of [] 0:=rfl
theorem St.of_new l n x:(St.of l n).new x=St.of ((n,some x)::l) (n+1):=rfl
theorem St.of_set l n k x:(St.of l n).set k x=St.of ((k,some x)::l) n:=rfl
theorem St.of_drop l n k:(St.of l n).drop k=St.of ((k,none)::l) n:=rfl
theorem St.of_nx l n:(St.of l n).nx=n:=rfl
theorem St.of_get n k:∀l:List (Nat×Option AO),(St.of l n).h.get k=gF l k
 | []=>rfl
 |p::l=>by rw[show(St.of (p::l) n).h=(St.of l n).h.set p.1 p.2 from rfl,Tr.get_set,St.of_get n k l,show gF (p::l) k=_ from hY p.1 p.2 l k]

def ao{α:Type}(o:Option α)(k:α->Prop):Prop:=match o with
 |some a=>k a
 |none=>False
theorem aA{α}a(k:α->Prop):ao (some a) k=k a:=rfl
def J8(v:AV)(k:Bool->Prop):Prop:=match v with
 | .b t=>k t
 |_=>False
theorem r9 t k:J8 (.b t) k=k t:=rfl
def ym(ρ:Operand->Option AV):List Operand->(List AV->Prop)->Prop
 | [],k=>k []
 |x::l,k=>ao (ρ x) fun v=>ym ρ l fun vs=>k (v::vs)
theorem Bl ρ:∀(l:List Operand)(k:List AV->Prop),ao (l.mapM ρ) k=ym ρ l k
 | [],k=>rfl
 |x::l,k=>by
  rw[aBb,ym];cases ρ x with
  |none=>rfl
  |some v=>rw[aA,<-Bl ρ l];cases l.mapM ρ<;>rfl
section
variable {P:Program}{X:eC}{E:Ev}{ρ:Operand->Option AV}{s:St}{K:AV->St->Prop}
def s6(P:Program)(t:TypeId)(a i:AV):Option AV:=match P.underlying t,a,qI i with
 |some (.array n e),.ptr o off,some i=>match bG P e with
  |some z=>cond (Nat.blt i n) (some (.ptr o (off+i*z))) none
  |none=>none
 |some (.slice e),.sl o off n _,some i=>match bG P e with
  |some z=>cond (Nat.blt i n) (some (.ptr o (off+i*z))) none
  |none=>none
 |some (.array n e),.vp c off,some i=>match bG P e with
  |some z=>cond (Nat.blt i n) (some (.vp c (off+i*z))) none
  |none=>none
 |some (.slice e),.vw c n,some i=>match bG P e with
  |some z=>cond (Nat.blt i n) (some (.vp c (i*z))) none
  |none=>none
 |_,_,_=>none
def yp(P:Program)(t:TypeId)(f:Nat)(a:AV):Option AV:=match lH P t f,a with
 |some fd,.ptr o off=>match bG P fd.type with
  |some (_+1)=>some (.ptr o (off+fd.offset))
  |_=>none
 |some fd,.vp c off=>match bG P fd.type with
  |some (_+1)=>some (.vp c (off+fd.offset))
  |_=>none
 |_,_=>none
def LH(P:Program)(t:TypeId)(f:Nat)(a:AV):Option AV:=match lH P t f,a with
 |some fd,.agg l=>iL P fd.type l fd.offset
 |_,_=>none
def Yk(s:St):AV->Option AV
 | .sl _ _ n _=>some (.i .i64 n)
 | .vw _ n=>some (.i .i64 n)
 | .snil=>some (.i .i64 0)
 | .mnil=>some (.i .i64 0)
 | .mp o=>match s.h.get o with
  |some (.map es _)=>some (.i .i64 es.length)
  |_=>none
 |_=>none
theorem Cn x:dB P X E ρ s (.move x) K=ao (ρ x) fun v=>K v s:=by unfold dB;simp only[iW,bQ,dY];cases ρ x<;>rfl
theorem sq x:dB P X E ρ s (.assign x) K=ao (ρ x) fun v=>K v s:=by unfold dB;simp only[iW,bQ,dY];cases ρ x<;>rfl
theorem Cm c a b:dB P X E ρ s (.pick c a b) K=ao (ρ c) fun v=>J8 v fun t=>ao (cond t (ρ a) (ρ b)) fun v=>K v s:=by
 unfold dB;simp only[iW,bQ,dY];cases ρ c with
 |none=>rfl
 |some v=>cases v<;>first|rfl|(rename_i t;simp only[aA,r9];cases (cond t (ρ a) (ρ b))<;>rfl)
theorem Co t a:dB P X E ρ s (.load t a) K=ao (ρ a) fun p=>ao (ju P s t p) fun v=>K v s:=by
 unfold dB;simp only[iW,bQ,dY];cases ρ a with
 |none=>rfl
 |some p=>simp only[CC,aA];cases ju P s t p<;>rfl
theorem vc t a v:dB P X E ρ s (.store t a v) K=ao (ρ a) fun p=>ao (ρ v) fun v=>ao (ke P s t v p) fun s'=>K (.tup []) s':=by
 unfold dB;simp only[iW,bQ,iG];cases ρ a with
 |none=>rfl
 |some p=>
  cases ρ v with
  |none=>rfl
  |some v=>simp only[aA];cases ke P s t v p<;>rfl
theorem Ko op t x y j:dB P X E ρ s (.binOp op t x y j) K=ao (ρ x) fun a=>ao (ρ y) fun b=>ao (lI P op t a b) fun v=>K v s:=by
 unfold dB;simp only[iW,bQ,dY];cases ρ x with
 |none=>rfl
 |some a=>
  cases ρ y with
  |none=>rfl
  |some b=>simp only[aA];cases lI P op t a b<;>rfl
theorem Kl(t:TypeId)(x:Operand):dB P X E ρ s (.unOp .not t x) K=ao (ρ x) fun a=>ao (match a with|.b x=>some (.b !x)|_=>none) fun v=>K v s:=by
 unfold dB;simp only[iW,bQ,dY];cases ρ x with
 |none=>rfl
 |some a=>cases a<;>first|rfl|(rename_i k n;cases k<;>rfl)
theorem mW(x:Operand):dB P X E ρ s (.nilCheck x) K=ao (ρ x) fun a=>ao (match a with|.ptr o off=>some (.ptr o off)|.vp c off=>some (.vp c off)|.fn f a b=>some (.fn f a b)|.yl l=>some (.yl l)|_=>none) fun v=>K v s:=by
 unfold dB;simp only[iW,bQ,dY];cases ρ x with
 |none=>rfl
 |some a=>cases a<;>rfl
theorem lq t x f:dB P X E ρ s (.fieldAddr t x f) K=ao (ρ x) fun a=>ao (yp P t f a) fun v=>K v s:=by
 unfold dB;simp only[iW,bQ,dY,yp];cases ρ x with
 |none=>cases lH P t f<;>rfl
 |some a=>
  simp only[aA];cases lH P t f with
  |none=>rfl
  |some fd=>cases a<;>first|rfl|(simp only;cases bG P fd.type with|none=>rfl|some z=>cases z<;>rfl)
theorem ve t x f:dB P X E ρ s (.field t x f) K=ao (ρ x) fun a=>ao (LH P t f a) fun v=>K v s:=by
 unfold dB;simp only[iW,bQ,dY,LH];cases ρ x with
 |none=>cases lH P t f<;>rfl
 |some a=>
  simp only[aA];cases lH P t f with
  |none=>rfl
  |some fd=>cases a<;>first|rfl|(simp only;cases iL P fd.type _ fd.offset<;>rfl)
theorem lp t x j:dB P X E ρ s (.indexAddr t x j) K=ao (ρ x) fun a=>ao (ρ j) fun i=>ao (s6 P t a i) fun v=>K v s:=by
 have key:dY P ρ s (.indexAddr t x j)=(ρ x).bind fun a=>(ρ j).bind fun i=>s6 P t a i:=by
  simp only[dY];cases hx:ρ x with
  |none=>simp only[aEd];split<;>first|rfl|(rename_i h _;cases h)
  |some a=>
   cases hi:ρ j with
   |none=>simp only[aEd,CC];split<;>first|rfl|(rename_i h;cases h)
   |some i=>
    simp only[CC,s6];cases P.underlying t with
    |none=>rfl
    |some d=>cases d<;>first|rfl|(cases a<;>first|rfl|(cases qI i<;>rfl))
 unfold dB;simp only[iW,bQ,key];cases ρ x with
 |none=>rfl
 |some a=>
  cases ρ j with
  |none=>rfl
  |some i=>simp only[CC,aA];cases s6 P t a i<;>rfl
theorem pG(x:Operand)(k:Nat):dB P X E ρ s (.extract x k) K=ao (ρ x) fun a=>ao (match a with|.tup l=>l[k]?|_=>none) fun v=>K v s:=by
 unfold dB;simp only[iW,bQ,dY];cases ρ x with
 |none=>rfl
 |some a=>cases a<;>first|rfl|(rename_i l;simp only[aA];cases l[k]?<;>rfl)
theorem Kn t x:dB P X E ρ s (.box t x) K=ao (ρ x) fun v=>v.cells.all flat=true/\K (.ptr s.nx 0) (s.new (.cells v.cells t false)):=by
 unfold dB;simp only[iW,bQ,tA];cases ρ x with
 |none=>rfl
 |some v=>simp only[CC,aA];cases v.cells.all flat<;>simp
theorem vf t:dB P X E ρ s (.alloc t) K=ao (bX P t) fun v=>v.cells.all flat=true/\K (.ptr s.nx 0) (s.new (.cells v.cells t false)):=by
 unfold dB;simp only[iW,bQ,tA];cases bX P t with
 |none=>rfl
 |some v=>simp only[CC,aA];cases v.cells.all flat<;>simp
theorem Fb t l c:dB P X E ρ s (.makeSlice t l c) K=ao (tA P ρ (.makeSlice t l c)) fun p=>K (p.2 s.nx) (s.new p.1):=by unfold dB;simp only[iW,bQ];cases tA P ρ (.makeSlice t l c)<;>rfl
theorem sp t n ps:dB P X E ρ s (.buildSlice t n ps) K=ao (tA P ρ (.buildSlice t n ps)) fun p=>K (p.2 s.nx) (s.new p.1):=by unfold dB;simp only[iW,bQ];cases tA P ρ (.buildSlice t n ps)<;>rfl
theorem UL t ps:dB P X E ρ s (.build t ps) K=ao (dY P ρ s (.build t ps)) fun v=>K v s:=by unfold dB;simp only[iW,bQ];cases dY P ρ s (.build t ps)<;>rfl
theorem Ck t x lo hi mx:dB P X E ρ s (.slice t x lo hi mx) K=ao (dY P ρ s (.slice t x lo hi mx)) fun v=>K v s:=by unfold dB;simp only[iW,bQ];cases dY P ρ s (.slice t x lo hi mx)<;>rfl
theorem Z2(x:Operand)(t:TypeId)(hs:(match P.underlying t with|some (.slice _)|some (.map _ _)=>true|_=>false)=true)(j:∀v,ρ x=some v->(match P.underlying t with|some (.slice _)=>(match v with|.mp _|.mnil=>false|_=>true)|_=>(match v with|.mp _|.mnil=>true|_=>false))=true):dB P X E ρ s (.call ⟨.builtin .len,#[x],#[t]⟩) K=ao (ρ x) fun a=>ao (Yk s a) fun v=>K v s:=by
 unfold dB;simp only[iW,bQ,dY];cases hx:ρ x with
 |none=>
  cases hu:P.underlying t with
  |none=>rw[hu]at hs;cases hs
  |some d=>cases d<;>first|rfl|(rw[hu]at hs;cases hs)
 |some v=>
  have j:=j v hx;cases hu:P.underlying t with
  |none=>rw[hu]at hs;cases hs
  |some d=>
   rw[hu]at j hs;cases d<;>simp only at hs<;>try cases hs
   ·simp only[aA];cases v<;>simp only at j<;>first|rfl|cases j
   simp only[aA];cases v<;>simp only at j<;>first|rfl|cases j|skip
   simp only[Tb,Yk];rename_i o;cases s.h.get o with
   |none=>rfl
   |some y=>cases y<;>rfl
def xJ(E:Ev)(f:AV)(asn:List AV)(s:St):Option (AV×St):=match f with
 | .fn f fs cs=>E.call f (fs++asn++cs) s
 | .yl l=>eA E l asn s
 |_=>none
theorem Cp f args u:dB P X E ρ s (.call ⟨.value f,args,u⟩) K=ao (ρ f) fun j=>ym ρ args.toList fun asn=>ao (xJ E j asn s) fun p=>K p.1 p.2:=by
 unfold dB;simp only[iW,bQ,iG];cases ρ f with
 |none=>rfl
 |some j=>
  rw[aA,<-Bl];cases args.toList.mapM ρ with
  |none=>cases j<;>rfl
  |some asn=>cases j<;>first|rfl|(simp only[aA,xJ];first|(cases E.call _ _ s<;>rfl)|(cases eA E _ asn s<;>rfl))
def gc(P:Program)(t t':TypeId)(a b:AV)(s:St):Option (AV×St):=match P.underlying t,P.underlying t' with
 |some (.slice e),some (.slice _)=>gM P s e a b
 |_,_=>none
theorem sr x y t t':dB P X E ρ s (.call ⟨.builtin .append,#[x,y],#[t,t']⟩) K=ao (ρ x) fun a=>ao (ρ y) fun b=>ao (gc P t t' a b s) fun p=>K p.1 p.2:=by
 have key:iG P X E ρ s (.call ⟨.builtin .append,#[x,y],#[t,t']⟩)=(ρ x).bind fun a=>(ρ y).bind fun b=>gc P t t' a b s:=by
  simp only[iG,aBb,List.mapM_nil];cases hx:ρ x with
  |none=>rfl
  |some a=>
   cases hy:ρ y with
   |none=>rfl
   |some b=>rfl
 unfold dB;simp only[iW,bQ,key];cases ρ x with
 |none=>rfl
 |some a=>
  cases ρ y with
  |none=>rfl
  |some b=>simp only[CC,aA];cases gc P t t' a b s<;>rfl
theorem uD{n gl T Q}:kI P X E n gl [] T s Q=Q T s:=rfl
theorem qJ{n gl T Q d op ty pos af os}: kI P X E n gl (⟨some d,op,ty,pos,af,none⟩::os) T s Q=dB P X E (js T) s op fun v s'=>d<n/\kI P X E n gl os (T.set d (some v)) s' Q:=rfl
theorem qK{n gl T Q op ty pos af os}: kI P X E n gl (⟨none,op,ty,pos,af,none⟩::os) T s Q=dB P X E (js T) s op fun _ s'=>kI P X E n gl os T s' Q:=rfl
def Tm(o:Option Bool)(A B:Prop):Prop:=match o with
 |some true=>A
 |some false=>B
 |none=>False
theorem ol A B:Tm (some true) A B=A:=rfl
theorem l5 A B:Tm (some false) A B=B:=rfl
theorem Ic{n gl T Q d op ty pos af g os}: kI P X E n gl (⟨some d,op,ty,pos,af,some g⟩::os) T s Q=Tm (lN gl T (some g)) (dB P X E (js T) s op fun v s'=>d<n/\kI P X E n gl os (T.set d (some v)) s' Q) (d<n/\kI P X E n gl os (T.set d (some (.tup []))) s Q):=by rw[kI];rcases lN gl T (some g)with _|_|_<;>rfl
theorem Ar{n gl T Q op ty pos af g os}: kI P X E n gl (⟨none,op,ty,pos,af,some g⟩::os) T s Q=Tm (lN gl T (some g)) (dB P X E (js T) s op fun _ s'=>kI P X E n gl os T s' Q) (kI P X E n gl os T s Q):=by rw[kI];rcases lN gl T (some g)with _|_|_<;>rfl
theorem vx{gl:List (Option Tmp)}{T:Tr AV}{j:Nat}{b:Bool}:lN gl T (some (j,b))=match gl[j]? with
  |some (some t)=>match T.get t with
   |some (.b x)=>some (x == b)
   |some (.tup [])=>some false
   |_=>none
  |_=>none:=rfl
theorem IY T t:js T (.tmp t)=T.get t:=rfl
theorem y8 T v:js T (.const v)=bS v:=rfl
theorem Du T f:js T (.func f)=some (.fn f [] []):=rfl
theorem sd{z}(h:0<=z):qI (.i .i64 z)=some z.toNat:=by
 cases z with
 |ofNat k=>rfl
 |negSucc k=>exact absurd h (by omega)
theorem dz{a b}(h:a<b):Nat.blt a b=true:=by rw[ON];exact h
theorem aX{a b:Nat}(h:a<=b):Nat.ble a b=true:=Nat.ble_eq_true_of_le h
theorem Hy{z}(h:-9223372036854775808<=z)(y:z<9223372036854775808):IntKind.i64.wrap z=z:=by
 unfold IntKind.wrap;simp only[IntKind.bits,IntKind.signed];have e:(2:Int)^64=18446744073709551616:=rfl;have u:(2:Int)^(64-1)=9223372036854775808:=rfl;simp only[e,u];rcases Int.lt_or_le z 0 with x|x
 ·have j:z%18446744073709551616=z+18446744073709551616:=by omega
  rw[j,oR (by simp;omega)];omega
 have j:z%18446744073709551616=z:=Int.emod_eq_of_lt (by omega) (by omega);rw[j,iF (by simp;omega)]
theorem VE t a b:lI P .lss t (.i .i64 a) (.i .i64 b)=some (.b (decide (a<b))):=rfl
theorem VF t a b:lI P .leq t (.i .i64 a) (.i .i64 b)=some (.b (decide (a<=b))):=rfl
theorem VH t a b:lI P .gtr t (.i .i64 a) (.i .i64 b)=some (.b (decide (a>b))):=rfl
theorem VI t a b:lI P .geq t (.i .i64 a) (.i .i64 b)=some (.b (decide (a≥b))):=rfl
theorem VJ t a b:lI P .eql t (.i .i64 a) (.i .i64 b)=some (.b (decide (a=b))):=rfl
theorem VB t a b:lI P .neq t (.i .i64 a) (.i .i64 b)=some (.b (!decide (a=b))):=rfl
theorem VK t a b:lI P .add t (.i .i64 a) (.i .i64 b)=some (.i .i64 (IntKind.i64.wrap (a+b))):=rfl
theorem VA t a b:lI P .sub t (.i .i64 a) (.i .i64 b)=some (.i .i64 (IntKind.i64.wrap (a-b))):=rfl
theorem VC t a b:lI P .mul t (.i .i64 a) (.i .i64 b)=some (.i .i64 (IntKind.i64.wrap (a*b))):=rfl
end
section
variable {P:Program}{X:eC}{E:Ev}{ρ:Operand->Option AV}{s:St}{K:AV->St->Prop}
theorem Od{t}(h:oh P t=some false)c o:iL P t c o=c[o]?:=by unfold iL;rw[h]
theorem Oe{t n}(h:oh P t=some true)(j:bG P t=some n)c o:iL P t c o=(getR c o n).map .agg:=by unfold iL;rw[h,j]
def Nf(s:St)(n:Nat)(v:AV)(o f:Nat):Option AO->Option St
 |some (.cells c e op)=>cond (Nat.beq v.cells.length n&&Nat.ble (f+n) c.length&&v.cells.all flat) (some (s.set o (.cells (cz c f v.cells) e op))) none
 |_=>none
theorem yN{t n}(j:bG P t=some n)s v o f:ke P s t v (.ptr o f)=Nf s n v o f (s.h.get o):=by
 unfold ke Nf;simp only[j];generalize s.h.get o=y;cases y with
 |none=>rfl
 |some x=>cases x<;>rfl
theorem Tq{t e z}(hu:P.underlying t=some (.slice e))(u:bG P e=some z){i n}(h:0<=i)(j:i.toNat<n)o f c:s6 P t (.sl o f n c) (.i .i64 i)=some (.ptr o (f+i.toNat*z)):=by unfold s6;rw[hu,sd h];simp only[u,dz j,EQ]
theorem Tp{t e z}(hu:P.underlying t=some (.slice e))(u:bG P e=some z){i n}(h:0<=i)(j:i.toNat<n)c:s6 P t (.vw c n) (.i .i64 i)=some (.vp c (i.toNat*z)):=by unfold s6;rw[hu,sd h];simp only[u,dz j,EQ]
def Ls:AV->Option AV
 | .sl _ _ n _=>some (.i .i64 n)
 | .vw _ n=>some (.i .i64 n)
 | .snil=>some (.i .i64 0)
 |_=>none
theorem Xn{t e}(hu:P.underlying t=some (.slice e))x:dB P X E ρ s (.call ⟨.builtin .len,#[x],#[t]⟩) K=ao (ρ x) fun a=>ao (Ls a) fun v=>K v s:=by
 unfold dB;simp only[iW,bQ,dY,hu];cases ρ x with
 |none=>rfl
 |some v=>cases v<;>rfl
theorem zg(t:TypeId)(o f:Nat):ju P s t (.ptr o f)=match s.h.get o with|some (.cells c _ _)=>iL P t c f|_=>none:=rfl
theorem DJ t c f:ju P s t (.vp c f)=iL P t c f:=rfl
end
section
variable {P:Program}{X:eC}{E:Ev}{ρ:Operand->Option AV}
def Ms(ex:List (Nat×Nat))(i:Nat)(ns:List Nat):List (Nat×St×St)->Prop
 | []=>True
 |e::W=>(yB ex i e.1∨gg ns e.2.1 e.2.2)/\Ms ex i ns W
def I3(ex:List (Nat×Nat))(i:Nat)(s s':St):List (Nat×List Nat)->Prop
 | []=>True
 |r::R=>(yB ex i r.1∨gg r.2 s s')/\I3 ex i s s' R
theorem I7{ex i j}:∀{W:List (Nat×St×St)},Ms ex i j W->∀e∈W,yB ex i e.1∨gg j e.2.1 e.2.2
 | [],_,e,he=>by cases he
 |e::W,h,e',he=>by
  rcases Is.1 he with rfl|he
  ·exact h.1
  exact I7 h.2 e' he
theorem I2{ex i s s'}:∀{R:List (Nat×List Nat)},I3 ex i s s' R->∀r∈R,yB ex i r.1∨gg r.2 s s'
 | [],_,e,he=>by cases he
 |e::W,h,e',he=>by
  rcases Is.1 he with rfl|he
  ·exact h.1
  exact I2 h.2 e' he
def fB(ex:List (Nat×Nat))(i:Nat)(op:Op)(ρ:Operand->Option AV)(s s':St)(R:List (Nat×List Nat))(W:List (Nat×St×St))(k:List (Nat×List Nat)->List (Nat×St×St)->Prop):Prop:=
 match cq op with
 |true=>ao (Fg ρ s op) fun ns=>Ms ex i ns W/\k ((i,ns)::R) W
 |false=>match bQ op with
  | .ef=>I3 ex i s s' R/\k R ((i,s,s')::W)
  |_=>k R W
def yc(P:Program)(X:eC)(E:Ev)(n:Nat)(gl:List (Option Tmp))(ex:List (Nat×Nat)):Nat->List Oper->Tr AV->St->List (Nat×List Nat)->List (Nat×St×St)->(Tr AV->St->Prop)->Prop
 |_,[],T,s,_,_,K=>K T s
 |i,o::os,T,s,R,W,K=>Tm (lN gl T o.guard) (dB P X E (js T) s o.op fun v s'=>fB ex i o.op (js T) s s' R W fun R W=>ri n o.dst v T fun T'=>yc P X E n gl ex (i+1) os T' s' R W K) (ri n o.dst (.tup []) T fun T'=>yc P X E n gl ex (i+1) os T' s R W K)
theorem nY{n d v T K j}(h:ri n d v T K)(u:∀T,K T->j T):ri n d v T j:=by
 cases d with
 |none=>exact u _ h
 |some d=>exact⟨h.1,u _ h.2⟩
theorem Sq{s o K j}(h:dB P X E ρ s o K)(u:∀v s',K v s'->j v s'):dB P X E ρ s o j:=by
 unfold dB at h⊢;split at h
 ·exact u _ _ h
 exact h.elim
theorem vm{n gl ex}:∀{os:List Oper}{i:Nat}{T:Tr AV}{s:St}{R:List (Nat×List Nat)}{W:List (Nat×St×St)}{K:Tr AV->St->Prop},yc P X E n gl ex i os T s R W K->Mq P X E n gl ex i os T s R W K
 | [],_,_,_,_,_,_,h=>h
 |o::os,i,T,s,R,W,K,h=>by
  simp only[yc]at h;simp only[Mq];cases hw:lN gl T o.guard with
  |none=>rw[hw]at h;exact h.elim
  |some b=>
   rw[hw]at h;cases b with
   |false=>rw[l5]at h;exact nY h fun T' h=>vm h
   |true=>
    rw[ol]at h;refine Sq h fun v s' h=>?_;unfold fB at h;cases hl:cq o.op with
    |true=>
     rw[hl]at h;simp only at h;cases hr:Fg (js T) s o.op with
     |none=>rw[hr]at h;exact h.elim
     |some ns=>rw[hr]at h;exact nY h.2 fun T' j=>⟨I7 h.1,vm j⟩
    |false=>
     rw[hl]at h;simp only at h;unfold cE;cases hk:bQ o.op with
     |ef=>rw[hk]at h;exact nY h.2 fun T' j=>⟨I2 h.1,vm j⟩
     |rd=>rw[hk]at h;exact nY h fun T' j=>vm j
     |al=>rw[hk]at h;exact nY h fun T' j=>vm j
variable {n:Nat}{gl:List (Option Tmp)}{ex:List (Nat×Nat)}{i:Nat}{T:Tr AV}{s s':St}{R:List (Nat×List Nat)}{W:List (Nat×St×St)}{Q:Tr AV->St->Prop}{os:List Oper}{ty:TypeId}{pos:String}{af:Array Edge}{op:Op}{k:List (Nat×List Nat)->List (Nat×St×St)->Prop}
theorem uE:yc P X E n gl ex i [] T s R W Q=Q T s:=rfl
theorem qL{d}:yc P X E n gl ex i (⟨some d,op,ty,pos,af,none⟩::os) T s R W Q=dB P X E (js T) s op fun v s'=>fB ex i op (js T) s s' R W fun R W=>d<n/\yc P X E n gl ex (i+1) os (T.set d (some v)) s' R W Q:=rfl
theorem qM:yc P X E n gl ex i (⟨none,op,ty,pos,af,none⟩::os) T s R W Q=dB P X E (js T) s op fun _ s'=>fB ex i op (js T) s s' R W fun R W=>yc P X E n gl ex (i+1) os T s' R W Q:=rfl
theorem Ij{d g}:yc P X E n gl ex i (⟨some d,op,ty,pos,af,some g⟩::os) T s R W Q=Tm (lN gl T (some g)) (dB P X E (js T) s op fun v s'=>fB ex i op (js T) s s' R W fun R W=>d<n/\yc P X E n gl ex (i+1) os (T.set d (some v)) s' R W Q) (d<n/\yc P X E n gl ex (i+1) os (T.set d (some (.tup []))) s R W Q):=rfl
theorem Av{g}:yc P X E n gl ex i (⟨none,op,ty,pos,af,some g⟩::os) T s R W Q=Tm (lN gl T (some g)) (dB P X E (js T) s op fun _ s'=>fB ex i op (js T) s s' R W fun R W=>yc P X E n gl ex (i+1) os T s' R W Q) (yc P X E n gl ex (i+1) os T s R W Q):=rfl
theorem I6{j}:Ms ex i j []=True:=rfl
theorem Dy{u j a b}:Ms ex i u ((j,a,b)::W)=((yB ex i j∨gg u a b)/\Ms ex i u W):=rfl
theorem Dx{u j a}:Ms ex i u ((j,a,a)::W)=Ms ex i u W:=by have:gg u a a:=fun _ _=>rfl;simp only[Ms,this,or_true,true_and]
theorem I1:I3 ex i s s' []=True:=rfl
theorem Dw{j u}:I3 ex i s s' ((j,u)::R)=((yB ex i j∨gg u s s')/\I3 ex i s s' R):=rfl
theorem Dv:I3 ex i s s R=True:=by
 induction R with
 |nil=>rfl
 |cons r R ih=>rw[I3,ih];simp[gg]
theorem yR:gg [] s s'=True:=by simp[gg]
theorem vR{o j}:gg (o::j) s s'=(s'.h.get o=s.h.get o/\gg j s s'):=by simp[gg]
theorem Kt{j}:yB [] i j=False:=by simp[yB]
theorem Fe{a b j l}:yB ((a,b)::l) i j=((i=a/\j=b)∨yB l i j):=by simp[yB]
theorem uM x:fB ex i (.move x) ρ s s' R W k=k R W:=rfl
theorem pm x:fB ex i (.assign x) ρ s s' R W k=k R W:=rfl
theorem uL x y z:fB ex i (.pick x y z) ρ s s' R W k=k R W:=rfl
theorem uN(t:TypeId)(x:Operand):fB ex i (.load t x) ρ s s' R W k=ao (ρ x) fun p=>ao (match p with|.ptr o _=>(s.h.get o).map fun _=>[o]|.vp _ _=>some []|_=>none) fun ns=>Ms ex i ns W/\k ((i,ns)::R) W:=by
 unfold fB;simp only[cq,Fg];cases ρ x with
 |none=>rfl
 |some p=>cases p<;>rfl
theorem Bg o t x y j:fB ex i (.binOp o t x y j) ρ s s' R W k=k R W:=rfl
theorem Ja o t x:fB ex i (.unOp o t x) ρ s s' R W k=k R W:=rfl
theorem kT x:fB ex i (.nilCheck x) ρ s s' R W k=k R W:=rfl
theorem jR t x f:fB ex i (.fieldAddr t x f) ρ s s' R W k=k R W:=rfl
theorem rz t x f:fB ex i (.field t x f) ρ s s' R W k=k R W:=rfl
theorem jQ t x y:fB ex i (.indexAddr t x y) ρ s s' R W k=k R W:=rfl
theorem mE x j:fB ex i (.extract x j) ρ s s' R W k=k R W:=rfl
theorem ru t x a b c:fB ex i (.slice t x a b c) ρ s s' R W k=k R W:=rfl
theorem rA t ps:fB ex i (.build t ps) ρ s s' R W k=k R W:=rfl
theorem rB t:fB ex i (.alloc t) ρ s s' R W k=k R W:=rfl
theorem Bf t x:fB ex i (.box t x) ρ s s' R W k=k R W:=rfl
theorem jP t x y:fB ex i (.makeSlice t x y) ρ s s' R W k=k R W:=rfl
theorem jg t m ps:fB ex i (.buildSlice t m ps) ρ s s' R W k=k R W:=rfl
theorem mD t x:fB ex i (.makeMap t x) ρ s s' R W k=k R W:=rfl
theorem rt t x y:fB ex i (.store t x y) ρ s s' R W k=(I3 ex i s s' R/\k R ((i,s,s')::W)):=rfl
theorem uO f xs j:fB ex i (.call ⟨.value f,xs,j⟩) ρ s s' R W k=(I3 ex i s s' R/\k R ((i,s,s')::W)):=rfl
theorem pn xs j:fB ex i (.call ⟨.builtin .append,xs,j⟩) ρ s s' R W k=(I3 ex i s s' R/\k R ((i,s,s')::W)):=rfl
def yn(s:St):Option AV->Option (List Nat)
 |some (.mp o)=>(s.h.get o).map fun _=>[o]
 |_=>some []
theorem Be x u:fB ex i (.call ⟨.builtin .len,#[x],u⟩) ρ s s' R W k=ao (yn s (ρ x)) fun j=>Ms ex i j W/\k ((i,j)::R) W:=by unfold fB yn;simp only[cq,Fg];rfl
end
theorem rE ρ k:ym ρ [] k=k []:=rfl
theorem po ρ x l k:ym ρ (x::l) k=ao (ρ x) fun v=>ym ρ l fun vs=>k (v::vs):=rfl
theorem ET E f asn s:xJ E (.fn f [] []) asn s=E.call f asn s:=by simp[xJ]
theorem Jv o f n c:Ls (.sl o f n c)=some (.i .i64 n):=rfl
theorem Ju c n:Ls (.vw c n)=some (.i .i64 n):=rfl
theorem DK:Ls .snil=some (.i .i64 0):=rfl
theorem zW l:AV.cells (.agg l)=l:=rfl
theorem J0 x:AV.cells (.b x)=[.b x]:=rfl
theorem JZ k n:AV.cells (.i k n)=[.i k n]:=rfl
theorem EL o f n c:AV.cells (.sl o f n c)=[.sl o f n c]:=rfl
theorem xG:AV.cells .snil=[.snil]:=rfl
theorem EK c n:AV.cells (.vw c n)=[.vw c n]:=rfl
theorem zU n:AV.cells (.num n)=[.num n]:=rfl
theorem EN o:AV.cells (.mp o)=[.mp o]:=rfl
theorem zT o f:AV.cells (.ptr o f)=[.ptr o f]:=rfl
theorem Ya x:bS (.bool x)=some (.b x):=rfl
theorem X9 k n:bS (.int k n)=some (.i k n):=rfl
theorem Vd:bS (.pointer none)=some .pnil:=rfl
theorem Vc:bS (.slice none 0 0)=some .snil:=rfl
theorem Ve:bS (.map none)=some .mnil:=rfl
theorem Vf:bS .nilFunc=some .fnil:=rfl
theorem Ou l:bS (.agg ⟨l⟩)=(ip l).map .agg:=rfl
theorem Ot:ip []=some []:=rfl
theorem I9(v:Value)(l:List Value):ip (v::l)=match bS v with|some x=>(ip l).map (x::·)|none=>none:=rfl
theorem UU{α β:Type}(f:α->β)a:Option.map f (some a)=some (f a):=rfl
theorem UV{α β:Type}(f:α->β):Option.map f none=none:=rfl
theorem UX{α β:Type}(f:α->Option β)a:Option.bind (some a) f=f a:=rfl
theorem XG{α:Type}a(l:List α):(a::l).length=l.length+1:=rfl
theorem XF{α:Type}:([]:List α).length=0:=rfl
theorem XI{α:Type}(a b:α):cond true a b=a:=rfl
theorem XJ{α:Type}(a b:α):cond false a b=b:=rfl
theorem Hw{α:Type}x(l:List α):(x::l)[0]?=some x:=rfl
theorem Hv{α:Type}x(l:List α)i:(x::l)[i+1]?=l[i]?:=rfl
theorem UY{α:Type}(i:Nat):([]:List α)[i]?=none:=rfl
theorem Hu{α}(l:List α):getR l 0 0=some []:=rfl
theorem Bw{α}x:∀(n o:Nat)(l:List α),getR (x::l) (o+1) n=getR l o n
 |0,_,_=>rfl
 |n+1,o,l=>by simp only[getR,Em,Bw x n (o+1) l]
theorem Ht{α}x(l:List α)o n:getR (x::l) (o+1) n=getR l o n:=Bw x n o l
theorem Ap{α}x(l:List α)n:getR (x::l) 0 (n+1)=(getR l 0 n).map (x::·):=by simp only[getR,aAb,Bw]
theorem Hs{α}(l:List α)o:cz l o []=l:=rfl
theorem Hr{α}l o x(xs:List α):cz l o (x::xs)=cz (l.set o x) (o+1) xs:=rfl
theorem MG{α:Type}x y(l:List α):(x::l).set 0 y=y::l:=rfl
theorem ME{α:Type}x y(l:List α)i:(x::l).set (i+1) y=x::l.set i y:=rfl
theorem MF{α:Type}y i:([]:List α).set i y=[]:=rfl
theorem MI:([]:List AV).all flat=true:=rfl
theorem MH x l:(x::l).all flat=(flat x&&l.all flat):=rfl
theorem Ak{α β:Type}(f:α->β):List.map f []=[]:=rfl
theorem uB{α β:Type}(f:α->β)x l:List.map f (x::l)=f x::List.map f l:=rfl
theorem Hx{α:Type}(l:List α):(Array.mk l).toList=l:=rfl
theorem p9:(!true)=false:=rfl
theorem oQ:(!false)=true:=rfl
theorem Qm:(true == true)=true:=rfl
theorem Qn:(true == false)=false:=rfl
theorem Qo:(false == true)=false:=rfl
theorem Qp:(false == false)=true:=rfl
theorem PL x:flat (.b x)=true:=rfl
theorem El o f:flat (.ptr o f)=true:=rfl
theorem JO o f n c:flat (.sl o f n c)=true:=rfl
theorem zz:flat .snil=true:=rfl
theorem JN c n:flat (.vw c n)=true:=rfl
theorem En n:flat (.num n)=true:=rfl
theorem JP n:flat (.mp n)=true:=rfl
theorem Eo z:flat (.i .i64 z)=true:=rfl
theorem EF{p}[Decidable p](h:p):decide p=true:=lT h
theorem zQ{p}[Decidable p](h:¬p):decide p=false:=iS h
theorem XE b:(true&&b)=b:=rfl
theorem XH b:(false&&b)=false:=rfl
theorem UT:(true=true)=True:=by simp
theorem UZ(a:Int):(a=a)=True:=by simp
theorem UW(a:Option AO):(a=a)=True:=by simp
theorem Iw s n v o f c e op:Nf s n v o f (some (.cells c e op))=cond (Nat.beq v.cells.length n&&Nat.ble (f+n) c.length&&v.cells.all flat) (some (s.set o (.cells (cz c f v.cells) e op))) none:=rfl
theorem gN(n:Nat):Nat.beq n n=true:=by simp
theorem sv:type_of% (aT @uB (aT @Ak @Hx)):=aT @uB (aT @Ak @Hx)
def tJ{α:Type}(a:α):α:=a
theorem gW.r{K Q fr s}(h:Q .ret fr s):gW K Q .ret fr s:=h
theorem CG{α}(a:α):tJ a=a:=rfl
theorem Ii{P X E n gl T s Q}l:kI P X E n gl (l.toArray).toList T s Q=kI P X E n gl l T s Q:=rfl
theorem Ik{P X E n gl ex i T s R W Q}l:yc P X E n gl ex i (l.toArray).toList T s R W Q=yc P X E n gl ex i l T s R W Q:=rfl
theorem DG ρ l k:ym ρ (l.toArray).toList k=ym ρ l k:=rfl
theorem Ib{P X E n gl T s Q}l:kI P X E n gl (List.take 0 l) T s Q=Q T s:=rfl
theorem Hz{P X E n gl T s Q}o l k:kI P X E n gl (List.take (k+1) (o::l)) T s Q=kI P X E n gl (o::List.take k l) T s Q:=rfl
theorem Ia{P X E n gl T s Q}l k:kI P X E n gl (List.take k (l.toArray).toList) T s Q=kI P X E n gl (List.take k l) T s Q:=rfl
theorem Ih{P X E n gl T s Q}l:kI P X E n gl (List.drop 0 l) T s Q=kI P X E n gl l T s Q:=rfl
theorem Ie{P X E n gl T s Q}o l k:kI P X E n gl (List.drop (k+1) (o::l)) T s Q=kI P X E n gl (List.drop k l) T s Q:=rfl
theorem Ig{P X E n gl T s Q}l k:kI P X E n gl (List.drop k (l.toArray).toList) T s Q=kI P X E n gl (List.drop k l) T s Q:=rfl
theorem Jy s o:yn s (some (.mp o))=(s.h.get o).map fun _=>[o]:=rfl
theorem Jx s o f n c:yn s (some (.sl o f n c))=some []:=rfl
theorem Jw s c n:yn s (some (.vw c n))=some []:=rfl
theorem DT s:yn s (some .snil)=some []:=rfl
theorem JA s a b:yn s (some (.fm a b))=some []:=rfl
theorem Jz s:yn s (some .mnil)=some []:=rfl
theorem DS s n:yn s (some (.num n))=some []:=rfl
theorem ev:type_of% (aT @DS (aT @Jz (aT @JA (aT @DT (aT @Jw (aT @Jx (aT @Jy (aT @CG (aT @UW (aT @UZ (aT @UT (aT @XH (aT @XE (aT @Tr.of_set (aT @Tr.of_get (aT @i5 (aT @Eh (aT @St.of_nil (aT @St.of_new (aT @St.of_set (aT @St.of_drop (aT @St.of_nx (aT @St.of_get (aT @hY (aT @Eg (aT @aA (aT @r9 (aT @Cn (aT @sq (aT @Cm (aT @Co (aT @vc (aT @Ko (aT @Kl (aT @mW (aT @lq (aT @ve (aT @lp (aT @pG (aT @Kn (aT @vf (aT @Cp (aT @sr (aT @uD (aT @qJ (aT @qK (aT @ol (aT @l5 (aT @Ic (aT @Ar (aT @vx (aT @IY (aT @y8 (aT @Du (aT @sd (aT @Hy (aT @VE (aT @VF (aT @VH (aT @VI (aT @VJ (aT @VB (aT @VK (aT @VA (aT @VC (aT @zg (aT @DJ (aT @rE (aT @po (aT @ET (aT @Jv (aT @Ju (aT @DK (aT @zW (aT @J0 (aT @JZ (aT @EL (aT @xG (aT @EK (aT @zU (aT @EN (aT @zT (aT @Ya (aT @X9 (aT @Vd (aT @Vc (aT @Ve (aT @Vf (aT @Ou (aT @Ot (aT @I9 (aT @uE (aT @qL (aT @qM (aT @Ij (aT @Av (aT @I6 (aT @Dy (aT @Dx (aT @I1 (aT @Dw (aT @Dv (aT @yR (aT @vR (aT @Kt (aT @Fe (aT @uM (aT @pm (aT @uL (aT @uN (aT @Bg (aT @Ja (aT @kT (aT @jR (aT @rz (aT @jQ (aT @mE (aT @ru (aT @rA (aT @rB (aT @Bf (aT @jP (aT @jg (aT @mD (aT @rt (aT @uO (aT @pn (aT @Be (aT @UU (aT @UX (aT @UV (aT @SK (aT @XG (aT @XF (aT @Hw (aT @Hv (aT @UY (aT @Hu (aT @Ht (aT @Ap (aT @Hs (aT @Hr (aT @MG (aT @ME (aT @MF (aT @MI (aT @MH (aT @Ak (aT @uB (aT @p9 (aT @oQ (aT @Qm (aT @Qn (aT @Qo (aT @Qp (aT @PL (aT @El (aT @JO (aT @zz (aT @JN (aT @En (aT @JP (aT @Eo (aT @Hx (aT @XI (aT @XJ (aT @EF (aT @zQ (aT @Iw (aT @gN (aT @aX @dz))))))))))))))))))))))))))))))))))))))))))))))))))))))))))))))))))))))))))))))))))))))))))))))))))))))))))))))))))))))))))))))))))))))))))))))))))))))))))))))))))))))))))):=(aT @DS (aT @Jz (aT @JA (aT @DT (aT @Jw (aT @Jx (aT @Jy (aT @CG (aT @UW (aT @UZ (aT @UT (aT @XH (aT @XE (aT @Tr.of_set (aT @Tr.of_get (aT @i5 (aT @Eh (aT @St.of_nil (aT @St.of_new (aT @St.of_set (aT @St.of_drop (aT @St.of_nx (aT @St.of_get (aT @hY (aT @Eg (aT @aA (aT @r9 (aT @Cn (aT @sq (aT @Cm (aT @Co (aT @vc (aT @Ko (aT @Kl (aT @mW (aT @lq (aT @ve (aT @lp (aT @pG (aT @Kn (aT @vf (aT @Cp (aT @sr (aT @uD (aT @qJ (aT @qK (aT @ol (aT @l5 (aT @Ic (aT @Ar (aT @vx (aT @IY (aT @y8 (aT @Du (aT @sd (aT @Hy (aT @VE (aT @VF (aT @VH (aT @VI (aT @VJ (aT @VB (aT @VK (aT @VA (aT @VC (aT @zg (aT @DJ (aT @rE (aT @po (aT @ET (aT @Jv (aT @Ju (aT @DK (aT @zW (aT @J0 (aT @JZ (aT @EL (aT @xG (aT @EK (aT @zU (aT @EN (aT @zT (aT @Ya (aT @X9 (aT @Vd (aT @Vc (aT @Ve (aT @Vf (aT @Ou (aT @Ot (aT @I9 (aT @uE (aT @qL (aT @qM (aT @Ij (aT @Av (aT @I6 (aT @Dy (aT @Dx (aT @I1 (aT @Dw (aT @Dv (aT @yR (aT @vR (aT @Kt (aT @Fe (aT @uM (aT @pm (aT @uL (aT @uN (aT @Bg (aT @Ja (aT @kT (aT @jR (aT @rz (aT @jQ (aT @mE (aT @ru (aT @rA (aT @rB (aT @Bf (aT @jP (aT @jg (aT @mD (aT @rt (aT @uO (aT @pn (aT @Be (aT @UU (aT @UX (aT @UV (aT @SK (aT @XG (aT @XF (aT @Hw (aT @Hv (aT @UY (aT @Hu (aT @Ht (aT @Ap (aT @Hs (aT @Hr (aT @MG (aT @ME (aT @MF (aT @MI (aT @MH (aT @Ak (aT @uB (aT @p9 (aT @oQ (aT @Qm (aT @Qn (aT @Qo (aT @Qp (aT @PL (aT @El (aT @JO (aT @zz (aT @JN (aT @En (aT @JP (aT @Eo (aT @Hx (aT @XI (aT @XJ (aT @EF (aT @zQ (aT @Iw (aT @gN (aT @aX @dz)))))))))))))))))))))))))))))))))))))))))))))))))))))))))))))))))))))))))))))))))))))))))))))))))))))))))))))))))))))))))))))))))))))))))))))))))))))))))))))))))))))))))))
theorem nD:type_of% (aT @Ig (aT @Ie (aT @Ih (aT @Ia (aT @Hz (aT @Ib (aT @DG (aT @Ik (aT @Ii (aT @aA (aT @r9 (aT @Cn (aT @sq (aT @Cm (aT @Co (aT @vc (aT @Ko (aT @Kl (aT @mW (aT @lq (aT @ve (aT @lp (aT @pG (aT @Kn (aT @vf (aT @Cp (aT @sr (aT @uD (aT @qJ (aT @qK (aT @ol (aT @l5 (aT @Ic (aT @Ar (aT @rE (aT @po (aT @uE (aT @qL (aT @qM (aT @Ij (aT @Av (aT @uM (aT @pm (aT @uL (aT @uN (aT @Bg (aT @Ja (aT @kT (aT @jR (aT @rz (aT @jQ (aT @mE (aT @ru (aT @rA (aT @rB (aT @Bf (aT @jP (aT @jg (aT @mD (aT @rt (aT @uO (aT @pn @Be)))))))))))))))))))))))))))))))))))))))))))))))))))))))))))))):=(aT @Ig (aT @Ie (aT @Ih (aT @Ia (aT @Hz (aT @Ib (aT @DG (aT @Ik (aT @Ii (aT @aA (aT @r9 (aT @Cn (aT @sq (aT @Cm (aT @Co (aT @vc (aT @Ko (aT @Kl (aT @mW (aT @lq (aT @ve (aT @lp (aT @pG (aT @Kn (aT @vf (aT @Cp (aT @sr (aT @uD (aT @qJ (aT @qK (aT @ol (aT @l5 (aT @Ic (aT @Ar (aT @rE (aT @po (aT @uE (aT @qL (aT @qM (aT @Ij (aT @Av (aT @uM (aT @pm (aT @uL (aT @uN (aT @Bg (aT @Ja (aT @kT (aT @jR (aT @rz (aT @jQ (aT @mE (aT @ru (aT @rA (aT @rB (aT @Bf (aT @jP (aT @jg (aT @mD (aT @rt (aT @uO (aT @pn @Be))))))))))))))))))))))))))))))))))))))))))))))))))))))))))))))
def pick(f:FuncId):List (FuncId×(List AV->St->Option (AV×St)))->Option (List AV->St->Option (AV×St))
 | []=>none
 |p::l=>cond (Nat.beq f p.1) (some p.2) (pick f l)
theorem pj{P f g}:∀{l:List (FuncId×(List AV->St->Option (AV×St)))},(∀p∈l,ag P p.1 p.2)->pick f l=some g->ag P f g
 | [],_,h=>by cases h
 |p::l,ha,h=>by
  simp only[pick]at h;cases e:Nat.beq f p.1 with
  |true=>rw[e]at h;simp only[EQ,iD]at h;subst h;rw[ID e];exact ha p (Do ..)
  |false=>rw[e]at h;exact pj (fun q j=>ha q (tK _ j)) h
def fK(l:List (FuncId×(List AV->St->Option (AV×St)))):eC:=⟨fun f=>pick f l,fun _ _=>none⟩
structure Mc(P:Program)(X:eC)(E:Ev):Prop where
 is:∃k,E=Ev.at_ P X k/\dJ P (Ev.at_ P X k)/\dJ P (Ev.at_ P X (k+1))
theorem DF{P}(hl:laidOutB P=true)(j:P.follows .mixedOrders=true){l}(ha:∀p∈l,ag P p.1 p.2):Mc P (fK l) (Ev.at_ P (fK l) 1):= ⟨1,rfl,xM hl j (fun t m f via h=>by cases h) (fun {f g} h=>pj ha h) _,xM hl j (fun t m f via h=>by cases h) (fun {f g} h=>pj ha h) _⟩
section
variable {bb:Nat}{P:Program}{X:eC}{E:Ev}{f:FuncId}{n:Nat}{T:Tr AV}{rd:Option Nat}{ms:List Nat}{s:St}{Q:Ex->Fr->St->Prop}{id:Nat}{ops:Array Oper}
theorem Jd.reg(M:Mc P X E)gl(j:ops.toList.map (·.dst)=gl)(h:kI P X E n gl ops.toList T s fun T s=>Q .normal ⟨f,n,T,rd,ms⟩ s):Jb bb P (.region id ops false) ⟨f,n,T,rd,ms⟩ s Q:=by obtain⟨k,rfl,_,S⟩:=M.is;exact Jd.region S gl j h
theorem Jd.drw(M:Mc P X E)(gl:List (Option Tmp))(ex:List (Nat×Nat))(j:ops.toList.map (·.dst)=gl)
  (u:(match gA ops.toList with|some M=>ex.all (fun p=>match M.get p.1 with|some m=>m.testBit p.2|none=>false)|none=>false)=true)
  (h:Mq P X E n gl ex 0 ops.toList T s [] [] fun T s=>Q .normal ⟨f,n,T,rd,ms⟩ s):Jb bb P (.region id ops true) ⟨f,n,T,rd,ms⟩ s Q:=by
 obtain⟨k,rfl,x,S⟩:=M.is;exact Jd.draw S x gl ex j u h
theorem Jd.regS(M:Mc P X E){b T' s'}(j:∀(K:Tr AV->St->Prop)(gl:List (Option Tmp)),ops.toList.map (·.dst)=gl->K T' s'->kI P X E n gl ops.toList T s K)(u:Jb bb P b ⟨f,n,T',rd,ms⟩ s' Q):Jb bb P (.seq (.region id ops false) b) ⟨f,n,T,rd,ms⟩ s Q:=by exact Jd.seq (Jd.reg M _ rfl (j _ _ rfl u))
theorem Jd.regQ(M:Mc P X E){T' s'}(j:∀(K:Tr AV->St->Prop)(gl:List (Option Tmp)),ops.toList.map (·.dst)=gl->K T' s'->kI P X E n gl ops.toList T s K)(u:Q .normal ⟨f,n,T',rd,ms⟩ s'):Jb bb P (.region id ops false) ⟨f,n,T,rd,ms⟩ s Q:=by exact Jd.reg M _ rfl (j _ _ rfl u)
theorem Jd.drwS(M:Mc P X E){b:Code}(ex:List (Nat×Nat))
  (j:(match gA ops.toList with|some M=>ex.all (fun p=>match M.get p.1 with|some m=>m.testBit p.2|none=>false)|none=>false)=true)
  {T':Tr AV} {s':St} (u:∀(K:Tr AV->St->Prop)(gl:List (Option Tmp)),ops.toList.map (·.dst)=gl->K T' s'->yc P X E n gl ex 0 ops.toList T s [] [] K) (x:Jb bb P b ⟨f,n,T',rd,ms⟩ s' Q):Jb bb P (.seq (.region id ops true) b) ⟨f,n,T,rd,ms⟩ s Q:=by
 exact Jd.seq (Jd.drw M _ ex rfl j (vm (u _ _ rfl x)))
theorem Jd.drwQ(M:Mc P X E)(ex:List (Nat×Nat))
  (j:(match gA ops.toList with|some M=>ex.all (fun p=>match M.get p.1 with|some m=>m.testBit p.2|none=>false)|none=>false)=true)
  {T':Tr AV} {s':St} (u:∀(K:Tr AV->St->Prop)(gl:List (Option Tmp)),ops.toList.map (·.dst)=gl->K T' s'->yc P X E n gl ex 0 ops.toList T s [] [] K) (x:Q .normal ⟨f,n,T',rd,ms⟩ s'):Jb bb P (.region id ops true) ⟨f,n,T,rd,ms⟩ s Q:=by
 exact Jd.drw M _ ex rfl j (vm (u _ _ rfl x))
def LF(l:List (Nat×AV)):Operand->Option AV
 | .tmp t=>gG l t
 | .const v=>bS v
 | .global _=>none
 | .func f=>some (.fn f [] [])
theorem Dt l x:js (Tr.of l) x=LF l x:=by cases x<;>first|rfl|exact Tr.of_get _ l
theorem Jd.cnd{l a b x t}(y:LF l x=some (.b t))(j:t=true->Jb bb P a ⟨f,n,Tr.of l,rd,ms⟩ s Q)(u:t=false->Jb bb P b ⟨f,n,Tr.of l,rd,ms⟩ s Q):Jb bb P (.cond x a b) ⟨f,n,Tr.of l,rd,ms⟩ s Q:= Jd.cond ((Dt l x).trans y) j u
theorem Jd.skipT{K fr}(h:K fr s):Jb bb P .skip fr s (gW K Q):=Jd.skip h
theorem Jd.retT{K fr}(h:Q .ret fr s):Jb bb P .ret fr s (gW K Q):=Jd.ret h
theorem Jd.exitT{K fr i}(h:Q (.exit i) fr s):Jb bb P (.exit i) fr s (gW K Q):=Jd.exit h
theorem bW.out{Q i fr}(h:Q .normal fr s):bW i Q (.exit i) fr s:=by simp only[bW,aBh];exact h
theorem bW.far{Q i j fr}(u:j≠i)(h:Q (.exit j) fr s):bW i Q (.exit j) fr s:=by simp only[bW,iF u];exact h
theorem aw.one{fn R l}{k:Tmp}{v}(j:fn.results=#[.tmp k])(u:gG l k=some v)(h:R v s):aw P fn R .ret ⟨f,n,Tr.of l,none,[]⟩ s:=by refine⟨trivial,rfl,[v],?_,h⟩;rw[j];simp only[nc,F7,Tr.of_get,u,AC]
theorem aw.two{fn R l}{k j:Tmp}{v u}(x:fn.results=#[.tmp k,.tmp j])(y:gG l k=some v)(hu:gG l j=some u)(h:R (.tup [v,u]) s):aw P fn R .ret ⟨f,n,Tr.of l,none,[]⟩ s:=by refine⟨trivial,rfl,[v,u],?_,h⟩;rw[x];simp only[nc,F7,Tr.of_get,y,hu,AC]
end
end
section
section
variable {P:Program}{X:eC}{E:Ev}{ρ:Operand->Option AV}{s:St}{K:AV->St->Prop}
def zh(l c:Nat):Option Unit:=cond (Nat.ble l c&&Nat.ble c 1000000) (some ()) none
theorem DQ{l c}(h:l<=c)(j:c<=1000000):zh l c=some ():=by unfold zh;rw[aX h,aX j];rfl
def yd(P:Program)(e:TypeId)(z:AV)(n:Nat):Bool:=match P.info? e with
 |some i=>z.cells.all flat&&Nat.beq z.cells.length i.size&&Nat.blt 0 i.size&&Nat.ble i.bytes 1000000&&Nat.beq i.size n&&Nat.ble n 1000000
 |none=>false
theorem kz{e z n}(h:yd P e z n=true):∃i,P.info? e=some i/\z.cells.all flat=true/\Nat.beq z.cells.length i.size=true/\Nat.blt 0 i.size=true/\Nat.ble i.bytes 1000000=true/\i.size=n/\Nat.ble n 1000000=true:=by
 unfold yd at h;split at h
 ·next i hi=>
  simp only[gE]at h;obtain⟨⟨⟨⟨⟨j,u⟩,x⟩,y⟩,A⟩,B⟩:=h;exact⟨i,hi,j,u,x,y,ID A,B⟩
 cases h
theorem ZK{t e z nz}(hu:P.underlying t=some (.slice e))(j:bX P e=some z)(B:yd P e z nz=true)l c: dB P X E ρ s (.makeSlice t l c) K=ao (ρ l) fun a=>ao (ρ c) fun b=>ao (qI a) fun l=>ao (qI b) fun c=>ao (zh l c) fun _=>K (.sl s.nx 0 l c) (s.new (.cells (reps z.cells c) e false)):=by
 obtain⟨i,hi,u,x,y,A,_,_⟩:=kz B;rw[Fb];simp only[tA,hu,j,hi];cases ρ l with
 |none=>rfl
 |some a=>
  cases ρ c with
  |none=>simp only[aA,CC,aEd];cases qI a<;>rfl
  |some b=>
   simp only[aA,CC];cases qI a with
   |none=>rfl
   |some n=>
    cases qI b with
    |none=>rfl
    |some m=>simp only[aA,j,hi,u,x,y,A,aAL,aBj,zh];cases (Nat.ble n m&&Nat.ble m 1000000)<;>rfl
theorem Vy f x:dB P X E ρ s (.makeFunc (.func f) #[] #[x]) K=ao (ρ x) fun a=>K (.fn f [] [a]) s:=by
 unfold dB;simp only[iW,bQ,dY];cases hx:ρ x with
 |none=>simp[hx,ao]
 |some a=>simp[hx,ao]
def kZ(ρ:Operand->Option AV)(pl:List (Nat×Nat)):List AV->List (Nat×Operand)->Option (List AV):=k8 ρ fun i=>pl[i]?
theorem zB pl c:kZ ρ pl c []=some c:=rfl
theorem xj(pl:List (Nat×Nat))(c:List AV)(i:Nat)(x:Operand)(ps:List (Nat×Operand)):kZ ρ pl c ((i,x)::ps)=match pl[i]?,ρ x with
  |some (off,n),some v=>cond (Nat.beq v.cells.length n&&Nat.ble (off+n) c.length) (kZ ρ pl (cz c off v.cells) ps) none
  |_,_=>none:=rfl
theorem zD pl c l:kZ ρ pl c (l.toArray).toList=kZ ρ pl c l:=rfl
theorem YT f x y:dB P X E ρ s (.makeFunc (.func f) #[] #[x,y]) K=ao (ρ x) fun a=>ao (ρ y) fun b=>K (.fn f [] [a,b]) s:=by
 unfold dB;simp only[iW,bQ,dY];cases hx:ρ x with
 |none=>simp[hx,ao]
 |some a=>
  cases hy:ρ y with
  |none=>simp[hx,hy,ao]
  |some b=>simp[hx,hy,ao]
theorem ZM{t z j pl}(u:bX P t=some z)(hu:P.underlying t=some (.struct j))(hp:mB P j.toList=some pl)ps: dB P X E ρ s (.build t ps) K=ao (kZ ρ pl z.cells ps.toList) fun c=>K (.agg c) s:=by rw[UL];simp only[dY,u,hu,hp];show ao ((kZ ρ pl z.cells ps.toList).map AV.agg) _=_;cases kZ ρ pl z.cells ps.toList<;>rfl
theorem ZL{t e z n}(hu:P.underlying t=some (.slice e))(N:bX P e=some z)(hn:bG P e=some n)(A:(Nat.beq z.cells.length n&&Nat.blt 0 n&&Nat.ble (1*n) (2^24))=true)x: dB P X E ρ s (.buildSlice t 1 #[(0,x)]) K=ao (ρ x) fun v=>ao (cond (Nat.beq v.cells.length n&&v.cells.all flat) (some ()) none) fun _=>K (.sl s.nx 0 1 1) (s.new (.cells v.cells e false)):=by
 have j:=A;simp only[gE]at j;obtain⟨⟨B,U⟩,Y⟩:=j;rw[sp];simp only[tA,hu,N,hn,A,EQ,k8];have hl:z.cells.length=n:=ID B;cases ρ x with
 |none=>rfl
 |some v=>
  simp only[aA,aCh,SK];by_cases y:v.cells.length=n
  ·have u:Nat.beq v.cells.length n=true:=by rw[aBc];exact y
   have J:(reps z.cells 1).length=n:=by simp[reps,hl]
   have C:Nat.ble n (reps z.cells 1).length=true:=aX (by omega);have hp:cz (reps z.cells 1) 0 v.cells=v.cells:=by
    apply aAa;intro i;rw[jo,J,y];by_cases hi:i<n
    ·rw[oR ⟨by omega,by omega,hi⟩];simp
    rw[iF (by omega),aCD (by omega),aCD (by omega)]
   rw[u,C,hp];simp only[aAL,EQ,CC];cases v.cells.all flat<;>rfl
  have u:Nat.beq v.cells.length n=false:=by
   cases h:Nat.beq v.cells.length n with
   |false=>rfl
   |true=>exact absurd (ID h) y
  rw[u];rfl
def YE(z:Nat)(e:TypeId)(s:St)(o n:Nat):Option AO->List AV->Option (AV×St)
 |some (.cells c e' _),new=>cond (Nat.beq c.length (n*z)&&Nat.beq e e'&&Nat.ble (n*z+z) 1000000) (some (.sl s.nx 0 (n+1) (bI+z),(s.drop o).new (.cells (c++new) e true))) none
 |_,_=>none
def Up(z:Nat):Option AO->Option (List AV)
 |some (.cells d _ _)=>(getR d 0 z).bind fun l=>cond (Nat.beq l.length z) (some l) none
 |_=>none
theorem WR{z e s o n c op new}(h:c.length=n*z)(j:n*z+z<=1000000):YE z e s o n (some (.cells c e op)) new=some (.sl s.nx 0 (n+1) (bI+z),(s.drop o).new (.cells (c++new) e true)):=by simp only[YE];rw[aX j,show Nat.beq c.length (n*z)=true by rw[aBc];exact h];simp
theorem Qx z d t op:Up z (some (.cells d t op))=(getR d 0 z).bind fun l=>cond (Nat.beq l.length z) (some l) none:=rfl
theorem l6{c:List AV}{n}(h:c.length=n):getR c 0 n=some c:=by subst h;exact getR_eq' c
where getR_eq':∀c:List AV,getR c 0 c.length=some c
 | []=>rfl
 |x::l=>by rw[On,Ap,getR_eq' l];rfl
theorem dW:1000000<bI:=by unfold bI;omega
theorem E0{t t' e z zv}(hu:P.underlying t=some (.slice e))(j:P.underlying t'=some (.slice e))(U:bX P e=some zv)(N:yd P e zv z=true)o s: gc P t t' .snil (.sl o 0 1 1) s=(Up z (s.h.get o)).map fun new=>(.sl s.nx 0 1 (bI+z),s.new (.cells new e true)):=by
 obtain⟨i,hi,A,B,u,C,rfl,y⟩:=kz N;have J:0<i.size:=by simpa [ON]using u
 unfold gc;simp only[hu,j,gM,hi,U,bV];cases s.h.get o with
 |none=>rfl
 |some x=>
  cases x with
  |cells d e' op=>
   simp only[Up,aBt];cases hg:getR d 0 i.size with
   |none=>rfl
   |some l=>
    have hl:=(g9 hg).1;have hm:Nat.ble ([]++l:List AV).length 1000000=true:=by rw[aAB,hl];exact y
    simp only[aAP,SK,hl,A,u,B,C,y,aAL,aBj,EQ,CC,gN,AC]
    rw[show Nat.beq i.size 0=false from by
     cases h:Nat.beq i.size 0 with
     |false=>rfl
     |true=>have:=ID h;omega,Nat.div_self J]
    rfl
  |_=>rfl
theorem Ka{t t' e z zv}(hu:P.underlying t=some (.slice e))(C:P.underlying t'=some (.slice e))(hz:bX P e=some zv)(hc:yd P e zv z=true)o J n cap(u:cap=bI+z)s{v s'}(h:((Up z (s.h.get J)).bind fun new=>YE z e s o n (s.h.get o) new)=some (v,s')):gc P t t' (.sl o 0 n cap) (.sl J 0 1 1) s=some (v,s'):=by
 obtain⟨i,hi,h1,h3,U,h4,rfl,h6⟩:=kz hc;have hb:0<i.size:=by simpa [ON]using U
 subst u;unfold gc;simp only[hu,C,gM,hi,hz,bV];cases hx:s.h.get J with
 |none=>rw[hx]at h;cases h
 |some x=>
  cases x with
  |cells d e' op=>
   simp only[hx,Up,aBt]at h⊢;cases hg:getR d 0 i.size with
   |none=>rw[hg]at h;cases h
   |some l=>
    have hl:=(g9 hg).1;simp only[hg,hl,CC,gN,EQ]at h;cases hy:s.h.get o with
    |none=>rw[hy]at h;cases h
    |some y=>
     rw[hy]at h;cases y with
     |cells c e2 op2=>
      simp only[YE]at h;obtain⟨j,h⟩:=ah h;cases h;simp only[gE]at j;obtain⟨⟨A,Z⟩,N⟩:=j;have A:=ID A;obtain rfl:=ID Z;have ad:n*i.size+i.size<=1000000:=by simpa [aAv]using N
      have B:getR c 0 (n*i.size)=some c:=l6 A;have Y:=dW;simp only[B,A,h1,U,h3,h4,hl,N,aAL,aBj,EQ,SK]
      rw[show Nat.blt (bI+i.size) bI=false from by
        cases h:Nat.blt (bI+i.size) bI with
        |false=>rfl
        |true=>rw[ON]at h;omega,
       show Nat.beq (bI+i.size) (bI+i.size)=true from gN _,
       show Nat.ble (n*i.size+i.size) (n*i.size)=false from by
        cases h:Nat.ble (n*i.size+i.size) (n*i.size)with
        |false=>rfl
        |true=>have:=nE h;omega,
       show Nat.beq e e=true from gN _,Nat.div_self hb]
      rfl
     |_=>cases h
  |_=>rw[hx]at h;cases h
def Qw(P:Program)(t t':TypeId)(o n cap o':Nat)(s:St):Option (AV×St):=gc P t t' (.sl o 0 n cap) (.sl o' 0 1 1) s
def YF(P:Program)(t t' e:TypeId)(z o n cap o':Nat)(s:St)(c:List AV):Option (List AV)->Option (AV×St)
 |some l=>cond (Nat.beq l.length z) (some (.sl s.nx 0 (n+1) (bI+z),(s.drop o).new (.cells (c++l) e true))) (Qw P t t' o n cap o' s)
 |none=>Qw P t t' o n cap o' s
def Xz(P:Program)(t t' e:TypeId)(z o n cap o':Nat)(s:St):Option AO->Option AO->Option (AV×St)
 |some (.cells c e' _),some (.cells d _ _)=>cond (Nat.beq c.length (n*z)&&Nat.beq e e'&&Nat.ble (n*z+z) 1000000) (YF P t t' e z o n cap o' s c (getR d 0 z)) (Qw P t t' o n cap o' s)
 |_,_=>Qw P t t' o n cap o' s
theorem E1 t t' e z o n cap j s c l:YF P t t' e z o n cap j s c (some l)=cond (Nat.beq l.length z) (some (.sl s.nx 0 (n+1) (bI+z),(s.drop o).new (.cells (c++l) e true))) (Qw P t t' o n cap j s):=rfl
theorem xO t t' e z o n cap j s{c op}d t2 op2(h:c.length=n*z)(u:n*z+z<=1000000):Xz P t t' e z o n cap j s (some (.cells c e op)) (some (.cells d t2 op2))=YF P t t' e z o n cap j s c (getR d 0 z):=by simp only[Xz];rw[aX u,show Nat.beq c.length (n*z)=true by rw[aBc];exact h,gN];rfl
theorem WQ{t t' e z zv}(hu:P.underlying t=some (.slice e))(u:P.underlying t'=some (.slice e))(C:bX P e=some zv)(B:yd P e zv z=true)o j n s:gc P t t' (.sl o 0 n (bI+z)) (.sl j 0 1 1) s=Xz P t t' e z o n (bI+z) j s (s.h.get o) (s.h.get j):=by
 unfold Xz;split
 ·next c x op d t2 J y A=>
  cases hb:(Nat.beq c.length (n*z)&&Nat.beq e x&&Nat.ble (n*z+z) 1000000)with
  |false=>rfl
  |true=>
   cases hg:getR d 0 z with
   |none=>rfl
   |some l=>
    simp only[YF,EQ];cases hl:Nat.beq l.length z with
    |false=>rfl
    |true=>exact Ka hu u C B o j n _ rfl s (by rw[y,A];simp only[Up,hg,CC,hl,EQ,YE,hb])
 rfl
theorem ZS:type_of% (aT @Vy (aT @DQ (aT @zB (aT @xj (aT @zD (aT @xO (aT @E1 @Qx))))))):=(aT @Vy (aT @DQ (aT @zB (aT @xj (aT @zD (aT @xO (aT @E1 @Qx)))))))
end
section
variable {P:Program}{f:FuncId}{n:Nat}{s:St}
theorem gW.x{K Q fr i}(h:Q (.exit i) fr s):gW K Q (.exit i) fr s:=h
theorem bW.norm{Q i fr}(h:Q .normal fr s):bW i Q .normal fr s:=h
theorem aw.c1{fn R l}{k:Tmp}{t p v}(j:fn.results=#[.cell k t])(hp:gG l k=some p)(u:ju P s t p=some v)(h:R v s):aw P fn R .ret ⟨f,n,Tr.of l,none,[]⟩ s:=by refine⟨trivial,rfl,[v],?_,h⟩;rw[j];simp only[nc,F7,Tr.of_get,hp,aCI,u,AC]
theorem aw.c2{fn R l}{k j:Tmp}{t p v u}(x:fn.results=#[.cell k t,.tmp j])(hp:gG l k=some p)(y:ju P s t p=some v)(hu:gG l j=some u)(h:R (.tup [v,u]) s):aw P fn R .ret ⟨f,n,Tr.of l,none,[]⟩ s:=by refine⟨trivial,rfl,[v,u],?_,h⟩;rw[x];simp only[nc,F7,Tr.of_get,hp,aCI,y,hu,AC]
end
end
section
def kU(P:Program)(t:TypeId)(es:List AE)(k:AV)(ok:Bool):Option AV:=
 match P.underlying t,gR k with
 |some (.map kt e),some q=>match gZ P kt q es with
  |some (some i)=>match es[i]? with
   |some e=>some (cond ok (.tup [e.val,.b true]) e.val)
   |none=>none
  |some none=>(bX P e).map fun v=>cond ok (.tup [v,.b false]) v
  |none=>none
 |_,_=>none
def SW(P:Program)(t:TypeId)(k:AV)(ok:Bool):Option AO->Option AV
 |some (.map es _)=>kU P t es k ok
 |_=>none
def KW(P:Program)(kt:TypeId)(es:List AE)(clock:Nat)(k v:AV):Option (List AE×Nat):=
 match gR k with
 |some q=>match gZ P kt q es with
  |some (some i)=>match es[i]? with
   |some e=>some (es.set i ⟨k,v,e.born⟩,clock)
   |none=>none
  |some none=>some (es++[⟨k,v,clock⟩],clock+1)
  |none=>none
 |none=>none
def Wa(P:Program)(s:St)(o:Nat)(kt:TypeId)(k v:AV):Option AO->Option St
 |some (.map es clock)=>(KW P kt es clock k v).map fun p=>s.set o (.map p.1 p.2)
 |_=>none
def MR(P:Program)(s:St)(t:TypeId)(m k v:AV):Option St:=match P.underlying t with
 |some (.map kt _)=>kq P s kt m k v
 |_=>none
def VZ(P:Program)(s:St)(t:TypeId)(x:AV):Option (AV×St):=match P.underlying t with
 |some (.map _ _)=>match x with
  | .mnil=>some (.ptr s.nx 0,s.new (.iter none 0 [] 0))
  | .fm ks vs=>some (.ptr s.nx 0,s.new (.walk [] ks vs))
  |_=>none
 |_=>none
section
variable {P:Program}{X:eC}{E:Ev}{ρ:Operand->Option AV}{s s':St}{K:AV->St->Prop}
theorem DH t o k ok:og P s t (.mp o) k ok=SW P t k ok (s.h.get o):=by
 have key:∀r:Option AO,(match P.underlying t,gR k with
   |some (.map kt e),some q=>match (match r with
     |some (.map es _)=>some es
     |_=>none)with
    |some es=>match gZ P kt q es with
     |some (some i)=>match es[i]? with
      |some e=>some (cond ok (.tup [e.val,.b true]) e.val)
      |none=>none
     |some none=>(bX P e).map fun v=>cond ok (.tup [v,.b false]) v
     |none=>none
    |none=>none
   |_,_=>none)=SW P t k ok r:=by
  intro r;unfold SW kU;cases P.underlying t with
  |none=>cases r with|none=>rfl|some y=>cases y<;>rfl
  |some d=>
   cases d<;>first|(cases r with|none=>rfl|some y=>cases y<;>rfl)|skip
   cases gR k with
   |none=>cases r with|none=>rfl|some y=>cases y<;>rfl
   |some q=>cases r with|none=>rfl|some y=>cases y<;>rfl
 exact key (s.h.get o)
theorem rI t j vs k ok:og P s t (.fm j vs) k ok=kU P t (Fn j vs) k ok:=rfl
theorem qq t k ok:og P s t .mnil k ok=kU P t [] k ok:=rfl
theorem Jq t k ok es c:SW P t k ok (some (.map es c))=kU P t es k ok:=rfl
theorem ze kt o k v:kq P s kt (.mp o) k v=Wa P s o kt k v (s.h.get o):=by
 have key:∀r:Option AO,(match gR k with
   |some q=>match r with
    |some (.map es clock)=>match gZ P kt q es with
     |some (some i)=>match es[i]? with
      |some e=>some (s.set o (.map (es.set i ⟨k,v,e.born⟩) clock))
      |none=>none
     |some none=>some (s.set o (.map (es++[⟨k,v,clock⟩]) (clock+1)))
     |none=>none
    |_=>none
   |none=>none)=Wa P s o kt k v r:=by
  intro r;cases r with
  |none=>cases gR k<;>rfl
  |some y=>
   cases y<;>first|(cases gR k<;>rfl;done)|skip
   rename_i es clock;show _=(KW P kt es clock k v).map fun p=>s.set o (.map p.1 p.2);unfold KW;cases gR k with
   |none=>rfl
   |some q=>
    simp only;cases gZ P kt q es with
    |none=>rfl
    |some r=>cases r with|none=>rfl|some i=>simp only;cases es[i]?<;>rfl
 unfold kq;rw[<-key];cases gR k<;>rfl
theorem IR o kt k v es c:Wa P s o kt k v (some (.map es c))=(KW P kt es c k v).map fun p=>s.set o (.map p.1 p.2):=rfl
theorem Rz{t kt e}(hu:P.underlying t=some (.map kt e))m k v:MR P s t m k v=kq P s kt m k v:=by simp only[MR,hu]
theorem Sa{t kt e}(hu:P.underlying t=some (.map kt e))j vs:VZ P s t (.fm j vs)=some (.ptr s.nx 0,s.new (.walk [] j vs)):=by simp only[VZ,hu]
theorem Fc t x k ok:dB P X E ρ s (.lookup t x k ok) K=ao (ρ x) fun a=>ao (ρ k) fun b=>ao (og P s t a b ok) fun v=>K v s:=by
 unfold dB;simp only[iW,bQ,dY];cases ρ x with
 |none=>rfl
 |some a=>
  cases ρ k with
  |none=>rfl
  |some b=>simp only[aA];cases og P s t a b ok<;>rfl
theorem uk t m k v:dB P X E ρ s (.mapUpdate t m k v) K=ao (ρ m) fun a=>ao (ρ k) fun b=>ao (ρ v) fun c=>ao (MR P s t a b c) fun s'=>K (.tup []) s':=by
 unfold dB;simp only[iW,bQ,iG,MR];cases ρ m with
 |none=>cases P.underlying t with|none=>rfl|some d=>cases d<;>rfl
 |some a=>
  cases ρ k with
  |none=>cases P.underlying t with|none=>rfl|some d=>cases d<;>rfl
  |some b=>
   cases ρ v with
   |none=>cases P.underlying t with|none=>rfl|some d=>cases d<;>rfl
   |some c=>
    simp only[aA];cases P.underlying t with
    |none=>rfl
    |some d=>cases d<;>first|rfl|(simp only;cases kq P s _ a b c<;>rfl)
theorem Ag t:dB P X E ρ s (.makeMap t none) K=K (.mp s.nx) (s.new (.map [] 0)):=rfl
variable {n:Nat}{gl:List (Option Tmp)}{ex:List (Nat×Nat)}{i:Nat}{T:Tr AV}{R:List (Nat×List Nat)}{W:List (Nat×St×St)}{k:List (Nat×List Nat)->List (Nat×St×St)->Prop}
def OY(s:St):AV->Option (List Nat)
 | .mp o=>(s.h.get o).map fun _=>[o]
 | .mnil=>some []
 | .fm _ _=>some []
 |_=>none
theorem Jo s o:OY s (.mp o)=(s.h.get o).map fun _=>[o]:=rfl
theorem DI s:OY s .mnil=some []:=rfl
theorem Jp s a b:OY s (.fm a b)=some []:=rfl
theorem za t x y ok:fB ex i (.lookup t x y ok) ρ s s' R W k=ao (ρ x) fun p=>ao (OY s p) fun ns=>Ms ex i ns W/\k ((i,ns)::R) W:=by
 unfold fB;simp only[cq,Fg];cases ρ x with
 |none=>rfl
 |some p=>cases p<;>rfl
theorem rx t x y z:fB ex i (.mapUpdate t x y z) ρ s s' R W k=(I3 ex i s s' R/\k R ((i,s,s')::W)):=rfl
def Zm(k:Nat):Operand:=.const (.int .i64 (k:Int))
def ρN:Operand->Option AV
 | .const (.int .i64 z)=>some (.i .i64 z)
 |_=>none
def kA(P:Program)(t:TypeId)(a:AV)(l:Nat)(h:Option Nat):Option AV:=eR P ρN t a (some (Zm l)) (h.map Zm) none
theorem jz d k:eI ρN d (some (Zm k))=some k:=rfl
theorem CQ{ρ ρ'}t a lo hi u j(hl:eI ρ 0 lo=eI ρ' 0 u)(hh:∀d,eI ρ d hi=eI ρ' d j):eR P ρ t a lo hi none=eR P ρ' t a u j none:=by have e:∀d,eI ρ d none=eI ρ' d none:=fun _=>rfl;unfold eR;simp only[hl,hh,e]
theorem qh{ρ}t a lo hi{l h}(hl:eI ρ 0 lo=some l)(hh:(hi=none/\h=none)∨∃y k,hi=some y/\h=some k/\(ρ y).bind qI=some k):eR P ρ t a lo hi none=kA P t a l h:=by
 refine CQ t a _ _ _ _ (hl.trans (jz 0 l).symm) fun d=>?_;rcases hh with⟨rfl,rfl⟩|⟨y,k,rfl,rfl,j⟩
 ·rfl
 exact j
theorem o8{ρ}t a lo hi(hl:eI ρ 0 lo=none):eR P ρ t a lo hi none=none:=by
 unfold eR;simp only[hl]
 (repeat' split)<;>first|rfl|contradiction|simp_all
theorem pa{ρ}t a lo y(hy:(ρ y).bind qI=none):eR P ρ t a lo (some y) none=none:=by
 have e:∀d,eI ρ d (some y)=none:=fun d=>hy;unfold eR;simp only[e]
 (repeat' split)<;>first|rfl|contradiction|simp_all
theorem Re t x y:dB P X E ρ s (.slice t x none (some y) none) K=ao (ρ x) fun a=>ao (ρ y) fun b=>ao (qI b) fun h=>ao (kA P t a 0 (some h)) fun v=>K v s:=by
 rw[Ck];simp only[dY,Option.isSome_some,Cc,EQ];cases ρ x with
 |none=>rfl
 |some a=>
  simp only[CC,aA];cases hy:ρ y with
  |none=>rw[pa t a none y (by rw[hy];rfl)];rfl
  |some b=>
   simp only[aA];cases hb:qI b with
   |none=>rw[pa t a none y (by rw[hy];exact hb)];rfl
   |some k=>rw[qh t a none (some y) (l:=0) (h:=some k) rfl (.inr ⟨y,k,rfl,rfl,by rw[hy];exact hb⟩)];simp only[aA]
theorem Kk t x z y:dB P X E ρ s (.slice t x (some z) (some y) none) K=ao (ρ x) fun a=>ao (ρ z) fun c=>ao (qI c) fun l=>ao (ρ y) fun b=>ao (qI b) fun h=>ao (kA P t a l (some h)) fun v=>K v s:=by
 rw[Ck];simp only[dY,Option.isSome_some,Cc,EQ];cases ρ x with
 |none=>rfl
 |some a=>
  simp only[CC,aA];cases hz:ρ z with
  |none=>rw[o8 t a (some z) (some y) (by simp only[eI,hz];rfl)];rfl
  |some c=>
   simp only[aA];cases hc:qI c with
   |none=>rw[o8 t a (some z) (some y) (by simp only[eI,hz];exact hc)];rfl
   |some l=>
    simp only[aA];cases hy:ρ y with
    |none=>rw[pa t a (some z) y (by rw[hy];rfl)];rfl
    |some b=>
     simp only[aA];cases hb:qI b with
     |none=>rw[pa t a (some z) y (by rw[hy];exact hb)];rfl
     |some k=>rw[qh t a (some z) (some y) (l:=l) (h:=some k) (by simp only[eI,hz];exact hc) (.inr ⟨y,k,rfl,rfl,by rw[hy];exact hb⟩)];simp only[aA]
theorem Rd t x z:dB P X E ρ s (.slice t x (some z) none none) K=ao (ρ x) fun a=>ao (ρ z) fun c=>ao (qI c) fun l=>ao (kA P t a l none) fun v=>K v s:=by
 rw[Ck];simp only[dY,aDQ,aBY,aAi,EQ];cases ρ x with
 |none=>rfl
 |some a=>
  simp only[CC,aA];cases hz:ρ z with
  |none=>rw[o8 t a (some z) none (by simp only[eI,hz];rfl)];rfl
  |some c=>
   simp only[aA];cases hc:qI c with
   |none=>rw[o8 t a (some z) none (by simp only[eI,hz];exact hc)];rfl
   |some l=>rw[qh t a (some z) none (l:=l) (h:=none) (by simp only[eI,hz];exact hc) (.inl ⟨rfl,rfl⟩)];simp only[aA]
theorem Ub{t e n z}(hu:P.underlying t=some (.array n e))(u:bG P e=some z)(hn:n<bI)o f l h:kA P t (.ptr o f) l (some h)=cond (Nat.ble l h&&Nat.ble h n&&(Nat.beq l 0 ||Nat.blt l n)) (some (.sl o (f+l*z) (h-l) (n-l))) none:=by unfold kA eR;simp only[hu,u,AC,jz];have j:Nat.ble n n=true:=aX (cC _);simp only[eI,j,dz hn,aBj]
theorem WH{t e z}(hu:P.underlying t=some (.slice e))(j:bG P e=some z)c n l h:kA P t (.vw c n) l (some h)=cond (Nat.ble l h&&Nat.ble h n) (some (.vw (c.drop (l*z)) (h-l))) none:=by unfold kA eR;simp only[hu,j,AC,jz]
theorem TW{t e z}(hu:P.underlying t=some (.slice e))(x:bG P e=some z)c n l:kA P t (.vw c n) l none=cond (Nat.ble l n) (some (.vw (c.drop (l*z)) (n-l))) none:=by have j:Nat.ble n n=true:=aX (cC _);have u:∀d,eI ρN d none=some d:=fun _=>rfl;unfold kA eR;simp only[hu,x,aCA,jz,u,j,aBj]
def Uc(P:Program)(s:St)(t:TypeId)(x y:AV):Option (AV×St):=match P.underlying t with
 |some (.slice e)=>oE P s e x y
 |_=>none
theorem Rf x y t t':dB P X E ρ s (.call ⟨.builtin .copy,#[x,y],#[t,t']⟩) K=ao (ρ x) fun a=>ao (ρ y) fun b=>ao (Uc P s t a b) fun p=>K p.1 p.2:=by
 unfold dB;simp only[iW,bQ,iG,Uc];cases hx:ρ x with
 |none=>simp[hx,ao]
 |some a=>
  cases hy:ρ y with
  |none=>simp[hx,hy,ao]
  |some b=>
   simp only[aBb,List.mapM_nil,hx,hy,aEk,aDK,CC,aA];cases P.underlying t with
   |none=>rfl
   |some d=>cases d<;>first|rfl|(simp only;cases oE P s _ a b<;>rfl)
theorem Jc xs j:fB ex i (.call ⟨.builtin .copy,xs,j⟩) ρ s s' R W k=(I3 ex i s s' R/\k R ((i,s,s')::W)):=rfl
theorem YW{t e z n}(hu:P.underlying t=some (.slice e))(A:bX P e=some z)(hn:bG P e=some n)m pl(u:∀j,j<m->pl[j]?=some (j*n,n))(y:(Nat.beq z.cells.length n&&Nat.blt 0 n&&Nat.ble (m*n) (2^24))=true)ps(x:ps.toList.all (fun p=>Nat.blt p.1 m)=true): dB P X E ρ s (.buildSlice t m ps) K=ao (kZ ρ pl (reps z.cells m) ps.toList) fun c=>ao (cond (c.all flat) (some ()) none) fun _=>K (.sl s.nx 0 m m) (s.new (.cells c e false)):=by
 have fill:∀(l:List (Nat×Operand))(c:List AV),l.all (fun p=>Nat.blt p.1 m)=true->k8 ρ (fun i=>some (i*n,n)) c l=kZ ρ pl c l:=by
  intro l
  induction l with
  |nil=>intro c _;rfl
  |cons p l ih=>
   intro c h;simp only[aAR,gE,ON]at h;simp only[kZ,k8,u p.1 h.1];cases ρ p.2 with
   |none=>rfl
   |some v=>
    simp only;cases (Nat.beq v.cells.length n&&Nat.ble (p.1*n+n) c.length)with
    |false=>rfl
    |true=>exact ih _ h.2
 rw[sp];simp only[tA,hu,A,hn,y,EQ];rw[fill _ _ x];cases kZ ρ pl (reps z.cells m) ps.toList with
 |none=>rfl
 |some c=>simp only[CC,aA];cases c.all flat<;>rfl
theorem Tn{t e n z}(hu:P.underlying t=some (.array n e))(u:bG P e=some z){i}(h:0<=i)(j:i.toNat<n)o f:s6 P t (.ptr o f) (.i .i64 i)=some (.ptr o (f+i.toNat*z)):=by unfold s6;rw[hu,sd h];simp only[u,dz j,EQ]
theorem V0{α}(z:List α):reps z 0=[]:=rfl
theorem F8{α}(z:List α)n:reps z (n+1)=z++reps z n:=rfl
end
theorem JQ j vs:flat (.fm j vs)=true:=rfl
theorem EP j vs:AV.cells (.fm j vs)=[.fm j vs]:=rfl
theorem zA:flat .mnil=true:=rfl
theorem xH:AV.cells .mnil=[.mnil]:=rfl
theorem ZR:type_of% (aT @DH (aT @rI (aT @qq (aT @Jq (aT @ze (aT @IR (aT @Jo (aT @DI (aT @Jp (aT @za (aT @rx (aT @JQ (aT @EP (aT @zA (aT @xH @Jc))))))))))))))):=aT @DH (aT @rI (aT @qq (aT @Jq (aT @ze (aT @IR (aT @Jo (aT @DI (aT @Jp (aT @za (aT @rx (aT @JQ (aT @EP (aT @zA (aT @xH @Jc))))))))))))))
theorem nC:type_of% (aT @Fc (aT @uk (aT @Ag (aT @Re (aT @Kk (aT @Rd @Rf)))))):=aT @Fc (aT @uk (aT @Ag (aT @Re (aT @Kk (aT @Rd @Rf)))))
end
abbrev ux(T:TypeId)(z:AV):Prop:=bG Tryz.prog T=some 1/\(∀(c:List AV)(o:Nat),iL Tryz.prog T c o=c[o]?)/\bX Tryz.prog T=some z/\∀(s:St)(v:AV)(o f:Nat),ke Tryz.prog s T v (.ptr o f)=Nf s 1 v o f (s.h.get o)
theorem uF{T:TypeId}{z:AV}(a:oh Tryz.prog T=some false:=by kernel_rfl)(b:bG Tryz.prog T=some 1:=by kernel_rfl)(c:bX Tryz.prog T=some z:=by kernel_rfl):ux T z:=⟨b,Od a,c,yN b⟩
abbrev Fa(T:TypeId)(n:Nat)(z:List AV):Prop:=bG Tryz.prog T=some n/\(∀(c:List AV)(o:Nat),iL Tryz.prog T c o=(getR c o n).map .agg)/\bX Tryz.prog T=some (.agg z)/\∀(s:St)(v:AV)(o f:Nat),ke Tryz.prog s T v (.ptr o f)=Nf s n v o f (s.h.get o)
theorem Ff{T:TypeId}{n:Nat}{z:List AV}(a:oh Tryz.prog T=some true:=by kernel_rfl)(b:bG Tryz.prog T=some n:=by kernel_rfl)(c:bX Tryz.prog T=some (.agg z):=by kernel_rfl):Fa T n z:=⟨b,Oe a b,c,yN b⟩
abbrev ul(T j off:Nat):Prop:=(∀(o f:Nat),yp Tryz.prog T j (.ptr o f)=some (.ptr o (f+off)))/\(∀(c:List AV)(f:Nat),yp Tryz.prog T j (.vp c f)=some (.vp c (f+off)))/\∀(l:List AV),LH Tryz.prog T j (.agg l)=l[off]?
abbrev Fm(T j off n:Nat):Prop:=(∀(o f:Nat),yp Tryz.prog T j (.ptr o f)=some (.ptr o (f+off)))/\(∀(c:List AV)(f:Nat),yp Tryz.prog T j (.vp c f)=some (.vp c (f+off)))/\∀(l:List AV),LH Tryz.prog T j (.agg l)=(getR l off n).map .agg
theorem uw{T j off:Nat}(a:∀(o f:Nat),yp Tryz.prog T j (.ptr o f)=some (.ptr o (f+off)):=by intros;kernel_rfl)(b:∀(c:List AV)(f:Nat),yp Tryz.prog T j (.vp c f)=some (.vp c (f+off)):=by intros;kernel_rfl)(d:∀(l:List AV),LH Tryz.prog T j (.agg l)=l[off]?:=by intros;kernel_rfl):ul T j off:=⟨a,b,d⟩
theorem GP{T j off n:Nat}(a:∀(o f:Nat),yp Tryz.prog T j (.ptr o f)=some (.ptr o (f+off)):=by intros;kernel_rfl)(b:∀(c:List AV)(f:Nat),yp Tryz.prog T j (.vp c f)=some (.vp c (f+off)):=by intros;kernel_rfl)(d:∀(l:List AV),LH Tryz.prog T j (.agg l)=(getR l off n).map .agg:=by intros;kernel_rfl):Fm T j off n:=⟨a,b,d⟩
abbrev Fk(T:TypeId)(pl:List (Nat×Nat))(z:List AV):Prop:=∀{X:eC}{E:Ev}{ρ:Operand->Option AV}{s:St}{K:AV->St->Prop}(ps:Array (Nat×Operand)),dB Tryz.prog X E ρ s (.build T ps) K=ao (kZ ρ pl z ps.toList) fun c=>K (.agg c) s
theorem GV{T:TypeId}{pl:List (Nat×Nat)}{z:List AV}{j:Array Field}(hu:Tryz.prog.underlying T=some (.struct j))(u:bX Tryz.prog T=some (.agg z):=by kernel_rfl)(hp:mB Tryz.prog j.toList=some pl:=by kernel_rfl):Fk T pl z:=fun ps=>ZM u hu hp ps
abbrev Kj(T E e:Nat):Prop:=(∀{z:Int}{n:Nat}(_:0<=z)(_:z.toNat<n)(o f c:Nat),s6 Tryz.prog T (.sl o f n c) (.i .i64 z)=some (.ptr o (f+z.toNat*e)))/\(∀{z:Int}{n:Nat}(_:0<=z)(_:z.toNat<n)(c:List AV),s6 Tryz.prog T (.vw c n) (.i .i64 z)=some (.vp c (z.toNat*e)))/\(∀{X:eC}{E:Ev}{ρ:Operand->Option AV}{s:St}{K:AV->St->Prop}(x:Operand),dB Tryz.prog X E ρ s (.call ⟨.builtin .len,#[x],#[T]⟩) K=ao (ρ x) fun a=>ao (Ls a) fun v=>K v s)/\Tryz.prog.underlying T=some (.slice E)
theorem KK{T E e:Nat}(hu:Tryz.prog.underlying T=some (.slice E):=by kernel_rfl)(hs:bG Tryz.prog E=some e:=by kernel_rfl):Kj T E e:=⟨fun h j o f c=>Tq hu hs h j o f c,fun h j c=>Tp hu hs h j c,fun x=>Xn hu x,hu⟩
abbrev Ki(T E e:Nat)(z:List AV):Prop:=(∀{X:eC}{F:Ev}{ρ:Operand->Option AV}{s:St}{K:AV->St->Prop}(l c:Operand),dB Tryz.prog X F ρ s (.makeSlice T l c) K=ao (ρ l) fun a=>ao (ρ c) fun b=>ao (qI a) fun l=>ao (qI b) fun c=>ao (zh l c) fun _=>K (.sl s.nx 0 l c) (s.new (.cells (reps z c) E false)))
 /\ (∀{X:eC}{F:Ev}{ρ:Operand->Option AV}{s:St}{K:AV->St->Prop}(x:Operand),dB Tryz.prog X F ρ s (.buildSlice T 1 #[(0,x)]) K=ao (ρ x) fun v=>ao (cond (Nat.beq v.cells.length e&&v.cells.all flat) (some ()) none) fun _=>K (.sl s.nx 0 1 1) (s.new (.cells v.cells E false)))
 /\ (∀(o:Nat)(s:St),gc Tryz.prog T T .snil (.sl o 0 1 1) s=(Up e (s.h.get o)).map fun new=>(.sl s.nx 0 1 (bI+e),s.new (.cells new E true)))
 /\ ∀(o o2 n:Nat)(s:St),gc Tryz.prog T T (.sl o 0 n (bI+e)) (.sl o2 0 1 1) s=Xz Tryz.prog T T E e o n (bI+e) o2 s (s.h.get o) (s.h.get o2)
theorem XO{T E e:Nat}v(hu:Tryz.prog.underlying T=some (.slice E))(j:bX Tryz.prog E=some v)(hs:bG Tryz.prog E=some e)(u:(Nat.beq v.cells.length e&&Nat.blt 0 e&&Nat.ble (1*e) (2^24))=true)(he:yd Tryz.prog E v e=true):Ki T E e v.cells:=⟨fun l c=>ZK hu j (nz:=e) he l c,fun x=>ZL hu j hs u x,fun o s=>E0 hu hu j he o s,fun o o2 n s=>WQ hu hu j he o o2 n s⟩
theorem VU{T E:Nat}{v:AV}(hu:Tryz.prog.underlying T=some (.slice E):=by kernel_rfl)(x:bX Tryz.prog E=some v:=by kernel_rfl)(hs:bG Tryz.prog E=some 1:=by kernel_rfl)(j:(Nat.beq v.cells.length 1&&Nat.blt 0 1&&Nat.ble (1*1) (2^24))=true:=by kernel_rfl)(he:yd Tryz.prog E v 1=true:=by kernel_rfl)(u:v.cells=[v]:=by kernel_rfl):Ki T E 1 [v]:=u▸XO v hu x hs j he
theorem Y3{T E e:Nat}{v:List AV}(hu:Tryz.prog.underlying T=some (.slice E):=by kernel_rfl)(u:bX Tryz.prog E=some (.agg v):=by kernel_rfl)(hs:bG Tryz.prog E=some e:=by kernel_rfl)(j:(Nat.beq v.length e&&Nat.blt 0 e&&Nat.ble (1*e) (2^24))=true:=by kernel_rfl)(he:yd Tryz.prog E (.agg v) e=true:=by kernel_rfl):Ki T E e v:=XO (.agg v) hu u hs j he
abbrev Mo(T E e:Nat):Prop:=(∀(c:List AV)(n l h:Nat),kA Tryz.prog T (.vw c n) l (some h)=cond (Nat.ble l h&&Nat.ble h n) (some (.vw (c.drop (l*e)) (h-l))) none)/\(∀(c:List AV)(n l:Nat),kA Tryz.prog T (.vw c n) l none=cond (Nat.ble l n) (some (.vw (c.drop (l*e)) (n-l))) none)/\∀(s:St)(x y:AV),Uc Tryz.prog s T x y=oE Tryz.prog s E x y
theorem Mr{T E e:Nat}(hu:Tryz.prog.underlying T=some (.slice E):=by kernel_rfl)(hs:bG Tryz.prog E=some e:=by kernel_rfl):Mo T E e:=⟨WH hu hs,TW hu hs,fun s x y=>by simp only[Uc,hu]⟩
abbrev Vt(T E e:Nat)(z:List AV):Prop:=∀{X:eC}{F:Ev}{ρ:Operand->Option AV}{s:St}{K:AV->St->Prop}(x y:Operand),dB Tryz.prog X F ρ s (.buildSlice T 2 #[(0,x),(1,y)]) K=ao (kZ ρ [(0,e),(e,e)] (reps z 2) [(0,x),(1,y)]) fun c=>ao (cond (c.all flat) (some ()) none) fun _=>K (.sl s.nx 0 2 2) (s.new (.cells c E false))
theorem ZQ{T E e:Nat}v(hu:Tryz.prog.underlying T=some (.slice E))(A:bX Tryz.prog E=some v)(hs:bG Tryz.prog E=some e)(u:(Nat.beq v.cells.length e&&Nat.blt 0 e&&Nat.ble (2*e) (2^24))=true):Vt T E e v.cells:=fun x y=>YW hu A hs 2 [(0,e),(e,e)] (fun j hj=>match j,hj with|0,_=>by simp|1,_=>by simp) u _ rfl
theorem XY{T E:Nat}{v:AV}(hu:Tryz.prog.underlying T=some (.slice E):=by kernel_rfl)(x:bX Tryz.prog E=some v:=by kernel_rfl)(hs:bG Tryz.prog E=some 1:=by kernel_rfl)(j:(Nat.beq v.cells.length 1&&Nat.blt 0 1&&Nat.ble (2*1) (2^24))=true:=by kernel_rfl)(u:v.cells=[v]:=by kernel_rfl):Vt T E 1 [v]:=u▸ZQ v hu x hs j
theorem sbA{T E e:Nat}{v:List AV}(hu:Tryz.prog.underlying T=some (.slice E):=by kernel_rfl)(u:bX Tryz.prog E=some (.agg v):=by kernel_rfl)(hs:bG Tryz.prog E=some e:=by kernel_rfl)(j:(Nat.beq v.length e&&Nat.blt 0 e&&Nat.ble (2*e) (2^24))=true:=by kernel_rfl):Vt T E e v:=ZQ (.agg v) hu u hs j
abbrev Z1(T E e k:Nat):Prop:=(∀{z:Int}(_:0<=z)(_:z.toNat<k)(o f:Nat),s6 Tryz.prog T (.ptr o f) (.i .i64 z)=some (.ptr o (f+z.toNat*e)))/\∀(o f l h:Nat),kA Tryz.prog T (.ptr o f) l (some h)=cond (Nat.ble l h&&Nat.ble h k&&(Nat.beq l 0 ||Nat.blt l k)) (some (.sl o (f+l*e) (h-l) (k-l))) none
theorem arP{T E e k:Nat}(u:k<bI:=by decide +kernel)(hu:Tryz.prog.underlying T=some (.array k E):=by kernel_rfl)(hs:bG Tryz.prog E=some e:=by kernel_rfl):Z1 T E e k:=⟨fun h j o f=>Tn hu hs h j o f,Ub hu hs u⟩
abbrev Xe(T A B:Nat):Prop:=Tryz.prog.underlying T=some (.map A B)/\(∀(s:St)(m k v:AV),MR Tryz.prog s T m k v=kq Tryz.prog s A m k v)/\∀(s:St)(ks vs:List AV),VZ Tryz.prog s T (.fm ks vs)=some (.ptr s.nx 0,s.new (.walk [] ks vs))
theorem Xw{T A B:Nat}(hu:Tryz.prog.underlying T=some (.map A B):=by kernel_rfl):Xe T A B:=⟨hu,fun _ m k v=>Rz hu m k v,fun _ ks vs=>Sa hu ks vs⟩
theorem Ir:ux 4 (.b false):=uF
theorem FD:ux 3 (.i .i64 0):=uF
theorem yF:ux 178 (.i .u32 0):=uF
theorem qV:ux 39 (.i .i64 0):=uF
theorem lP:ux 28 (.i .i64 0):=uF
theorem tI:Fa 31 3 [.b false,.snil,.snil]/\ul 31 0 0/\ul 31 1 1/\ul 31 2 2/\Fk 31 [(0,1),(1,1),(2,1)] [.b false,.snil,.snil]:=⟨Ff,uw,uw,uw,GV Tryz.underlying31⟩
theorem vC:Fa 45 7 [.i .i64 0,.i .i64 0,.i .i64 0,.i .i64 0,.b false,.snil,.snil]/\ul 45 0 0/\ul 45 1 1/\ul 45 2 2/\ul 45 3 3/\Fm 45 4 4 3/\Fk 45 [(0,1),(1,1),(2,1),(3,1),(4,3)] [.i .i64 0,.i .i64 0,.i .i64 0,.i .i64 0,.b false,.snil,.snil]:=⟨Ff,uw,uw,uw,uw,GP,GV Tryz.underlying45⟩
theorem tH:Fa 123 2 [.snil,.i .i64 0]/\ul 123 0 0/\ul 123 1 1/\Fk 123 [(0,1),(1,1)] [.snil,.i .i64 0]:=⟨Ff,uw,uw,GV Tryz.underlying123⟩
theorem tE:ux 29 .snil/\Kj 29 178 1:=⟨uF,KK⟩
theorem Cy:ux 51 .snil/\Ki 51 3 1 [.i .i64 0]/\Kj 51 3 1:=⟨uF,VU,KK⟩
theorem pN:ux 25 .snil/\Ki 25 123 2 [.snil,.i .i64 0]/\Kj 25 123 2:=⟨uF,Y3,KK⟩
theorem qT:Fa 27 3 [.i .i64 0,.i .i64 0,.snil]/\ul 27 0 0/\ul 27 1 1/\ul 27 2 2/\Fk 27 [(0,1),(1,1),(2,1)] [.i .i64 0,.i .i64 0,.snil]:=⟨Ff,uw,uw,uw,GV Tryz.underlying27⟩
theorem lw:ux 32 .snil/\Ki 32 31 3 [.b false,.snil,.snil]/\Kj 32 31 3:=⟨uF,Y3,KK⟩
theorem na:Fa 34 8 [.i .i64 0,.i .i64 0,.snil,.i .i64 0,.b false,.snil,.snil,.snil]/\Fm 34 0 0 3/\ul 34 1 3/\Fm 34 2 4 3/\ul 34 3 7/\Fk 34 [(0,3),(3,1),(4,3),(7,1)] [.i .i64 0,.i .i64 0,.snil,.i .i64 0,.b false,.snil,.snil,.snil]:=⟨Ff,GP,uw,GP,uw,GV Tryz.underlying34⟩
theorem qS:ux 22 .snil/\Ki 22 45 7 [.i .i64 0,.i .i64 0,.i .i64 0,.i .i64 0,.b false,.snil,.snil]/\Kj 22 45 7:=⟨uF,Y3,KK⟩
theorem nM:Fa 24 2 [.i .i64 0,.snil]/\ul 24 0 0/\ul 24 1 1/\Fk 24 [(0,1),(1,1)] [.i .i64 0,.snil]:=⟨Ff,uw,uw,GV Tryz.underlying24⟩
theorem yG:ux 148 .snil/\Ki 148 4 1 [.b false]/\Kj 148 4 1:=⟨uF,VU,KK⟩
theorem ZP:type_of% @Ir/\type_of% @FD/\type_of% @yF/\type_of% @qV/\type_of% @lP/\type_of% @tI/\type_of% @vC/\type_of% @tH/\type_of% @tE/\type_of% @Cy/\type_of% @pN/\type_of% @qT/\type_of% @lw/\type_of% @na/\type_of% @qS/\type_of% @nM/\type_of% @yG:=⟨Ir,FD,yF,qV,lP,tI,vC,tH,tE,Cy,pN,qT,lw,na,qS,nM,yG⟩
end Go.Proofs.YtfoceannfdbinaaGreat
