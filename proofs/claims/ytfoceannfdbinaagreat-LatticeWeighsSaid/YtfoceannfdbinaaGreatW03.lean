/- Lemmas. -/
import Derived.Test.YtfoceannfdbinaaGreatProg
import Derived.WalkKit
import Derived.Lib.Hide
import Derived.OrdersHeld
import Derived.Deep.RegionHeld3
import Derived.Maps.RangeWalk
import GoSem.Machine.Report
import GoSem.Machine.Return
import Derived.Maps.Keyed
import Derived.DeepKeys4
import Derived.WalkSpells
import Derived.Deep.Draws
import Derived.Deep.AppendLies
set_option linter.all false
set_option maxRecDepth 1000000
set_option maxHeartbeats 32000000
namespace Go.Proofs.YtfoceannfdbinaaGreat
abbrev aS:=@Lib.hid
abbrev aT:=@And.intro
abbrev bY:=@List.getElem?_eq_getElem
abbrev cC:=@Nat.le_refl
abbrev dO:=@List.getElem?_eq_some_iff
abbrev eM:=@List.getD_eq_getElem?_getD
abbrev eQ:=@List.mem_of_getElem?
abbrev gE:=@Bool.and_eq_true
abbrev gT:=@of_decide_eq_true
abbrev io:=@of_decide_eq_false
abbrev iD:=@Option.some.injEq
abbrev iF:=@if_neg
abbrev iN:=@Option.map_eq_some_iff
abbrev iO:=@Int.toNat_natCast
abbrev iS:=@decide_eq_false
abbrev lE:=@Nat.eq_zero_or_pos
abbrev lT:=@decide_eq_true
abbrev mT:=@List.getElem?_map
abbrev nE:=@Nat.le_of_ble_eq_true
abbrev oF:=@List.eq_nil_of_length_eq_zero
abbrev oR:=@if_pos
abbrev rW:=@List.cons.injEq
abbrev sK:=@run_underlying
abbrev sT:=@Option.bind_eq_some_iff
abbrev tK:=@List.mem_cons_of_mem
abbrev Ac:=@List.mem_map
abbrev As:=@List.getElem?_eq_none_iff
abbrev AC:=@Option.map_some
abbrev AS:=@List.drop_eq_nil_of_le
abbrev AT:=@List.drop_eq_getElem_cons
abbrev By:=@Nat.lt_or_ge
abbrev BY:=@Result.andThen_ok
abbrev Cc:=@Bool.true_or
abbrev CC:=@Option.bind_some
abbrev Do:=@List.mem_cons_self
abbrev Em:=@List.getElem?_cons_succ
abbrev EM:=@Nat.le_trans
abbrev EQ:=@cond_true
abbrev Ge:=@List.take_of_length_le
abbrev Gt:=@Prod.mk.injEq
abbrev If:=@Nat.lt_of_le_of_lt
abbrev Io:=@List.length_take
abbrev Is:=@List.mem_cons
abbrev ID:=@Nat.eq_of_beq_eq_true
abbrev IF:=@Array.getElem?_eq_some_iff
abbrev IN:=@bodyPost_ret
abbrev IS:=@decide_eq_true_eq
abbrev Le:=@Sem.run_bind
abbrev Lt:=@Nat.pow_succ
abbrev Mt:=@Nat.mul_le_mul_right
abbrev MT:=@List.getElem?_range
abbrev No:=@Nat.zero_le
abbrev NE:=@Bool.or_true
abbrev NO:=@Nat.sub_zero
abbrev Of:=@List.all_eq_true
abbrev On:=@List.length_cons
abbrev OF:=@List.map_cons
abbrev OK:=@Nat.pow_le_pow_right
abbrev ON:=@Nat.blt_eq
abbrev Rw:=@List.length_drop
abbrev RW:=@List.length_map
abbrev Sk:=@List.length_append
abbrev SK:=@Nat.zero_add
abbrev Tk:=@Nat.mul_le_mul_left
abbrev TK:=@Nat.lt_of_lt_of_le
abbrev TO:=@Option.some.inj
abbrev aAa:=@List.ext_getElem?
abbrev aAb:=@List.getElem?_cons_zero
abbrev aAc:=@List.mem_singleton
abbrev aAd:=@List.getElem?_append_right
abbrev aAe:=@List.map_append
abbrev aAf:=@congrArg
abbrev aAg:=@Nat.pow_pos
abbrev aAh:=@Nat.add_zero
abbrev aAi:=@Bool.false_or
abbrev aAj:=@cond_false
abbrev aAk:=@List.mem_range
abbrev aAl:=@Nat.add_mul
abbrev aAm:=@Nat.le_succ
abbrev aAn:=@Array.toArray_toList
abbrev aAo:=@Nat.add_assoc
abbrev aAp:=@List.getElem?_append_left
abbrev aAq:=@Int.natCast_mul
abbrev aAr:=@Sem.run_pure
abbrev aAs:=@decide_eq_false_iff_not
abbrev aAt:=@List.length_singleton
abbrev aAu:=@List.mem_iff_getElem?
abbrev aAv:=@Nat.ble_eq
abbrev aAw:=@IntWalk.i64_in
abbrev aAx:=@World.size_alloc
abbrev aAy:=@List.cons_append
abbrev aAz:=@List.getElem_mem
abbrev aAA:=@Bool.not_eq_true'
abbrev aAB:=@List.nil_append
abbrev aAC:=@List.mem_filter
abbrev aAD:=@Nat.add_sub_cancel
abbrev aAE:=@Nat.one_lt_two_pow
abbrev aAF:=@List.getElem?_set
abbrev aAG:=@List.map_map
abbrev aAH:=@List.flatMap_cons
abbrev aAI:=@List.pairwise_map
abbrev aAJ:=@List.forall_mem_cons
abbrev aAK:=@List.eq_of_mem_replicate
abbrev aAL:=@Bool.true_and
abbrev aAM:=@List.take_append_drop
abbrev aAN:=@List.mem_append
abbrev aAO:=@Nat.min_eq_left
abbrev aAP:=@List.length_nil
abbrev aAQ:=@List.drop_length
abbrev aAR:=@List.all_cons
abbrev aAS:=@Nat.sub_self
abbrev aAT:=@MapKept.run_getObj_map
abbrev aAU:=@Bool.or_eq_true
abbrev aAV:=@Nat.lt_succ_self
abbrev aAW:=@List.replicate_succ
abbrev aAX:=@List.take_add_one
abbrev aAY:=@Nat.add_sub_cancel_left
abbrev aAZ:=@Nat.mul_one
abbrev aBa:=@List.mem_of_mem_drop
abbrev aBb:=@List.mapM_cons
abbrev aBc:=@Nat.beq_eq
abbrev aBd:=@Bool.not_false
abbrev aBe:=@Nat.div_eq_of_lt
abbrev aBf:=@List.map_congr_left
abbrev aBg:=@Nat.mul_pos
abbrev aBh:=@if_true
abbrev aBi:=@Array.getElem?_toList
abbrev aBj:=@Bool.and_true
abbrev aBk:=@Bool.and_false
abbrev aBl:=@List.foldl_cons
abbrev aBm:=@Nat.mul_comm
abbrev aBn:=@info_parts
abbrev aBo:=@List.getElem?_drop
abbrev aBp:=@beq_iff_eq
abbrev aBq:=@Rat.sub_eq_add_neg
abbrev aBr:=@List.mem_of_mem_take
abbrev aBs:=@List.getElem?_replicate
abbrev aBt:=@Nat.one_mul
abbrev aBu:=@Bool.not_true
abbrev aBv:=@Nat.mod_lt
abbrev aBw:=@List.getElem_of_mem
abbrev aBx:=@List.nodup_cons
abbrev aBy:=@Nat.not_lt_zero
abbrev aBz:=@Array.getElem?_setIfInBounds_ne
abbrev aBA:=@List.mem_or_eq_of_mem_set
abbrev aBB:=@World.cell?_setCell_other
abbrev aBC:=@List.getElem?_toArray
abbrev aBD:=@List.getElem?_take
abbrev aBE:=@Nat.mod_eq_of_lt
abbrev aBF:=@Bool.false_eq_true
abbrev aBG:=@List.getElem?_take_of_lt
abbrev aBH:=@List.map_set
abbrev aBI:=@Option.isSome_iff_exists
abbrev aBJ:=@Int.le_of_lt
abbrev aBK:=@List.nodup_nil
abbrev aBL:=@Nat.lt_trichotomy
abbrev aBM:=@Nat.le_mul_of_pos_right
abbrev aBN:=@Int.eq_ofNat_of_zero_le
abbrev aBO:=@Bool.eq_iff_iff
abbrev aBP:=@Rat.intCast_natCast
abbrev aBQ:=@List.mem_map_of_mem
abbrev aBR:=@MapKept.run_setObj_map
abbrev aBS:=@List.filter_eq_nil_iff
abbrev aBT:=@Nat.pow_add
abbrev aBU:=@Bool.and_self
abbrev aBV:=@Int.natCast_ediv
abbrev aBW:=@Array.toList_map
abbrev aBX:=@Nat.mod_two_eq_zero_or_one
abbrev aBY:=@Option.isNone_none
abbrev aBZ:=@Bool.false_and
abbrev aCa:=@List.pairwise_cons
abbrev aCb:=@Array.getElem?_modify
abbrev aCc:=@List.set_append_right
abbrev aCd:=@Nat.div_add_mod
abbrev aCe:=@Nat.div_le_self
abbrev aCf:=@List.getElem?_set_ne
abbrev aCg:=@Nat.add_mul_div_left
abbrev aCh:=@Nat.zero_mul
abbrev aCi:=@CallsIn.mono
abbrev aCj:=@List.nodup_append
abbrev aCk:=@List.length_range
abbrev aCl:=@List.map_drop
abbrev aCm:=@Nat.lt_succ_iff_lt_or_eq
abbrev aCn:=@List.length_pos_iff
abbrev aCo:=@Nat.mul_le_mul
abbrev aCp:=@List.drop_zero
abbrev aCq:=@if_false
abbrev aCr:=@List.not_mem_nil
abbrev aCs:=@List.filter_cons_of_neg
abbrev aCt:=@List.filter_cons_of_pos
abbrev aCu:=@List.nodup_range
abbrev aCv:=@Int.le_refl
abbrev aCw:=@List.map_nil
abbrev aCx:=@List.getElem?_set_self
abbrev aCy:=@Nat.pos_of_ne_zero
abbrev aCz:=@Int.natCast_add
abbrev aCA:=@Option.map_none
abbrev aCB:=@Nat.div_lt_iff_lt_mul
abbrev aCC:=@List.length_replicate
abbrev aCD:=@List.getElem?_eq_none
abbrev aCE:=@World.ownsRow_nil
abbrev aCF:=@List.foldl_append
abbrev aCG:=@Decidable.not_not
abbrev aCH:=@List.getElem?_inj
abbrev aCI:=@List.foldl_nil
abbrev aCJ:=@List.drop_drop
abbrev aCK:=@Nat.mul_lt_mul_of_lt_of_le
abbrev aCL:=@Int.neg_mul
abbrev aCM:=@List.perm_ext_iff_of_nodup
abbrev aCN:=@decide_eq_decide
abbrev aCO:=@List.take_length
abbrev aCP:=@List.getLast?_eq_getElem?
abbrev aCQ:=@Array.mapM_eq_mapM_toList
abbrev aCR:=@List.drop_set_of_lt
abbrev aCS:=@run_firstCells_some
abbrev aCT:=@Rat.mkRat_add_mkRat
abbrev aCU:=@Int.natCast_pow
abbrev aCV:=@List.length_set
abbrev aCW:=@List.all_append
abbrev aCX:=@Nat.gcd_le_left
abbrev aCY:=@List.range_succ
abbrev aCZ:=@Nat.mul_div_cancel
abbrev aDa:=@Array.ext'
abbrev aDb:=@List.filter_append
abbrev aDc:=@Nat.sub_add_cancel
abbrev aDd:=@Nat.mul_div_cancel_left
abbrev aDe:=@Nat.gcd_pos_of_pos_left
abbrev aDf:=@List.eraseIdx_cons_succ
abbrev aDg:=@Nat.add_comm
abbrev aDh:=@Nat.le_of_lt
abbrev aDi:=@Nat.gcd_comm
abbrev aDj:=@callsIn_wide
abbrev aDk:=@Array.getElem?_append
abbrev aDl:=@Nat.gcd_dvd_left
abbrev aDm:=@List.filter_cons
abbrev aDn:=@Int.mul_le_mul_of_nonneg_right
abbrev aDo:=@Nat.mul_assoc
abbrev aDp:=@List.sum_cons
abbrev aDq:=@Nat.pow_mul
abbrev aDr:=@List.take_append_of_le_length
abbrev aDs:=@List.getElem?_append
abbrev aDt:=@List.contains_eq_mem
abbrev aDu:=@List.mem_append_left
abbrev aDv:=@Rat.div_def
abbrev aDw:=@List.getElem?_replicate_of_lt
abbrev aDx:=@List.drop_append_of_le_length
abbrev aDy:=@Rat.mul_pos
abbrev aDz:=@List.map_eq_cons_iff
abbrev aDA:=@Nat.mul_add_div
abbrev aDB:=@Nat.mul_add_mod
abbrev aDC:=@Int.natCast_sub
abbrev aDD:=@List.find?_cons
abbrev aDE:=@Nat.two_pow_pos
abbrev aDF:=@List.append_nil
abbrev aDG:=@Int.natCast_inj
abbrev aDH:=@List.take_replicate
abbrev aDI:=@List.getD_cons_zero
abbrev aDJ:=@Array.length_toList
abbrev aDK:=@Option.bind_eq_bind
abbrev aDL:=@Nat.succ_pos
abbrev aDM:=@heap_alloc_new
abbrev aDN:=@Nat.gcd_zero_right
abbrev aDO:=@decide_eq_true_iff
abbrev aDP:=@Int.natAbs_sign_of_ne_zero
abbrev aDQ:=@Option.isSome_none
abbrev aDR:=@Go.ChangeMaps.map_eraseIdx
abbrev aDS:=@Array.ext_getElem?
abbrev aDT:=@List.map_singleton
abbrev aDU:=@Nat.add_mul_mod_self_left
abbrev aDV:=@Option.isNone_iff_eq_none
abbrev aDW:=@Decidable.byContradiction
abbrev aDX:=@Rat.one_mul
abbrev aDY:=@Nat.gcd_dvd_right
abbrev aDZ:=@List.flatten_cons
abbrev aEa:=@Int.natCast_emod
abbrev aEb:=@Option.getD_some
abbrev aEc:=@List.range'_succ
abbrev aEd:=@Option.bind_none
abbrev aEe:=@List.ext_getElem
abbrev aEf:=@Nat.beq_refl
abbrev aEg:=@wpIn_block
abbrev aEh:=@Nat.mod_add_div
abbrev aEi:=@Exit.noGoto_ret
abbrev aEj:=@Nat.mul_eq_zero
abbrev aEk:=@Option.pure_def
abbrev aEl:=@wpIn_cond_false
abbrev aEm:=@Int.natAbs_mul
abbrev aEn:=@run_program
abbrev aEo:=@fenced_calm
abbrev aEp:=@wpIn_cond_true
abbrev aEq:=@Rat.mkRat_self
abbrev aEr:=@Int.add_mul
abbrev aEs:=@List.take_left
abbrev aEt:=@Ne.symm
open Go.RowKit
theorem tk{P md ops Q S}i{u}v{j listed a w}(hi:ops[i]?=some u)(x:(Region.noSelect ops&&Region.free md ops listed i&&(Region.ready md ops listed).contains i)=true)(A:Region.wanted u (yielded ops a.tmps)=true)(hS:S w)(hy:∀w',S w'->(execOp a.eval u).run P w'=.ok (.value v) w')(y:∀c a w,Q (.panic c) (a.put u.dst v) w->Q (.panic c) a w)(h:wpAnyH P md ops Q S j (listed.setIfInBounds i true) (a.put u.dst v) w):wpAnyH P md ops Q S (j+1) listed a w:=by simp only[gE]at x;exact wpAnyH_take hi x.1.1 x.1.2 x.2 y (Or.inl ⟨A,hy⟩) hS h
theorem sk{P md ops Q S}i{x j listed a w}(hi:ops[i]?=some x)(u:(Region.noSelect ops&&Region.free md ops listed i&&(Region.ready md ops listed).contains i)=true)(A:Region.wanted x (yielded ops a.tmps)=false)(hS:S w)(y:∀c a w,Q (.panic c) (a.put x.dst undef) w->Q (.panic c) a w)(h:wpAnyH P md ops Q S j (listed.setIfInBounds i true) (a.put x.dst undef) w):wpAnyH P md ops Q S (j+1) listed a w:=by simp only[gE]at u;exact wpAnyH_take hi u.1.1 u.1.2 u.2 y (Or.inr ⟨A,rfl⟩) hS h
abbrev eG:=@bY
abbrev gD:=@eM
abbrev nR:=@cC
abbrev dT:=@lT
abbrev dF:=@iS
abbrev zP:=@lE
abbrev sN:=@aCf
abbrev mG:=@eQ
abbrev sI:=@dO
abbrev aI:=@aT
abbrev lL:=@If
abbrev nI:=@As
abbrev tL:=@Ge
abbrev dN:=@AS
abbrev iI:=@aAw
def Hd(p:Prop):Prop:=p
theorem Hd.o{p}(h:Hd p):p:=h
theorem aH{p}(h:p):Hd p:=h
end Go.Proofs.YtfoceannfdbinaaGreat
namespace Go.Proofs.YtfoceannfdbinaaGreat
open Go.RowKit
section
inductive Tr(α:Type) where
 |nil
 |node (v:Option α) (l r:Tr α)
namespace Tr
variable {α:Type}
def get:Tr α->Nat->Option α
 | .nil,_=>none
 | .node v l r,k=>cond (Nat.beq k 0) v (cond (Nat.beq (k%2) 1) (l.get (k/2)) (r.get (k/2-1)))
def put(x:Option α):Nat->Tr α->Nat->Tr α
 |0,t,_=>t
 |f+1,.nil,k=>cond (Nat.beq k 0) (.node x .nil .nil) (cond (Nat.beq (k%2) 1) (.node none (put x f .nil (k/2)) .nil) (.node none .nil (put x f .nil (k/2-1))))
 |f+1,.node v l r,k=>cond (Nat.beq k 0) (.node x l r) (cond (Nat.beq (k%2) 1) (.node v (put x f l (k/2)) r) (.node v l (put x f r (k/2-1))))
def set(t:Tr α)(k:Nat)(x:Option α):Tr α:=put x (k+1) t k
def ofList(l:List α):Tr α:=(l.foldl (fun(p:Tr α×Nat) x=>(p.1.set p.2 (some x),p.2+1)) (.nil,0)).1
end Tr

inductive AV where
 |b (x:Bool)
 |i (k:IntKind) (n:Int)
 |ptr (o off:Nat)
 |pnil
 |sl (o off len cap:Nat)
 |snil
 |nat (o:Nat)
 |num (n:Nat)
 |vw (c:List AV) (n:Nat)
 |vp (c:List AV) (off:Nat)
 |fm (ks vs:List AV)
 |mp (o:Nat)
 |mnil
 |fn (f:FuncId) (fs cs:List AV)
 |yl (l:Nat)
 |fnil
 |ifc (t:TypeId) (v:AV)
 |inil
 |agg (l:List AV)
 |tup (l:List AV)
 deriving Inhabited

mutual
def same:AV->AV->Bool
 | .b x,.b y=>x == y
 | .i k n,.i k' n'=>k == k'&&n == n'
 | .ptr o f,.ptr o' f'=>Nat.beq o o'&&Nat.beq f f'
 | .pnil,.pnil=>true
 | .sl o f n c,.sl o' f' n' c'=>Nat.beq o o'&&Nat.beq f f'&&Nat.beq n n'&&Nat.beq c c'
 | .snil,.snil=>true
 | .nat o,.nat o'=>Nat.beq o o'
 | .num n,.num n'=>Nat.beq n n'
 | .vw c n,.vw c' n'=>jJ c c'&&Nat.beq n n'
 | .vp c n,.vp c' n'=>jJ c c'&&Nat.beq n n'
 | .fm a b,.fm a' b'=>jJ a a'&&jJ b b'
 | .mp o,.mp o'=>Nat.beq o o'
 | .mnil,.mnil=>true
 | .fn f a b,.fn f' a' b'=>Nat.beq f f'&&jJ a a'&&jJ b b'
 | .yl l,.yl l'=>Nat.beq l l'
 | .fnil,.fnil=>true
 | .ifc t v,.ifc t' v'=>Nat.beq t t'&&same v v'
 | .inil,.inil=>true
 | .agg l,.agg l'=>jJ l l'
 | .tup l,.tup l'=>jJ l l'
 |_,_=>false
def jJ:List AV->List AV->Bool
 | [],[]=>true
 |x::l,y::l'=>same x y&&jJ l l'
 |_,_=>false
end

def flat:AV->Bool
 | .agg _|.tup _|.i .u32 _=>false
 |_=>true

structure AE where
 key:AV
 val:AV
 born:Nat

inductive LS where
 |ready|busy|done|over

inductive AO where
 |cells (c:List AV) (t:TypeId) (op:Bool)
 |map (es:List AE) (clock:Nat)
 |iter (m:Option Nat) (since:Nat) (seen:List Nat) (stepped:Nat)
 |amap (I:List AE->Prop)
 |walk (cur ks vs:List AV)
 |loop (st:LS) (pe:Option Code) (fn:FuncId) (n:Nat) (T:Tr AV) (ps:List Tmp) (asn body:Code) (ds:Nat)
 |defs
 |nat (n:Nat)

structure St where
 h:Tr AO
 nx:Nat

structure Fr where
 fn:FuncId
 n:Nat
 T:Tr AV
 rd:Option Nat
 ms:List Nat

inductive Ex where
 |normal|exit (id:Nat)|ret

structure Ev where
 call:FuncId->List AV->St->Option (AV×St)
 code:Code->Fr->St->Option (Ex×Fr×St)

def bI:Nat:=2^63

def St.new(s:St)(o:AO):St:=⟨s.h.set s.nx (some o),s.nx+1⟩
def St.set(s:St)(k:Nat)(o:AO):St:=⟨s.h.set k (some o),s.nx⟩
def St.drop(s:St)(k:Nat):St:=⟨s.h.set k none,s.nx⟩

mutual
def bS:Value->Option AV
 | .bool x=>some (.b x)
 | .int k n=>some (.i k n)
 | .pointer none=>some .pnil
 | .slice none 0 0=>some .snil
 | .map none=>some .mnil
 | .nilFunc=>some .fnil
 | .nilIface=>some .inil
 | .agg ⟨l⟩=>(ip l).map .agg
 | .tuple ⟨[]⟩=>some (.tup [])
 |_=>none
def ip:List Value->Option (List AV)
 | []=>some []
 |v::l=>match bS v with
  |some x=>(ip l).map (x::·)
  |none=>none
end
def AH:AV->Option Value
 | .b x=>some (.bool x)
 | .i k n=>some (.int k n)
 |_=>none
def jO(P:Program){α:Type}:Sem α->Option α
 | .pure a=>some a
 | .program k=>jO P (k P)
 |_=>none

section
variable (P:Program)
def js(T:Tr AV):Operand->Option AV
 | .tmp t=>T.get t
 | .const v=>bS v
 | .global _=>none
 | .func f=>some (.fn f [] [])
def oh(t:TypeId):Option Bool:=
 match P.underlying t with
 |some (.struct _)=>some true
 |some (.array _ _)=>some true
 |some _=>some false
 |none=>none
def bG(t:TypeId):Option Nat:=(P.info? t).map (·.size)
def bX(t:TypeId):Option AV:=(P.info? t).bind fun i=>i.zero.bind bS
def AV.cells:AV->List AV
 | .agg l=>l
 |v=>[v]
def getR{α:Type}:List α->Nat->Nat->Option (List α)
 |_,_,0=>some []
 |l,off,n+1=>match l[off]? with
  |some x=>(getR l (off+1) n).map (x::·)
  |none=>none
def cz{α:Type}:List α->Nat->List α->List α
 |l,_,[]=>l
 |l,off,x::xs=>cz (l.set off x) (off+1) xs
def iL(t:TypeId)(l:List AV)(off:Nat):Option AV:=
 match oh P t,bG P t with
 |some true,some n=>(getR l off n).map .agg
 |some false,_=>l[off]?
 |_,_=>none
def ju(s:St)(t:TypeId):AV->Option AV
 | .ptr o off=>match s.h.get o with
  |some (.cells c _ _)=>iL P t c off
  |_=>none
 | .vp c off=>iL P t c off
 |_=>none
def ke(s:St)(t:TypeId)(v:AV):AV->Option St
 | .ptr o off=>match s.h.get o with
  |some (.cells c e op)=>match bG P t with
   |some n=>cond (Nat.beq v.cells.length n&&Nat.ble (off+n) c.length&&v.cells.all flat) (some (s.set o (.cells (cz c off v.cells) e op))) none
   |none=>none
  |_=>none
 |_=>none
def rN:List AV->Option (List Int)
 | []=>some []
 | .i .i64 n::l=>(rN l).map (n::·)
 |_=>none
def gR:AV->Option (Bool×List Int)
 | .i .i64 n=>some (false,[n])
 | .agg l=>(rN l).map fun l=>(true,l)
 |_=>none
def bZ(q:Bool×List Int):Value:=cond q.1 (.agg (q.2.map (Value.int .i64)).toArray) (.int .i64 (q.2.headD 0))
def jK(k:TypeId)(q:Bool×List Int):Bool:=(keyOf P k (bZ q)).isSome
def nh(k:TypeId):List AE->Option (List (Bool×List Int))
 | []=>some []
 |e::es=>match gR e.key with
  |some q=>cond (jK P k q) ((nh k es).map (q::·)) none
  |none=>none
def oo(q:Bool×List Int):List (Bool×List Int)->Nat->List Nat
 | [],_=>[]
 |x::xs,i=>cond (x.1 == q.1&&x.2 == q.2) (i::oo q xs (i+1)) (oo q xs (i+1))
def pS(k:TypeId):Bool:=
 match P.underlying k with
 |some (.int _)=>true
 |some (.array _ _)|some (.struct _)=>Nat.blt k P.types.size&&P.keyTypeAt 100 k
 |_=>false
def gZ(k:TypeId)(q:Bool×List Int)(es:List AE):Option (Option Nat):=
 cond (pS P k&&jK P k q) (match nh P k es with
 |some ks=>match oo q ks 0 with
  | []=>some none
  | [i]=>some (some i)
  |_=>none
 |none=>none) none
def Es(op:BinOp)(r:Bool):Option AV:=
 match op with
 | .eql=>some (.b r)
 | .neq=>some (.b !r)
 |_=>none
def lI(op:BinOp)(t:TypeId)(x y:AV):Option AV:=
 match x,y with
 | .i k a,.i k' b=>(jO P (binOp op t (.int k a) (.int k' b))).bind bS
 | .b a,.b b=>(jO P (binOp op t (.bool a) (.bool b))).bind bS
 |_,_=>match P.underlying t,x,y with
  |some (.pointer _),.pnil,.pnil|some (.slice _),.snil,.snil|some (.func _ _ _),.fnil,.fnil|some (.map _ _),.mnil,.mnil=>Es op true
  |some (.pointer _),.ptr ..,.pnil|some (.pointer _),.pnil,.ptr .. |some (.slice _),.sl ..,.snil|some (.slice _),.snil,.sl .. |some (.func _ _ _),.fn ..,.fnil|some (.func _ _ _),.fnil,.fn ..
  |some (.func _ _ _),.yl _,.fnil|some (.func _ _ _),.fnil,.yl _|some (.map _ _),.mp _,.mnil|some (.map _ _),.mnil,.mp _
  |some (.pointer _),.vp ..,.pnil|some (.pointer _),.pnil,.vp .. |some (.slice _),.vw _ (_+1),.snil|some (.slice _),.snil,.vw _ (_+1)
  |some (.map _ _),.fm _ _,.mnil|some (.map _ _),.mnil,.fm _ _=>Es op false
  |_,_,_=>none
def qI(x:AV):Option Nat:=
 match x with
 | .i .i64 n=>match n with
  | .ofNat k=>some k
  |_=>none
 |_=>none
def eI(ρ:Operand->Option AV)(d:Nat):Option Operand->Option Nat
 |none=>some d
 |some x=>(ρ x).bind qI
def eR(ρ:Operand->Option AV)(t:TypeId)(x:AV)(lo hi mx:Option Operand):Option AV:=
 match P.underlying t,x with
 |some (.slice e),.sl o off len cap=>
  match bG P e,eI ρ 0 lo,eI ρ len hi,eI ρ cap mx with
  |some z,some l,some h,some m=>
   cond (Nat.ble l h&&Nat.ble h len&&(mx.isNone ||(Nat.ble h m&&Nat.ble m len))&&Nat.ble len cap)
    (cond (mx.isNone&&Nat.ble bI cap)
     (cond (Nat.beq cap (bI+z)&&(Nat.beq l 0 ||Nat.blt l len)) (some (.sl o (off+l*z) (h-l) cap)) (cond (Nat.beq l len) (some (.vw [] 0)) none))
     (cond (Nat.beq l 0 ||Nat.blt l m) (some (.sl o (off+l*z) (h-l) (m-l))) none)) none
  |_,_,_,_=>none
 |some (.slice e),.vw c len=>
  match bG P e,eI ρ 0 lo,eI ρ len hi,mx with
  |some z,some l,some h,none=>cond (Nat.ble l h&&Nat.ble h len) (some (.vw (c.drop (l*z)) (h-l))) none
  |_,_,_,_=>none
 |some (.slice e),.snil=>
  match bG P e,eI ρ 0 lo,eI ρ 0 hi,eI ρ 0 mx with
  |some _,some 0,some 0,some 0=>some .snil
  |_,_,_,_=>none
 |some (.array n e),.ptr o off=>
  match bG P e,eI ρ 0 lo,eI ρ n hi,eI ρ n mx with
  |some z,some l,some h,some m=>cond (Nat.ble l h&&Nat.ble h m&&Nat.ble m n&&(Nat.beq l 0 ||Nat.blt l m)&&Nat.blt n bI) (some (.sl o (off+l*z) (h-l) (m-l))) none
  |_,_,_,_=>none
 |_,_=>none
def lH(t:TypeId)(f:Nat):Option Field:=
 match P.underlying t with
 |some (.struct fs)=>fs[f]?
 |_=>none
def Fn:List AV->List AV->List AE
 |k::ks,v::vs=>⟨k,v,0⟩::Fn ks vs
 |_,_=>[]
def og(s:St)(t:TypeId)(x k:AV)(ok:Bool):Option AV:=
 match P.underlying t,gR k with
 |some (.map kt e),some q=>
  match (match x with
   | .mnil=>some []
   | .mp o=>match s.h.get o with
    |some (.map es _)=>some es
    |_=>none
   | .fm ks vs=>some (Fn ks vs)
   |_=>none)with
  |some es=>match gZ P kt q es with
   |some (some i)=>match es[i]? with
    |some e=>some (cond ok (.tup [e.val,.b true]) e.val)
    |none=>none
   |some none=>(bX P e).map fun v=>cond ok (.tup [v,.b false]) v
   |none=>none
  |none=>none
 |_,_=>none
def Tb(s:St):AV->Option Nat
 | .sl _ _ n _=>some n
 | .vw _ n=>some n
 | .snil=>some 0
 | .mnil=>some 0
 | .fm ks _=>some ks.length
 | .mp o=>match s.h.get o with
  |some (.map es _)=>some es.length
  |_=>none
 |_=>none
def k8(ρ:Operand->Option AV)(pl:Nat->Option (Nat×Nat)):List AV->List (Nat×Operand)->Option (List AV)
 |c,[]=>some c
 |c,p::ps=>match pl p.1,ρ p.2 with
  |some (off,n),some v=>cond (Nat.beq v.cells.length n&&Nat.ble (off+n) c.length) (k8 ρ pl (cz c off v.cells) ps) none
  |_,_=>none
def mB:List Field->Option (List (Nat×Nat))
 | []=>some []
 |f::fs=>match bG P f.type with
  |some n=>(mB fs).map ((f.offset,n)::·)
  |none=>none
def dY(ρ:Operand->Option AV)(s:St)(o:Op):Option AV:=
 match o with
 | .move x|.assign x=>ρ x
 | .pick c a b=>match ρ c with
  |some (.b t)=>cond t (ρ a) (ρ b)
  |_=>none
 | .load t a=>(ρ a).bind (ju P s t)
 | .nilCheck x=>match ρ x with
  |some (.ptr o off)=>some (.ptr o off)
  |some (.vp c off)=>some (.vp c off)
  |some (.fn f fs cs)=>some (.fn f fs cs)
  |some (.yl l)=>some (.yl l)
  |_=>none
 | .binOp op t x y _=>match ρ x,ρ y with
  |some a,some b=>lI P op t a b
  |_,_=>none
 | .unOp op _ x=>(ρ x).bind fun a=>(AH a).bind fun v=>(jO P (Op.unary op v)).bind bS
 | .convert src dst x=>(ρ x).bind fun a=>match a with
  | .i k n=>(jO P (convert src dst (.int k n))).bind bS
  |_=>none
 | .makeInterface t x=>match P.underlying t with
  |some (.interface _)=>none
  |some _=>(ρ x).map (.ifc t)
  |none=>none
 | .makeFunc (.func f) fs cs=>(fs.toList.mapM ρ).bind fun fs=>(cs.toList.mapM ρ).map fun cs=>.fn f fs cs
 | .slice t x lo hi mx=>cond (hi.isSome ||mx.isNone) ((ρ x).bind fun a=>eR P ρ t a lo hi mx) none
 | .fieldAddr t x f=>match lH P t f,ρ x with
  |some fd,some (.ptr o off)=>match bG P fd.type with
   |some (_+1)=>some (.ptr o (off+fd.offset))
   |_=>none
  |some fd,some (.vp c off)=>match bG P fd.type with
   |some (_+1)=>some (.vp c (off+fd.offset))
   |_=>none
  |_,_=>none
 | .field t x f=>match lH P t f,ρ x with
  |some fd,some (.agg l)=>iL P fd.type l fd.offset
  |_,_=>none
 | .indexAddr t x ix=>match P.underlying t,ρ x,(ρ ix).bind qI with
  |some (.array n e),some (.ptr o off),some i=>match bG P e with
   |some z=>cond (Nat.blt i n) (some (.ptr o (off+i*z))) none
   |none=>none
  |some (.slice e),some (.sl o off n _),some i=>match bG P e with
   |some z=>cond (Nat.blt i n) (some (.ptr o (off+i*z))) none
   |none=>none
  |some (.array n e),some (.vp c off),some i=>match bG P e with
   |some z=>cond (Nat.blt i n) (some (.vp c (off+i*z))) none
   |none=>none
  |some (.slice e),some (.vw c n),some i=>match bG P e with
   |some z=>cond (Nat.blt i n) (some (.vp c (i*z))) none
   |none=>none
  |_,_,_=>none
 | .index t x ix=>match P.underlying t,ρ x,(ρ ix).bind qI with
  |some (.array n e),some (.agg l),some i=>match bG P e with
   |some z=>cond (Nat.blt i n) (iL P e l (i*z)) none
   |none=>none
  |_,_,_=>none
 | .lookup t x k ok=>match ρ x,ρ k with
  |some a,some b=>og P s t a b ok
  |_,_=>none
 | .typeAssert x _ t ok=>match P.underlying t,ρ x with
  |some (.interface _),_=>none
  |some _,some (.ifc t' v)=>cond (Nat.beq t t') (some (cond ok (.tup [v,.b true]) v)) none
  |_,_=>none
 | .extract x k=>match ρ x with
  |some (.tup l)=>l[k]?
  |_=>none
 | .entry it=>match ρ it with
  |some (.ptr o 0)=>match s.h.get o with
   |some (.walk [k,v] _ _)=>some (.tup [k,v])
   |some (.iter (some m) _ seen st)=>match s.h.get m with
    |some (.map es clock)=>match seen.getLast? with
     |some b=>cond (Nat.beq clock st) (match es.find? (fun e=>Nat.beq e.born b)with
      |some e=>some (.tup [e.key,e.val])
      |none=>none) none
     |none=>none
    |_=>none
   |_=>none
  |_=>none
 | .call { callee:=.builtin .len,args,argTypes }=>match argTypes.toList,args.toList with
  | [t],[x]=>match P.underlying t with
   |some (.array n _)=>some (.i .i64 n)
   |some (.slice _)=>match ρ x with
    |some (.sl _ _ n _)=>some (.i .i64 n)
    |some (.vw _ n)=>some (.i .i64 n)
    |some .snil=>some (.i .i64 0)
    |_=>none
   |some (.map _ _)=>match ρ x with
    |some (.mp o)=>(Tb s (.mp o)).map fun n=>.i .i64 n
    |some .mnil=>some (.i .i64 0)
    |some (.fm ks _)=>some (.i .i64 ks.length)
    |_=>none
   |_=>none
  |_,_=>none
 | .call { callee:=.builtin .cap,args,argTypes }=>match argTypes.toList,args.toList with
  | [t],[x]=>match P.underlying t with
   |some (.slice _)=>match ρ x with
    |some (.sl _ _ _ c)=>cond (Nat.blt c bI) (some (.i .i64 c)) none
    |some .snil=>some (.i .i64 0)
    |_=>none
   |_=>none
  |_,_=>none
 | .call { callee:=.builtin .min,args,argTypes }=>match args.toList.mapM ρ with
  |some [.i k a,.i k' b]=>cond (k == k') (some (.i k (cond (decide (b<a)) b a))) none
  |_=>none
 | .call { callee:=.builtin .max,args,argTypes }=>match args.toList.mapM ρ with
  |some [.i k a,.i k' b]=>cond (k == k') (some (.i k (cond (decide (b>a)) b a))) none
  |_=>none
 | .build t ps=>match bX P t,P.underlying t with
  |some z,some (.struct fs)=>match mB P fs.toList with
   |some pl=>(k8 ρ (fun i=>pl[i]?) z.cells ps.toList).map .agg
   |none=>none
  |some z,some (.array _ e)=>match bG P e with
   |some n=>(k8 ρ (fun i=>some (i*n,n)) z.cells ps.toList).map .agg
   |none=>none
  |_,_=>none
 |_=>none
def reps{α:Type}(z:List α):Nat->List α
 |0=>[]
 |n+1=>z++reps z n
def tA(ρ:Operand->Option AV)(o:Op):Option (AO×(Nat->AV)):=
 match o with
 | .alloc t=>(bX P t).bind fun z=>cond (z.cells.all flat) (some (.cells z.cells t false,fun k=>.ptr k 0)) none
 | .box t x=>(ρ x).bind fun v=>cond (v.cells.all flat) (some (.cells v.cells t false,fun k=>.ptr k 0)) none
 | .buildSlice t len ps=>match P.underlying t with
  |some (.slice e)=>match bX P e,bG P e with
   |some z,some n=>cond (Nat.beq z.cells.length n&&Nat.blt 0 n&&Nat.ble (len*n) (2^24))
     ((k8 ρ (fun i=>some (i*n,n)) (reps z.cells len) ps.toList).bind fun c=>cond (c.all flat) (some (.cells c e false,fun k=>.sl k 0 len len)) none) none
   |_,_=>none
  |_=>none
 | .makeMap _ none=>some (.map [] 0,fun k=>.mp k)
 | .makeMap t (some x)=>match P.underlying t,ρ x with
  |some (.map _ _),some (.i _ _)=>some (.map [] 0,fun k=>.mp k)
  |_,_=>none
 | .makeSlice t l c=>match P.underlying t,(ρ l).bind qI,(ρ c).bind qI with
  |some (.slice e),some l,some c=>match bX P e,P.info? e with
   |some z,some i=>cond (z.cells.all flat&&Nat.beq z.cells.length i.size&&Nat.blt 0 i.size&&Nat.ble l c&&Nat.ble c 1000000&&Nat.ble i.bytes 1000000)
     (some (.cells (reps z.cells c) e false,fun k=>.sl k 0 l c)) none
   |_,_=>none
  |_,_,_=>none
 |_=>none

def kq(s:St)(kt:TypeId)(m k v:AV):Option St:=
 match m,gR k with
 | .mp o,some q=>match s.h.get o with
  |some (.map es clock)=>match gZ P kt q es with
   |some (some i)=>match es[i]? with
    |some e=>some (s.set o (.map (es.set i ⟨k,v,e.born⟩) clock))
    |none=>none
   |some none=>some (s.set o (.map (es++[⟨k,v,clock⟩]) (clock+1)))
   |none=>none
  |_=>none
 |_,_=>none
def bV(s:St)(z:Nat):AV->Option (List AV)
 | .snil=>some []
 | .sl o off n _=>match s.h.get o with
  |some (.cells c _ _)=>getR c off (n*z)
  |_=>none
 | .vw c n=>(getR c 0 (n*z)).bind fun l=>cond (l.all flat) (some l) none
 |_=>none
def gM(s:St)(e:TypeId)(x y:AV):Option (AV×St):=
 match P.info? e,bX P e with
 |some i,some zv=>
  match bV s i.size x,bV s i.size y with
  |some old,some new=>
   cond (zv.cells.all flat&&Nat.blt 0 i.size&&Nat.beq zv.cells.length i.size&&Nat.ble (old.length+new.length) 1000000&&Nat.ble i.bytes 1000000)
   (match x with
   | .snil=>cond (Nat.beq new.length 0) (some (.snil,s)) (some (.sl s.nx 0 (new.length/i.size) (bI+i.size),s.new (.cells new e true)))
   | .sl o off n cap=>cond (Nat.blt cap bI)
    (cond (Nat.ble (n+new.length/i.size) cap)
     (match s.h.get o with
     |some (.cells c e' op)=>cond (Nat.ble (off+cap*i.size) c.length) (some (.sl o off (n+new.length/i.size) cap,s.set o (.cells (cz c (off+n*i.size) new) e' op))) none
     |_=>none)
     (some (.sl s.nx 0 (n+new.length/i.size) (bI+i.size),s.new (.cells (old++new) e true))))
    (cond (Nat.beq cap (bI+i.size))
     (match s.h.get o with
     |some (.cells c e' op)=>cond (Nat.ble (off+n*i.size+new.length) c.length)
       (some (.sl o off (n+new.length/i.size) cap,s.set o (.cells (cz c (off+n*i.size) new) e' op)))
       (cond (Nat.beq e e') (some (.sl s.nx 0 (n+new.length/i.size) cap,(s.drop o).new (.cells (old++new) e true))) none)
     |_=>none) none)
   |_=>none) none
  |_,_=>none
 |_,_=>none
def oE(s:St)(e:TypeId)(x y:AV):Option (AV×St):=
 match bG P e,x,y with
 |some z,.sl o off n _,.sl o' off' n' _=>
  match s.h.get o,s.h.get o' with
  |some (.cells c t op),some (.cells c' _ _)=>match getR c' off' (min n n'*z)with
   |some l=>cond (Nat.ble (off+l.length) c.length) (some (.i .i64 (min n n':Nat),s.set o (.cells (cz c off l) t op))) none
   |none=>none
  |_,_=>none
 |some z,.sl o off n _,.vw c' n'=>
  match s.h.get o,getR c' 0 (min n n'*z)with
  |some (.cells c t op),some l=>cond (Nat.ble (off+l.length) c.length&&l.all flat) (some (.i .i64 (min n n':Nat),s.set o (.cells (cz c off l) t op))) none
  |_,_=>none
 |_,_,_=>none
def eA(E:Ev)(l:Nat)(args:List AV)(s:St):Option (AV×St):=
 match s.h.get l with
 |some (.loop .ready pe fn n T ps asn body ds)=>
  cond (Nat.beq args.length ps.length&&ps.all fun t=>Nat.blt t n)
   (match E.code asn ⟨fn,n,(ps.zip args).foldl (fun T p=>T.set p.1 (some p.2)) T,some l,[]⟩ s with
   |some (.normal,fr,s1)=>
    match s1.h.get l with
    |some (.loop .ready pe1 fn1 n1 T1 ps1 asn1 body1 ds1)=>
     match E.code body fr (s1.set l (.loop .busy pe1 fn1 n1 T1 ps1 asn1 body1 ds1))with
     |some (ex,_,s2)=>
      match s2.h.get l with
      |some (.loop _ _ fn2 n2 T2 ps2 asn2 body2 ds2)=>
       match ex with
       | .normal=>some (.b true,s2.set l (.loop .ready none fn2 n2 T2 ps2 asn2 body2 ds2))
       | .ret=>some (.b false,s2.set l (.loop .done (some .ret) fn2 n2 T2 ps2 asn2 body2 ds2))
       | .exit id=>some (.b false,s2.set l (.loop .done (some (.exit id)) fn2 n2 T2 ps2 asn2 body2 ds2))
      |_=>none
     |none=>none
    |_=>none
   |_=>none) none
 |_=>none
inductive YK where
 |same|deref (t:TypeId)
structure eC where
 orc:FuncId->Option (List AV->St->Option (AV×St))
 meth:TypeId->String->Option (FuncId×YK)
def iG(X:eC)(E:Ev)(ρ:Operand->Option AV)(s:St)(o:Op):Option (AV×St):=
 match o with
 | .store t a v=>match ρ a,ρ v with
  |some a,some v=>(ke P s t v a).map fun s=>(.tup [],s)
  |_,_=>none
 | .mapUpdate t m k v=>match P.underlying t,ρ m,ρ k,ρ v with
  |some (.map kt _),some m,some k,some v=>(kq P s kt m k v).map fun s=>(.tup [],s)
  |_,_,_,_=>none
 | .mapEntry t m k=>match P.underlying t,ρ m,ρ k with
  |some (.map kt e),some (.mp o),some k=>match gR k,s.h.get o with
   |some q,some (.map es clock)=>match gZ P kt q es with
    |some (some i)=>match es[i]? with
     |some e=>some (.tup [e.val,.i .i64 e.born],s.set o (.map (es.set i ⟨k,e.val,e.born⟩) clock))
     |none=>none
    |some none=>match bX P e with
     |some z=>some (.tup [z,.i .i64 clock],s.set o (.map (es++[⟨k,z,clock⟩]) (clock+1)))
     |none=>none
    |none=>none
   |_,_=>none
  |_,_,_=>none
 | .entryStore _ m b v=>match ρ m,(ρ b).bind qI,ρ v with
  |some (.mp o),some b,some v=>match s.h.get o with
   |some (.map es clock)=>match es.findIdx? (fun e=>Nat.beq e.born b)with
    |some i=>match es[i]? with
     |some e=>some (.tup [],s.set o (.map (es.set i ⟨e.key,v,e.born⟩) clock))
     |none=>none
    |none=>none
   |_=>none
  |_,_,_=>none
 | .range t x=>match P.underlying t,ρ x with
  |some (.map _ _),some .mnil=>some (.ptr s.nx 0,s.new (.iter none 0 [] 0))
  |some (.map _ _),some (.fm ks vs)=>some (.ptr s.nx 0,s.new (.walk [] ks vs))
  |some (.map _ _),some (.mp o)=>match s.h.get o with
   |some (.map _ clock)=>some (.ptr s.nx 0,s.new (.iter (some o) clock [] clock))
   |_=>none
  |_,_=>none
 | .next it false=>match ρ it with
  |some (.ptr o 0)=>match s.h.get o with
   |some (.iter none _ _ _)=>some (.tup [.b false],s)
   |some (.walk _ [] [])=>some (.tup [.b false],s)
   |some (.iter (some m) since seen last)=>match s.h.get m with
    |some (.map es clock)=>
     cond (!seen.isEmpty && !es.isEmpty&&es.all fun e=>Nat.ble last e.born) none
     (match (es.filter fun e=>!seen.contains e.born)with
     | []=>some (.tup [.b false],s)
     | [e]=>cond (Nat.blt e.born since) (some (.tup [.b true,e.key,e.val],s.set o (.iter (some m) since (seen++[e.born]) clock))) none
     |_=>none)
    |_=>none
   |_=>none
  |_=>none
 | .call { callee:=.builtin .append,args,argTypes }=>match argTypes.toList,args.toList.mapM ρ with
  | [t,t'],some [x,y]=>match P.underlying t,P.underlying t' with
   |some (.slice e),some (.slice _)=>gM P s e x y
   |_,_=>none
  |_,_=>none
 | .call { callee:=.builtin .copy,args,argTypes }=>match argTypes.toList,args.toList.mapM ρ with
  | [t,_],some [x,y]=>match P.underlying t with
   |some (.slice e)=>oE P s e x y
   |_=>none
  |_,_=>none
 | .call { callee:=.value f,args,.. }=>match ρ f,args.toList.mapM ρ with
  |some (.fn f fs cs),some asn=>E.call f (fs++asn++cs) s
  |some (.yl l),some asn=>eA E l asn s
  |_,_=>none
 | .call { callee:=.invoke r m,args,.. }=>match ρ r,args.toList.mapM ρ with
  |some (.ifc t v),some asn=>match X.meth t m with
   |some (f,.same)=>E.call f (v::asn) s
   |some (f,.deref e)=>match ju P s e v with
    |some v=>E.call f (v::asn) s
    |none=>none
   |none=>none
  |_,_=>none
 |_=>none

inductive Kd where
 |rd|al|ef
def bQ:Op->Kd
 | .alloc _|.box .. | .buildSlice .. | .makeMap .. | .makeSlice ..=>.al
 | .store .. | .mapUpdate .. | .mapEntry .. | .entryStore .. | .range .. | .next ..=>.ef
 | .call { callee:=.builtin .append,.. }|.call { callee:=.builtin .copy,.. }|.call { callee:=.value _,.. }|.call { callee:=.invoke ..,.. }=>.ef
 |_=>.rd
def iW(X:eC)(E:Ev)(ρ:Operand->Option AV)(s:St)(o:Op):Option (AV×St):=
 match bQ o with
 | .rd=>(dY P ρ s o).map fun v=>(v,s)
 | .al=>(tA P ρ o).map fun p=>(p.2 s.nx,s.new p.1)
 | .ef=>iG P X E ρ s o
def iK(ops:List Oper)(T:Tr AV)(o:Oper):Option Bool:=
 match o.guard with
 |none=>some true
 |some (j,want)=>match (ops[j]?).bind (·.dst)with
  |some t=>match T.get t with
   |some (.b x)=>some (x == want)
   |some (.tup [])=>some false
   |_=>none
  |none=>none
def np(T:Tr AV)(n:Nat):Option Tmp->AV->Option (Tr AV)
 |none,_=>some T
 |some d,v=>cond (Nat.blt d n) (some (T.set d (some v))) none
def nr(X:eC)(E:Ev)(n:Nat)(all:List Oper):List Oper->Tr AV->St->Option (Tr AV×St)
 | [],T,s=>some (T,s)
 |o::os,T,s=>match iK all T o with
  |some true=>match iW P X E (js T) s o.op with
   |some (v,s')=>match np T n o.dst v with
    |some T'=>nr X E n all os T' s'
    |none=>none
   |none=>none
  |some false=>match np T n o.dst (.tup [])with
   |some T'=>nr X E n all os T' s
   |none=>none
  |none=>none
def lR(X:eC)(E:Ev)(n:Nat)(all:List Oper):List Oper->Tr AV->St->Option (List (Option AV×Tr AV×St)×Tr AV×St)
 | [],T,s=>some ([],T,s)
 |o::os,T,s=>match iK all T o with
  |some true=>match iW P X E (js T) s o.op with
   |some (v,s')=>match np T n o.dst v with
    |some T'=>match lR X E n all os T' s' with
     |some (l,r)=>some ((some v,T,s)::l,r)
     |none=>none
    |none=>none
   |none=>none
  |some false=>match np T n o.dst (.tup [])with
   |some T'=>match lR X E n all os T' s with
     |some (l,r)=>some ((none,T,s)::l,r)
     |none=>none
   |none=>none
  |none=>none

end

def Wo(M:Tr Nat)(i:Nat)(o:Oper):Option Nat:=
 o.after.toList.foldlM (fun m e=>cond (Region.binds .any e) (cond (Nat.blt e.on i) ((M.get e.on).map fun x=>m |||2^e.on |||x) none) (some m)) 0
def tY:List Oper->Nat->Tr Nat->Option (Tr Nat)
 | [],_,M=>some M
 |o::os,i,M=>match Wo M i o with
  |some m=>tY os (i+1) (M.set i (some m))
  |none=>none
def cE(o:Oper):Bool:=match bQ o.op with
 | .ef=>true
 |_=>false
def oe(all:List Oper)(o:Oper):List Tmp:=
 (o.op.operands.toList.filterMap fun|.tmp t=>some t|_=>none) ++
 (match o.guard with
  |some (g,_)=>((all[g]?).bind (·.dst)).toList
  |none=>[])
def qB:List Oper->Nat->List (Nat×Tmp)
 | [],_=>[]
 |o::os,i=>match o.dst with
  |some t=>(i,t)::qB os (i+1)
  |none=>qB os (i+1)
def lh:List Oper->Nat->List Nat
 | [],_=>[]
 |o::os,i=>cond (cE o) (i::lh os (i+1)) (lh os (i+1))
def pz(M:Tr Nat):List Nat->Bool
 |a::b::l=>(match M.get b with|some m=>m.testBit a|none=>false)&&pz M (b::l)
 |_=>true
def Sp(all:List Oper)(M:Tr Nat)(D:List (Nat×Tmp))(i:Nat)(o:Oper):Bool:=
 match M.get i with
 |some m=>D.all fun p=>(!(oe all o).contains p.2 ||m.testBit p.1 ||(match M.get p.1 with|some m'=>m'.testBit i|none=>false))&&(!(o.dst == some p.2) ||p.1 == i) 
 |none=>false
def IX(all:List Oper)(M:Tr Nat)(D:List (Nat×Tmp)):List Oper->Nat->Bool
 | [],_=>true
 |o::os,i=>Sp all M D i o&&IX all M D os (i+1)
def gA(ops:List Oper):Option (Tr Nat):=
 match tY ops 0 .nil with
 |some M=>cond (pz M (lh ops 0)&&IX ops M (qB ops 0) ops 0) (some M) none
 |none=>none
def cq:Op->Bool
 | .load .. | .lookup .. | .entry _=>true
 | .call { callee:=.builtin .len,.. }=>true
 |_=>false
def bM(fin:St)(h:Tr AO):List Oper->List (Option AV×Tr AV×St)->Tr AO
 |o::os,(some _,_,s)::tr=>match bQ o.op with
  | .al=>match tr with
   |(_,_,s')::_=>bM fin (h.set s.nx (s'.h.get s.nx)) os tr
   | []=>bM fin (h.set s.nx (fin.h.get s.nx)) os tr
  |_=>bM fin h os tr
 |_::os,_::tr=>bM fin h os tr
 |_,_=>h
def dP(M:Tr Nat)(fin:St):(prev:Nat)->List Oper->Nat->List (Option AV×Tr AV×St)->List (Nat×Nat×St)
 |prev,o::os,i,(_,_,s)::tr=>cond (cE o)
   ((prev,i,⟨bM fin s.h os tr,fin.nx⟩)::dP M fin ((M.get i).getD 0) os (i+1) tr)
   (dP M fin prev os (i+1) tr)
 |prev,_,i,_=>[(prev,i,fin)]
def fJ(P:Program)(M:Tr Nat)(ep:List (Nat×Nat×St)):List Oper->Nat->List (Option AV×Tr AV×St)->Bool
 |o::os,i,(some v,T,_)::tr=>
  (match bQ o.op with
  | .rd=>cond (cq o.op) (match M.get i with
   |some m=>ep.all fun p=>p.1.testBit i ||m.testBit p.2.1 ||(match dY P (js T) p.2.2 o.op with
    |some v'=>same v' v
    |none=>false)
   |none=>false) true
  |_=>true)&&fJ P M ep os (i+1) tr
 |_::os,i,_::tr=>fJ P M ep os (i+1) tr
 |_,_,_=>true
def ug(P:Program)(X:eC)(E:Ev)(n:Nat)(ops:List Oper)(T:Tr AV)(s:St):Option (Tr AV×St):=
 match gA ops with
 |some M=>match lR P X E n ops ops T s with
  |some (tr,T',s')=>cond (fJ P M (dP M s' 0 ops 0 tr) ops 0 tr) (some (T',s')) none
  |none=>none
 |none=>none

def dI(P:Program)(X:eC)(E:Ev)(c:Code)(fr:Fr)(s:St):Option (Ex×Fr×St):=
 match c with
 | .skip|.label _=>some (.normal,fr,s)
 | .ret=>some (.ret,fr,s)
 | .exit id=>some (.exit id,fr,s)
 | .seq a b=>match E.code a fr s with
  |some (.normal,fr,s)=>E.code b fr s
  |r=>r
 | .cond c a b=>match js fr.T c with
  |some (.b true)=>E.code a fr s
  |some (.b false)=>E.code b fr s
  |_=>none
 | .block id c=>match E.code c fr s with
  |some (.exit id',fr,s)=>cond (Nat.beq id' id) (some (.normal,fr,s)) (some (.exit id',fr,s))
  |r=>r
 | .loop c=>match E.code c fr s with
  |some (.normal,fr,s)=>E.code (.loop c) fr s
  |r=>r
 | .scope c=>E.code c fr s
 | .region _ ops draw=>match (match draw with
   |true=>ug P X E fr.n ops.toList fr.T s
   |false=>nr P X E fr.n ops.toList ops.toList fr.T s)with
  |some (T,s)=>some (.normal,{ fr with T },s)
  |none=>none
 | .rangeFunc f ps asn body=>
  match js fr.T f with
  |some (.fn g fs cs)=>
   match (match fr.rd with
    |some l=>match s.h.get l with
     |some (.loop _ _ _ _ _ _ _ _ ds)=>some (ds,fr,s)
     |_=>none
    |none=>some (s.nx,{ fr with ms:=s.nx::fr.ms },s.new .defs))with
   |some (ds,fr',s1)=>
    match E.call g (fs++.yl s1.nx::cs) (s1.new (.loop .ready none fr.fn fr.n fr.T ps.toList asn body ds))with
    |some (_,s2)=>match s2.h.get s1.nx with
     |some (.loop .busy ..)=>none
     |some (.loop _ pe fn n T ps asn body ds)=>
      match pe with
      |none=>some (.normal,fr',s2.set s1.nx (.loop .over pe fn n T ps asn body ds))
      |some .ret=>some (.ret,fr',s2.set s1.nx (.loop .over pe fn n T ps asn body ds))
      |some (.exit id)=>some (.exit id,fr',s2.set s1.nx (.loop .over pe fn n T ps asn body ds))
      |some _=>none
     |_=>none
    |none=>none
   |none=>none
  |_=>none
 |_=>none
def F7(P:Program)(T:Tr AV)(s:St):ResultVar->Option AV
 | .tmp t=>T.get t
 | .cell a t=>match T.get a with
  |some p=>ju P s t p
  |none=>none
def nc(P:Program)(T:Tr AV)(s:St):List ResultVar->Option (List AV)
 | []=>some []
 |r::rs=>match F7 P T s r with
  |some v=>(nc P T s rs).map (v::·)
  |none=>none
def jh(s:St):List Nat->Bool
 | []=>true
 |r::ms=>(match s.h.get r with|some .defs=>true|_=>false) && !ms.contains r&&jh s ms
def pY(P:Program)(X:eC)(E:Ev)(f:FuncId)(args:List AV)(s:St):Option (AV×St):=
 match X.orc f with
 |some g=>g args s
 |none=>match P.funcs[f]? with
  |some fn=>match fn.body with
   | some c=>cond (Nat.ble args.length fn.ntmps && !(fn.name == "runtime.NumGoroutine"))
    (match E.code c ⟨f,fn.ntmps,Tr.ofList args,none,[]⟩ s with
    |some (.exit _,_,_)=>none
    |some (_,fr,s1)=>cond (jh s1 fr.ms) (match nc P fr.T (fr.ms.foldl St.drop s1) fn.results.toList with
     |some [v]=>some (v,fr.ms.foldl St.drop s1)
     |some l=>some (.tup l,fr.ms.foldl St.drop s1)
     |none=>none) none
    |none=>none) none
   |none=>none
  |none=>none
def Ev.at_(P:Program)(X:eC):Nat->Ev
 |0=>⟨fun _ _ _=>none,fun _ _ _=>none⟩
 |k+1=>⟨pY P X (Ev.at_ P X k),dI P X (Ev.at_ P X k)⟩
end
end Go.Proofs.YtfoceannfdbinaaGreat
namespace Go.Proofs.YtfoceannfdbinaaGreat
open Go.RowKit
section
def Sl(w:World)(sz:Nat)(v:Value)(n:Nat)(xs:List Value):Prop:=
 xs.length=n*sz/\∃A c,v=.slice A n c/\n<=c/\c<=maxLen/\
  (0<n->∃b off,A=some ⟨b,off,none⟩/\b<w.heap.size/\∀j u,xs[j]?=some u->w.cell? ⟨b,off+j,none⟩=some u)

section
variable {w w':World}{sz n:Nat}{v:Value}{xs:List Value}

theorem Sl.below(h:Sl w sz v n xs)(x:Below w.heap.size w w'):Sl w' sz v n xs:=by obtain⟨y,A,c,B,C,J,N⟩:=h;refine⟨y,A,c,B,C,J,fun hn=>?_⟩;obtain⟨b,off,e,hlt,U⟩:=N hn;exact⟨b,off,e,TK hlt x.size,fun j u hu=>(x.cell (p:=⟨b,off+j,none⟩) hlt).trans (U j u hu)⟩

theorem Sl.drewN(h:Sl w sz v n xs)k:Sl (w.drewN k) sz v n xs:=h
theorem Sl.alloc(h:Sl w sz v n xs)o:Sl (w.alloc o) sz v n xs:=h.below ((Below.refl _ w).alloc (cC _) o)

theorem Sl.le(h:Sl w sz v n xs):n<=maxLen:=by obtain⟨_,_,_,_,j,u,_⟩:=h;omega

theorem Sl.nil_ w sz:Sl w sz (.slice none 0 0) 0 []:=⟨by simp,none,0,rfl,cC _,No _,fun h=>absurd h (by omega)⟩

theorem Sl.open_(h:Sl w sz v n xs):xs.length=n*sz/\∃A c,v=.slice A n c/\n<=c/\c<=maxLen /\ ((n=0/\xs=[])∨∃b off,A=some ⟨b,off,none⟩/\b<w.heap.size/\∀j u,xs[j]?=some u->w.cell? ⟨b,off+j,none⟩=some u):=by
 obtain⟨x,A,c,y,B,C,J⟩:=h;refine⟨x,A,c,y,B,C,?_⟩;rcases lE n with hn|hn
 ·subst hn;exact .inl ⟨rfl,oF (by simpa using x)⟩
 exact .inr (J hn)

theorem Sl.of_own{base e}(h:w.ownsRow base e sz v n xs):Sl w sz v n xs:=by
 have y:=h;obtain⟨A,B⟩:=h;refine⟨A,?_⟩;rcases B with⟨rfl,rfl⟩|⟨g,cap,x,rfl,U,J,hn,C,N,Y⟩
 ·exact⟨none,0,rfl,cC _,No _,fun h=>absurd h (by omega)⟩
 refine⟨_,cap,rfl,hn,C,fun _=>⟨g,0,rfl,(IF.1 J).1,fun j u hu=>?_⟩⟩;have:=y.cells (g:=g) rfl j u hu
 rwa [Addr.add_lit]at this
end

theorem a8{B a w}(h:Below B a w)n:Below B a (w.drewN n):=⟨h.os,h.tape,h.output,h.size,h.block⟩
theorem bh{w w' n}(h:Below (w.drewN n).heap.size (w.drewN n) w'):Below w.heap.size w w':=(a8 (Below.refl w.heap.size w) n).trans h

theorem ak{w w'}(h:Below w.drew.heap.size w.drew w'):Below w.heap.size w w':=⟨h.os,h.tape,h.output,h.size,h.block⟩

theorem az{B}w:Below B w w.drew:=⟨rfl,rfl,rfl,cC _,fun _ _=>rfl⟩

def cg(w:World)(g:Nat)(e:TypeId)(xs:List Value):Prop:=w.heap[g]?=some (.cells xs.toArray e (0,0))

section
variable {w w':World}{g:Nat}{e:TypeId}{xs:List Value}
theorem cg.lt(h:cg w g e xs):g<w.heap.size:=(IF.1 h).1
theorem cg.cell(h:cg w g e xs)i:w.cell? ⟨g,i,none⟩=xs[i]?:=by unfold cg at h;simp[World.cell?,h]
theorem cg.frozen(h:cg w g e xs)i:w.frozen? ⟨g,i,none⟩=false:=by unfold cg at h;simp[World.frozen?,h]
theorem cg.new(w:World)e xs:cg (w.alloc (.cells xs.toArray e)) w.heap.size e xs:=aDM w _
theorem cg.drewN(h:cg w g e xs)n:cg (w.drewN n) g e xs:=h
theorem cg.alloc(h:cg w g e xs)o:cg (w.alloc o) g e xs:=(Below.heap_alloc w o g h.lt).trans h
theorem cg.set_(h:cg w g e xs)i u:cg (w.setCell ⟨g,i,none⟩ u) g e (xs.set i u):=by unfold cg at h⊢;simp[World.setCell,aCb,h]
theorem cg.far(h:cg w g e xs){p}(hp:g≠p.block)u:cg (w.setCell p u) g e xs:=(Below.heap_setCell w p u g hp).trans h
theorem cg.below{B}(h:cg w g e xs)(j:Below B w w')(u:g<B):cg w' g e xs:=(j.block g u).trans h
theorem cg.below' (h:cg w g e xs)(j:Below w.heap.size w w'):cg w' g e xs:=h.below j h.lt
theorem cg.sl(h:cg w g e xs){sz n c}(hn:n*sz<=xs.length)(x:n<=c)(hm:c<=maxLen):Sl w sz (.slice (some ⟨g,0,none⟩) n c) n (xs.take (n*sz)):=by refine⟨by simp;omega,_,c,rfl,x,hm,fun _=>⟨g,0,rfl,h.lt,fun j u hu=>?_⟩⟩;rw[SK,h.cell];have y:=(dO.1 hu).1;simp at y;rw[aBG (by omega)]at hu;exact hu
theorem cg.own(h:cg w g e xs){base sz n}(j:base<=g)(hn:xs.length=n*sz)(hm:n<=maxLen):w.ownsRow base e sz (.slice (some ⟨g,0,none⟩) n n) n xs:= ⟨hn,.inr ⟨g,n,xs.toArray,rfl,j,h,cC _,hm,by simpa using hn,by rw[<-hn];simp⟩⟩
end

theorem GR z n:(madeCells #[z] n).toList=List.replicate n z:=by apply aAa;intro i;by_cases h:i<n<;>simp[madeCells,h,Nat.mod_one]

theorem yg{P}w base t ty e i z size bytes(ht:P.underlying t=some (.slice e))(hi:P.info? e=some i)(hz:i.zero=some z)(U:i.size=size)(am:i.bytes=bytes)(a0:z.cells.size=size)(av:0<size)v n xs(y:w.ownsRow base e size v n xs)x m news(hx:Sl w size x m news)(h1:∀u∈news,u.oneCell'=true)(al:n+m<=maxLen)(B:(n+m)*bytes<=140737488355328)(N:base<=w.heap.size): ∃Y w',(Builtin.append_ #[t,t] ty #[v,x]).run P w=.ok Y w'/\w'.ownsRow base e size Y (n+m) (xs++news)/\w.grownBy w' v.ownBlock /\ (Y.ownBlock=v.ownBlock∨Y.ownBlock=some w.heap.size):=by
 obtain⟨hl,A,c,rfl,a3,a2,hA⟩:=hx;cases A with
 |some ad=>
  have C:∀j u,news[j]?=some u->w.cell? (ad.add j)=some u:=by
   intro j u hu;rcases lE m with J|J
   ·subst J;have hn:news=[]:=oF (by simpa using hl);subst hn;simp at hu
   obtain⟨b,off,he,_,hc⟩:=hA J;injection he with he
   subst he;rw[Addr.add_lit];exact hc j u hu
  obtain⟨Y,w',Z,h2,h3,_,h5⟩:=run_append_own_at (P:=P) w base t ty e i z size bytes ht hi hz U am a0 av v n xs y ad m c news hl C h1 al B N;exact⟨Y,w',Z,h2,h3,h5⟩
 |none=>
  have hm:m=0:=by
   rcases lE m with J|J
   ·exact J
   obtain⟨_,_,he,_⟩:=hA J;cases he
  subst hm;have hn:news=[]:=oF (by simpa using hl);subst hn;refine⟨v,w,?_,by simpa using y,World.grownBy.refl w _,.inl rfl⟩;rcases y.2 with⟨rfl,rfl⟩|⟨g,cap,a1,rfl,_,_,an,_⟩
  ·simp[Builtin.append_,sK ht,sizeOf,typeInfo,hi,Builtin.lenOf,Builtin.firstCells]
  simp[Builtin.append_,sK ht,sizeOf,typeInfo,hi,Builtin.lenOf,Builtin.firstCells,an,storeCells]

theorem bz{P w ops rest o a Q}(Z:o.guard=none)s x t(ho:o.op=.call { callee:=.builtin .append,args:=#[s,x],argTypes:=#[t,t] })base e i z size bytes(ht:P.underlying t=some (.slice e))(hi:P.info? e=some i)(hz:i.zero=some z)(B:i.size=size)(Y:i.bytes=bytes)(al:z.cells.size=size)(ad:0<size)v n xs(hs:a.eval s=v)(J:w.ownsRow base e size v n xs)y m news(hx:a.eval x=y)(hr:Sl w size y m news)(h1:∀u∈news,u.oneCell'=true)(U:n+m<=maxLen)(j:(n+m)*bytes<=140737488355328)(A:base<=w.heap.size)(h:∀C w',w'.ownsRow base e size C (n+m) (xs++news)->w.grownBy w' v.ownBlock->(C.ownBlock=v.ownBlock∨C.ownBlock=some w.heap.size)->wpList P ops Q rest (a.put o.dst C) w'):wpList P ops Q (o::rest) a w:=by
 refine wpList_plain Z fun K hK=>?_;obtain⟨C,w',N,h2,h3,h4⟩:=yg (P:=P) w base t o.type e i z size bytes ht hi hz B Y al ad v n xs J y m news hr h1 U j A;unfold Oper.wp execOp;simp only[ho,resolve,invoke,builtin,Le,aAr,BY,List.map_toArray,OF,aCw,hs,hx,N];exact hK _ _ (h C w' h2 h3 h4)

theorem bH{P w ops rest o a Q}(hg:o.guard=none)l c t(x:o.op=Op.makeSlice t l c)e i z bytes(Y:P.underlying t=some (.slice e))(Z:P.info? e=some i)(h3:i.zero=some z)(h4:i.size=1)(h5:i.bytes=bytes)(h6:z.cells=#[z])B A L C(n:Nat)(hl:a.eval l=.int B L)(hc:a.eval c=.int A C)(hL:L=(n:Int))(hC:C=(n:Int))(J:bytes*n<=281474976710656)(N:n<=maxLen)(hK:∀w',cg w' w.heap.size e (List.replicate n z)->Below w.heap.size w w'->wpList P ops Q rest (a.put o.dst (.slice (some ⟨w.heap.size,0,none⟩) n n)) w'): wpList P ops Q (o::rest) a w:=by
 refine wpList_make_full w hg l c t x w.heap.size e i z 1 Y Z h3 h4 B A L C n hl hc hL hC (by rw[h5];exact J) N (cC _) fun w' j u=>?_;rw[h6]at j;refine hK w' ?_ ((Below.refl _ w).grown u (cC _) (by simp));obtain⟨ad,h|⟨g,cap,U,hv,_,hh,hn,_,al,y⟩⟩:=j
 ·cases h.1
 injection hv with hv1 hv2 hv3
 injection hv1 with hv1
 injection hv1 with hv1
 subst hv1;subst hv3;unfold cg;rw[hh];rw[aAZ,GR,Ge (by simp;omega)]at y;rw[<-y]

theorem jy w e xs:∃W,W=(w.alloc (.cells xs.toArray e))/\Hid (cg W (w.heap.size) e xs)/\Hid (Below w.heap.size w W)/\w.heap.size+1<=W.heap.size:=by exact⟨_,rfl,aS (cg.new w e xs),aS ((Below.refl _ w).alloc (cC _) _),by rw[aAx];omega⟩
theorem mb w e xs f j:∃W,W=(((w.alloc (.cells xs.toArray e))).alloc (.cells j.toArray f))/\Hid (cg W (w.heap.size) e xs)/\Hid (cg W (w.heap.size+1) f j)/\Hid (Below w.heap.size w W)/\w.heap.size+2<=W.heap.size:=by
 obtain⟨W,u,x,y,A⟩:=jy w e xs;have hs:W.heap.size=w.heap.size+1:=by rw[u];simp only[aAx]
 have a:=cg.new W f j;rw[hs]at a;exact⟨_,by rw[u],aS (x.out.alloc _),aS a,aS (y.out.alloc (by omega) _),by rw[aAx];omega⟩
theorem box3 w e xs f j g u:∃W,W=(((((w.alloc (.cells xs.toArray e))).alloc (.cells j.toArray f))).alloc (.cells u.toArray g))/\Hid (cg W (w.heap.size) e xs)/\Hid (cg W (w.heap.size+1) f j)/\Hid (cg W (w.heap.size+1+1) g u)/\Hid (Below w.heap.size w W)/\w.heap.size+3<=W.heap.size:=by
 obtain⟨W,x,y,A,B,C⟩:=mb w e xs f j;have hs:W.heap.size=w.heap.size+1+1:=by rw[x];simp only[aAx]
 have a:=cg.new W g u;rw[hs]at a;exact⟨_,by rw[x],aS (y.out.alloc _),aS (A.out.alloc _),aS a,aS (B.out.alloc (by omega) _),by rw[aAx];omega⟩
theorem YA w e xs f u g x h j:∃W,W=(((((((w.alloc (.cells xs.toArray e))).alloc (.cells u.toArray f))).alloc (.cells x.toArray g))).alloc (.cells j.toArray h))/\Hid (cg W (w.heap.size) e xs)/\Hid (cg W (w.heap.size+1) f u)/\Hid (cg W (w.heap.size+1+1) g x)/\Hid (cg W (w.heap.size+1+1+1) h j)/\Hid (Below w.heap.size w W)/\w.heap.size+4<=W.heap.size:=by
 obtain⟨W,y,A,B,C,J,N⟩:=box3 w e xs f u g x;have hs:W.heap.size=w.heap.size+1+1+1:=by rw[y];simp only[aAx]
 have a:=cg.new W h j;rw[hs]at a;exact⟨_,by rw[y],aS (A.out.alloc _),aS (B.out.alloc _),aS (C.out.alloc _),aS a,aS (J.out.alloc (by omega) _),by rw[aAx];omega⟩
end
section
theorem fi:(Tryz.prog.info? 178).map (fun i=>(i.zero,i.size,i.bytes))=some (some (.int .u32 0),1,4):=by kernel_rfl
theorem Lf w a n c:(binOp .eql 29 (.slice a n c) (.slice none 0 0)).run Tryz.prog w=.ok (.bool a.isNone) w:=Lib.run_eql_slice_nil w _ _ a n c 0 0 Tryz.underlying29
theorem Gj w a n c:(binOp .eql 190 (.slice a n c) (.slice none 0 0)).run Tryz.prog w=.ok (.bool a.isNone) w:=Lib.run_eql_slice_nil w _ _ a n c 0 0 Tryz.underlying190
theorem Sz w a n c:(binOp .eql 51 (.slice a n c) (.slice none 0 0)).run Tryz.prog w=.ok (.bool a.isNone) w:=Lib.run_eql_slice_nil w _ _ a n c 0 0 Tryz.underlying51
attribute [local go_sem] Lf Gj Sz

theorem BP w v n xs(hs:Sl w 1 v n xs)(h1:∀u∈xs,u.oneCell'=true)(hn:n<=17592186044416): Calls Tryz.prog 210 #[v] w fun e w'=>∃y,e=.returned y/\Sl w' 1 y n xs/\Below w.heap.size w w'/\∃base,w.heap.size<=base/\w'.ownsRow base 178 1 y n xs:=by
 obtain⟨U,A,c,rfl,am,al,Y⟩:=id hs;obtain⟨i0,hi,C,J,N⟩:=aBn fi;have HS:=aS hs;clear hs;have HA:=aS Y;clear Y;have Z:=aS U;clear U;cases A with
 |none=>
  have B:n=0:=by
   rcases lE n with h|h
   ·exact h
   obtain⟨_,_,he,_⟩:=HA.out h;cases he
  subst B;go_enter Tryz.func210,Tryz.ntmps210;go_wp2;go_ret;obtain rfl:xs=[]:=oF (by simpa using Z.out);exact⟨_,rfl,Sl.nil_ _ _,Below.refl _ _,_,cC _,aCE _ _ _ _⟩
 |some ad=>
  go_enter Tryz.func210,Tryz.ntmps210;go_wp2_with (at_builtin;refine bz rfl _ _ 29 rfl w.heap.size 178 i0 (.int .u32 0) 1 4 Tryz.underlying29 hi C J N rfl (by decide) _ _ _ rfl (World.ownsRow_made w #[] 0 (cC _) (No _) rfl) _ n xs rfl (HS.out.alloc _) h1 ?c1 ?c2 ?c3 ?_)
  case c1=>unfold maxLen;omega
  case c2=>omega
  case c3=>simp
  intro y w1 j x _;go_wp2;go_ret;exact⟨y,rfl,by simpa using Sl.of_own j,((Below.refl _ w).alloc (cC _) _).grown x (by simp) (by intro k hk;simp[Value.ownBlock]at hk;omega),_,cC _,by simpa using j⟩

theorem jk w v n xs(hs:Sl w 1 v n xs)(h1:∀u∈xs,u.oneCell'=true)(hn:n<=17592186044416): Calls Tryz.prog 181 #[v] w fun e w'=>∃y,e=.returned y/\Sl w' 1 y n xs/\Below w.heap.size w w'/\∃base,w.heap.size<=base/\w'.ownsRow base 178 1 y n xs:=by
 obtain⟨U,A,c,rfl,am,al,Y⟩:=id hs;obtain⟨i0,hi,C,J,N⟩:=aBn fi;have HS:=aS hs;clear hs;have HA:=aS Y;clear Y;have Z:=aS U;clear U;cases A with
 |none=>
  have B:n=0:=by
   rcases lE n with h|h
   ·exact h
   obtain⟨_,_,he,_⟩:=HA.out h;cases he
  subst B;go_enter Tryz.func181,Tryz.ntmps181;go_wp2;go_ret;obtain rfl:xs=[]:=oF (by simpa using Z.out);exact⟨_,rfl,Sl.nil_ _ _,Below.refl _ _,_,cC _,aCE _ _ _ _⟩
 |some ad=>
  go_enter Tryz.func181,Tryz.ntmps181;go_wp2_with (at_builtin;refine bz rfl _ _ 190 rfl w.heap.size 178 i0 (.int .u32 0) 1 4 Tryz.underlying190 hi C J N rfl (by decide) _ _ _ rfl (World.ownsRow_made w #[] 0 (cC _) (No _) rfl) _ n xs rfl (HS.out.alloc _) h1 ?c1 ?c2 ?c3 ?_)
  case c1=>unfold maxLen;omega
  case c2=>omega
  case c3=>simp
  intro y w1 j x _;go_wp2;go_ret;exact⟨y,rfl,by simpa using Sl.of_own j,((Below.refl _ w).alloc (cC _) _).grown x (by simp) (by intro k hk;simp[Value.ownBlock]at hk;omega),_,cC _,by simpa using j⟩
end
def val:List Nat->Nat
 | []=>0
 |d::l=>d+4294967296*val l

def Ok(l:List Nat):Prop:=∀d∈l,d<4294967296
def dQ(l:List Nat):Prop:=l.getLast?≠some 0

theorem Ok.nil:Ok []:=by simp[Ok]
theorem Ok.cons{d l}:Ok (d::l)↔d<4294967296/\Ok l:=by simp[Ok]
theorem Ok.append{a b}:Ok (a++b)↔Ok a/\Ok b:=by simp only[Ok,aAN];exact⟨fun h=>⟨fun d hd=>h d (.inl hd),fun d hd=>h d (.inr hd)⟩,fun h d hd=>hd.elim (h.1 d) (h.2 d)⟩
theorem Ok.take{l}(h:Ok l)k:Ok (l.take k):=fun d hd=>h d (aBr hd)
theorem Ok.drop{l}(h:Ok l)k:Ok (l.drop k):=fun d hd=>h d (aBa hd)
theorem Ok.get{l}(h:Ok l){k d:Nat}(hd:l[k]?=some d):d<4294967296:=h d (eQ hd)
theorem Ok.getD{l}(h:Ok l)k:l.getD k 0<4294967296:=by
 rw[eM];cases e:l[k]? with
 |none=>simp
 |some d=>simpa using h.get e
theorem Ok.replicate n:Ok (List.replicate n 0):=by intro d hd;rw[aAK hd];omega
theorem Ok.set{l}(h:Ok l)k d(hd:d<4294967296):Ok (l.set k d):=by
 intro x u;rcases aBA u with j|rfl
 ·exact h x j
 exact hd

theorem qe a b:val (a++b)=val a+4294967296^a.length*val b:=by
 induction a with
 |nil=>simp[val]
 |cons d a ih=>simp only[aAy,val,ih,On,Lt];grind

theorem Kx l(h:∀d∈l,d=0):val l=0:=by
 induction l with
 |nil=>rfl
 |cons d l ih=>simp only[val,h d (by simp),ih (fun x j=>h x (by simp[j]))]

theorem gy n:val (List.replicate n 0)=0:=Kx _ fun _ hd=>aAK hd

theorem gj l(h:Ok l):val l<4294967296^l.length:=by
 induction l with
 |nil=>simp[val]
 |cons d l ih=>rw[Ok.cons]at h;have:=ih h.2;have j:=h.1;have u:(val l+1)*4294967296<=4294967296^l.length*4294967296:=Mt _ this;simp only[val,On,Lt];omega

theorem jd l k(j:k<=l.length):val l=val (l.take k)+4294967296^k*val (l.drop k):=by
 conv=>lhs;rw[<-aAM k l]
 rw[qe,Io,aAO j]

theorem dX l d:val (l++[d])=val l+4294967296^l.length*d:=by simp[qe,val]

theorem Gc k:1<=4294967296^k:=aAg (by omega)

theorem dQ.ge{l}(h:dQ l)(hl:l≠[]):4294967296^(l.length-1)<=val l:=by
 obtain⟨a,d,rfl⟩:∃a d,l=a++[d]:=⟨l.dropLast,l.getLast hl,(List.dropLast_concat_getLast hl).symm⟩;have hd:d≠0:=by simpa [dQ]using h
 rw[dX];simp only[Sk,aAt,aAD];have:4294967296^a.length*1<=4294967296^a.length*d:=Tk _ (by omega);omega

theorem dQ.nil:dQ []:=by simp[dQ]
theorem dQ.val_zero{l}(h:dQ l)(j:val l=0):l=[]:=by
 by_cases hl:l=[]
 ·exact hl
 have:=h.ge hl;have:=Gc (l.length-1);omega
theorem dQ.eq_nil{l}(h:dQ l):val l=0↔l=[]:=⟨h.val_zero,fun e=>by subst e;rfl⟩

theorem cV{a b}(ha:Ok a)(u:dQ b)(h:a.length<b.length):val a<val b:=by
 have x:=gj a ha;have j:b≠[]:=fun e=>by subst e;simp at h
 have y:=u.ge j;have A:4294967296^a.length<=4294967296^(b.length-1):=OK (by omega) (by omega);omega

theorem Ok.eq_of_val{a b}(ha:Ok a)(j:Ok b)(hl:a.length=b.length)(h:val a=val b):a=b:=by
 induction a generalizing b with
 |nil=>cases b with
  |nil=>rfl
  |cons _ _=>simp at hl
 |cons x a ih=>cases b with
  |nil=>simp at hl
  |cons y b=>
   rw[Ok.cons]at ha j;simp only[val]at h;have B:=ha.1;have hy:=j.1;have u:x=y:=by omega
   have A:val a=val b:=by omega
   rw[u,ih ha.2 j.2 (by simpa using hl) A]

theorem dQ.eq_of_val{a b}(ha:Ok a)(j:Ok b)(u:dQ a)(x:dQ b)(h:val a=val b):a=b:=by
 rcases aBL a.length b.length with hl|hl|hl
 ·have:=cV ha x hl;omega
 ·exact Ok.eq_of_val ha j hl h
 have:=cV j u hl;omega

theorem dQ.length_le{l}(h:dQ l){k}(A:val l<2^k):32*l.length<=k+31:=by
 by_cases hl:l=[]
 ·subst hl;simp
 have j:=h.ge hl;have hp:0<l.length:=aCn.2 hl;have u:(4294967296:Nat)^(l.length-1)=2^(32*(l.length-1)):=by rw[aDq]
 rw[u]at j;have x:2^(32*(l.length-1))<2^k:=by omega
 have y:=(Nat.pow_lt_pow_iff_right (a:=2) (by omega)).1 x;omega

theorem aY{α:Type}(l:List α){k d}(h:l[k]?=some d):l.take (k+1)=l.take k++[d]:=by rw[aAX,h];rfl

def iC(l:List Nat)(k:Nat):Prop:=k<=l.length/\val (l.take k)=val l
theorem iC.start l:iC l l.length:=⟨cC _,by simp⟩
theorem iC.step{l k}(h:iC l (k+1))(hd:l[k]?=some 0):iC l k:=by refine⟨by have:=h.1;omega,?_⟩;rw[<-h.2,aY l hd,dX];simp
theorem iC.trim{l:List Nat}{k d}(hd:l[k]?=some d)(j:d≠0):dQ (l.take (k+1)):=by rw[aY l hd];simpa [dQ]using j

theorem bg(l:List Nat)k:val (l.take (k+1))=val (l.take k)+4294967296^k*l.getD k 0:=by
 rw[eM];cases e:l[k]? with
 |none=>have:=As.1 e;rw[Ge (by omega),Ge (by omega)];simp
 |some d=>have j:=(dO.1 e).1;rw[aY l e,dX,Io,aAO (by omega)];simp
theorem bk{l k}(h:l.length<=k):val (l.take k)=val l:=by rw[Ge h]

theorem fE(o:List Nat){k}(j:k<o.length)d:(o.set k d).take (k+1)=o.take k++[d]:=by rw[aY (d:=d) _ (by simp[j]),List.take_set_of_le (cC _)]
section
def dg(d:Nat):Value:=.int .u32 (d:Int)

theorem qC(l:List Nat):∀u∈l.map dg,u.oneCell'=true:=by intro u hu;obtain⟨_,_,rfl⟩:=Ac.1 hu;rfl

def cQ(w:World)(v:Value)(l:List Nat):Prop:=Sl w 1 v l.length (l.map dg)/\Ok l
def ae(w:World)(v:Value)(n:Nat):Prop:=∃l,cQ w v l/\dQ l/\val l=n

section
variable {w w':World}{v:Value}{l:List Nat}{n:Nat}
theorem cQ.below(h:cQ w v l)(j:Below w.heap.size w w'):cQ w' v l:=⟨h.1.below j,h.2⟩
theorem ae.below(h:ae w v n)(x:Below w.heap.size w w'):ae w' v n:=by obtain⟨l,j,u⟩:=h;exact⟨l,j.below x,u⟩
theorem cQ.alloc(h:cQ w v l)o:cQ (w.alloc o) v l:=⟨h.1.alloc o,h.2⟩
theorem ae.alloc(h:ae w v n)o:ae (w.alloc o) v n:=by obtain⟨l,j,u⟩:=h;exact⟨l,j.alloc o,u⟩
theorem ae.drewN(h:ae w v n)k:ae (w.drewN k) v n:=h
theorem ae.drew(h:ae w v n):ae w.drew v n:=h
theorem cQ.nil_ w:cQ w (.slice none 0 0) []:=⟨Sl.nil_ _ _,Ok.nil⟩
theorem ae.nil_ w:ae w (.slice none 0 0) 0:=⟨[],cQ.nil_ w,dQ.nil,rfl⟩
theorem cQ.open_(h:cQ w v l):Ok l/\∃A c,v=.slice A l.length c/\l.length<=c/\c<=9223372036854775807 /\ (l=[]∨∃b off,A=some ⟨b,off,none⟩/\b<w.heap.size/\∀(j d:Nat),l[j]?=some d->w.cell? ⟨b,off+j,none⟩=some (.int .u32 (d:Int))):=by
 obtain⟨u,x⟩:=h;obtain⟨_,A,c,rfl,C,hm,y⟩:=u.open_;refine⟨x,A,c,rfl,C,hm,?_⟩;rcases y with⟨_,h⟩|⟨b,off,rfl,B,h⟩
 ·exact .inl (by simpa using h)
 exact .inr ⟨b,off,rfl,B,fun j d hd=>h j _ (by rw[mT,hd];rfl)⟩
theorem Sl.cutHead{A c n k xs}(h:Sl w 1 (.slice A n c) n xs)(hk:k<=n):Sl w 1 (.slice A k c) k (xs.take k):=by obtain⟨Z,U,Y,x,h2,y,B⟩:=h;cases x;refine⟨by simp;omega,A,c,rfl,by omega,y,fun N=>?_⟩;obtain⟨b,off,rfl,C,J⟩:=B (by omega);exact⟨b,off,rfl,C,fun j u hu=>J j u (by rw[aBD]at hu;split at hu<;>simp_all)⟩
end

theorem cI{w wr}{A:Option Addr}{l n}(y:l=[]∨∃b off,A=some ⟨b,off,none⟩/\b<w.heap.size/\∀(j d:Nat),l[j]?=some d->w.cell? ⟨b,off+j,none⟩=some (.int .u32 (d:Int)))(hn:l.length=n)(B:Below w.heap.size w wr)k x(J:l.getD k 0=x): (k<n/\∃b off,A=some ⟨b,off,none⟩/\b<w.heap.size/\wr.cell? ⟨b,off+k,none⟩=some (.int .u32 (x:Int)))∨(n<=k/\x=0):=by
 subst J;rcases By k n with h|h
 ·left;rcases y with u|⟨b,off,u,hlt,C⟩
  ·subst u;simp at hn;omega
  refine⟨h,b,off,u,hlt,(B.cell (p:=⟨b,off+k,none⟩) hlt).trans (C k _ ?_)⟩;rw[eM,bY (by omega)];rfl
 right;refine⟨h,?_⟩;rw[eM,As.2 (by omega)];rfl
theorem cg.setDig{w}{g k r:Nat}{e}{o:List Nat}{E}(h:cg w g e (o.map dg))(j:E=(r:Int)):cg (w.setCell ⟨g,k,none⟩ (.int .u32 E)) g e ((o.set k r).map dg):=by rw[j,aBH];exact h.set_ k _
theorem cg.cellDig{w g k e}{o:List Nat}(h:cg w g e (o.map dg))(j:k<o.length):w.cell? ⟨g,k,none⟩=some (.int .u32 ((o.getD k 0:Nat):Int)):=by rw[h.cell,mT,eM,bY j];rfl
theorem cg.digAt{w g e o}(h:cg w g e (o.map dg))(u:Ok o){n c}(hn:o.length=n)(j:n<=c)(hm:c<=9223372036854775807):cQ w (.slice (some ⟨g,0,none⟩) n c) o:=by refine⟨?_,u⟩;have:=h.sl (sz:=1) (n:=n) (c:=c) (by simp;omega) j (by unfold maxLen;omega);rw[Ge (by simp;omega)]at this;rw[hn];exact this
def DB(w:World)(g:Nat)(o:List Nat):Prop:=∃e tail,cg w g e (o.map dg++tail)
section
variable {w w':World}{g:Nat}{o:List Nat}
theorem DB.of_blk{e}(h:cg w g e (o.map dg)):DB w g o:=⟨e,[],by simpa using h⟩
theorem DB.lt(h:DB w g o):g<w.heap.size:=by obtain⟨_,_,h⟩:=h;exact h.lt
theorem DB.below(h:DB w g o)(j:Below w.heap.size w w'):DB w' g o:=by obtain⟨e,t,h⟩:=h;exact⟨e,t,h.below' j⟩
theorem DB.drewN(h:DB w g o)n:DB (w.drewN n) g o:=h
theorem DB.alloc(h:DB w g o)x:DB (w.alloc x) g o:=by obtain⟨e,t,h⟩:=h;exact⟨e,t,h.alloc x⟩
theorem DB.set(h:DB w g o){k r:Nat}{E}(u:k<o.length)(j:E=(r:Int)):DB (w.setCell ⟨g,k,none⟩ (.int .u32 E)) g (o.set k r):=by obtain⟨e,t,h⟩:=h;refine⟨e,t,?_⟩;have:=h.set_ k (.int .u32 E);rw[List.set_append_left _ _ (by simpa using u)]at this;rw[aBH,dg,<-j];exact this
theorem DB.cell(h:DB w g o){k}(j:k<o.length):w.cell? ⟨g,k,none⟩=some (.int .u32 ((o.getD k 0:Nat):Int)):=by obtain⟨e,t,h⟩:=h;rw[h.cell,aAp (by simpa using j),mT,eM,bY j];rfl
theorem DB.frozen(h:DB w g o)k:w.frozen? ⟨g,k,none⟩=false:=by obtain⟨e,t,h⟩:=h;exact h.frozen k
theorem DB.digAt(h:DB w g o)(u:Ok o){n c}(hn:o.length=n)(j:n<=c)(hm:c<=9223372036854775807):cQ w (.slice (some ⟨g,0,none⟩) n c) o:=by obtain⟨e,t,h⟩:=h;refine⟨?_,u⟩;have:=h.sl (sz:=1) (n:=n) (c:=c) (by simp;omega) j (by unfold maxLen;omega);rw[aDr (by simp;omega),Ge (by simp;omega)]at this;rw[hn];exact this
def OD(w:World)(base:Nat)(A:Option Addr)(o:List Nat):Prop:=o=[]∨∃g,A=some ⟨g,0,none⟩/\base<=g/\DB w g o
theorem OD.of_own{base e v n}(h:w.ownsRow base e 1 v n (o.map dg)):∃A c,v=.slice A n c/\n<=c/\c<=9223372036854775807/\o.length=n/\OD w base A o:=by
 obtain⟨u,⟨rfl,rfl⟩|⟨g,cap,j,rfl,x,hh,hn,y,_,B⟩⟩:=h
 ·exact⟨none,0,rfl,cC _,by omega,by simpa using u,.inl (by simpa using u)⟩
 refine⟨_,cap,rfl,hn,by unfold maxLen at y;omega,by simpa using u,.inr ⟨g,rfl,x,e,j.toList.drop (n*1),?_⟩⟩;rw[<-B,aAM];exact hh
theorem OD.at_{base A}(h:OD w base A o){k}(j:k<o.length):∃g,A=some ⟨g,0,none⟩/\base<=g/\DB w g o:=by
 rcases h with rfl|h
 ·simp at j
 exact h
theorem OD.digAt{base A}(h:OD w base A o)(u:Ok o){n c}(hn:o.length=n)(j:n<=c)(hm:c<=9223372036854775807):cQ w (.slice A n c) o:=by
 rcases h with rfl|⟨g,rfl,_,h⟩
 ·simp at hn;subst hn;exact⟨⟨by simp,A,c,rfl,j,by unfold maxLen;omega,fun h=>absurd h (by simp)⟩,u⟩
 exact h.digAt u hn j hm
theorem OD.below{base A}(h:OD w base A o)(y:Below w.heap.size w w'):OD w' base A o:=by
 rcases h with h|⟨g,j,u,x⟩
 ·exact .inl h
 exact .inr ⟨g,j,u,x.below y⟩
end
theorem gn{k a b}(h:a=b):Value.int k a=Value.int k b:=by rw[h]

def bP(v:Value)(B:Nat):Prop:=∀ad n c,v=.slice (some ad) n c->B<=ad.block
theorem bP.mono{v B B'}(h:bP v B)(u:B'<=B):bP v B':=fun j n c e=>EM u (h j n c e)
theorem bP.nil_ B:bP (.slice none 0 0) B:=fun _ _ _ e=>by cases e
theorem bP.of_own{w:World}{base e sz v n xs}(h:w.ownsRow base e sz v n xs):bP v base:=by
 obtain⟨_,⟨rfl,_⟩|⟨g,cap,u,rfl,x,_⟩⟩:=h
 ·intro j n c e;cases e
 intro j n c e;cases e;exact x
theorem Sl.setFar{w sz v n B xs}(h:Sl w sz v n xs)(hf:bP v B){p}(hp:p.block<B)u:Sl (w.setCell p u) sz v n xs:=by obtain⟨C,A,c,y,J,N,U⟩:=h;refine⟨C,A,c,y,J,N,fun hn=>?_⟩;obtain⟨b,off,e,hlt,Z⟩:=U hn;subst e;have Y:=hf _ _ _ y;refine⟨b,off,rfl,by simpa [World.setCell]using hlt,fun j x hx=>?_⟩;rw[aBB w p _ u (fun e=>by have:=aAf Addr.block e;simp only at this Y;omega)];exact Z j x hx
theorem ae.setFar{w v n B}(h:ae w v n)(hf:bP v B){p}(hp:p.block<B)u:ae (w.setCell p u) v n:=by obtain⟨l,⟨j,x⟩,y⟩:=h;exact⟨l,⟨j.setFar hf hp u,x⟩,y⟩

theorem nN w v l(hd:cQ w v l)(hl:l.length<=17592186044416): Calls Tryz.prog 178 #[v] w fun e w'=>∃x,e=.returned x/\ae w' x (val l)/\Below w.heap.size w w'/\bP x w.heap.size:=by
 obtain⟨N,A,c,rfl,ad,am,hA⟩:=id hd.open_;have HD:=aS hd.1;have HA:=aS hA;clear hA hd;have HO:=aS N;clear N;obtain⟨n,hn⟩:∃n,l.length=n:=⟨_,rfl⟩;have Y:=aS hn;rw[hn]at hl ad⊢;clear hn;go_enter Tryz.func178,Tryz.ntmps178;go_wp2;go_loop [3] (fun i=>∃k:Nat,i=.int .i64 k/\iC l k/\k<=n) (fun i=>(intOf i).toNat)
 case atStart=>exact⟨n,rfl,Y.out▸iC.start l,cC _⟩
 obtain⟨k,rfl,ht,hk⟩:=hrel;have HT:=aS ht;clear ht;have clone:∀W,W=w->Calls Tryz.prog 210 #[.slice A k c] W fun e w'=>∃x,e=.returned x/\Sl w' 1 x k ((l.take k).map dg)/\Below W.heap.size W w'/\∃base,W.heap.size<=base/\w'.ownsRow base 178 1 x k ((l.take k).map dg):=by intro W hW;rw[hW,List.map_take];exact BP w _ _ _ ((Y.out▸HD.out:Sl w 1 (.slice A n c) n (l.map dg)).cutHead hk) (fun u hu=>qC l u (aBr hu)) (by omega)
 have fin:∀w' x,Sl w' 1 x k ((l.take k).map dg)->dQ (l.take k)->ae w' x (val l):=by
  intro w' x U al;have J:(l.take k).length=k:=by rw[Io,Y.out];omega
  exact⟨l.take k,⟨by rw[J];exact U,HO.out.take k⟩,al,HT.out.2⟩
 have B:=aS fin;clear fin;have CL:=aS clone;clear clone;rcases lE k with h0|h0
 ·subst h0;go_wp2_with (go_at_call 210;refine(CL.out _ rfl).mono ?_;rintro e w' ⟨x,rfl,U,Z,base,j,y⟩);go_ret;exact⟨x,rfl,B.out _ _ U (by simp[dQ]),Z,(bP.of_own y).mono j⟩
 obtain⟨m,rfl⟩:∃m,k=m+1:=⟨k-1,by omega⟩;have hm:m<l.length:=by rw[Y.out];omega
 obtain⟨d,hd⟩:∃d,l[m]?=some d:=⟨_,bY hm⟩;have C:=aS hd;obtain⟨b,off,rfl,hc⟩:∃b off,A=some ⟨b,off,none⟩/\w.cell? ⟨b,off+m,none⟩=some (.int .u32 (d:Int)):=by
  rcases HA.out with h|⟨b,off,h,_,hc⟩
  ·subst h;simp at hm
  exact⟨b,off,h,hc m d hd⟩
 clear hd hm;by_cases hz:d=0
 ·subst hz;go_wp2_with fail;exact⟨⟨m,rfl,HT.out.step C.out,by omega⟩,by simp[intOf]⟩
 have an:((d:Int) == 0)=false:=by simpa using hz
 go_wp2_with (go_at_call 210;refine(CL.out _ rfl).mono ?_;rintro e w' ⟨x,rfl,U,Z,base,j,y⟩);go_ret;exact⟨x,rfl,B.out _ _ U (iC.trim C.out hz),Z,(bP.of_own y).mono j⟩
theorem mw w v l(hd:cQ w v l)(hl:l.length<=17592186044416): Calls Tryz.prog 178 #[v] w fun e w'=>∃j,e=.returned j/\ae w' j (val l)/\Below w.heap.size w w':= (nN w v l hd hl).mono fun _ _ ⟨j,u,x,y,_⟩=>⟨j,u,x,y⟩
end
end Go.Proofs.YtfoceannfdbinaaGreat
