/- Lemmas on the way: Jv2, Jv3, Jt0, Jt1, Jl0. -/
import Derived.Test.YtkdhppimhdemjaaGreatU27
set_option linter.all false
set_option maxRecDepth 1000000
set_option maxHeartbeats 32000000
namespace Go.Proofs.YtkdhppimhdemjaaGreat
open Go.RowKit
section
section
variable {P:Program} {X:dY} {E:Ev} {ρ:Operand->Option AV} {s:St} {K:AV->St->Prop}
def xe (l c:Nat):Option Unit:=cond (Nat.ble l c && Nat.ble c 1000000) (some ()) none
theorem xc {l c:Nat} (h:l <= c)(h1:c <= 1000000):xe l c = some ():=by unfold xe; rw [cQ h,cQ h1]; rfl
def zk (P:Program) (e:TypeId) (z:AV) (n:Nat):Bool:=match P.info? e with
 | some i=>z.cells.all flat && Nat.beq z.cells.length i.size && Nat.blt 0 i.size && Nat.ble i.bytes 1000000 && Nat.beq i.size n && Nat.ble n 1000000
 | none=>false
theorem kD {e:TypeId} {z:AV} {n:Nat} (h:zk P e z n = true):∃ i,P.info? e = some i/\z.cells.all flat = true/\Nat.beq z.cells.length i.size = true/\Nat.blt 0 i.size = true/\Nat.ble i.bytes 1000000 = true/\i.size = n/\Nat.ble n 1000000 = true:=by
 unfold zk at h
 split at h
 ·next i hi =>
  simp only [Bool.and_eq_true] at h
  obtain ⟨⟨⟨⟨⟨h1,h2⟩,h3⟩,h4⟩,h5⟩,h6⟩:=h
  exact ⟨i,hi,h1,h2,h3,h4,Nat.eq_of_beq_eq_true h5,h6⟩
 cases h
theorem OL {t e:TypeId} {z:AV} {nz:Nat} (hu:P.underlying t = some (.slice e))(hz:bP P e = some z)(hc:zk P e z nz = true) (l c:Operand) :
  cZ P X E ρ s (.makeSlice t l c) K = aw (ρ l) fun a=>aw (ρ c) fun b=>aw (nU a) fun l=>aw (nU b) fun c=>aw (xe l c) fun _=>K (.sl s.nx 0 l c) (s.new (.cells (reps z.cells c) e false)):=by
 obtain ⟨i,hi,h1,h2,h3,h4,_,_⟩:=kD hc
 rw [ym]
 simp only [oT,hu,hz,hi]
 cases ρ l with
 | none=>rfl
 | some a =>
  cases ρ c with
  | none=>simp only [au,Option.bind_some,Option.bind_none]; cases nU a <;> rfl
  | some b =>
   simp only [au,Option.bind_some]
   cases nU a with
   | none=>rfl
   | some n =>
    cases nU b with
    | none=>rfl
    | some m =>
     simp only [au,hz,hi,h1,h2,h3,h4,Bool.true_and,Bool.and_true,xe]
     cases (Nat.ble n m && Nat.ble m 1000000) <;> rfl
theorem Kt (f:FuncId) (x:Operand):cZ P X E ρ s (.makeFunc (.func f) #[] #[x]) K = aw (ρ x) fun a=>K (.fn f [] [a]) s:=by
 unfold cZ
 simp only [f5,bu,dL]
 cases hx:ρ x with
 | none=>simp [hx,aw]
 | some a=>simp [hx,aw]
def ik (ρ:Operand->Option AV) (pl:List (Nat × Nat)):List AV->List (Nat × Operand)->Option (List AV):=il ρ fun i=>pl[i]?
theorem tH (pl:List (Nat × Nat)) (c:List AV):ik ρ pl c [] = some c:=rfl
theorem ry (pl:List (Nat × Nat)) (c:List AV) (i:Nat) (x:Operand) (ps:List (Nat × Operand)):ik ρ pl c ((i,x) :: ps) = match pl[i]?,ρ x with
  | some (off,n),some v=>cond (Nat.beq v.cells.length n && Nat.ble (off + n) c.length) (ik ρ pl (cY c off v.cells) ps) none
  | _,_=>none:=rfl
theorem tI (pl:List (Nat × Nat)) (c:List AV) (l:List (Nat × Operand)):ik ρ pl c (l.toArray).toList = ik ρ pl c l:=rfl
theorem OO {t:TypeId} {z:AV} {fs:Array Field} {pl:List (Nat × Nat)} (hz:bP P t = some z)(hu:P.underlying t = some (.struct fs))(hp:jq P fs.toList = some pl) (ps:Array (Nat × Operand)) :
  cZ P X E ρ s (.build t ps) K = aw (ik ρ pl z.cells ps.toList) fun c=>K (.agg c) s:=by
 rw [JU]
 simp only [dL,hz,hu,hp]
 show aw ((ik ρ pl z.cells ps.toList).map AV.agg) _ = _
 cases ik ρ pl z.cells ps.toList <;> rfl
theorem OM {t e:TypeId} {z:AV} {n:Nat} (hu:P.underlying t = some (.slice e))(hz:bP P e = some z)(hn:bk P e = some n)(hc:(Nat.beq z.cells.length n && Nat.blt 0 n && Nat.ble (1 * n) (2 ^ 24)) = true) (x:Operand) :
  cZ P X E ρ s (.buildSlice t 1 #[(0,x)]) K = aw (ρ x) fun v=>aw (cond (Nat.beq v.cells.length n && v.cells.all flat) (some ()) none) fun _=>K (.sl s.nx 0 1 1) (s.new (.cells v.cells e false)):=by
 have hc1:=hc
 simp only [Bool.and_eq_true] at hc1
 obtain ⟨⟨h1,h2⟩,h3⟩:=hc1
 rw [nW]
 simp only [oT,hu,hz,hn,hc,cond_true,il]
 have hl:z.cells.length = n:=Nat.eq_of_beq_eq_true h1
 cases ρ x with
 | none=>rfl
 | some v =>
  simp only [au,Nat.zero_mul,Nat.zero_add]
  by_cases hv:v.cells.length = n
  ·have e1:Nat.beq v.cells.length n = true:=by rw [Nat.beq_eq]; exact hv
   have hr:(reps z.cells 1).length = n:=by simp [reps,hl]
   have hb:Nat.ble n (reps z.cells 1).length = true:=cQ (by omega)
   have hp:cY (reps z.cells 1) 0 v.cells = v.cells:=by
    apply List.ext_getElem?
    intro i
    rw [iZ,hr,hv]
    by_cases hi:i < n
    ·rw [if_pos ⟨by omega,by omega,hi⟩]; simp
    rw [if_neg (by omega),List.getElem?_eq_none (by omega),List.getElem?_eq_none (by omega)]
   rw [e1,hb,hp]
   simp only [Bool.true_and,cond_true,Option.bind_some]
   cases v.cells.all flat <;> rfl
  have e1:Nat.beq v.cells.length n = false:=by
   cases h:Nat.beq v.cells.length n with
   | false=>rfl
   | true=>exact absurd (Nat.eq_of_beq_eq_true h) hv
  rw [e1]
  rfl
def NH (z:Nat) (e:TypeId) (s:St) (o n:Nat):Option AO->List AV->Option (AV × St)
 | some (.cells c e' _),new=>cond (Nat.beq c.length (n * z) && Nat.beq e e' && Nat.ble (n * z + z) 1000000) (some (.sl s.nx 0 (n + 1) (cW + z),(s.drop o).new (.cells (c ++ new) e true))) none
 | _,_=>none
def JC (z:Nat):Option AO->Option (List AV)
 | some (.cells d _ _)=>(getR d 0 z).bind fun l=>cond (Nat.beq l.length z) (some l) none
 | _=>none
theorem LR {z:Nat} {e:TypeId} {s:St} {o n:Nat} {c:List AV} {op:Bool} {new:List AV} (h:c.length = n * z)(h1:n * z + z <= 1000000):NH z e s o n (some (.cells c e op)) new = some (.sl s.nx 0 (n + 1) (cW + z),(s.drop o).new (.cells (c ++ new) e true)):=by
 simp only [NH]
 rw [cQ h1,show Nat.beq c.length (n * z) = true by rw [Nat.beq_eq]; exact h]
 simp
theorem Gu (z:Nat) (d:List AV) (t:TypeId) (op:Bool):JC z (some (.cells d t op)) = (getR d 0 z).bind fun l=>cond (Nat.beq l.length z) (some l) none:=rfl
theorem tA {c:List AV} {n:Nat} (h:c.length = n):getR c 0 n = some c:=by
 subst h
 exact getR_eq' c
where getR_eq':∀ c:List AV,getR c 0 c.length = some c
 | []=>rfl
 | x :: l=>by rw [List.length_cons,uw,getR_eq' l]; rfl
theorem gA:1000000 < cW:=by unfold cW; omega
theorem x8 {t t' e:TypeId} {z:Nat} {zv:AV} (hu:P.underlying t = some (.slice e)) (hu':P.underlying t' = some (.slice e))(hz:bP P e = some zv)(hc:zk P e zv z = true) (o:Nat) (s:St) :
  lH P t t' .snil (.sl o 0 1 1) s = (JC z (s.h.get o)).map fun new=>(.sl s.nx 0 1 (cW + z),s.new (.cells new e true)):=by
 obtain ⟨i,hi,h1,h3,h2,h4,rfl,h6⟩:=kD hc
 have hb:0 < i.size:=by simpa [Nat.blt_eq] using h2
 unfold lH
 simp only [hu,hu',fR,hi,hz,cA]
 cases s.h.get o with
 | none=>rfl
 | some x =>
  cases x with
  | cells d e' op =>
   simp only [JC,Nat.one_mul]
   cases hg:getR d 0 i.size with
   | none=>rfl
   | some l =>
    have hl:=(eR hg).1
    have hm:Nat.ble ([] ++ l:List AV).length 1000000 = true:=by rw [List.nil_append,hl]; exact h6
    simp only [List.length_nil,Nat.zero_add,hl,h1,h2,h3,h4,h6,Bool.true_and,Bool.and_true,cond_true,Option.bind_some,jh,Option.map_some]
    rw [show Nat.beq i.size 0 = false from by
     cases h:Nat.beq i.size 0 with
     | false=>rfl
     | true=>have:=Nat.eq_of_beq_eq_true h; omega,Nat.div_self hb]
    rfl
  | _=>rfl
theorem Bz {t t' e:TypeId} {z:Nat} {zv:AV} (hu:P.underlying t = some (.slice e)) (hu':P.underlying t' = some (.slice e))(hz:bP P e = some zv)(hc:zk P e zv z = true) (o o' n cap:Nat)(hcap:cap = cW + z) (s:St) {v:AV} {s':St}
  (h:((JC z (s.h.get o')).bind fun new=>NH z e s o n (s.h.get o) new) = some (v,s')):lH P t t' (.sl o 0 n cap) (.sl o' 0 1 1) s = some (v,s'):=by
 obtain ⟨i,hi,h1,h3,h2,h4,rfl,h6⟩:=kD hc
 have hb:0 < i.size:=by simpa [Nat.blt_eq] using h2
 subst hcap
 unfold lH
 simp only [hu,hu',fR,hi,hz,cA]
 cases hx:s.h.get o' with
 | none=>rw [hx] at h; cases h
 | some x =>
  cases x with
  | cells d e' op =>
   simp only [hx,JC,Nat.one_mul] at h ⊢
   cases hg:getR d 0 i.size with
   | none=>rw [hg] at h; cases h
   | some l =>
    have hl:=(eR hg).1
    simp only [hg,hl,Option.bind_some,jh,cond_true] at h
    cases hy:s.h.get o with
    | none=>rw [hy] at h; cases h
    | some y =>
     rw [hy] at h
     cases y with
     | cells c e2 op2 =>
      simp only [NH] at h
      obtain ⟨hc1,h⟩:=aj h
      cases h
      simp only [Bool.and_eq_true] at hc1
      obtain ⟨⟨g1,g2⟩,g3⟩:=hc1
      have g1:=Nat.eq_of_beq_eq_true g1
      obtain rfl:=Nat.eq_of_beq_eq_true g2
      have g3':n * i.size + i.size <= 1000000:=by simpa [Nat.ble_eq] using g3
      have hg1:getR c 0 (n * i.size) = some c:=tA g1
      have hbig:=gA
      simp only [hg1,g1,h1,h2,h3,h4,hl,g3,Bool.true_and,Bool.and_true,cond_true,Nat.zero_add]
      rw [show Nat.blt (cW + i.size) cW = false from by
        cases h:Nat.blt (cW + i.size) cW with
        | false=>rfl
        | true=>rw [Nat.blt_eq] at h; omega,
       show Nat.beq (cW + i.size) (cW + i.size) = true from jh _,
       show Nat.ble (n * i.size + i.size) (n * i.size) = false from by
        cases h:Nat.ble (n * i.size + i.size) (n * i.size) with
        | false=>rfl
        | true=>have:=Nat.le_of_ble_eq_true h; omega,
       show Nat.beq e e = true from jh _,Nat.div_self hb]
      rfl
     | _=>cases h
  | _=>rw [hx] at h; cases h
def Gq (P:Program) (t t':TypeId) (o n cap o':Nat) (s:St):Option (AV × St):=lH P t t' (.sl o 0 n cap) (.sl o' 0 1 1) s
def Oa (P:Program) (t t' e:TypeId) (z o n cap o':Nat) (s:St) (c:List AV):Option (List AV)->Option (AV × St)
 | some l=>cond (Nat.beq l.length z) (some (.sl s.nx 0 (n + 1) (cW + z),(s.drop o).new (.cells (c ++ l) e true))) (Gq P t t' o n cap o' s)
 | none=>Gq P t t' o n cap o' s
def NI (P:Program) (t t' e:TypeId) (z o n cap o':Nat) (s:St):Option AO->Option AO->Option (AV × St)
 | some (.cells c e' _),some (.cells d _ _)=>cond (Nat.beq c.length (n * z) && Nat.beq e e' && Nat.ble (n * z + z) 1000000) (Oa P t t' e z o n cap o' s c (getR d 0 z)) (Gq P t t' o n cap o' s)
 | _,_=>Gq P t t' o n cap o' s
theorem x9 (t t' e:TypeId) (z o n cap o':Nat) (s:St) (c l:List AV):Oa P t t' e z o n cap o' s c (some l) = cond (Nat.beq l.length z) (some (.sl s.nx 0 (n + 1) (cW + z),(s.drop o).new (.cells (c ++ l) e true))) (Gq P t t' o n cap o' s):=rfl
theorem ya (t t' e:TypeId) (z o n cap o':Nat) (s:St) {c:List AV} {op:Bool} (d:List AV) (t2:TypeId) (op2:Bool)(h:c.length = n * z)(h1:n * z + z <= 1000000):NI P t t' e z o n cap o' s (some (.cells c e op)) (some (.cells d t2 op2)) = Oa P t t' e z o n cap o' s c (getR d 0 z):=by
 simp only [NI]
 rw [cQ h1,show Nat.beq c.length (n * z) = true by rw [Nat.beq_eq]; exact h,jh]
 rfl
theorem LP {t t' e:TypeId} {z:Nat} {zv:AV} (hu:P.underlying t = some (.slice e)) (hu':P.underlying t' = some (.slice e))(hz:bP P e = some zv)(hc:zk P e zv z = true) (o o' n:Nat) (s:St):lH P t t' (.sl o 0 n (cW + z)) (.sl o' 0 1 1) s = NI P t t' e z o n (cW + z) o' s (s.h.get o) (s.h.get o'):=by
 unfold NI
 split
 ·next c e' op d t2 op2 h1 h2 =>
  cases hb:(Nat.beq c.length (n * z) && Nat.beq e e' && Nat.ble (n * z + z) 1000000) with
  | false=>rfl
  | true =>
   cases hg:getR d 0 z with
   | none=>rfl
   | some l =>
    simp only [Oa,cond_true]
    cases hl:Nat.beq l.length z with
    | false=>rfl
    | true=>exact Bz hu hu' hz hc o o' n _ rfl s (by rw [h1,h2]; simp only [JC,hg,Option.bind_some,hl,cond_true,NH,hb])
 rfl
theorem OX:type_of% (And.intro @Kt (And.intro @xc (And.intro @tH (And.intro @ry (And.intro @tI (And.intro @ya (And.intro @x9 @Gu))))))):=(And.intro @Kt (And.intro @xc (And.intro @tH (And.intro @ry (And.intro @tI (And.intro @ya (And.intro @x9 @Gu)))))))
end
section
variable {P:Program} {f:FuncId} {n:Nat} {s:St}
theorem iE.x {K:Fr->St->Prop} {Q:Ex->Fr->St->Prop} {fr:Fr} {i:Nat} (h:Q (.exit i) fr s):iE K Q (.exit i) fr s:=h
theorem dX.norm {Q:Ex->Fr->St->Prop} {i:Nat} {fr:Fr} (h:Q .normal fr s):dX i Q .normal fr s:=h
theorem aA.c1 {fn:Func} {R:AV->St->Prop} {l:List (Nat × AV)} {k:Tmp} {t:TypeId} {p v:AV} (hr:fn.results = #[.cell k t])(hp:fo l k = some p)(hv:ig P s t p = some v)(h:R v s):aA P fn R .ret ⟨f,n,Tr.of l,none,[]⟩ s:=by
 refine ⟨trivial,rfl,[v],?_,h⟩
 rw [hr]
 simp only [j9,Cr,Tr.of_get,hp,List.foldl_nil,hv,Option.map_some]
theorem aA.c2 {fn:Func} {R:AV->St->Prop} {l:List (Nat × AV)} {k j:Tmp} {t:TypeId} {p v u:AV} (hr:fn.results = #[.cell k t,.tmp j])(hp:fo l k = some p)(hv:ig P s t p = some v)(hu:fo l j = some u)(h:R (.tup [v,u]) s):aA P fn R .ret ⟨f,n,Tr.of l,none,[]⟩ s:=by
 refine ⟨trivial,rfl,[v,u],?_,h⟩
 rw [hr]
 simp only [j9,Cr,Tr.of_get,hp,List.foldl_nil,hv,hu,Option.map_some]
end
end
section
def wV (P:Program) (t:TypeId) (es:List AE) (k:AV) (ok:Bool):Option AV :=
 match P.underlying t,gX k with
 | some (.map kt e),some q=>match f8 P kt q es with
  | some (some i)=>match es[i]? with
   | some e=>some (cond ok (.tup [e.val,.b true]) e.val)
   | none=>none
  | some none=>(bP P e).map fun v=>cond ok (.tup [v,.b false]) v
  | none=>none
 | _,_=>none
def IB (P:Program) (t:TypeId) (k:AV) (ok:Bool):Option AO->Option AV
 | some (.map es _)=>wV P t es k ok
 | _=>none
def Ic (P:Program) (kt:TypeId) (es:List AE) (clock:Nat) (k v:AV):Option (List AE × Nat) :=
 match gX k with
 | some q=>match f8 P kt q es with
  | some (some i)=>match es[i]? with
   | some e=>some (es.set i ⟨k,v,e.born⟩,clock)
   | none=>none
  | some none=>some (es ++ [⟨k,v,clock⟩],clock + 1)
  | none=>none
 | none=>none
def KW (P:Program) (s:St) (o:Nat) (kt:TypeId) (k v:AV):Option AO->Option St
 | some (.map es clock)=>(Ic P kt es clock k v).map fun p=>s.set o (.map p.1 p.2)
 | _=>none
def Eb (P:Program) (s:St) (t:TypeId) (m k v:AV):Option St:=match P.underlying t with
 | some (.map kt _)=>gK P s kt m k v
 | _=>none
def KT (P:Program) (s:St) (t:TypeId) (x:AV):Option (AV × St):=match P.underlying t with
 | some (.map _ _)=>match x with
  | .mnil=>some (.ptr s.nx 0,s.new (.iter none 0 [] 0))
  | .fm ks vs=>some (.ptr s.nx 0,s.new (.walk [] ks vs))
  | _=>none
 | _=>none
section
variable {P:Program} {X:dY} {E:Ev} {ρ:Operand->Option AV} {s s':St} {K:AV->St->Prop}
theorem wW (t:TypeId) (o:Nat) (k:AV) (ok:Bool):nC P s t (.mp o) k ok = IB P t k ok (s.h.get o):=by
 have key:∀ r:Option AO,(match P.underlying t,gX k with
   | some (.map kt e),some q=>match (match r with
     | some (.map es _)=>some es
     | _=>none) with
    | some es=>match f8 P kt q es with
     | some (some i)=>match es[i]? with
      | some e=>some (cond ok (.tup [e.val,.b true]) e.val)
      | none=>none
     | some none=>(bP P e).map fun v=>cond ok (.tup [v,.b false]) v
     | none=>none
    | none=>none
   | _,_=>none) = IB P t k ok r:=by
  intro r
  unfold IB wV
  cases P.underlying t with
  | none=>cases r with | none=>rfl | some y=>cases y <;> rfl
  | some d =>
   cases d <;> first | (cases r with | none=>rfl | some y=>cases y <;> rfl) | skip
   cases gX k with
   | none=>cases r with | none=>rfl | some y=>cases y <;> rfl
   | some q=>cases r with | none=>rfl | some y=>cases y <;> rfl
 exact key (s.h.get o)
theorem wX (t:TypeId) (ks vs:List AV) (k:AV) (ok:Bool):nC P s t (.fm ks vs) k ok = wV P t (DI ks vs) k ok:=rfl
theorem q6 (t:TypeId) (k:AV) (ok:Bool):nC P s t .mnil k ok = wV P t [] k ok:=rfl
theorem A9 (t:TypeId) (k:AV) (ok:Bool) (es:List AE) (c:Nat):IB P t k ok (some (.map es c)) = wV P t es k ok:=rfl
theorem sY (kt:TypeId) (o:Nat) (k v:AV):gK P s kt (.mp o) k v = KW P s o kt k v (s.h.get o):=by
 have key:∀ r:Option AO,(match gX k with
   | some q=>match r with
    | some (.map es clock)=>match f8 P kt q es with
     | some (some i)=>match es[i]? with
      | some e=>some (s.set o (.map (es.set i ⟨k,v,e.born⟩) clock))
      | none=>none
     | some none=>some (s.set o (.map (es ++ [⟨k,v,clock⟩]) (clock + 1)))
     | none=>none
    | _=>none
   | none=>none) = KW P s o kt k v r:=by
  intro r
  cases r with
  | none=>cases gX k <;> rfl
  | some y =>
   cases y <;> first | (cases gX k <;> rfl; done) | skip
   rename_i es clock
   show _ = (Ic P kt es clock k v).map fun p=>s.set o (.map p.1 p.2)
   unfold Ic
   cases gX k with
   | none=>rfl
   | some q =>
    simp only
    cases f8 P kt q es with
    | none=>rfl
    | some r=>cases r with | none=>rfl | some i=>simp only; cases es[i]? <;> rfl
 unfold gK
 rw [<- key]
 cases gX k <;> rfl
theorem AD (o:Nat) (kt:TypeId) (k v:AV) (es:List AE) (c:Nat):KW P s o kt k v (some (.map es c)) = (Ic P kt es c k v).map fun p=>s.set o (.map p.1 p.2):=rfl
theorem Hi {t kt e:TypeId} (hu:P.underlying t = some (.map kt e)) (m k v:AV):Eb P s t m k v = gK P s kt m k v:=by simp only [Eb,hu]
theorem Hv {t kt e:TypeId} (hu:P.underlying t = some (.map kt e)) (ks vs:List AV):KT P s t (.fm ks vs) = some (.ptr s.nx 0,s.new (.walk [] ks vs)):=by simp only [KT,hu]
theorem yn (t:TypeId) (x k:Operand) (ok:Bool):cZ P X E ρ s (.lookup t x k ok) K = aw (ρ x) fun a=>aw (ρ k) fun b=>aw (nC P s t a b ok) fun v=>K v s:=by
 unfold cZ
 simp only [f5,bu,dL]
 cases ρ x with
 | none=>rfl
 | some a =>
  cases ρ k with
  | none=>rfl
  | some b=>simp only [au]; cases nC P s t a b ok <;> rfl
theorem pG (t:TypeId) (m k v:Operand):cZ P X E ρ s (.mapUpdate t m k v) K = aw (ρ m) fun a=>aw (ρ k) fun b=>aw (ρ v) fun c=>aw (Eb P s t a b c) fun s'=>K (.tup []) s':=by
 unfold cZ
 simp only [f5,bu,gy,Eb]
 cases ρ m with
 | none=>cases P.underlying t with | none=>rfl | some d=>cases d <;> rfl
 | some a =>
  cases ρ k with
  | none=>cases P.underlying t with | none=>rfl | some d=>cases d <;> rfl
  | some b =>
   cases ρ v with
   | none=>cases P.underlying t with | none=>rfl | some d=>cases d <;> rfl
   | some c =>
    simp only [au]
    cases P.underlying t with
    | none=>rfl
    | some d=>cases d <;> first | rfl | (simp only; cases gK P s _ a b c <;> rfl)
theorem ur (t:TypeId):cZ P X E ρ s (.makeMap t none) K = K (.mp s.nx) (s.new (.map [] 0)):=rfl
variable {n:Nat} {gl:List (Option Tmp)} {ex:List (Nat × Nat)} {i:Nat} {T:Tr AV} {R:List (Nat × List Nat)} {W:List (Nat × St × St)} {k:List (Nat × List Nat)->List (Nat × St × St)->Prop}
theorem sX (t:TypeId) (x y:Operand) (ok:Bool):dW ex i (.lookup t x y ok) ρ s s' R W k = aw (ρ x) fun p=>aw (match p with | .mp o=>(s.h.get o).map fun _=>[o] | .mnil=>some [] | .fm _ _=>some [] | _=>none) fun ns=>DA ex i ns W/\k ((i,ns) :: R) W:=by
 unfold dW
 simp only [bE,yz]
 cases ρ x with
 | none=>rfl
 | some p=>cases p <;> rfl
theorem nj (t:TypeId) (x y z:Operand):dW ex i (.mapUpdate t x y z) ρ s s' R W k = (Cy ex i s s' R/\k R ((i,s,s') :: W)):=rfl
def Oq (k:Nat):Operand:=.const (.int .i64 (k:Int))
def ρN:Operand->Option AV
 | .const (.int .i64 z)=>some (.i .i64 z)
 | _=>none
def oJ (P:Program) (t:TypeId) (a:AV) (l:Nat)(h:Option Nat):Option AV:=eu P ρN t a (some (Oq l)) (h.map Oq) none
theorem nT (d k:Nat):di ρN d (some (Oq k)) = some k:=rfl
theorem vY {ρ ρ':Operand->Option AV} (t:TypeId) (a:AV) (lo hi lo' hi':Option Operand)(hl:di ρ 0 lo = di ρ' 0 lo')(hh:∀ d,di ρ d hi = di ρ' d hi'):eu P ρ t a lo hi none = eu P ρ' t a lo' hi' none:=by
 have e:∀ d,di ρ d none = di ρ' d none:=fun _=>rfl
 unfold eu
 simp only [hl,hh,e]
theorem l9 {ρ:Operand->Option AV} (t:TypeId) (a:AV) (lo hi:Option Operand) {l:Nat} {h:Option Nat} (hl:di ρ 0 lo = some l)(hh:(hi = none/\h = none) ∨ ∃ y k,hi = some y/\h = some k/\(ρ y).bind nU = some k):eu P ρ t a lo hi none = oJ P t a l h:=by
 refine vY t a _ _ _ _ (hl.trans (nT 0 l).symm) fun d=>?_
 rcases hh with ⟨rfl,rfl⟩ | ⟨y,k,rfl,rfl,hk⟩
 ·rfl
 exact hk
theorem kO {ρ:Operand->Option AV} (t:TypeId) (a:AV) (lo hi:Option Operand)(hl:di ρ 0 lo = none):eu P ρ t a lo hi none = none:=by
 unfold eu
 simp only [hl]
 (repeat' split) <;> first | rfl | contradiction | simp_all
theorem kP {ρ:Operand->Option AV} (t:TypeId) (a:AV) (lo:Option Operand) (y:Operand)(hy:(ρ y).bind nU = none):eu P ρ t a lo (some y) none = none:=by
 have e:∀ d,di ρ d (some y) = none:=fun d=>hy
 unfold eu
 simp only [e]
 (repeat' split) <;> first | rfl | contradiction | simp_all
theorem GQ (t:TypeId) (x y:Operand):cZ P X E ρ s (.slice t x none (some y) none) K = aw (ρ x) fun a=>aw (ρ y) fun b=>aw (nU b) fun h=>aw (oJ P t a 0 (some h)) fun v=>K v s:=by
 rw [vD]
 simp only [dL,Option.isSome_some,Bool.true_or,cond_true]
 cases ρ x with
 | none=>rfl
 | some a =>
  simp only [Option.bind_some,au]
  cases hy:ρ y with
  | none=>rw [kP t a none y (by rw [hy]; rfl)]; rfl
  | some b =>
   simp only [au]
   cases hb:nU b with
   | none=>rw [kP t a none y (by rw [hy]; exact hb)]; rfl
   | some k=>rw [l9 t a none (some y) (l:=0) (h:=some k) rfl (.inr ⟨y,k,rfl,rfl,by rw [hy]; exact hb⟩)]; simp only [au]
theorem BM (t:TypeId) (x z y:Operand):cZ P X E ρ s (.slice t x (some z) (some y) none) K = aw (ρ x) fun a=>aw (ρ z) fun c=>aw (nU c) fun l=>aw (ρ y) fun b=>aw (nU b) fun h=>aw (oJ P t a l (some h)) fun v=>K v s:=by
 rw [vD]
 simp only [dL,Option.isSome_some,Bool.true_or,cond_true]
 cases ρ x with
 | none=>rfl
 | some a =>
  simp only [Option.bind_some,au]
  cases hz:ρ z with
  | none=>rw [kO t a (some z) (some y) (by simp only [di,hz]; rfl)]; rfl
  | some c =>
   simp only [au]
   cases hc:nU c with
   | none=>rw [kO t a (some z) (some y) (by simp only [di,hz]; exact hc)]; rfl
   | some l =>
    simp only [au]
    cases hy:ρ y with
    | none=>rw [kP t a (some z) y (by rw [hy]; rfl)]; rfl
    | some b =>
     simp only [au]
     cases hb:nU b with
     | none=>rw [kP t a (some z) y (by rw [hy]; exact hb)]; rfl
     | some k=>rw [l9 t a (some z) (some y) (l:=l) (h:=some k) (by simp only [di,hz]; exact hc) (.inr ⟨y,k,rfl,rfl,by rw [hy]; exact hb⟩)]; simp only [au]
theorem GP (t:TypeId) (x z:Operand):cZ P X E ρ s (.slice t x (some z) none none) K = aw (ρ x) fun a=>aw (ρ z) fun c=>aw (nU c) fun l=>aw (oJ P t a l none) fun v=>K v s:=by
 rw [vD]
 simp only [dL,Option.isSome_none,Option.isNone_none,Bool.false_or,cond_true]
 cases ρ x with
 | none=>rfl
 | some a =>
  simp only [Option.bind_some,au]
  cases hz:ρ z with
  | none=>rw [kO t a (some z) none (by simp only [di,hz]; rfl)]; rfl
  | some c =>
   simp only [au]
   cases hc:nU c with
   | none=>rw [kO t a (some z) none (by simp only [di,hz]; exact hc)]; rfl
   | some l=>rw [l9 t a (some z) none (l:=l) (h:=none) (by simp only [di,hz]; exact hc) (.inl ⟨rfl,rfl⟩)]; simp only [au]
theorem Jm {t e:TypeId} {n z:Nat} (hu:P.underlying t = some (.array n e))(hz:bk P e = some z)(hn:n < cW) (o f l h:Nat):oJ P t (.ptr o f) l (some h) = cond (Nat.ble l h && Nat.ble h n && (Nat.beq l 0 || Nat.blt l n)) (some (.sl o (f + l * z) (h - l) (n - l))) none:=by
 unfold oJ eu
 simp only [hu,hz,Option.map_some,nT]
 have e1:Nat.ble n n = true:=cQ (Nat.le_refl _)
 simp only [di,e1,eE hn,Bool.and_true]
theorem LF {t e:TypeId} {z:Nat} (hu:P.underlying t = some (.slice e))(hz:bk P e = some z) (c:List AV) (n l h:Nat):oJ P t (.vw c n) l (some h) = cond (Nat.ble l h && Nat.ble h n) (some (.vw (c.drop (l * z)) (h - l))) none:=by
 unfold oJ eu
 simp only [hu,hz,Option.map_some,nT]
theorem Jl {t e:TypeId} {z:Nat} (hu:P.underlying t = some (.slice e))(hz:bk P e = some z) (c:List AV) (n l:Nat):oJ P t (.vw c n) l none = cond (Nat.ble l n) (some (.vw (c.drop (l * z)) (n - l))) none:=by
 have e1:Nat.ble n n = true:=cQ (Nat.le_refl _)
 have e2:∀ d,di ρN d none = some d:=fun _=>rfl
 unfold oJ eu
 simp only [hu,hz,Option.map_none,nT,e2,e1,Bool.and_true]
def Jn (P:Program) (s:St) (t:TypeId) (x y:AV):Option (AV × St):=match P.underlying t with
 | some (.slice e)=>pz P s e x y
 | _=>none
theorem GR (x y:Operand) (t t':TypeId):cZ P X E ρ s (.call ⟨.builtin .copy,#[x,y],#[t,t']⟩) K = aw (ρ x) fun a=>aw (ρ y) fun b=>aw (Jn P s t a b) fun p=>K p.1 p.2:=by
 unfold cZ
 simp only [f5,bu,gy,Jn]
 cases hx:ρ x with
 | none=>simp [hx,aw]
 | some a =>
  cases hy:ρ y with
  | none=>simp [hx,hy,aw]
  | some b =>
   simp only [List.mapM_cons,List.mapM_nil,hx,hy,Option.pure_def,Option.bind_eq_bind,Option.bind_some,au]
   cases P.underlying t with
   | none=>rfl
   | some d=>cases d <;> first | rfl | (simp only; cases pz P s _ a b <;> rfl)
theorem AQ (xs:Array Operand) (ts:Array TypeId):dW ex i (.call ⟨.builtin .copy,xs,ts⟩) ρ s s' R W k = (Cy ex i s s' R/\k R ((i,s,s') :: W)):=rfl
theorem Ku {t e:TypeId} {z:AV} {n:Nat} (hu:P.underlying t = some (.slice e))(hz:bP P e = some z)(hn:bk P e = some n) (m:Nat) (pl:List (Nat × Nat))(hpl:∀ j,j < m->pl[j]? = some (j * n,n))(hc:(Nat.beq z.cells.length n && Nat.blt 0 n && Nat.ble (m * n) (2 ^ 24)) = true) (ps:Array (Nat × Operand))(hps:ps.toList.all (fun p=>Nat.blt p.1 m) = true) :
  cZ P X E ρ s (.buildSlice t m ps) K = aw (ik ρ pl (reps z.cells m) ps.toList) fun c=>aw (cond (c.all flat) (some ()) none) fun _=>K (.sl s.nx 0 m m) (s.new (.cells c e false)):=by
 have fill:∀ (l:List (Nat × Operand)) (c:List AV),l.all (fun p=>Nat.blt p.1 m) = true->il ρ (fun i=>some (i * n,n)) c l = ik ρ pl c l:=by
  intro l
  induction l with
  | nil=>intro c _; rfl
  | cons p l ih =>
   intro c h
   simp only [List.all_cons,Bool.and_eq_true,Nat.blt_eq] at h
   simp only [ik,il,hpl p.1 h.1]
   cases ρ p.2 with
   | none=>rfl
   | some v =>
    simp only
    cases (Nat.beq v.cells.length n && Nat.ble (p.1 * n + n) c.length) with
    | false=>rfl
    | true=>exact ih _ h.2
 rw [nW]
 simp only [oT,hu,hz,hn,hc,cond_true]
 rw [fill _ _ hps]
 cases ik ρ pl (reps z.cells m) ps.toList with
 | none=>rfl
 | some c=>simp only [Option.bind_some,au]; cases c.all flat <;> rfl
theorem IU {t e:TypeId} {n z:Nat} (hu:P.underlying t = some (.array n e))(hz:bk P e = some z) {i:Int} (h:0 <= i)(h1:i.toNat < n) (o f:Nat):oE P t (.ptr o f) (.i .i64 i) = some (.ptr o (f + i.toNat * z)):=by
 unfold oE
 rw [hu,nS h]
 simp only [hz,eE h1,cond_true]
end
theorem Bm (ks vs:List AV):flat (.fm ks vs) = true:=rfl
theorem xY (ks vs:List AV):AV.cells (.fm ks vs) = [.fm ks vs]:=rfl
theorem tG:flat .mnil = true:=rfl
theorem rI:AV.cells .mnil = [.mnil]:=rfl
theorem OW:type_of% (And.intro @wW (And.intro @wX (And.intro @q6 (And.intro @A9 (And.intro @sY (And.intro @AD (And.intro @sX (And.intro @nj (And.intro @Bm (And.intro @xY (And.intro @tG (And.intro @rI @AQ)))))))))))):=And.intro @wW (And.intro @wX (And.intro @q6 (And.intro @A9 (And.intro @sY (And.intro @AD (And.intro @sX (And.intro @nj (And.intro @Bm (And.intro @xY (And.intro @tG (And.intro @rI @AQ)))))))))))
theorem FF:type_of% (And.intro @yn (And.intro @pG (And.intro @ur (And.intro @GQ (And.intro @BM (And.intro @GP @GR)))))):=And.intro @yn (And.intro @pG (And.intro @ur (And.intro @GQ (And.intro @BM (And.intro @GP @GR)))))
end
abbrev yj (T:TypeId) (z:AV):Prop:=bk Tryz.prog T = some 1/\(∀ (c:List AV) (o:Nat),fx Tryz.prog T c o = c[o]?)/\bP Tryz.prog T = some z/\∀ (s:St) (v:AV) (o f:Nat),gF Tryz.prog s T v (.ptr o f) = Ei s 1 v o f (s.h.get o)
theorem yw {T:TypeId} {z:AV} (a:kr Tryz.prog T = some false:=by kernel_rfl) (b:bk Tryz.prog T = some 1:=by kernel_rfl) (c:bP Tryz.prog T = some z:=by kernel_rfl):yj T z:=⟨b,EP a,c,sQ b⟩
abbrev BI (T:TypeId) (n:Nat) (z:List AV):Prop:=bk Tryz.prog T = some n/\(∀ (c:List AV) (o:Nat),fx Tryz.prog T c o = (getR c o n).map .agg)/\bP Tryz.prog T = some (.agg z)/\∀ (s:St) (v:AV) (o f:Nat),gF Tryz.prog s T v (.ptr o f) = Ei s n v o f (s.h.get o)
theorem Cf {T:TypeId} {n:Nat} {z:List AV} (a:kr Tryz.prog T = some true:=by kernel_rfl) (b:bk Tryz.prog T = some n:=by kernel_rfl) (c:bP Tryz.prog T = some (.agg z):=by kernel_rfl):BI T n z:=⟨b,ER a b,c,sQ b⟩
abbrev lI (T j off:Nat):Prop:=(∀ (o f:Nat),si Tryz.prog T j (.ptr o f) = some (.ptr o (f + off)))/\(∀ (c:List AV) (f:Nat),si Tryz.prog T j (.vp c f) = some (.vp c (f + off)))/\∀ (l:List AV),CX Tryz.prog T j (.agg l) = l[off]?
abbrev GX (T j off n:Nat):Prop:=(∀ (o f:Nat),si Tryz.prog T j (.ptr o f) = some (.ptr o (f + off)))/\(∀ (c:List AV) (f:Nat),si Tryz.prog T j (.vp c f) = some (.vp c (f + off)))/\∀ (l:List AV),CX Tryz.prog T j (.agg l) = (getR l off n).map .agg
theorem lV {T j off:Nat} (a:∀ (o f:Nat),si Tryz.prog T j (.ptr o f) = some (.ptr o (f + off)):=by intros; kernel_rfl) (b:∀ (c:List AV) (f:Nat),si Tryz.prog T j (.vp c f) = some (.vp c (f + off)):=by intros; kernel_rfl) (d:∀ (l:List AV),CX Tryz.prog T j (.agg l) = l[off]?:=by intros; kernel_rfl):lI T j off:=⟨a,b,d⟩
theorem Jf {T j off n:Nat} (a:∀ (o f:Nat),si Tryz.prog T j (.ptr o f) = some (.ptr o (f + off)):=by intros; kernel_rfl) (b:∀ (c:List AV) (f:Nat),si Tryz.prog T j (.vp c f) = some (.vp c (f + off)):=by intros; kernel_rfl) (d:∀ (l:List AV),CX Tryz.prog T j (.agg l) = (getR l off n).map .agg:=by intros; kernel_rfl):GX T j off n:=⟨a,b,d⟩
abbrev BJ (T:TypeId) (pl:List (Nat × Nat)) (z:List AV):Prop:=∀ {X:dY} {E:Ev} {ρ:Operand->Option AV} {s:St} {K:AV->St->Prop} (ps:Array (Nat × Operand)),cZ Tryz.prog X E ρ s (.build T ps) K = aw (ik ρ pl z ps.toList) fun c=>K (.agg c) s
theorem De {T:TypeId} {pl:List (Nat × Nat)} {z:List AV} {fs:Array Field} (hu:Tryz.prog.underlying T = some (.struct fs))(hz:bP Tryz.prog T = some (.agg z):=by kernel_rfl)(hp:jq Tryz.prog fs.toList = some pl:=by kernel_rfl):BJ T pl z:=fun ps=>OO hz hu hp ps
abbrev DF (T E e:Nat):Prop:=(∀ {z:Int} {n:Nat} (_:0 <= z) (_:z.toNat < n) (o f c:Nat),oE Tryz.prog T (.sl o f n c) (.i .i64 z) = some (.ptr o (f + z.toNat * e)))/\(∀ {z:Int} {n:Nat} (_:0 <= z) (_:z.toNat < n) (c:List AV),oE Tryz.prog T (.vw c n) (.i .i64 z) = some (.vp c (z.toNat * e)))/\(∀ {X:dY} {E:Ev} {ρ:Operand->Option AV} {s:St} {K:AV->St->Prop} (x:Operand),cZ Tryz.prog X E ρ s (.call ⟨.builtin .len,#[x],#[T]⟩) K = aw (ρ x) fun a=>aw (CG a) fun v=>K v s)/\Tryz.prog.underlying T = some (.slice E)
theorem El {T E e:Nat} (hu:Tryz.prog.underlying T = some (.slice E):=by kernel_rfl)(hs:bk Tryz.prog E = some e:=by kernel_rfl):DF T E e:=⟨fun h h1 o f c=>IW hu hs h h1 o f c,fun h h1 c=>IV hu hs h h1 c,fun x=>Mi hu x,hu⟩
abbrev Dw (T E e:Nat) (z:List AV):Prop:=(∀ {X:dY} {F:Ev} {ρ:Operand->Option AV} {s:St} {K:AV->St->Prop} (l c:Operand),cZ Tryz.prog X F ρ s (.makeSlice T l c) K = aw (ρ l) fun a=>aw (ρ c) fun b=>aw (nU a) fun l=>aw (nU b) fun c=>aw (xe l c) fun _=>K (.sl s.nx 0 l c) (s.new (.cells (reps z c) E false)))
 /\ (∀ {X:dY} {F:Ev} {ρ:Operand->Option AV} {s:St} {K:AV->St->Prop} (x:Operand),cZ Tryz.prog X F ρ s (.buildSlice T 1 #[(0,x)]) K = aw (ρ x) fun v=>aw (cond (Nat.beq v.cells.length e && v.cells.all flat) (some ()) none) fun _=>K (.sl s.nx 0 1 1) (s.new (.cells v.cells E false)))
 /\ (∀ (o:Nat) (s:St),lH Tryz.prog T T .snil (.sl o 0 1 1) s = (JC e (s.h.get o)).map fun new=>(.sl s.nx 0 1 (cW + e),s.new (.cells new E true)))
 /\ ∀ (o o2 n:Nat) (s:St),lH Tryz.prog T T (.sl o 0 n (cW + e)) (.sl o2 0 1 1) s = NI Tryz.prog T T E e o n (cW + e) o2 s (s.h.get o) (s.h.get o2)
theorem MI {T E e:Nat} (v:AV)(hu:Tryz.prog.underlying T = some (.slice E))(hz:bP Tryz.prog E = some v)(hs:bk Tryz.prog E = some e)(hc:(Nat.beq v.cells.length e && Nat.blt 0 e && Nat.ble (1 * e) (2 ^ 24)) = true)(he:zk Tryz.prog E v e = true):Dw T E e v.cells:=⟨fun l c=>OL hu hz (nz:=e) he l c,fun x=>OM hu hz hs hc x,fun o s=>x8 hu hu hz he o s,fun o o2 n s=>LP hu hu hz he o o2 n s⟩
theorem MP {T E:Nat} {v:AV} (hu:Tryz.prog.underlying T = some (.slice E):=by kernel_rfl)(hz:bP Tryz.prog E = some v:=by kernel_rfl)(hs:bk Tryz.prog E = some 1:=by kernel_rfl)(hc:(Nat.beq v.cells.length 1 && Nat.blt 0 1 && Nat.ble (1 * 1) (2 ^ 24)) = true:=by kernel_rfl)(he:zk Tryz.prog E v 1 = true:=by kernel_rfl)(hv:v.cells = [v]:=by kernel_rfl):Dw T E 1 [v]:=hv ▸ MI v hu hz hs hc he
theorem MR {T E e:Nat} {v:List AV} (hu:Tryz.prog.underlying T = some (.slice E):=by kernel_rfl)(hz:bP Tryz.prog E = some (.agg v):=by kernel_rfl)(hs:bk Tryz.prog E = some e:=by kernel_rfl)(hc:(Nat.beq v.length e && Nat.blt 0 e && Nat.ble (1 * e) (2 ^ 24)) = true:=by kernel_rfl)(he:zk Tryz.prog E (.agg v) e = true:=by kernel_rfl):Dw T E e v:=MI (.agg v) hu hz hs hc he
abbrev Mw (T E e:Nat):Prop:=(∀ (c:List AV) (n l h:Nat),oJ Tryz.prog T (.vw c n) l (some h) = cond (Nat.ble l h && Nat.ble h n) (some (.vw (c.drop (l * e)) (h - l))) none)/\(∀ (c:List AV) (n l:Nat),oJ Tryz.prog T (.vw c n) l none = cond (Nat.ble l n) (some (.vw (c.drop (l * e)) (n - l))) none)/\∀ (s:St) (x y:AV),Jn Tryz.prog s T x y = pz Tryz.prog s E x y
theorem MK {T E e:Nat} (hu:Tryz.prog.underlying T = some (.slice E):=by kernel_rfl)(hs:bk Tryz.prog E = some e:=by kernel_rfl):Mw T E e:=⟨LF hu hs,Jl hu hs,fun s x y=>by simp only [Jn,hu]⟩
abbrev Kr (T E e:Nat) (z:List AV):Prop:=∀ {X:dY} {F:Ev} {ρ:Operand->Option AV} {s:St} {K:AV->St->Prop} (x y:Operand),cZ Tryz.prog X F ρ s (.buildSlice T 2 #[(0,x),(1,y)]) K = aw (ik ρ [(0,e),(e,e)] (reps z 2) [(0,x),(1,y)]) fun c=>aw (cond (c.all flat) (some ()) none) fun _=>K (.sl s.nx 0 2 2) (s.new (.cells c E false))
theorem OS {T E e:Nat} (v:AV)(hu:Tryz.prog.underlying T = some (.slice E))(hz:bP Tryz.prog E = some v)(hs:bk Tryz.prog E = some e)(hc:(Nat.beq v.cells.length e && Nat.blt 0 e && Nat.ble (2 * e) (2 ^ 24)) = true):Kr T E e v.cells:=fun x y=>Ku hu hz hs 2 [(0,e),(e,e)] (fun j hj=>match j,hj with | 0,_=>by simp | 1,_=>by simp) hc _ rfl
theorem Ol {T E:Nat} {v:AV} (hu:Tryz.prog.underlying T = some (.slice E):=by kernel_rfl)(hz:bP Tryz.prog E = some v:=by kernel_rfl)(hs:bk Tryz.prog E = some 1:=by kernel_rfl)(hc:(Nat.beq v.cells.length 1 && Nat.blt 0 1 && Nat.ble (2 * 1) (2 ^ 24)) = true:=by kernel_rfl)(hv:v.cells = [v]:=by kernel_rfl):Kr T E 1 [v]:=hv ▸ OS v hu hz hs hc
theorem OT {T E e:Nat} {v:List AV} (hu:Tryz.prog.underlying T = some (.slice E):=by kernel_rfl)(hz:bP Tryz.prog E = some (.agg v):=by kernel_rfl)(hs:bk Tryz.prog E = some e:=by kernel_rfl)(hc:(Nat.beq v.length e && Nat.blt 0 e && Nat.ble (2 * e) (2 ^ 24)) = true:=by kernel_rfl):Kr T E e v:=OS (.agg v) hu hz hs hc
abbrev Pd (T E e k:Nat):Prop:=(∀ {z:Int} (_:0 <= z) (_:z.toNat < k) (o f:Nat),oE Tryz.prog T (.ptr o f) (.i .i64 z) = some (.ptr o (f + z.toNat * e)))/\∀ (o f l h:Nat),oJ Tryz.prog T (.ptr o f) l (some h) = cond (Nat.ble l h && Nat.ble h k && (Nat.beq l 0 || Nat.blt l k)) (some (.sl o (f + l * e) (h - l) (k - l))) none
theorem Pf {T E e k:Nat} (hk:k < cW:=by decide +kernel)(hu:Tryz.prog.underlying T = some (.array k E):=by kernel_rfl)(hs:bk Tryz.prog E = some e:=by kernel_rfl):Pd T E e k:=⟨fun h h1 o f=>IU hu hs h h1 o f,Jm hu hs hk⟩
abbrev Pc (T A B:Nat):Prop:=Tryz.prog.underlying T = some (.map A B)/\(∀ (s:St) (m k v:AV),Eb Tryz.prog s T m k v = gK Tryz.prog s A m k v)/\∀ (s:St) (ks vs:List AV),KT Tryz.prog s T (.fm ks vs) = some (.ptr s.nx 0,s.new (.walk [] ks vs))
theorem Pe {T A B:Nat} (hu:Tryz.prog.underlying T = some (.map A B):=by kernel_rfl):Pc T A B:=⟨hu,fun _ m k v=>Hi hu m k v,fun _ ks vs=>Hv hu ks vs⟩
theorem Af:yj 4 (.b false):=yw
theorem Ee:yj 3 (.i .i64 0):=yw
theorem sH:yj 199 (.i .u32 0):=yw
theorem mW:yj 42 (.i .i64 0):=yw
theorem iL:yj 27 (.i .i64 0):=yw
theorem oZ:BI 30 3 [.b false,.snil,.snil]/\lI 30 0 0/\lI 30 1 1/\lI 30 2 2/\BJ 30 [(0,1),(1,1),(2,1)] [.b false,.snil,.snil]:=⟨Cf,lV,lV,lV,De Tryz.underlying30⟩
theorem qB:BI 163 7 [.i .i64 0,.i .i64 0,.i .i64 0,.i .i64 0,.b false,.snil,.snil]/\lI 163 0 0/\lI 163 1 1/\lI 163 2 2/\lI 163 3 3/\GX 163 4 4 3/\BJ 163 [(0,1),(1,1),(2,1),(3,1),(4,3)] [.i .i64 0,.i .i64 0,.i .i64 0,.i .i64 0,.b false,.snil,.snil]:=⟨Cf,lV,lV,lV,lV,Jf,De Tryz.underlying163⟩
theorem oY:BI 82 2 [.snil,.i .i64 0]/\lI 82 0 0/\lI 82 1 1/\BJ 82 [(0,1),(1,1)] [.snil,.i .i64 0]:=⟨Cf,lV,lV,De Tryz.underlying82⟩
theorem oW:yj 28 .snil/\DF 28 199 1:=⟨yw,El⟩
theorem vP:yj 38 .snil/\Dw 38 3 1 [.i .i64 0]/\DF 38 3 1:=⟨yw,MP,El⟩
theorem lK:yj 24 .snil/\Dw 24 82 2 [.snil,.i .i64 0]/\DF 24 82 2:=⟨yw,MR,El⟩
theorem mS:BI 26 3 [.i .i64 0,.i .i64 0,.snil]/\lI 26 0 0/\lI 26 1 1/\lI 26 2 2/\BJ 26 [(0,1),(1,1),(2,1)] [.i .i64 0,.i .i64 0,.snil]:=⟨Cf,lV,lV,lV,De Tryz.underlying26⟩
theorem lM:yj 31 .snil/\Dw 31 30 3 [.b false,.snil,.snil]/\DF 31 30 3:=⟨yw,MR,El⟩
theorem jG:BI 33 8 [.i .i64 0,.i .i64 0,.snil,.i .i64 0,.b false,.snil,.snil,.snil]/\GX 33 0 0 3/\lI 33 1 3/\GX 33 2 4 3/\lI 33 3 7/\BJ 33 [(0,3),(3,1),(4,3),(7,1)] [.i .i64 0,.i .i64 0,.snil,.i .i64 0,.b false,.snil,.snil,.snil]:=⟨Cf,Jf,lV,Jf,lV,De Tryz.underlying33⟩
theorem mR:yj 65 .snil/\Dw 65 163 7 [.i .i64 0,.i .i64 0,.i .i64 0,.i .i64 0,.b false,.snil,.snil]/\DF 65 163 7:=⟨yw,MR,El⟩
theorem jX:BI 67 2 [.i .i64 0,.snil]/\lI 67 0 0/\lI 67 1 1/\BJ 67 [(0,1),(1,1)] [.i .i64 0,.snil]:=⟨Cf,lV,lV,De Tryz.underlying67⟩
theorem sJ:yj 249 .snil/\Dw 249 4 1 [.b false]/\DF 249 4 1:=⟨yw,MP,El⟩
theorem OP:type_of% @Af/\type_of% @Ee/\type_of% @sH/\type_of% @mW/\type_of% @iL/\type_of% @oZ/\type_of% @qB/\type_of% @oY/\type_of% @oW/\type_of% @vP/\type_of% @lK/\type_of% @mS/\type_of% @lM/\type_of% @jG/\type_of% @mR/\type_of% @jX/\type_of% @sJ:=⟨Af,Ee,sH,mW,iL,oZ,qB,oY,oW,vP,lK,mS,lM,jG,mR,jX,sJ⟩
theorem i6:laidOutB Tryz.prog = true:=by kernel_rfl
theorem ju:Tryz.prog.follows .mixedOrders = true:=by kernel_rfl
end Go.Proofs.YtkdhppimhdemjaaGreat
