/- Lemmas on the way: Jv2. -/
import Derived.Test.YtdehimgccmbfkaaGreatT30
set_option linter.all false
set_option maxRecDepth 1000000
set_option maxHeartbeats 32000000
namespace Go.Proofs.YtdehimgccmbfkaaGreat
open Go.RowKit
section
section
variable {P:Program} {X:Env} {E:Ev} {ρ:Operand->Option AV} {s:St} {K:AV->St->Prop}
def lenOk (l c:Nat):Option Unit:=cond (Nat.ble l c && Nat.ble c 1000000) (some ()) none
theorem lenOk_ok {l c:Nat} (h:l <= c)(h1:c <= 1000000):lenOk l c = some ():=by unfold lenOk; rw [ble_true h,ble_true h1]; rfl
def elT (P:Program) (e:TypeId) (z:AV) (n:Nat):Bool:=match P.info? e with
 | some i=>z.cells.all flat && Nat.beq z.cells.length i.size && Nat.blt 0 i.size && Nat.ble i.bytes 1000000 && Nat.beq i.size n && Nat.ble n 1000000
 | none=>false
theorem elT_some {e:TypeId} {z:AV} {n:Nat} (h:elT P e z n = true):∃ i,P.info? e = some i/\z.cells.all flat = true/\Nat.beq z.cells.length i.size = true/\Nat.blt 0 i.size = true/\Nat.ble i.bytes 1000000 = true/\i.size = n/\Nat.ble n 1000000 = true:=by
 unfold elT at h
 split at h
 ·next i hi =>
  simp only [Bool.and_eq_true] at h
  obtain ⟨⟨⟨⟨⟨h1,h2⟩,h3⟩,h4⟩,h5⟩,h6⟩:=h
  exact ⟨i,hi,h1,h2,h3,h4,Nat.eq_of_beq_eq_true h5,h6⟩
 cases h
theorem O_mk {t e:TypeId} {z:AV} {nz:Nat} (hu:P.underlying t = some (.slice e))(hz:zeroT P e = some z)(hc:elT P e z nz = true) (l c:Operand) :
  opK P X E ρ s (.makeSlice t l c) K = bindK (ρ l) fun a=>bindK (ρ c) fun b=>bindK (bnd a) fun l=>bindK (bnd b) fun c=>bindK (lenOk l c) fun _=>K (.sl s.nx 0 l c) (s.new (.cells (reps z.cells c) e false)):=by
 obtain ⟨i,hi,h1,h2,h3,h4,_,_⟩:=elT_some hc
 rw [O_makeSlice]
 simp only [alA,hu,hz,hi]
 cases ρ l with
 | none=>rfl
 | some a =>
  cases ρ c with
  | none=>simp only [bindK_some,Option.bind_some,Option.bind_none]; cases bnd a <;> rfl
  | some b =>
   simp only [bindK_some,Option.bind_some]
   cases bnd a with
   | none=>rfl
   | some n =>
    cases bnd b with
    | none=>rfl
    | some m =>
     simp only [bindK_some,hz,hi,h1,h2,h3,h4,Bool.true_and,Bool.and_true,lenOk]
     cases (Nat.ble n m && Nat.ble m 1000000) <;> rfl
theorem O_mf1 (f:FuncId) (x:Operand):opK P X E ρ s (.makeFunc (.func f) #[] #[x]) K = bindK (ρ x) fun a=>K (.fn f [] [a]) s:=by
 unfold opK
 simp only [opA,kindA,rdA]
 cases hx:ρ x with
 | none=>simp [hx,bindK]
 | some a=>simp [hx,bindK]
def fillL (ρ:Operand->Option AV) (pl:List (Nat × Nat)):List AV->List (Nat × Operand)->Option (List AV):=fillA ρ fun i=>pl[i]?
theorem fillL_nil (pl:List (Nat × Nat)) (c:List AV):fillL ρ pl c [] = some c:=rfl
theorem fillL_cons (pl:List (Nat × Nat)) (c:List AV) (i:Nat) (x:Operand) (ps:List (Nat × Operand)):fillL ρ pl c ((i,x) :: ps) = match pl[i]?,ρ x with
  | some (off,n),some v=>cond (Nat.beq v.cells.length n && Nat.ble (off + n) c.length) (fillL ρ pl (putR c off v.cells) ps) none
  | _,_=>none:=rfl
theorem fillL_arr (pl:List (Nat × Nat)) (c:List AV) (l:List (Nat × Operand)):fillL ρ pl c (l.toArray).toList = fillL ρ pl c l:=rfl
theorem O_bl {t:TypeId} {z:AV} {fs:Array Field} {pl:List (Nat × Nat)} (hz:zeroT P t = some z)(hu:P.underlying t = some (.struct fs))(hp:placesA P fs.toList = some pl) (ps:Array (Nat × Operand)) :
  opK P X E ρ s (.build t ps) K = bindK (fillL ρ pl z.cells ps.toList) fun c=>K (.agg c) s:=by
 rw [O_build]
 simp only [rdA,hz,hu,hp]
 show bindK ((fillL ρ pl z.cells ps.toList).map AV.agg) _ = _
 cases fillL ρ pl z.cells ps.toList <;> rfl
theorem O_bs {t e:TypeId} {z:AV} {n:Nat} (hu:P.underlying t = some (.slice e))(hz:zeroT P e = some z)(hn:sizeT P e = some n)(hc:(Nat.beq z.cells.length n && Nat.blt 0 n && Nat.ble (1 * n) (2 ^ 24)) = true) (x:Operand) :
  opK P X E ρ s (.buildSlice t 1 #[(0,x)]) K = bindK (ρ x) fun v=>bindK (cond (Nat.beq v.cells.length n && v.cells.all flat) (some ()) none) fun _=>K (.sl s.nx 0 1 1) (s.new (.cells v.cells e false)):=by
 have hc1:=hc
 simp only [Bool.and_eq_true] at hc1
 obtain ⟨⟨h1,h2⟩,h3⟩:=hc1
 rw [O_buildSlice]
 simp only [alA,hu,hz,hn,hc,cond_true,fillA]
 have hl:z.cells.length = n:=Nat.eq_of_beq_eq_true h1
 cases ρ x with
 | none=>rfl
 | some v =>
  simp only [bindK_some,Nat.zero_mul,Nat.zero_add]
  by_cases hv:v.cells.length = n
  ·have e1:Nat.beq v.cells.length n = true:=by rw [Nat.beq_eq]; exact hv
   have hr:(reps z.cells 1).length = n:=by simp [reps,hl]
   have hb:Nat.ble n (reps z.cells 1).length = true:=ble_true (by omega)
   have hp:putR (reps z.cells 1) 0 v.cells = v.cells:=by
    apply List.ext_getElem?
    intro i
    rw [putR_get,hr,hv]
    by_cases hi:i < n
    ·rw [if_pos ⟨by omega,by omega,hi⟩]; simp
    rw [if_neg (by omega),List.getElem?_eq_none (by omega),List.getElem?_eq_none (by omega)]
   rw [e1,hb,hp]
   simp only [Bool.true_and,cond_true,Option.bind_some]
   cases v.cells.all flat <;> rfl
  have e1:Nat.beq v.cells.length n = false:=by
   cases h:Nat.beq v.cells.length n with
   | false=>rfl
   | true=>exact absurd (Nat.eq_of_beq_eq_true h) hv
  rw [e1]
  rfl
def apO (z:Nat) (e:TypeId) (s:St) (o n:Nat):Option AO->List AV->Option (AV × St)
 | some (.cells c e' _),new=>cond (Nat.beq c.length (n * z) && Nat.beq e e' && Nat.ble (n * z + z) 1000000) (some (.sl s.nx 0 (n + 1) (big + z),(s.drop o).new (.cells (c ++ new) e true))) none
 | _,_=>none
def apR (z:Nat):Option AO->Option (List AV)
 | some (.cells d _ _)=>(getR d 0 z).bind fun l=>cond (Nat.beq l.length z) (some l) none
 | _=>none
theorem apR_eq (z:Nat) (d:List AV) (t:TypeId) (op:Bool):apR z (some (.cells d t op)) = (getR d 0 z).bind fun l=>cond (Nat.beq l.length z) (some l) none:=rfl
theorem getR_all' {c:List AV} {n:Nat} (h:c.length = n):getR c 0 n = some c:=by
 subst h
 exact getR_eq' c
where getR_eq':∀ c:List AV,getR c 0 c.length = some c
 | []=>rfl
 | x :: l=>by rw [List.length_cons,x_getRC,getR_eq' l]; rfl
theorem big_large:1000000 < big:=by unfold big; omega
theorem appV_nil {t t' e:TypeId} {z:Nat} {zv:AV} (hu:P.underlying t = some (.slice e)) (hu':P.underlying t' = some (.slice e))(hz:zeroT P e = some zv)(hc:elT P e zv z = true) (o:Nat) (s:St) :
  appV P t t' .snil (.sl o 0 1 1) s = (apR z (s.h.get o)).map fun new=>(.sl s.nx 0 1 (big + z),s.new (.cells new e true)):=by
 obtain ⟨i,hi,h1,h3,h2,h4,rfl,h6⟩:=elT_some hc
 have hb:0 < i.size:=by simpa [Nat.blt_eq] using h2
 unfold appV
 simp only [hu,hu',appendA,hi,hz,readsA]
 cases s.h.get o with
 | none=>rfl
 | some x =>
  cases x with
  | cells d e' op =>
   simp only [apR,Nat.one_mul]
   cases hg:getR d 0 i.size with
   | none=>rfl
   | some l =>
    have hl:=(getR_spec hg).1
    have hm:Nat.ble ([] ++ l:List AV).length 1000000 = true:=by rw [List.nil_append,hl]; exact h6
    simp only [List.length_nil,Nat.zero_add,hl,h1,h2,h3,h4,h6,Bool.true_and,Bool.and_true,cond_true,Option.bind_some,x_nbeq,Option.map_some]
    rw [show Nat.beq i.size 0 = false from by
     cases h:Nat.beq i.size 0 with
     | false=>rfl
     | true=>have:=Nat.eq_of_beq_eq_true h; omega,Nat.div_self hb]
    rfl
  | _=>rfl
theorem appV_sl {t t' e:TypeId} {z:Nat} {zv:AV} (hu:P.underlying t = some (.slice e)) (hu':P.underlying t' = some (.slice e))(hz:zeroT P e = some zv)(hc:elT P e zv z = true) (o o' n cap:Nat)(hcap:cap = big + z) (s:St) {v:AV} {s':St}
  (h:((apR z (s.h.get o')).bind fun new=>apO z e s o n (s.h.get o) new) = some (v,s')):appV P t t' (.sl o 0 n cap) (.sl o' 0 1 1) s = some (v,s'):=by
 obtain ⟨i,hi,h1,h3,h2,h4,rfl,h6⟩:=elT_some hc
 have hb:0 < i.size:=by simpa [Nat.blt_eq] using h2
 subst hcap
 unfold appV
 simp only [hu,hu',appendA,hi,hz,readsA]
 cases hx:s.h.get o' with
 | none=>rw [hx] at h; cases h
 | some x =>
  cases x with
  | cells d e' op =>
   simp only [hx,apR,Nat.one_mul] at h ⊢
   cases hg:getR d 0 i.size with
   | none=>rw [hg] at h; cases h
   | some l =>
    have hl:=(getR_spec hg).1
    simp only [hg,hl,Option.bind_some,x_nbeq,cond_true] at h
    cases hy:s.h.get o with
    | none=>rw [hy] at h; cases h
    | some y =>
     rw [hy] at h
     cases y with
     | cells c e2 op2 =>
      simp only [apO] at h
      obtain ⟨hc1,h⟩:=cond_some h
      cases h
      simp only [Bool.and_eq_true] at hc1
      obtain ⟨⟨g1,g2⟩,g3⟩:=hc1
      have g1:=Nat.eq_of_beq_eq_true g1
      obtain rfl:=Nat.eq_of_beq_eq_true g2
      have g3':n * i.size + i.size <= 1000000:=by simpa [Nat.ble_eq] using g3
      have hg1:getR c 0 (n * i.size) = some c:=getR_all' g1
      have hbig:=big_large
      simp only [hg1,g1,h1,h2,h3,h4,hl,g3,Bool.true_and,Bool.and_true,cond_true,Nat.zero_add]
      rw [show Nat.blt (big + i.size) big = false from by
        cases h:Nat.blt (big + i.size) big with
        | false=>rfl
        | true=>rw [Nat.blt_eq] at h; omega,
       show Nat.beq (big + i.size) (big + i.size) = true from x_nbeq _,
       show Nat.ble (n * i.size + i.size) (n * i.size) = false from by
        cases h:Nat.ble (n * i.size + i.size) (n * i.size) with
        | false=>rfl
        | true=>have:=Nat.le_of_ble_eq_true h; omega,
       show Nat.beq e e = true from x_nbeq _,Nat.div_self hb]
      rfl
     | _=>cases h
  | _=>rw [hx] at h; cases h
def appW (P:Program) (t t':TypeId) (o n cap o':Nat) (s:St):Option (AV × St):=appV P t t' (.sl o 0 n cap) (.sl o' 0 1 1) s
def ap3 (P:Program) (t t' e:TypeId) (z o n cap o':Nat) (s:St) (c:List AV):Option (List AV)->Option (AV × St)
 | some l=>cond (Nat.beq l.length z) (some (.sl s.nx 0 (n + 1) (big + z),(s.drop o).new (.cells (c ++ l) e true))) (appW P t t' o n cap o' s)
 | none=>appW P t t' o n cap o' s
def ap2 (P:Program) (t t' e:TypeId) (z o n cap o':Nat) (s:St):Option AO->Option AO->Option (AV × St)
 | some (.cells c e' _),some (.cells d _ _)=>cond (Nat.beq c.length (n * z) && Nat.beq e e' && Nat.ble (n * z + z) 1000000) (ap3 P t t' e z o n cap o' s c (getR d 0 z)) (appW P t t' o n cap o' s)
 | _,_=>appW P t t' o n cap o' s
theorem ap3_some (t t' e:TypeId) (z o n cap o':Nat) (s:St) (c l:List AV):ap3 P t t' e z o n cap o' s c (some l) = cond (Nat.beq l.length z) (some (.sl s.nx 0 (n + 1) (big + z),(s.drop o).new (.cells (c ++ l) e true))) (appW P t t' o n cap o' s):=rfl
theorem ap2_some (t t' e:TypeId) (z o n cap o':Nat) (s:St) {c:List AV} {op:Bool} (d:List AV) (t2:TypeId) (op2:Bool)(h:c.length = n * z)(h1:n * z + z <= 1000000):ap2 P t t' e z o n cap o' s (some (.cells c e op)) (some (.cells d t2 op2)) = ap3 P t t' e z o n cap o' s c (getR d 0 z):=by
 simp only [ap2]
 rw [ble_true h1,show Nat.beq c.length (n * z) = true by rw [Nat.beq_eq]; exact h,x_nbeq]
 rfl
theorem appV_2 {t t' e:TypeId} {z:Nat} {zv:AV} (hu:P.underlying t = some (.slice e)) (hu':P.underlying t' = some (.slice e))(hz:zeroT P e = some zv)(hc:elT P e zv z = true) (o o' n:Nat) (s:St):appV P t t' (.sl o 0 n (big + z)) (.sl o' 0 1 1) s = ap2 P t t' e z o n (big + z) o' s (s.h.get o) (s.h.get o'):=by
 unfold ap2
 split
 ·next c e' op d t2 op2 h1 h2 =>
  cases hb:(Nat.beq c.length (n * z) && Nat.beq e e' && Nat.ble (n * z + z) 1000000) with
  | false=>rfl
  | true =>
   cases hg:getR d 0 z with
   | none=>rfl
   | some l =>
    simp only [ap3,cond_true]
    cases hl:Nat.beq l.length z with
    | false=>rfl
    | true=>exact appV_sl hu hu' hz hc o o' n _ rfl s (by rw [h1,h2]; simp only [apR,hg,Option.bind_some,hl,cond_true,apO,hb])
 rfl
theorem ev2:type_of% (And.intro @O_mf1 (And.intro @lenOk_ok (And.intro @fillL_nil (And.intro @fillL_cons (And.intro @fillL_arr (And.intro @ap2_some (And.intro @ap3_some @apR_eq))))))):=(And.intro @O_mf1 (And.intro @lenOk_ok (And.intro @fillL_nil (And.intro @fillL_cons (And.intro @fillL_arr (And.intro @ap2_some (And.intro @ap3_some @apR_eq)))))))
end
section
variable {P:Program} {f:FuncId} {n:Nat} {s:St}
theorem Thn.x {K:Fr->St->Prop} {Q:Ex->Fr->St->Prop} {fr:Fr} {i:Nat} (h:Q (.exit i) fr s):Thn K Q (.exit i) fr s:=h
theorem Blk_.norm {Q:Ex->Fr->St->Prop} {i:Nat} {fr:Fr} (h:Q .normal fr s):Blk_ i Q .normal fr s:=h
theorem Done.c1 {fn:Func} {R:AV->St->Prop} {l:List (Nat × AV)} {k:Tmp} {t:TypeId} {p v:AV} (hr:fn.results = #[.cell k t])(hp:getL l k = some p)(hv:loadA P s t p = some v)(h:R v s):Done P fn R .ret ⟨f,n,Tr.of l,none,[]⟩ s:=by
 refine ⟨trivial,rfl,[v],?_,h⟩
 rw [hr]
 simp only [resAs,resA,Tr.of_get,hp,List.foldl_nil,hv,Option.map_some]
theorem Done.c2 {fn:Func} {R:AV->St->Prop} {l:List (Nat × AV)} {k j:Tmp} {t:TypeId} {p v u:AV} (hr:fn.results = #[.cell k t,.tmp j])(hp:getL l k = some p)(hv:loadA P s t p = some v)(hu:getL l j = some u)(h:R (.tup [v,u]) s):Done P fn R .ret ⟨f,n,Tr.of l,none,[]⟩ s:=by
 refine ⟨trivial,rfl,[v,u],?_,h⟩
 rw [hr]
 simp only [resAs,resA,Tr.of_get,hp,List.foldl_nil,hv,hu,Option.map_some]
end
end
end Go.Proofs.YtdehimgccmbfkaaGreat
