/- Lemmas on the way: Jf1, Jd6, Jd7, Dc0, Dc1, Jt3, Jx2, Jx3, Jt4. -/
import Derived.Deep.Slices
import Derived.ChangeShapes
import Derived.WideShapes
import Derived.Laws.Rows
import Derived.Test.YtkdhppimhdemjaaGreatU36
set_option linter.all false
set_option maxRecDepth 1000000
set_option maxHeartbeats 32000000
namespace Go.Proofs.YtkdhppimhdemjaaGreat
open Go.RowKit
section
open Go.RowKit Go.ChangeShapes Go.WideShapes

def yA (W:World):Mu:=⟨fun _=>none,fun b i=>de W b i⟩
theorem uR (W:World):bA (yA W) ⟨.nil,0⟩ W:=⟨⟨fun o x e=>(by cases e),fun o o' x x' p p' e=>(by cases e),fun o n A m c o' x' p' e=>(by cases e),fun o _=>rfl⟩,fun b i v hv=>⟨rm hv,hv,fun o x p e=>(by cases e)⟩⟩
def vS (P:Program):List Field->Nat->Option Nat
 | [],o=>some o
 | f :: fs,o=>cond (Nat.beq f.offset o) (vS P fs (o + P.cellsOf f.type)) none
def kg (P:Program):Nat->TypeId->Bool
 | 0,_=>false
 | k + 1,t=>match P.underlying t with
  | some .bool=>true
  | some (.int _)=>true
  | some (.slice e)=>Nat.blt 0 (P.cellsOf e) && kg P k e
  | some (.struct fs)=>(match vS P fs.toList 0 with | some n=>Nat.beq n (P.cellsOf t) | none=>false) && fs.toList.all fun f=>kg P k f.type
  | _=>false
def JT (R:TypeId->List AV->Prop) (sz:TypeId->Nat):List Field->List AV->Prop
 | [],xs=>xs = []
 | f :: fs,xs=>∃ a b,xs = a ++ b/\a.length = sz f.type/\R f.type a/\JT R sz fs b
def ga (P:Program):Nat->TypeId->List AV->Prop
 | 0,_,_=>False
 | k + 1,t,xs=>match P.underlying t with
  | some .bool=>∃ b,xs = [.b b]
  | some (.int i)=>∃ n,xs = [.i i n]/\(Lit.int i n).wf = true
  | some (.slice e)=>∃ ls:List (List AV),ls.length <= maxLen/\(∀ l ∈ ls,l.length = P.cellsOf e/\ga P k e l)/\xs = [.vw ls.flatten ls.length]
  | some (.struct fs)=>JT (ga P k) P.cellsOf fs.toList xs
  | _=>False
theorem u7 {W:World} {b z:Nat} {C:Nat->List Value}:∀ (len base:Nat),(∀ i,i < len->(C i).length = z/\∀ j v,(C i)[j]? = some v->W.cell? ⟨b,base + i * z + j,none⟩ = some v) ->
  (((List.range len).flatMap C).length = len * z)/\∀ j v,((List.range len).flatMap C)[j]? = some v->W.cell? ⟨b,base + j,none⟩ = some v:=by
 intro len base
 induction len with
 | zero=>intro _; simp
 | succ n ih =>
  intro h
  obtain ⟨h1,h2⟩:=ih fun i hi=>h i (by omega)
  obtain ⟨h3,h4⟩:=h n (by omega)
  rw [List.range_succ,List.flatMap_append]
  have e:[n].flatMap C = C n:=by simp
  rw [e]
  refine ⟨by rw [List.length_append,h1,h3,Nat.add_mul]; omega,fun j v hj=>?_⟩
  rw [List.getElem?_append] at hj
  split at hj
  ·exact h2 j v hj
  next hn =>
  rw [h1] at hj hn
  have:=h4 _ v hj
  rwa [show base + n * z + (j - n * z) = base + j by omega] at this
theorem jT {μ:Mu} {G:Nat->List AV} {C:Nat->List Value}:∀ l:List Nat,(∀ i ∈ l,ao μ (G i) (C i))->ao μ (l.flatMap G) (l.flatMap C)
 | [],_=>ao.nil_
 | i :: l,h=>by
  rw [List.flatMap_cons,List.flatMap_cons]
  exact (h i List.mem_cons_self).append (jT l fun j hj=>h j (List.mem_cons_of_mem _ hj))
section
variable {H:Type} {enc:TypeId × Value->H} {P:Program} {W:World} {held:Bool}
theorem Cp {k n:Nat} (ih:∀ t,kg P k t = true->∀ {fuel:Nat} {cs:List Value} {x:DataW H × List MemPlace},DataW.trod enc P W 0 (fun _=>true) held fuel t cs = some x->∃ xs,xs.length = cs.length/\ga P k t xs/\ao (yA W) xs cs) {cs:List Value} :
  ∀ (fs:List Field) (o e:Nat),vS P fs o = some e->(fs.all fun f=>kg P k f.type) = true->e = cs.length->(∀ f ∈ fs,∃ x,DataW.trod enc P W 0 (fun _=>true) held n f.type ((cs.drop f.offset).take (P.cellsOf f.type)) = some x)->o <= e /\
   ∃ xs,JT (ga P k) P.cellsOf fs xs/\ao (yA W) xs (cs.drop o):=by
 intro fs
 induction fs with
 | nil =>
  intro o e h _ he _
  simp only [vS,Option.some.injEq] at h
  subst h
  refine ⟨Nat.le_refl _,[],rfl,?_⟩
  rw [List.drop_of_length_le (by omega)]
  exact ao.nil_
 | cons f fs ihf =>
  intro o e h hp he hx
  simp only [vS] at h
  obtain ⟨ho,h⟩:=aj h
  have ho:=Nat.eq_of_beq_eq_true ho
  simp only [List.all_cons,Bool.and_eq_true] at hp
  obtain ⟨x,hfx⟩:=hx f List.mem_cons_self
  obtain ⟨hle,xs,h1,h2⟩:=ihf _ _ h hp.2 he fun g hg=>hx g (List.mem_cons_of_mem _ hg)
  obtain ⟨a,ha,hs,hv⟩:=ih _ hp.1 hfx
  rw [ho] at ha hv
  have hl:a.length = P.cellsOf f.type:=by rw [ha,List.length_take,List.length_drop]; omega
  refine ⟨by omega,a ++ xs,⟨a,xs,rfl,hl,hs,h1⟩,?_⟩
  have:=hv.append h2
  rwa [<- List.drop_drop,List.take_append_drop] at this
theorem wg:∀ (k:Nat) (t:TypeId),kg P k t = true->∀ {fuel:Nat} {cs:List Value} {x:DataW H × List MemPlace},DataW.trod enc P W 0 (fun _=>true) held fuel t cs = some x->∃ xs,xs.length = cs.length/\ga P k t xs/\ao (yA W) xs cs:=by
 intro k
 induction k with
 | zero=>intro t h; cases h
 | succ k ih =>
  intro t hp fuel cs x h
  simp only [kg] at hp
  split at hp
  ·next hu =>
   obtain ⟨b,rfl,_⟩:=DataW.trod_bool hu h
   exact ⟨[.b b],rfl,by simp only [ga,hu]; exact ⟨b,rfl⟩,ao.cons (by simp [VR]) ao.nil_⟩
  ·next i hu =>
   obtain ⟨n,rfl,_,hw⟩:=DataW.trod_int hu h
   exact ⟨[.i i n],rfl,by simp only [ga,hu]; exact ⟨n,rfl,hw⟩,ao.cons (by simp [VR]) ao.nil_⟩
  ·next e hu =>
   simp only [Bool.and_eq_true,Nat.blt_eq] at hp
   obtain ⟨hz,hp⟩:=hp
   rcases Go.Deep.open_slice hu h with ⟨rfl,_⟩ | ⟨a,len,cap,m,n,D,Pl,rfl,_,hl,hm,hmm,_,hall⟩
   ·refine ⟨[.vw [] 0],rfl,by simp only [ga,hu]; exact ⟨[],Nat.zero_le _,(fun l hl=>by cases hl),rfl⟩,ao.cons ?_ ao.nil_⟩
    simp only [VR]
    exact ⟨[],⟨none,0,rfl,Nat.le_refl _,Nat.zero_le _,fun h=>absurd h (by simp)⟩,ao.nil_⟩
   simp only [if_true] at hmm
   have key:∀ i,∃ q:List AV × List Value,i < len->q.1.length = P.cellsOf e/\q.2.length = P.cellsOf e/\ga P k e q.1/\ao (yA W) q.1 q.2/\∀ j v,q.2[j]? = some v->W.cell? ((a.add (i * P.cellsOf e)).add j) = some v:=by
    intro i
    by_cases hi:i < len
    ·obtain ⟨cs',h1,h2⟩:=hall i (by omega)
     obtain ⟨_,hlen,hcell⟩:=World.cells?_some h1
     obtain ⟨xs,g1,g2,g3⟩:=ih e hp h2
     exact ⟨(xs,cs'),fun _=>⟨g1.trans hlen,hlen,g2,g3,fun j v hj=>by rw [hcell j (by have h9:j < cs'.length:=(List.getElem?_eq_some_iff.1 hj).1; omega)]; exact hj⟩⟩
    exact ⟨([],[]),fun h=>absurd h hi⟩
   obtain ⟨G,hG⟩:=Classical.axiomOfChoice key
   have hsh:∀ l ∈ (List.range len).map fun i=>(G i).1,l.length = P.cellsOf e/\ga P k e l:=fun l hml=>by
    obtain ⟨i,hi,rfl⟩:=List.mem_map.1 hml
    have:=hG i (by simpa using hi)
    exact ⟨this.1,this.2.2.1⟩
   refine ⟨[.vw ((List.range len).map fun i=>(G i).1).flatten ((List.range len).map fun i=>(G i).1).length],rfl,by simp only [ga,hu]; exact ⟨_,by rw [List.length_map,List.length_range]; exact Nat.le_trans hl hm,hsh,rfl⟩,ao.cons ?_ ao.nil_⟩
   simp only [VR]
   rw [List.length_map,List.length_range]
   have hfl:((List.range len).map fun i=>(G i).1).flatten = (List.range len).flatMap fun i=>(G i).1:=rfl
   rw [hfl]
   obtain ⟨b,off,s⟩:=a
   refine ⟨(List.range len).flatMap fun i=>(G i).2,⟨_,cap,rfl,hl,hm,fun hn=>?_⟩,jT _ fun i hi=>(hG i (by simpa using hi)).2.2.2.1⟩
   obtain ⟨g1,g2,_,_,g5⟩:=hG 0 hn
   obtain ⟨u,hu0⟩:∃ u,(G 0).2[0]? = some u:=⟨_,List.getElem?_eq_getElem (by omega)⟩
   have h0:=g5 0 u hu0
   have hs:s = none:=by simpa [Addr.add] using World.cell?_spot h0
   subst hs
   refine ⟨b,off,rfl,fun i v hv=>?_⟩
   refine fI ?_ (ao.noM (jT (μ:=yA W) _ fun i hi=>(hG i (by simpa using hi)).2.2.2.1) v (List.mem_of_getElem? hv))
   refine (u7 (W:=W) (b:=b) (z:=P.cellsOf e) (C:=fun i=>(G i).2) len off fun i hi=>?_).2 i v hv
   obtain ⟨_,g2,_,_,g5⟩:=hG i hi
   refine ⟨g2,fun j v hj=>?_⟩
   have:=g5 j v hj
   rwa [add_plain,add_plain] at this
  ·next fs hu =>
   simp only [Bool.and_eq_true] at hp
   obtain ⟨h1,h2⟩:=hp
   split at h1
   ·next e ht =>
    rw [Nat.beq_eq] at h1
    obtain ⟨xs,n,_,_,hl,hlen,hf⟩:=DataW.trod_struct hu h
    obtain ⟨_,ys,g1,g2⟩:=Cp (n:=n) (cs:=cs) (fun t hp=>ih t hp) fs.toList 0 e ht h2 (h1.trans hl.symm) fun f hf'=>by
     obtain ⟨i,hi⟩:=List.mem_iff_getElem?.1 hf'
     have hi':fs[i]? = some f:=by simpa using hi
     have hlt:=(List.getElem?_eq_some_iff.1 hi).1
     rw [hf i f hi']
     exact ⟨_,List.getElem?_eq_getElem (by simp at hlt; omega)⟩
    rw [List.drop_zero] at g2
    exact ⟨ys,g2.length,by simp only [ga,hu]; exact g1,g2⟩
   cases h1
  cases hp
theorem wI {k:Nat} {t:TypeId} {fs:Array Field} {v:Value} {d:DataW H} {ps:List MemPlace} {r:Reach} {b0:Nat} (hu:P.underlying t = some (.struct fs))(hp:kg P k t = true)(hv:Value.okWide P W r b0 t v)(h:DataW.Trod enc P W 0 (fun _=>true) held t v d ps) :
  ∃ xs,ga P k t xs/\VR (yA W) (.agg xs) v:=by
 obtain ⟨cs,rfl,_⟩:=okWide_struct hu hv
 obtain ⟨fuel,hf⟩:=h
 obtain ⟨xs,_,h1,h2⟩:=wg k t hp hf
 exact ⟨xs,h1,by simp only [VR]; exact ⟨cs.toList,by simp,by simpa [Value.cells] using h2⟩⟩
theorem EV {k:Nat} {t:TypeId} {v:Value} {d:DataW H} {ps:List MemPlace} (hp:kg P k t = true)(hc:v.cells = #[v])(h:DataW.Trod enc P W 0 (fun _=>true) held t v d ps) :
  ∃ x,ga P k t [x]/\VR (yA W) x v:=by
 obtain ⟨fuel,hf⟩:=h
 rw [hc] at hf
 obtain ⟨xs,hl,h1,h2⟩:=wg k t hp hf
 match xs,hl with
 | [x],_ =>
  simp only [ao] at h2
  obtain ⟨y,ys,e,h3,_⟩:=h2
  simp only [List.cons.injEq] at e
  obtain ⟨rfl,_⟩:=e
  exact ⟨x,h1,h3⟩
theorem IK {f:FuncId} {g:List AV->Option AV} (hA:ag P f (ae g)) {args:List AV} {vs:List Value} (hg:g args = some (.b true))(hv:ao (yA W) args vs):Calls P f vs.toArray W fun e w'=>e = .returned (.bool true)/\Below W.heap.size W w':=by
 have h1:=(hA (args:=args) (s:=⟨.nil,0⟩) (eY hg _)).2 (μ:=yA W) (w:=W) (vs:=vs) 10 (uR W) hv (fun _ _ _=>rfl)
 refine (callsIn_wide.1 h1).mono ?_
 rintro e w' ⟨v',μ',rfl,r,t,hv⟩
 simp only [VR] at hv
 subst hv
 exact ⟨rfl,t.os,t.tape,t.output,t.size,fun g hg=>t.blk g hg fun o x p e=>(by cases e)⟩
end
end
section
def pt (s:St):AV->Option AV
 | .sl o off n cap=>match s.h.get o with
  | some (.cells c _ _)=>cond (aE c && Nat.ble n cap) (some (.vw (c.drop off) n)) none
  | _=>none
 | .snil=>some (.vw [] 0)
 | x=>cond (bare x) (some x) none
def lR (s:St):List AV->Option (List AV)
 | []=>some []
 | x :: l=>match pt s x,lR s l with
  | some y,some m=>some (y :: m)
  | _,_=>none
def qR:AV->Bool
 | .b _ | .i _ _=>true
 | _=>false
def fB (g:List AV->Option AV) (args:List AV) (s:St):Option (AV × St):=(lR s args).bind fun xs=>(g xs).bind fun v=>cond (qR v) (some (v,s)) none
theorem nD {g:List AV->Option AV} {args xs:List AV} {s:St} {v:AV} (h:lR s args = some xs)(hg:g xs = some v)(hv:qR v = true):fB g args s = some (v,s):=by
 simp only [fB,h,hg,Option.bind_some,hv,cond_true]
section
variable {P:Program} {μ:Mu} {s:St} {w:World}
theorem Ja (h:bA μ s w) {o:Nat} {c:List AV} {t:TypeId} {op:Bool} (ho:s.h.get o = some (.cells c t op))(hb:aE c = true):Ml o c ⟨μ.loc,fun b i=>de w b i⟩:=by
 intro p hq
 have hq:μ o = some (.at_ p):=hq
 have hob:=h.obj o _ ho (by rw [hq]; simp)
 simp only [OR] at hob
 obtain ⟨p',cs,h1,h2,h3,h4,h5⟩:=hob
 rw [hq] at h1
 cases h1
 have key:∀ (k:Nat) (l:List AV) (off:Nat),l.length = k->(∀ i x,l[i]? = some x->c[off + i]? = some x)->∃ m,ao μ l m/\∀ i v,m[i]? = some v->cs[p.base + off + i]? = some v:=by
  intro k
  induction k with
  | zero=>intro l off hl _; exact ⟨[],by rw [List.eq_nil_of_length_eq_zero hl]; exact ao.nil_,by simp⟩
  | succ k ih =>
   intro l off hl hx
   cases l with
   | nil=>simp at hl
   | cons y l =>
    obtain ⟨z,hz,hv⟩:=h5 off y (hx 0 y rfl)
    obtain ⟨m,g1,g2⟩:=ih l (off + 1) (by simpa using hl) (fun i x hi=>by rw [show off + 1 + i = off + (i + 1) by omega]; exact hx (i + 1) x (by simpa using hi))
    refine ⟨z :: m,ao.cons hv g1,fun i v hi=>?_⟩
    cases i with
    | zero=>simp at hi; subst hi; exact hz
    | succ i=>have:=g2 i v (by simpa using hi); rw [show p.base + off + (i + 1) = p.base + (off + 1) + i by omega]; exact this
 obtain ⟨m,g1,g2⟩:=key c.length c 0 rfl (fun i x h=>by rw [Nat.zero_add]; exact h)
 refine ⟨m,fun i v hi=>?_,eF (μ:=μ) (fun b i v hv=>(h.fz b i v hv).2.1) c hb g1⟩
 have hc:=g2 i v hi
 rw [Nat.add_zero] at hc
 exact fI (by simpa [World.cell?,h2] using hc) (ao.noM g1 v (List.mem_of_getElem? hi))
theorem E9 (h:bA μ s w) {x y:AV} {v:Value} (hx:pt s x = some y)(hv:VR μ x v):bare y = true/\VR (yA w) y v:=by
 have hz:∀ b i v,μ.fz b i = some v->(yA w).fz b i = some v:=fun b i v hv=>(h.fz b i v hv).2.1
 have one:∀ {x y:AV},cond (bare x) (some x) none = some y->VR μ x v->bare y = true/\VR (yA w) y v:=fun h hv=>by
  obtain ⟨hb,h⟩:=aj h
  cases h
  exact ⟨hb,fi hz _ hb hv⟩
 cases x with
 | sl o off n cap =>
  simp only [pt] at hx
  split at hx
  ·next c t op ho =>
   obtain ⟨hc,hx⟩:=aj hx
   cases hx
   simp only [Bool.and_eq_true,Nat.ble_eq] at hc
   refine ⟨rfl,fi (μ:=⟨μ.loc,fun b i=>de w b i⟩) (fun _ _ _ h=>h) _ rfl ((Wk.frz_sl hc.2).1 _ (Ja h ho hc.1) _ ?_)⟩
   simp only [VR] at hv ⊢
   exact hv
  cases hx
 | snil=>cases hx; exact ⟨rfl,(Wk.none (fun _=>True)).1 _ trivial _ (by simpa only [VR] using hv)⟩
 | _=>exact one (by simp only [pt] at hx; exact hx) hv
theorem xa (h:bA μ s w):∀ {l m:List AV} {vs:List Value},lR s l = some m->ao μ l vs->ao (yA w) m vs
 | [],_,_,hx,hv=>by cases hx; simpa only [ao] using hv
 | x :: l,_,_,hx,hv=>by
  simp only [lR] at hx
  split at hx
  ·next y m h1 h2 =>
   cases hx
   simp only [ao] at hv ⊢
   obtain ⟨z,zs,e,h3,h4⟩:=hv
   exact ⟨z,zs,e,(E9 h h1 h3).2,xa h h2 h4⟩
  cases hx
theorem gq {f:FuncId} {g:List AV->Option AV} (hA:ag P f (ae g)):ag P f (fB g):=by
 intro args s v s' h
 simp only [fB,Option.bind_eq_some_iff] at h
 obtain ⟨xs,h1,u,h2,h3⟩:=h
 obtain ⟨hp,h3⟩:=aj h3
 cases h3
 obtain ⟨⟨co,_,_⟩,hr⟩:=hA (eY h2 ⟨.nil,0⟩)
 refine ⟨⟨co,Nat.le_refl _,id⟩,?_⟩
 intro μ w vs n hR hvs hF
 refine (hr (μ:=yA w) n (uR w) (xa hR h1 hvs) (fun _ _ _=>rfl)).mono ?_
 rintro e w' ⟨v',μ',rfl,r,t,hv⟩
 have hb:Below w.heap.size w w':=⟨t.os,t.tape,t.output,t.size,fun g hg=>t.blk g hg fun o x p e=>(by cases e)⟩
 refine ⟨v',μ,rfl,hR.below hb,dJ.below μ s hb,?_⟩
 cases v <;> first | (simp [qR] at hp; done) | (simpa only [VR] using hv)
end
end
theorem rP {P:Program} {X:dY} {k:Nat} (S:cX P (Ev.at_ P X k)) {f:FuncId} {args:List AV} {v:AV} {s':St} (h:(Ev.at_ P X k).call f args ⟨.nil,0⟩ = some (v,s'))(hb:aE args = true)(hp:qR v = true) {g:List AV->Option AV} (hg:∀ a u,g a = some u->a = args/\u = v):ag P f (ae g):=by
 obtain ⟨⟨co,_,_⟩,hr⟩:=S.call h
 intro a s u s2 ha
 unfold ae at ha
 simp only [Option.map_eq_some_iff,Prod.mk.injEq] at ha
 obtain ⟨u0,h1,rfl,rfl⟩:=ha
 obtain ⟨rfl,rfl⟩:=hg _ _ h1
 refine ⟨⟨co,Nat.le_refl _,id⟩,fun {μ w vs} n hR hv _=>?_⟩
 refine (hr (μ:=yA w) n (uR w) (eF (fun b i v hv=>(hR.fz b i v hv).2.1) _ hb hv) (fun _ _ _=>rfl)).mono ?_
 rintro e w' ⟨v',μ',rfl,r,t,hv⟩
 have hbel:Below w.heap.size w w':=⟨t.os,t.tape,t.output,t.size,fun g hg=>t.blk g hg fun o x p e=>(by cases e)⟩
 refine ⟨v',μ,rfl,hR.below hbel,dJ.below μ s hbel,?_⟩
 cases u0 <;> first | (simp [qR] at hp; done) | (simpa only [VR] using hv)
def Bx (args:List AV) (v:AV) (a:List AV):Option AV:=cond (gH a args) (some v) none
def MW:Option (AV × St)->Option Bool
 | some (.b t,_)=>some t
 | _=>none
theorem mH {P:Program} {X:dY} {k:Nat} (S:cX P (Ev.at_ P X k)) {f:FuncId} {args:List AV} {t:Bool} (h:MW ((Ev.at_ P X k).call f args ⟨.nil,0⟩) = some t)(hb:aE args = true):ag P f (ae (Bx args (.b t))):=by
 generalize hx:(Ev.at_ P X k).call f args ⟨.nil,0⟩ = x at h
 match x,h with
 | some (.b _,s'),h =>
  cases h
  refine @rP P X k S f args _ s' hx hb rfl _ (fun a u ha=>?_)
  obtain ⟨hc,ha⟩:=aj ha
  cases ha
  exact ⟨eC _ _ hc,rfl⟩
section
noncomputable def ofE {D:Type} (enc:D->List AV) (Ok:D->Prop) (f:D->AV) (args:List AV):Option AV:=by
 classical exact if h:∃ d,Ok d/\enc d = args then some (f h.choose) else none
section
variable {D:Type} {enc:D->List AV} {Ok:D->Prop} {f:D->AV} {args:List AV} {v:AV} {d:D}
theorem aB (h:ofE enc Ok f args = some v):∃ d,Ok d/\args = enc d/\v = f d:=by
 unfold ofE at h
 split at h
 ·next hex =>
  have e:f hex.choose = v:=Option.some.inj h
  exact ⟨_,hex.choose_spec.1,hex.choose_spec.2.symm,e.symm⟩
 cases h
theorem jr (inj:∀ d d',enc d = enc d'->d = d')(h:Ok d):ofE enc Ok f (enc d) = some (f d):=by
 unfold ofE
 have hex:∃ d',Ok d'/\enc d' = enc d:=⟨d,h,rfl⟩
 rw [dif_pos hex]
 exact congrArg (some ∘ f) (inj _ _ hex.choose_spec.2)
theorem bD (inj:∀ d d',enc d = enc d'->d = d')(h:Ok d) (s:St):ae (ofE enc Ok f) (enc d) s = some (f d,s):=eY (jr inj h) s
end
section
variable {α:Type} {f:α->List AV} {z:Nat}
theorem oH (hz:∀ x,(f x).length = z)(hf:∀ x y,f x = f y->x = y):∀ {l m:List α},l.length = m.length->l.flatMap f = m.flatMap f->l = m
 | [],[],_,_=>rfl
 | [],_ :: _,h,_=>by cases h
 | _ :: _,[],h,_=>by cases h
 | x :: l,y :: m,h,e=>by
  rw [List.flatMap_cons,List.flatMap_cons] at e
  obtain ⟨e1,e2⟩:=List.append_inj e (by rw [hz,hz])
  rw [hf _ _ e1,oH hz hf (by simpa using h) e2]
theorem Bi (hz:∀ x,(f x).length = z) {l:List α} {i o:Nat} {x:α} (h:l[i]? = some x)(ho:o < z):(l.flatMap f)[i * z + o]? = (f x)[o]?:=by rw [fJ hz l i o ho,h]; rfl
theorem rp (hz:∀ x,(f x).length = z) {l:List α} {i:Nat} {x:α} (h:l[i]? = some x)(h0:0 < z):(l.flatMap f)[i * z]? = (f x)[0]?:=Bi (o:=0) hz h h0
theorem qg {g:α->AV} (hg:∀ x y,g x = g y->x = y):∀ {l m:List α},l.map g = m.map g->l = m
 | [],[],_=>rfl
 | [],_ :: _,h=>by cases h
 | _ :: _,[],h=>by cases h
 | x :: l,y :: m,h=>by
  simp only [List.map_cons,List.cons.injEq] at h
  rw [hg _ _ h.1,qg hg h.2]
end
structure RF where
 neg:Bool
 n:AV
 d:AV
def rC (x:RF):List AV:=[.b x.neg,x.n,x.d]
def jO (l:List RF):List AV:=l.flatMap rC
abbrev bF (l:List RF):AV:=.vw (jO l) l.length
abbrev cq (l:List (List RF)):AV:=.vw (l.map fun r=>bF r) l.length
theorem fE (x:RF):(rC x).length = 3:=rfl
theorem EL (x y:RF)(h:rC x = rC y):x = y:=by
 cases x; cases y
 simp only [rC,List.cons.injEq,AV.b.injEq,and_true] at h
 obtain ⟨rfl,rfl,rfl⟩:=h
 rfl
theorem gI {l m:List RF} (h:bF l = bF m):l = m:=by
 simp only [AV.vw.injEq] at h
 exact oH fE EL h.2 h.1
theorem oc {l m:List (List RF)} (h:cq l = cq m):l = m:=by
 simp only [AV.vw.injEq] at h
 exact qg (fun _ _ e=>gI e) h.1
theorem pX {l:List RF} {i:Nat} {x:RF} (h:l[i]? = some x):getR (jO l) (i * 3) 3 = some (rC x):=fg fE h
theorem Ke {l:List RF} {i:Nat} {x:RF} (h:l[i]? = some x):(jO l)[i * 3 + 1]? = some x.n:=Bi fE h (by omega)
theorem Kf {l:List RF} {i:Nat} {x:RF} (h:l[i]? = some x):(jO l)[i * 3 + 2]? = some x.d:=Bi fE h (by omega)
structure MD where
 start:List RF
 move:List (List RF)
 fin:List RF
 say:List (List RF)
def mC (m:MD):List AV:=[bF m.start,cq m.move,bF m.fin,cq m.say]
def pK (l:List MD):List AV:=l.flatMap mC
theorem iB (m:MD):(mC m).length = 4:=rfl
theorem ox (x y:MD)(h:mC x = mC y):x = y:=by
 cases x; cases y
 simp only [mC,List.cons.injEq,and_true] at h
 obtain ⟨h1,h2,h3,h4⟩:=h
 obtain rfl:=gI h1
 obtain rfl:=oc h2
 obtain rfl:=gI h3
 obtain rfl:=oc h4
 rfl
theorem ie {l:List MD} {i:Nat} {x:MD} (h:l[i]? = some x):getR (pK l) (i * 4) 4 = some (mC x):=fg iB h
theorem Lm {l:List MD} {i o:Nat} {x:MD} (h:l[i]? = some x)(ho:o < 4):(pK l)[i * 4 + o]? = (mC x)[o]?:=Bi iB h ho
theorem Iv {l m:List MD} (hl:l.length = m.length)(h:pK l = pK m):l = m:=oH iB ox hl h
structure VD where
 ph:List Int
 w:RF
def vC (v:VD):List AV:=[.vw (is v.ph) v.ph.length,.b v.w.neg,v.w.n,v.w.d]
def Aa (l:List VD):List AV:=l.flatMap vC
abbrev b9 (l:List VD):AV:=.vw (Aa l) l.length
theorem qv (v:VD):(vC v).length = 4:=rfl
theorem oB {l m:List Int} (h:is l = is m):l = m:=qg (fun x y e=>by simpa using e) h
theorem yH (x y:VD)(h:vC x = vC y):x = y:=by
 obtain ⟨p,n,a,b⟩:=x; obtain ⟨q,n',a',b'⟩:=y
 simp only [vC,List.cons.injEq,AV.b.injEq,AV.vw.injEq,and_true] at h
 obtain ⟨⟨h1,_⟩,rfl,rfl,rfl⟩:=h
 rw [oB h1]
theorem kK {l m:List VD} (h:b9 l = b9 m):l = m:=by
 simp only [AV.vw.injEq] at h
 exact oH qv yH h.2 h.1
theorem z8 {l:List VD} {i:Nat} {x:VD} (h:l[i]? = some x):getR (Aa l) (i * 4) 4 = some (vC x):=fg qv h
theorem mQ {l:List VD} {i:Nat} {x:VD} (h:l[i]? = some x):(Aa l)[i * 4]? = some (.vw (is x.ph) x.ph.length):=rp qv h (by omega)
theorem D7 {l:List VD} {i:Nat} {x:VD} (h:l[i]? = some x):getR (Aa l) (i * 4 + 1) 3 = some (rC x.w):=pO qv h (by omega) rfl
structure LG where
 O:Int
 V:Int
 gs:List Gr
 k:Int
 am:RF
 mix:List RF
def Km (g:Gr):List AV:=[.vw (is g.1) g.1.length,.i .i64 g.2]
def rY (l:List Gr):List AV:=l.flatMap Km
theorem uZ (g:Gr):(Km g).length = 2:=rfl
theorem I2 (x y:Gr)(h:Km x = Km y):x = y:=by
 obtain ⟨p,n⟩:=x; obtain ⟨q,n'⟩:=y
 simp only [Km,List.cons.injEq,AV.i.injEq,AV.vw.injEq,and_true,true_and] at h
 obtain ⟨⟨h1,_⟩,rfl⟩:=h
 rw [oB h1]
theorem I1 {l:List Gr} {i:Nat} {x:Gr} (h:l[i]? = some x):(rY l)[i * 2]? = some (.vw (is x.1) x.1.length):=rp uZ h (by omega)
def LG.cells (L:LG):List AV:=[.i .i64 L.O,.i .i64 L.V,.vw (rY L.gs) L.gs.length,.i .i64 L.k,.b L.am.neg,L.am.n,L.am.d,bF L.mix]
theorem LG.inj (x y:LG)(h:x.cells = y.cells):x = y:=by
 obtain ⟨a,b,c,d,e,f⟩:=x; obtain ⟨a',b',c',d',e',f'⟩:=y
 obtain ⟨e1,e2,e3⟩:=e; obtain ⟨e1',e2',e3'⟩:=e'
 have h0:bF f = bF f':=by simp only [LG.cells,List.cons.injEq,and_true] at h; exact h.2.2.2.2.2.2.2
 simp only [LG.cells,List.cons.injEq,AV.i.injEq,AV.b.injEq,AV.vw.injEq,and_true,true_and] at h
 obtain ⟨rfl,rfl,⟨h1,h2⟩,rfl,rfl,rfl,rfl,_⟩:=h
 rw [oH uZ I2 h2 h1,gI h0]
structure TD where
 ms:List MD
 ws:List (List VD)
 L:LG
def tC (t:TD):List AV:=[.vw (pK t.ms) t.ms.length,.vw (t.ws.map fun l=>b9 l) t.ws.length,.i .i64 t.L.O,.i .i64 t.L.V,.vw (rY t.L.gs) t.L.gs.length,.i .i64 t.L.k,.b t.L.am.neg,t.L.am.n,t.L.am.d,bF t.L.mix]
theorem qG (x y:TD)(h:tC x = tC y):x = y:=by
 obtain ⟨a,b,L⟩:=x; obtain ⟨a',b',L'⟩:=y
 simp only [tC,List.cons.injEq] at h
 obtain ⟨h1,h2,h3⟩:=h
 have:=LG.inj L L' (by simp only [LG.cells,List.cons.injEq]; exact h3)
 subst this
 simp only [AV.vw.injEq] at h1 h2
 rw [Iv h1.2 h1.1,qg (fun _ _ e=>kK e) h2.1]
theorem vy {l m:List AV} (h:AV.agg l = .agg m):l = m:=by simpa using h
def RF.q (x:RF):Rat:=(lQ (.agg (rC x))).getD 0
structure RF.Ok (x:RF):Prop where
 v:lQ (.agg (rC x)) = some x.q
 bn:bare x.n = true
 bd:bare x.d = true
 fn:flat x.n = true
 fd:flat x.d = true
theorem RF.Ok.flat {x:RF} (h:x.Ok):(rC x).all Go.Proofs.YtkdhppimhdemjaaGreat.flat = true:=by
 simp only [rC,List.all_cons,h.fn,h.fd]
 rfl
theorem RF.Ok.bare {x:RF} (h:x.Ok):aE (rC x) = true:=by
 simp only [rC,aE,Go.Proofs.YtkdhppimhdemjaaGreat.bare,h.bn,h.bd]
 rfl
theorem Cv {x:AV} {q:Rat} (h:lQ x = some q):jp x = some q:=by
 unfold lQ at h
 simp only [Option.bind_eq_some_iff] at h
 obtain ⟨⟨neg,n,d⟩,h1,h2⟩:=h
 obtain ⟨_,h2⟩:=aj h2
 cases h2
 unfold jp
 rw [h1]
 rfl
theorem RF.Ok.r {x:RF} (h:x.Ok):jp (.agg (rC x)) = some x.q:=Cv h.v
def iY (l:List RF):List Rat:=l.map RF.q
theorem iX:∀ {l:List RF},(∀ x ∈ l,x.Ok)->m8 (jO l) = some (iY l)
 | [],_=>rfl
 | x :: l,h=>by
  have h1:=(h x List.mem_cons_self).v
  have h2:=iX (l:=l) fun y hy=>h y (List.mem_cons_of_mem _ hy)
  show m8 (rC x ++ jO l) = _
  simp only [rC,List.cons_append,List.nil_append,m8] at h1 ⊢
  rw [h1,h2]
  rfl
theorem dH {l:List RF} (h:∀ x ∈ l,x.Ok):aE (jO l) = true:=by
 induction l with
 | nil=>rfl
 | cons x l ih =>
  show aE (rC x ++ jO l) = true
  rw [cR,(h x List.mem_cons_self).bare,ih fun y hy=>h y (List.mem_cons_of_mem _ hy)]
  rfl
theorem mZ {l:List RF} (h:∀ x ∈ l,x.Ok):(jO l).all flat = true:=by
 induction l with
 | nil=>rfl
 | cons x l ih =>
  show (rC x ++ jO l).all flat = true
  rw [List.all_append,(h x List.mem_cons_self).flat,ih fun y hy=>h y (List.mem_cons_of_mem _ hy)]
  rfl
theorem gg (l:List RF):(jO l).length = l.length * 3:=eS fE l
end
def dj (m:MD):Nat:=(m.say.head?.map List.length).getD 0
def dk (m:MD):Bool:=decide (40 < m.start.length) || decide (64 < dj m)
def lP (l:List (List RF)) (n k:Nat):Bool:=Nat.beq l.length n && l.all fun r=>Nat.beq r.length k
def KY (m:MD) (i:Nat):List Rat:=iY (m.move.getD i []) ++ [(m.fin[i]?.map RF.q).getD 0]
def jm (m:MD) (i:Nat):Bool:=cG (iY (m.say.getD i [])) && cG (KY m i)
def uG (m:MD):Bool:=decide (1 <= m.start.length) && decide (1 <= dj m) && Nat.beq m.fin.length m.start.length && lP m.move m.start.length m.start.length && lP m.say m.start.length (dj m)
def bM (m:MD):Bool:=uG m && cG (iY m.start) && (List.range m.start.length).all (jm m)
def gQ (m:MD):Int:=if dk m then 5 else if bM m then 0 else 2
def i5 (l:List VD):Bool:=decide (10 < l.length) || l.any fun v=>decide (20 < v.ph.length)
def fA (t:TD):Bool:=decide (60 < t.ms.length) || decide (20000 < t.L.gs.length) || t.ms.any dk || t.ws.any i5
def wG (n:Nat) (p:Int):Bool:=decide (1 <= p) && decide (p <= n)
def g9 (n:Nat) (l:List VD):Bool:=(l.all fun v=>decide (1 <= v.ph.length) && v.ph.all (wG n)) && cG (l.map fun v=>v.w.q)
def LG.qs (L:LG):List Rat:=iY L.mix
def LG.err (L:LG):Int:=bt L.O L.V L.gs L.k L.am.q L.qs
def iw (t:TD):Nat:=(t.ms.head?.map dj).getD 0
def bQ (t:TD):Bool:=decide (1 <= t.ms.length) && decide ((t.ws.length:Int) = t.L.V) && decide (t.L.err = 0) && (t.ms.all fun m=>bM m && Nat.beq (dj m) (iw t)) && t.ws.all (g9 t.ms.length)
def dM (k:Nat) (o:List Int):Bool:=o.all fun x=>decide (0 <= x) && decide (x < k)
def lO (t:TD):Int:=if fA t then 5 else if bQ t then 0 else 2
def bx (t:TD) (o:List Int):Int:=if fA t || decide (1000 < o.length) then 5 else if bQ t && dM (iw t) o then 0 else 2
structure MD.Ok (m:MD):Prop where
 hs:(∀ x ∈ m.start,x.Ok)/\m.start.length <= 1000
 hm:(∀ r ∈ m.move,(∀ x ∈ r,x.Ok)/\r.length <= 1000)/\m.move.length <= 1000
 hf:(∀ x ∈ m.fin,x.Ok)/\m.fin.length <= 1000
 hy:(∀ r ∈ m.say,(∀ x ∈ r,x.Ok)/\r.length <= 1000)/\m.say.length <= 1000
structure LG.Ok (L:LG):Prop where
 ham:L.am.Ok
 hmix:(∀ x ∈ L.mix,x.Ok)/\L.mix.length <= 1000
 hgs:L.gs.length <= 1000
structure TD.Ok (t:TD):Prop where
 hms:(∀ m ∈ t.ms,m.Ok)/\t.ms.length <= 1000
 hws:(∀ l ∈ t.ws,(∀ v ∈ l,v.w.Ok/\v.ph.length <= 9223372036854775807)/\l.length <= 9223372036854775807)/\t.ws.length <= 1000
 hL:t.L.Ok
theorem AG {m:MD} {i:Nat} {r:List RF} {x:RF} (h:m.move[i]? = some r) (h':m.fin[i]? = some x):KY m i = iY (r ++ [x]):=by
 unfold KY
 rw [List.getD_eq_getElem?_getD,h,h']
 simp [iY]
theorem Aw {m:MD} {i:Nat} {r:List RF} (h:m.say[i]? = some r):iY (m.say.getD i []) = iY r:=by rw [List.getD_eq_getElem?_getD,h]; rfl
theorem iR {m:MD} {r:List RF} (h:m.say[0]? = some r):dj m = r.length:=by
 unfold dj
 rw [List.head?_eq_getElem?,h]
 rfl
theorem vV {m:MD} (h:m.say.length = 0):dj m = 0:=by
 unfold dj
 rw [List.eq_nil_of_length_eq_zero h]
 rfl
theorem mX {t:TD} {m:MD} (h:t.ms[0]? = some m):iw t = dj m:=by
 unfold iw
 rw [List.head?_eq_getElem?,h]
 rfl
theorem F6 {m:MD}:gQ m = 5 ↔ dk m = true:=by
 unfold gQ
 cases dk m <;> cases bM m <;> simp
theorem F7 {m:MD} (h:dk m = false):gQ m = 0 ↔ bM m = true:=by
 unfold gQ
 rw [h]
 cases bM m <;> simp
theorem mV:BI 76 4 [.snil,.snil,.snil,.snil]/\lI 76 0 0/\lI 76 1 1/\lI 76 2 2/\lI 76 3 3/\BJ 76 [(0,1),(1,1),(2,1),(3,1)] [.snil,.snil,.snil,.snil]:=⟨Cf,lV,lV,lV,lV,De Tryz.underlying76⟩
theorem jU:yj 22 .snil/\Dw 22 76 4 [.snil,.snil,.snil,.snil]/\DF 22 76 4/\Kr 22 76 4 [.snil,.snil,.snil,.snil]/\Mw 22 76 4:=⟨yw,MR,El,OT,MK⟩
theorem jF:yj 74 .snil/\Dw 74 31 1 [.snil]/\DF 74 31 1/\Kr 74 31 1 [.snil]/\Mw 74 31 1:=⟨yw,MP,El,Ol,MK⟩
theorem jW:BI 80 4 [.snil,.b false,.snil,.snil]/\lI 80 0 0/\GX 80 1 1 3/\BJ 80 [(0,1),(1,3)] [.snil,.b false,.snil,.snil]:=⟨Cf,lV,Jf,De Tryz.underlying80⟩
theorem iK:yj 78 .snil/\Dw 78 80 4 [.snil,.b false,.snil,.snil]/\DF 78 80 4/\Kr 78 80 4 [.snil,.b false,.snil,.snil]/\Mw 78 80 4:=⟨yw,MR,El,OT,MK⟩
theorem gC:yj 23 .snil/\Dw 23 78 1 [.snil]/\DF 23 78 1/\Kr 23 78 1 [.snil]/\Mw 23 78 1:=⟨yw,MP,El,Ol,MK⟩
theorem oX:BI 35 10 [.snil,.snil,.i .i64 0,.i .i64 0,.snil,.i .i64 0,.b false,.snil,.snil,.snil]/\lI 35 0 0/\lI 35 1 1/\GX 35 2 2 8/\BJ 35 [(0,1),(1,1),(2,8)] [.snil,.snil,.i .i64 0,.i .i64 0,.snil,.i .i64 0,.b false,.snil,.snil,.snil]:=⟨Cf,lV,lV,Jf,De Tryz.underlying35⟩
theorem qA:yj 168 .snil/\Dw 168 38 1 [.snil]/\DF 168 38 1/\Kr 168 38 1 [.snil]/\Mw 168 38 1:=⟨yw,MP,El,Ol,MK⟩
theorem o4:BI 37 4 [.i .i64 0,.b false,.snil,.snil]/\lI 37 0 0/\GX 37 1 1 3/\BJ 37 [(0,1),(1,3)] [.i .i64 0,.b false,.snil,.snil]:=⟨Cf,lV,Jf,De Tryz.underlying37⟩
theorem qy:type_of% @mV/\type_of% @jU/\type_of% @jF/\type_of% @jW/\type_of% @iK/\type_of% @gC/\type_of% @oX/\type_of% @qA/\type_of% @o4:=⟨mV,jU,jF,jW,iK,gC,oX,qA,o4⟩
section
def oU (l:List (Nat × AV)):List (Nat × AV)->Prop
 | []=>True
 | p :: l2=>fo l p.1 = some p.2/\oU l l2
theorem oU.get {l:List (Nat × AV)}:∀ {l2:List (Nat × AV)},oU l l2->∀ {t:Nat} {x:AV},fo l2 t = some x->fo l t = some x
 | [],_,t,x,e=>by simp [fo] at e
 | p :: l2,h,t,x,e=>by
  rw [show fo (p :: l2) t = _ from fH p.1 p.2 l2 t] at e
  split at e
  ·next e2=>subst e2; cases e; exact h.1
  exact h.2.get e
section
variable {bb:Nat} {P:Program} {c:Code} {f:FuncId} {n:Nat} {rd:Option Nat} {ms:List Nat} {s:St} {Q:Ex->Fr->St->Prop}
theorem Jd.sub {l:List (Nat × AV)} (l2:List (Nat × AV))(h:oU l l2) (k:Jb bb P c ⟨f,n,Tr.of l2,rd,ms⟩ s Q):Jb bb P c ⟨f,n,Tr.of l,rd,ms⟩ s Q :=
 Jd.swap (fr2:=⟨f,n,Tr.of l2,rd,ms⟩) (s2:=s) (fun μ _ _ w hA=>⟨μ,⟨hA.rel,⟨hA.tr.1,fun t x e=>hA.tr.2 t x (by rw [Tr.of_get] at e ⊢; exact h.get e)⟩,hA.dm,hA.ro,hA.fresh⟩,Fp.refl μ s w⟩) k
theorem oU.bare {l:List (Nat × AV)}:∀ {l2:List (Nat × AV)},(l2.all fun p=>Go.Proofs.YtkdhppimhdemjaaGreat.bare p.2) = true->∀ {t:Nat} {x:AV},fo l2 t = some x->Go.Proofs.YtkdhppimhdemjaaGreat.bare x = true
 | [],_,t,x,e=>by simp [fo] at e
 | p :: l2,h,t,x,e=>by
  rw [List.all_cons,Bool.and_eq_true] at h
  rw [show fo (p :: l2) t = _ from fH p.1 p.2 l2 t] at e
  split at e
  ·cases e; exact h.1
  exact oU.bare (l:=l) h.2 e
theorem Jd.forget {l:List (Nat × AV)} (l2:List (Nat × AV))(h:oU l l2)(hb:(l2.all fun p=>Go.Proofs.YtkdhppimhdemjaaGreat.bare p.2) = true) (k:Jd P c ⟨f,n,Tr.of l2,none,[]⟩ (St.of [] 0) Q):Jd P c ⟨f,n,Tr.of l,none,[]⟩ s Q :=
 Jd.weak (fr2:=⟨f,n,Tr.of l2,none,[]⟩) (s2:=St.of [] 0) [] ⟨rfl,rfl,rfl,rfl,fun t x2 e=>by
  rw [Tr.of_get] at e
  exact ⟨x2,by rw [Tr.of_get]; exact h.get e,Wk.bare (oU.bare (l:=l) hb e)⟩,(fun k x2 e=>by rw [St.of_get] at e; cases e),.nil⟩ k
theorem Jd.loopS {id:Nat} {l:List (Nat × AV)} (N:Nat) (T:Nat->List (Nat × AV)) (J:Nat->Prop)(h0:oU l (T 0)) (j0:J 0)
  (round:∀ i,i <= N->J i->∀ Q':Ex->Fr->St->Prop,(∀ fr s,Q .normal fr s->Q' (.exit id) fr s)->(∀ fr s,Q .ret fr s->Q' .ret fr s) ->
   (∀ l',oU l' (T (i + 1))->i < N->J (i + 1)->Q' .normal ⟨f,n,Tr.of l',rd,ms⟩ s)->Jb bb P c ⟨f,n,Tr.of (T i),rd,ms⟩ s Q'):Jb bb P (.block id (.loop c)) ⟨f,n,Tr.of l,rd,ms⟩ s Q:=by
 have key:∀ k i,i + k = N->J i->Jb bb P (.loop c) ⟨f,n,Tr.of (T i),rd,ms⟩ s (dX id Q):=by
  intro k
  induction k with
  | zero =>
   intro i hi hj
   refine Jd.loop (round i (by omega) hj _ (fun fr s h=>dX.out h) (fun fr s h=>h) fun l' _ h _=>?_)
   omega
  | succ k ih =>
   intro i hi hj
   exact Jd.loop (round i (by omega) hj _ (fun fr s h=>dX.out h) (fun fr s h=>h) fun l' hs _ hj'=>Jd.sub _ hs (ih (i + 1) (by omega) hj'))
 exact Jd.block (Jd.sub _ h0 (key N 0 (Nat.zero_add _) j0))
end
end
section
def Kn (o z n:Nat):AV:=if n = 0 then .snil else .sl o 0 n (cW + z)
def I6 (e:TypeId) (n:Nat) (c:List AV):Option AO:=if n = 0 then none else some (.cells c e true)
theorem Nr (o z n:Nat):Kn o z (n + 1) = .sl o 0 (n + 1) (cW + z):=rfl
theorem Ns (e:TypeId) (n:Nat) (c:List AV):I6 e (n + 1) c = some (.cells c e true):=rfl
theorem LO {P:Program} {t e:TypeId} {z:Nat} {zv:AV} (hu:P.underlying t = some (.slice e))(hz:bP P e = some zv)(hc:zk P e zv z = true) {n:Nat} {c l:List AV} {m:List (Nat × Option AO)} {nx o o2:Nat} {t2:TypeId} {op2:Bool}
  (hl:c.length = n * z)(hm:n * z + z <= 1000000)(ho:lD m o = I6 e n c)(ho2:lD m o2 = some (.cells l t2 op2))(hll:l.length = z)(hpad:n = 0->St.of ((o,none) :: m) nx = St.of m nx) :
  lH P t t (Kn o z n) (.sl o2 0 1 1) (St.of m nx) = some (.sl nx 0 (n + 1) (cW + z),St.of ((nx,some (.cells (c ++ l) e true)) :: (o,none) :: m) (nx + 1)):=by
 have hr:JC z ((St.of m nx).h.get o2) = some l:=by
  rw [St.of_get,ho2]
  simp only [JC,tA hll,Option.bind_some,hll,jh,cond_true]
 cases n with
 | zero =>
  rw [show Kn o z 0 = .snil from rfl,x8 hu hu hz hc,hr]
  have e0:c = []:=List.eq_nil_of_length_eq_zero (by omega)
  subst e0
  show some (AV.sl nx 0 1 (cW + z),(St.of m nx).new _) = _
  rw [<- hpad rfl]
  rfl
 | succ n =>
  rw [Nr]
  refine Bz hu hu hz hc o o2 (n + 1) _ rfl (St.of m nx) ?_
  rw [hr,Option.bind_some,St.of_get,ho,Ns,LR hl hm]
  rfl
section
variable {bb:Nat} {P:Program} {c:Code} {f:FuncId} {n:Nat} {Q:Ex->Fr->St->Prop}
theorem To.pad {l:List (Nat × AV)} {s:St} (l2:List (Nat × AV))(h:oU l l2)(hb:(l2.all fun p=>Go.Proofs.YtkdhppimhdemjaaGreat.bare p.2) = true):To 0 ⟨f,n,Tr.of l,none,[]⟩ s ⟨f,n,Tr.of l2,none,[]⟩ (St.of [(0,none)] 1) :=
 ⟨[s.nx],⟨rfl,rfl,rfl,rfl,fun t x2 e=>by
  rw [Tr.of_get] at e
  exact ⟨x2,by rw [Tr.of_get]; exact h.get e,Wk.bare (oU.bare (l:=l) hb e)⟩,(fun k x2 e=>by
   rw [St.of_get,fG] at e
   split at e <;> cases e),(by simp)⟩,aY⟩
end
end
theorem mU:BI 51 1 [.snil]/\lI 51 0 0/\BJ 51 [(0,1)] [.snil]:=⟨Cf,lV,De Tryz.underlying51⟩
theorem lN:BI 60 11 [.b false,.snil,.snil,.b false,.snil,.snil,.b false,.snil,.snil,.i .i64 0,.b false]/\lI 60 0 0/\lI 60 1 1/\lI 60 2 2/\GX 60 3 3 3/\GX 60 4 6 3/\lI 60 5 9/\lI 60 6 10/\BJ 60 [(0,1),(1,1),(2,1),(3,3),(6,3),(9,1),(10,1)] [.b false,.snil,.snil,.b false,.snil,.snil,.b false,.snil,.snil,.i .i64 0,.b false]:=⟨Cf,lV,lV,lV,Jf,Jf,lV,lV,De Tryz.underlying60⟩
theorem jV:BI 107 12 [.snil,.snil,.i .i64 0,.i .i64 0,.snil,.i .i64 0,.b false,.snil,.snil,.snil,.mnil,.i .i64 0]/\GX 107 0 0 10/\lI 107 1 10/\lI 107 2 11/\BJ 107 [(0,10),(10,1),(11,1)] [.snil,.snil,.i .i64 0,.i .i64 0,.snil,.i .i64 0,.b false,.snil,.snil,.snil,.mnil,.i .i64 0]:=⟨Cf,Jf,lV,lV,De Tryz.underlying107⟩
theorem qx:type_of% @mU/\type_of% @lN/\type_of% @jV:=⟨mU,lN,jV⟩
end Go.Proofs.YtkdhppimhdemjaaGreat
