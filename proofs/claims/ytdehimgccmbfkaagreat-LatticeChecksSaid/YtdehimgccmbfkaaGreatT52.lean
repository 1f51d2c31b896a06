/- Lemmas on the way: Ly13, Jk4, Jf1, Jf2. -/
import Derived.Test.YtdehimgccmbfkaaGreatT51
import Derived.Test.YtdehimgccmbfkaaGreatT46
import Derived.Deep.Slices
import Derived.ChangeShapes
import Derived.WideShapes
import Derived.Laws.Rows
set_option linter.all false
set_option maxRecDepth 1000000
set_option maxHeartbeats 32000000
namespace Go.Proofs.YtdehimgccmbfkaaGreat
open Go.RowKit
def knownV:List AV->Option AV
 | []=>some (.b true)
 | _=>none
def LatArg (args:List AV):Prop:=∃ T l,args = [latA T l]/\(∀ x ∈ l,digX x.n = true/\digX x.d = true)/\∀ x ∈ l,smallA x = true->x.Ok
noncomputable def checksV (args:List AV):Option AV:=@ite _ (LatArg args) (Classical.propDecidable _) (some (.b true)) none
theorem checksV_some {args:List AV} {v:AV} (h:checksV args = some v):v = .b true/\LatArg args:=by
 unfold checksV at h
 split at h
 ·next hl=>cases h; exact ⟨rfl,hl⟩
 cases h
theorem checksV_eq {args:List AV} (h:LatArg args):checksV args = some (.b true):=if_pos h
theorem ansChecks (hK:Answers Tryz.prog 17 (pureA knownV)):Answers Tryz.prog 10 (pureA checksV):=by
 obtain ⟨E,M,c1,c2,c3,c4,c5,c6,c7,c8,c9,c10,c11⟩:∃ E,Mc Tryz.prog (envOf [(25,pureA smallV),(17,pureA knownV),(29,pureA checkV),(53,pureA countGV),(54,pureA trimGV),(43,pureA checkV),(27,pureA signV),(41,pureA latSameV),(55,pureA countV),(56,pureA trimRV),(23,pureA sameV)]) E/\(∀ a s,E.call 25 a s = pureA smallV a s)/\(∀ a s,E.call 17 a s = pureA knownV a s)/\(∀ a s,E.call 29 a s = pureA checkV a s)/\(∀ a s,E.call 53 a s = pureA countGV a s)/\(∀ a s,E.call 54 a s = pureA trimGV a s)/\(∀ a s,E.call 43 a s = pureA checkV a s)/\(∀ a s,E.call 27 a s = pureA signV a s)/\(∀ a s,E.call 41 a s = pureA latSameV a s)/\(∀ a s,E.call 55 a s = pureA countV a s)/\(∀ a s,E.call 56 a s = pureA trimRV a s)/\(∀ a s,E.call 23 a s = pureA sameV a s) :=
  ⟨_,mc_of laidL mixedL (by simp only [List.forall_mem_cons]; exact ⟨ansSmall,hK,ansCheckR,ansCount,ansTrim,ansCheck,ansSignR,ansLatSame,ansCountR,ansTrimR,ansSameR,fun p hp=>by cases hp⟩),fun _ _=>rfl,fun _ _=>rfl,fun _ _=>rfl,fun _ _=>rfl,fun _ _=>rfl,fun _ _=>rfl,fun _ _=>rfl,fun _ _=>rfl,fun _ _=>rfl,fun _ _=>rfl,fun _ _=>rfl⟩
 refine answers_pure (by kernel_rfl) Tryz.func10 Tryz.ntmps10 rfl ?_
 intro args v h
 obtain ⟨rfl,T,l,rfl,hraw,hok⟩:=checksV_some h
 refine ⟨by unfold latA; rfl,rfl,Nat.le_of_ble_eq_true rfl,?_⟩
 rw [ofList1,St.of_nil]
 have hsm:∀ s,pureA smallV [.agg [.i .i64 T,.vw (ar l) l.length],.agg [.i .i64 0,.i .i64 0,.snil,.i .i64 0,.b false,.snil,.snil,.snil]] s = some (.b (smallB T l),s):=pureA_eq (smallV_eq hraw)
 have hkn:∀ s,pureA knownV [] s = some (.b true,s):=pureA_eq rfl
 unfold latA
 apply Jd.regS M; (· intro K gl hgl hK; simp only [glw] at hgl; subst hgl; simp (maxSteps:=1000000) (disch:=omega) only [↓evp,spw,Nat.reduceEqDiff,↓reduceIte,Nat.reduceLT,Nat.reduceAdd]; exact hK)
 refine Jd.seq ?_
 obtain ⟨b,hb⟩:∃ b,smallB T l = b:=⟨_,rfl⟩
 rw [hb] at hsm
 cases b with
 | false =>
  apply Jd.regS M; (· intro K gl hgl hK; simp only [glw] at hgl; subst hgl; simp (maxSteps:=1000000) (disch:=omega) only [↓evp,spw,Nat.reduceEqDiff,↓reduceIte,Nat.reduceLT,Nat.reduceAdd,c1,hsm]; exact hK)
  refine Jd.cnd rfl (fun _=>?_) (fun h=>by cases h)
  apply Jd.regS M; (· intro K gl hgl hK; simp only [glw] at hgl; subst hgl; simp (maxSteps:=1000000) (disch:=omega) only [↓evp,spw,Nat.reduceEqDiff,↓reduceIte,Nat.reduceLT,Nat.reduceAdd,c2,hkn]; exact hK)
  exact Jd.retT (Done.one rfl rfl rfl)
 | true =>
 apply Jd.regS M; (· intro K gl hgl hK; simp only [glw] at hgl; subst hgl; simp (maxSteps:=1000000) (disch:=omega) only [↓evp,spw,Nat.reduceEqDiff,↓reduceIte,Nat.reduceLT,Nat.reduceAdd,c1,hsm]; exact hK)
 refine Jd.cnd rfl (fun h=>by cases h) (fun _=>?_)
 refine Jd.skipT ?_
 have hsp:l.length <= 30/\∀ x ∈ l,smallA x = true:=by
  unfold smallB at hb
  simp only [Bool.and_eq_true,Bool.not_eq_true',Bool.or_eq_false_iff,decide_eq_false_iff_not,List.all_eq_true] at hb
  exact ⟨by omega,hb.2⟩
 obtain ⟨h30,hall⟩:=hsp
 have ok:∀ x ∈ l,x.Ok:=fun x hx=>hok x hx (hall x hx)
 have hck:∀ s,pureA checkV [.agg [.i .i64 T,.vw (ar l) l.length]] s = some (.i .i64 (latE T (arcsL l)),s):=pureA_eq (by show (latV (latA T l)).map _ = _; rw [latV_A ok]; rfl)
 have hco:∀ s,pureA countGV [.agg [.i .i64 T,.vw (ar l) l.length]] s = some (.tup [cond (decide (latE T (arcsL l) = 0)) (fq (reachQ T.toNat (arcsL l))) z0,.i .i64 (latE T (arcsL l))],s):=pureA_eq (by show (latV (latA T l)).map _ = _; rw [latV_A ok]; rfl)
 have htr:∀ s,pureA trimGV [.agg [.i .i64 T,.vw (ar l) l.length]] s = some (.tup [cond (decide (latE T (arcsL l) = 0)) (latA T (trimA T.toNat l)) (.agg [.i .i64 0,.snil]),.i .i64 (latE T (arcsL l))],s):=pureA_eq (by show (latV (latA T l)).map _ = _; rw [latV_A ok]; rfl)
 have hcr:latE T (arcsL l) = 0->∀ s,pureA countV [.agg [.i .i64 T,.vw (ar l) l.length]] s = some (fq (reachQ T.toNat (arcsL l)),s):=fun h=>pureA_eq (by show (latV (latA T l)).bind _ = _; rw [latV_A ok]; simp only [Option.bind_some,h,decide_true,cond_true])
 have htt:latE T (arcsL l) = 0->∀ s,pureA trimRV [.agg [.i .i64 T,.vw (ar l) l.length]] s = some (latA T (trimA T.toNat l),s):=fun h=>pureA_eq (by show (latV (latA T l)).bind _ = _; rw [latV_A ok]; simp only [Option.bind_some,h,decide_true,cond_true])
 obtain ⟨e,he⟩:∃ e,latE T (arcsL l) = e:=⟨_,rfl⟩
 rw [he] at hck hco htr hcr htt
 obtain ⟨b,hb2⟩:∃ b,decide (e = 0) = b:=⟨_,rfl⟩
 rw [hb2] at hco htr
 cases b with
 | false =>
  simp only [cond_false] at hco htr
  unfold z0 at hco
  apply Jd.regS M; (· intro K gl hgl hK; simp only [glw] at hgl; subst hgl; simp (maxSteps:=1000000) (disch:=omega) only [↓evp,spw,Nat.reduceEqDiff,↓reduceIte,Nat.reduceLT,Nat.reduceAdd,c3,hck]; exact hK)
  apply Jd.regS M; (· intro K gl hgl hK; simp only [glw] at hgl; subst hgl; simp (maxSteps:=1000000) (disch:=omega) only [↓evp,spw,Nat.reduceEqDiff,↓reduceIte,Nat.reduceLT,Nat.reduceAdd,c4,hco]; exact hK)
  apply Jd.regS M; (· intro K gl hgl hK; simp only [glw] at hgl; subst hgl; simp (maxSteps:=1000000) (disch:=omega) only [↓evp,spw,Nat.reduceEqDiff,↓reduceIte,Nat.reduceLT,Nat.reduceAdd,c5,htr]; exact hK)
  refine Jd.seq ?_
  apply Jd.regS M; (· intro K gl hgl hK; simp only [glw] at hgl; subst hgl; simp (maxSteps:=1000000) (disch:=omega) only [↓evp,spw,Nat.reduceEqDiff,↓reduceIte,Nat.reduceLT,Nat.reduceAdd,c6,hck,decide_true]; exact hK)
  refine Jd.cnd rfl (fun h=>by cases h) (fun _=>?_)
  refine Jd.skipT ?_
  refine Jd.seq ?_
  apply Jd.regS M; (· intro K gl hgl hK; simp only [glw] at hgl; subst hgl; simp (maxSteps:=1000000) (disch:=omega) only [↓evp,spw,Nat.reduceEqDiff,↓reduceIte,Nat.reduceLT,Nat.reduceAdd,hb2]; exact hK)
  refine Jd.cnd rfl (fun _=>?_) (fun h=>by cases h)
  have hsg:∀ s,pureA signV [.agg [.b false,.snil,.snil]] s = some (.i .i64 0,s):=pureA_eq (by kernel_rfl)
  have hsa:∀ s,pureA latSameV [.agg [.i .i64 0,.snil],.agg [.i .i64 0,.snil]] s = some (.b true,s):=pureA_eq (by kernel_rfl)
  apply Jd.regS M; (· intro K gl hgl hK; simp only [glw] at hgl; subst hgl; simp (maxSteps:=1000000) (disch:=omega) only [↓evp,spw,Nat.reduceEqDiff,↓reduceIte,Nat.reduceLT,Nat.reduceAdd,c7,hsg,c8,hsa,c2,hkn,decide_true]; exact hK)
  exact Jd.retT (Done.one rfl rfl rfl)
 | true =>
  have e0:e = 0:=of_decide_eq_true hb2
  subst e0
  simp only [cond_true] at hco htr
  have hcr:=hcr rfl
  have htt:=htt rfl
  unfold latA at htr htt
  apply Jd.regS M; (· intro K gl hgl hK; simp only [glw] at hgl; subst hgl; simp (maxSteps:=1000000) (disch:=omega) only [↓evp,spw,Nat.reduceEqDiff,↓reduceIte,Nat.reduceLT,Nat.reduceAdd,c3,hck]; exact hK)
  apply Jd.regS M; (· intro K gl hgl hK; simp only [glw] at hgl; subst hgl; simp (maxSteps:=1000000) (disch:=omega) only [↓evp,spw,Nat.reduceEqDiff,↓reduceIte,Nat.reduceLT,Nat.reduceAdd,c4,hco]; exact hK)
  apply Jd.regS M; (· intro K gl hgl hK; simp only [glw] at hgl; subst hgl; simp (maxSteps:=1000000) (disch:=omega) only [↓evp,spw,Nat.reduceEqDiff,↓reduceIte,Nat.reduceLT,Nat.reduceAdd,c5,htr]; exact hK)
  refine Jd.seq ?_
  apply Jd.regS M; (· intro K gl hgl hK; simp only [glw] at hgl; subst hgl; simp (maxSteps:=1000000) (disch:=omega) only [↓evp,spw,Nat.reduceEqDiff,↓reduceIte,Nat.reduceLT,Nat.reduceAdd,c6,hck,decide_true]; exact hK)
  refine Jd.cnd rfl (fun h=>by cases h) (fun _=>?_)
  refine Jd.skipT ?_
  refine Jd.seq ?_
  apply Jd.regS M; (· intro K gl hgl hK; simp only [glw] at hgl; subst hgl; simp (maxSteps:=1000000) (disch:=omega) only [↓evp,spw,Nat.reduceEqDiff,↓reduceIte,Nat.reduceLT,Nat.reduceAdd,hb2]; exact hK)
  refine Jd.cnd rfl (fun h=>by cases h) (fun _=>?_)
  refine Jd.skipT ?_
  obtain ⟨q,hq⟩:∃ q,reachQ T.toNat (arcsL l) = q:=⟨_,rfl⟩
  rw [hq] at hcr
  simp only [hq]
  have hs1:∀ q s,pureA sameV [fq q,fq q] s = some (.b true,s):=fun q=>pureA_eq (by simp only [sameV,canV_fq,decide_true])
  have hs2:∀ s,pureA latSameV [.agg [.i .i64 T,.vw (ar (trimA T.toNat l)) (trimA T.toNat l).length],.agg [.i .i64 T,.vw (ar (trimA T.toNat l)) (trimA T.toNat l).length]] s = some (.b true,s):=pureA_eq (latSameV_eq (trimA_ok ok) (trimA_ok ok) rfl (by have:=trimA_len T.toNat l; omega))
  obtain ⟨tr,htrr⟩:∃ tr,trimA T.toNat l = tr:=⟨_,rfl⟩
  rw [htrr] at hs2 htt
  simp only [htrr]
  refine Jb.toL (nx2:=3) [0,1,2] [(4,.ptr 1 0),(6,.ptr 2 0),(1,.ptr 0 0)] [(2,some (.cells [.i .i64 T,.vw (ar tr) tr.length] 24 false)),(1,some (.cells (fcells q) 31 false)),(0,some (.cells [.i .i64 T,.vw (ar l) l.length] 24 false))] rfl (by decide) (by first | exact no_base | exact base_one) (by repeat' first | exact trivial | refine ⟨⟨_,rfl,by first | exact Wk.refl _ _ | exact Wk.bare rfl | exact Wk.zero _ | exact Wk.none _⟩,?_⟩) (by repeat' first | exact trivial | refine ⟨⟨Nat.le_of_ble_eq_true rfl,_,_,rfl,rfl,by first | exact WkO.same rfl | exact WkO.same (fr_bare _) | exact WkO.same (bs_bare _) | exact WkO.same (is_bare _) | exact WkO.cells rfl⟩,?_⟩) ?_
  apply Jd.drwS M [] (by kernel_rfl); (· intro K gl hgl hK; simp only [glw] at hgl; subst hgl; simp (maxSteps:=1000000) (disch:=omega) only [↓evp,spw,Nat.reduceEqDiff,↓reduceIte,Nat.reduceLT,Nat.reduceAdd, show ∀ q,getR (fcells q) 0 3 = some (fcells q) from fun _=>rfl,c9,hcr,c11,hs1,c10,htt,c8,hs2,c2,hkn]; exact hK)
  exact Jd.ret (Done.one rfl rfl rfl)
theorem ansKnown:Answers Tryz.prog 17 (pureA knownV):=pure_of (by kernel_rfl) fun {args v} h μ s w vs n hR hv=>by
 cases args with
 | cons x l=>cases h
 | nil =>
  cases h
  simp only [VRs] at hv
  subst hv
  exact ret_val hR (by simp [VR]) (knownL w)
section
open Go.RowKit Go.ChangeShapes Go.WideShapes

def muW (W:World):Mu:=⟨fun _=>none,fun b i=>W.cell? ⟨b,i,none⟩⟩
theorem muW_rel (W:World):Rel (muW W) ⟨.nil,0⟩ W:=⟨⟨fun o x e=>(by cases e),fun o o' x x' p p' e=>(by cases e),fun o n A m c o' x' p' e=>(by cases e),fun o _=>rfl⟩,fun b i v hv=>⟨block_lt_of_cell hv,hv,fun o x p e=>(by cases e)⟩⟩
def tiles (P:Program):List Field->Nat->Option Nat
 | [],o=>some o
 | f :: fs,o=>cond (Nat.beq f.offset o) (tiles P fs (o + P.cellsOf f.type)) none
def plainT (P:Program):Nat->TypeId->Bool
 | 0,_=>false
 | k + 1,t=>match P.underlying t with
  | some .bool=>true
  | some (.int _)=>true
  | some (.slice e)=>Nat.blt 0 (P.cellsOf e) && plainT P k e
  | some (.struct fs)=>(match tiles P fs.toList 0 with | some n=>Nat.beq n (P.cellsOf t) | none=>false) && fs.toList.all fun f=>plainT P k f.type
  | _=>false
def ShpF (R:TypeId->List AV->Prop) (sz:TypeId->Nat):List Field->List AV->Prop
 | [],xs=>xs = []
 | f :: fs,xs=>∃ a b,xs = a ++ b/\a.length = sz f.type/\R f.type a/\ShpF R sz fs b
def Shp (P:Program):Nat->TypeId->List AV->Prop
 | 0,_,_=>False
 | k + 1,t,xs=>match P.underlying t with
  | some .bool=>∃ b,xs = [.b b]
  | some (.int i)=>∃ n,xs = [.i i n]/\(Lit.int i n).wf = true
  | some (.slice e)=>∃ ls:List (List AV),(∀ l ∈ ls,l.length = P.cellsOf e/\Shp P k e l)/\xs = [.vw ls.flatten ls.length]
  | some (.struct fs)=>ShpF (Shp P k) P.cellsOf fs.toList xs
  | _=>False
theorem flatten_cell {W:World} {b z:Nat} {C:Nat->List Value}:∀ (len base:Nat),(∀ i,i < len->(C i).length = z/\∀ j v,(C i)[j]? = some v->W.cell? ⟨b,base + i * z + j,none⟩ = some v) ->
  (((List.range len).flatMap C).length = len * z)/\∀ j v,((List.range len).flatMap C)[j]? = some v->W.cell? ⟨b,base + j,none⟩ = some v:=by
 intro len base
 induction len with
 | zero=>intro _; simp
 | succ n ih =>
  intro h
  obtain ⟨h1,h2⟩:=ih fun i hi=>h i (by omega)
  obtain ⟨h3,h4⟩:=h n (by omega)
  rw [List.range_succ,List.flatMap_append]
  have e:[n].flatMap C = C n:=by simp
  rw [e]
  refine ⟨by rw [List.length_append,h1,h3,Nat.add_mul]; omega,fun j v hj=>?_⟩
  rw [List.getElem?_append] at hj
  split at hj
  ·exact h2 j v hj
  next hn =>
  rw [h1] at hj hn
  have:=h4 _ v hj
  rwa [show base + n * z + (j - n * z) = base + j by omega] at this
theorem vrs_flatMap {μ:Mu} {G:Nat->List AV} {C:Nat->List Value}:∀ l:List Nat,(∀ i ∈ l,VRs μ (G i) (C i))->VRs μ (l.flatMap G) (l.flatMap C)
 | [],_=>VRs.nil_
 | i :: l,h=>by
  rw [List.flatMap_cons,List.flatMap_cons]
  exact (h i List.mem_cons_self).append (vrs_flatMap l fun j hj=>h j (List.mem_cons_of_mem _ hj))
section
variable {H:Type} {enc:TypeId × Value->H} {P:Program} {W:World} {held:Bool}
theorem shpF_trod {k n:Nat} (ih:∀ t,plainT P k t = true->∀ {fuel:Nat} {cs:List Value} {x:DataW H × List MemPlace},DataW.trod enc P W 0 (fun _=>true) held fuel t cs = some x->∃ xs,xs.length = cs.length/\Shp P k t xs/\VRs (muW W) xs cs) {cs:List Value} :
  ∀ (fs:List Field) (o e:Nat),tiles P fs o = some e->(fs.all fun f=>plainT P k f.type) = true->e = cs.length->(∀ f ∈ fs,∃ x,DataW.trod enc P W 0 (fun _=>true) held n f.type ((cs.drop f.offset).take (P.cellsOf f.type)) = some x)->o <= e /\
   ∃ xs,ShpF (Shp P k) P.cellsOf fs xs/\VRs (muW W) xs (cs.drop o):=by
 intro fs
 induction fs with
 | nil =>
  intro o e h _ he _
  simp only [tiles,Option.some.injEq] at h
  subst h
  refine ⟨Nat.le_refl _,[],rfl,?_⟩
  rw [List.drop_of_length_le (by omega)]
  exact VRs.nil_
 | cons f fs ihf =>
  intro o e h hp he hx
  simp only [tiles] at h
  obtain ⟨ho,h⟩:=cond_some h
  have ho:=Nat.eq_of_beq_eq_true ho
  simp only [List.all_cons,Bool.and_eq_true] at hp
  obtain ⟨x,hfx⟩:=hx f List.mem_cons_self
  obtain ⟨hle,xs,h1,h2⟩:=ihf _ _ h hp.2 he fun g hg=>hx g (List.mem_cons_of_mem _ hg)
  obtain ⟨a,ha,hs,hv⟩:=ih _ hp.1 hfx
  rw [ho] at ha hv
  have hl:a.length = P.cellsOf f.type:=by rw [ha,List.length_take,List.length_drop]; omega
  refine ⟨by omega,a ++ xs,⟨a,xs,rfl,hl,hs,h1⟩,?_⟩
  have:=hv.append h2
  rwa [<- List.drop_drop,List.take_append_drop] at this
theorem shp_trod:∀ (k:Nat) (t:TypeId),plainT P k t = true->∀ {fuel:Nat} {cs:List Value} {x:DataW H × List MemPlace},DataW.trod enc P W 0 (fun _=>true) held fuel t cs = some x->∃ xs,xs.length = cs.length/\Shp P k t xs/\VRs (muW W) xs cs:=by
 intro k
 induction k with
 | zero=>intro t h; cases h
 | succ k ih =>
  intro t hp fuel cs x h
  simp only [plainT] at hp
  split at hp
  ·next hu =>
   obtain ⟨b,rfl,_⟩:=DataW.trod_bool hu h
   exact ⟨[.b b],rfl,by simp only [Shp,hu]; exact ⟨b,rfl⟩,VRs.cons (by simp [VR]) VRs.nil_⟩
  ·next i hu =>
   obtain ⟨n,rfl,_,hw⟩:=DataW.trod_int hu h
   exact ⟨[.i i n],rfl,by simp only [Shp,hu]; exact ⟨n,rfl,hw⟩,VRs.cons (by simp [VR]) VRs.nil_⟩
  ·next e hu =>
   simp only [Bool.and_eq_true,Nat.blt_eq] at hp
   obtain ⟨hz,hp⟩:=hp
   rcases Go.Deep.open_slice hu h with ⟨rfl,_⟩ | ⟨a,len,cap,m,n,D,Pl,rfl,_,hl,hm,hmm,_,hall⟩
   ·refine ⟨[.vw [] 0],rfl,by simp only [Shp,hu]; exact ⟨[],(fun l hl=>by cases hl),rfl⟩,VRs.cons ?_ VRs.nil_⟩
    simp only [VR]
    exact ⟨[],⟨none,0,rfl,Nat.le_refl _,Nat.zero_le _,fun h=>absurd h (by simp)⟩,VRs.nil_⟩
   simp only [if_true] at hmm
   have key:∀ i,∃ q:List AV × List Value,i < len->q.1.length = P.cellsOf e/\q.2.length = P.cellsOf e/\Shp P k e q.1/\VRs (muW W) q.1 q.2/\∀ j v,q.2[j]? = some v->W.cell? ((a.add (i * P.cellsOf e)).add j) = some v:=by
    intro i
    by_cases hi:i < len
    ·obtain ⟨cs',h1,h2⟩:=hall i (by omega)
     obtain ⟨_,hlen,hcell⟩:=World.cells?_some h1
     obtain ⟨xs,g1,g2,g3⟩:=ih e hp h2
     exact ⟨(xs,cs'),fun _=>⟨g1.trans hlen,hlen,g2,g3,fun j v hj=>by rw [hcell j (by have h9:j < cs'.length:=(List.getElem?_eq_some_iff.1 hj).1; omega)]; exact hj⟩⟩
    exact ⟨([],[]),fun h=>absurd h hi⟩
   obtain ⟨G,hG⟩:=Classical.axiomOfChoice key
   have hsh:∀ l ∈ (List.range len).map fun i=>(G i).1,l.length = P.cellsOf e/\Shp P k e l:=fun l hml=>by
    obtain ⟨i,hi,rfl⟩:=List.mem_map.1 hml
    have:=hG i (by simpa using hi)
    exact ⟨this.1,this.2.2.1⟩
   refine ⟨[.vw ((List.range len).map fun i=>(G i).1).flatten ((List.range len).map fun i=>(G i).1).length],rfl,by simp only [Shp,hu]; exact ⟨_,hsh,rfl⟩,VRs.cons ?_ VRs.nil_⟩
   simp only [VR]
   rw [List.length_map,List.length_range]
   have hfl:((List.range len).map fun i=>(G i).1).flatten = (List.range len).flatMap fun i=>(G i).1:=rfl
   rw [hfl]
   obtain ⟨b,off,s⟩:=a
   refine ⟨(List.range len).flatMap fun i=>(G i).2,⟨_,cap,rfl,hl,hm,fun hn=>?_⟩,vrs_flatMap _ fun i hi=>(hG i (by simpa using hi)).2.2.2.1⟩
   obtain ⟨g1,g2,_,_,g5⟩:=hG 0 hn
   obtain ⟨u,hu0⟩:∃ u,(G 0).2[0]? = some u:=⟨_,List.getElem?_eq_getElem (by omega)⟩
   have h0:=g5 0 u hu0
   have hs:s = none:=by simpa [Addr.add] using World.cell?_spot h0
   subst hs
   refine ⟨b,off,rfl,fun i v hv=>?_⟩
   refine (flatten_cell (W:=W) (b:=b) (z:=P.cellsOf e) (C:=fun i=>(G i).2) len off fun i hi=>?_).2 i v hv
   obtain ⟨_,g2,_,_,g5⟩:=hG i hi
   refine ⟨g2,fun j v hj=>?_⟩
   have:=g5 j v hj
   rwa [add_plain,add_plain] at this
  ·next fs hu =>
   simp only [Bool.and_eq_true] at hp
   obtain ⟨h1,h2⟩:=hp
   split at h1
   ·next e ht =>
    rw [Nat.beq_eq] at h1
    obtain ⟨xs,n,_,_,hl,hlen,hf⟩:=DataW.trod_struct hu h
    obtain ⟨_,ys,g1,g2⟩:=shpF_trod (n:=n) (cs:=cs) (fun t hp=>ih t hp) fs.toList 0 e ht h2 (h1.trans hl.symm) fun f hf'=>by
     obtain ⟨i,hi⟩:=List.mem_iff_getElem?.1 hf'
     have hi':fs[i]? = some f:=by simpa using hi
     have hlt:=(List.getElem?_eq_some_iff.1 hi).1
     rw [hf i f hi']
     exact ⟨_,List.getElem?_eq_getElem (by simp at hlt; omega)⟩
    rw [List.drop_zero] at g2
    exact ⟨ys,g2.length,by simp only [Shp,hu]; exact g1,g2⟩
   cases h1
  cases hp
theorem open_agg {k:Nat} {t:TypeId} {fs:Array Field} {v:Value} {d:DataW H} {ps:List MemPlace} {r:Reach} {b0:Nat} (hu:P.underlying t = some (.struct fs))(hp:plainT P k t = true)(hv:Value.okWide P W r b0 t v)(h:DataW.Trod enc P W 0 (fun _=>true) held t v d ps) :
  ∃ xs,Shp P k t xs/\VR (muW W) (.agg xs) v:=by
 obtain ⟨cs,rfl,_⟩:=okWide_struct hu hv
 obtain ⟨fuel,hf⟩:=h
 obtain ⟨xs,_,h1,h2⟩:=shp_trod k t hp hf
 exact ⟨xs,h1,by simp only [VR]; exact ⟨cs.toList,by simp,by simpa [Value.cells] using h2⟩⟩
theorem law_run {f:FuncId} {g:List AV->Option AV} (hA:Answers P f (pureA g)) {args:List AV} {vs:List Value} (hg:g args = some (.b true))(hv:VRs (muW W) args vs):Calls P f vs.toArray W fun e w'=>e = .returned (.bool true)/\Below W.heap.size W w':=by
 have h1:=(hA (args:=args) (s:=⟨.nil,0⟩) (pureA_eq hg _)).2 (μ:=muW W) (w:=W) (vs:=vs) 10 (muW_rel W) hv (fun _ _ _=>rfl)
 refine (callsIn_wide.1 h1).mono ?_
 rintro e w' ⟨v',μ',rfl,r,t,hv⟩
 simp only [VR] at hv
 subst hv
 exact ⟨rfl,t.os,t.tape,t.output,t.size,fun g hg=>t.blk g hg fun o x p e=>(by cases e)⟩
end
end
section
section
variable {P:Program} {k:Nat} {t:TypeId} {xs:List AV}
theorem Shp.bool (hu:P.underlying t = some .bool)(h:Shp P k t xs):∃ b,xs = [.b b]:=by
 cases k with
 | zero=>exact h.elim
 | succ k=>simpa only [Shp,hu,Nat.add_sub_cancel] using h
theorem Shp.int {i:IntKind} (hu:P.underlying t = some (.int i))(h:Shp P k t xs):∃ n,xs = [.i i n]/\(Lit.int i n).wf = true:=by
 cases k with
 | zero=>exact h.elim
 | succ k=>simpa only [Shp,hu,Nat.add_sub_cancel] using h
theorem Shp.sl {e:TypeId} (hu:P.underlying t = some (.slice e))(h:Shp P k t xs):∃ ls:List (List AV),(∀ l ∈ ls,l.length = P.cellsOf e/\Shp P (k - 1) e l)/\xs = [.vw ls.flatten ls.length]:=by
 cases k with
 | zero=>exact h.elim
 | succ k=>simpa only [Shp,hu,Nat.add_sub_cancel] using h
theorem Shp.str {fs:Array Field} (hu:P.underlying t = some (.struct fs))(h:Shp P k t xs):ShpF (Shp P (k - 1)) P.cellsOf fs.toList xs:=by
 cases k with
 | zero=>exact h.elim
 | succ k=>simpa only [Shp,hu,Nat.add_sub_cancel] using h
theorem Shp.i64 (hu:P.underlying t = some (.int .i64))(h:Shp P k t xs):∃ n,xs = [.i .i64 n]/\-9223372036854775808 <= n/\n <= 9223372036854775807:=by
 obtain ⟨n,h1,h2⟩:=h.int hu
 simp [Lit.wf,IntKind.min,IntKind.max,IntKind.signed,IntKind.bits] at h2
 exact ⟨n,h1,by omega,by omega⟩
theorem Shp.ints {e:TypeId} (hu:P.underlying t = some (.slice e))(he:P.underlying e = some (.int .i64))(h:Shp P k t xs):∃ l:List Int,xs = [.vw (is l) l.length]/\∀ n ∈ l,-9223372036854775808 <= n/\n <= 9223372036854775807:=by
 obtain ⟨ls,h1,rfl⟩:=h.sl hu
 suffices hs:∃ l:List Int,l.length = ls.length/\is l = ls.flatten/\∀ n ∈ l,-9223372036854775808 <= n/\n <= 9223372036854775807 by
  obtain ⟨l,g1,g2,g3⟩:=hs
  exact ⟨l,by rw [g1,g2],g3⟩
 clear h
 induction ls with
 | nil=>exact ⟨[],rfl,rfl,fun n hn=>by cases hn⟩
 | cons x ls ih =>
  obtain ⟨l,g1,g2,g3⟩:=ih fun y hy=>h1 y (List.mem_cons_of_mem _ hy)
  obtain ⟨n,rfl,g4,g5⟩:=(h1 x List.mem_cons_self).2.i64 he
  refine ⟨n :: l,by simp [g1],by rw [List.flatten_cons,<- g2]; rfl,fun m hm=>?_⟩
  rcases List.mem_cons.1 hm with rfl | hm
  ·exact ⟨g4,g5⟩
  exact g3 m hm
end
def DigO (x:AV):Prop:=∃ l:List Nat,Ok l/\x = .vw (l.map fun d:Nat=>AV.i .u32 (d:Int)) l.length
theorem DigO.x {x:AV} (h:DigO x):digX x = true:=by
 obtain ⟨l,_,rfl⟩:=h
 simp only [digX]
 exact bares_map (fun _=>rfl) l
theorem digsV_map {l:List Nat} (h:Ok l):digsV (l.map fun d:Nat=>AV.i .u32 (d:Int)) = some l:=by
 induction l with
 | nil=>rfl
 | cons d l ih =>
  have h1:Nat.blt d 4294967296 = true:=by rw [Nat.blt_eq]; exact h d List.mem_cons_self
  show cond (Nat.blt d 4294967296) ((digsV (l.map fun d:Nat=>AV.i .u32 (d:Int))).map (d :: ·)) none = _
  rw [h1,ih fun e he=>h e (List.mem_cons_of_mem _ he)]
  rfl
theorem DigO.nat {x:AV} (h:DigO x) {m:Nat} (hm:lenD x <= m)(hm2:m <= 17592186044416):∃ n,natV x = some n/\n < 2 ^ (32 * m):=by
 obtain ⟨l,hok,rfl⟩:=h
 have hl:l.length <= m:=hm
 refine ⟨val l,?_,?_⟩
 ·simp only [natV,digV,digsV_map hok]
  rw [show (Nat.beq l.length l.length && Nat.ble l.length 17592186044416) = true by simp; omega]
  rfl
 refine Nat.lt_of_lt_of_le (val_lt l hok) ?_
 rw [show (4294967296:Nat) = 2 ^ 32 from rfl,<- Nat.pow_mul]
 exact Nat.pow_le_pow_right (by omega) (by omega)
theorem DigO.rat {n d:AV} (hn:DigO n)(hd:DigO d) {m:Nat} (h1:lenD n <= m)(h2:lenD d <= m)(h0:0 < m)(hm:32 * m <= lim) (neg:Bool):∃ a b,natV n = some a/\natV d = some b/\a < 2 ^ (32 * m)/\b < 2 ^ (32 * m)/\partsV (.agg [.b neg,n,d]) = some (neg,a,b)/\ratV (.agg [.b neg,n,d]) = some (fracVal neg a b):=by
 have hm2:m <= 17592186044416:=by unfold lim at hm; omega
 obtain ⟨a,ha,la⟩:=hn.nat h1 hm2
 obtain ⟨b,hb,lb⟩:=hd.nat h2 hm2
 have hs:smallP a b = true:=by
  unfold smallP
  rw [Nat.ble_eq]
  have:=log2_lt la (by omega)
  have:=log2_lt lb (by omega)
  omega
 have hp:partsV (.agg [.b neg,n,d]) = some (neg,a,b):=by simp only [partsV,ha,hb,hs,cond_true]
 exact ⟨a,b,ha,hb,la,lb,hp,by simp only [ratV,hp,Option.map_some]⟩
theorem shp_digs {k:Nat} {xs:List AV} (h:Shp Tryz.prog k 29 xs):∃ x,xs = [x]/\DigO x:=by
 obtain ⟨ls,h1,rfl⟩:=h.sl Tryz.underlying29
 refine ⟨_,rfl,?_⟩
 suffices hs:∃ l:List Nat,l.length = ls.length/\Ok l/\(l.map fun d:Nat=>AV.i .u32 (d:Int)) = ls.flatten by
  obtain ⟨l,g1,g2,g3⟩:=hs
  exact ⟨l,g2,by rw [g1,g3]⟩
 clear h
 induction ls with
 | nil=>exact ⟨[],rfl,fun d hd=>(by cases hd),rfl⟩
 | cons x ls ih =>
  obtain ⟨l,g1,g2,g3⟩:=ih fun y hy=>h1 y (List.mem_cons_of_mem _ hy)
  obtain ⟨n,rfl,hw⟩:=(h1 x List.mem_cons_self).2.int Tryz.underlying182
  simp [Lit.wf,IntKind.min,IntKind.max,IntKind.signed,IntKind.bits] at hw
  obtain ⟨d,rfl⟩:∃ d:Nat,n = d:=⟨n.toNat,by omega⟩
  refine ⟨d :: l,by simp [g1],fun e he=>?_,by rw [List.flatten_cons,<- g3]; rfl⟩
  rcases List.mem_cons.1 he with rfl | he
  ·omega
  exact g2 e he
theorem shp_frac {k:Nat} {xs:List AV} (h:Shp Tryz.prog k 31 xs):∃ neg n d,xs = [.b neg,n,d]/\DigO n/\DigO d:=by
 obtain ⟨a,_,rfl,_,h1,b,_,rfl,_,h2,c,_,rfl,_,h3,rfl⟩:=h.str Tryz.underlying31
 obtain ⟨neg,rfl⟩:=h1.bool Tryz.underlying4
 obtain ⟨n,rfl,h4⟩:=shp_digs h2
 obtain ⟨d,rfl,h5⟩:=shp_digs h3
 exact ⟨neg,n,d,rfl,h4,h5⟩
theorem shp_arc {k:Nat} {xs:List AV} (h:Shp Tryz.prog k 45 xs):∃ x:AArc,xs = aC x/\DigO x.n/\DigO x.d/\(smallA x = true->x.Ok):=by
 obtain ⟨a,_,rfl,_,h1,b,_,rfl,_,h2,c,_,rfl,_,h3,d,_,rfl,_,h4,e,_,rfl,_,h5,rfl⟩:=h.str Tryz.underlying45
 obtain ⟨f,rfl,_⟩:=h1.i64 Tryz.underlying3
 obtain ⟨t,rfl,_⟩:=h2.i64 Tryz.underlying3
 obtain ⟨w,rfl,_⟩:=h3.i64 Tryz.underlying3
 obtain ⟨v,rfl,_⟩:=h4.i64 Tryz.underlying3
 obtain ⟨neg,n,d,rfl,g1,g2⟩:=shp_frac h5
 by_cases hs:lenD n <= 2/\lenD d <= 2
 ·obtain ⟨p,q,_,_,_,_,_,hr⟩:=g1.rat g2 hs.1 hs.2 (by omega) (by unfold lim; omega) neg
  exact ⟨⟨⟨f,t,w,v,fracVal neg p q⟩,neg,n,d⟩,rfl,g1,g2,fun _=>⟨hr,(digX_bare g1.x).1,(digX_bare g2.x).1,(digX_bare g1.x).2,(digX_bare g2.x).2⟩⟩
 refine ⟨⟨⟨f,t,w,v,0⟩,neg,n,d⟩,rfl,g1,g2,fun h=>absurd ?_ hs⟩
 simp only [smallA,Bool.and_eq_true,decide_eq_true_eq] at h
 exact h
theorem shp_lattice {k:Nat} {xs:List AV} (h:Shp Tryz.prog k 24 xs):∃ (T:Int) (l:List AArc),.agg xs = latA T l/\(∀ x ∈ l,DigO x.n/\DigO x.d)/\(∀ x ∈ l,smallA x = true->x.Ok)/\-9223372036854775808 <= T/\T <= 9223372036854775807:=by
 obtain ⟨a,_,rfl,_,h1,b,_,rfl,hq,h2,rfl⟩:=h.str Tryz.underlying24
 obtain ⟨T,rfl,hT⟩:=h1.i64 Tryz.underlying3
 obtain ⟨ls,h3,rfl⟩:=h2.sl Tryz.underlying22
 suffices hs:∃ l:List AArc,l.length = ls.length/\ar l = ls.flatten/\(∀ x ∈ l,DigO x.n/\DigO x.d)/\∀ x ∈ l,smallA x = true->x.Ok by
  obtain ⟨l,g1,g2,g3,g4⟩:=hs
  refine ⟨T,l,?_,g3,g4,hT⟩
  unfold latA
  rw [g1,g2]
  rfl
 clear h h2 hq
 induction ls with
 | nil=>exact ⟨[],rfl,rfl,fun x hx=>(by cases hx),fun x hx=>(by cases hx)⟩
 | cons x ls ih =>
  obtain ⟨l,g1,g2,g3,g4⟩:=ih fun y hy=>h3 y (List.mem_cons_of_mem _ hy)
  obtain ⟨y,rfl,k1,k2,k3⟩:=shp_arc (h3 x List.mem_cons_self).2
  refine ⟨y :: l,by simp [g1],by rw [List.flatten_cons,<- g2]; rfl,fun z hz=>?_,fun z hz=>?_⟩
  ·rcases List.mem_cons.1 hz with rfl | hz
   ·exact ⟨k1,k2⟩
   exact g3 z hz
  rcases List.mem_cons.1 hz with rfl | hz
  ·exact k3
  exact g4 z hz
end
end Go.Proofs.YtdehimgccmbfkaaGreat
