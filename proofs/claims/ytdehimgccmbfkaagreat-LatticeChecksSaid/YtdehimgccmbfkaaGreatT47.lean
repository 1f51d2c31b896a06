/- Lemmas on the way: LtP, LtQ, Ly0, Ly1, Ly2, LcP, Ly3, Tk2. -/
import Derived.Test.YtdehimgccmbfkaaGreatT33
set_option linter.all false
set_option maxRecDepth 1000000
set_option maxHeartbeats 32000000
namespace Go.Proofs.YtdehimgccmbfkaaGreat
open Go.RowKit
structure LArc where
 f:Int
 t:Int
 w:Int
 v:Int
 q:Rat
def arcN (ac:List LArc) (i:Nat):LArc:=ac.getD i ⟨0,0,0,0,0⟩
theorem arcN_get {ac:List LArc} {i:Nat} {a:LArc} (h:ac[i]? = some a):arcN ac i = a:=by
 unfold arcN
 rw [List.getD_eq_getElem?_getD,h]
 rfl
def cmpI (a b:Int):Int:=if a < b then -1 else if b < a then 1 else 0
def ordA (a b:LArc):Int:=if cmpI a.f b.f ≠ 0 then cmpI a.f b.f else if cmpI a.t b.t ≠ 0 then cmpI a.t b.t else if cmpI a.w b.w ≠ 0 then cmpI a.w b.w else cmpI a.v b.v
def arcB (T:Int) (a:LArc):Bool:=decide (0 <= a.f/\a.f < a.t/\a.t <= T/\1 <= a.w/\a.w <= 2000/\0 <= a.v/\0 < a.q/\a.q <= 1)
def rankB (ac:List LArc) (i:Nat):Bool:=decide (i = 0) || decide (ordA (arcN ac (i - 1)) (arcN ac i) < 0)
def fineA (T:Int) (ac:List LArc) (i:Nat):Bool:=arcB T (arcN ac i) && rankB ac i
def latE (T:Int) (ac:List LArc):Int:=if 20000 < ac.length then 5 else if 0 <= T/\T <= 1000/\(List.range ac.length).all (fineA T ac) = true then 0 else 2
theorem latE_ok {T:Int} {ac:List LArc} (h:latE T ac = 0):ac.length <= 20000/\0 <= T/\T <= 1000/\(∀ i,i < ac.length->arcB T (arcN ac i) = true/\rankB ac i = true):=by
 unfold latE at h
 split at h
 ·omega
 split at h
 ·next h2 =>
  refine ⟨by omega,h2.1,h2.2.1,fun i hi=>?_⟩
  have:=List.all_eq_true.1 h2.2.2 i (List.mem_range.2 hi)
  unfold fineA at this
  rwa [Bool.and_eq_true] at this
 omega

abbrev Hist:=List Int
def nextH (h:Hist) (w:Int):Hist:=(h ++ [w]).drop 1
theorem nextH_length (h:Hist) (w:Int):(nextH h w).length = h.length:=by simp [nextH]
def HistOk (n v:Nat)(h:Hist):Prop:=h.length = n/\∀ x ∈ h,0 <= x/\x <= (v:Int)
theorem HistOk.next {n v:Nat} {h:Hist} (hh:HistOk n v h) {w:Int} (h0:0 <= w)(h1:w <= (v:Int)):HistOk n v (nextH h w):=by
 refine ⟨by rw [nextH_length,hh.1],fun x hx=>?_⟩
 rcases List.mem_append.1 (List.mem_of_mem_drop hx) with hx | hx
 ·exact hh.2 x hx
 rw [List.mem_singleton.1 hx]
 exact ⟨h0,h1⟩
abbrev FS:=Nat->Hist->Option Rat
abbrev Rows:=Hist->List Rat
def En (F:FS) (t:Nat) (L:List (Hist × Rat)):Prop:=(L.map Prod.fst).Nodup/\∀ h x,(h,x) ∈ L ↔ F t h = some x
theorem En.perm {F:FS} {t:Nat} {L L':List (Hist × Rat)} (h:En F t L) (h':En F t L'):L.Perm L':=by
 have nd:∀ {L:List (Hist × Rat)},(L.map Prod.fst).Nodup->L.Nodup:=fun h=>(List.pairwise_map.1 h).imp (fun h e=>h (by rw [e]))
 rw [List.perm_ext_iff_of_nodup (nd h.1) (nd h'.1)]
 intro e
 rw [show e = (e.1,e.2) from rfl,h.2,h'.2]
section
section
variable {J:Rat->Rat->Rat} {R:Rows} {ac:List LArc} {n v T:Nat}
end
end
structure AArc where
 a:LArc
 neg:Bool
 n:AV
 d:AV
def aC (x:AArc):List AV:=[.i .i64 x.a.f,.i .i64 x.a.t,.i .i64 x.a.w,.i .i64 x.a.v,.b x.neg,x.n,x.d]
def AArc.Ok (x:AArc):Prop:=ratV (.agg [.b x.neg,x.n,x.d]) = some x.a.q/\bare x.n = true/\bare x.d = true/\flat x.n = true/\flat x.d = true
def arcV:AV->Option AArc
 | .agg [.i .i64 f,.i .i64 t,.i .i64 w,.i .i64 v,.b neg,n,d]=>match ratV (.agg [.b neg,n,d]) with
  | some q=>cond (bare n && bare d && flat n && flat d) (some ⟨⟨f,t,w,v,q⟩,neg,n,d⟩) none
  | none=>none
 | _=>none
theorem arcV_some {x:AV} {r:AArc} (h:arcV x = some r):x = .agg (aC r)/\r.Ok:=by
 unfold arcV at h
 split at h
 ·split at h
  ·next q hq =>
   obtain ⟨hc,h⟩:=cond_some h
   cases h
   simp only [Bool.and_eq_true] at hc
   exact ⟨rfl,hq,hc.1.1.1,hc.1.1.2,hc.1.2,hc.2⟩
  cases h
 cases h
theorem arcV_aC {x:AArc} (h:x.Ok):arcV (.agg (aC x)) = some x:=by
 obtain ⟨h1,h2,h3,h4,h5⟩:=h
 simp only [arcV,aC,h1,h2,h3,h4,h5]
 rfl
theorem AArc.Ok.flat {x:AArc} (h:x.Ok):(aC x).all flat = true:=by
 obtain ⟨_,_,_,h1,h2⟩:=h
 simp only [aC,List.all_cons,h1,h2]
 rfl
theorem AArc.Ok.bare {x:AArc} (h:x.Ok):bares (aC x) = true:=by
 obtain ⟨_,h1,h2,_,_⟩:=h
 simp only [aC,bares,h1,h2]
 rfl
def arcsV:List AV->Option (List AArc)
 | []=>some []
 | a :: b :: c :: d :: e :: n :: m :: l=>match arcV (.agg [a,b,c,d,e,n,m]) with
  | some x=>(arcsV l).map (x :: ·)
  | none=>none
 | _=>none
def ar (l:List AArc):List AV:=l.flatMap aC
theorem arcsV_some:∀ {c:List AV} {l:List AArc},arcsV c = some l->c = ar l/\∀ x ∈ l,x.Ok
 | [],l,h=>by simp only [arcsV,Option.some.injEq] at h; subst h; exact ⟨rfl,fun x hx=>by cases hx⟩
 | [_],_,h | [_,_],_,h | [_,_,_],_,h | [_,_,_,_],_,h | [_,_,_,_,_],_,h | [_,_,_,_,_,_],_,h=>by simp [arcsV] at h
 | a :: b :: c :: d :: e :: n :: m :: l,r,h=>by
  simp only [arcsV] at h
  split at h
  ·next x hx =>
   simp only [Option.map_eq_some_iff] at h
   obtain ⟨r',h1,rfl⟩:=h
   obtain ⟨e1,ok⟩:=arcV_some hx
   obtain ⟨rfl,h3⟩:=arcsV_some h1
   simp only [AV.agg.injEq] at e1
   refine ⟨?_,fun y hy=>?_⟩
   ·show [a,b,c,d,e,n,m] ++ ar r' = aC x ++ ar r'
    rw [e1]
   rcases List.mem_cons.1 hy with rfl | hy
   ·exact ok
   exact h3 y hy
  cases h
theorem arcsV_ar:∀ {l:List AArc},(∀ x ∈ l,x.Ok)->arcsV (ar l) = some l
 | [],_=>rfl
 | x :: l,h=>by
  show arcsV (aC x ++ ar l) = _
  have h1:=arcV_aC (h x List.mem_cons_self)
  simp only [aC] at h1
  simp only [aC,List.cons_append,List.nil_append,arcsV,h1,arcsV_ar fun y hy=>h y (List.mem_cons_of_mem _ hy),Option.map_some]
def latV:AV->Option (Int × List AArc)
 | .agg [.i .i64 T,.snil]=>some (T,[])
 | .agg [.i .i64 T,.vw c n]=>match arcsV c with
  | some l=>cond (Nat.beq l.length n) (some (T,l)) none
  | none=>none
 | _=>none
def latA (T:Int) (l:List AArc):AV:=.agg [.i .i64 T,.vw (ar l) l.length]
theorem latV_some {x:AV} {T:Int} {l:List AArc} (h:latV x = some (T,l)):(x = latA T l ∨ (x = .agg [.i .i64 T,.snil]/\l = []))/\bare x = true/\∀ y ∈ l,y.Ok:=by
 unfold latV at h
 split at h
 ·cases h; exact ⟨.inr ⟨rfl,rfl⟩,rfl,fun y hy=>by cases hy⟩
 ·split at h
  ·next r hr =>
   obtain ⟨hc,h⟩:=cond_some h
   cases h
   obtain ⟨rfl,h3⟩:=arcsV_some hr
   rw [Nat.beq_eq] at hc
   subst hc
   exact ⟨.inl rfl,rfl,h3⟩
  cases h
 cases h
theorem latV_A {T:Int} {l:List AArc} (h:∀ x ∈ l,x.Ok):latV (latA T l) = some (T,l):=by
 simp only [latV,latA,arcsV_ar h,show Nat.beq l.length l.length = true from by simp,cond_true]
theorem Wk.lat (H:Mu->Prop) (T:Int) {x:AV} {l:List AArc} (h:x = latA T l ∨ (x = .agg [.i .i64 T,.snil]/\l = [])):Wk H x (latA T l):=by
 rcases h with rfl | ⟨rfl,rfl⟩
 ·exact Wk.refl H _
 exact Wk.agg (.cons (Wk.refl H _) (.cons (Wk.none H) .nil))
theorem aC_len (x:AArc):(aC x).length = 7:=rfl
theorem aC_get (x:AArc):getR (aC x) 0 7 = some (aC x):=rfl
theorem aC0 (x:AArc):(aC x)[0]? = some (.i .i64 x.a.f):=rfl
theorem aC1 (x:AArc):(aC x)[1]? = some (.i .i64 x.a.t):=rfl
theorem aC2 (x:AArc):(aC x)[2]? = some (.i .i64 x.a.w):=rfl
theorem aC3 (x:AArc):(aC x)[3]? = some (.i .i64 x.a.v):=rfl
theorem aC4 (x:AArc):getR (aC x) 4 3 = some [.b x.neg,x.n,x.d]:=rfl
theorem aC_put (x:AArc) (a b c d e f g:AV):putR [a,b,c,d,e,f,g] 0 (aC x) = aC x:=rfl
theorem ac:type_of% (And.intro @aC_get (And.intro @aC0 (And.intro @aC1 (And.intro @aC2 (And.intro @aC3 (And.intro @aC4 (And.intro @aC_put @aC_len))))))):=And.intro @aC_get (And.intro @aC0 (And.intro @aC1 (And.intro @aC2 (And.intro @aC3 (And.intro @aC4 (And.intro @aC_put @aC_len))))))
theorem ar_get {l:List AArc} {i:Nat} {x:AArc} (h:l[i]? = some x):getR (ar l) (i * 7) 7 = some (aC x):=flatMap_getR aC_len h
theorem ar_len (l:List AArc):(ar l).length = l.length * 7:=flatMap_len aC_len l
theorem qz_one:qz ((1:Int):Rat) <= lim:=Nat.le_trans (qz_nat 1 (by omega)) (by unfold lim; omega)
theorem first8 (a b c d e f g h:Bool):(a = true) ∨ (a = false/\b = true) ∨ (a = false/\b = false/\c = true) ∨ (a = false/\b = false/\c = false/\d = true) ∨ (a = false/\b = false/\c = false/\d = false/\e = true) ∨ (a = false/\b = false/\c = false/\d = false/\e = false/\f = true) ∨ (a = false/\b = false/\c = false/\d = false/\e = false/\f = false/\g = true) ∨ (a = false/\b = false/\c = false/\d = false/\e = false/\f = false/\g = false/\h = true) ∨ (a = false/\b = false/\c = false/\d = false/\e = false/\f = false/\g = false/\h = false):=by
 cases a
 all_goals cases b
 all_goals cases c
 all_goals cases d
 all_goals cases e
 all_goals cases f
 all_goals cases g
 all_goals cases h
 all_goals simp
def beforeV:List AV->Option AV
 | [x,y]=>match arcV x,arcV y with
  | some a,some b=>some (.b (decide (ordA a.a b.a < 0)))
  | _,_=>none
 | _=>none
theorem beforeV_eq {a b:AArc} (ha:a.Ok)(hb:b.Ok):beforeV [.agg (aC a),.agg (aC b)] = some (.b (decide (ordA a.a b.a < 0))):=by simp only [beforeV,arcV_aC ha,arcV_aC hb]
theorem cmpI_eq (a:Int):cmpI a a = 0:=by unfold cmpI; simp
theorem cmpI_ne {a b:Int} (h:¬ a = b):cmpI a b ≠ 0/\(cmpI a b < 0 ↔ a < b):=by
 unfold cmpI
 rcases Int.lt_or_lt_of_ne h with h | h
 ·simp [h]
 have:¬ a < b:=by omega
 simp [this,h]
theorem cmpI_neg (a b:Int):cmpI a b < 0 ↔ a < b:=by
 by_cases h:a = b
 ·subst h; simp [cmpI_eq]
 exact (cmpI_ne h).2
theorem ansBefore:Answers Tryz.prog 85 (pureA beforeV):=by
 obtain ⟨E,M⟩:∃ E,Mc Tryz.prog (envOf []) E:=⟨_,mc_of laidL mixedL (fun p hp=>by cases hp)⟩
 refine answers_pure (by kernel_rfl) Tryz.func85 Tryz.ntmps85 rfl ?_
 intro args v h
 unfold beforeV at h
 split at h
 ·next x y =>
  split at h
  ·next a b ha hb =>
   cases h
   obtain ⟨rfl,oa⟩:=arcV_some ha
   obtain ⟨rfl,ob⟩:=arcV_some hb
   have fa:=oa.flat
   have fb:=ob.flat
   refine ⟨by simp only [bares,bare,oa.bare,ob.bare]; rfl,rfl,Nat.le_of_ble_eq_true rfl,?_⟩
   clear ha hb
   rw [ofList2,St.of_nil]
   apply Jd.regS M; (· intro K gl hgl hK; simp only [glw] at hgl; subst hgl; simp (maxSteps:=1000000) (disch:=omega) only [↓evp,spw,Nat.reduceEqDiff,↓reduceIte,Nat.reduceLT,Nat.reduceAdd,fa,fb]; exact hK)
   refine Jd.seq ?_
   apply Jd.regS M; (· intro K gl hgl hK; simp only [glw] at hgl; subst hgl; simp (maxSteps:=1000000) (disch:=omega) only [↓evp,spw,Nat.reduceEqDiff,↓reduceIte,Nat.reduceLT,Nat.reduceAdd,ac]; exact hK)
   refine Jd.cnd rfl (fun h1=>?_) (fun h1=>?_)
   ·apply Jd.regS M; (· intro K gl hgl hK; simp only [glw] at hgl; subst hgl; simp (maxSteps:=1000000) (disch:=omega) only [↓evp,spw,Nat.reduceEqDiff,↓reduceIte,Nat.reduceLT,Nat.reduceAdd,ac]; exact hK)
    refine Jd.retT (Done.one rfl rfl ?_)
    have:=cmpI_ne (a:=a.a.f) (b:=b.a.f) (by simpa using h1)
    simp only [ordA,if_pos this.1,this.2]
   refine Jd.skipT ?_
   refine Jd.seq ?_
   apply Jd.regS M; (· intro K gl hgl hK; simp only [glw] at hgl; subst hgl; simp (maxSteps:=1000000) (disch:=omega) only [↓evp,spw,Nat.reduceEqDiff,↓reduceIte,Nat.reduceLT,Nat.reduceAdd,ac]; exact hK)
   refine Jd.cnd rfl (fun h2=>?_) (fun h2=>?_)
   ·apply Jd.regS M; (· intro K gl hgl hK; simp only [glw] at hgl; subst hgl; simp (maxSteps:=1000000) (disch:=omega) only [↓evp,spw,Nat.reduceEqDiff,↓reduceIte,Nat.reduceLT,Nat.reduceAdd,ac]; exact hK)
    refine Jd.retT (Done.one rfl rfl ?_)
    have:=cmpI_ne (a:=a.a.t) (b:=b.a.t) (by simpa using h2)
    have h1:a.a.f = b.a.f:=by simpa using h1
    simp only [ordA,h1,cmpI_eq,ne_eq,not_true,if_false,if_pos this.1,this.2]
   refine Jd.skipT ?_
   refine Jd.seq ?_
   apply Jd.regS M; (· intro K gl hgl hK; simp only [glw] at hgl; subst hgl; simp (maxSteps:=1000000) (disch:=omega) only [↓evp,spw,Nat.reduceEqDiff,↓reduceIte,Nat.reduceLT,Nat.reduceAdd,ac]; exact hK)
   refine Jd.cnd rfl (fun h3=>?_) (fun h3=>?_)
   ·apply Jd.regS M; (· intro K gl hgl hK; simp only [glw] at hgl; subst hgl; simp (maxSteps:=1000000) (disch:=omega) only [↓evp,spw,Nat.reduceEqDiff,↓reduceIte,Nat.reduceLT,Nat.reduceAdd,ac]; exact hK)
    refine Jd.retT (Done.one rfl rfl ?_)
    have:=cmpI_ne (a:=a.a.w) (b:=b.a.w) (by simpa using h3)
    have h1:a.a.f = b.a.f:=by simpa using h1
    have h2:a.a.t = b.a.t:=by simpa using h2
    simp only [ordA,h1,h2,cmpI_eq,ne_eq,not_true,if_false,if_pos this.1,this.2]
   refine Jd.skipT ?_
   apply Jd.regS M; (· intro K gl hgl hK; simp only [glw] at hgl; subst hgl; simp (maxSteps:=1000000) (disch:=omega) only [↓evp,spw,Nat.reduceEqDiff,↓reduceIte,Nat.reduceLT,Nat.reduceAdd,ac]; exact hK)
   refine Jd.ret (Done.one rfl rfl ?_)
   have h1:a.a.f = b.a.f:=by simpa using h1
   have h2:a.a.t = b.a.t:=by simpa using h2
   have h3:a.a.w = b.a.w:=by simpa using h3
   simp only [ordA,h1,h2,h3,cmpI_eq,ne_eq,not_true,if_false,cmpI_neg]
  cases h
 cases h
def arcsL (l:List AArc):List LArc:=l.map (·.a)
theorem arcsL_len (l:List AArc):(arcsL l).length = l.length:=by simp [arcsL]
theorem arcsL_at {l:List AArc} {i:Nat} {x:AArc} (h:l[i]? = some x):arcN (arcsL l) i = x.a:=arcN_get (by simp [arcsL,h])
def checkV:List AV->Option AV
 | [x]=>(latV x).map fun p=>.i .i64 (latE p.1 (arcsL p.2))
 | _=>none
theorem latE_bad {T:Int} {ac:List LArc} {i:Nat} (hl:ac.length <= 20000)(hi:i < ac.length)(h:fineA T ac i = false):latE T ac = 2:=by
 unfold latE
 rw [if_neg (by omega),if_neg]
 rintro ⟨_,_,h3⟩
 have:=List.all_eq_true.1 h3 i (List.mem_range.2 hi)
 rw [h] at this
 cases this
theorem latE_T {T:Int} {ac:List LArc} (hl:ac.length <= 20000)(h:¬ (0 <= T/\T <= 1000)):latE T ac = 2:=by
 unfold latE
 rw [if_neg (by omega),if_neg]
 rintro ⟨h1,h2,_⟩
 exact h ⟨h1,h2⟩
theorem latE_fine {T:Int} {ac:List LArc} (hl:ac.length <= 20000)(h0:0 <= T)(h1:T <= 1000)(h:∀ i,i < ac.length->fineA T ac i = true):latE T ac = 0:=by
 unfold latE
 rw [if_neg (by omega),if_pos ⟨h0,h1,List.all_eq_true.2 fun i hi=>h i (List.mem_range.1 hi)⟩]
theorem sgnI_le {q:Rat}:sgnI q <= 0 ↔ ¬ 0 < q:=by unfold sgnI; split <;> (try split) <;> simp_all <;> grind
theorem sgnI_gt {q:Rat}:sgnI q > 0 ↔ 0 < q:=by have:=sgnI_le (q:=q); constructor <;> intro h <;> grind
theorem arcB_or1 (T:Int) (r:LArc):(decide (r.f < 0) || (decide (r.f ≥ r.t) || (decide (r.t > T) || (decide (r.w < 1) || (decide (r.w > 2000) || (decide (r.v < 0) || (decide (sgnI r.q <= 0) || decide (sgnI (r.q - ((1:Int):Rat)) > 0)))))))) = !arcB T r:=by
 have h1:(sgnI (r.q - ((1:Int):Rat)) > 0) ↔ ¬ r.q <= 1:=by
  rw [sgnI_gt]
  have:((1:Int):Rat) = 1:=rfl
  rw [this]
  grind
 unfold arcB
 rw [Bool.eq_iff_iff]
 simp only [Bool.or_eq_true,decide_eq_true_eq,Bool.not_eq_true',decide_eq_false_iff_not,sgnI_le,h1]
 by_cases h0:0 < r.q
 ·by_cases h2:r.q <= 1
  ·simp only [h0,h2]; simp; omega
  simp only [h0,h2]; simp
 simp only [h0]; simp
theorem bad_of {T:Int} {l:List AArc} {i:Nat} {x:LArc} (hl:l.length <= 20000)(hi:i < l.length)(hax:arcN (arcsL l) i = x)(h:arcB T x = false):AV.i .i64 2 = AV.i .i64 (latE T (arcsL l)):=by
 rw [latE_bad (by simpa [arcsL] using hl) (i:=i) (by simpa [arcsL] using hi) (by unfold fineA; rw [hax,h]; rfl)]
theorem ansCheckR:Answers Tryz.prog 29 (pureA checkV):=by
 obtain ⟨E,M,c1,c2,c3,c4⟩:∃ E,Mc Tryz.prog (envOf [(27,pureA signV),(24,pureA ofV),(40,pureA cmpV),(85,pureA beforeV)]) E/\(∀ a s,E.call 27 a s = pureA signV a s)/\(∀ a s,E.call 24 a s = pureA ofV a s)/\(∀ a s,E.call 40 a s = pureA cmpV a s)/\(∀ a s,E.call 85 a s = pureA beforeV a s) :=
  ⟨_,mc_of laidL mixedL (by simp only [List.forall_mem_cons]; exact ⟨ansSignR,ansOfR,ansCmpR,ansBefore,fun p hp=>by cases hp⟩),fun _ _=>rfl,fun _ _=>rfl,fun _ _=>rfl,fun _ _=>rfl⟩
 refine answers_pure (by kernel_rfl) Tryz.func29 Tryz.ntmps29 rfl ?_
 intro args v h
 unfold checkV at h
 split at h
 ·next x =>
  simp only [Option.map_eq_some_iff] at h
  obtain ⟨⟨T,l⟩,hx,rfl⟩:=h
  obtain ⟨hx,hb,ok⟩:=latV_some hx
  refine ⟨by simp only [bares,hb]; rfl,rfl,Nat.le_of_ble_eq_true rfl,?_⟩
  dsimp only
  rw [ofList1,St.of_nil]
  refine Jd.toL [] [(0,latA T l)] [] rfl .nil ⟨⟨_,rfl,Wk.lat _ T hx⟩,trivial⟩ trivial ?_
  clear hx hb
  unfold latA
  apply Jd.regS M; (· intro K gl hgl hK; simp only [glw] at hgl; subst hgl; simp (maxSteps:=1000000) (disch:=omega) only [↓evp,spw,Nat.reduceEqDiff,↓reduceIte,Nat.reduceLT,Nat.reduceAdd]; exact hK)
  refine Jd.seq ?_
  apply Jd.regS M; (· intro K gl hgl hK; simp only [glw] at hgl; subst hgl; simp (maxSteps:=1000000) (disch:=omega) only [↓evp,spw,Nat.reduceEqDiff,↓reduceIte,Nat.reduceLT,Nat.reduceAdd]; exact hK)
  have hlen:=arcsL_len l
  refine Jd.cnd rfl (fun h1=>?_) (fun h1=>?_)
  ·apply Jd.regS M; (· intro K gl hgl hK; simp only [glw] at hgl; subst hgl; simp (maxSteps:=1000000) (disch:=omega) only [↓evp,spw,Nat.reduceEqDiff,↓reduceIte,Nat.reduceLT,Nat.reduceAdd]; exact hK)
   refine Jd.retT (Done.one rfl rfl ?_)
   have:20000 < l.length:=by simp at h1; omega
   simp only [latE,hlen,if_pos this]
  refine Jd.skipT ?_
  have hl:l.length <= 20000:=by simp at h1; omega
  clear h1
  refine Jd.seq ?_
  obtain ⟨b,hb⟩:∃ b,decide (T < 0) = b:=⟨_,rfl⟩
  cases b with
  | true =>
   apply Jd.regS M; (· intro K gl hgl hK; simp only [glw] at hgl; subst hgl; simp (maxSteps:=1000000) (disch:=omega) only [↓evp,spw,Nat.reduceEqDiff,↓reduceIte,Nat.reduceLT,Nat.reduceAdd,hb]; exact hK)
   refine Jd.cnd rfl (fun _=>?_) (fun h1=>by cases h1)
   apply Jd.regS M; (· intro K gl hgl hK; simp only [glw] at hgl; subst hgl; simp (maxSteps:=1000000) (disch:=omega) only [↓evp,spw,Nat.reduceEqDiff,↓reduceIte,Nat.reduceLT,Nat.reduceAdd]; exact hK)
   refine Jd.retT (Done.one rfl rfl ?_)
   rw [latE_T (by omega) (by simp at hb; omega)]
  | false =>
   apply Jd.regS M; (· intro K gl hgl hK; simp only [glw] at hgl; subst hgl; simp (maxSteps:=1000000) (disch:=omega) only [↓evp,spw,Nat.reduceEqDiff,↓reduceIte,Nat.reduceLT,Nat.reduceAdd,hb]; exact hK)
   refine Jd.cnd rfl (fun h1=>?_) (fun h1=>?_)
   ·apply Jd.regS M; (· intro K gl hgl hK; simp only [glw] at hgl; subst hgl; simp (maxSteps:=1000000) (disch:=omega) only [↓evp,spw,Nat.reduceEqDiff,↓reduceIte,Nat.reduceLT,Nat.reduceAdd]; exact hK)
    refine Jd.retT (Done.one rfl rfl ?_)
    rw [latE_T (by omega) (by simp at h1; omega)]
   refine Jd.skipT ?_
   simp at hb h1
   refine Jd.seq ?_
   apply Jd.regS M; (· intro K gl hgl hK; simp only [glw] at hgl; subst hgl; simp (maxSteps:=1000000) (disch:=omega) only [↓evp,spw,Nat.reduceEqDiff,↓reduceIte,Nat.reduceLT,Nat.reduceAdd]; exact hK)
   refine Jd.loopB (fun k fr s=>∃ i:Nat,i + k = l.length/\(∀ j,j < i->fineA T (arcsL l) j = true)/\fr = ⟨29,89,Tr.of [(3,.i .i64 i),(2,.i .i64 0),(1,.ptr 0 0)],none,[]⟩/\s = St.of [(0,some (.cells [.i .i64 T,.vw (ar l) l.length] 24 false))] 1) l.length ?_ ?_
   ·exact ⟨_,_,(To.ofL (nx2:=1) [0] [(3,.i .i64 ((0:Nat):Int)),(2,.i .i64 0),(1,.ptr 0 0)] [(0,some (.cells [.i .i64 T,.vw (ar l) l.length] 24 false))] rfl (by decide) (by first | exact no_base | exact base_one) (by repeat' first | exact trivial | refine ⟨⟨_,rfl,by first | exact Wk.refl _ _ | exact Wk.bare rfl | exact Wk.zero _ | exact Wk.none _⟩,?_⟩) (by repeat' first | exact trivial | refine ⟨⟨Nat.le_of_ble_eq_true rfl,_,_,rfl,rfl,by first | exact WkO.same rfl | exact WkO.same (fr_bare _) | exact WkO.same (bs_bare _) | exact WkO.same (is_bare _) | exact WkO.cells rfl⟩,?_⟩)),0,by omega,fun j hj=>by omega,rfl,rfl⟩
   rintro k _ _ ⟨i,hi,hf,rfl,rfl⟩ Q' hex hret hgo
   refine Jd.seq ?_
   apply Jd.regS M; (· intro K gl hgl hK; simp only [glw] at hgl; subst hgl; simp (maxSteps:=1000000) (disch:=omega) only [↓evp,spw,Nat.reduceEqDiff,↓reduceIte,Nat.reduceLT,Nat.reduceAdd]; exact hK)
   refine Jd.cnd rfl (fun h1=>?_) (fun h1=>?_)
   rotate_left
   ·refine Jd.exitT (hex _ _ ?_)
    show Jb _ _ _ _ _ _
    apply Jd.regS M; (· intro K gl hgl hK; simp only [glw] at hgl; subst hgl; simp (maxSteps:=1000000) (disch:=omega) only [↓evp,spw,Nat.reduceEqDiff,↓reduceIte,Nat.reduceLT,Nat.reduceAdd]; exact hK)
    refine Jd.ret (Done.one rfl rfl ?_)
    have hn:i = l.length:=by simp at h1; omega
    rw [latE_fine (by omega) (by omega) (by omega) fun j hj=>hf j (by omega)]
   have hil:i < l.length:=by simp at h1; omega
   obtain ⟨x,hx⟩:∃ x,l[i]? = some x:=⟨_,List.getElem?_eq_getElem hil⟩
   have okx:=ok x (List.mem_of_getElem? hx)
   refine Jd.skipT ?_
   refine Jd.seq (Jd.block ?_)
   clear hex
   apply Jd.regS M; (· intro K gl hgl hK; simp only [glw] at hgl; subst hgl; simp (maxSteps:=1000000) (disch:=omega) only [↓evp,spw,Nat.reduceEqDiff,↓reduceIte,Nat.reduceLT,Nat.reduceAdd,Int.toNat_natCast,ar_get hx,ac,okx.flat]; exact hK)
   have hax:=arcsL_at hx
   obtain ⟨b1,e1⟩:∃ b,decide (x.a.f < 0) = b:=⟨_,rfl⟩
   obtain ⟨b2,e2⟩:∃ b,decide (x.a.f ≥ x.a.t) = b:=⟨_,rfl⟩
   obtain ⟨b3,e3⟩:∃ b,decide (x.a.t > T) = b:=⟨_,rfl⟩
   obtain ⟨b4,e4⟩:∃ b,decide (x.a.w < 1) = b:=⟨_,rfl⟩
   obtain ⟨b5,e5⟩:∃ b,decide (x.a.w > 2000) = b:=⟨_,rfl⟩
   obtain ⟨b6,e6⟩:∃ b,decide (x.a.v < 0) = b:=⟨_,rfl⟩
   obtain ⟨b7,e7⟩:∃ b,decide (sgnI x.a.q <= 0) = b:=⟨_,rfl⟩
   obtain ⟨b8,e8⟩:∃ b,decide (sgnI (x.a.q - ((1:Int):Rat)) > 0) = b:=⟨_,rfl⟩
   have hs:=pureA_eq (signV_eq okx.1)
   have ho:=pureA_eq (ofV_eq (z:=1) (by omega) (by omega))
   have hc:=pureA_eq (cmpV_eq okx.1 (ratV_fq qz_one))
   rcases first8 b1 b2 b3 b4 b5 b6 b7 b8 with rfl | ⟨rfl,rfl⟩ | ⟨rfl,rfl,rfl⟩ | ⟨rfl,rfl,rfl,rfl⟩ | ⟨rfl,rfl,rfl,rfl,rfl⟩ | ⟨rfl,rfl,rfl,rfl,rfl,rfl⟩ | ⟨rfl,rfl,rfl,rfl,rfl,rfl,rfl⟩ | ⟨rfl,rfl,rfl,rfl,rfl,rfl,rfl,rfl⟩ | ⟨rfl,rfl,rfl,rfl,rfl,rfl,rfl,rfl⟩
   ·have hA:arcB T x.a = false:=by have:=arcB_or1 T x.a; simp only [e1,Bool.true_or,Bool.false_or] at this; simpa using this
    apply Jd.drwS M [] (by kernel_rfl); (· intro K gl hgl hK; simp only [glw] at hgl; subst hgl; simp (maxSteps:=1000000) (disch:=omega) only [↓evp,spw,Nat.reduceEqDiff,↓reduceIte,Nat.reduceLT,Nat.reduceAdd, ac,e1,e2,e3,e4,e5,e6,e7,e8,c1,c2,c3,hs,ho,hc]; exact hK)
    refine Jd.cnd rfl (fun _=>?_) (fun h=>by cases h)
    apply Jd.regS M; (· intro K gl hgl hK; simp only [glw] at hgl; subst hgl; simp (maxSteps:=1000000) (disch:=omega) only [↓evp,spw,Nat.reduceEqDiff,↓reduceIte,Nat.reduceLT,Nat.reduceAdd]; exact hK)
    refine Jd.ret ?_
    refine hret _ _ ?_
    refine Thn.r (Done.one rfl rfl ?_)
    exact bad_of hl hil hax hA
   ·have hA:arcB T x.a = false:=by have:=arcB_or1 T x.a; simp only [e1,e2,Bool.true_or,Bool.false_or] at this; simpa using this
    apply Jd.drwS M [] (by kernel_rfl); (· intro K gl hgl hK; simp only [glw] at hgl; subst hgl; simp (maxSteps:=1000000) (disch:=omega) only [↓evp,spw,Nat.reduceEqDiff,↓reduceIte,Nat.reduceLT,Nat.reduceAdd, ac,e1,e2,e3,e4,e5,e6,e7,e8,c1,c2,c3,hs,ho,hc]; exact hK)
    refine Jd.cnd rfl (fun _=>?_) (fun h=>by cases h)
    apply Jd.regS M; (· intro K gl hgl hK; simp only [glw] at hgl; subst hgl; simp (maxSteps:=1000000) (disch:=omega) only [↓evp,spw,Nat.reduceEqDiff,↓reduceIte,Nat.reduceLT,Nat.reduceAdd]; exact hK)
    refine Jd.ret ?_
    refine hret _ _ ?_
    refine Thn.r (Done.one rfl rfl ?_)
    exact bad_of hl hil hax hA
   ·have hA:arcB T x.a = false:=by have:=arcB_or1 T x.a; simp only [e1,e2,e3,Bool.true_or,Bool.false_or] at this; simpa using this
    apply Jd.drwS M [] (by kernel_rfl); (· intro K gl hgl hK; simp only [glw] at hgl; subst hgl; simp (maxSteps:=1000000) (disch:=omega) only [↓evp,spw,Nat.reduceEqDiff,↓reduceIte,Nat.reduceLT,Nat.reduceAdd, ac,e1,e2,e3,e4,e5,e6,e7,e8,c1,c2,c3,hs,ho,hc]; exact hK)
    refine Jd.cnd rfl (fun _=>?_) (fun h=>by cases h)
    apply Jd.regS M; (· intro K gl hgl hK; simp only [glw] at hgl; subst hgl; simp (maxSteps:=1000000) (disch:=omega) only [↓evp,spw,Nat.reduceEqDiff,↓reduceIte,Nat.reduceLT,Nat.reduceAdd]; exact hK)
    refine Jd.ret ?_
    refine hret _ _ ?_
    refine Thn.r (Done.one rfl rfl ?_)
    exact bad_of hl hil hax hA
   ·have hA:arcB T x.a = false:=by have:=arcB_or1 T x.a; simp only [e1,e2,e3,e4,Bool.true_or,Bool.false_or] at this; simpa using this
    apply Jd.drwS M [] (by kernel_rfl); (· intro K gl hgl hK; simp only [glw] at hgl; subst hgl; simp (maxSteps:=1000000) (disch:=omega) only [↓evp,spw,Nat.reduceEqDiff,↓reduceIte,Nat.reduceLT,Nat.reduceAdd, ac,e1,e2,e3,e4,e5,e6,e7,e8,c1,c2,c3,hs,ho,hc]; exact hK)
    refine Jd.cnd rfl (fun _=>?_) (fun h=>by cases h)
    apply Jd.regS M; (· intro K gl hgl hK; simp only [glw] at hgl; subst hgl; simp (maxSteps:=1000000) (disch:=omega) only [↓evp,spw,Nat.reduceEqDiff,↓reduceIte,Nat.reduceLT,Nat.reduceAdd]; exact hK)
    refine Jd.ret ?_
    refine hret _ _ ?_
    refine Thn.r (Done.one rfl rfl ?_)
    exact bad_of hl hil hax hA
   ·have hA:arcB T x.a = false:=by have:=arcB_or1 T x.a; simp only [e1,e2,e3,e4,e5,Bool.true_or,Bool.false_or] at this; simpa using this
    apply Jd.drwS M [] (by kernel_rfl); (· intro K gl hgl hK; simp only [glw] at hgl; subst hgl; simp (maxSteps:=1000000) (disch:=omega) only [↓evp,spw,Nat.reduceEqDiff,↓reduceIte,Nat.reduceLT,Nat.reduceAdd, ac,e1,e2,e3,e4,e5,e6,e7,e8,c1,c2,c3,hs,ho,hc]; exact hK)
    refine Jd.cnd rfl (fun _=>?_) (fun h=>by cases h)
    apply Jd.regS M; (· intro K gl hgl hK; simp only [glw] at hgl; subst hgl; simp (maxSteps:=1000000) (disch:=omega) only [↓evp,spw,Nat.reduceEqDiff,↓reduceIte,Nat.reduceLT,Nat.reduceAdd]; exact hK)
    refine Jd.ret ?_
    refine hret _ _ ?_
    refine Thn.r (Done.one rfl rfl ?_)
    exact bad_of hl hil hax hA
   ·have hA:arcB T x.a = false:=by have:=arcB_or1 T x.a; simp only [e1,e2,e3,e4,e5,e6,Bool.true_or,Bool.false_or] at this; simpa using this
    apply Jd.drwS M [] (by kernel_rfl); (· intro K gl hgl hK; simp only [glw] at hgl; subst hgl; simp (maxSteps:=1000000) (disch:=omega) only [↓evp,spw,Nat.reduceEqDiff,↓reduceIte,Nat.reduceLT,Nat.reduceAdd, ac,e1,e2,e3,e4,e5,e6,e7,e8,c1,c2,c3,hs,ho,hc]; exact hK)
    refine Jd.cnd rfl (fun _=>?_) (fun h=>by cases h)
    apply Jd.regS M; (· intro K gl hgl hK; simp only [glw] at hgl; subst hgl; simp (maxSteps:=1000000) (disch:=omega) only [↓evp,spw,Nat.reduceEqDiff,↓reduceIte,Nat.reduceLT,Nat.reduceAdd]; exact hK)
    refine Jd.ret ?_
    refine hret _ _ ?_
    refine Thn.r (Done.one rfl rfl ?_)
    exact bad_of hl hil hax hA
   ·have hA:arcB T x.a = false:=by have:=arcB_or1 T x.a; simp only [e1,e2,e3,e4,e5,e6,e7,Bool.true_or,Bool.false_or] at this; simpa using this
    apply Jd.drwS M [] (by kernel_rfl); (· intro K gl hgl hK; simp only [glw] at hgl; subst hgl; simp (maxSteps:=1000000) (disch:=omega) only [↓evp,spw,Nat.reduceEqDiff,↓reduceIte,Nat.reduceLT,Nat.reduceAdd, ac,e1,e2,e3,e4,e5,e6,e7,e8,c1,c2,c3,hs,ho,hc]; exact hK)
    refine Jd.cnd rfl (fun _=>?_) (fun h=>by cases h)
    apply Jd.regS M; (· intro K gl hgl hK; simp only [glw] at hgl; subst hgl; simp (maxSteps:=1000000) (disch:=omega) only [↓evp,spw,Nat.reduceEqDiff,↓reduceIte,Nat.reduceLT,Nat.reduceAdd]; exact hK)
    refine Jd.ret ?_
    refine hret _ _ ?_
    refine Thn.r (Done.one rfl rfl ?_)
    exact bad_of hl hil hax hA
   ·have hA:arcB T x.a = false:=by have:=arcB_or1 T x.a; simp only [e1,e2,e3,e4,e5,e6,e7,e8,Bool.true_or,Bool.false_or] at this; simpa using this
    apply Jd.drwS M [] (by kernel_rfl); (· intro K gl hgl hK; simp only [glw] at hgl; subst hgl; simp (maxSteps:=1000000) (disch:=omega) only [↓evp,spw,Nat.reduceEqDiff,↓reduceIte,Nat.reduceLT,Nat.reduceAdd, ac,e1,e2,e3,e4,e5,e6,e7,e8,c1,c2,c3,hs,ho,hc]; exact hK)
    refine Jd.cnd rfl (fun _=>?_) (fun h=>by cases h)
    apply Jd.regS M; (· intro K gl hgl hK; simp only [glw] at hgl; subst hgl; simp (maxSteps:=1000000) (disch:=omega) only [↓evp,spw,Nat.reduceEqDiff,↓reduceIte,Nat.reduceLT,Nat.reduceAdd]; exact hK)
    refine Jd.ret ?_
    refine hret _ _ ?_
    refine Thn.r (Done.one rfl rfl ?_)
    exact bad_of hl hil hax hA
   have hA:arcB T x.a = true:=by have:=arcB_or1 T x.a; simp only [e1,e2,e3,e4,e5,e6,e7,e8,Bool.false_or] at this; simpa using this
   obtain ⟨b9,e9⟩:∃ b,decide ((i:Int) > 0) = b:=⟨_,rfl⟩
   cases b9 with
   | false =>
    apply Jd.drwS M [] (by kernel_rfl); (· intro K gl hgl hK; simp only [glw] at hgl; subst hgl; simp (maxSteps:=1000000) (disch:=omega) only [↓evp,spw,Nat.reduceEqDiff,↓reduceIte,Nat.reduceLT,Nat.reduceAdd, ac,e1,e2,e3,e4,e5,e6,e7,e8,e9,c1,c2,c3,hs,ho,hc]; exact hK)
    refine Jd.cnd rfl (fun h=>by cases h) (fun _=>?_)
    refine Jd.skip ?_
    show Jb _ _ _ _ _ _
    have i0:i = 0:=by simp at e9; omega
    apply Jd.regQ M; (· intro K gl hgl hK; simp only [glw] at hgl; subst hgl; simp (maxSteps:=1000000) (disch:=omega) only [↓evp,spw,Nat.reduceEqDiff,↓reduceIte,Nat.reduceLT,Nat.reduceAdd]; exact hK)
    refine hgo _ _ ⟨k - 1,_,_,by omega,(To.ofL (nx2:=1) [0] [(3,.i .i64 ((i + 1:Nat):Int)),(2,.i .i64 0),(1,.ptr 0 0)] [(0,some (.cells [.i .i64 T,.vw (ar l) l.length] 24 false))] rfl (by decide) (by first | exact no_base | exact base_one) (by repeat' first | exact trivial | refine ⟨⟨_,rfl,by first | exact Wk.refl _ _ | exact Wk.bare rfl | exact Wk.zero _ | exact Wk.none _⟩,?_⟩) (by repeat' first | exact trivial | refine ⟨⟨Nat.le_of_ble_eq_true rfl,_,_,rfl,rfl,by first | exact WkO.same rfl | exact WkO.same (fr_bare _) | exact WkO.same (bs_bare _) | exact WkO.same (is_bare _) | exact WkO.cells rfl⟩,?_⟩)),i + 1,by omega,fun j hj=>?_,rfl,rfl⟩
    rcases Nat.lt_succ_iff_lt_or_eq.1 hj with h | rfl
    ·exact hf j h
    unfold fineA
    rw [hax,hA,show rankB (arcsL l) j = true from by unfold rankB; simp [i0]]
    rfl
   | true =>
    have hi0:0 < i:=by simp at e9; omega
    obtain ⟨y,hy⟩:∃ y,l[i - 1]? = some y:=⟨_,List.getElem?_eq_getElem (by omega)⟩
    have oky:=ok y (List.mem_of_getElem? hy)
    have hay:=arcsL_at hy
    have hb:=pureA_eq (beforeV_eq oky okx)
    have hm:((i:Int) - 1).toNat = i - 1:=by omega
    obtain ⟨b10,e10⟩:∃ b,decide (ordA y.a x.a < 0) = b:=⟨_,rfl⟩
    have hr:rankB (arcsL l) i = b10:=by
     unfold rankB
     rw [hay,hax,e10,show decide (i = 0) = false from by simp; omega]
     rfl
    cases b10 with
    | false =>
     apply Jd.drwS M [] (by kernel_rfl); (· intro K gl hgl hK; simp only [glw] at hgl; subst hgl; simp (maxSteps:=1000000) (disch:=omega) only [↓evp,spw,Nat.reduceEqDiff,↓reduceIte,Nat.reduceLT,Nat.reduceAdd, ac,e1,e2,e3,e4,e5,e6,e7,e8,e9,e10,c1,c2,c3,c4,hs,ho,hc,hb,hm,ar_get hy]; exact hK)
     refine Jd.cnd rfl (fun _=>?_) (fun h=>by cases h)
     apply Jd.regS M; (· intro K gl hgl hK; simp only [glw] at hgl; subst hgl; simp (maxSteps:=1000000) (disch:=omega) only [↓evp,spw,Nat.reduceEqDiff,↓reduceIte,Nat.reduceLT,Nat.reduceAdd]; exact hK)
     refine Jd.ret ?_
     refine hret _ _ ?_
     refine Thn.r (Done.one rfl rfl ?_)
     rw [latE_bad (by simpa [arcsL] using hl) (i:=i) (by simpa [arcsL] using hil) (by unfold fineA; rw [hr]; simp)]
    | true =>
     apply Jd.drwS M [] (by kernel_rfl); (· intro K gl hgl hK; simp only [glw] at hgl; subst hgl; simp (maxSteps:=1000000) (disch:=omega) only [↓evp,spw,Nat.reduceEqDiff,↓reduceIte,Nat.reduceLT,Nat.reduceAdd, ac,e1,e2,e3,e4,e5,e6,e7,e8,e9,e10,c1,c2,c3,c4,hs,ho,hc,hb,hm,ar_get hy]; exact hK)
     refine Jd.cnd rfl (fun h=>by cases h) (fun _=>?_)
     refine Jd.skip ?_
     show Jb _ _ _ _ _ _
     apply Jd.regQ M; (· intro K gl hgl hK; simp only [glw] at hgl; subst hgl; simp (maxSteps:=1000000) (disch:=omega) only [↓evp,spw,Nat.reduceEqDiff,↓reduceIte,Nat.reduceLT,Nat.reduceAdd]; exact hK)
     refine hgo _ _ ⟨k - 1,_,_,by omega,(To.ofL (nx2:=1) [0] [(3,.i .i64 ((i + 1:Nat):Int)),(2,.i .i64 0),(1,.ptr 0 0)] [(0,some (.cells [.i .i64 T,.vw (ar l) l.length] 24 false))] rfl (by decide) (by first | exact no_base | exact base_one) (by repeat' first | exact trivial | refine ⟨⟨_,rfl,by first | exact Wk.refl _ _ | exact Wk.bare rfl | exact Wk.zero _ | exact Wk.none _⟩,?_⟩) (by repeat' first | exact trivial | refine ⟨⟨Nat.le_of_ble_eq_true rfl,_,_,rfl,rfl,by first | exact WkO.same rfl | exact WkO.same (fr_bare _) | exact WkO.same (bs_bare _) | exact WkO.same (is_bare _) | exact WkO.cells rfl⟩,?_⟩)),i + 1,by omega,fun j hj=>?_,rfl,rfl⟩
     rcases Nat.lt_succ_iff_lt_or_eq.1 hj with h | rfl
     ·exact hf j h
     unfold fineA
     rw [hax,hA,hr]
     rfl
 cases h
def reachS (l:List Rat) (a:LArc):List Rat:=l.set a.t.toNat (l.getD a.t.toNat 0 + l.getD a.f.toNat 0)
def reachL (T:Nat) (ac:List LArc):List Rat:=ac.foldl reachS ((List.replicate (T + 1) 0).set 0 1)
def reachQ (T:Nat) (ac:List LArc):Rat:=(reachL T ac).getD T 0
theorem reachL_snoc (T:Nat) (ac:List LArc) (a:LArc):reachL T (ac ++ [a]) = reachS (reachL T ac) a:=by simp [reachL]
theorem reachL_length (T:Nat) (ac:List LArc):(reachL T ac).length = T + 1:=by
 unfold reachL
 have key:∀ l:List Rat,(ac.foldl reachS l).length = l.length:=by
  induction ac with
  | nil=>exact fun _=>rfl
  | cons a ac ih=>intro l; rw [List.foldl_cons,ih]; simp [reachS]
 rw [key]
 simp
theorem reachL_nat (T:Nat) (ac:List LArc):∀ x ∈ reachL T ac,∃ m:Nat,x = (m:Rat)/\m <= 2 ^ ac.length:=by
 unfold reachL
 have key:∀ (ac:List LArc) (l:List Rat) (b:Nat),(∀ x ∈ l,∃ m:Nat,x = (m:Rat)/\m <= 2 ^ b)->∀ x ∈ ac.foldl reachS l,∃ m:Nat,x = (m:Rat)/\m <= 2 ^ (b + ac.length):=by
  intro ac
  induction ac with
  | nil=>intro l b h; exact h
  | cons a ac ih =>
   intro l b h
   rw [List.foldl_cons]
   have hg:∀ j,∃ m:Nat,l.getD j 0 = (m:Rat)/\m <= 2 ^ b:=by
    intro j
    rw [List.getD_eq_getElem?_getD]
    cases hj:l[j]? with
    | none=>exact ⟨0,rfl,Nat.zero_le _⟩
    | some x=>exact h x (List.mem_of_getElem? hj)
   have:=ih (reachS l a) (b + 1) (fun x hx=>by
    have hp:2 ^ (b + 1) = 2 ^ b + 2 ^ b:=by rw [Nat.pow_succ]; omega
    rcases List.mem_or_eq_of_mem_set hx with hx | rfl
    ·obtain ⟨m,e,hm⟩:=h x hx
     exact ⟨m,e,by omega⟩
    ·obtain ⟨m,e,hm⟩:=hg a.t.toNat
     obtain ⟨m',e',hm'⟩:=hg a.f.toNat
     exact ⟨m + m',by rw [e,e']; exact (Rat.natCast_add m m').symm,by omega⟩)
   rw [List.length_cons,show b + (ac.length + 1) = b + 1 + ac.length by omega]
   exact this
 intro x hx
 have:=key ac ((List.replicate (T + 1) 0).set 0 1) 0 (fun y hy=>by
  rcases List.mem_or_eq_of_mem_set hy with hy | rfl
  ·exact ⟨0,by rw [List.eq_of_mem_replicate hy]; rfl,by omega⟩
  ·exact ⟨1,rfl,by omega⟩) x hx
 rwa [Nat.zero_add] at this
def onBS (l:List Bool) (a:LArc):List Bool:=l.set a.t.toNat (l.getD a.t.toNat false || l.getD a.f.toNat false)
def onB (T:Nat) (ac:List LArc):List Bool:=ac.foldl onBS ((List.replicate (T + 1) false).set 0 true)
def onES (l:List Bool) (a:LArc):List Bool:=l.set a.f.toNat (l.getD a.f.toNat false || l.getD a.t.toNat false)
def onE (T:Nat) (ac:List LArc):List Bool:=ac.reverse.foldl onES ((List.replicate (T + 1) false).set T true)
def leaveB (T:Nat) (ac:List LArc) (a:LArc):Bool:=(onB T ac).getD a.f.toNat false && (onE T ac).getD a.t.toNat false
theorem onB_length (T:Nat) (ac:List LArc):(onB T ac).length = T + 1:=by
 unfold onB
 have key:∀ l:List Bool,(ac.foldl onBS l).length = l.length:=by
  induction ac with
  | nil=>exact fun _=>rfl
  | cons a ac ih=>intro l; rw [List.foldl_cons,ih]; simp [onBS]
 rw [key]
 simp
theorem onES_length (l:List Bool) (ac:List LArc):(ac.foldl onES l).length = l.length:=by
 induction ac generalizing l with
 | nil=>rfl
 | cons a ac ih=>rw [List.foldl_cons,ih]; simp [onES]
theorem onE_length (T:Nat) (ac:List LArc):(onE T ac).length = T + 1:=by
 unfold onE
 rw [onES_length]
 simp
theorem ar_in {l:List AArc} {i:Nat} {x:AArc} (h:l[i]? = some x) {j:Nat} {v:AV} (hj:j < 7)(hv:(aC x)[j]? = some v):(ar l)[i * 7 + j]? = some v:=by
 have:=flatMap_at aC_len l i j hj
 rw [h] at this
 rw [show (ar l)[i * 7 + j]? = _ from this]
 exact hv
theorem ar0 {l:List AArc} {i:Nat} {x:AArc} (h:l[i]? = some x):(ar l)[i * 7]? = some (.i .i64 x.a.f):=ar_in h (j:=0) (by omega) rfl
theorem ar1 {l:List AArc} {i:Nat} {x:AArc} (h:l[i]? = some x):(ar l)[i * 7 + 1]? = some (.i .i64 x.a.t):=ar_in h (by omega) rfl
theorem arcsL_all (l:List AArc):arcsL (l.take l.length) = arcsL l:=by simp [arcsL]
theorem arcsL_snoc {l:List AArc} {i:Nat} {x:AArc} (h:l[i]? = some x):arcsL (l.take (i + 1)) = arcsL (l.take i) ++ [x.a]:=by
 rw [List.take_add_one,h]
 simp [arcsL]
theorem fine_arc {T:Int} {l:List AArc} (h:latE T (arcsL l) = 0) {i:Nat} {x:AArc} (hx:l[i]? = some x):0 <= x.a.f/\x.a.f < x.a.t/\x.a.t <= T/\1 <= x.a.w/\x.a.w <= 2000/\0 <= x.a.v/\0 < x.a.q/\x.a.q <= 1:=by
 have h1:=((latE_ok h).2.2.2 i (by rw [arcsL_len]; exact (List.getElem?_eq_some_iff.1 hx).1)).1
 rw [arcsL_at hx] at h1
 simpa only [arcB,decide_eq_true_eq] using h1
theorem getD_get {α:Type} {l:List α} {i:Nat} {a:α} (h:l[i]? = some a) (d:α):l.getD i d = a:=by rw [List.getD_eq_getElem?_getD,h]; rfl
theorem reach_get (T:Nat) (ac:List LArc) {i:Nat} (hi:i <= T):∃ q,(reachL T ac)[i]? = some q/\(∃ m:Nat,q = (m:Rat)/\m <= 2 ^ ac.length):=by
 have hl:=reachL_length T ac
 refine ⟨_,List.getElem?_eq_getElem (by omega),?_⟩
 exact reachL_nat T ac _ (List.getElem_mem _)
theorem reach_qz {ac:List LArc} (h:ac.length <= 20000) {q:Rat} (hq:∃ m:Nat,q = (m:Rat)/\m <= 2 ^ ac.length):qz q <= lim:=by
 obtain ⟨m,rfl,hm⟩:=hq
 exact Nat.le_trans (qz_small hm) (by unfold lim; omega)
def countV:List AV->Option AV
 | [x]=>(latV x).bind fun p=>cond (decide (latE p.1 (arcsL p.2) = 0)) (some (fq (reachQ p.1.toNat (arcsL p.2)))) none
 | _=>none
theorem ansCountR:Answers Tryz.prog 55 (pureA countV):=by
 obtain ⟨E,M,c1,c2⟩:∃ E,Mc Tryz.prog (envOf [(24,pureA ofV),(22,pureA (bin2V (· + ·)))]) E/\(∀ a s,E.call 24 a s = pureA ofV a s)/\(∀ a s,E.call 22 a s = pureA (bin2V (· + ·)) a s) :=
  ⟨_,mc_of laidL mixedL (by simp only [List.forall_mem_cons]; exact ⟨ansOfR,ansAddR,fun p hp=>by cases hp⟩),fun _ _=>rfl,fun _ _=>rfl⟩
 refine answers_pure (by kernel_rfl) Tryz.func55 Tryz.ntmps55 rfl ?_
 intro args v h
 unfold countV at h
 split at h
 ·next x =>
  rw [Option.bind_eq_some_iff] at h
  obtain ⟨⟨T,l⟩,hx,h⟩:=h
  obtain ⟨hv,h⟩:=cond_some h
  have hv:=of_decide_eq_true hv
  cases h
  obtain ⟨hx,hb,ok⟩:=latV_some hx
  refine ⟨by simp only [bares,hb]; rfl,rfl,Nat.le_of_ble_eq_true rfl,?_⟩
  dsimp only at hv ⊢
  rw [ofList1,St.of_nil]
  refine Jd.toL [] [(0,latA T l)] [] rfl .nil ⟨⟨_,rfl,Wk.lat _ T hx⟩,trivial⟩ trivial ?_
  clear hx hb
  obtain ⟨hl,h0,h1,_⟩:=latE_ok hv
  rw [arcsL_len] at hl
  obtain ⟨n,rfl⟩:∃ n:Nat,T = n:=⟨T.toNat,by omega⟩
  rw [Int.toNat_natCast]
  unfold latA
  have ho:=pureA_eq (ofV_eq (z:=1) (by omega) (by omega))
  apply Jd.regS M; (· intro K gl hgl hK; simp only [glw] at hgl; subst hgl; simp (maxSteps:=1000000) (disch:=omega) only [↓evp,spw,Nat.reduceEqDiff,↓reduceIte,Nat.reduceLT,Nat.reduceAdd]; exact hK)
  apply Jd.regS M; (· intro K gl hgl hK; simp only [glw] at hgl; subst hgl; simp (maxSteps:=1000000) (disch:=omega) only [↓evp,spw,Nat.reduceEqDiff,↓reduceIte,Nat.reduceLT,Nat.reduceAdd,show ((n:Int) + 1).toNat = n + 1 by omega]; exact hK)
  have hz:(fr (List.replicate (n + 1) 0)).length = (n + 1) * 3:=by simp [fr_len]
  refine Jb.toL (nx2:=3) [0,1,2] [(3,.sl 2 0 (n + 1) (n + 1)),(2,.ptr 1 0),(1,.ptr 0 0)] [(2,some (.cells (fr (List.replicate (n + 1) 0)) 31 false)),(1,some (.cells [.b false,.snil,.snil] 31 false)),(0,some (.cells [.i .i64 n,.vw (ar l) l.length] 24 false))] rfl (by decide) (by first | exact no_base | exact base_one) (by repeat' first | exact trivial | refine ⟨⟨_,rfl,by first | exact WkO.zfr _ _ _ | exact Wk.refl _ _ | exact Wk.bare rfl | exact Wk.zero _ | exact Wk.none _⟩,?_⟩) (by repeat' first | exact trivial | refine ⟨⟨Nat.le_of_ble_eq_true rfl,_,_,rfl,rfl,by first | exact WkO.zfr _ _ _ | exact WkO.same rfl | exact WkO.same (fr_bare _) | exact WkO.same (bs_bare _) | exact WkO.same (is_bare _) | exact WkO.cells rfl⟩,?_⟩) ?_
  have hp:putR (fr (List.replicate (n + 1) 0)) 0 (fcells ((1:Int):Rat)) = fr (reachL n (arcsL (l.take 0))):=fr_put (qs:=List.replicate (n + 1) 0) (i:=0) (by simp) _
  apply Jd.regS M; (· intro K gl hgl hK; simp only [glw] at hgl; subst hgl; simp (maxSteps:=1000000) (disch:=omega) only [↓evp,spw,Nat.reduceEqDiff,↓reduceIte,Nat.reduceLT,Nat.reduceAdd,c1,ho,hp,Int.toNat_zero,Nat.zero_mul,List.length_replicate]; exact hK)
  refine Jd.seq ?_
  apply Jd.regS M; (· intro K gl hgl hK; simp only [glw] at hgl; subst hgl; simp (maxSteps:=1000000) (disch:=omega) only [↓evp,spw,Nat.reduceEqDiff,↓reduceIte,Nat.reduceLT,Nat.reduceAdd]; exact hK)
  refine Jd.loopB (fun k g s=>∃ i:Nat,i + k = l.length/\g = ⟨55,51,Tr.of [(4,.i .i64 (i:Int)),(3,.sl 2 0 (n + 1) (n + 1)),(2,.ptr 1 0),(1,.ptr 0 0)],none,[]⟩/\s = St.of [(2,some (.cells (fr (reachL n (arcsL (l.take i)))) 31 false)),(1,some (.cells [.b false,.snil,.snil] 31 false)),(0,some (.cells [.i .i64 n,.vw (ar l) l.length] 24 false))] 3) l.length ?_ ?_
  ·exact ⟨_,_,(To.ofL (nx2:=3) [0,1,2] [(4,.i .i64 ((0:Nat):Int)),(3,.sl 2 0 (n + 1) (n + 1)),(2,.ptr 1 0),(1,.ptr 0 0)] [(2,some (.cells (fr (reachL n (arcsL (l.take 0)))) 31 false)),(1,some (.cells [.b false,.snil,.snil] 31 false)),(0,some (.cells [.i .i64 n,.vw (ar l) l.length] 24 false))] rfl (by decide) (by first | exact no_base | exact base_one) (by repeat' first | exact trivial | refine ⟨⟨_,rfl,by first | exact Wk.refl _ _ | exact Wk.bare rfl | exact Wk.zero _ | exact Wk.none _⟩,?_⟩) (by repeat' first | exact trivial | refine ⟨⟨Nat.le_of_ble_eq_true rfl,_,_,rfl,rfl,by first | exact WkO.same rfl | exact WkO.same (fr_bare _) | exact WkO.same (bs_bare _) | exact WkO.same (is_bare _) | exact WkO.cells rfl⟩,?_⟩)),0,by omega,rfl,rfl⟩
  rintro k _ _ ⟨i,hi,rfl,rfl⟩ Q' hex hret hgo
  refine Jd.seq ?_
  apply Jd.regS M; (· intro K gl hgl hK; simp only [glw] at hgl; subst hgl; simp (maxSteps:=1000000) (disch:=omega) only [↓evp,spw,Nat.reduceEqDiff,↓reduceIte,Nat.reduceLT,Nat.reduceAdd]; exact hK)
  refine Jd.cnd rfl (fun h1=>?_) (fun h1=>?_)
  rotate_left
  ·refine Jd.exitT (hex _ _ ?_)
   show Jb _ _ _ _ _ _
   have hn:i = l.length:=by simp at h1; omega
   subst hn
   obtain ⟨q,g1,_⟩:=reach_get n (arcsL l) (i:=n) (by omega)
   have hlen:(reachL n (arcsL l)).length = n + 1:=reachL_length _ _
   have hfl:(fr (reachL n (arcsL l))).length = (n + 1) * 3:=by rw [fr_len,hlen]
   apply Jd.regS M; (· intro K gl hgl hK; simp only [glw] at hgl; subst hgl; simp (maxSteps:=1000000) (disch:=omega) only [↓evp,spw,Nat.reduceEqDiff,↓reduceIte,Nat.reduceLT,Nat.reduceAdd,arcsL_all,Int.toNat_natCast,fr_get g1]; exact hK)
   refine Jd.ret (Done.c1 rfl rfl (by simp only [↓evp,spw,Nat.reduceEqDiff,↓reduceIte,Nat.reduceLT,Nat.reduceAdd] <;> rfl) ?_)
   unfold reachQ
   rw [getD_get g1]
   rfl
  refine Jd.skipT ?_
  refine Jd.seq (Jd.block ?_)
  have hil:i < l.length:=by simp at h1; omega
  obtain ⟨x,hx⟩:∃ x,l[i]? = some x:=⟨_,List.getElem?_eq_getElem hil⟩
  have hfa:=fine_arc hv hx
  have hsn:=arcsL_snoc hx
  obtain ⟨L,hL⟩:∃ L,reachL n (arcsL (l.take i)) = L:=⟨_,rfl⟩
  have hlen:L.length = n + 1:=by rw [<- hL]; exact reachL_length _ _
  have hfl:(fr L).length = (n + 1) * 3:=by rw [fr_len,hlen]
  have hti:(arcsL (l.take i)).length <= 20000:=by rw [arcsL_len,List.length_take]; omega
  obtain ⟨qt,gt,bt⟩:=reach_get n (arcsL (l.take i)) (i:=x.a.t.toNat) (by omega)
  obtain ⟨qf,gf,bf⟩:=reach_get n (arcsL (l.take i)) (i:=x.a.f.toNat) (by omega)
  have hadd:=pureA_eq (addV_fq (· + ·) (reach_qz hti bt) (reach_qz hti bf))
  have hstep:L.set x.a.t.toNat (qt + qf) = reachL n (arcsL (l.take (i + 1))):=by
   rw [hsn,reachL_snoc,hL]
   unfold reachS
   rw [hL] at gt gf
   rw [getD_get gt,getD_get gf]
  rw [hL] at gt gf
  simp only [hL]
  apply Jd.drwQ M [(27,15),(27,24)] (by kernel_rfl); (· intro K gl hgl hK; simp only [glw] at hgl; subst hgl; simp (maxSteps:=1000000) (disch:=omega) only [↓evp,spw,Nat.reduceEqDiff,↓reduceIte,Nat.reduceLT,Nat.reduceAdd, c2,hadd,Int.toNat_natCast,ar0 hx,ar1 hx,fr_get gt,fr_get gf,hstep]; exact hK)
  refine Blk_.norm ?_
  show Jb _ _ _ _ _ _
  apply Jd.regQ M; (· intro K gl hgl hK; simp only [glw] at hgl; subst hgl; simp (maxSteps:=1000000) (disch:=omega) only [↓evp,spw,Nat.reduceEqDiff,↓reduceIte,Nat.reduceLT,Nat.reduceAdd]; exact hK)
  exact hgo _ _ ⟨k - 1,_,_,by omega,(To.ofL (nx2:=3) [0,1,2] [(4,.i .i64 ((i + 1:Nat):Int)),(3,.sl 2 0 (n + 1) (n + 1)),(2,.ptr 1 0),(1,.ptr 0 0)] [(2,some (.cells (fr (reachL n (arcsL (l.take (i + 1))))) 31 false)),(1,some (.cells [.b false,.snil,.snil] 31 false)),(0,some (.cells [.i .i64 n,.vw (ar l) l.length] 24 false))] rfl (by decide) (by first | exact no_base | exact base_one) (by repeat' first | exact trivial | refine ⟨⟨_,rfl,by first | exact Wk.refl _ _ | exact Wk.bare rfl | exact Wk.zero _ | exact Wk.none _⟩,?_⟩) (by repeat' first | exact trivial | refine ⟨⟨Nat.le_of_ble_eq_true rfl,_,_,rfl,rfl,by first | exact WkO.same rfl | exact WkO.same (fr_bare _) | exact WkO.same (bs_bare _) | exact WkO.same (is_bare _) | exact WkO.cells rfl⟩,?_⟩)),i + 1,by omega,rfl,rfl⟩
 cases h
def nthO:List Oper->Nat->Option Oper
 | [],_=>none
 | o :: _,0=>some o
 | _ :: l,i + 1=>nthO l i
theorem nthO_eq (l:List Oper):∀ i,l[i]? = nthO l i:=by
 induction l with
 | nil=>intro i; rfl
 | cons o l ih =>
  intro i
  cases i with
  | zero=>rfl
  | succ i=>exact (List.getElem?_cons_succ).trans (ih i)
theorem tjj {P:Program} {md:Region.Mode} {ops:Array Oper} {Q:Exit->Act->World->Prop} {S:World->Prop} (i:Nat) {oi:Oper} (v:Value) {fuel:Nat} {listed:Array Bool} {a:Act} {w:World} (hi:nthO ops.toList i = some oi)
  (hb:(Region.noSelect ops && Region.free md ops listed i && (Region.ready md ops listed).contains i) = true)(hw:Region.wanted oi (yielded ops a.tmps) = true)(hS:S w)
  (hy:∀ w',S w'->(execOp a.eval oi).run P w' = .ok (.value v) w')(hQ:∀ c a w,Q (.panic c) (a.put oi.dst v) w->Q (.panic c) a w)
  (h:wpAnyH P md ops Q S fuel (listed.setIfInBounds i true) (a.put oi.dst v) w):wpAnyH P md ops Q S (fuel + 1) listed a w :=
 tk i v (by rw [<- nthO_eq] at hi; simpa using hi) hb hw hS hy hQ h
theorem sjj {P:Program} {md:Region.Mode} {ops:Array Oper} {Q:Exit->Act->World->Prop} {S:World->Prop} (i:Nat) {oi:Oper} {fuel:Nat} {listed:Array Bool} {a:Act} {w:World} (hi:nthO ops.toList i = some oi)
  (hb:(Region.noSelect ops && Region.free md ops listed i && (Region.ready md ops listed).contains i) = true)(hw:Region.wanted oi (yielded ops a.tmps) = false)(hS:S w)
  (hQ:∀ c a w,Q (.panic c) (a.put oi.dst undef) w->Q (.panic c) a w)
  (h:wpAnyH P md ops Q S fuel (listed.setIfInBounds i true) (a.put oi.dst undef) w):wpAnyH P md ops Q S (fuel + 1) listed a w :=
 sk i (by rw [<- nthO_eq] at hi; simpa using hi) hb hw hS hQ h
end Go.Proofs.YtdehimgccmbfkaaGreat
