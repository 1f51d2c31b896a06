/- Lemmas on the way: Ly7, Ly8, Jr0. -/
import Derived.Test.YtdehimgccmbfkaaGreatT48
import Derived.RangeFuncBound
import Derived.RangeFuncCalls
set_option linter.all false
set_option maxRecDepth 1000000
set_option maxHeartbeats 32000000
namespace Go.Proofs.YtdehimgccmbfkaaGreat
open Go.RowKit
def trimA (n:Nat) (l:List AArc):List AArc:=(l.filter fun x=>leaveB n (arcsL l) x.a).map cn
theorem trimA_ok {n:Nat} {l:List AArc} (h:∀ x ∈ l,x.Ok):∀ x ∈ trimA n l,x.Ok:=by
 intro x hx
 unfold trimA at hx
 obtain ⟨y,hy,rfl⟩:=List.mem_map.1 hx
 exact cn_ok (h y (List.mem_filter.1 hy).1)
theorem trimA_len (n:Nat) (l:List AArc):(trimA n l).length <= l.length:=by
 unfold trimA
 rw [List.length_map]
 exact List.length_filter_le _ _
def endN (n:Nat) (l:List AArc) (k:Nat):List Bool:=(arcsL (l.drop k)).reverse.foldl onES ((List.replicate (n + 1) false).set n true)
theorem endN_zero (n:Nat) (l:List AArc):endN n l 0 = onE n (arcsL l):=rfl
theorem endN_all (n:Nat) (l:List AArc):endN n l l.length = (List.replicate (n + 1) false).set n true:=by simp [endN,arcsL]
theorem endN_len (n:Nat) (l:List AArc) (k:Nat):(endN n l k).length = n + 1:=by
 unfold endN
 rw [onES_length]
 simp
theorem endN_step {n:Nat} {l:List AArc} {k:Nat} {x:AArc} (h:l[k]? = some x):endN n l k = onES (endN n l (k + 1)) x.a:=by
 unfold endN
 obtain ⟨hlt,hx⟩:=List.getElem?_eq_some_iff.1 h
 rw [List.drop_eq_getElem_cons hlt,hx]
 simp [arcsL]
theorem onB_snoc (n:Nat) (ac:List LArc) (a:LArc):onB n (ac ++ [a]) = onBS (onB n ac) a:=by simp [onB]
def keepA (n:Nat) (l:List AArc) (i:Nat):List AArc:=((l.take i).filter fun x=>leaveB n (arcsL l) x.a).map cn
theorem keepA_all (n:Nat) (l:List AArc):keepA n l l.length = trimA n l:=by simp [keepA,trimA]
theorem keepA_len (n:Nat) (l:List AArc) (i:Nat):(keepA n l i).length <= i:=by
 unfold keepA
 rw [List.length_map]
 exact Nat.le_trans (List.length_filter_le _ _) (by rw [List.length_take]; omega)
theorem keepA_yes {n:Nat} {l:List AArc} {i:Nat} {x:AArc} (h:l[i]? = some x)(hk:leaveB n (arcsL l) x.a = true):keepA n l (i + 1) = keepA n l i ++ [cn x]:=by
 unfold keepA
 rw [List.take_add_one,h]
 simp [hk]
theorem keepA_no {n:Nat} {l:List AArc} {i:Nat} {x:AArc} (h:l[i]? = some x)(hk:leaveB n (arcsL l) x.a = false):keepA n l (i + 1) = keepA n l i:=by
 unfold keepA
 rw [List.take_add_one,h]
 simp [hk]
theorem ar_app (l:List AArc) (x:AArc):ar l ++ aC x = ar (l ++ [x]):=by simp [ar]
theorem ar_one (x:AArc):aC x = ar [x]:=by simp [ar]
def trimRV:List AV->Option AV
 | [x]=>(latV x).bind fun p=>cond (decide (latE p.1 (arcsL p.2) = 0)) (some (latA p.1 (trimA p.1.toNat p.2))) none
 | _=>none
theorem ar_bares {l:List AArc} (h:∀ x ∈ l,x.Ok):bares (ar l) = true:=by
 induction l with
 | nil=>rfl
 | cons x l ih =>
  rw [show ar (x :: l) = aC x ++ ar l from rfl,bares_append,(h x List.mem_cons_self).bare,ih fun y hy=>h y (List.mem_cons_of_mem _ hy)]
  rfl
theorem ansTrimR:Answers Tryz.prog 56 (pureA trimRV):=by
 obtain ⟨E,M,c1⟩:∃ E,Mc Tryz.prog (envOf [(111,pureA (canonV id))]) E/\(∀ a s,E.call 111 a s = pureA (canonV id) a s) :=
  ⟨_,mc_of laidL mixedL (by intro p hp; rcases List.mem_cons.1 hp with rfl | hp; exact ansCanonR; cases hp),fun _ _=>rfl⟩
 refine answers_pure (by kernel_rfl) Tryz.func56 Tryz.ntmps56 rfl ?_
 intro args v h
 unfold trimRV at h
 split at h
 ·next x =>
  rw [Option.bind_eq_some_iff] at h
  obtain ⟨⟨T,l⟩,hx,h⟩:=h
  obtain ⟨hv,h⟩:=cond_some h
  have hv:=of_decide_eq_true hv
  cases h
  obtain ⟨hx,hb,ok⟩:=latV_some hx
  dsimp only at hv ⊢
  have okt:=trimA_ok (n:=T.toNat) ok
  refine ⟨by simp only [bares,hb]; rfl,by unfold latA; simp only [bare,bares,ar_bares okt]; rfl,Nat.le_of_ble_eq_true rfl,?_⟩
  rw [ofList1,St.of_nil]
  refine Jd.toL [] [(0,latA T l)] [] rfl .nil ⟨⟨_,rfl,Wk.lat _ T hx⟩,trivial⟩ trivial ?_
  clear hx hb
  obtain ⟨hl,h0,h1,_⟩:=latE_ok hv
  rw [arcsL_len] at hl
  obtain ⟨n,rfl⟩:∃ n:Nat,T = n:=⟨T.toNat,by omega⟩
  rw [Int.toNat_natCast] at okt ⊢
  unfold latA
  apply Jd.regS M; (· intro K gl hgl hK; simp only [glw] at hgl; subst hgl; simp (maxSteps:=1000000) (disch:=omega) only [↓evp,spw,Nat.reduceEqDiff,↓reduceIte,Nat.reduceLT,Nat.reduceAdd]; exact hK)
  apply Jd.drwS M [] (by kernel_rfl); (· intro K gl hgl hK; simp only [glw] at hgl; subst hgl; simp (maxSteps:=1000000) (disch:=omega) only [↓evp,spw,Nat.reduceEqDiff,↓reduceIte,Nat.reduceLT,Nat.reduceAdd, show ((n:Int) + 1).toNat = n + 1 by omega]; exact hK)
  have hz:(bs (List.replicate (n + 1) false)).length = n + 1:=by simp [bs_len]
  refine Jb.toL (nx2:=4) [0,1,2,3] [(4,.sl 3 0 (n + 1) (n + 1)),(3,.sl 2 0 (n + 1) (n + 1)),(2,.ptr 1 0),(1,.ptr 0 0)] [(3,some (.cells (bs (List.replicate (n + 1) false)) 4 false)),(2,some (.cells (bs (List.replicate (n + 1) false)) 4 false)),(1,some (.cells [.i .i64 0,.snil] 24 false)),(0,some (.cells [.i .i64 n,.vw (ar l) l.length] 24 false))] rfl (by decide) (by first | exact no_base | exact base_one) (by repeat' first | exact trivial | refine ⟨⟨_,rfl,by first | exact WkO.zbs _ _ _ | exact Wk.refl _ _ | exact Wk.bare rfl | exact Wk.zero _ | exact Wk.none _⟩,?_⟩) (by repeat' first | exact trivial | refine ⟨⟨Nat.le_of_ble_eq_true rfl,_,_,rfl,rfl,by first | exact WkO.zbs _ _ _ | exact WkO.same rfl | exact WkO.same (fr_bare _) | exact WkO.same (bs_bare _) | exact WkO.same (is_bare _) | exact WkO.cells rfl⟩,?_⟩) ?_
  apply Jd.drwS M [] (by kernel_rfl); (· intro K gl hgl hK; simp only [glw] at hgl; subst hgl; simp (maxSteps:=1000000) (disch:=omega) only [↓evp,spw,Nat.reduceEqDiff,↓reduceIte,Nat.reduceLT,Nat.reduceAdd, Int.toNat_natCast]; exact hK)
  refine Jd.seq ?_
  apply Jd.regS M; (· intro K gl hgl hK; simp only [glw] at hgl; subst hgl; simp (maxSteps:=1000000) (disch:=omega) only [↓evp,spw,Nat.reduceEqDiff,↓reduceIte,Nat.reduceLT,Nat.reduceAdd]; exact hK)
  refine Jd.loopB (fun k g s=>∃ i:Nat,i + k = l.length/\g = ⟨56,133,Tr.of [(5,.i .i64 (i:Int)),(4,.sl 3 0 (n + 1) (n + 1)),(3,.sl 2 0 (n + 1) (n + 1)),(2,.ptr 1 0),(1,.ptr 0 0)],none,[]⟩/\s = St.of [(3,some (.cells (bs ((List.replicate (n + 1) false).set n true)) 4 false)),(2,some (.cells (bs (onB n (arcsL (l.take i)))) 4 false)),(1,some (.cells [.i .i64 0,.snil] 24 false)),(0,some (.cells [.i .i64 n,.vw (ar l) l.length] 24 false))] 4) l.length ?_ ?_
  ·exact ⟨_,_,(To.ofL (nx2:=4) [0,1,2,3] [(5,.i .i64 ((0:Nat):Int)),(4,.sl 3 0 (n + 1) (n + 1)),(3,.sl 2 0 (n + 1) (n + 1)),(2,.ptr 1 0),(1,.ptr 0 0)] [(3,some (.cells (bs ((List.replicate (n + 1) false).set n true)) 4 false)),(2,some (.cells (bs (onB n (arcsL (l.take 0)))) 4 false)),(1,some (.cells [.i .i64 0,.snil] 24 false)),(0,some (.cells [.i .i64 n,.vw (ar l) l.length] 24 false))] rfl (by decide) (by first | exact no_base | exact base_one) (by repeat' first | exact trivial | refine ⟨⟨_,rfl,by first | exact Wk.refl _ _ | exact Wk.bare rfl | exact Wk.zero _ | exact Wk.none _⟩,?_⟩) (by repeat' first | exact trivial | refine ⟨⟨Nat.le_of_ble_eq_true rfl,_,_,rfl,rfl,by first | exact WkO.same rfl | exact WkO.same (fr_bare _) | exact WkO.same (bs_bare _) | exact WkO.same (is_bare _) | exact WkO.cells rfl⟩,?_⟩)),0,by omega,rfl,rfl⟩
  rintro k _ _ ⟨i,hi,rfl,rfl⟩ Q' hex hret hgo
  refine Jd.seq ?_
  apply Jd.regS M; (· intro K gl hgl hK; simp only [glw] at hgl; subst hgl; simp (maxSteps:=1000000) (disch:=omega) only [↓evp,spw,Nat.reduceEqDiff,↓reduceIte,Nat.reduceLT,Nat.reduceAdd]; exact hK)
  refine Jd.cnd rfl (fun h1=>?_) (fun h1=>?_)
  rotate_left
  ·refine Jd.exitT (hex _ _ ?_)
   show Jb _ _ _ _ _ _
   have hn:i = l.length:=by simp at h1; omega
   subst hn
   rw [arcsL_all]
   clear hex hret hgo hi h1 hz
   obtain ⟨B,hB⟩:∃ B,onB n (arcsL l) = B:=⟨_,rfl⟩
   have hBl:B.length = n + 1:=by rw [<- hB]; exact onB_length _ _
   rw [hB,<- endN_all n l]
   refine Jd.seq ?_
   apply Jd.regS M; (· intro K gl hgl hK; simp only [glw] at hgl; subst hgl; simp (maxSteps:=1000000) (disch:=omega) only [↓evp,spw,Nat.reduceEqDiff,↓reduceIte,Nat.reduceLT,Nat.reduceAdd]; exact hK)
   refine Jd.loopB (fun k g s=>k <= l.length/\g = ⟨56,133,Tr.of [(6,.i .i64 ((k:Int) - 1)),(4,.sl 3 0 (n + 1) (n + 1)),(3,.sl 2 0 (n + 1) (n + 1)),(2,.ptr 1 0),(1,.ptr 0 0)],none,[]⟩/\s = St.of [(3,some (.cells (bs (endN n l k)) 4 false)),(2,some (.cells (bs B) 4 false)),(1,some (.cells [.i .i64 0,.snil] 24 false)),(0,some (.cells [.i .i64 n,.vw (ar l) l.length] 24 false))] 4) l.length ?_ ?_
   ·exact ⟨_,_,(To.ofL (nx2:=4) [0,1,2,3] [(6,.i .i64 ((l.length:Int) - 1)),(4,.sl 3 0 (n + 1) (n + 1)),(3,.sl 2 0 (n + 1) (n + 1)),(2,.ptr 1 0),(1,.ptr 0 0)] [(3,some (.cells (bs (endN n l l.length)) 4 false)),(2,some (.cells (bs B) 4 false)),(1,some (.cells [.i .i64 0,.snil] 24 false)),(0,some (.cells [.i .i64 n,.vw (ar l) l.length] 24 false))] rfl (by decide) (by first | exact no_base | exact base_one) (by repeat' first | exact trivial | refine ⟨⟨_,rfl,by first | exact Wk.refl _ _ | exact Wk.bare rfl | exact Wk.zero _ | exact Wk.none _⟩,?_⟩) (by repeat' first | exact trivial | refine ⟨⟨Nat.le_of_ble_eq_true rfl,_,_,rfl,rfl,by first | exact WkO.same rfl | exact WkO.same (fr_bare _) | exact WkO.same (bs_bare _) | exact WkO.same (is_bare _) | exact WkO.cells rfl⟩,?_⟩)),Nat.le_refl _,rfl,rfl⟩
   rintro k _ _ ⟨hk,rfl,rfl⟩ Q' hex hret hgo
   refine Jd.seq ?_
   apply Jd.regS M; (· intro K gl hgl hK; simp only [glw] at hgl; subst hgl; simp (maxSteps:=1000000) (disch:=omega) only [↓evp,spw,Nat.reduceEqDiff,↓reduceIte,Nat.reduceLT,Nat.reduceAdd]; exact hK)
   refine Jd.cnd rfl (fun h1=>?_) (fun h1=>?_)
   rotate_left
   ·refine Jd.exitT (hex _ _ ?_)
    show Jb _ _ _ _ _ _
    obtain rfl:k = 0:=by simp at h1; omega
    rw [endN_zero]
    obtain ⟨F,hF⟩:∃ F,onE n (arcsL l) = F:=⟨_,rfl⟩
    have hFl:F.length = n + 1:=by rw [<- hF]; exact onE_length _ _
    rw [hF]
    clear hex hret hgo hk h1
    apply Jd.regS M; (· intro K gl hgl hK; simp only [glw] at hgl; subst hgl; simp (maxSteps:=1000000) (disch:=omega) only [↓evp,spw,Nat.reduceEqDiff,↓reduceIte,Nat.reduceLT,Nat.reduceAdd]; exact hK)
    refine Jd.seq ?_
    apply Jd.regS M; (· intro K gl hgl hK; simp only [glw] at hgl; subst hgl; simp (maxSteps:=1000000) (disch:=omega) only [↓evp,spw,Nat.reduceEqDiff,↓reduceIte,Nat.reduceLT,Nat.reduceAdd]; exact hK)
    refine Jd.loopB (fun k g s=>∃ i:Nat,i + k = l.length/\g = ⟨56,133,Tr.of [(8,.i .i64 (i:Int)),(7,.ptr 4 0),(4,.sl 3 0 (n + 1) (n + 1)),(3,.sl 2 0 (n + 1) (n + 1)),(2,.ptr 1 0),(1,.ptr 0 0)],none,[]⟩/\((keepA n l i = []/\s = St.of [(4,some (.cells [.i .i64 n,.snil] 24 false)),(3,some (.cells (bs F) 4 false)),(2,some (.cells (bs B) 4 false)),(1,some (.cells [.i .i64 0,.snil] 24 false)),(0,some (.cells [.i .i64 n,.vw (ar l) l.length] 24 false))] 5) ∨ s = St.of [(5,some (.cells (ar (keepA n l i)) 45 true)),(4,some (.cells [.i .i64 n,.sl 5 0 (keepA n l i).length (big + 7)] 24 false)),(3,some (.cells (bs F) 4 false)),(2,some (.cells (bs B) 4 false)),(1,some (.cells [.i .i64 0,.snil] 24 false)),(0,some (.cells [.i .i64 n,.vw (ar l) l.length] 24 false))] 6)) l.length ?_ ?_
    ·exact ⟨_,_,(To.ofL (nx2:=5) [0,1,2,3,4] [(8,.i .i64 ((0:Nat):Int)),(7,.ptr 4 0),(4,.sl 3 0 (n + 1) (n + 1)),(3,.sl 2 0 (n + 1) (n + 1)),(2,.ptr 1 0),(1,.ptr 0 0)] [(4,some (.cells [.i .i64 n,.snil] 24 false)),(3,some (.cells (bs F) 4 false)),(2,some (.cells (bs B) 4 false)),(1,some (.cells [.i .i64 0,.snil] 24 false)),(0,some (.cells [.i .i64 n,.vw (ar l) l.length] 24 false))] rfl (by decide) (by first | exact no_base | exact base_one) (by repeat' first | exact trivial | refine ⟨⟨_,rfl,by first | exact Wk.refl _ _ | exact Wk.bare rfl | exact Wk.zero _ | exact Wk.none _⟩,?_⟩) (by repeat' first | exact trivial | refine ⟨⟨Nat.le_of_ble_eq_true rfl,_,_,rfl,rfl,by first | exact WkO.same rfl | exact WkO.same (fr_bare _) | exact WkO.same (bs_bare _) | exact WkO.same (is_bare _) | exact WkO.cells rfl⟩,?_⟩)),0,by omega,rfl,.inl ⟨rfl,rfl⟩⟩
    have hBn:(bs B).length = n + 1:=by rw [bs_len,hBl]
    have hFn:(bs F).length = n + 1:=by rw [bs_len,hFl]
    rintro k _ _ ⟨i,hi,rfl,hst⟩ Q' hex hret hgo
    rcases hst with ⟨hk0,rfl⟩ | rfl
    ·refine Jd.seq ?_
     apply Jd.regS M; (· intro K gl hgl hK; simp only [glw] at hgl; subst hgl; simp (maxSteps:=1000000) (disch:=omega) only [↓evp,spw,Nat.reduceEqDiff,↓reduceIte,Nat.reduceLT,Nat.reduceAdd]; exact hK)
     refine Jd.cnd rfl (fun h1=>?_) (fun h1=>?_)
     rotate_left
     ·refine Jd.exitT (hex _ _ ?_)
      show Jb _ _ _ _ _ _
      have hn:i = l.length:=by simp at h1; omega
      subst hn
      rw [keepA_all] at *
      apply Jd.regS M; (· intro K gl hgl hK; simp only [glw] at hgl; subst hgl; simp (maxSteps:=1000000) (disch:=omega) only [↓evp,spw,Nat.reduceEqDiff,↓reduceIte,Nat.reduceLT,Nat.reduceAdd]; exact hK)
      refine Jb.toL (nx2:=2) [0,1] [(2,.ptr 1 0),(1,.ptr 0 0)] [(1,some (.cells [.i .i64 n,.vw [] 0] 24 false)),(0,some (.cells [.i .i64 n,.vw (ar l) l.length] 24 false))] rfl (by decide) (by first | exact no_base | exact base_one) (by repeat' first | exact trivial | refine ⟨⟨_,rfl,by first | exact ⟨rfl,rfl,.cons (Wk.refl _ _) (.cons (Wk.none _) .nil)⟩ | exact Wk.refl _ _ | exact Wk.bare rfl | exact Wk.zero _ | exact Wk.none _⟩,?_⟩) (by repeat' first | exact trivial | refine ⟨⟨Nat.le_of_ble_eq_true rfl,_,_,rfl,rfl,by first | exact ⟨rfl,rfl,.cons (Wk.refl _ _) (.cons (Wk.none _) .nil)⟩ | exact WkO.same rfl | exact WkO.same (fr_bare _) | exact WkO.same (bs_bare _) | exact WkO.same (is_bare _) | exact WkO.cells rfl⟩,?_⟩) ?_
      refine Jd.ret (Done.c1 rfl rfl (by simp only [↓evp,spw,Nat.reduceEqDiff,↓reduceIte,Nat.reduceLT,Nat.reduceAdd] <;> rfl) ?_)
      rw [hk0]
      rfl
     refine Jd.skipT ?_
     have hil:i < l.length:=by simp at h1; omega
     obtain ⟨x,hx⟩:∃ x,l[i]? = some x:=⟨_,List.getElem?_eq_getElem hil⟩
     have okx:=ok x (List.mem_of_getElem? hx)
     have okc:=(cn_ok okx).flat
     have okx':bares (aC (cn x)) = true:=(cn_ok okx).bare
     have okk:bares (ar (keepA n l i)) = true:=ar_bares fun y hy=>by unfold keepA at hy; obtain ⟨z,hz,rfl⟩:=List.mem_map.1 hy; exact cn_ok (ok z (List.mem_of_mem_take (List.mem_filter.1 hz).1))
     have okb:bares (ar (keepA n l i ++ [cn x])) = true:=by rw [<- ar_app,bares_append,okx',okk]; rfl
     have hfa:=fine_arc hv hx
     have hcan:=pureA_eq (canonV_eq id okx.1)
     simp only [id] at hcan
     obtain ⟨bt,gt⟩:∃ b,F[x.a.t.toNat]? = some b:=⟨_,List.getElem?_eq_getElem (by omega)⟩
     obtain ⟨bf,gf⟩:∃ b,B[x.a.f.toNat]? = some b:=⟨_,List.getElem?_eq_getElem (by omega)⟩
     have hlv:leaveB n (arcsL l) x.a = (bf && bt):=by unfold leaveB; rw [hB,hF,getD_get gf,getD_get gt]
     refine Jd.seq (Jd.block ?_)
     apply Jd.regS M; (· intro K gl hgl hK; simp only [glw] at hgl; subst hgl; simp (maxSteps:=1000000) (disch:=omega) only [↓evp,spw,Nat.reduceEqDiff,↓reduceIte,Nat.reduceLT,Nat.reduceAdd,Int.toNat_natCast,ar_get hx,ac,okx.flat]; exact hK)
     cases bf with
     | false =>
      simp only [Bool.false_and] at hlv
      apply Jd.regS M; (· intro K gl hgl hK; simp only [glw] at hgl; subst hgl; simp (maxSteps:=1000000) (disch:=omega) only [↓evp,spw,Nat.reduceEqDiff,↓reduceIte,Nat.reduceLT,Nat.reduceAdd,ac,bs_get gf]; exact hK)
      refine Jd.cnd rfl (fun h=>by cases h) (fun _=>?_)
      refine Jd.skip ?_
      refine Blk_.norm ?_
      show Jb _ _ _ _ _ _
      apply Jd.regQ M; (· intro K gl hgl hK; simp only [glw] at hgl; subst hgl; simp (maxSteps:=1000000) (disch:=omega) only [↓evp,spw,Nat.reduceEqDiff,↓reduceIte,Nat.reduceLT,Nat.reduceAdd]; exact hK)
      refine hgo _ _ ⟨k - 1,_,_,by omega,(To.ofL (nx2:=5) [0,1,2,3,4] [(8,.i .i64 ((i + 1:Nat):Int)),(7,.ptr 4 0),(4,.sl 3 0 (n + 1) (n + 1)),(3,.sl 2 0 (n + 1) (n + 1)),(2,.ptr 1 0),(1,.ptr 0 0)] [(4,some (.cells [.i .i64 n,.snil] 24 false)),(3,some (.cells (bs F) 4 false)),(2,some (.cells (bs B) 4 false)),(1,some (.cells [.i .i64 0,.snil] 24 false)),(0,some (.cells [.i .i64 n,.vw (ar l) l.length] 24 false))] rfl (by decide) (by first | exact no_base | exact base_one) (by repeat' first | exact trivial | refine ⟨⟨_,rfl,by first | exact Wk.refl _ _ | exact Wk.bare rfl | exact Wk.zero _ | exact Wk.none _⟩,?_⟩) (by repeat' first | exact trivial | refine ⟨⟨Nat.le_of_ble_eq_true rfl,_,_,rfl,rfl,by first | exact WkO.same rfl | exact WkO.same (fr_bare _) | exact WkO.same (bs_bare _) | exact WkO.same (is_bare _) | exact WkO.cells rfl⟩,?_⟩)),i + 1,by omega,rfl,.inl ⟨?_,rfl⟩⟩
      rw [keepA_no hx hlv,hk0]
     | true =>
     simp only [Bool.true_and] at hlv
     apply Jd.regS M; (· intro K gl hgl hK; simp only [glw] at hgl; subst hgl; simp (maxSteps:=1000000) (disch:=omega) only [↓evp,spw,Nat.reduceEqDiff,↓reduceIte,Nat.reduceLT,Nat.reduceAdd,ac,bs_get gf,bs_get gt]; exact hK)
     cases bt with
     | false =>
      refine Jd.cnd rfl (fun h=>by cases h) (fun _=>?_)
      refine Jd.skip ?_
      refine Blk_.norm ?_
      show Jb _ _ _ _ _ _
      apply Jd.regQ M; (· intro K gl hgl hK; simp only [glw] at hgl; subst hgl; simp (maxSteps:=1000000) (disch:=omega) only [↓evp,spw,Nat.reduceEqDiff,↓reduceIte,Nat.reduceLT,Nat.reduceAdd]; exact hK)
      refine hgo _ _ ⟨k - 1,_,_,by omega,(To.ofL (nx2:=5) [0,1,2,3,4] [(8,.i .i64 ((i + 1:Nat):Int)),(7,.ptr 4 0),(4,.sl 3 0 (n + 1) (n + 1)),(3,.sl 2 0 (n + 1) (n + 1)),(2,.ptr 1 0),(1,.ptr 0 0)] [(4,some (.cells [.i .i64 n,.snil] 24 false)),(3,some (.cells (bs F) 4 false)),(2,some (.cells (bs B) 4 false)),(1,some (.cells [.i .i64 0,.snil] 24 false)),(0,some (.cells [.i .i64 n,.vw (ar l) l.length] 24 false))] rfl (by decide) (by first | exact no_base | exact base_one) (by repeat' first | exact trivial | refine ⟨⟨_,rfl,by first | exact Wk.refl _ _ | exact Wk.bare rfl | exact Wk.zero _ | exact Wk.none _⟩,?_⟩) (by repeat' first | exact trivial | refine ⟨⟨Nat.le_of_ble_eq_true rfl,_,_,rfl,rfl,by first | exact WkO.same rfl | exact WkO.same (fr_bare _) | exact WkO.same (bs_bare _) | exact WkO.same (is_bare _) | exact WkO.cells rfl⟩,?_⟩)),i + 1,by omega,rfl,.inl ⟨?_,rfl⟩⟩
      rw [keepA_no hx hlv,hk0]
     | true =>
     refine Jd.cnd rfl (fun _=>?_) (fun h=>by cases h)
     apply Jd.regS M; (· intro K gl hgl hK; simp only [glw] at hgl; subst hgl; simp (maxSteps:=1000000) (disch:=omega) only [↓evp,spw,Nat.reduceEqDiff,↓reduceIte,Nat.reduceLT,Nat.reduceAdd,ac,c1,hcan,cn_put]; exact hK)
     apply Jd.regQ M; (· intro K gl hgl hK; simp only [glw] at hgl; subst hgl; simp (maxSteps:=1000000) (disch:=omega) only [↓evp,spw,Nat.reduceEqDiff,↓reduceIte,Nat.reduceLT,Nat.reduceAdd,ac,okc]; exact hK)
     refine Blk_.norm ?_
     show Jb _ _ _ _ _ _
     apply Jd.regQ M; (· intro K gl hgl hK; simp only [glw] at hgl; subst hgl; simp (maxSteps:=1000000) (disch:=omega) only [↓evp,spw,Nat.reduceEqDiff,↓reduceIte,Nat.reduceLT,Nat.reduceAdd]; exact hK)
     refine hgo _ _ ⟨k - 1,_,_,by omega,(To.ofL (nx2:=6) [0,1,2,3,4,7] [(8,.i .i64 ((i + 1:Nat):Int)),(7,.ptr 4 0),(4,.sl 3 0 (n + 1) (n + 1)),(3,.sl 2 0 (n + 1) (n + 1)),(2,.ptr 1 0),(1,.ptr 0 0)] [(5,some (.cells (aC (cn x)) 45 true)),(4,some (.cells [.i .i64 n,.sl 5 0 1 (big + 7)] 24 false)),(3,some (.cells (bs F) 4 false)),(2,some (.cells (bs B) 4 false)),(1,some (.cells [.i .i64 0,.snil] 24 false)),(0,some (.cells [.i .i64 n,.vw (ar l) l.length] 24 false))] rfl (by decide) (by first | exact no_base | exact base_one) (by repeat' first | exact trivial | refine ⟨⟨_,rfl,by first | exact WkO.same okx' | exact Wk.refl _ _ | exact Wk.bare rfl | exact Wk.zero _ | exact Wk.none _⟩,?_⟩) (by repeat' first | exact trivial | refine ⟨⟨Nat.le_of_ble_eq_true rfl,_,_,rfl,rfl,by first | exact WkO.same okx' | exact WkO.same rfl | exact WkO.same (fr_bare _) | exact WkO.same (bs_bare _) | exact WkO.same (is_bare _) | exact WkO.cells rfl⟩,?_⟩)),i + 1,by omega,rfl,.inr ?_⟩
     have e:keepA n l (i + 1) = [cn x]:=by rw [keepA_yes hx hlv,hk0,List.nil_append]
     rw [e,List.length_singleton,<- ar_one]
    refine Jd.seq ?_
    apply Jd.regS M; (· intro K gl hgl hK; simp only [glw] at hgl; subst hgl; simp (maxSteps:=1000000) (disch:=omega) only [↓evp,spw,Nat.reduceEqDiff,↓reduceIte,Nat.reduceLT,Nat.reduceAdd]; exact hK)
    refine Jd.cnd rfl (fun h1=>?_) (fun h1=>?_)
    rotate_left
    ·refine Jd.exitT (hex _ _ ?_)
     show Jb _ _ _ _ _ _
     have hn:i = l.length:=by simp at h1; omega
     subst hn
     rw [keepA_all] at *
     apply Jd.regS M; (· intro K gl hgl hK; simp only [glw] at hgl; subst hgl; simp (maxSteps:=1000000) (disch:=omega) only [↓evp,spw,Nat.reduceEqDiff,↓reduceIte,Nat.reduceLT,Nat.reduceAdd]; exact hK)
     have hbr:=ar_bares okt
     refine Jd.freezeL (nx2:=2) 5 (ar (trimA n l)) [0,1] [(2,.ptr 1 0),(1,.ptr 0 0)] [(1,some (.cells [.i .i64 n,.vw (ar (trimA n l)) (trimA n l).length] 24 false)),(0,some (.cells [.i .i64 n,.vw (ar l) l.length] 24 false))] rfl ?_ rfl (by decide) (by repeat' first | exact trivial | refine ⟨⟨_,rfl,by first | exact ⟨rfl,rfl,.cons (Wk.refl _ _) (.cons (Wk.frz_sl (off:=0) (by have:=big_large; have:=trimA_len n l; omega)) .nil)⟩ | exact Wk.refl _ _ | exact Wk.bare rfl | exact Wk.zero _ | exact Wk.none _⟩,?_⟩) (by repeat' first | exact trivial | refine ⟨⟨Nat.le_of_ble_eq_true rfl,_,_,rfl,rfl,by first | exact ⟨rfl,rfl,.cons (Wk.refl _ _) (.cons (Wk.frz_sl (off:=0) (by have:=big_large; have:=trimA_len n l; omega)) .nil)⟩ | exact WkO.same rfl | exact WkO.same (fr_bare _) | exact WkO.same (bs_bare _) | exact WkO.same (is_bare _) | exact WkO.cells rfl⟩,?_⟩) ?_
     ·exact hbr
     exact Jd.ret (Done.c1 rfl rfl (by simp only [↓evp,spw,Nat.reduceEqDiff,↓reduceIte,Nat.reduceLT,Nat.reduceAdd] <;> rfl) rfl)
    refine Jd.skipT ?_
    have hil:i < l.length:=by simp at h1; omega
    obtain ⟨x,hx⟩:∃ x,l[i]? = some x:=⟨_,List.getElem?_eq_getElem hil⟩
    have okx:=ok x (List.mem_of_getElem? hx)
    have okc:=(cn_ok okx).flat
    have okx':bares (aC (cn x)) = true:=(cn_ok okx).bare
    have okk:bares (ar (keepA n l i)) = true:=ar_bares fun y hy=>by unfold keepA at hy; obtain ⟨z,hz,rfl⟩:=List.mem_map.1 hy; exact cn_ok (ok z (List.mem_of_mem_take (List.mem_filter.1 hz).1))
    have okb:bares (ar (keepA n l i ++ [cn x])) = true:=by rw [<- ar_app,bares_append,okx',okk]; rfl
    have hfa:=fine_arc hv hx
    have hcan:=pureA_eq (canonV_eq id okx.1)
    simp only [id] at hcan
    obtain ⟨bt,gt⟩:∃ b,F[x.a.t.toNat]? = some b:=⟨_,List.getElem?_eq_getElem (by omega)⟩
    obtain ⟨bf,gf⟩:∃ b,B[x.a.f.toNat]? = some b:=⟨_,List.getElem?_eq_getElem (by omega)⟩
    have hlv:leaveB n (arcsL l) x.a = (bf && bt):=by unfold leaveB; rw [hB,hF,getD_get gf,getD_get gt]
    refine Jd.seq (Jd.block ?_)
    apply Jd.regS M; (· intro K gl hgl hK; simp only [glw] at hgl; subst hgl; simp (maxSteps:=1000000) (disch:=omega) only [↓evp,spw,Nat.reduceEqDiff,↓reduceIte,Nat.reduceLT,Nat.reduceAdd,Int.toNat_natCast,ar_get hx,ac,okx.flat]; exact hK)
    cases bf with
    | false =>
     simp only [Bool.false_and] at hlv
     apply Jd.regS M; (· intro K gl hgl hK; simp only [glw] at hgl; subst hgl; simp (maxSteps:=1000000) (disch:=omega) only [↓evp,spw,Nat.reduceEqDiff,↓reduceIte,Nat.reduceLT,Nat.reduceAdd,ac,bs_get gf]; exact hK)
     refine Jd.cnd rfl (fun h=>by cases h) (fun _=>?_)
     refine Jd.skip ?_
     refine Blk_.norm ?_
     show Jb _ _ _ _ _ _
     apply Jd.regQ M; (· intro K gl hgl hK; simp only [glw] at hgl; subst hgl; simp (maxSteps:=1000000) (disch:=omega) only [↓evp,spw,Nat.reduceEqDiff,↓reduceIte,Nat.reduceLT,Nat.reduceAdd]; exact hK)
     refine hgo _ _ ⟨k - 1,_,_,by omega,(To.ofL (nx2:=6) [0,1,2,3,4,5] [(8,.i .i64 ((i + 1:Nat):Int)),(7,.ptr 4 0),(4,.sl 3 0 (n + 1) (n + 1)),(3,.sl 2 0 (n + 1) (n + 1)),(2,.ptr 1 0),(1,.ptr 0 0)] [(5,some (.cells (ar (keepA n l i)) 45 true)),(4,some (.cells [.i .i64 n,.sl 5 0 (keepA n l i).length (big + 7)] 24 false)),(3,some (.cells (bs F) 4 false)),(2,some (.cells (bs B) 4 false)),(1,some (.cells [.i .i64 0,.snil] 24 false)),(0,some (.cells [.i .i64 n,.vw (ar l) l.length] 24 false))] rfl (by decide) (by first | exact no_base | exact base_one) (by repeat' first | exact trivial | refine ⟨⟨_,rfl,by first | exact WkO.same okk | exact Wk.refl _ _ | exact Wk.bare rfl | exact Wk.zero _ | exact Wk.none _⟩,?_⟩) (by repeat' first | exact trivial | refine ⟨⟨Nat.le_of_ble_eq_true rfl,_,_,rfl,rfl,by first | exact WkO.same okk | exact WkO.same rfl | exact WkO.same (fr_bare _) | exact WkO.same (bs_bare _) | exact WkO.same (is_bare _) | exact WkO.cells rfl⟩,?_⟩)),i + 1,by omega,rfl,.inr ?_⟩
     rw [keepA_no hx hlv]
    | true =>
    simp only [Bool.true_and] at hlv
    apply Jd.regS M; (· intro K gl hgl hK; simp only [glw] at hgl; subst hgl; simp (maxSteps:=1000000) (disch:=omega) only [↓evp,spw,Nat.reduceEqDiff,↓reduceIte,Nat.reduceLT,Nat.reduceAdd,ac,bs_get gf,bs_get gt]; exact hK)
    cases bt with
    | false =>
     refine Jd.cnd rfl (fun h=>by cases h) (fun _=>?_)
     refine Jd.skip ?_
     refine Blk_.norm ?_
     show Jb _ _ _ _ _ _
     apply Jd.regQ M; (· intro K gl hgl hK; simp only [glw] at hgl; subst hgl; simp (maxSteps:=1000000) (disch:=omega) only [↓evp,spw,Nat.reduceEqDiff,↓reduceIte,Nat.reduceLT,Nat.reduceAdd]; exact hK)
     refine hgo _ _ ⟨k - 1,_,_,by omega,(To.ofL (nx2:=6) [0,1,2,3,4,5] [(8,.i .i64 ((i + 1:Nat):Int)),(7,.ptr 4 0),(4,.sl 3 0 (n + 1) (n + 1)),(3,.sl 2 0 (n + 1) (n + 1)),(2,.ptr 1 0),(1,.ptr 0 0)] [(5,some (.cells (ar (keepA n l i)) 45 true)),(4,some (.cells [.i .i64 n,.sl 5 0 (keepA n l i).length (big + 7)] 24 false)),(3,some (.cells (bs F) 4 false)),(2,some (.cells (bs B) 4 false)),(1,some (.cells [.i .i64 0,.snil] 24 false)),(0,some (.cells [.i .i64 n,.vw (ar l) l.length] 24 false))] rfl (by decide) (by first | exact no_base | exact base_one) (by repeat' first | exact trivial | refine ⟨⟨_,rfl,by first | exact WkO.same okk | exact Wk.refl _ _ | exact Wk.bare rfl | exact Wk.zero _ | exact Wk.none _⟩,?_⟩) (by repeat' first | exact trivial | refine ⟨⟨Nat.le_of_ble_eq_true rfl,_,_,rfl,rfl,by first | exact WkO.same okk | exact WkO.same rfl | exact WkO.same (fr_bare _) | exact WkO.same (bs_bare _) | exact WkO.same (is_bare _) | exact WkO.cells rfl⟩,?_⟩)),i + 1,by omega,rfl,.inr ?_⟩
     rw [keepA_no hx hlv]
    | true =>
    refine Jd.cnd rfl (fun _=>?_) (fun h=>by cases h)
    apply Jd.regS M; (· intro K gl hgl hK; simp only [glw] at hgl; subst hgl; simp (maxSteps:=1000000) (disch:=omega) only [↓evp,spw,Nat.reduceEqDiff,↓reduceIte,Nat.reduceLT,Nat.reduceAdd,ac,c1,hcan,cn_put]; exact hK)
    have hkl:(ar (keepA n l i)).length = (keepA n l i).length * 7:=ar_len _
    have hki:=keepA_len n l i
    apply Jd.regQ M; (· intro K gl hgl hK; simp only [glw] at hgl; subst hgl; simp (maxSteps:=1000000) (disch:=omega) only [↓evp,spw,Nat.reduceEqDiff,↓reduceIte,Nat.reduceLT,Nat.reduceAdd,ac,okc]; exact hK)
    refine Blk_.norm ?_
    show Jb _ _ _ _ _ _
    apply Jd.regQ M; (· intro K gl hgl hK; simp only [glw] at hgl; subst hgl; simp (maxSteps:=1000000) (disch:=omega) only [↓evp,spw,Nat.reduceEqDiff,↓reduceIte,Nat.reduceLT,Nat.reduceAdd,ar_app]; exact hK)
    refine hgo _ _ ⟨k - 1,_,_,by omega,(To.ofL (nx2:=6) [0,1,2,3,4,8] [(8,.i .i64 ((i + 1:Nat):Int)),(7,.ptr 4 0),(4,.sl 3 0 (n + 1) (n + 1)),(3,.sl 2 0 (n + 1) (n + 1)),(2,.ptr 1 0),(1,.ptr 0 0)] [(5,some (.cells (ar (keepA n l i ++ [cn x])) 45 true)),(4,some (.cells [.i .i64 n,.sl 5 0 ((keepA n l i).length + 1) (big + 7)] 24 false)),(3,some (.cells (bs F) 4 false)),(2,some (.cells (bs B) 4 false)),(1,some (.cells [.i .i64 0,.snil] 24 false)),(0,some (.cells [.i .i64 n,.vw (ar l) l.length] 24 false))] rfl (by decide) (by first | exact no_base | exact base_one) (by repeat' first | exact trivial | refine ⟨⟨_,rfl,by first | exact WkO.same okb | exact Wk.refl _ _ | exact Wk.bare rfl | exact Wk.zero _ | exact Wk.none _⟩,?_⟩) (by repeat' first | exact trivial | refine ⟨⟨Nat.le_of_ble_eq_true rfl,_,_,rfl,rfl,by first | exact WkO.same okb | exact WkO.same rfl | exact WkO.same (fr_bare _) | exact WkO.same (bs_bare _) | exact WkO.same (is_bare _) | exact WkO.cells rfl⟩,?_⟩)),i + 1,by omega,rfl,.inr ?_⟩
    rw [keepA_yes hx hlv,List.length_append,List.length_singleton]
   refine Jd.skipT ?_
   refine Jd.seq (Jd.block ?_)
   obtain ⟨i,rfl⟩:∃ i,k = i + 1:=⟨k - 1,by simp at h1; omega⟩
   have hil:i < l.length:=by omega
   obtain ⟨x,hx⟩:∃ x,l[i]? = some x:=⟨_,List.getElem?_eq_getElem hil⟩
   have hfa:=fine_arc hv hx
   obtain ⟨L,hL⟩:∃ L,endN n l (i + 1) = L:=⟨_,rfl⟩
   have hlen:L.length = n + 1:=by rw [<- hL]; exact endN_len _ _ _
   have hfl:(bs L).length = n + 1:=by rw [bs_len,hlen]
   obtain ⟨bt,gt⟩:∃ b,L[x.a.t.toNat]? = some b:=⟨_,List.getElem?_eq_getElem (by omega)⟩
   obtain ⟨bf,gf⟩:∃ b,L[x.a.f.toNat]? = some b:=⟨_,List.getElem?_eq_getElem (by omega)⟩
   have hstep:L.set x.a.f.toNat (bf || bt) = endN n l i:=by
    rw [endN_step hx,hL]
    unfold onES
    rw [getD_get gt,getD_get gf]
   simp only [hL]
   have hm:(((i + 1:Nat):Int) - 1).toNat = i:=by omega
   cases bf
   all_goals
    simp only [Bool.true_or,Bool.false_or] at hstep
    apply Jd.drwQ M [(28,15),(28,25)] (by kernel_rfl); (· intro K gl hgl hK; simp only [glw] at hgl; subst hgl; simp (maxSteps:=1000000) (disch:=omega) only [↓evp,spw,Nat.reduceEqDiff,↓reduceIte,Nat.reduceLT,Nat.reduceAdd, hm,ar0 hx,ar1 hx,bs_get gt,bs_get gf,hstep]; exact hK)
    refine Blk_.norm ?_
    show Jb _ _ _ _ _ _
    apply Jd.regQ M; (· intro K gl hgl hK; simp only [glw] at hgl; subst hgl; simp (maxSteps:=1000000) (disch:=omega) only [↓evp,spw,Nat.reduceEqDiff,↓reduceIte,Nat.reduceLT,Nat.reduceAdd]; exact hK)
    exact hgo _ _ ⟨i,_,_,by omega,(To.ofL (nx2:=4) [0,1,2,3] [(6,.i .i64 ((i:Int) - 1)),(4,.sl 3 0 (n + 1) (n + 1)),(3,.sl 2 0 (n + 1) (n + 1)),(2,.ptr 1 0),(1,.ptr 0 0)] [(3,some (.cells (bs (endN n l i)) 4 false)),(2,some (.cells (bs B) 4 false)),(1,some (.cells [.i .i64 0,.snil] 24 false)),(0,some (.cells [.i .i64 n,.vw (ar l) l.length] 24 false))] rfl (by decide) (by first | exact no_base | exact base_one) (by repeat' first | exact trivial | refine ⟨⟨_,rfl,by first | exact Wk.i64 (by omega) | exact Wk.refl _ _ | exact Wk.bare rfl | exact Wk.zero _ | exact Wk.none _⟩,?_⟩) (by repeat' first | exact trivial | refine ⟨⟨Nat.le_of_ble_eq_true rfl,_,_,rfl,rfl,by first | exact Wk.i64 (by omega) | exact WkO.same rfl | exact WkO.same (fr_bare _) | exact WkO.same (bs_bare _) | exact WkO.same (is_bare _) | exact WkO.cells rfl⟩,?_⟩)),by omega,rfl,rfl⟩
  refine Jd.skipT ?_
  refine Jd.seq (Jd.block ?_)
  have hil:i < l.length:=by simp at h1; omega
  obtain ⟨x,hx⟩:∃ x,l[i]? = some x:=⟨_,List.getElem?_eq_getElem hil⟩
  have hfa:=fine_arc hv hx
  have hsn:=arcsL_snoc hx
  obtain ⟨L,hL⟩:∃ L,onB n (arcsL (l.take i)) = L:=⟨_,rfl⟩
  have hlen:L.length = n + 1:=by rw [<- hL]; exact onB_length _ _
  have hfl:(bs L).length = n + 1:=by rw [bs_len,hlen]
  obtain ⟨bt,gt⟩:∃ b,L[x.a.t.toNat]? = some b:=⟨_,List.getElem?_eq_getElem (by omega)⟩
  obtain ⟨bf,gf⟩:∃ b,L[x.a.f.toNat]? = some b:=⟨_,List.getElem?_eq_getElem (by omega)⟩
  have hstep:L.set x.a.t.toNat (bt || bf) = onB n (arcsL (l.take (i + 1))):=by
   rw [hsn,onB_snoc,hL]
   unfold onBS
   rw [getD_get gt,getD_get gf]
  simp only [hL]
  cases bt
  all_goals
   simp only [Bool.true_or,Bool.false_or] at hstep
   apply Jd.drwQ M [(28,15),(28,25)] (by kernel_rfl); (· intro K gl hgl hK; simp only [glw] at hgl; subst hgl; simp (maxSteps:=1000000) (disch:=omega) only [↓evp,spw,Nat.reduceEqDiff,↓reduceIte,Nat.reduceLT,Nat.reduceAdd, Int.toNat_natCast,ar0 hx,ar1 hx,bs_get gt,bs_get gf,hstep]; exact hK)
   refine Blk_.norm ?_
   show Jb _ _ _ _ _ _
   apply Jd.regQ M; (· intro K gl hgl hK; simp only [glw] at hgl; subst hgl; simp (maxSteps:=1000000) (disch:=omega) only [↓evp,spw,Nat.reduceEqDiff,↓reduceIte,Nat.reduceLT,Nat.reduceAdd]; exact hK)
   exact hgo _ _ ⟨k - 1,_,_,by omega,(To.ofL (nx2:=4) [0,1,2,3] [(5,.i .i64 ((i + 1:Nat):Int)),(4,.sl 3 0 (n + 1) (n + 1)),(3,.sl 2 0 (n + 1) (n + 1)),(2,.ptr 1 0),(1,.ptr 0 0)] [(3,some (.cells (bs ((List.replicate (n + 1) false).set n true)) 4 false)),(2,some (.cells (bs (onB n (arcsL (l.take (i + 1))))) 4 false)),(1,some (.cells [.i .i64 0,.snil] 24 false)),(0,some (.cells [.i .i64 n,.vw (ar l) l.length] 24 false))] rfl (by decide) (by first | exact no_base | exact base_one) (by repeat' first | exact trivial | refine ⟨⟨_,rfl,by first | exact Wk.refl _ _ | exact Wk.bare rfl | exact Wk.zero _ | exact Wk.none _⟩,?_⟩) (by repeat' first | exact trivial | refine ⟨⟨Nat.le_of_ble_eq_true rfl,_,_,rfl,rfl,by first | exact WkO.same rfl | exact WkO.same (fr_bare _) | exact WkO.same (bs_bare _) | exact WkO.same (is_bare _) | exact WkO.cells rfl⟩,?_⟩)),i + 1,by omega,rfl,rfl⟩
 cases h
def lenD:AV->Nat
 | .vw _ n=>n
 | _=>0
def digX:AV->Bool
 | .vw c _=>bares c
 | .snil=>true
 | _=>false
theorem digX_len {x:AV} (h:digX x = true):lenS x = some (.i .i64 (lenD x)):=by
 cases x <;> first | rfl | simp [digX] at h
theorem digX_bare {x:AV} (h:digX x = true):bare x = true/\flat x = true:=by
 cases x <;> first | exact ⟨rfl,rfl⟩ | simp [digX] at h
def AArc.raw (x:AArc):AArc:=⟨⟨x.a.f,x.a.t,x.a.w,x.a.v,0⟩,x.neg,x.n,x.d⟩
def rawsV:List AV->Option (List AArc)
 | []=>some []
 | .i .i64 f :: .i .i64 t :: .i .i64 w :: .i .i64 v :: .b neg :: n :: d :: l=>cond (digX n && digX d) ((rawsV l).map (⟨⟨f,t,w,v,0⟩,neg,n,d⟩ :: ·)) none
 | _=>none
theorem rawsV_ar:∀ {l:List AArc},(∀ x ∈ l,digX x.n = true/\digX x.d = true)->rawsV (ar l) = some (l.map AArc.raw)
 | [],_=>rfl
 | x :: l,h=>by
  obtain ⟨h1,h2⟩:=h x List.mem_cons_self
  show rawsV (aC x ++ ar l) = _
  simp only [aC,List.cons_append,List.nil_append,rawsV,h1,h2,rawsV_ar fun y hy=>h y (List.mem_cons_of_mem _ hy),Bool.and_self,cond_true,Option.map_some]
  rfl
theorem rawsV_some:∀ {k:Nat} {c:List AV} {l:List AArc},c.length = k->rawsV c = some l->c = ar l/\∀ x ∈ l,digX x.n = true/\digX x.d = true:=by
 intro k
 induction k using Nat.strongRecOn with
 | _ k ih =>
  intro c l hk h
  unfold rawsV at h
  split at h
  ·cases h; exact ⟨rfl,fun x hx=>by cases hx⟩
  ·next f t w v neg n d r =>
   obtain ⟨hc,h⟩:=cond_some h
   simp only [Bool.and_eq_true] at hc
   rw [Option.map_eq_some_iff] at h
   obtain ⟨r',h1,rfl⟩:=h
   simp only [List.length_cons] at hk
   obtain ⟨rfl,h3⟩:=ih r.length (by omega) rfl h1
   refine ⟨rfl,fun y hy=>?_⟩
   rcases List.mem_cons.1 hy with rfl | hy
   ·exact hc
   exact h3 y hy
  cases h
theorem ar5 {l:List AArc} {i:Nat} {x:AArc} (h:l[i]? = some x):(ar l)[i * 7 + 4 + 1]? = some x.n:=ar_in h (j:=5) (by omega) rfl
theorem ar6 {l:List AArc} {i:Nat} {x:AArc} (h:l[i]? = some x):(ar l)[i * 7 + 4 + 2]? = some x.d:=ar_in h (j:=6) (by omega) rfl
def zlang:AV:=.agg [.i .i64 0,.i .i64 0,.snil,.i .i64 0,.b false,.snil,.snil,.snil]
def isZl:AV->Bool
 | .agg [.i .i64 (.ofNat 0),.i .i64 (.ofNat 0),.snil,.i .i64 (.ofNat 0),.b false,.snil,.snil,.snil]=>true
 | _=>false
theorem isZl_eq {x:AV} (h:isZl x = true):x = zlang:=by
 unfold isZl at h
 split at h
 ·rfl
 cases h
def smallA (x:AArc):Bool:=decide (lenD x.n <= 2) && decide (lenD x.d <= 2)
def smallB (T:Int) (l:List AArc):Bool:=!((decide (T > 8) && decide (T <= 1000)) || decide (l.length > 30)) && l.all smallA
def smallV:List AV->Option AV
 | [.agg [.i .i64 T,.vw c n],m]=>match rawsV c with
  | some l=>cond (isZl m && Nat.beq l.length n) (some (.b (smallB T l))) none
  | none=>none
 | _=>none
theorem smallV_eq {T:Int} {l:List AArc} (h:∀ x ∈ l,digX x.n = true/\digX x.d = true):smallV [latA T l,zlang] = some (.b (smallB T l)):=by
 unfold latA
 simp only [smallV,rawsV_ar h,List.length_map,x_nbeq,Bool.and_true]
 show some (AV.b (smallB T (l.map AArc.raw))) = _
 congr 2
 unfold smallB
 rw [List.length_map,List.all_map]
 rfl
theorem ansSmall:Answers Tryz.prog 25 (pureA smallV):=by
 obtain ⟨E,M⟩:∃ E,Mc Tryz.prog (envOf []) E:=⟨_,mc_of laidL mixedL (fun p hp=>by cases hp)⟩
 refine answers_pure (by kernel_rfl) Tryz.func25 Tryz.ntmps25 rfl ?_
 intro args v h
 unfold smallV at h
 split at h
 ·next T c n m =>
  split at h
  ·next l hl =>
   obtain ⟨hb,h⟩:=cond_some h
   cases h
   simp only [Bool.and_eq_true] at hb
   obtain ⟨hz,hn⟩:=hb
   obtain rfl:=isZl_eq hz
   obtain rfl:=Nat.eq_of_beq_eq_true hn
   obtain ⟨rfl,hd⟩:=rawsV_some rfl hl
   refine ⟨rfl,rfl,Nat.le_of_ble_eq_true rfl,?_⟩
   rw [ofList2,St.of_nil]
   unfold zlang
   clear hz hn hl
   apply Jd.regS M; (· intro K gl hgl hK; simp only [glw] at hgl; subst hgl; simp (maxSteps:=1000000) (disch:=omega) only [↓evp,spw,Nat.reduceEqDiff,↓reduceIte,Nat.reduceLT,Nat.reduceAdd]; exact hK)
   refine Jd.seq ?_
   obtain ⟨b1,e1⟩:∃ b,decide (T > 8) = b:=⟨_,rfl⟩
   obtain ⟨b2,e2⟩:∃ b,decide (T <= 1000) = b:=⟨_,rfl⟩
   obtain ⟨b3,e3⟩:∃ b,decide ((l.length:Int) > 30) = b:=⟨_,rfl⟩
   have e3':decide (l.length > 30) = b3:=by rw [<- e3]; exact decide_eq_decide.2 (by omega)
   obtain ⟨b,hb⟩:∃ b,((b1 && b2) || b3) = b:=⟨_,rfl⟩
   have hsm:smallB T l = (!b && l.all smallA):=by unfold smallB; rw [e1,e2,e3',hb]
   cases b with
   | true =>
    have hf:smallB T l = false:=by rw [hsm]; rfl
    cases b1 <;> cases b2 <;> cases b3
    all_goals first | (exfalso; revert hb; decide) | (apply Jd.regS M; (· intro K gl hgl hK; simp only [glw] at hgl; subst hgl; simp (maxSteps:=1000000) (disch:=omega) only [↓evp,spw,Nat.reduceEqDiff,↓reduceIte,Nat.reduceLT,Nat.reduceAdd,e1,e2,e3]; exact hK); refine Jd.cnd rfl (fun _=>?_) (fun h=>by cases h); apply Jd.regS M; (· intro K gl hgl hK; simp only [glw] at hgl; subst hgl; simp (maxSteps:=1000000) (disch:=omega) only [↓evp,spw,Nat.reduceEqDiff,↓reduceIte,Nat.reduceLT,Nat.reduceAdd]; exact hK); refine Jd.retT (Done.one rfl rfl ?_); rw [hf])
   | false =>
   have h30:l.length <= 30:=by
    have:b3 = false:=by cases b3 <;> simp_all
    rw [this] at e3'
    simp at e3'
    exact e3'
   cases b1 <;> cases b2 <;> cases b3
   all_goals first | (exfalso; revert hb; decide) | skip
   all_goals
    apply Jd.regS M; (· intro K gl hgl hK; simp only [glw] at hgl; subst hgl; simp (maxSteps:=1000000) (disch:=omega) only [↓evp,spw,Nat.reduceEqDiff,↓reduceIte,Nat.reduceLT,Nat.reduceAdd,e1,e2,e3]; exact hK)
    refine Jd.cnd rfl (fun h=>by cases h) (fun _=>?_)
    refine Jd.skipT ?_
    refine Jd.seq ?_
    apply Jd.regS M; (· intro K gl hgl hK; simp only [glw] at hgl; subst hgl; simp (maxSteps:=1000000) (disch:=omega) only [↓evp,spw,Nat.reduceEqDiff,↓reduceIte,Nat.reduceLT,Nat.reduceAdd]; exact hK)
    refine Jd.loopB (fun k g s=>∃ i:Nat,i + k = l.length/\(l.take i).all smallA = true/\g = ⟨25,124,Tr.of [(5,.i .i64 (i:Int)),(4,.b false),(3,.ptr 1 0),(2,.ptr 0 0)],none,[]⟩/\s = St.of [(1,some (.cells [.i .i64 0,.i .i64 0,.snil,.i .i64 0,.b false,.snil,.snil,.snil] 34 false)),(0,some (.cells [.i .i64 T,.vw (ar l) l.length] 24 false))] 2) l.length ?_ ?_
    ·exact ⟨_,_,(To.ofL (nx2:=2) [0,1] [(5,.i .i64 ((0:Nat):Int)),(4,.b false),(3,.ptr 1 0),(2,.ptr 0 0)] [(1,some (.cells [.i .i64 0,.i .i64 0,.snil,.i .i64 0,.b false,.snil,.snil,.snil] 34 false)),(0,some (.cells [.i .i64 T,.vw (ar l) l.length] 24 false))] rfl (by decide) (by first | exact no_base | exact base_one) (by repeat' first | exact trivial | refine ⟨⟨_,rfl,by first | exact Wk.refl _ _ | exact Wk.bare rfl | exact Wk.zero _ | exact Wk.none _⟩,?_⟩) (by repeat' first | exact trivial | refine ⟨⟨Nat.le_of_ble_eq_true rfl,_,_,rfl,rfl,by first | exact WkO.same rfl | exact WkO.same (fr_bare _) | exact WkO.same (bs_bare _) | exact WkO.same (is_bare _) | exact WkO.cells rfl⟩,?_⟩)),0,by omega,rfl,rfl,rfl⟩
    rintro k _ _ ⟨i,hi,hall,rfl,rfl⟩ Q' hex hret hgo
    refine Jd.seq ?_
    apply Jd.regS M; (· intro K gl hgl hK; simp only [glw] at hgl; subst hgl; simp (maxSteps:=1000000) (disch:=omega) only [↓evp,spw,Nat.reduceEqDiff,↓reduceIte,Nat.reduceLT,Nat.reduceAdd]; exact hK)
    refine Jd.cnd rfl (fun h1=>?_) (fun h1=>?_)
    rotate_left
    ·refine Jd.exitT (hex _ _ ?_)
     show Jb _ _ _ _ _ _
     have hn:i = l.length:=by simp at h1; omega
     subst hn
     rw [List.take_length] at hall
     rw [hsm,hall]
     refine Jd.seq ?_
     apply Jd.regS M; (· intro K gl hgl hK; simp only [glw] at hgl; subst hgl; simp (maxSteps:=1000000) (disch:=omega) only [↓evp,spw,Nat.reduceEqDiff,↓reduceIte,Nat.reduceLT,Nat.reduceAdd]; exact hK)
     refine Jd.block (Jd.loop ?_)
     refine Jd.seq ?_
     apply Jd.regS M; (· intro K gl hgl hK; simp only [glw] at hgl; subst hgl; simp (maxSteps:=1000000) (disch:=omega) only [↓evp,spw,Nat.reduceEqDiff,↓reduceIte,Nat.reduceLT,Nat.reduceAdd]; exact hK)
     refine Jd.cnd rfl (fun h=>by simp at h) (fun _=>?_)
     refine Jd.exit ?_
     refine Thn.x (Thn.x (Blk_.out ?_))
     show Jb _ _ _ _ _ _
     refine Jd.seq ?_
     apply Jd.regS M; (· intro K gl hgl hK; simp only [glw] at hgl; subst hgl; simp (maxSteps:=1000000) (disch:=omega) only [↓evp,spw,Nat.reduceEqDiff,↓reduceIte,Nat.reduceLT,Nat.reduceAdd]; exact hK)
     refine Jd.block (Jd.loop ?_)
     refine Jd.seq ?_
     apply Jd.regS M; (· intro K gl hgl hK; simp only [glw] at hgl; subst hgl; simp (maxSteps:=1000000) (disch:=omega) only [↓evp,spw,Nat.reduceEqDiff,↓reduceIte,Nat.reduceLT,Nat.reduceAdd]; exact hK)
     refine Jd.cnd rfl (fun h=>by simp at h) (fun _=>?_)
     refine Jd.exit ?_
     refine Thn.x (Thn.x (Blk_.out ?_))
     show Jb _ _ _ _ _ _
     apply Jd.regS M; (· intro K gl hgl hK; simp only [glw] at hgl; subst hgl; simp (maxSteps:=1000000) (disch:=omega) only [↓evp,spw,Nat.reduceEqDiff,↓reduceIte,Nat.reduceLT,Nat.reduceAdd]; exact hK)
     exact Jd.ret (Done.one rfl rfl rfl)
    refine Jd.skipT ?_
    have hil:i < l.length:=by simp at h1; omega
    obtain ⟨x,hx⟩:∃ x,l[i]? = some x:=⟨_,List.getElem?_eq_getElem hil⟩
    obtain ⟨d1,d2⟩:=hd x (List.mem_of_getElem? hx)
    have hn1:=digX_len d1
    have hn2:=digX_len d2
    obtain ⟨t1,g1⟩:∃ b,decide ((lenD x.n:Int) > 2) = b:=⟨_,rfl⟩
    obtain ⟨t2,g2⟩:∃ b,decide ((lenD x.d:Int) > 2) = b:=⟨_,rfl⟩
    have hA:smallA x = !(t1 || t2):=by
     unfold smallA
     rw [<- g1,<- g2,Bool.not_or,<- decide_not,<- decide_not]
     congr 1
     ·exact decide_eq_decide.2 (by omega)
     exact decide_eq_decide.2 (by omega)
    have hbad:smallA x = false->l.all smallA = false:=fun h=>List.all_eq_false.2 ⟨x,List.mem_of_getElem? hx,by rw [h]; simp⟩
    refine Jd.seq (Jd.block ?_)
    cases t1 with
    | true =>
     apply Jd.regS M; (· intro K gl hgl hK; simp only [glw] at hgl; subst hgl; simp (maxSteps:=1000000) (disch:=omega) only [↓evp,spw,Nat.reduceEqDiff,↓reduceIte,Nat.reduceLT,Nat.reduceAdd,Int.toNat_natCast,ar5 hx,hn1,g1]; exact hK)
     refine Jd.cnd rfl (fun _=>?_) (fun h=>by cases h)
     apply Jd.regS M; (· intro K gl hgl hK; simp only [glw] at hgl; subst hgl; simp (maxSteps:=1000000) (disch:=omega) only [↓evp,spw,Nat.reduceEqDiff,↓reduceIte,Nat.reduceLT,Nat.reduceAdd]; exact hK)
     refine Jd.ret ?_
     refine hret _ _ ?_
     refine Thn.r (Done.one rfl rfl ?_)
     rw [hsm,hbad (by rw [hA]; rfl)]
     rfl
    | false =>
    apply Jd.regS M; (· intro K gl hgl hK; simp only [glw] at hgl; subst hgl; simp (maxSteps:=1000000) (disch:=omega) only [↓evp,spw,Nat.reduceEqDiff,↓reduceIte,Nat.reduceLT,Nat.reduceAdd,Int.toNat_natCast,ar5 hx,ar6 hx,hn1,hn2,g1,g2]; exact hK)
    refine Jd.cnd rfl (fun ht=>?_) (fun ht=>?_)
    ·apply Jd.regS M; (· intro K gl hgl hK; simp only [glw] at hgl; subst hgl; simp (maxSteps:=1000000) (disch:=omega) only [↓evp,spw,Nat.reduceEqDiff,↓reduceIte,Nat.reduceLT,Nat.reduceAdd]; exact hK)
     refine Jd.ret ?_
     refine hret _ _ ?_
     refine Thn.r (Done.one rfl rfl ?_)
     rw [hsm,hbad (by rw [hA,ht]; rfl)]
     rfl
    refine Jd.skip ?_
    refine Blk_.norm ?_
    show Jb _ _ _ _ _ _
    apply Jd.regQ M; (· intro K gl hgl hK; simp only [glw] at hgl; subst hgl; simp (maxSteps:=1000000) (disch:=omega) only [↓evp,spw,Nat.reduceEqDiff,↓reduceIte,Nat.reduceLT,Nat.reduceAdd]; exact hK)
    refine hgo _ _ ⟨k - 1,_,_,by omega,(To.ofL (nx2:=2) [0,1] [(5,.i .i64 ((i + 1:Nat):Int)),(4,.b false),(3,.ptr 1 0),(2,.ptr 0 0)] [(1,some (.cells [.i .i64 0,.i .i64 0,.snil,.i .i64 0,.b false,.snil,.snil,.snil] 34 false)),(0,some (.cells [.i .i64 T,.vw (ar l) l.length] 24 false))] rfl (by decide) (by first | exact no_base | exact base_one) (by repeat' first | exact trivial | refine ⟨⟨_,rfl,by first | exact Wk.refl _ _ | exact Wk.bare rfl | exact Wk.zero _ | exact Wk.none _⟩,?_⟩) (by repeat' first | exact trivial | refine ⟨⟨Nat.le_of_ble_eq_true rfl,_,_,rfl,rfl,by first | exact WkO.same rfl | exact WkO.same (fr_bare _) | exact WkO.same (bs_bare _) | exact WkO.same (is_bare _) | exact WkO.cells rfl⟩,?_⟩)),i + 1,by omega,?_,rfl,rfl⟩
    rw [List.take_add_one,hx,List.all_append,hall,Option.toList_some,List.all_cons,hA,ht]
    rfl
  cases h
 cases h
section
def ownB (μ:Mu) (s:St) (g:Nat):Prop:=∃ o x p,s.h.get o = some x/\μ o = some (.at_ p)/\p.blk = g
def terB (μ:Mu) (s:St) (g:Nat):Prop:=ownB μ s g ∨ ∃ i v,μ.fz g i = some v
structure Amb (w w':World):Prop where
 os:w'.os = w.os
 tape:w'.tape = w.tape
 output:w'.output = w.output
 size:w.heap.size <= w'.heap.size
theorem Amb.refl (w:World):Amb w w:=⟨rfl,rfl,rfl,Nat.le_refl _⟩
theorem Amb.trans {a b c:World} (h:Amb a b) (k:Amb b c):Amb a c:=⟨k.os.trans h.os,k.tape.trans h.tape,k.output.trans h.output,Nat.le_trans h.size k.size⟩
structure Kp (Y:Nat->Prop) (w w':World):Prop where
 amb:Amb w w'
 same:∀ g,g < w.heap.size->Y g->w'.heap[g]? = w.heap[g]?
def noNat (s:St):Prop:=∀ o n,s.h.get o ≠ some (.nat n)
section
variable {μ μ':Mu} {s s':St} {w w':World}
theorem own_lt (h:Rel μ s w) {g:Nat} (ho:ownB μ s g):g < w.heap.size:=by
 obtain ⟨o,x,p,h1,h2,rfl⟩:=ho
 obtain ⟨b,hb⟩:=(h.obj o x h1 (by rw [h2]; simp)).at_ h2
 exact (Array.getElem?_eq_some_iff.1 hb).1
theorem ter_lt (h:Rel μ s w) {g:Nat} (ht:terB μ s g):g < w.heap.size:=by
 rcases ht with ho | ⟨i,v,hv⟩
 ·exact own_lt h ho
 exact (h.fz g i v hv).1
theorem own_nodig (h:Rel μ s w) {g:Nat} (ho:ownB μ s g):¬ hasDig w g:=by
 obtain ⟨o,x,p,h1,h2,rfl⟩:=ho
 exact (h.obj o x h1 (by rw [h2]; simp)).nodig h2
theorem hasDig_same {a b:World} {g:Nat} (h:b.heap[g]? = a.heap[g]?):hasDig b g->hasDig a g:=by
 rintro ⟨i,v,hv,hd⟩
 exact ⟨i,v,by rw [<- hv]; exact (World.cell?_of_block (w:=a) h).symm,hd⟩
theorem Rel.kp (h:Rel μ s w)(hn:noNat s) (k:Kp (terB μ s) w w'):Rel μ s w':=by
 refine ⟨⟨fun o x e m=>?_,h.inj,h.nat,h.wf⟩,fun b i v hv=>?_⟩
 ·refine (h.obj o x e m).keep (Sub.refl μ) k.amb.size (fun p hp=>?_) (fun A mm c hv _ _ _ _=>?_)
  ·exact k.same _ (own_lt h ⟨o,x,p,e,hp,rfl⟩) (.inl ⟨o,x,p,e,hp,rfl⟩)
  obtain ⟨n,rfl⟩:=(h.obj o x e m).val hv
  exact absurd e (hn o n)
 obtain ⟨h1,h2,h3⟩:=h.fz b i v hv
 exact ⟨Nat.lt_of_lt_of_le h1 k.amb.size,by rw [<- h2]; exact World.cell?_of_block (w:=w) (k.same b h1 (.inr ⟨i,v,hv⟩)),h3⟩
theorem Fp.amb {bb:Nat} (f:Fp bb μ s w μ' s' w'):Amb w w':=⟨f.os,f.tape,f.output,f.size⟩
theorem Fp.ownG {bb:Nat} (f:Fp bb μ s w μ' s' w'):∀ g,ownB μ' s' g->ownB μ s g ∨ w.heap.size <= g:=by
 rintro g ⟨o,x,p,h1,h2,rfl⟩
 rcases f.own o x p h1 h2 with h | ⟨o0,x0,p0,g1,g2,g3⟩
 ·exact .inr h
 exact .inl ⟨o0,x0,p0,g1,g2,g3⟩
theorem Fp.terG {bb:Nat} (f:Fp bb μ s w μ' s' w')(hr:Rel μ' s' w'):∀ g,terB μ' s' g->terB μ s g ∨ w.heap.size <= g ∨ hasDig w' g:=by
 rintro g (h | ⟨i,v,hv⟩)
 ·rcases f.ownG g h with h | h
  ·exact .inl (.inl h)
  exact .inr (.inl h)
 rcases f.fz g i v hv with h | h | ⟨o,x,p,h1,h2,h3⟩ | h
 ·exact .inl (.inr ⟨i,v,h⟩)
 ·exact .inr (.inl h)
 ·exact .inl (.inl ⟨o,x,p,h1,h2,h3⟩)
 exact .inr (.inr ⟨i,v,(hr.fz g i v hv).2.1,h⟩)
theorem Fp.blkG {bb:Nat} (f:Fp bb μ s w μ' s' w'):∀ g,g < w.heap.size->¬ ownB μ s g->w'.heap[g]? = w.heap[g]?:=fun g hg hn=>f.blk g hg fun o x p h1 h2 h3=>hn ⟨o,x,p,h1,h2,h3⟩
end
structure Gs where
 inv:Option Nat->(Nat->Prop)->(Nat->Prop)->World->Prop
 stable:∀ {i:Option Nat} {Z Y Z' Y':Nat->Prop} {w w':World},inv i Z Y w->(∀ g,Z' g->Z g ∨ w.heap.size <= g)->(∀ g,Y' g->Y g ∨ w.heap.size <= g ∨ hasDig w' g)->(∀ g,Z' g->¬ hasDig w' g)->Amb w w'->(∀ g,g < w.heap.size->¬ Z g->w'.heap[g]? = w.heap[g]?)->inv i Z' Y' w'
def FzW (ψ:Nat->Nat->Option Value) (Z Y:Nat->Prop) (W:World):Prop:=∀ b i v,ψ b i = some v->b < W.heap.size/\W.cell? ⟨b,i,none⟩ = some v/\Y b/\¬ Z b
def YH (G:Gs) (lb:Nat) (P:Program) (V:List (List AV)) (ψ0:Nat->Nat->Option Value) (sz0:Nat):Prop :=
 ∀ (m i:Nat) (Z Y:Nat->Prop) (W:World) (ψ:Nat->Nat->Option Value) (args:List AV) (vs:List Value),V[i]? = some args->FzW ψ Z Y W->(∀ b j v,ψ b j = some v->ψ0 b j = some v ∨ sz0 <= b ∨ noDig v = false)->(∀ g,Y g->g < W.heap.size)->(∀ g,Z g->Y g)->(∀ g,Z g->¬ hasDig W g)->VRs ⟨fun _=>none,ψ⟩ args vs->G.inv (some i) Z Y W ->
  YieldAt Fence.wide m P lb vs.toArray W fun e W'=>∃ i',((e = .returned (.bool true)/\i' = some (i + 1)) ∨ (e = .returned (.bool false)/\i' = none))/\G.inv i' Z Y W'/\Kp Y W W'
def SeqC (P:Program) (gf:FuncId) (caps:List AV) (V:List (List AV)):Prop :=
 ∀ (n:Nat) (ψ:Nat->Nat->Option Value) (w:World) (cs:List Value) (lb:Nat) (G:Gs),FzW ψ (fun _=>False) (fun _=>True) w->VRs ⟨fun _=>none,ψ⟩ caps cs->YH G lb P V ψ w.heap.size ->
  G.inv (some 0) (fun _=>False) (fun b=>∃ i v,ψ b i = some v) w ->
  CallsIn Fence.wide n P gf (#[.func (.yield lb) #[] #[]] ++ cs.toArray) w fun e w'=>(∃ v,e = .returned v)/\∃ i Z Y,(i = none ∨ i = some V.length)/\G.inv i Z Y w'
def jmp:Ex->Option Code
 | .normal=>none
 | .ret=>some .ret
 | .exit id=>some (.exit id)
def Hx (I:Nat->Tr AV->St->Prop) (L:Ex->Tr AV->St->Prop):Option Nat->Ex->Tr AV->St->Prop
 | some k,.normal,T,s=>I k T s
 | none,.ret,T,s=>L .ret T s
 | none,.exit id,T,s=>L (.exit id) T s
 | _,_,_,_=>False
structure Cn (f nt:Nat) (tm0:Array Value) (rec:Option Code->Loop) (μ0:Mu) (s0:St) (w0:World) (lb db:Nat) (H:Ex->Tr AV->St->Prop) (Z Y:Nat->Prop) (W:World) (ex:Ex) (μ:Mu) (T:Tr AV) (s:St):Prop where
 here:H ex T s
 nonat:noNat s
 rel:Rel μ s W
 tr:TR μ nt T tm0
 fresh:∀ o,s.nx <= o->μ o = none
 fp:Fp 0 μ0 s0 w0 μ s W
 apart1:∀ g,ownB μ s g->¬ Y g
 apart2:∀ g,terB μ s g->¬ Z g
 zlow:∀ g,Z g->w0.heap.size <= g
 zdig:∀ g,Z g->¬ hasDig W g
 loop:W.heap[lb]? = some (.loop (rec (jmp ex)))
 defs:W.heap[db]? = some (.deferred (some []))
 out:¬ Z lb/\¬ Z db/\¬ ownB μ s lb/\¬ ownB μ s db/\¬ Y lb
theorem Cn.stable {f nt:Nat} {tm0:Array Value} {rec:Option Code->Loop} {μ0:Mu} {s0:St} {w0:World} {lb db:Nat} {H:Ex->Tr AV->St->Prop} {Z Y Z' Y':Nat->Prop} {W W':World} {ex:Ex} {μ:Mu} {T:Tr AV} {s:St}
  (h:Cn f nt tm0 rec μ0 s0 w0 lb db H Z Y W ex μ T s)(hZ:∀ g,Z' g->Z g ∨ W.heap.size <= g)(hY:∀ g,Y' g->Y g ∨ W.heap.size <= g ∨ hasDig W' g)(hZd:∀ g,Z' g->¬ hasDig W' g)(ha:Amb W W')(hb:∀ g,g < W.heap.size->¬ Z g->W'.heap[g]? = W.heap[g]?):Cn f nt tm0 rec μ0 s0 w0 lb db H Z' Y' W' ex μ T s:=by
 have hk:Kp (terB μ s) W W':=⟨ha,fun g hg ht=>hb g hg (h.apart2 g ht)⟩
 have hlb:=(Array.getElem?_eq_some_iff.1 h.loop).1
 have hdb:=(Array.getElem?_eq_some_iff.1 h.defs).1
 obtain ⟨o1,o2,o3,o4,o5⟩:=h.out
 have zz:∀ g,g < W.heap.size->¬ Z g->¬ Z' g:=fun g hg hn hz=>by
  rcases hZ g hz with h | h
  ·exact hn h
  omega
 have yy:∀ g,g < W.heap.size->¬ hasDig W' g->¬ Y g->¬ Y' g:=fun g hg hd hn hz=>by
  rcases hY g hz with h | h | h
  ·exact hn h
  ·omega
  exact hd h
 have hl':=(hb lb hlb o1).trans h.loop
 have hrk:=h.rel.kp h.nonat hk
 refine ⟨h.here,h.nonat,hrk,h.tr,h.fresh,?_,fun g hg=>yy g (own_lt h.rel hg) (own_nodig hrk hg) (h.apart1 g hg),fun g hg=>zz g (ter_lt h.rel hg) (h.apart2 g hg),fun g hg=>?_,hZd,hl',(hb db hdb o2).trans h.defs,zz _ hlb o1,zz _ hdb o2,o3,o4,yy _ hlb (fun ⟨i,v,hv,_⟩=>by simp [World.cell?,hl'] at hv) o5⟩
 ·have f:=h.fp
  refine ⟨f.base,f.fzm,ha.os.trans f.os,ha.tape.trans f.tape,ha.output.trans f.output,Nat.le_trans f.size ha.size,fun g hg hn=>?_,f.own,f.fz⟩
  rw [hb g (Nat.lt_of_lt_of_le hg f.size) (fun hz=>by have:=h.zlow g hz; omega)]
  exact f.blk g hg hn
 rcases hZ g hg with h1 | h1
 ·exact h.zlow g h1
 exact Nat.le_trans h.fp.size h1
end
end Go.Proofs.YtdehimgccmbfkaaGreat
