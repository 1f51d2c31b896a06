/- Lemmas on the way: Lx1, Ly4, Ly5, Ly6. -/
import Derived.Test.YtdehimgccmbfkaaGreatT47
import Derived.Test.YtdehimgccmbfkaaGreatT40
set_option linter.all false
set_option maxRecDepth 1000000
set_option maxHeartbeats 32000000
namespace Go.Proofs.YtdehimgccmbfkaaGreat
open Go.RowKit
def ArcsAt (k:Nat) (w:World) (v:Value) (ac:List LArc):Prop:=∃ cells,Sl w 7 v ac.length cells/\∀ (i:Nat) (r:LArc),ac[i]? = some r->∃ a b c,cells[i * 7]? = some (.int .i64 r.f)/\cells[i * 7 + 1]? = some (.int .i64 r.t)/\cells[i * 7 + 2]? = some (.int .i64 r.w)/\cells[i * 7 + 3]? = some (.int .i64 r.v) /\
 cells[i * 7 + 4]? = some a/\cells[i * 7 + 5]? = some b/\cells[i * 7 + 6]? = some c/\FracAt k w (.agg #[a,b,c]) r.q
theorem ArcsAt.below {k:Nat} {w w':World} {v:Value} {ac:List LArc} (h:ArcsAt k w v ac)(hb:Below w.heap.size w w'):ArcsAt k w' v ac:=by
 obtain ⟨cells,h1,h2⟩:=h
 refine ⟨cells,h1.below hb,fun i r hr=>?_⟩
 obtain ⟨a,b,c,e0,e1,e2,e3,e4,e5,e6,hf⟩:=h2 i r hr
 exact ⟨a,b,c,e0,e1,e2,e3,e4,e5,e6,hf.below hb⟩
theorem ArcsAt.open_ {k:Nat} {w:World} {v:Value} {ac:List LArc} (h:ArcsAt k w v ac):∃ A c,v = .slice A ac.length c/\ac.length <= c/\c <= 9223372036854775807 /\
  ∀ (j:Nat) (r:LArc),ac[j]? = some r->∃ b off s An nn cn Ad nd cd,A = some ⟨b,off,none⟩/\b < w.heap.size/\w.cell? ⟨b,off + j * 7,none⟩ = some (.int .i64 r.f)/\w.cell? ⟨b,off + j * 7 + 1,none⟩ = some (.int .i64 r.t)/\w.cell? ⟨b,off + j * 7 + 2,none⟩ = some (.int .i64 r.w)/\w.cell? ⟨b,off + j * 7 + 3,none⟩ = some (.int .i64 r.v) /\
   w.cell? ⟨b,off + j * 7 + 4,none⟩ = some (.bool s)/\w.cell? ⟨b,off + j * 7 + 5,none⟩ = some (.slice An nn cn)/\w.cell? ⟨b,off + j * 7 + 6,none⟩ = some (.slice Ad nd cd)/\FracAt k w (.agg #[.bool s,.slice An nn cn,.slice Ad nd cd]) r.q:=by
 obtain ⟨cells,h1,h2⟩:=h
 obtain ⟨h0,A,c,rfl,hc,hm,h5⟩:=h1
 refine ⟨A,c,rfl,hc,by unfold maxLen at hm; omega,fun j r hr=>?_⟩
 have hj:=(List.getElem?_eq_some_iff.1 hr).1
 obtain ⟨b,off,e,hlt,hcell⟩:=h5 (by omega)
 obtain ⟨x,y,z,e0,e1,e2,e3,e4,e5,e6,hf⟩:=h2 j r hr
 obtain ⟨s,An,nn,cn,Ad,nd,cd,rfl,rfl,rfl⟩:=hf.cells3
 exact ⟨b,off,s,An,nn,cn,Ad,nd,cd,e,hlt,hcell _ _ e0,by rw [Nat.add_assoc]; exact hcell _ _ e1,by rw [Nat.add_assoc]; exact hcell _ _ e2,by rw [Nat.add_assoc]; exact hcell _ _ e3,by rw [Nat.add_assoc]; exact hcell _ _ e4,by rw [Nat.add_assoc]; exact hcell _ _ e5,by rw [Nat.add_assoc]; exact hcell _ _ e6,hf⟩
theorem seven_at {w:World} {g:Nat} {e:TypeId} {a b c d x y z:Value} (h:Blk w g e [a,b,c,d,x,y,z]):w.cell? ⟨g,0,none⟩ = some a/\w.cell? ⟨g,1,none⟩ = some b/\w.cell? ⟨g,2,none⟩ = some c/\w.cell? ⟨g,3,none⟩ = some d/\w.cell? ⟨g,4,none⟩ = some x/\w.cell? ⟨g,5,none⟩ = some y/\w.cell? ⟨g,6,none⟩ = some z :=
 ⟨h.cell 0,h.cell 1,h.cell 2,h.cell 3,h.cell 4,h.cell 5,h.cell 6⟩

def orI:List Int->Int
 | []=>0
 | x :: l=>if x ≠ 0 then x else orI l
theorem orI_drop {l:List Int} {j:Nat} {x:Int} (h:l[j]? = some x):orI (l.drop j) = if x ≠ 0 then x else orI (l.drop (j + 1)):=by
 obtain ⟨hj,rfl⟩:=List.getElem?_eq_some_iff.1 h
 rw [List.drop_eq_getElem_cons hj]
 rfl
theorem ordA_or (a b:LArc):orI [cmpI a.f b.f,cmpI a.t b.t,cmpI a.w b.w,cmpI a.v b.v] = ordA a b:=by
 unfold ordA orI orI orI orI orI
 by_cases h:cmpI a.v b.v = 0
 ·simp [h]
 simp [h]

theorem orG (w:World) (v:Value) (l:List Int)(h:IntsAt w v l)(hl:l.length <= 1000) :
  Calls Tryz.prog 162 #[v] w fun e w'=>e = .returned (.int .i64 (orI l))/\Below w.heap.size w w':=by
 obtain ⟨A,c,rfl,hlc,hcm,hat⟩:=h.open_
 have HAT:=Lib.hid hat
 obtain ⟨n,hn⟩:∃ n,l.length = n:=⟨_,rfl⟩
 have HN:=Lib.hid hn
 rw [hn] at hlc hl ⊢
 clear h hat hn
 go_enter Tryz.func162,Tryz.ntmps162
 go_wp2_with fail
 go_loopg [5,8] n (fun g _ i wr=>∃ (j:Nat),i = .int .i64 j/\j + g = n/\Hid (orI l = orI (l.drop j))/\wr = w)
 case atStart=>exact ⟨0,rfl,by omega,Lib.hid rfl,rfl⟩
 obtain ⟨j,rfl,hj,HO,rfl⟩:=hrel
 rcases Nat.eq_zero_or_pos gk with h | h
 ·obtain rfl:j = n:=by omega
  have HR:Hid (orI l = 0):=Lib.hid (by rw [HO.out,List.drop_eq_nil_of_le (by rw [HN.out]; exact Nat.le_refl _)]; rfl)
  go_wp2_with fail
  go_ret
  exact ⟨ret_i64 HR.out.symm,Below.refl _ _⟩
 obtain ⟨g,rfl⟩:∃ g,gk = g + 1:=⟨gk - 1,by omega⟩
 obtain ⟨x,hx⟩:∃ x,l[j]? = some x:=⟨_,List.getElem?_eq_getElem (by rw [HN.out]; omega)⟩
 obtain ⟨bb,off,rfl,hbb,e0⟩:=HAT.out j x hx
 have HX:=Lib.hid (orI_drop hx)
 have j0:(0:Int) <= (j:Int):=by omega
 have j1:(j:Int) < (n:Int):=by omega
 have j9:IntKind.i64.wrap ((j:Int) + 1) = (j:Int) + 1:=IntWalk.i64_in _ (by omega)
 clear hx
 by_cases h0:x = 0
 ·have d0:(x != 0) = false:=by simpa using h0
  have HR:Hid (orI l = orI (l.drop (j + 1))):=Lib.hid (by rw [HO.out,HX.out,if_neg (by simpa using h0)])
  clear h0
  go_wp2_with fail
  go_roundg g
  case measure=>omega
  case rel=>exact ⟨j + 1,rfl,by omega,HR,rfl⟩
 have d0:(x != 0) = true:=by simpa using h0
 have HR:Hid (orI l = x):=Lib.hid (by rw [HO.out,HX.out,if_pos h0])
 clear h0
 go_wp2_with fail
 go_ret
 exact ⟨ret_i64 HR.out.symm,Below.refl _ _⟩

theorem ints_four (W:World) (a b c d:Int):IntsAt (W.alloc (.cells #[.int .i64 a,.int .i64 b,.int .i64 c,.int .i64 d] 3)).drew (.slice (some ⟨W.heap.size,0,none⟩) 4 4) [a,b,c,d]:=by
 have h:Blk (W.alloc (.cells #[.int .i64 a,.int .i64 b,.int .i64 c,.int .i64 d] 3)).drew W.heap.size 3 [.int .i64 a,.int .i64 b,.int .i64 c,.int .i64 d]:=Blk.new W 3 _
 exact h.sl (sz:=1) (n:=4) (c:=4) (by simp) (Nat.le_refl _) (by unfold maxLen; omega)
theorem orderG (w:World) (a b:LArc) (x y z x' y' z':Value) :
  Calls Tryz.prog 112 #[.agg #[.int .i64 a.f,.int .i64 a.t,.int .i64 a.w,.int .i64 a.v,x,y,z],.agg #[.int .i64 b.f,.int .i64 b.t,.int .i64 b.w,.int .i64 b.v,x',y',z']] w fun e w'=>e = .returned (.int .i64 (ordA a b))/\Below w.heap.size w w':=by
 have HOR:Hid (orI [Lib.compareInt a.f b.f,Lib.compareInt a.t b.t,Lib.compareInt a.w b.w,Lib.compareInt a.v b.v] = ordA a b):=Lib.hid (ordA_or a b)
 go_enter Tryz.func112,Tryz.ntmps112
 go_upto_region 1 with fail
 obtain ⟨W,hW,P0,P1,PB,Phs⟩:=box2 w 45 [.int .i64 a.f,.int .i64 a.t,.int .i64 a.w,.int .i64 a.v,x,y,z] 45 [.int .i64 b.f,.int .i64 b.t,.int .i64 b.w,.int .i64 b.v,x',y',z']
 rw [<- hW]
 clear hW
 obtain ⟨a0,a1,a2,a3,_,_,_⟩:=seven_at P0.out
 obtain ⟨b0,b1,b2,b3,_,_,_⟩:=seven_at P1.out
 have hS:=And.intro a0 (And.intro a1 (And.intro a2 (And.intro a3 (And.intro b0 (And.intro b1 (And.intro b2 b3))))))
 have lP0:w.heap.size < W.heap.size:=P0.out.lt
 have lP1:w.heap.size + 1 < W.heap.size:=P1.out.lt
 have HSET:Hid (∀ w',Below W.heap.size W w'->w'.cell? ⟨w.heap.size,0,none⟩ = some (.int .i64 a.f)/\w'.cell? ⟨w.heap.size,1,none⟩ = some (.int .i64 a.t)/\w'.cell? ⟨w.heap.size,2,none⟩ = some (.int .i64 a.w)/\w'.cell? ⟨w.heap.size,3,none⟩ = some (.int .i64 a.v)/\w'.cell? ⟨w.heap.size + 1,0,none⟩ = some (.int .i64 b.f)/\w'.cell? ⟨w.heap.size + 1,1,none⟩ = some (.int .i64 b.t)/\w'.cell? ⟨w.heap.size + 1,2,none⟩ = some (.int .i64 b.w)/\w'.cell? ⟨w.heap.size + 1,3,none⟩ = some (.int .i64 b.v)):=Lib.hid (fun w' hb=>⟨(hb.cell (p:=⟨w.heap.size,0,none⟩) lP0).trans a0,(hb.cell (p:=⟨w.heap.size,1,none⟩) lP0).trans a1,(hb.cell (p:=⟨w.heap.size,2,none⟩) lP0).trans a2,(hb.cell (p:=⟨w.heap.size,3,none⟩) lP0).trans a3,(hb.cell (p:=⟨w.heap.size + 1,0,none⟩) lP1).trans b0,(hb.cell (p:=⟨w.heap.size + 1,1,none⟩) lP1).trans b1,(hb.cell (p:=⟨w.heap.size + 1,2,none⟩) lP1).trans b2,(hb.cell (p:=⟨w.heap.size + 1,3,none⟩) lP1).trans b3⟩)
 go_region_held3 (fun w'=>w'.cell? ⟨w.heap.size,0,none⟩ = some (.int .i64 a.f)/\w'.cell? ⟨w.heap.size,1,none⟩ = some (.int .i64 a.t)/\w'.cell? ⟨w.heap.size,2,none⟩ = some (.int .i64 a.w)/\w'.cell? ⟨w.heap.size,3,none⟩ = some (.int .i64 a.v)/\w'.cell? ⟨w.heap.size + 1,0,none⟩ = some (.int .i64 b.f)/\w'.cell? ⟨w.heap.size + 1,1,none⟩ = some (.int .i64 b.t)/\w'.cell? ⟨w.heap.size + 1,2,none⟩ = some (.int .i64 b.w)/\w'.cell? ⟨w.heap.size + 1,3,none⟩ = some (.int .i64 b.v))
  (first | assumption | exact hS | go_keep)
  (first
   | (go_at_call 163; refine (Tryz.cmp_Compare_int _ _ _).mono ?_; rintro e wl ⟨rfl,rfl⟩)
   | (go_at_call 162; refine (orG _ _ [Lib.compareInt a.f b.f,Lib.compareInt a.t b.t,Lib.compareInt a.w b.w,Lib.compareInt a.v b.v] (ints_four W _ _ _ _) (by simp)).mono ?_; rintro e wl ⟨rfl,hb⟩; rw [HOR.out]; have hq:Below W.heap.size W wl:=(below_alloc_drew W _).trans (hb.mono (by simp)); have BB2:=Lib.hid (PB.out.trans (hq.mono PB.out.size)); have hS:=HSET.out wl hq; clear hb hq))
 all_goals
  go_wp2_with fail
  go_ret
  exact ⟨rfl,BB2.out⟩
def orderV:List AV->Option AV
 | [x,y]=>match arcV x,arcV y with
  | some a,some b=>some (.i .i64 (ordA a.a b.a))
  | _,_=>none
 | _=>none
theorem orderV_eq {a b:AArc} (ha:a.Ok)(hb:b.Ok):orderV [.agg (aC a),.agg (aC b)] = some (.i .i64 (ordA a.a b.a)):=by simp only [orderV,arcV_aC ha,arcV_aC hb]
theorem ansOrder:Answers Tryz.prog 112 (pureA orderV):=by
 refine pure_of (by kernel_rfl) ?_
 intro args v h μ s w vs n hR hvs
 unfold orderV at h
 split at h
 ·next x y =>
  split at h
  ·next a b ha hb =>
   cases h
   obtain ⟨rfl,_⟩:=arcV_some ha
   obtain ⟨rfl,_⟩:=arcV_some hb
   simp only [VRs,VR,aC] at hvs
   obtain ⟨_,_,rfl,⟨_,rfl,_,_,rfl,rfl,_,_,rfl,rfl,_,_,rfl,rfl,_,_,rfl,rfl,x4,_,rfl,_,x5,_,rfl,_,x6,_,rfl,_,rfl⟩,_,_,rfl,⟨_,rfl,_,_,rfl,rfl,_,_,rfl,rfl,_,_,rfl,rfl,_,_,rfl,rfl,y4,_,rfl,_,y5,_,rfl,_,y6,_,rfl,_,rfl⟩,rfl⟩:=hvs
   exact ret_val hR (by simp [VR]) (orderG w a.a b.a x4 x5 x6 y4 y5 y6)
  cases h
 cases h
theorem arcB_or2 (T:Int) (r:LArc):(decide (r.f < 0) || (decide (r.t <= r.f) || (decide (r.t > T) || (decide (r.w < 1) || (decide (r.w > 2000) || (decide (r.v < 0) || (decide (sgnI r.q <= 0) || decide (sgnI (r.q - ((1:Int):Rat)) > 0)))))))) = !arcB T r:=arcB_or1 T r
theorem ansCheck:Answers Tryz.prog 43 (pureA checkV):=by
 obtain ⟨E,M,c1,c2,c3,c4⟩:∃ E,Mc Tryz.prog (envOf [(91,pureA signV),(92,pureA ofV),(101,pureA cmpV),(112,pureA orderV)]) E/\(∀ a s,E.call 91 a s = pureA signV a s)/\(∀ a s,E.call 92 a s = pureA ofV a s)/\(∀ a s,E.call 101 a s = pureA cmpV a s)/\(∀ a s,E.call 112 a s = pureA orderV a s) :=
  ⟨_,mc_of laidL mixedL (by simp only [List.forall_mem_cons]; exact ⟨ansSign,ansOf,ansCmp,ansOrder,fun p hp=>by cases hp⟩),fun _ _=>rfl,fun _ _=>rfl,fun _ _=>rfl,fun _ _=>rfl⟩
 refine answers_pure (by kernel_rfl) Tryz.func43 Tryz.ntmps43 rfl ?_
 intro args v h
 unfold checkV at h
 split at h
 ·next x =>
  simp only [Option.map_eq_some_iff] at h
  obtain ⟨⟨T,l⟩,hx,rfl⟩:=h
  obtain ⟨hx,hb,ok⟩:=latV_some hx
  refine ⟨by simp only [bares,hb]; rfl,rfl,Nat.le_of_ble_eq_true rfl,?_⟩
  dsimp only
  rw [ofList1,St.of_nil]
  refine Jd.toL [] [(0,latA T l)] [] rfl .nil ⟨⟨_,rfl,Wk.lat _ T hx⟩,trivial⟩ trivial ?_
  clear hx hb
  unfold latA
  apply Jd.regS M; (· intro K gl hgl hK; simp only [glw] at hgl; subst hgl; simp (maxSteps:=1000000) (disch:=omega) only [↓evp,spw,Nat.reduceEqDiff,↓reduceIte,Nat.reduceLT,Nat.reduceAdd]; exact hK)
  refine Jd.seq ?_
  apply Jd.regS M; (· intro K gl hgl hK; simp only [glw] at hgl; subst hgl; simp (maxSteps:=1000000) (disch:=omega) only [↓evp,spw,Nat.reduceEqDiff,↓reduceIte,Nat.reduceLT,Nat.reduceAdd]; exact hK)
  have hlen:=arcsL_len l
  refine Jd.cnd rfl (fun h1=>?_) (fun h1=>?_)
  ·apply Jd.regS M; (· intro K gl hgl hK; simp only [glw] at hgl; subst hgl; simp (maxSteps:=1000000) (disch:=omega) only [↓evp,spw,Nat.reduceEqDiff,↓reduceIte,Nat.reduceLT,Nat.reduceAdd]; exact hK)
   refine Jd.retT (Done.one rfl rfl ?_)
   have:20000 < l.length:=by simp at h1; omega
   simp only [latE,hlen,if_pos this]
  refine Jd.skipT ?_
  have hl:l.length <= 20000:=by simp at h1; omega
  clear h1
  refine Jd.seq ?_
  obtain ⟨b,hb⟩:∃ b,decide (T < 0) = b:=⟨_,rfl⟩
  cases b with
  | true =>
   apply Jd.regS M; (· intro K gl hgl hK; simp only [glw] at hgl; subst hgl; simp (maxSteps:=1000000) (disch:=omega) only [↓evp,spw,Nat.reduceEqDiff,↓reduceIte,Nat.reduceLT,Nat.reduceAdd,hb]; exact hK)
   refine Jd.cnd rfl (fun _=>?_) (fun h1=>by cases h1)
   apply Jd.regS M; (· intro K gl hgl hK; simp only [glw] at hgl; subst hgl; simp (maxSteps:=1000000) (disch:=omega) only [↓evp,spw,Nat.reduceEqDiff,↓reduceIte,Nat.reduceLT,Nat.reduceAdd]; exact hK)
   refine Jd.retT (Done.one rfl rfl ?_)
   rw [latE_T (by omega) (by simp at hb; omega)]
  | false =>
   apply Jd.regS M; (· intro K gl hgl hK; simp only [glw] at hgl; subst hgl; simp (maxSteps:=1000000) (disch:=omega) only [↓evp,spw,Nat.reduceEqDiff,↓reduceIte,Nat.reduceLT,Nat.reduceAdd,hb]; exact hK)
   refine Jd.cnd rfl (fun h1=>?_) (fun h1=>?_)
   ·apply Jd.regS M; (· intro K gl hgl hK; simp only [glw] at hgl; subst hgl; simp (maxSteps:=1000000) (disch:=omega) only [↓evp,spw,Nat.reduceEqDiff,↓reduceIte,Nat.reduceLT,Nat.reduceAdd]; exact hK)
    refine Jd.retT (Done.one rfl rfl ?_)
    rw [latE_T (by omega) (by simp at h1; omega)]
   refine Jd.skipT ?_
   simp at hb h1
   refine Jd.seq ?_
   apply Jd.regS M; (· intro K gl hgl hK; simp only [glw] at hgl; subst hgl; simp (maxSteps:=1000000) (disch:=omega) only [↓evp,spw,Nat.reduceEqDiff,↓reduceIte,Nat.reduceLT,Nat.reduceAdd]; exact hK)
   refine Jd.loopB (fun k g s=>∃ i:Nat,i + k = l.length/\(∀ j,j < i->fineA T (arcsL l) j = true)/\g = ⟨43,84,Tr.of [(20,.i .i64 (i:Int)),(19,.i .i64 l.length),(18,.vw (ar l) l.length),(2,.i .i64 0),(1,.ptr 0 0)],none,[]⟩/\s = St.of [(0,some (.cells [.i .i64 T,.vw (ar l) l.length] 24 false))] 1) l.length ?_ ?_
   ·exact ⟨_,_,(To.ofL (nx2:=1) [0] [(20,.i .i64 ((0:Nat):Int)),(19,.i .i64 l.length),(18,.vw (ar l) l.length),(2,.i .i64 0),(1,.ptr 0 0)] [(0,some (.cells [.i .i64 T,.vw (ar l) l.length] 24 false))] rfl (by decide) (by first | exact no_base | exact base_one) (by repeat' first | exact trivial | refine ⟨⟨_,rfl,by first | exact Wk.refl _ _ | exact Wk.bare rfl | exact Wk.zero _ | exact Wk.none _⟩,?_⟩) (by repeat' first | exact trivial | refine ⟨⟨Nat.le_of_ble_eq_true rfl,_,_,rfl,rfl,by first | exact WkO.same rfl | exact WkO.same (fr_bare _) | exact WkO.same (bs_bare _) | exact WkO.same (is_bare _) | exact WkO.cells rfl⟩,?_⟩)),0,by omega,fun j hj=>by omega,rfl,rfl⟩
   rintro k _ _ ⟨i,hi,hf,rfl,rfl⟩ Q' hex hret hgo
   apply Jd.regS M; (· intro K gl hgl hK; simp only [glw] at hgl; subst hgl; simp (maxSteps:=1000000) (disch:=omega) only [↓evp,spw,Nat.reduceEqDiff,↓reduceIte,Nat.reduceLT,Nat.reduceAdd]; exact hK)
   refine Jd.seq ?_
   refine Jd.cnd rfl (fun h1=>?_) (fun h1=>?_)
   rotate_left
   ·refine Jd.exitT (hex _ _ ?_)
    show Jb _ _ _ _ _ _
    apply Jd.regS M; (· intro K gl hgl hK; simp only [glw] at hgl; subst hgl; simp (maxSteps:=1000000) (disch:=omega) only [↓evp,spw,Nat.reduceEqDiff,↓reduceIte,Nat.reduceLT,Nat.reduceAdd]; exact hK)
    refine Jd.ret (Done.one rfl rfl ?_)
    have hn:i = l.length:=by simp at h1; omega
    rw [latE_fine (by omega) (by omega) (by omega) fun j hj=>hf j (by omega)]
   have hil:i < l.length:=by simp at h1; omega
   obtain ⟨x,hx⟩:∃ x,l[i]? = some x:=⟨_,List.getElem?_eq_getElem hil⟩
   have okx:=ok x (List.mem_of_getElem? hx)
   refine Jd.skipT ?_
   refine Jd.seq (Jd.block ?_)
   clear hex
   apply Jd.regS M; (· intro K gl hgl hK; simp only [glw] at hgl; subst hgl; simp (maxSteps:=1000000) (disch:=omega) only [↓evp,spw,Nat.reduceEqDiff,↓reduceIte,Nat.reduceLT,Nat.reduceAdd,Int.toNat_natCast,ar_get hx,ac,okx.flat]; exact hK)
   have hax:=arcsL_at hx
   obtain ⟨b1,e1⟩:∃ b,decide (x.a.f < 0) = b:=⟨_,rfl⟩
   obtain ⟨b2,e2⟩:∃ b,decide (x.a.t <= x.a.f) = b:=⟨_,rfl⟩
   obtain ⟨b3,e3⟩:∃ b,decide (x.a.t > T) = b:=⟨_,rfl⟩
   obtain ⟨b4,e4⟩:∃ b,decide (x.a.w < 1) = b:=⟨_,rfl⟩
   obtain ⟨b5,e5⟩:∃ b,decide (x.a.w > 2000) = b:=⟨_,rfl⟩
   obtain ⟨b6,e6⟩:∃ b,decide (x.a.v < 0) = b:=⟨_,rfl⟩
   obtain ⟨b7,e7⟩:∃ b,decide (sgnI x.a.q <= 0) = b:=⟨_,rfl⟩
   obtain ⟨b8,e8⟩:∃ b,decide (sgnI (x.a.q - ((1:Int):Rat)) > 0) = b:=⟨_,rfl⟩
   have hs:=pureA_eq (signV_eq okx.1)
   have ho:=pureA_eq (ofV_eq (z:=1) (by omega) (by omega))
   have hc:=pureA_eq (cmpV_eq okx.1 (ratV_fq qz_one))
   refine Jd.seq ?_
   rcases first8 b1 b2 b3 b4 b5 b6 b7 b8 with rfl | ⟨rfl,rfl⟩ | ⟨rfl,rfl,rfl⟩ | ⟨rfl,rfl,rfl,rfl⟩ | ⟨rfl,rfl,rfl,rfl,rfl⟩ | ⟨rfl,rfl,rfl,rfl,rfl,rfl⟩ | ⟨rfl,rfl,rfl,rfl,rfl,rfl,rfl⟩ | ⟨rfl,rfl,rfl,rfl,rfl,rfl,rfl,rfl⟩ | ⟨rfl,rfl,rfl,rfl,rfl,rfl,rfl,rfl⟩
   ·have hA:arcB T x.a = false:=by have:=arcB_or2 T x.a; simp only [e1,Bool.true_or,Bool.false_or] at this; simpa using this
    apply Jd.drwS M [] (by kernel_rfl); (· intro K gl hgl hK; simp only [glw] at hgl; subst hgl; simp (maxSteps:=1000000) (disch:=omega) only [↓evp,spw,Nat.reduceEqDiff,↓reduceIte,Nat.reduceLT,Nat.reduceAdd, ac,e1,e2,e3,e4,e5,e6,e7,e8,c1,c2,c3,hs,ho,hc]; exact hK)
    refine Jd.cnd rfl (fun _=>?_) (fun h=>by cases h)
    apply Jd.regS M; (· intro K gl hgl hK; simp only [glw] at hgl; subst hgl; simp (maxSteps:=1000000) (disch:=omega) only [↓evp,spw,Nat.reduceEqDiff,↓reduceIte,Nat.reduceLT,Nat.reduceAdd]; exact hK)
    refine Jd.ret ?_
    refine hret _ _ ?_
    refine Thn.r (Done.one rfl rfl ?_)
    exact bad_of hl hil hax hA
   ·have hA:arcB T x.a = false:=by have:=arcB_or2 T x.a; simp only [e1,e2,Bool.true_or,Bool.false_or] at this; simpa using this
    apply Jd.drwS M [] (by kernel_rfl); (· intro K gl hgl hK; simp only [glw] at hgl; subst hgl; simp (maxSteps:=1000000) (disch:=omega) only [↓evp,spw,Nat.reduceEqDiff,↓reduceIte,Nat.reduceLT,Nat.reduceAdd, ac,e1,e2,e3,e4,e5,e6,e7,e8,c1,c2,c3,hs,ho,hc]; exact hK)
    refine Jd.cnd rfl (fun _=>?_) (fun h=>by cases h)
    apply Jd.regS M; (· intro K gl hgl hK; simp only [glw] at hgl; subst hgl; simp (maxSteps:=1000000) (disch:=omega) only [↓evp,spw,Nat.reduceEqDiff,↓reduceIte,Nat.reduceLT,Nat.reduceAdd]; exact hK)
    refine Jd.ret ?_
    refine hret _ _ ?_
    refine Thn.r (Done.one rfl rfl ?_)
    exact bad_of hl hil hax hA
   ·have hA:arcB T x.a = false:=by have:=arcB_or2 T x.a; simp only [e1,e2,e3,Bool.true_or,Bool.false_or] at this; simpa using this
    apply Jd.drwS M [] (by kernel_rfl); (· intro K gl hgl hK; simp only [glw] at hgl; subst hgl; simp (maxSteps:=1000000) (disch:=omega) only [↓evp,spw,Nat.reduceEqDiff,↓reduceIte,Nat.reduceLT,Nat.reduceAdd, ac,e1,e2,e3,e4,e5,e6,e7,e8,c1,c2,c3,hs,ho,hc]; exact hK)
    refine Jd.cnd rfl (fun _=>?_) (fun h=>by cases h)
    apply Jd.regS M; (· intro K gl hgl hK; simp only [glw] at hgl; subst hgl; simp (maxSteps:=1000000) (disch:=omega) only [↓evp,spw,Nat.reduceEqDiff,↓reduceIte,Nat.reduceLT,Nat.reduceAdd]; exact hK)
    refine Jd.ret ?_
    refine hret _ _ ?_
    refine Thn.r (Done.one rfl rfl ?_)
    exact bad_of hl hil hax hA
   ·have hA:arcB T x.a = false:=by have:=arcB_or2 T x.a; simp only [e1,e2,e3,e4,Bool.true_or,Bool.false_or] at this; simpa using this
    apply Jd.drwS M [] (by kernel_rfl); (· intro K gl hgl hK; simp only [glw] at hgl; subst hgl; simp (maxSteps:=1000000) (disch:=omega) only [↓evp,spw,Nat.reduceEqDiff,↓reduceIte,Nat.reduceLT,Nat.reduceAdd, ac,e1,e2,e3,e4,e5,e6,e7,e8,c1,c2,c3,hs,ho,hc]; exact hK)
    refine Jd.cnd rfl (fun _=>?_) (fun h=>by cases h)
    apply Jd.regS M; (· intro K gl hgl hK; simp only [glw] at hgl; subst hgl; simp (maxSteps:=1000000) (disch:=omega) only [↓evp,spw,Nat.reduceEqDiff,↓reduceIte,Nat.reduceLT,Nat.reduceAdd]; exact hK)
    refine Jd.ret ?_
    refine hret _ _ ?_
    refine Thn.r (Done.one rfl rfl ?_)
    exact bad_of hl hil hax hA
   ·have hA:arcB T x.a = false:=by have:=arcB_or2 T x.a; simp only [e1,e2,e3,e4,e5,Bool.true_or,Bool.false_or] at this; simpa using this
    apply Jd.drwS M [] (by kernel_rfl); (· intro K gl hgl hK; simp only [glw] at hgl; subst hgl; simp (maxSteps:=1000000) (disch:=omega) only [↓evp,spw,Nat.reduceEqDiff,↓reduceIte,Nat.reduceLT,Nat.reduceAdd, ac,e1,e2,e3,e4,e5,e6,e7,e8,c1,c2,c3,hs,ho,hc]; exact hK)
    refine Jd.cnd rfl (fun _=>?_) (fun h=>by cases h)
    apply Jd.regS M; (· intro K gl hgl hK; simp only [glw] at hgl; subst hgl; simp (maxSteps:=1000000) (disch:=omega) only [↓evp,spw,Nat.reduceEqDiff,↓reduceIte,Nat.reduceLT,Nat.reduceAdd]; exact hK)
    refine Jd.ret ?_
    refine hret _ _ ?_
    refine Thn.r (Done.one rfl rfl ?_)
    exact bad_of hl hil hax hA
   ·have hA:arcB T x.a = false:=by have:=arcB_or2 T x.a; simp only [e1,e2,e3,e4,e5,e6,Bool.true_or,Bool.false_or] at this; simpa using this
    apply Jd.drwS M [] (by kernel_rfl); (· intro K gl hgl hK; simp only [glw] at hgl; subst hgl; simp (maxSteps:=1000000) (disch:=omega) only [↓evp,spw,Nat.reduceEqDiff,↓reduceIte,Nat.reduceLT,Nat.reduceAdd, ac,e1,e2,e3,e4,e5,e6,e7,e8,c1,c2,c3,hs,ho,hc]; exact hK)
    refine Jd.cnd rfl (fun _=>?_) (fun h=>by cases h)
    apply Jd.regS M; (· intro K gl hgl hK; simp only [glw] at hgl; subst hgl; simp (maxSteps:=1000000) (disch:=omega) only [↓evp,spw,Nat.reduceEqDiff,↓reduceIte,Nat.reduceLT,Nat.reduceAdd]; exact hK)
    refine Jd.ret ?_
    refine hret _ _ ?_
    refine Thn.r (Done.one rfl rfl ?_)
    exact bad_of hl hil hax hA
   ·have hA:arcB T x.a = false:=by have:=arcB_or2 T x.a; simp only [e1,e2,e3,e4,e5,e6,e7,Bool.true_or,Bool.false_or] at this; simpa using this
    apply Jd.drwS M [] (by kernel_rfl); (· intro K gl hgl hK; simp only [glw] at hgl; subst hgl; simp (maxSteps:=1000000) (disch:=omega) only [↓evp,spw,Nat.reduceEqDiff,↓reduceIte,Nat.reduceLT,Nat.reduceAdd, ac,e1,e2,e3,e4,e5,e6,e7,e8,c1,c2,c3,hs,ho,hc]; exact hK)
    refine Jd.cnd rfl (fun _=>?_) (fun h=>by cases h)
    apply Jd.regS M; (· intro K gl hgl hK; simp only [glw] at hgl; subst hgl; simp (maxSteps:=1000000) (disch:=omega) only [↓evp,spw,Nat.reduceEqDiff,↓reduceIte,Nat.reduceLT,Nat.reduceAdd]; exact hK)
    refine Jd.ret ?_
    refine hret _ _ ?_
    refine Thn.r (Done.one rfl rfl ?_)
    exact bad_of hl hil hax hA
   ·have hA:arcB T x.a = false:=by have:=arcB_or2 T x.a; simp only [e1,e2,e3,e4,e5,e6,e7,e8,Bool.true_or,Bool.false_or] at this; simpa using this
    apply Jd.drwS M [] (by kernel_rfl); (· intro K gl hgl hK; simp only [glw] at hgl; subst hgl; simp (maxSteps:=1000000) (disch:=omega) only [↓evp,spw,Nat.reduceEqDiff,↓reduceIte,Nat.reduceLT,Nat.reduceAdd, ac,e1,e2,e3,e4,e5,e6,e7,e8,c1,c2,c3,hs,ho,hc]; exact hK)
    refine Jd.cnd rfl (fun _=>?_) (fun h=>by cases h)
    apply Jd.regS M; (· intro K gl hgl hK; simp only [glw] at hgl; subst hgl; simp (maxSteps:=1000000) (disch:=omega) only [↓evp,spw,Nat.reduceEqDiff,↓reduceIte,Nat.reduceLT,Nat.reduceAdd]; exact hK)
    refine Jd.ret ?_
    refine hret _ _ ?_
    refine Thn.r (Done.one rfl rfl ?_)
    exact bad_of hl hil hax hA
   have hA:arcB T x.a = true:=by have:=arcB_or2 T x.a; simp only [e1,e2,e3,e4,e5,e6,e7,e8,Bool.false_or] at this; simpa using this
   apply Jd.drwS M [] (by kernel_rfl); (· intro K gl hgl hK; simp only [glw] at hgl; subst hgl; simp (maxSteps:=1000000) (disch:=omega) only [↓evp,spw,Nat.reduceEqDiff,↓reduceIte,Nat.reduceLT,Nat.reduceAdd, ac,e1,e2,e3,e4,e5,e6,e7,e8,c1,c2,c3,hs,ho,hc]; exact hK)
   refine Jd.cnd rfl (fun h=>by cases h) (fun _=>?_)
   refine Jd.skipT ?_
   obtain ⟨b9,e9⟩:∃ b,decide ((i:Int) > 0) = b:=⟨_,rfl⟩
   cases b9 with
   | false =>
    apply Jd.drwS M [] (by kernel_rfl); (· intro K gl hgl hK; simp only [glw] at hgl; subst hgl; simp (maxSteps:=1000000) (disch:=omega) only [↓evp,spw,Nat.reduceEqDiff,↓reduceIte,Nat.reduceLT,Nat.reduceAdd, ac,e9]; exact hK)
    refine Jd.cnd rfl (fun h=>by cases h) (fun _=>?_)
    refine Jd.skip ?_
    show Jb _ _ _ _ _ _
    have i0:i = 0:=by simp at e9; omega
    apply Jd.regQ M; (· intro K gl hgl hK; simp only [glw] at hgl; subst hgl; simp (maxSteps:=1000000) (disch:=omega) only [↓evp,spw,Nat.reduceEqDiff,↓reduceIte,Nat.reduceLT,Nat.reduceAdd]; exact hK)
    refine hgo _ _ ⟨k - 1,_,_,by omega,(To.ofL (nx2:=1) [0] [(20,.i .i64 ((i + 1:Nat):Int)),(19,.i .i64 l.length),(18,.vw (ar l) l.length),(2,.i .i64 0),(1,.ptr 0 0)] [(0,some (.cells [.i .i64 T,.vw (ar l) l.length] 24 false))] rfl (by decide) (by first | exact no_base | exact base_one) (by repeat' first | exact trivial | refine ⟨⟨_,rfl,by first | exact Wk.refl _ _ | exact Wk.bare rfl | exact Wk.zero _ | exact Wk.none _⟩,?_⟩) (by repeat' first | exact trivial | refine ⟨⟨Nat.le_of_ble_eq_true rfl,_,_,rfl,rfl,by first | exact WkO.same rfl | exact WkO.same (fr_bare _) | exact WkO.same (bs_bare _) | exact WkO.same (is_bare _) | exact WkO.cells rfl⟩,?_⟩)),i + 1,by omega,fun j hj=>?_,rfl,rfl⟩
    rcases Nat.lt_succ_iff_lt_or_eq.1 hj with h | rfl
    ·exact hf j h
    unfold fineA
    rw [hax,hA,show rankB (arcsL l) j = true from by unfold rankB; simp [i0]]
    rfl
   | true =>
    have hi0:0 < i:=by simp at e9; omega
    obtain ⟨y,hy⟩:∃ y,l[i - 1]? = some y:=⟨_,List.getElem?_eq_getElem (by omega)⟩
    have oky:=ok y (List.mem_of_getElem? hy)
    have hay:=arcsL_at hy
    have hb:=pureA_eq (orderV_eq oky okx)
    have hm:((i:Int) - 1).toNat = i - 1:=by omega
    obtain ⟨b10,e10⟩:∃ b,decide (ordA y.a x.a ≥ 0) = b:=⟨_,rfl⟩
    have hr:rankB (arcsL l) i = !b10:=by
     unfold rankB
     rw [hay,hax,<- e10,show decide (i = 0) = false from by simp; omega]
     rw [Bool.false_or,<- decide_not]
     congr 1
     rw [Int.not_le]
    cases b10 with
    | true =>
     apply Jd.drwS M [] (by kernel_rfl); (· intro K gl hgl hK; simp only [glw] at hgl; subst hgl; simp (maxSteps:=1000000) (disch:=omega) only [↓evp,spw,Nat.reduceEqDiff,↓reduceIte,Nat.reduceLT,Nat.reduceAdd, ac,e9,e10,c4,hb,hm,ar_get hy]; exact hK)
     refine Jd.cnd rfl (fun _=>?_) (fun h=>by cases h)
     apply Jd.regS M; (· intro K gl hgl hK; simp only [glw] at hgl; subst hgl; simp (maxSteps:=1000000) (disch:=omega) only [↓evp,spw,Nat.reduceEqDiff,↓reduceIte,Nat.reduceLT,Nat.reduceAdd]; exact hK)
     refine Jd.ret ?_
     refine hret _ _ ?_
     refine Thn.r (Done.one rfl rfl ?_)
     rw [latE_bad (by simpa [arcsL] using hl) (i:=i) (by simpa [arcsL] using hil) (by unfold fineA; rw [hr]; simp)]
    | false =>
     apply Jd.drwS M [] (by kernel_rfl); (· intro K gl hgl hK; simp only [glw] at hgl; subst hgl; simp (maxSteps:=1000000) (disch:=omega) only [↓evp,spw,Nat.reduceEqDiff,↓reduceIte,Nat.reduceLT,Nat.reduceAdd, ac,e9,e10,c4,hb,hm,ar_get hy]; exact hK)
     refine Jd.cnd rfl (fun h=>by cases h) (fun _=>?_)
     refine Jd.skip ?_
     show Jb _ _ _ _ _ _
     apply Jd.regQ M; (· intro K gl hgl hK; simp only [glw] at hgl; subst hgl; simp (maxSteps:=1000000) (disch:=omega) only [↓evp,spw,Nat.reduceEqDiff,↓reduceIte,Nat.reduceLT,Nat.reduceAdd]; exact hK)
     refine hgo _ _ ⟨k - 1,_,_,by omega,(To.ofL (nx2:=1) [0] [(20,.i .i64 ((i + 1:Nat):Int)),(19,.i .i64 l.length),(18,.vw (ar l) l.length),(2,.i .i64 0),(1,.ptr 0 0)] [(0,some (.cells [.i .i64 T,.vw (ar l) l.length] 24 false))] rfl (by decide) (by first | exact no_base | exact base_one) (by repeat' first | exact trivial | refine ⟨⟨_,rfl,by first | exact Wk.refl _ _ | exact Wk.bare rfl | exact Wk.zero _ | exact Wk.none _⟩,?_⟩) (by repeat' first | exact trivial | refine ⟨⟨Nat.le_of_ble_eq_true rfl,_,_,rfl,rfl,by first | exact WkO.same rfl | exact WkO.same (fr_bare _) | exact WkO.same (bs_bare _) | exact WkO.same (is_bare _) | exact WkO.cells rfl⟩,?_⟩)),i + 1,by omega,fun j hj=>?_,rfl,rfl⟩
     rcases Nat.lt_succ_iff_lt_or_eq.1 hj with h | rfl
     ·exact hf j h
     unfold fineA
     rw [hax,hA,hr]
     rfl
 cases h
theorem partsV_small {x:AV} {b:Bool} {n d:Nat} (h:partsV x = some (b,n,d)):smallP n d = true:=by
 unfold partsV at h
 split at h
 ·split at h
  ·obtain ⟨h1,h⟩:=cond_some h
   cases h
   exact h1
  cases h
 cases h
theorem ratV_qz {x:AV} {q:Rat} (h:ratV x = some q):qz q <= lim:=by
 unfold ratV at h
 rw [Option.map_eq_some_iff] at h
 obtain ⟨⟨b,n,d⟩,h1,rfl⟩:=h
 have h3:=Nat.le_of_ble_eq_true (partsV_small h1)
 obtain ⟨k,hk⟩:∃ k,max (Nat.log2 n) (Nat.log2 d) + 1 = k:=⟨_,rfl⟩
 rw [hk] at h3
 refine Nat.le_trans (qz_le (k:=k) ?_) h3
 show QB k (fracVal b n d)
 unfold fracVal
 have:=Nat.one_lt_two_pow (n:=k) (by omega)
 have g1:n < 2 ^ k:=pow_big (by omega)
 have g2:d < 2 ^ k:=pow_big (by omega)
 exact QB.red g1 (by split <;> omega) (by split <;> omega)
def cn (x:AArc):AArc:=⟨x.a,isNeg x.a.q,.num x.a.q.num.natAbs,.num (denQ x.a.q)⟩
theorem cn_ok {x:AArc} (h:x.Ok):(cn x).Ok:=⟨ratV_fq (ratV_qz h.1),rfl,rfl,rfl,rfl⟩
theorem cn_put (x:AArc):putR (aC x) 4 (fcells x.a.q) = aC (cn x):=rfl
def copiedV:List AV->Option AV
 | [x]=>(arcV x).map fun a=>.agg (aC (cn a))
 | _=>none
theorem copiedV_eq {x:AArc} (h:x.Ok):copiedV [.agg (aC x)] = some (.agg (aC (cn x))):=by simp only [copiedV,arcV_aC h,Option.map_some]
theorem ansCopied:Answers Tryz.prog 109 (pureA copiedV):=by
 obtain ⟨E,M,c1⟩:∃ E,Mc Tryz.prog (envOf [(103,pureA (canonV id))]) E/\(∀ a s,E.call 103 a s = pureA (canonV id) a s) :=
  ⟨_,mc_of laidL mixedL (by intro p hp; rcases List.mem_cons.1 hp with rfl | hp; exact ansCanon; cases hp),fun _ _=>rfl⟩
 refine answers_pure (by kernel_rfl) Tryz.func109 Tryz.ntmps109 rfl ?_
 intro args v h
 unfold copiedV at h
 split at h
 ·next x =>
  rw [Option.map_eq_some_iff] at h
  obtain ⟨a,ha,rfl⟩:=h
  obtain ⟨rfl,ok⟩:=arcV_some ha
  have okc:=cn_ok ok
  refine ⟨by simp only [bares,bare,ok.bare]; rfl,okc.bare,Nat.le_of_ble_eq_true rfl,?_⟩
  clear ha
  have f1:=ok.flat
  have f2:=okc.flat
  have hc:=pureA_eq (canonV_eq id ok.1)
  simp only [id] at hc
  rw [ofList1,St.of_nil]
  apply Jd.regS M; (· intro K gl hgl hK; simp only [glw] at hgl; subst hgl; simp (maxSteps:=1000000) (disch:=omega) only [↓evp,spw,Nat.reduceEqDiff,↓reduceIte,Nat.reduceLT,Nat.reduceAdd,f1]; exact hK)
  apply Jd.regS M; (· intro K gl hgl hK; simp only [glw] at hgl; subst hgl; simp (maxSteps:=1000000) (disch:=omega) only [↓evp,spw,Nat.reduceEqDiff,↓reduceIte,Nat.reduceLT,Nat.reduceAdd,ac,c1,hc,cn_put,id]; exact hK)
  apply Jd.regS M; (· intro K gl hgl hK; simp only [glw] at hgl; subst hgl; simp (maxSteps:=1000000) (disch:=omega) only [↓evp,spw,Nat.reduceEqDiff,↓reduceIte,Nat.reduceLT,Nat.reduceAdd,ac,aC_len,f2,aC_get,show putR [AV.i .i64 0,.i .i64 0,.i .i64 0,.i .i64 0,.b false,.snil,.snil] 0 (aC (cn a)) = aC (cn a) from rfl]; exact hK)
  refine Jd.ret (Done.c1 rfl rfl (by simp only [↓evp,spw,Nat.reduceEqDiff,↓reduceIte,Nat.reduceLT,Nat.reduceAdd,tys,ac] <;> rfl) rfl)
 cases h
def z0:AV:=.agg [.b false,.snil,.snil]
def countGV:List AV->Option AV
 | [x]=>(latV x).map fun p=>.tup [cond (decide (latE p.1 (arcsL p.2) = 0)) (fq (reachQ p.1.toNat (arcsL p.2))) z0,.i .i64 (latE p.1 (arcsL p.2))]
 | _=>none
theorem ansCount:Answers Tryz.prog 53 (pureA countGV):=by
 obtain ⟨E,M,c1,c2,c3⟩:∃ E,Mc Tryz.prog (envOf [(92,pureA ofV),(86,pureA (bin2V (· + ·))),(43,pureA checkV)]) E/\(∀ a s,E.call 92 a s = pureA ofV a s)/\(∀ a s,E.call 86 a s = pureA (bin2V (· + ·)) a s)/\(∀ a s,E.call 43 a s = pureA checkV a s) :=
  ⟨_,mc_of laidL mixedL (by simp only [List.forall_mem_cons]; exact ⟨ansOf,ansAdd,ansCheck,fun p hp=>by cases hp⟩),fun _ _=>rfl,fun _ _=>rfl,fun _ _=>rfl⟩
 refine answers_pure (by kernel_rfl) Tryz.func53 Tryz.ntmps53 rfl ?_
 intro args v h
 unfold countGV at h
 split at h
 ·next x =>
  rw [Option.map_eq_some_iff] at h
  obtain ⟨⟨T,l⟩,hx,rfl⟩:=h
  obtain ⟨hx,hb,ok⟩:=latV_some hx
  dsimp only
  refine ⟨by simp only [bares,hb]; rfl,by cases decide (latE T (arcsL l) = 0) <;> rfl,Nat.le_of_ble_eq_true rfl,?_⟩
  rw [ofList1,St.of_nil]
  refine Jd.toL [] [(0,latA T l)] [] rfl .nil ⟨⟨_,rfl,Wk.lat _ T hx⟩,trivial⟩ trivial ?_
  clear hx hb
  have hck:∀ s,pureA checkV [.agg [.i .i64 T,.vw (ar l) l.length]] s = some (.i .i64 (latE T (arcsL l)),s):=pureA_eq (by show (latV (latA T l)).map _ = _; rw [latV_A ok]; rfl)
  unfold latA
  apply Jd.regS M; (· intro K gl hgl hK; simp only [glw] at hgl; subst hgl; simp (maxSteps:=1000000) (disch:=omega) only [↓evp,spw,Nat.reduceEqDiff,↓reduceIte,Nat.reduceLT,Nat.reduceAdd]; exact hK)
  refine Jd.seq ?_
  obtain ⟨e,he⟩:∃ e,latE T (arcsL l) = e:=⟨_,rfl⟩
  simp only [he] at hck ⊢
  apply Jd.regS M; (· intro K gl hgl hK; simp only [glw] at hgl; subst hgl; simp (maxSteps:=1000000) (disch:=omega) only [↓evp,spw,Nat.reduceEqDiff,↓reduceIte,Nat.reduceLT,Nat.reduceAdd,c3,hck]; exact hK)
  obtain ⟨b,hb⟩:∃ b,decide (e = 0) = b:=⟨_,rfl⟩
  cases b with
  | false =>
   apply Jd.regS M; (· intro K gl hgl hK; simp only [glw] at hgl; subst hgl; simp (maxSteps:=1000000) (disch:=omega) only [↓evp,spw,Nat.reduceEqDiff,↓reduceIte,Nat.reduceLT,Nat.reduceAdd,hb]; exact hK)
   refine Jd.cnd rfl (fun _=>?_) (fun h=>by cases h)
   apply Jd.regS M; (· intro K gl hgl hK; simp only [glw] at hgl; subst hgl; simp (maxSteps:=1000000) (disch:=omega) only [↓evp,spw,Nat.reduceEqDiff,↓reduceIte,Nat.reduceLT,Nat.reduceAdd]; exact hK)
   refine Jd.retT (Done.c2 rfl rfl (by simp only [↓evp,spw,Nat.reduceEqDiff,↓reduceIte,Nat.reduceLT,Nat.reduceAdd,tys] <;> rfl) rfl ?_)
   rw [hb]
   rfl
  | true =>
  apply Jd.regS M; (· intro K gl hgl hK; simp only [glw] at hgl; subst hgl; simp (maxSteps:=1000000) (disch:=omega) only [↓evp,spw,Nat.reduceEqDiff,↓reduceIte,Nat.reduceLT,Nat.reduceAdd,hb]; exact hK)
  refine Jd.cnd rfl (fun h=>by cases h) (fun _=>?_)
  refine Jd.skipT ?_
  have e0:e = 0:=of_decide_eq_true hb
  subst e0
  rw [hb]
  have hv:=he
  clear he hck
  obtain ⟨hl,h0,h1,_⟩:=latE_ok hv
  rw [arcsL_len] at hl
  obtain ⟨n,rfl⟩:∃ n:Nat,T = n:=⟨T.toNat,by omega⟩
  rw [Int.toNat_natCast]
  have ho:=pureA_eq (ofV_eq (z:=1) (by omega) (by omega))
  apply Jd.regS M; (· intro K gl hgl hK; simp only [glw] at hgl; subst hgl; simp (maxSteps:=1000000) (disch:=omega) only [↓evp,spw,Nat.reduceEqDiff,↓reduceIte,Nat.reduceLT,Nat.reduceAdd,show ((n:Int) + 1).toNat = n + 1 by omega]; exact hK)
  have hz:(fr (List.replicate (n + 1) 0)).length = (n + 1) * 3:=by simp [fr_len]
  refine Jb.toL (nx2:=3) [0,1,2] [(5,.sl 2 0 (n + 1) (n + 1)),(3,.i .i64 0),(2,.ptr 1 0),(1,.ptr 0 0)] [(2,some (.cells (fr (List.replicate (n + 1) 0)) 31 false)),(1,some (.cells [.b false,.snil,.snil] 31 false)),(0,some (.cells [.i .i64 n,.vw (ar l) l.length] 24 false))] rfl (by decide) (by first | exact no_base | exact base_one) (by repeat' first | exact trivial | refine ⟨⟨_,rfl,by first | exact WkO.zfr _ _ _ | exact Wk.refl _ _ | exact Wk.bare rfl | exact Wk.zero _ | exact Wk.none _⟩,?_⟩) (by repeat' first | exact trivial | refine ⟨⟨Nat.le_of_ble_eq_true rfl,_,_,rfl,rfl,by first | exact WkO.zfr _ _ _ | exact WkO.same rfl | exact WkO.same (fr_bare _) | exact WkO.same (bs_bare _) | exact WkO.same (is_bare _) | exact WkO.cells rfl⟩,?_⟩) ?_
  have hp:putR (fr (List.replicate (n + 1) 0)) 0 (fcells ((1:Int):Rat)) = fr (reachL n (arcsL (l.take 0))):=fr_put (qs:=List.replicate (n + 1) 0) (i:=0) (by simp) _
  apply Jd.regS M; (· intro K gl hgl hK; simp only [glw] at hgl; subst hgl; simp (maxSteps:=1000000) (disch:=omega) only [↓evp,spw,Nat.reduceEqDiff,↓reduceIte,Nat.reduceLT,Nat.reduceAdd,c1,ho,hp,Int.toNat_zero,Nat.zero_mul,List.length_replicate]; exact hK)
  refine Jd.seq ?_
  apply Jd.regS M; (· intro K gl hgl hK; simp only [glw] at hgl; subst hgl; simp (maxSteps:=1000000) (disch:=omega) only [↓evp,spw,Nat.reduceEqDiff,↓reduceIte,Nat.reduceLT,Nat.reduceAdd]; exact hK)
  refine Jd.loopB (fun k g s=>∃ i:Nat,i + k = l.length/\g = ⟨53,49,Tr.of [(24,.i .i64 (i:Int)),(23,.i .i64 l.length),(22,.vw (ar l) l.length),(5,.sl 2 0 (n + 1) (n + 1)),(3,.i .i64 0),(2,.ptr 1 0),(1,.ptr 0 0)],none,[]⟩/\s = St.of [(2,some (.cells (fr (reachL n (arcsL (l.take i)))) 31 false)),(1,some (.cells [.b false,.snil,.snil] 31 false)),(0,some (.cells [.i .i64 n,.vw (ar l) l.length] 24 false))] 3) l.length ?_ ?_
  ·exact ⟨_,_,(To.ofL (nx2:=3) [0,1,2] [(24,.i .i64 ((0:Nat):Int)),(23,.i .i64 l.length),(22,.vw (ar l) l.length),(5,.sl 2 0 (n + 1) (n + 1)),(3,.i .i64 0),(2,.ptr 1 0),(1,.ptr 0 0)] [(2,some (.cells (fr (reachL n (arcsL (l.take 0)))) 31 false)),(1,some (.cells [.b false,.snil,.snil] 31 false)),(0,some (.cells [.i .i64 n,.vw (ar l) l.length] 24 false))] rfl (by decide) (by first | exact no_base | exact base_one) (by repeat' first | exact trivial | refine ⟨⟨_,rfl,by first | exact Wk.refl _ _ | exact Wk.bare rfl | exact Wk.zero _ | exact Wk.none _⟩,?_⟩) (by repeat' first | exact trivial | refine ⟨⟨Nat.le_of_ble_eq_true rfl,_,_,rfl,rfl,by first | exact WkO.same rfl | exact WkO.same (fr_bare _) | exact WkO.same (bs_bare _) | exact WkO.same (is_bare _) | exact WkO.cells rfl⟩,?_⟩)),0,by omega,rfl,rfl⟩
  rintro k _ _ ⟨i,hi,rfl,rfl⟩ Q' hex hret hgo
  apply Jd.regS M; (· intro K gl hgl hK; simp only [glw] at hgl; subst hgl; simp (maxSteps:=1000000) (disch:=omega) only [↓evp,spw,Nat.reduceEqDiff,↓reduceIte,Nat.reduceLT,Nat.reduceAdd]; exact hK)
  refine Jd.seq ?_
  refine Jd.cnd rfl (fun h1=>?_) (fun h1=>?_)
  rotate_left
  ·refine Jd.exitT (hex _ _ ?_)
   show Jb _ _ _ _ _ _
   have hn:i = l.length:=by simp at h1; omega
   subst hn
   obtain ⟨q,g1,_⟩:=reach_get n (arcsL l) (i:=n) (by omega)
   have hlen:(reachL n (arcsL l)).length = n + 1:=reachL_length _ _
   have hfl:(fr (reachL n (arcsL l))).length = (n + 1) * 3:=by rw [fr_len,hlen]
   apply Jd.regS M; (· intro K gl hgl hK; simp only [glw] at hgl; subst hgl; simp (maxSteps:=1000000) (disch:=omega) only [↓evp,spw,Nat.reduceEqDiff,↓reduceIte,Nat.reduceLT,Nat.reduceAdd,arcsL_all,Int.toNat_natCast,fr_get g1]; exact hK)
   refine Jd.ret (Done.c2 rfl rfl (by simp only [↓evp,spw,Nat.reduceEqDiff,↓reduceIte,Nat.reduceLT,Nat.reduceAdd] <;> rfl) rfl ?_)
   unfold reachQ
   rw [getD_get g1]
   rfl
  refine Jd.skipT ?_
  refine Jd.seq (Jd.block ?_)
  have hil:i < l.length:=by simp at h1; omega
  obtain ⟨x,hx⟩:∃ x,l[i]? = some x:=⟨_,List.getElem?_eq_getElem hil⟩
  have okx:=ok x (List.mem_of_getElem? hx)
  have hfa:=fine_arc hv hx
  have hsn:=arcsL_snoc hx
  obtain ⟨L,hL⟩:∃ L,reachL n (arcsL (l.take i)) = L:=⟨_,rfl⟩
  have hlen:L.length = n + 1:=by rw [<- hL]; exact reachL_length _ _
  have hfl:(fr L).length = (n + 1) * 3:=by rw [fr_len,hlen]
  have hti:(arcsL (l.take i)).length <= 20000:=by rw [arcsL_len,List.length_take]; omega
  obtain ⟨qt,gt,bt⟩:=reach_get n (arcsL (l.take i)) (i:=x.a.t.toNat) (by omega)
  obtain ⟨qf,gf,bf⟩:=reach_get n (arcsL (l.take i)) (i:=x.a.f.toNat) (by omega)
  have hadd:=pureA_eq (addV_fq (· + ·) (reach_qz hti bt) (reach_qz hti bf))
  have hstep:L.set x.a.t.toNat (qt + qf) = reachL n (arcsL (l.take (i + 1))):=by
   rw [hsn,reachL_snoc,hL]
   unfold reachS
   rw [hL] at gt gf
   rw [getD_get gt,getD_get gf]
  rw [hL] at gt gf
  simp only [hL]
  apply Jd.regS M; (· intro K gl hgl hK; simp only [glw] at hgl; subst hgl; simp (maxSteps:=1000000) (disch:=omega) only [↓evp,spw,Nat.reduceEqDiff,↓reduceIte,Nat.reduceLT,Nat.reduceAdd,Int.toNat_natCast,ar_get hx,ac,okx.flat]; exact hK)
  apply Jd.drwQ M [(15,7),(15,12)] (by kernel_rfl); (· intro K gl hgl hK; simp only [glw] at hgl; subst hgl; simp (maxSteps:=1000000) (disch:=omega) only [↓evp,spw,Nat.reduceEqDiff,↓reduceIte,Nat.reduceLT,Nat.reduceAdd, ac,c2,hadd,Int.toNat_natCast,fr_get gt,fr_get gf,hstep]; exact hK)
  refine Blk_.norm ?_
  show Jb _ _ _ _ _ _
  apply Jd.regQ M; (· intro K gl hgl hK; simp only [glw] at hgl; subst hgl; simp (maxSteps:=1000000) (disch:=omega) only [↓evp,spw,Nat.reduceEqDiff,↓reduceIte,Nat.reduceLT,Nat.reduceAdd]; exact hK)
  exact hgo _ _ ⟨k - 1,_,_,by omega,(To.ofL (nx2:=3) [0,1,2] [(24,.i .i64 ((i + 1:Nat):Int)),(23,.i .i64 l.length),(22,.vw (ar l) l.length),(5,.sl 2 0 (n + 1) (n + 1)),(3,.i .i64 0),(2,.ptr 1 0),(1,.ptr 0 0)] [(2,some (.cells (fr (reachL n (arcsL (l.take (i + 1))))) 31 false)),(1,some (.cells [.b false,.snil,.snil] 31 false)),(0,some (.cells [.i .i64 n,.vw (ar l) l.length] 24 false))] rfl (by decide) (by first | exact no_base | exact base_one) (by repeat' first | exact trivial | refine ⟨⟨_,rfl,by first | exact Wk.refl _ _ | exact Wk.bare rfl | exact Wk.zero _ | exact Wk.none _⟩,?_⟩) (by repeat' first | exact trivial | refine ⟨⟨Nat.le_of_ble_eq_true rfl,_,_,rfl,rfl,by first | exact WkO.same rfl | exact WkO.same (fr_bare _) | exact WkO.same (bs_bare _) | exact WkO.same (is_bare _) | exact WkO.cells rfl⟩,?_⟩)),i + 1,by omega,rfl,rfl⟩
 cases h
def sameB (a b:LArc):Bool:=decide (a.f = b.f) && (decide (a.t = b.t) && (decide (a.w = b.w) && (decide (a.v = b.v) && decide (a.q = b.q))))
def eqArcs:List AArc->List AArc->Bool
 | [],[]=>true
 | a :: l,b :: m=>sameB a.a b.a && eqArcs l m
 | _,_=>false
theorem eqArcs_of:∀ {l m:List AArc},arcsL l = arcsL m->eqArcs l m = true
 | [],[],_=>rfl
 | [],_ :: _,h=>by simp [arcsL] at h
 | _ :: _,[],h=>by simp [arcsL] at h
 | a :: l,b :: m,h=>by
  simp only [arcsL,List.map_cons,List.cons.injEq] at h
  simp only [eqArcs,sameB,h.1,decide_true,Bool.true_and]
  exact eqArcs_of h.2
theorem eqArcs_len:∀ {l m:List AArc},eqArcs l m = true->l.length = m.length
 | [],[],_=>rfl
 | [],_ :: _,h=>by simp [eqArcs] at h
 | _ :: _,[],h=>by simp [eqArcs] at h
 | a :: l,b :: m,h=>by
  simp only [eqArcs,Bool.and_eq_true] at h
  simp [eqArcs_len h.2]
theorem eqArcs_at:∀ {l m:List AArc},eqArcs l m = true->∀ {i:Nat} {x y:AArc},l[i]? = some x->m[i]? = some y->sameB x.a y.a = true
 | [],[],_,i,x,y,h,_=>by simp at h
 | [],_ :: _,h,_,_,_,_,_=>by simp [eqArcs] at h
 | _ :: _,[],h,_,_,_,_,_=>by simp [eqArcs] at h
 | a :: l,b :: m,h,i,x,y,h1,h2=>by
  simp only [eqArcs,Bool.and_eq_true] at h
  cases i with
  | zero=>simp at h1 h2; subst h1; subst h2; exact h.1
  | succ i=>exact eqArcs_at h.2 (by simpa using h1) (by simpa using h2)
def latSameV:List AV->Option AV
 | [x,y]=>match latV x,latV y with
  | some p,some q=>cond (decide (p.1 = q.1) && eqArcs p.2 q.2 && Nat.ble p.2.length 20000) (some (.b true)) none
  | _,_=>none
 | _=>none
theorem latSameV_eq {T:Int} {l m:List AArc} (hl:∀ x ∈ l,x.Ok)(hm:∀ x ∈ m,x.Ok)(h:arcsL l = arcsL m)(hn:l.length <= 20000):latSameV [latA T l,latA T m] = some (.b true):=by
 simp only [latSameV,latV_A hl,latV_A hm,eqArcs_of h,decide_true,Bool.true_and,ble_true hn,cond_true]
theorem ansLatSame:Answers Tryz.prog 41 (pureA latSameV):=by
 obtain ⟨E,M,c1⟩:∃ E,Mc Tryz.prog (envOf [(40,pureA cmpV)]) E/\(∀ a s,E.call 40 a s = pureA cmpV a s) :=
  ⟨_,mc_of laidL mixedL (by intro p hp; rcases List.mem_cons.1 hp with rfl | hp; exact ansCmpR; cases hp),fun _ _=>rfl⟩
 refine answers_pure (by kernel_rfl) Tryz.func41 Tryz.ntmps41 rfl ?_
 intro args v h
 unfold latSameV at h
 split at h
 ·next x0 y0 =>
  split at h
  ·next p q hp hq =>
   obtain ⟨T,l⟩:=p
   obtain ⟨T',m⟩:=q
   obtain ⟨hb,h⟩:=cond_some h
   cases h
   simp only [Bool.and_eq_true,decide_eq_true_eq] at hb
   obtain ⟨⟨rfl,heq⟩,hn⟩:=hb
   have hn:=Nat.le_of_ble_eq_true hn
   obtain ⟨hx,hbx,okl⟩:=latV_some hp
   obtain ⟨hy,hby,okm⟩:=latV_some hq
   refine ⟨by simp only [bares,hbx,hby]; rfl,rfl,Nat.le_of_ble_eq_true rfl,?_⟩
   rw [ofList2,St.of_nil]
   refine Jd.toL [] [(1,latA T m),(0,latA T l)] [] rfl .nil ⟨⟨_,rfl,Wk.lat _ T hy⟩,⟨_,rfl,Wk.lat _ T hx⟩,trivial⟩ trivial ?_
   clear hx hy hbx hby hp hq
   unfold latA
   have hlen:=eqArcs_len heq
   have hlen':(l.length:Int) = m.length:=by rw [hlen]
   apply Jd.regS M; (· intro K gl hgl hK; simp only [glw] at hgl; subst hgl; simp (maxSteps:=1000000) (disch:=omega) only [↓evp,spw,Nat.reduceEqDiff,↓reduceIte,Nat.reduceLT,Nat.reduceAdd]; exact hK)
   refine Jd.seq ?_
   apply Jd.regS M; (· intro K gl hgl hK; simp only [glw] at hgl; subst hgl; simp (maxSteps:=1000000) (disch:=omega) only [↓evp,spw,Nat.reduceEqDiff,↓reduceIte,Nat.reduceLT,Nat.reduceAdd,decide_true,hlen']; exact hK)
   refine Jd.cnd rfl (fun h=>by cases h) (fun _=>?_)
   refine Jd.skipT ?_
   refine Jd.seq ?_
   apply Jd.regS M; (· intro K gl hgl hK; simp only [glw] at hgl; subst hgl; simp (maxSteps:=1000000) (disch:=omega) only [↓evp,spw,Nat.reduceEqDiff,↓reduceIte,Nat.reduceLT,Nat.reduceAdd]; exact hK)
   refine Jd.loopB (fun k g s=>∃ i:Nat,i + k = l.length/\g = ⟨41,73,Tr.of [(5,.i .i64 (i:Int)),(4,.b false),(3,.ptr 1 0),(2,.ptr 0 0)],none,[]⟩/\s = St.of [(1,some (.cells [.i .i64 T,.vw (ar m) m.length] 24 false)),(0,some (.cells [.i .i64 T,.vw (ar l) l.length] 24 false))] 2) l.length ?_ ?_
   ·exact ⟨_,_,(To.ofL (nx2:=2) [0,1] [(5,.i .i64 ((0:Nat):Int)),(4,.b false),(3,.ptr 1 0),(2,.ptr 0 0)] [(1,some (.cells [.i .i64 T,.vw (ar m) m.length] 24 false)),(0,some (.cells [.i .i64 T,.vw (ar l) l.length] 24 false))] rfl (by decide) (by first | exact no_base | exact base_one) (by repeat' first | exact trivial | refine ⟨⟨_,rfl,by first | exact Wk.refl _ _ | exact Wk.bare rfl | exact Wk.zero _ | exact Wk.none _⟩,?_⟩) (by repeat' first | exact trivial | refine ⟨⟨Nat.le_of_ble_eq_true rfl,_,_,rfl,rfl,by first | exact WkO.same rfl | exact WkO.same (fr_bare _) | exact WkO.same (bs_bare _) | exact WkO.same (is_bare _) | exact WkO.cells rfl⟩,?_⟩)),0,by omega,rfl,rfl⟩
   rintro k _ _ ⟨i,hi,rfl,rfl⟩ Q' hex hret hgo
   refine Jd.seq ?_
   apply Jd.regS M; (· intro K gl hgl hK; simp only [glw] at hgl; subst hgl; simp (maxSteps:=1000000) (disch:=omega) only [↓evp,spw,Nat.reduceEqDiff,↓reduceIte,Nat.reduceLT,Nat.reduceAdd]; exact hK)
   refine Jd.cnd rfl (fun h1=>?_) (fun h1=>?_)
   rotate_left
   ·refine Jd.exitT (hex _ _ ?_)
    show Jb _ _ _ _ _ _
    apply Jd.regS M; (· intro K gl hgl hK; simp only [glw] at hgl; subst hgl; simp (maxSteps:=1000000) (disch:=omega) only [↓evp,spw,Nat.reduceEqDiff,↓reduceIte,Nat.reduceLT,Nat.reduceAdd]; exact hK)
    exact Jd.ret (Done.one rfl rfl rfl)
   refine Jd.skipT ?_
   have hil:i < l.length:=by simp at h1; omega
   obtain ⟨x,hx⟩:∃ x,l[i]? = some x:=⟨_,List.getElem?_eq_getElem hil⟩
   obtain ⟨y,hy⟩:∃ y,m[i]? = some y:=⟨_,List.getElem?_eq_getElem (by omega)⟩
   have okx:=okl x (List.mem_of_getElem? hx)
   have oky:=okm y (List.mem_of_getElem? hy)
   have hs:=eqArcs_at heq hx hy
   simp only [sameB,Bool.and_eq_true,decide_eq_true_eq] at hs
   obtain ⟨s1,s2,s3,s4,s5⟩:=hs
   have e5:decide (sgnI (x.a.q - y.a.q) = 0) = true:=by
    rw [s5,Rat.sub_self]
    rfl
   have hc:=pureA_eq (cmpV_eq okx.1 oky.1)
   refine Jd.seq (Jd.block ?_)
   apply Jd.drwS M [] (by kernel_rfl); (· intro K gl hgl hK; simp only [glw] at hgl; subst hgl; simp (maxSteps:=1000000) (disch:=omega) only [↓evp,spw,Nat.reduceEqDiff,↓reduceIte,Nat.reduceLT,Nat.reduceAdd, Int.toNat_natCast,ar_get hx,ar_get hy,ac,okx.flat,oky.flat]; exact hK)
   apply Jd.regS M; (· intro K gl hgl hK; simp only [glw] at hgl; subst hgl; simp (maxSteps:=1000000) (disch:=omega) only [↓evp,spw,Nat.reduceEqDiff,↓reduceIte,Nat.reduceLT,Nat.reduceAdd,ac,c1,hc,s1,s2,s3,s4,e5,decide_true]; exact hK)
   refine Jd.cnd rfl (fun h=>by cases h) (fun _=>?_)
   refine Jd.skip ?_
   refine Blk_.norm ?_
   show Jb _ _ _ _ _ _
   apply Jd.regQ M; (· intro K gl hgl hK; simp only [glw] at hgl; subst hgl; simp (maxSteps:=1000000) (disch:=omega) only [↓evp,spw,Nat.reduceEqDiff,↓reduceIte,Nat.reduceLT,Nat.reduceAdd]; exact hK)
   exact hgo _ _ ⟨k - 1,_,_,by omega,(To.ofL (nx2:=2) [0,1] [(5,.i .i64 ((i + 1:Nat):Int)),(4,.b false),(3,.ptr 1 0),(2,.ptr 0 0)] [(1,some (.cells [.i .i64 T,.vw (ar m) m.length] 24 false)),(0,some (.cells [.i .i64 T,.vw (ar l) l.length] 24 false))] rfl (by decide) (by first | exact no_base | exact base_one) (by repeat' first | exact trivial | refine ⟨⟨_,rfl,by first | exact Wk.refl _ _ | exact Wk.bare rfl | exact Wk.zero _ | exact Wk.none _⟩,?_⟩) (by repeat' first | exact trivial | refine ⟨⟨Nat.le_of_ble_eq_true rfl,_,_,rfl,rfl,by first | exact WkO.same rfl | exact WkO.same (fr_bare _) | exact WkO.same (bs_bare _) | exact WkO.same (is_bare _) | exact WkO.cells rfl⟩,?_⟩)),i + 1,by omega,rfl,rfl⟩
  cases h
 cases h
end Go.Proofs.YtdehimgccmbfkaaGreat
