/- Lemmas. -/
import Derived.Test.YtfoceannfdbinaaGreatRows
import Derived.Test.YtfoceannfdbinaaGreatW52
import Derived.ProofKit
import Derived.OpenShut
import Derived.ChangeOld
import Derived.Below
set_option linter.all false
set_option maxRecDepth 1000000
set_option maxHeartbeats 32000000
/- LatticeWeighs: for every lattice, language and list of arcs the law returns true, and its arguments read as before. No condition. -/
namespace Go.Proofs.YtfoceannfdbinaaGreat
open Go.RowKit
section
open Go.ChangeShapes Go.WideShapes Go.ChangeAt Go.RowKit
theorem rK(os:Os)(started:os.Started)(H:Type)(enc:TypeId×Value->H):
  ReturnsInHanded {} Tryz.checked os 8 .any (Rows.latticeWeighsSpec.pre6 enc Tryz.prog Tryz.f8 Rows.latticeWeighsRow.domain false) (Rows.latticeWeighsSpec.post enc Tryz.prog Tryz.f8 false true false false):=by
 refine returnsInHanded_of_change (C:=Tryz.checked) (by kernel_rfl) started (by kernel_rfl) Tryz.func8 (ChangeSpec.witness6 (enc:=enc) (C:=Tryz.checked) false ⟨#[],#[.agg #[.int .i64 0,.slice none 0 0],.agg #[.int .i64 0,.int .i64 0,.slice none 0 0,.int .i64 0,.bool false,.slice none 0 0,.slice none 0 0,.slice none 0 0],.slice none 0 0],[]⟩ 20 (by kernel_rfl) (by kernel_rfl) (by kernel_rfl) (by kernel_rfl)) ?_;intro W base args ds gs before y hW _ _;have u:∀(j:Nat) t v,Tryz.f8.params[j]?=some t->args[j]?=some v->Value.okWide Tryz.prog W .any base t v:=y;have N:=hW;obtain⟨p,q,B,hV,rfl,av,a0⟩:=hW;have hA:DataW.TrodAll enc Tryz.prog W 0 (fun _=>true) true Tryz.f8.params.toList args.toList ds p:=B;rw[Tryz.params8]at hA u;obtain⟨v0,a1,d0,al,p0,q0,U,rfl,rfl,h0,r0⟩:=trodAll_cons hA;obtain⟨v1,a3,d1,am,p1,q1,rfl,rfl,rfl,h1,r1⟩:=trodAll_cons r0;obtain⟨v2,a4,d2,an,p2,q2,rfl,rfl,rfl,h2,r2⟩:=trodAll_cons r1;obtain⟨rfl,rfl,rfl⟩:=trodAll_nil r2;obtain rfl:args=#[v0,v1,v2]:=by cases args;simp_all
 obtain⟨rfl,rfl⟩:=trodVars_none hV;have k0:=h0;have k1:=h1;have k2:=h2;have Y:∀x∈p0,x.block<W.heap.size:=by obtain⟨m,hm⟩:=k0;exact DataW.trod_lt m _ _ _ hm
 have Z:∀x∈p1,x.block<W.heap.size:=by obtain⟨m,hm⟩:=k1;exact DataW.trod_lt m _ _ _ hm
 have ad:∀x∈p2,x.block<W.heap.size:=by obtain⟨m,hm⟩:=k2;exact DataW.trod_lt m _ _ _ hm
 obtain⟨x0,s0,e0⟩:=Ds (k:=20) Tryz.underlying24 (by kernel_rfl) (u 0 24 v0 rfl rfl) h0;obtain⟨x1,s1,e1⟩:=Ds (k:=20) Tryz.underlying34 (by kernel_rfl) (u 1 34 v1 rfl rfl) h1;obtain⟨a2,J,A,rfl⟩:=okWide_slice Tryz.underlying51 (u 2 51 v2 rfl rfl);obtain⟨x2,s2,e2⟩:=Oo (k:=20) (by kernel_rfl) rfl h2;clear B y;obtain⟨T,l,e4,g1,g2,_⟩:=CT s0;rw[e4]at e0;obtain⟨L,rfl,hL⟩:=AJ s1;obtain⟨p,e3,_⟩:=CU s2;obtain rfl:x2=.vw (is p) p.length:=by simpa using e3
 refine(Te (W:=W) (Mi Ml) (args:=[dk T l,.agg L.cells,bp p]) (vs:=[v0,v1,.slice a2 J A]) (il (fun v' ⟨_,_,_,_,_,_,h⟩=>h) ⟨T,l,L,p,XL g1 g2 hL,rfl,rfl⟩) (ap.cons e0 (ap.cons e1 (ap.cons e2 ap.nil_)))).mono fun e W' ⟨he,bel⟩=>?_;subst he;exact⟨_,rfl,_,_,_,[],_,[],N,trodAll_mk1 (shut_bool Tryz.underlying4 _),(trodAll_cons_mk (Below.trod l0 (by kernel_rfl) (gT (by kernel_rfl)) k0 bel Y) (trodAll_cons_mk (Below.trod l0 (by kernel_rfl) (gT (by kernel_rfl)) k1 bel Z) (trodAll_cons_mk (Below.trod l0 (by kernel_rfl) (gT (by kernel_rfl)) k2 bel ad) trodAll_mk0))),rfl,bel.frame _,fun h=>by cases h⟩
theorem ZG{a b:Bool}(h:a=true)(k:b=true):(a&&b)=true:=by rw[h,k];rfl
theorem pK:joinedFacts Tryz.checked.prog 8 Tryz.f8 Rows.latticeWeighsSpec Rows.latticeWeighsRow=true:=by
 unfold joinedFacts
 with_reducible repeat' refine ZG ?_ ?_
 all_goals first|(with_reducible exact l0)|as_aux_lemma=>kernel_rfl
theorem latticeWeighs_holds:Rows.LatticeWeighsSaid:= OpenClaim.holds_of_wide 8 Tryz.f8 rfl rfl rfl rfl rfl rfl rfl ⟨rfl,rfl,rfl,rfl,rfl⟩ rfl rfl rfl rfl rfl (by kernel_rfl) Tryz.func8 pK
  (gT (by kernel_rfl)) (by unfold Func.isWrapper;first|(rw[oR (by decide +kernel)];kernel_rfl)|(rw[iF (by decide +kernel)];exact⟨rfl,rfl⟩))
  (fun os started H enc _=>rK os started H enc)
end
end Go.Proofs.YtfoceannfdbinaaGreat
