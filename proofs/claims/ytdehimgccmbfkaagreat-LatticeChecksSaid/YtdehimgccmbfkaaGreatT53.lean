/- LatticeChecks: for every lattice the law returns true, and its argument reads as before. No condition. -/
import Derived.Test.YtdehimgccmbfkaaGreatRows
import Derived.Test.YtdehimgccmbfkaaGreatT52
import Derived.ProofKit
import Derived.OpenShut
import Derived.ChangeOld
import Derived.Below
set_option linter.all false
set_option maxRecDepth 1000000
set_option maxHeartbeats 32000000
namespace Go.Proofs.YtdehimgccmbfkaaGreat
open Go.RowKit
section
open Go.ChangeShapes Go.WideShapes Go.ChangeAt Go.RowKit
theorem liftChecks (os:Os) (started:os.Started) (H:Type) (enc:TypeId × Value->H) :
  ReturnsInHanded {} Tryz.checked os 10 .any (Rows.latticeChecksSpec.pre6 enc Tryz.prog Tryz.f10 Rows.latticeChecksRow.domain false) (Rows.latticeChecksSpec.post enc Tryz.prog Tryz.f10 false true false false):=by
 refine returnsInHanded_of_change (C:=Tryz.checked) (by kernel_rfl) started (by kernel_rfl) Tryz.func10
  (ChangeSpec.witness6 (enc:=enc) (C:=Tryz.checked) false ⟨#[],#[.agg #[.int .i64 0,.slice none 0 0]],[]⟩ 8 (by kernel_rfl) (by kernel_rfl) (by kernel_rfl) (by kernel_rfl)) ?_
 intro W base args ds gs before hval0 hW _ _
 have hval:∀ (j:Nat) t v,Tryz.f10.params[j]? = some t->args[j]? = some v->Value.okWide Tryz.prog W .any base t v:=hval0
 have hW':=hW
 obtain ⟨p,q,hA0,hV,rfl,hfz,hnd⟩:=hW
 have hA:DataW.TrodAll enc Tryz.prog W 0 (fun _=>true) true Tryz.f10.params.toList args.toList ds p:=hA0
 rw [Tryz.params10] at hA hval
 obtain ⟨v0,vs0,d0,ds0,p0,q0,hargs,rfl,rfl,h0,r0⟩:=trodAll_cons hA
 obtain ⟨rfl,rfl,rfl⟩:=trodAll_nil r0
 obtain rfl:args = #[v0]:=by cases args; simp_all
 obtain ⟨rfl,rfl⟩:=trodVars_none hV
 have k0:=h0
 have lt0:∀ x ∈ p0,x.block < W.heap.size:=by obtain ⟨m,hm⟩:=k0; exact DataW.trod_lt m _ _ _ hm
 obtain ⟨x0,s0,e0⟩:=open_agg (k:=20) Tryz.underlying24 (by kernel_rfl) (hval 0 24 v0 rfl rfl) h0
 clear hA0 hval0
 obtain ⟨T,l,e1,g1,g2,_⟩:=shp_lattice s0
 rw [e1] at e0
 refine (law_run (W:=W) (ansChecks ansKnown) (args:=[latA T l]) (vs:=[v0]) (checksV_eq ⟨T,l,rfl,fun x hx=>⟨(g1 x hx).1.x,(g1 x hx).2.x⟩,g2⟩) (VRs.cons e0 VRs.nil_)).mono fun e W' ⟨he,bel⟩=>?_
 subst he
 exact ⟨_,rfl,_,_,_,[],_,[],hW',trodAll_mk1 (shut_bool Tryz.underlying4 _),(trodAll_cons_mk (Below.trod laidL (by kernel_rfl) (of_decide_eq_true (by kernel_rfl)) k0 bel lt0) trodAll_mk0),rfl,bel.frame _,fun h=>by cases h⟩
theorem and2 {a b:Bool} (h:a = true) (k:b = true):(a && b) = true:=by rw [h,k]; rfl
theorem closedChecks:joinedFacts Tryz.checked.prog 10 Tryz.f10 Rows.latticeChecksSpec Rows.latticeChecksRow = true:=by
 unfold joinedFacts
 with_reducible repeat' refine and2 ?_ ?_
 all_goals first | (with_reducible exact laidL) | as_aux_lemma=>kernel_rfl
theorem latticeChecks_holds:Rows.LatticeChecksSaid :=
 OpenClaim.holds_of_wide 10 Tryz.f10 rfl rfl rfl rfl rfl rfl rfl ⟨rfl,rfl,rfl,rfl,rfl⟩ rfl rfl rfl rfl rfl (by kernel_rfl) Tryz.func10 closedChecks
  (of_decide_eq_true (by kernel_rfl)) (by unfold Func.isWrapper; first | (rw [if_pos (by decide +kernel)]; kernel_rfl) | (rw [if_neg (by decide +kernel)]; exact ⟨rfl,rfl⟩))
  (fun os started H enc _=>liftChecks os started H enc)
end
end Go.Proofs.YtdehimgccmbfkaaGreat
