/- Lemmas. -/
import Derived.Test.YtjebfdfkjlkifaaGreatR41
import Derived.Test.YtjebfdfkjlkifaaGreatR38
set_option linter.all false
set_option maxRecDepth 1000000
set_option maxHeartbeats 32000000
namespace Go.Proofs.YtjebfdfkjlkifaaGreat
open Go.RowKit
theorem fr {z:Int} (h:0 < z):(0:Rat) < (z:Rat):=by exact_mod_cast h
theorem fh {a:Rat} (h:0 < a):a ≠ 0:=fun e=>Rat.lt_irrefl (e ▸ h)

theorem ti {f:Nat->Rat} {n x:Nat} (h:x < n):((List.range n).map f).getD x 0 = f x:=by
 rw [gD,List.getElem?_map,List.getElem?_range h]
 rfl
def fA (k:Int) (O:Nat) (gs:List Gr) (v:Nat) (a:Rat) (mix:List Rat)(h:List Int):List Rat :=
 if k = 1 then cQ (ap O gs O h) v a else if k = 2 then dR (ap O gs) v mix O h else if k = 3 then bJ (ap O gs) v a O h else bw (ap O gs) v O h
theorem rI {q:Rat} (h:aU q = 0):q = 0:=by
 unfold aU at h
 split at h
 ·assumption
 split at h <;> omega
theorem mF {q:Rat} (h:¬ aU q < 0):0 <= q:=by
 unfold aU at h
 split at h
 ·next e=>rw [e]; exact Rat.le_refl
 split at h
 ·omega
 next h1=>exact Rat.not_lt.1 h1
theorem qL {qs:List Rat}:iq qs = true ↔ (∀ q ∈ qs,0 <= q)/\bX qs = 1:=by
 unfold iq
 rw [Bool.and_eq_true,Bool.not_eq_true',decide_eq_false_iff_not,decide_eq_true_eq,kr]
 constructor
 ·rintro ⟨h1,h2⟩
  refine ⟨fun q hq=>mF (fun h=>h1 ⟨q,hq,h⟩),?_⟩
  have:=rI h2
  grind
 rintro ⟨h1,h2⟩
 refine ⟨?_,?_⟩
 ·rintro ⟨q,hq,h⟩
  have h3:=h1 q hq
  unfold aU at h
  split at h
  ·omega
  split at h
  ·next h4=>exact absurd h4 (Rat.not_lt.2 h3)
  omega
 rw [h2,Rat.sub_self]
 rfl
theorem fH {a:Rat} {mix:List Rat} {O:Nat} (h:av 2 a mix O = true):mix.length = O + 1/\(∀ q ∈ mix,0 <= q)/\bX mix = 1/\0 < mix.getD 0 0:=by
 unfold av at h
 rw [if_neg (by decide),if_pos rfl] at h
 simp only [Bool.and_eq_true,decide_eq_true_eq,beq_iff_eq] at h
 obtain ⟨⟨⟨_,h1⟩,h2⟩,h3⟩:=h
 have:=qL.1 h2
 exact ⟨by omega,this.1,this.2,jm h3⟩
theorem gH {k:Int} {a:Rat} {mix:List Rat} {O:Int} (h:av k a mix O = true):k = 1 ∨ k = 2 ∨ k = 3 ∨ k = 4:=by
 unfold av at h
 by_cases h1:k = 1
 ·exact Or.inl h1
 by_cases h2:k = 2
 ·exact Or.inr (Or.inl h2)
 by_cases h3:k = 3
 ·exact Or.inr (Or.inr (Or.inl h3))
 by_cases h4:k = 4
 ·exact Or.inr (Or.inr (Or.inr h4))
 rw [if_neg h1,if_neg h2,if_neg h3,if_neg h4] at h
 cases h
theorem wU (x:Value) (w:World):(method 358 175 x "earshot/gram.row").run Tryz.prog w = .ok (218,x) w:=by kernel_rfl
theorem xr (x:Value) (w:World):(nilAhead 358 175 x "earshot/gram.row").run Tryz.prog w = .ok (some false) w:=by kernel_rfl
theorem xt (x:Value) (w:World):(nilAhead 358 177 x "earshot/gram.row").run Tryz.prog w = .ok (some false) w:=by kernel_rfl
theorem xq (x:Value) (w:World):(nilAhead 358 179 x "earshot/gram.row").run Tryz.prog w = .ok (some false) w:=by kernel_rfl

structure xi (w:World) (O v:Nat) (gs:List Gr) (k:Int) (s:Bool) (A A':Option Addr) (m c m' c':Nat) (mv:Value) (rw_:List Int->List Rat) (T:TypeId) (rv:Nat->Value) (F:FuncId):Prop where
 way:∀ b,fs k b O v s A A' m c m' c' mv = .iface T (rv b)
 meth:∀ b w,(method 358 T (rv b) "earshot/gram.row").run Tryz.prog w = .ok (F,rv b) w
 nil:∀ b w,(nilAhead 358 T (rv b) "earshot/gram.row").run Tryz.prog w = .ok (some false) w
 cf:∀ args w,(callFunc F args).run Tryz.prog w = .ok (.enter F args) w
 row:∀ b W hv h,LvsAt W b O 0 gs->Below w.heap.size w W->IntsAt W hv h->h.length = O - 1->NiceK h->Calls Tryz.prog F #[rv b,.int .i64 O,hv] W (dj W v (rw_ h))
 qb:∀ h,∀ q ∈ rw_ h,QB 5000000 q
 len:∀ h,(rw_ h).length = v + 1

theorem rk (w:World) (O v:Nat) (lv:Value) (gs:List Gr) (k:Int) (s:Bool) (A A':Option Addr) (m c m' c':Nat) (mv:Value) (a:Rat) (mix:List Rat)(h:LangAt w lv gs s A A' m c m' c' a mv mix)(hE:aJ O v gs k a mix = 0)(hv8:v <= 8) :
  ∃ T rv F,xi w O v gs k s A A' m c m' c' mv (fA k O gs v a mix) T rv F:=by
 have hG:=dy (cI hE).1
 have hT:=bY (cI hE).1 hv8
 have hV:=(cI hE).2
 have hM:∀ n h,Mild (ap O gs n h):=fun n h=>hT.mild O n h
 have hqa:QB 64 a:=h.amount.qb (by omega)
 have hbq:bq O <= 4392300:=po hG.2.1.2
 rcases gH hV with rfl | rfl | rfl | rfl
 ·have hA:=eW hV
  have e:fA 1 O gs v a mix = fun h=>cQ (ap O gs O h) v a:=by funext h; unfold fA; rw [if_pos rfl]
  rw [e]
  refine ⟨180,fun b=>.agg #[.slice (some ⟨b,0,none⟩) (O + 1) (O + 1),.int .i64 ((v:Int) + 1),.bool s,.slice A m c,.slice A' m' c'],226,?_,fun b w=>vi _ w,fun b w=>wP _ w,fun args w=>by kernel_rfl,?_,?_,?_⟩
  ·intro b
   unfold fs
   rw [if_neg (by decide),if_neg (by decide),if_neg (by decide)]
  ·intro b W hv hl hL hb hi hll hk
   exact tW W O O b v hv gs hl s A A' m c m' c' a hL ⟨hG.2.1.1,nR _⟩ hG.2.1.2 hi hll hk (h.amount.below hb) hA.1 hv8 hT.1 hT.2.1 hT.2.2.1
  ·intro hl q hq
   exact (nJ (hT.mild O O hl) hv8 hqa q hq).mono (by omega)
  intro hl
  simp [cQ]
 ·have hA:=fH hV
  have e:fA 2 O gs v a mix = fun h=>dR (ap O gs) v mix O h:=by funext h; unfold fA; rw [if_neg (by decide),if_pos rfl]
  rw [e]
  refine ⟨175,fun b=>.agg #[.slice (some ⟨b,0,none⟩) (O + 1) (O + 1),.int .i64 ((v:Int) + 1),mv],218,?_,fun b w=>wU _ w,fun b w=>xr _ w,fun args w=>by kernel_rfl,?_,?_,?_⟩
  ·intro b
   unfold fs
   rw [if_pos rfl]
  ·intro b W hv hl hL hb hi hll hk
   exact vP O b v gs hG.2.1.2 hT O W hv hl mv mix ⟨hG.2.1.1,nR _⟩ hL hi hll hk (h.mixes.below hb) hA.1
  ·intro hl q hq
   exact (qk hM hv8 (h.mixes.qb (by omega)) hG.2.1.2 hl q hq).mono (by omega)
  intro hl
  exact gF _ _ _ _ _
 ·have hA:=eK hV
  have e:fA 3 O gs v a mix = fun h=>bJ (ap O gs) v a O h:=by funext h; unfold fA; rw [if_neg (by decide),if_neg (by decide),if_pos rfl]
  rw [e]
  refine ⟨177,fun b=>.agg #[.slice (some ⟨b,0,none⟩) (O + 1) (O + 1),.int .i64 ((v:Int) + 1),.bool s,.slice A m c,.slice A' m' c'],222,?_,fun b w=>vh _ w,fun b w=>xt _ w,fun args w=>by kernel_rfl,?_,?_,?_⟩
  ·intro b
   unfold fs
   rw [if_neg (by decide),if_pos rfl]
  ·intro b W hv hl hL hb hi hll hk
   exact vk O b v gs hG.2.1.2 hT s A A' m c m' c' a hA.1 hA.2.1 O W hv hl (nR _) hL hi hll hk (h.amount.below hb)
  ·intro hl q hq
   exact (jS hM hv8 hqa O hl q hq).mono (by omega)
  intro hl
  exact bN _ _ _ _ _
 have e:fA 4 O gs v a mix = fun h=>bw (ap O gs) v O h:=by funext h; unfold fA; rw [if_neg (by decide),if_neg (by decide),if_neg (by decide)]
 rw [e]
 refine ⟨179,fun b=>.agg #[.slice (some ⟨b,0,none⟩) (O + 1) (O + 1),.int .i64 ((v:Int) + 1)],225,?_,fun b w=>vf _ w,fun b w=>xq _ w,fun args w=>by kernel_rfl,?_,?_,?_⟩
 ·intro b
  unfold fs
  rw [if_neg (by decide),if_neg (by decide),if_pos rfl]
 ·intro b W hv hl hL hb hi hll hk
  exact ro O b v gs hG.2.1.2 hT O W hv hl (nR _) hL hi hll hk
 ·intro hl q hq
  exact (iB hM hv8 O hl q hq).mono (by omega)
 intro hl
 exact cL _ _ _ _
section
open Go.RowKit
end
section
open Go.RowKit
end
end Go.Proofs.YtjebfdfkjlkifaaGreat
