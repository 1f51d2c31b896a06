/- Lemmas. -/
import Derived.Test.YtjebfdfkjlkifaaGreatR32
import Derived.OwnWalkIn
import Derived.TacticsInMore
import Derived.LoopNIn
import Derived.LoopIn
set_option linter.all false
set_option maxRecDepth 1000000
set_option maxHeartbeats 32000000
namespace Go.Proofs.YtjebfdfkjlkifaaGreat
open Go.RowKit
section
attribute [local go_sem] Oper.semAt_some

theorem kh (w:World) (n:Nat)(hn:n <= 1000000):∃ w',(Instr.makeSlice 44 (.int .i64 (n:Int)) (.int .i64 (n:Int))).run Tryz.prog w = .ok (.slice (some ⟨w.heap.size,0,none⟩) n n) w'/\w'.ownsRow w.heap.size 3 1 (.slice (some ⟨w.heap.size,0,none⟩) n n) n (List.replicate n (.int .i64 0))/\w.grownBy w' none:=by
 obtain ⟨i0,h2,h3,h4,h5⟩:=info_parts eD
 obtain ⟨w',hrun,r1,r2⟩:=run_make_full (P:=Tryz.prog) w w.heap.size 44 3 i0 (.int .i64 0) 1 Tryz.underlying44 h2 h3 h4 .i64 .i64 n (by rw [h5]; omega) (by unfold maxLen; omega) (nR _)
 refine ⟨w',hrun,?_,r2⟩
 rw [Nat.mul_one,show (Value.int .i64 0).cells = #[.int .i64 0] from rfl,jW] at r1
 exact r1

theorem Blk.mid {B:Nat} {w w':World} {g:Nat} {e:TypeId} {xs:List Value} (h:Blk w g e xs)(hm:Mid B w w')(hg:B <= g):Blk w' g e xs:=(hm.same g hg h.lt).trans h
theorem Sl.mid {B:Nat} {w w':World} {sz g o n c:Nat} {xs:List Value} (h:Sl w sz (.slice (some ⟨g,o,none⟩) n c) n xs)(hm:Mid B w w')(hg:B <= g):Sl w' sz (.slice (some ⟨g,o,none⟩) n c) n xs:=by
 obtain ⟨h0,A,c',e,h2,h3,h5⟩:=h
 cases e
 refine ⟨h0,_,_,rfl,h2,h3,fun hn=>?_⟩
 obtain ⟨b,off,e,hlt,hc⟩:=h5 hn
 cases e
 exact ⟨_,_,rfl,Nat.lt_of_lt_of_le hlt hm.size,fun j u hu=>(hm.cell (p:=⟨g,o + j,none⟩) hg hlt).trans (hc j u hu)⟩
theorem Sl.recap {w:World} {sz n c c':Nat} {A:Option Addr} {xs:List Value} (h:Sl w sz (.slice A n c) n xs)(hc:n <= c')(hm:c' <= maxLen):Sl w sz (.slice A n c') n xs:=by
 obtain ⟨h0,A',c0,e,h2,h3,h5⟩:=h
 cases e
 exact ⟨h0,_,_,rfl,hc,hm,h5⟩
theorem gO {m:Nat} {s:List Int} {j:Nat} (hj:j <= s.length):(aw m s).getD j [] = ((e9 m s).drop j).take (m + 1):=by
 unfold aw
 rw [gD,List.getElem?_map,List.getElem?_range (by omega)]
 rfl

theorem tg (w:World) (N:Int) (sv:Value) (A:Option Addr) (k c:Nat)(hv:sv = .slice A k c) :
  Calls Tryz.prog 80 #[.int .i64 N,sv] w fun e w'=>e = .returned (.func (.func 135) #[] #[.pointer (some ⟨w.heap.size,0,none⟩),.pointer (some ⟨w.heap.size + 1,0,none⟩)])/\Blk w' w.heap.size 3 [.int .i64 N]/\Blk w' (w.heap.size + 1) 44 [sv]/\Below w.heap.size w w':=by
 subst hv
 go_enter Tryz.func80,Tryz.ntmps80
 go_wp2_with fail
 obtain ⟨W,hW,P0,P1,PB,Phs⟩:=cP w 3 [.int .i64 N] 44 [.slice A k c]
 rw [<- hW]
 clear hW
 go_ret
 exact ⟨rfl,P0.o,P1.o,PB.o⟩

theorem ni (n:Nat)(hn:1 <= n) (w:World) (B m:Nat) (sv:Value) (s:List Int) (gN gS:Nat)(hm:m <= 3)(hs:s.length <= 1000000)(hN:Blk w gN 3 [.int .i64 ((m:Int) + 1)])(hS:Blk w gS 44 [sv])(hI:IntsAt w sv s)(hB:B <= gN) :
  pp Fence.wide n Tryz.prog 135 #[.pointer (some ⟨gN,0,none⟩),.pointer (some ⟨gS,0,none⟩)] (s.length + 1) (fun i v W=>IntsAt W v ((aw m s).getD i [])) B w:=by
 intro l J W hW hJ hY h0
 have HJ:=aH hJ
 have HY:=aH hY
 have J0:=aH h0
 have NW:=aH (hN.below' hW)
 have SW:=aH (hS.below' hW)
 have IW:=aH (hI.below hW)
 have hBW:B <= W.heap.size:=by have:=hN.lt; have:=hW.size; omega
 clear hJ hY h0 hN hS hI hW
 obtain ⟨Av,cv,rfl,hvc,hvm,_⟩:=IW.o.open_
 obtain ⟨i0,gi,gz0,gz1,gz2⟩:=info_parts eD
 have c0:=NW.o.cell 0
 have c1:=SW.o.cell 0
 simp only [List.getElem?_cons_zero] at c0 c1
 have i1:IntKind.i64.wrap ((m:Int) + 1 - 1) = (m:Int):=by rw [show (m:Int) + 1 - 1 = m by omega]; exact iI _ (by omega)
 have i2:IntKind.i64.wrap (m:Int) = (m:Int):=iI _ (by omega)
 refine callsIn_wide.2 ?_
 show Calls Tryz.prog 135 #[.func (.yield l) #[] #[],.pointer (some ⟨gN,0,none⟩),.pointer (some ⟨gS,0,none⟩)] W _
 go_enter Tryz.func135,Tryz.ntmps135
 obtain ⟨W1,hmk,ho1,hg1⟩:=kh W.drew m (by omega)
 have HO1:Hd (W1.ownsRow W.heap.size 3 1 (.slice (some ⟨W.heap.size,0,none⟩) m m) m (List.replicate m (.int .i64 0))):=aH ho1
 have B1:Hd (Below W.heap.size W W1):=aH (bO ((Below.refl _ W.drew).grown hg1 (nR _) (by simp)))
 have hmk':(Instr.makeSlice 44 (.int .i64 (m:Int)) (.int .i64 (m:Int))).run Tryz.prog W.drew = .ok (.slice (some ⟨W.heap.size,0,none⟩) m m) W1:=hmk
 have hs1:W.heap.size <= W1.heap.size:=B1.o.size
 have hSd:W1.cell? ⟨gN,0,none⟩ = some (.int .i64 ((m:Int) + 1))/\W1.cell? ⟨gS,0,none⟩ = some (.slice Av s.length cv):=⟨(NW.o.below' B1.o).cell 0,(SW.o.below' B1.o).cell 0⟩
 have hS:=aI c0 c1
 clear hmk ho1 hg1
 go_wp2_with fail
 go_region_held3 (fun w'=>w'.cell? ⟨gN,0,none⟩ = some (.int .i64 ((m:Int) + 1))/\w'.cell? ⟨gS,0,none⟩ = some (.slice Av s.length cv))
  (first | assumption | go_keep)
  (first
   | (refine aq rfl (Operand.tmp 8) (Operand.tmp 9) 44 rfl W.heap.size 3 i0 (.int .i64 0) 1 8 Tryz.underlying44 gi gz0 gz1 gz2 rfl (by decide) (.slice (some ⟨W.heap.size,0,none⟩) m m) m _ rfl HO1.o (.slice Av s.length cv) s.length (s.map (Value.int .i64)) rfl (IW.o.below B1.o) (fo s) (by unfold maxLen; omega) (by omega) hs1 ?_; intro v2 w2 t1 t2 _; have HO2:=aH t1; have B2:Hd (Below W.heap.size W w2):=aH (B1.o.grown t2 hs1 (ao (From.of_own HO1.o))); have hs2:W.heap.size <= w2.heap.size:=B2.o.size; have hSd2:w2.cell? ⟨gN,0,none⟩ = some (.int .i64 ((m:Int) + 1))/\w2.cell? ⟨gS,0,none⟩ = some (.slice Av s.length cv):=⟨(NW.o.below' B2.o).cell 0,(SW.o.below' B2.o).cell 0⟩; clear t1 t2))
 clear hSd hSd2 hS hmk' c0 c1
 go_wp2_with (at_builtin; refine al rfl (.tmp 11) (.tmp 12) 44 rfl W.heap.size 3 i0 (.int .i64 0) 1 8 Tryz.underlying44 gi gz0 gz1 gz2 rfl (by decide) _ _ _ rfl (bK HO2.o (Below.alloc (Below.refl _ _) (nR _) _)) _ 1 [.int .i64 0] rfl (Sl.one _ _ _) (by simp [Value.oneCell']) (by unfold maxLen; omega) (by omega) (by simp; omega) ?_)
 intro v3 w3 t1 t2 _
 have HO3:Hd (w3.ownsRow W.heap.size 3 1 v3 (m + s.length + 1) ((e9 m s).map (Value.int .i64))):=aH (by
  have:=t1
  simpa [e9,List.map_append,List.map_replicate,Nat.add_assoc] using this)
 have B3:Hd (Below W.heap.size W w3):=aH ((B2.o.alloc hs2 _).grown t2 (by simp; omega) (ao (From.of_own HO2.o)))
 have hs3:W.heap.size <= w3.heap.size:=B3.o.size
 clear t1 t2
 obtain ⟨g,cap,rfl,hcap,hcm⟩:∃ g cap,v3 = .slice (some ⟨g,0,none⟩) (m + s.length + 1) cap/\m + s.length + 1 <= cap/\cap <= 9223372036854775807:=by
  obtain ⟨h0,⟨_,h1⟩ | ⟨g,cap,cur,hv,hb,hh,hn,hc,_⟩⟩:=HO3.o
  ·simp at h1
  exact ⟨g,cap,hv,hn,by unfold maxLen at hc; omega⟩
 have hgW:W.heap.size <= g:=rW HO3.o
 obtain ⟨L,hL⟩:=nm (m + s.length + 1)
 have SL3:Hd (Sl w3 1 (.slice (some ⟨g,0,none⟩) L cap) L ((e9 m s).map (Value.int .i64))):=aH (by rw [<- hL]; exact Sl.of_own HO3.o)
 have N3:=aH (NW.o.below' B3.o)
 have J3:=aH (HJ.o 0 W w3 J0.o B3.o)
 rw [hL] at hcap ⊢
 obtain ⟨p,hp⟩:=nm (s.length)
 have HP:=aH hp
 rw [hp] at hL hs ⊢
 clear hp HO3 HO2 HO1 B1 B2 B3 J0
 go_wp2_with fail
 refine (wpIn_wide (n:=n)).1 ?_
 gi_loopw [5] (fun i wr=>∃ (j:Nat),i = .int .i64 j/\j <= p + 1/\Hd (J j wr)/\Hd (Blk wr gN 3 [.int .i64 ((m:Int) + 1)])/\Hd (Sl wr 1 (.slice (some ⟨g,0,none⟩) L cap) L ((e9 m s).map (Value.int .i64))))
  (fun i _=>p + 1 - (intOf i).toNat)
 case atStart=>exact ⟨0,rfl,by omega,J3,N3,SL3⟩
 clear J3 N3 SL3
 obtain ⟨j,rfl,hj,JJ,NR,SL⟩:=hrel
 have c0:=NR.o.cell 0
 simp only [List.getElem?_cons_zero] at c0
 by_cases hlt:j <= p
 ·have d1:decide ((j:Int) + ((m:Int) + 1) <= (L:Int)) = true:=dT (by omega)
  have HX:Hd (IntsAt wr (.slice (some ⟨g,j,none⟩) (m + 1) (m + 1)) ((aw m s).getD j [])):=aH (by
   rw [gO (by rw [HP.o]; exact hlt)]
   have e:(((e9 m s).drop j).take (m + 1)).length = m + 1:=by rw [List.length_take,List.length_drop,cV,HP.o]; omega
   have h1:=ri (j:=j) (n:=m + 1) SL.o (by omega) (by rw [cV,HP.o]; exact hL)
   unfold IntsAt at h1 ⊢
   rw [e] at h1 ⊢
   exact h1.recap (nR _) (by unfold maxLen; omega))
  obtain ⟨fn,tmps,assign,body,hy,hR⟩:=HY.o j (.slice (some ⟨g,j,none⟩) (m + 1) (m + 1)) wr (by rw [HP.o]; omega) HX.o JJ.o
  have HR:=aH hR
  clear hR
  gi_wp2
  refine HR.o.mono ?_
  rintro e W3 ⟨rfl,hJ3,hm3⟩
  have JJ3:=aH hJ3
  have NR3:=aH (NR.o.mid hm3 hB)
  have SL3:=aH (SL.o.mid hm3 (by omega))
  clear hJ3 hm3 hy c0
  gi_wp2
  go_roundw
  case rel=>exact ⟨j + 1,rfl,by omega,JJ3,NR3,SL3⟩
  case measure=>simp [intOf]; omega
 obtain rfl:j = p + 1:=by omega
 have d1:decide ((p:Int) + 1 + ((m:Int) + 1) <= (L:Int)) = false:=dF (by omega)
 gi_wp2
 go_end0
 exact ⟨⟨_,rfl⟩,by rw [HP.o]; exact JJ.o⟩
end
end Go.Proofs.YtjebfdfkjlkifaaGreat
