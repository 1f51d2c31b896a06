/- Lemmas. -/
import Derived.Test.YtjebfdfkjlkifaaGreatR31
import Derived.RangeFuncNested
import Derived.RangeFuncBound
import Derived.RangeFuncCalls
import Derived.RangeFuncLeaves
import Derived.OrdersIn
set_option linter.all false
set_option maxRecDepth 1000000
set_option maxHeartbeats 32000000
namespace Go.Proofs.YtjebfdfkjlkifaaGreat
open Go.RowKit
def dj (w:World) (v:Nat) (qs:List Rat) (e:Ending) (w':World):Prop:=∃ b',e = .returned (.slice (some ⟨b',0,none⟩) (v + 1) (v + 1))/\w.heap.size <= b'/\FArc w' b' qs/\Below w.heap.size w w'

def ap (O:Nat) (gs:List Gr) (n:Nat)(h:List Int) (x:Int):Int:=tot (O - n) gs (h ++ [x])
def SmallT (gs:List Gr) (v:Nat):Prop:=(∀ g ∈ gs,0 < g.2/\g.2 <= 1073741824)/\gs.length <= 20000/\(∀ g ∈ gs,∀ x ∈ g.1,x <= (v:Int))/\v <= 8
theorem SmallT.mild {gs:List Gr} {v:Nat} (h:SmallT gs v) (O n:Nat)(hs:List Int):Mild (ap O gs n hs):=jd h.1 h.2.1 (O - n) hs
theorem SmallT.keys {gs:List Gr} {v:Nat} (h:SmallT gs v) {O n:Nat} {hs:List Int} {L:List (Int × Int)} (hC:ix L (ap O gs n hs)):∀ e ∈ L,e.1 <= (v:Int):=sr (fun g hh=>(h.1 g hh).1) h.2.2.1 hC
theorem IntsAt.tail1 {w:World} {A:Option Addr} {n c:Nat} {l:List Int} (h:IntsAt w (.slice A n c) l)(hl:l.length = n)(hn:0 < n):∃ b o,A = some ⟨b,o,none⟩/\IntsAt w (if c = 1 then (.slice (some ⟨b,o,none⟩) (n - 1) 0) else (.slice (some ⟨b,o + 1,none⟩) (n - 1) (c - 1))) (l.drop 1):=by
 obtain ⟨A',c',e,hc,hm,hat⟩:=h.open_
 have hA:A = A'/\n = l.length/\c = c':=by cases e; exact ⟨rfl,rfl,rfl⟩
 obtain ⟨rfl,_,rfl⟩:=hA
 clear e
 obtain ⟨y,hy⟩:∃ y,l[0]? = some y:=⟨_,eG (by omega)⟩
 obtain ⟨b,o,rfl,_,_⟩:=hat 0 y hy
 refine ⟨b,o,rfl,?_⟩
 have hdl:(l.drop 1).length = n - 1:=by rw [List.length_drop]; omega
 by_cases hc1:c = 1
 ·rw [if_pos hc1]
  unfold IntsAt
  rw [hdl,List.eq_nil_of_length_eq_zero (show (l.drop 1).length = 0 by omega)]
  exact Sl.none' _ _ _ _ _ _ (by omega) (by omega) (by unfold maxLen; omega)
 rw [if_neg hc1]
 unfold IntsAt at h ⊢
 rw [hl] at h
 have:=Sl.tail (k:=1) h (by omega)
 rw [hdl,List.map_drop]
 simpa using this

theorem vy (w:World) (O b v:Nat)(hv:Value) (T:Nat->List Int->Int->Int)(h:List Int)(hv8:v <= 8) :
  Calls Tryz.prog 225 #[.agg #[.slice (some ⟨b,0,none⟩) (O + 1) (O + 1),.int .i64 ((v + 1:Nat):Int)],.int .i64 0,hv] w (dj w v (bw T v 0 h)):=by
 go_enter Tryz.func225,Tryz.ntmps225
 go_wp2_with fail
 obtain ⟨W,hW,P0,PB,Phs⟩:=aA w 179 [.slice (some ⟨b,0,none⟩) (O + 1) (O + 1),.int .i64 ((v:Int) + 1)]
 rw [<- hW]
 clear hW
 have p0:=P0.o.cell 0
 have p1:=P0.o.cell 1
 simp only [List.getElem?_cons_zero,List.getElem?_cons_succ] at p0 p1
 go_wp2_with fail
 refine (tA W (.slice (some ⟨b,0,none⟩) (O + 1) (O + 1)) (v + 1) (by omega) (by omega) rfl _ _ _ rfl).mono ?_
 rintro e w1 ⟨b1,rfl,hb,hf,hb1⟩
 have HF:=aH hf.arc
 have B1:=aH (PB.o.trans (hb1.mono (by omega)))
 clear p0 p1 hf hb1
 go_wp2_with fail
 go_ret
 exact ⟨_,rfl,by omega,HF.o,B1.o⟩

theorem ro (O b v:Nat) (gs:List Gr)(hO:O <= 4)(hT:SmallT gs v) (n:Nat):∀ (w:World)(hv:Value)(h:List Int),n <= O->LvsAt w b O 0 gs->IntsAt w hv h->h.length = n - 1->NiceK h ->
  Calls Tryz.prog 225 #[.agg #[.slice (some ⟨b,0,none⟩) (O + 1) (O + 1),.int .i64 ((v + 1:Nat):Int)],.int .i64 n,hv] w (dj w v (bw (ap O gs) v n h)):=by
 have hv8:=hT.2.2.2
 induction n with
 | zero=>exact fun w hv h _ _ _ _ _=>vy w O b v hv _ h hv8
 | succ n ih =>
  intro w hv h hn hL hI hl hk
  obtain ⟨A,c,rfl,hlc,hcm,_⟩:=hI.open_
  have hln:h.length = n:=by omega
  rw [hln] at hI hlc ⊢
  have HI:=aH hI
  have HL:=aH hL
  have HLN:=aH hln
  have HN:=aH hn
  have HK:=aH hk
  have IH:=aH ih
  have HT:=aH hT
  have b0:(((n:Int) + 1) == 0) = false:=by simpa using (show ¬ (n:Int) + 1 = 0 by omega)
  clear hI hL hln hn hk ih hT hl
  go_enter Tryz.func225,Tryz.ntmps225
  go_wp2_with fail
  obtain ⟨W,hW,P0,PB,Phs⟩:=aA w 179 [.slice (some ⟨b,0,none⟩) (O + 1) (O + 1),.int .i64 ((v:Int) + 1)]
  rw [<- hW]
  clear hW
  have p0:=P0.o.cell 0
  have p1:=P0.o.cell 1
  simp only [List.getElem?_cons_zero,List.getElem?_cons_succ] at p0 p1
  go_wp2_with fail
  go_upto_region 3 with fail
  go_cut [7] (fun x wc=>∃ b1,x = .slice (some ⟨b1,0,none⟩) (v + 1) (v + 1)/\Hd (W.heap.size <= b1)/\Hd (FArc wc b1 (bw (ap O gs) v n (h.drop 1)))/\Hd (Below W.heap.size W wc))
  case first =>
   have hS:=aI p0 p1
   have i1:IntKind.i64.wrap ((n:Int) + 1 - 1) = (n:Int):=by rw [show (n:Int) + 1 - 1 = n by omega]; exact iI _ (by have:=HN.o; omega)
   have i2:IntKind.i64.wrap (n:Int) = (n:Int):=iI _ (by have:=HN.o; omega)
   have IA:=aH (HI.o.below PB.o)
   have LA:=aH (HL.o.below PB.o)
   have NK:Hd (NiceK (h.drop 1)):=aH ⟨by have:=HK.o.1; rw [List.length_drop]; omega,fun x hx=>HK.o.2 x (List.mem_of_mem_drop hx)⟩
   have DL:Hd ((h.drop 1).length = n - 1):=aH (by rw [List.length_drop,HLN.o])
   rcases zP n with h0 | h0
   ·subst h0
    have TL:∀ A c,c <= 9223372036854775807->Hd (IntsAt W (.slice A 0 c) (h.drop 1)):=fun A c hc=>aH (by
     unfold IntsAt
     rw [DL.o,List.eq_nil_of_length_eq_zero DL.o]
     exact Sl.none' _ _ _ _ _ _ rfl rfl (by unfold maxLen; omega))
    have m0:min (1:Int) 0 = 0:=by decide
    rcases zP c with hc0 | hc0
    ·subst hc0
     go_region_held3 (fun w'=>w'.cell? ⟨w.heap.size,0,none⟩ = some (.slice (some ⟨b,0,none⟩) (O + 1) (O + 1))/\w'.cell? ⟨w.heap.size,1,none⟩ = some (.int .i64 ((v:Int) + 1)))
      (first | assumption | go_keep)
      (first
       | (go_at_call 225; refine (IH.o _ _ (h.drop 1) (by have:=HN.o; omega) (LA.o.below (bS _)) ?_ DL.o NK.o).mono ?_; (exact (TL _ _ (by omega)).o.drew); rintro e wc ⟨b1,rfl,h1,h2,h3'⟩; have h3:=bO h3'; have R1:Hd (W.heap.size <= b1):=aH h1; have R2:=aH h2; have R3:=aH h3; have hS:=aI ((R3.o.cell (p:=⟨w.heap.size,0,none⟩) (by show w.heap.size < W.heap.size; omega)).trans p0) ((R3.o.cell (p:=⟨w.heap.size,1,none⟩) (by show w.heap.size < W.heap.size; omega)).trans p1); clear h1 h2 h3 h3'))
     all_goals
      go_wp2_with fail
      go_meet
      exact ⟨b1,rfl,R1,R2,R3⟩
    have hc1:(c == 0) = false:=by simpa using (show ¬ c = 0 by omega)
    go_region_held3 (fun w'=>w'.cell? ⟨w.heap.size,0,none⟩ = some (.slice (some ⟨b,0,none⟩) (O + 1) (O + 1))/\w'.cell? ⟨w.heap.size,1,none⟩ = some (.int .i64 ((v:Int) + 1)))
     (first | assumption | go_keep)
     (first
      | (go_at_call 225; refine (IH.o _ _ (h.drop 1) (by have:=HN.o; omega) (LA.o.below (bS _)) ?_ DL.o NK.o).mono ?_; (exact (TL _ _ (by omega)).o.drew); rintro e wc ⟨b1,rfl,h1,h2,h3'⟩; have h3:=bO h3'; have R1:Hd (W.heap.size <= b1):=aH h1; have R2:=aH h2; have R3:=aH h3; have hS:=aI ((R3.o.cell (p:=⟨w.heap.size,0,none⟩) (by show w.heap.size < W.heap.size; omega)).trans p0) ((R3.o.cell (p:=⟨w.heap.size,1,none⟩) (by show w.heap.size < W.heap.size; omega)).trans p1); clear h1 h2 h3 h3'))
    all_goals
     go_wp2_with fail
     go_meet
     exact ⟨b1,rfl,R1,R2,R3⟩
   obtain ⟨ba,oa,rfl,tl⟩:=IA.o.tail1 HLN.o h0
   have m0:min (1:Int) (n:Int) = 1:=by omega
   have n1:(1:Int) <= (n:Int):=by omega
   have n2:(n:Int) <= (c:Int):=by omega
   rcases Nat.lt_or_ge 1 c with hc0 | hc0
   ·have hc1:¬ c = 1:=by omega
    rw [if_neg hc1] at tl
    have TL:=aH tl
    clear tl
    go_region_held3 (fun w'=>w'.cell? ⟨w.heap.size,0,none⟩ = some (.slice (some ⟨b,0,none⟩) (O + 1) (O + 1))/\w'.cell? ⟨w.heap.size,1,none⟩ = some (.int .i64 ((v:Int) + 1)))
     (first | assumption | go_keep)
     (first
      | (go_at_call 225; refine (IH.o _ _ (h.drop 1) (by have:=HN.o; omega) (LA.o.below (bS _)) ?_ DL.o NK.o).mono ?_; (exact TL.o.drew); rintro e wc ⟨b1,rfl,h1,h2,h3'⟩; have h3:=bO h3'; have R1:Hd (W.heap.size <= b1):=aH h1; have R2:=aH h2; have R3:=aH h3; have hS:=aI ((R3.o.cell (p:=⟨w.heap.size,0,none⟩) (by show w.heap.size < W.heap.size; omega)).trans p0) ((R3.o.cell (p:=⟨w.heap.size,1,none⟩) (by show w.heap.size < W.heap.size; omega)).trans p1); clear h1 h2 h3 h3'))
    all_goals
     go_wp2_with fail
     go_meet
     exact ⟨b1,rfl,R1,R2,R3⟩
   obtain rfl:c = 1:=by omega
   obtain rfl:n = 1:=by omega
   rw [if_pos rfl] at tl
   have TL:=aH tl
   clear tl
   go_region_held3 (fun w'=>w'.cell? ⟨w.heap.size,0,none⟩ = some (.slice (some ⟨b,0,none⟩) (O + 1) (O + 1))/\w'.cell? ⟨w.heap.size,1,none⟩ = some (.int .i64 ((v:Int) + 1)))
    (first | assumption | go_keep)
    (first
     | (go_at_call 225; refine (IH.o _ _ (h.drop 1) (by have:=HN.o; omega) (LA.o.below (bS _)) ?_ DL.o NK.o).mono ?_; (exact TL.o.drew); rintro e wc ⟨b1,rfl,h1,h2,h3'⟩; have h3:=bO h3'; have R1:Hd (W.heap.size <= b1):=aH h1; have R2:=aH h2; have R3:=aH h3; have hS:=aI ((R3.o.cell (p:=⟨w.heap.size,0,none⟩) (by show w.heap.size < W.heap.size; omega)).trans p0) ((R3.o.cell (p:=⟨w.heap.size,1,none⟩) (by show w.heap.size < W.heap.size; omega)).trans p1); clear h1 h2 h3 h3'))
   all_goals
    go_wp2_with fail
    go_meet
    exact ⟨b1,rfl,R1,R2,R3⟩
  obtain ⟨b1,rfl,h1,F2,B2⟩:=hcut
  have s1:=h1.o
  have P2:=aH (P0.o.below' B2.o)
  have BL:=aH (PB.o.trans (B2.o.mono (by omega)))
  clear p0 p1 P0 h1
  have p0:=P2.o.cell 0
  have p1:=P2.o.cell 1
  simp only [List.getElem?_cons_zero,List.getElem?_cons_succ] at p0 p1
  have M:=aH (HT.o.mild O (n + 1) h)
  have IC:=aH (HI.o.below BL.o)
  have LC:=aH (HL.o.below BL.o)
  obtain ⟨low,hlow⟩:=nm (bw (ap O gs) v n (h.drop 1))
  have QL:Hd (∀ q ∈ low,QB (bq n) q):=aH (by rw [<- hlow]; exact iB (fun a b=>HT.o.mild O a b) hv8 n _)
  have LL:low.length = v + 1:=by rw [<- hlow]; exact cL _ _ _ _
  rw [hlow] at F2
  have HLOW:=aH hlow
  have bqn:bq n <= 4392300:=po (by have:=HN.o; omega)
  have LLH:=aH LL
  clear hlow LL
  go_wp2_with fail
  refine (mI wc O (n + 1) b _ _ gs h LC.o ⟨by omega,HN.o⟩ hO IC.o (by rw [HLN.o]; omega) HK.o).mono ?_
  rintro e w3 ⟨mv,L,rfl,hsn,hcnt,hbd,hb3⟩
  have SN:=aH hsn
  have CN:Hd (ix L (ap O gs (n + 1) h)):=aH hcnt
  have F3:=aH (F2.o.below hb3)
  have BL3:=aH (BL.o.trans (hb3.mono BL.o.size))
  obtain ⟨N,hN⟩:∃ N:Int,el L = N:=⟨_,rfl⟩
  rw [hN]
  have HS:=aH ((gV CN.o (HT.o.keys CN.o)).symm.trans hN)
  have HKS:=aH (length_eq CN.o (HT.o.keys CN.o))
  have hbs:=bH M.o v
  rw [HS.o] at hbs
  have hN0:0 <= N:=hbs.1
  have hN1:N < 900000000000000000:=by omega
  clear hsn hcnt hb3 hN hbd hbs p0 p1
  by_cases hz:N = 0
  ·subst hz
   go_wp2_with fail
   go_ret
   exact ⟨b1,rfl,by omega,by
    have h1:=F3.o
    rw [<- HLOW.o] at h1
    unfold bw
    rw [if_pos HS.o]
    exact h1,BL3.o⟩
  have hz0:(N == 0) = false:=by simpa using hz
  have hNp:0 < N:=by omega
  clear hz
  have KP:=(dU M.o v).1 (by rw [HS.o]; exact hNp)
  have KL:=dV (ap O gs (n + 1) h) v
  obtain ⟨kk,hkk⟩:∃ k:Int,(L.length:Int) = k:=⟨_,rfl⟩
  have HKK:Hd (((aF (ap O gs (n + 1) h) v:Nat):Int) = kk):=aH (by rw [<- HKS.o]; exact hkk)
  have hk1:0 < kk:=by rw [<- HKK.o]; omega
  have hk2:kk <= 9:=by rw [<- HKK.o]; omega
  have LN:Hd (∀ w',SeenAt w' mv L->(Builtin.len_ #[206] 3 #[mv]).run Tryz.prog w' = .ok (.int .i64 kk) w'):=aH (fun w' hw'=>by rw [<- hkk]; exact hw'.len _)
  have i9:IntKind.i64.wrap (N + kk) = N + kk:=iI _ (by omega)
  have QK:Hd (QB 64 (kk:Rat)):=aH (dA (by omega) (by omega))
  have QD:Hd (QB 64 ((N + kk:Int):Rat)):=aH (dA (by omega) (by omega))
  obtain ⟨D,hD⟩:∃ x:Rat,((N + kk:Int):Rat) = x:=⟨_,rfl⟩
  rw [hD] at QD
  have HD:=aH hD
  have D0:Hd (D ≠ 0):=aH (by rw [<- hD]; exact_mod_cast (show N + kk ≠ 0 by omega))
  obtain ⟨fw,hfw⟩:∃ f:Nat->Rat,f = fun x=>iA (ap O gs (n + 1) h) v (low.getD x 0) x:=⟨_,rfl⟩
  have FW:=aH hfw
  clear hkk hD hfw KP KL
  go_wp2_with fail
  go_loopg [10,11,39] (v + 1) (fun gh _ _ i wz=>∃ (j:Nat),i = .int .i64 j/\j + gh = v + 1/\Hd (FArc wz b1 ((List.range j).map fw ++ low.drop j))/\Hd (SeenAt wz mv L)/\Hd (Below w.heap.size w wz))
  case atStart=>exact ⟨0,rfl,by omega,aH (by simpa using F3.o),SN,BL3⟩
  clear F3 SN BL3
  obtain ⟨j,rfl,hj,F4,SN4,BL4⟩:=hrel
  rcases zP gk with hh | hh
  ·subst hh
   obtain rfl:j = v + 1:=by omega
   go_wp2_with fail
   go_ret
   exact ⟨b1,rfl,by omega,by
    have h1:=F4.o
    rw [dN (by rw [LLH.o]; exact nR _),List.append_nil,FW.o] at h1
    unfold bw
    rw [if_neg (show ¬ aM (ap O gs (n + 1) h) v = 0 by rw [HS.o]; omega),HLOW.o]
    exact h1,BL4.o⟩
  obtain ⟨gh,rfl⟩:∃ g,gk = g + 1:=⟨gk - 1,by omega⟩
  obtain ⟨cj,hcj⟩:=nm (ap O gs (n + 1) h (j:Int))
  obtain ⟨pj,hpj⟩:=nm (low.getD j 0)
  have hm:=M.o (j:Int)
  have QC:=aH (M.o.qb (j:Int))
  rw [hcj] at hm QC
  have QP:Hd (QB (bq n) pj):=aH (by rw [<- hpj]; exact cF (P:=fun q=>QB (bq n) q) (cB _ (by have:=lE n; omega)) QL.o)
  have LK:Hd (∀ w',SeenAt w' mv L->(Instr.lookup 206 mv (.int .i64 (j:Int)) false).run Tryz.prog w' = .ok (.int .i64 cj) w'):=aH (fun w' hw'=>by
   rw [<- hcj]
   exact hw'.look CN.o (x:=(j:Int)) (by omega))
  have jl:j < low.length:=by rw [LLH.o]; omega
  have hget:=fz fw low jl
  rw [hpj] at hget
  have HG:=aH hget
  have JL:=aH jl
  obtain ⟨X3,hX3⟩:∃ x:Rat,(kk:Rat) * pj = x:=⟨_,rfl⟩
  obtain ⟨X4,hX4⟩:∃ x:Rat,(cj:Rat) + X3 = x:=⟨_,rfl⟩
  have Q3:Hd (QB 4393000 X3):=aH (by rw [<- hX3]; exact (QK.o.mul QP.o).mono (by omega))
  have Q4:Hd (QB 4394000 X4):=aH (by rw [<- hX4]; exact (QC.o.add Q3.o).mono (by omega))
  have HX3:=aH hX3
  have HX4:=aH hX4
  have HV:Hd (X4 / D = fw j):=aH (by
   rw [FW.o]
   simp only [iA]
   rw [hcj,hpj,HS.o,HKK.o,HD.o,<- HX4.o,<- HX3.o,show ((aF (ap O gs (n + 1) h) v:Nat):Rat) = (kk:Rat) by rw [<- HKK.o]; exact (Rat.intCast_natCast _).symm])
  obtain ⟨Ap,mp,cp,Ap',mp',cp',e0,e1,e2,_,_,_,tp⟩:=F4.o.get hget
  have TP:=aH (tp.frac (k:=5000000) (QP.o.mono (by omega)) (by omega))
  have hb1:=F4.o.lt
  clear hcj hpj hget jl hX3 hX4 tp
  have j1:(0:Int) <= (j:Int):=by omega
  have j2:(j:Int) < (v:Int) + 1:=by omega
  go_wp2_with fail
  obtain ⟨W9,hW9,G0,GB,Ghs⟩:=aA wr 40 [.bool (ae pj),.slice Ap mp cp,.slice Ap' mp' cp']
  rw [<- hW9]
  clear hW9
  have SN5:=aH (SN4.o.below GB.o)
  have F5:=aH (F4.o.below GB.o)
  have TP5:=aH (TP.o.below GB.o)
  obtain ⟨G0',G1',G2',_,_,_⟩:=G0.o.three
  have hbg:=G0.o.lt
  have BB:=aH (Below.refl W9.heap.size W9)
  have hS:=aI G0' (aI G1' (aI G2' (aI (LK.o _ SN5.o) (LN.o _ SN5.o))))
  clear e0 e1 e2
  go_region_held3 (fun w'=>w'.cell? ⟨wr.heap.size,0,none⟩ = some (.bool (ae pj))/\w'.cell? ⟨wr.heap.size,1,none⟩ = some (.slice Ap mp cp)/\w'.cell? ⟨wr.heap.size,2,none⟩ = some (.slice Ap' mp' cp')/\(Instr.lookup 206 mv (.int .i64 (j:Int)) false).run Tryz.prog w' = .ok (.int .i64 cj) w'/\(Builtin.len_ #[206] 3 #[mv]).run Tryz.prog w' = .ok (.int .i64 kk) w')
   (first | assumption | exact ⟨aj hS.1 (show wr.heap.size ≠ b1 by omega) _ _ _ _ _ _,aj hS.2.1 (show wr.heap.size ≠ b1 by omega) _ _ _ _ _ _,aj hS.2.2.1 (show wr.heap.size ≠ b1 by omega) _ _ _ _ _ _,LK.o _ ((SN5.o.below BB.o).far3 (F5.o.below BB.o) _ _ _ _ _ _),LN.o _ ((SN5.o.below BB.o).far3 (F5.o.below BB.o) _ _ _ _ _ _)⟩ | exact ⟨hS.1,hS.2.1,hS.2.2.1,LK.o _ (SeenAt.drew SN5.o),LN.o _ (SeenAt.drew SN5.o)⟩)
   (first
    | (go_at_call_of 110 (Value.int .i64 cj); refine (ofI _ cj (by omega) (by omega)).mono ?_; rintro e wl ⟨u1,rfl,t,hb⟩; have hb0:=hb; (first | replace hb:=below_new_drew hb | replace hb:=below_new hb | replace hb:=bO hb | skip); (try (first | replace AB:=aH (AB.o.below' hb) | replace AB:=aH (AB.o.below hb))); (first | have AB:=aH ((BoxC.zero _).below hb0) | have AB:=aH ((BoxC.zero _).below (bO hb0)) | skip); replace BB:=aH (BB.o.trans (hb.mono BB.o.size)); have hs:=BB.o.size; clear hb0; have T1:=aH (t.at_.frac (k:=5000000) (QC.o.mono (by omega)) (by omega)); have hS:=(aI ((BB.o.cell (p:=⟨wr.heap.size,0,none⟩) hbg).trans G0') (aI ((BB.o.cell (p:=⟨wr.heap.size,1,none⟩) hbg).trans G1') (aI ((BB.o.cell (p:=⟨wr.heap.size,2,none⟩) hbg).trans G2') (aI (LK.o _ (SN5.o.below BB.o)) (LN.o _ (SN5.o.below BB.o)))))); clear t hb)
    | (go_at_call_of 110 (Value.int .i64 kk); refine (ofI _ kk (by omega) (by omega)).mono ?_; rintro e wl ⟨u2,rfl,t,hb⟩; have hb0:=hb; (first | replace hb:=below_new_drew hb | replace hb:=below_new hb | replace hb:=bO hb | skip); (try (first | replace AB:=aH (AB.o.below' hb) | replace AB:=aH (AB.o.below hb))); (try (first | replace T1:=aH (T1.o.below' hb) | replace T1:=aH (T1.o.below hb))); (first | have AB:=aH ((BoxC.zero _).below hb0) | have AB:=aH ((BoxC.zero _).below (bO hb0)) | skip); replace BB:=aH (BB.o.trans (hb.mono BB.o.size)); have hs:=BB.o.size; clear hb0; have T2:=aH (t.at_.frac (k:=5000000) (QK.o.mono (by omega)) (by omega)); have hS:=(aI ((BB.o.cell (p:=⟨wr.heap.size,0,none⟩) hbg).trans G0') (aI ((BB.o.cell (p:=⟨wr.heap.size,1,none⟩) hbg).trans G1') (aI ((BB.o.cell (p:=⟨wr.heap.size,2,none⟩) hbg).trans G2') (aI (LK.o _ (SN5.o.below BB.o)) (LN.o _ (SN5.o.below BB.o)))))); clear t hb)
    | (go_at_call 121; refine (lP _ _ _ (kk:Rat) pj 5000000 ?_ ?_ (by omega) (by omega)).mono ?_; (first | exact T2.o | exact T2.o.below (bS _) | exact T2.o.below (bA _ _) | exact T2.o.below (below_alloc_drew _ _)); (exact TP5.o.below BB.o); rintro e wl ⟨u3,rfl,t,hb⟩; rw [HX3.o] at t; have hb0:=hb; (first | replace hb:=below_new_drew hb | replace hb:=below_new hb | replace hb:=bO hb | skip); (try (first | replace AB:=aH (AB.o.below' hb) | replace AB:=aH (AB.o.below hb))); (try (first | replace T1:=aH (T1.o.below' hb) | replace T1:=aH (T1.o.below hb))); (first | have AB:=aH ((BoxC.zero _).below hb0) | have AB:=aH ((BoxC.zero _).below (bO hb0)) | skip); replace BB:=aH (BB.o.trans (hb.mono BB.o.size)); have hs:=BB.o.size; clear hb0; have T3:=aH (t.at_.frac (k:=5000000) (Q3.o.mono (by omega)) (by omega)); have hS:=(aI ((BB.o.cell (p:=⟨wr.heap.size,0,none⟩) hbg).trans G0') (aI ((BB.o.cell (p:=⟨wr.heap.size,1,none⟩) hbg).trans G1') (aI ((BB.o.cell (p:=⟨wr.heap.size,2,none⟩) hbg).trans G2') (aI (LK.o _ (SN5.o.below BB.o)) (LN.o _ (SN5.o.below BB.o)))))); clear t hb)
    | (go_at_call 120; refine (l8 _ _ _ (cj:Rat) X3 5000000 ?_ ?_ (by omega) (by omega)).mono ?_; (first | exact T1.o | exact T1.o.below (bS _) | exact T1.o.below (bA _ _) | exact T1.o.below (below_alloc_drew _ _)); (first | exact T3.o | exact T3.o.below (bS _) | exact T3.o.below (bA _ _) | exact T3.o.below (below_alloc_drew _ _)); rintro e wl ⟨u4,rfl,t,hb⟩; rw [HX4.o] at t; have hb0:=hb; (first | replace hb:=below_new_drew hb | replace hb:=below_new hb | replace hb:=bO hb | skip); (try (first | replace AB:=aH (AB.o.below' hb) | replace AB:=aH (AB.o.below hb))); (first | have AB:=aH ((BoxC.zero _).below hb0) | have AB:=aH ((BoxC.zero _).below (bO hb0)) | skip); replace BB:=aH (BB.o.trans (hb.mono BB.o.size)); have hs:=BB.o.size; clear hb0; have T4:=aH (t.at_.frac (k:=5000000) (Q4.o.mono (by omega)) (by omega)); have hS:=(aI ((BB.o.cell (p:=⟨wr.heap.size,0,none⟩) hbg).trans G0') (aI ((BB.o.cell (p:=⟨wr.heap.size,1,none⟩) hbg).trans G1') (aI ((BB.o.cell (p:=⟨wr.heap.size,2,none⟩) hbg).trans G2') (aI (LK.o _ (SN5.o.below BB.o)) (LN.o _ (SN5.o.below BB.o)))))); clear t hb)
    | (go_at_call 110; refine (ofI _ (N + kk) (by omega) (by omega)).mono ?_; rintro e wl ⟨u5,rfl,t,hb⟩; rw [HD.o] at t; have hb0:=hb; (first | replace hb:=below_new_drew hb | replace hb:=below_new hb | replace hb:=bO hb | skip); (try (first | replace AB:=aH (AB.o.below' hb) | replace AB:=aH (AB.o.below hb))); (try (first | replace T4:=aH (T4.o.below' hb) | replace T4:=aH (T4.o.below hb))); (first | have AB:=aH ((BoxC.zero _).below hb0) | have AB:=aH ((BoxC.zero _).below (bO hb0)) | skip); replace BB:=aH (BB.o.trans (hb.mono BB.o.size)); have hs:=BB.o.size; clear hb0; have T5:=aH (t.at_.frac (k:=5000000) (QD.o.mono (by omega)) (by omega)); have hS:=(aI ((BB.o.cell (p:=⟨wr.heap.size,0,none⟩) hbg).trans G0') (aI ((BB.o.cell (p:=⟨wr.heap.size,1,none⟩) hbg).trans G1') (aI ((BB.o.cell (p:=⟨wr.heap.size,2,none⟩) hbg).trans G2') (aI (LK.o _ (SN5.o.below BB.o)) (LN.o _ (SN5.o.below BB.o)))))); clear t hb)
    | (go_at_call 223; refine (mS _ _ _ X4 D 5000000 ?_ ?_ (by omega) (by omega) D0.o).mono ?_; (first | exact T4.o | exact T4.o.below (bS _) | exact T4.o.below (bA _ _) | exact T4.o.below (below_alloc_drew _ _)); (first | exact T5.o | exact T5.o.below (bS _) | exact T5.o.below (bA _ _) | exact T5.o.below (below_alloc_drew _ _)); rintro e wl ⟨u6,rfl,t,hb⟩; rw [HV.o] at t; have hb0:=hb; (first | replace hb:=below_new_drew hb | replace hb:=below_new hb | replace hb:=bO hb | skip); (try (first | replace AB:=aH (AB.o.below' hb) | replace AB:=aH (AB.o.below hb))); (first | have AB:=aH ((BoxC.zero _).below hb0) | have AB:=aH ((BoxC.zero _).below (bO hb0)) | skip); replace BB:=aH (BB.o.trans (hb.mono BB.o.size)); have hs:=BB.o.size; clear hb0; obtain ⟨Ar,mr,cr,Ar',mr',cr',rfl⟩:=t.at_.open_; have T6:=aH t.at_; have hS:=(aI ((BB.o.cell (p:=⟨wr.heap.size,0,none⟩) hbg).trans G0') (aI ((BB.o.cell (p:=⟨wr.heap.size,1,none⟩) hbg).trans G1') (aI ((BB.o.cell (p:=⟨wr.heap.size,2,none⟩) hbg).trans G2') (aI (LK.o _ (SN5.o.below BB.o)) (LN.o _ (SN5.o.below BB.o)))))); obtain ⟨_,_,_,_,_,_,f0,f1,f2,y0,y1,y2,_⟩:=(F5.o.below BB.o).get HG.o; clear t hb))
  go_wp2_with fail
  go_roundg gh
  case measure=>omega
  case rel =>
   have F6:=F5.o.below BB.o
   exact ⟨j + 1,rfl,by omega,aH (by
    have:=F6.put (i:=j) (by have:=JL.o; simp; omega) rfl T6.o
    rwa [cN fw low JL.o rfl] at this),aH ((SN5.o.below BB.o).far3 F6 _ _ _ _ _ _),aH (aL (BL4.o.trans ((GB.o.trans (BB.o.mono GB.o.size)).mono BL4.o.size)) (by omega) _ _ _ _ _ _)⟩
section
structure Mid (B:Nat) (W W':World):Prop where
 size:W.heap.size <= W'.heap.size
 same:∀ k,B <= k->k < W.heap.size->W'.heap[k]? = W.heap[k]?
theorem Mid.refl (B:Nat) (W:World):Mid B W W:=⟨nR _,fun _ _ _=>rfl⟩
theorem Mid.trans {B:Nat} {X Y Z:World} (h:Mid B X Y) (k:Mid B Y Z):Mid B X Z:=⟨Nat.le_trans h.size k.size,fun i hB hi=>(k.same i hB (Nat.lt_of_lt_of_le hi h.size)).trans (h.same i hB hi)⟩
theorem Mid.of_below {B:Nat} {W W':World} (h:Below W.heap.size W W'):Mid B W W':=⟨h.size,fun i _ hi=>h.block i hi⟩
theorem Mid.of_grown {B b:Nat} {W W':World} (hg:W.grownBy W' (some b))(hb:b < B):Mid B W W':=⟨hg.size,fun i hB hi=>hg.block i hi (fun e=>by cases e; omega)⟩
theorem Mid.cell {B:Nat} {W W':World} (h:Mid B W W') {p:Addr} (h1:B <= p.block)(h2:p.block < W.heap.size):W'.cell? p = W.cell? p:=by
 unfold World.cell?
 rw [h.same _ h1 h2]
theorem Mid.set {B:Nat} {W W':World} (h:Mid B W W') {p:Addr} (hp:p.block < B ∨ W.heap.size <= p.block) (v:Value):Mid B W (W'.setCell p v) :=
 ⟨by show W.heap.size <= (W'.heap.modify _ _).size; rw [Array.size_modify]; exact h.size,fun i hB hi=>(Below.heap_setCell W' p v i (by omega)).trans (h.same i hB hi)⟩
theorem jI {W W':World} (h:Below W.heap.size W W'):W.grownBy W' none:=⟨h.os,h.tape,h.output,h.size,fun k hk _=>h.block k hk⟩

def rJ (B:Nat) (J:Nat->World->Prop) (i:Nat) (W:World):Exit->Act->World->Prop
 | .normal,_,W'=>Mid B W W'/\J (i + 1) W'
 | _,_,_=>False

def pp (F:Fence) (n:Nat) (P:Program) (g:Nat) (lb:Array Value) (m:Nat) (X:Nat->Value->World->Prop) (B:Nat) (w:World):Prop :=
 ∀ (l:Nat) (J:Nat->World->Prop) (W:World),Below w.heap.size w W->(∀ i W1 W2,J i W1->Below W1.heap.size W1 W2->J i W2) ->
  (∀ i v W1,i < m->X i v W1->J i W1->YieldAt F (n - 1) P l #[v] W1 fun e W'=>e = .returned (.bool true)/\J (i + 1) W'/\Mid B W1 W')->J 0 W ->
  CallsIn F n P g (#[.func (.yield l) #[] #[]] ++ lb) W fun e W'=>(∃ v,e = .returned v)/\J m W'

variable {F:Fence} {n:Nat} {P:Program}

theorem ew {g:Operand} {ps:Array Tmp} {assign body:Code} {Q:Exit->Act->World->Prop} {a:Act} {w:World}
  (hro:F.round = none)(h1:1 <= n) {gf:Nat} {lb:Array Value} (hg:a.eval g = .func (.func gf) #[] lb)(hFg:F.fn gf) (eg:∀ args w,(callFunc gf args).run P w = .ok (.enter gf args) w)
  {m:Nat} {X:Nat->Value->World->Prop} (hX:∀ i v,OwnFrom w.heap.size (fun (_:Unit) W=>X i v W)) {B:Nat} (hBw:B <= w.heap.size) (hseq:pp F (n - 1) P gf lb m X B w) (hps:ps.size = 1)
  (I:Nat->World->Prop) (hI:OwnFrom w.heap.size I) (h0:I 0 w) (a₁:Value->Act)
  (hassign:∀ (l:Nat) (v:Value) (W:World) (K:Act->World->Prop),K (a₁ v) W ->
   assign.wpIn (F.inRound l) (n - 1 - 1) P (Exit.then K (fun _ _ _=>False)) { tmps:=(ps.zip #[v]).foldl (fun t (p,v)=>t.setIfInBounds p v) a.tmps,defers:=[] } W)
  (hbody:∀ (l:Nat) (i:Nat) (v:Value) (W:World),i < m->X i v W->I i W->w.heap.size + 1 < W.heap.size->body.wpIn (F.inRound l) (n - 1 - 1) P (rJ B I i W) (a₁ v) W)
  (hdone:∀ (W:World),I m W->W.heap[w.heap.size]? = some (.deferred (some []))->Q .normal { a with defers:={ target:=.collected w.heap.size,args:=#[] } :: a.defers } W) :
  (Code.rangeFunc g ps assign body).wpIn F n P Q a w:=by
 refine wpIn_rangeFunc ?_
 intro fn hfn
 rw [hro]
 obtain ⟨rec,hrec⟩:∃ rec:LoopState->Option Code->Loop,rec = fun st pe=>{ state:=st,pending:=pe,fn,tmps:=a.tmps,params:=ps,assign,body,defers:=w.heap.size }:=⟨_,rfl⟩
 obtain ⟨W1,hW1⟩:=nm ((w.alloc (.deferred (some []))).alloc (.loop (rec .ready none)))
 have hL1:W1.heap[w.heap.size + 1]? = some (.loop (rec .ready none)):=by
  rw [<- hW1]; have:=World.alloc_heap_new (w.alloc (.deferred (some []))) (.loop (rec .ready none)); rwa [World.size_alloc] at this
 have hK1:W1.heap[w.heap.size]? = some (.deferred (some [])):=by
  rw [<- hW1]; exact (Below.heap_alloc _ _ _ (by simp)).trans (World.alloc_heap_new w _)
 have hI1:I 0 W1:=by rw [<- hW1]; exact hI.alloc _ (hI.alloc _ h0)
 have hb1:Below w.heap.size w W1:=by
  rw [<- hW1]; exact ((Below.refl _ w).alloc (nR _) _).alloc (by simp) _
 refine ⟨w.heap.size + 1,[{ target:=.collected w.heap.size,args:=#[] }],W1,{ target:=.fn (.func gf) lb,args:=#[.func (.yield (w.heap.size + 1)) #[] #[]] },W1,gf,
  #[.func (.yield (w.heap.size + 1)) #[] #[]] ++ lb,W1,?_,?_,?_,?_,fun _=>h1,?_⟩
 ·rw [<- hW1,hrec]; exact run_enterLoop_outer _ _ _ _ _
 ·simp only [resolve,hg]
  simp [go_sem]
 ·intro f' hf'; simp [Target.leads] at hf'; subst hf'; exact hFg
 ·simp [invoke,go_sem,eg]
 refine (hseq (w.heap.size + 1)
  (fun i W=>I i W/\W.heap[w.heap.size + 1]? = some (.loop (rec .ready none))/\W.heap[w.heap.size]? = some (.deferred (some [])))
  W1 hb1
  (fun i A B hs hb=>⟨hI i A B none hs.1 (jI hb) (fun r e=>by cases e),(hb.block _ (Array.getElem?_eq_some_iff.1 hs.2.1).1).trans hs.2.1,(hb.block _ (Array.getElem?_eq_some_iff.1 hs.2.2).1).trans hs.2.2⟩)
  ?_ ⟨hI1,hL1,hK1⟩).mono ?_
 ·rintro i v W him hx ⟨hi,hl,hk⟩
  have hlt:w.heap.size + 1 < W.heap.size:=(Array.getElem?_eq_some_iff.1 hl).1
  have hy:=run_yield (P:=P) (args:=#[v]) hl (by rw [hrec,hps]; rfl)
  rw [hrec] at hy
  refine ⟨fn,_,assign,body,hy,roundIn_of_wpIn hfn (hassign _ v W _ ⟨_,run_beginRound hl (by rw [hrec]),?_⟩)⟩
  have hl2:(W.putObj (w.heap.size + 1) (.loop { rec .ready none with state:=.busy })).heap[w.heap.size + 1]? = some (.loop { rec .ready none with state:=.busy }):=World.putObj_heap_same hlt
  have hk2:(W.putObj (w.heap.size + 1) (.loop { rec .ready none with state:=.busy })).heap[w.heap.size]? = some (.deferred (some [])):=(World.putObj_heap_other (by omega)).trans hk
  refine wpIn_mono (hbody _ i v _ him ((hX i v).putObj (s:=()) _ hx (by omega) hl rfl) (hI.putObj _ hi (by omega) hl rfl) (by rw [World.putObj_size]; exact hlt)) ?_
  rintro e a3 W3 hp
  cases e with
  | normal =>
   obtain ⟨hm3,hi3⟩:=hp
   have hl3:=(hm3.same (w.heap.size + 1) (by omega) (by rw [World.putObj_size]; exact hlt)).trans hl2
   have hk3:=(hm3.same w.heap.size hBw (by rw [World.putObj_size]; omega)).trans hk2
   have hr:=run_endRound (P:=P) none hl3
   rw [hrec] at hr hl3
   refine ⟨_,_,hr,rfl,⟨hI.putObj _ hi3 (by omega) hl3 rfl,?_,(World.putObj_heap_other (by omega)).trans hk3⟩,?_⟩
   ·rw [hrec]
    exact World.putObj_heap_same (Array.getElem?_eq_some_iff.1 hl3).1
   refine ⟨by rw [World.putObj_size]; exact Nat.le_trans (by rw [World.putObj_size]; exact nR _) hm3.size,fun k hB hkk=>?_⟩
   by_cases e:k = w.heap.size + 1
   ·subst e
    rw [World.putObj_heap_same (Array.getElem?_eq_some_iff.1 hl3).1,hl,hrec]
    rfl
   rw [World.putObj_heap_other e,hm3.same k hB (by rw [World.putObj_size]; exact hkk),World.putObj_heap_other e]
  | ret=>exact hp.elim
  | exit id=>exact hp.elim
  | goto t=>exact hp.elim
  | panic ch=>exact hp.elim
  | outgrown=>exact hp.elim
 rintro e W2 ⟨⟨v,rfl⟩,hi,hl,hk⟩
 exact ⟨none,_,by have:=run_endLoop (P:=P) hl (by rw [hrec]; simp); rw [hrec] at this; exact this,hdone _ (hI.putObj _ hi (by omega) hl rfl) ((World.putObj_heap_other (by omega)).trans hk)⟩
end
section
variable {P:Program} {Q:Exit->Act->World->Prop} {l n:Nat} {md:Region.Mode} {ops:Array Oper}

theorem mU {o:Oper} {a:Act} {w:World} {K:Act->World->Prop} (hnd:∀ c,o.op ≠ .defer c)(h:o.wp P a w K Q):o.wpIn (Fence.wide.inRound l) n P a w K Q:=by
 refine ⟨fun _ _=>trivial,?_⟩
 rw [Oper.semAt_eq _ _ _ hnd]
 unfold Oper.wp at h
 generalize (execOp a.eval o).run P w = r at *
 have hd:(Fence.wide.inRound l).depth.isSome = true->1 <= n:=fun e=>by cases e
 cases r with
 | ok x w' =>
  cases x <;> simp only [Oper.upon,Oper.uponIn] at h ⊢ <;> first
   | exact h
   | exact ⟨hd,CallsIn.inRound l (callsIn_wide.2 h)⟩
   | exact ⟨hd,fun c cs _=>let ⟨v,w2,r,s⟩:=h c cs; ⟨v,w2,r,stepsIn_wide.2 s⟩⟩
 | halt x w'=>cases x <;> simp only [Oper.upon,Oper.uponIn] at h ⊢ <;> exact h
theorem eH (hnd:∀ (i:Nat) (o:Oper),ops[i]? = some o->∀ c,o.op ≠ .defer c)(hL:¬ LetsOut Q):∀ (fuel:Nat) (listed:Array Bool) (a:Act) (w:World),wpAny P md ops Q fuel listed a w->wpAnyIn (Fence.wide.inRound l) n P md ops Q fuel listed a w
 | 0,_,_,_,h=>h
 | fuel + 1,listed,a,w,h=>⟨h.1,fun i hi=>by
  have h1:=h.2 i hi
  unfold wpOpIn
  unfold wpOp at h1
  cases ho:ops[i]? with
  | none=>rw [ho] at h1; exact eH hnd hL fuel _ _ _ h1
  | some o =>
   rw [ho] at h1
   simp only at h1 ⊢
   split
   ·next hw =>
    rw [if_pos hw] at h1
    rcases h1 with h1 | h1
    ·exact Oper.wpIn_mono (fun a w h2=>eH hnd hL fuel _ a w h2) (mU (hnd i o ho) h1)
    exact absurd h1.2 hL
   next hw =>
   rw [if_neg hw] at h1
   exact ⟨fun _ _=>trivial,eH hnd hL fuel _ _ _ h1⟩⟩
theorem dx {S:World->Prop} {id:Nat} {a:Act} {w:World} (hm:P.follows .mixedOrders = true)(hnd:∀ (i:Nat) (o:Oper),ops[i]? = some o->∀ c,o.op ≠ .defer c)(hL:¬ LetsOut Q)(hS:S w.drew)
  (h:S w.drew->wpAnyH P .any ops Q S ops.size (Array.replicate ops.size false) a w.drew):(Code.region id ops true).wpIn (Fence.wide.inRound l) n P Q a w :=
 wpIn_region_any hm (eH hnd hL _ _ _ _ (wpAny_of_held _ _ _ _ (h hS)))
def r7:Op->Bool
 | .defer _=>false
 | _=>true
def uE (ops:Array Oper):Bool:=ops.all fun o=>r7 o.op
theorem eC {ops:Array Oper} (h:uE ops = true):∀ (i:Nat) (o:Oper),ops[i]? = some o->∀ c,o.op ≠ .defer c:=by
 intro i o ho c e
 have h1:=Array.all_eq_true.1 h i (Array.getElem?_eq_some_iff.1 ho).1
 rw [(Array.getElem?_eq_some_iff.1 ho).2,e] at h1
 cases h1
end
section
structure Calm (W W':World):Prop where
 size:W.heap.size <= W'.heap.size
 same:∀ (g:Nat) (o:Obj),W.heap[g]? = some o->o.isCells = true->W'.heap[g]? = some o
theorem Calm.refl (W:World):Calm W W:=⟨nR _,fun _ _ h _=>h⟩
theorem Calm.trans {X Y Z:World} (h:Calm X Y) (k:Calm Y Z):Calm X Z:=⟨Nat.le_trans h.size k.size,fun g o ho hc=>k.same g o (h.same g o ho hc) hc⟩
theorem Calm.of_below {W W':World} (h:Below W.heap.size W W'):Calm W W':=⟨h.size,fun g o ho _=>(h.block g (Array.getElem?_eq_some_iff.1 ho).1).trans ho⟩
theorem Calm.of_grown {W W':World} {row:Option Nat} (hg:W.grownBy W' row)(hr:∀ r,row = some r->∃ o:Obj,W.heap[r]? = some o/\o.isCells = false):Calm W W' :=
 ⟨hg.size,fun g o ho hc=>(grownBy_keeps_cells hg hr ho hc).trans ho⟩
theorem Calm.cell {W W':World} (h:Calm W W') {p:Addr} {x:Value} (hx:W.cell? p = some x):W'.cell? p = some x:=by
 obtain ⟨o,ho,hc⟩:=cells_of_cell hx
 exact (World.cell?_of_block ((h.same _ o ho hc).trans ho.symm)).trans hx
theorem Blk.calm {W W':World} {g:Nat} {e:TypeId} {xs:List Value} (h:Blk W g e xs)(hc:Calm W W'):Blk W' g e xs:=hc.same _ _ h rfl
theorem Sl.calm {W W':World} {sz n:Nat} {v:Value} {xs:List Value} (h:Sl W sz v n xs)(hc:Calm W W'):Sl W' sz v n xs:=by
 obtain ⟨h0,A,c,e,h2,h3,h5⟩:=h
 refine ⟨h0,A,c,e,h2,h3,fun hn=>?_⟩
 obtain ⟨b,off,e,hlt,hcl⟩:=h5 hn
 exact ⟨b,off,e,Nat.lt_of_lt_of_le hlt hc.size,fun j u hu=>hc.cell (hcl j u hu)⟩
theorem NatAt.calm {W W':World} {v:Value} {n:Nat} (h:NatAt W v n)(hc:Calm W W'):NatAt W' v n:=by
 obtain ⟨l,h1,h2⟩:=h
 exact ⟨l,⟨h1.1.calm hc,h1.2⟩,h2⟩
theorem CanAt.calm {W W':World} {v:Value} {q:Rat} (h:CanAt W v q)(hc:Calm W W'):CanAt W' v q:=by
 obtain ⟨vn,vd,e,h1,h2⟩:=h
 exact ⟨vn,vd,e,h1.calm hc,h2.calm hc⟩
theorem FArc.calm {W W':World} {b:Nat} {qs:List Rat} (h:FArc W b qs)(hc:Calm W W'):FArc W' b qs:=by
 obtain ⟨xs,h1,h2,hx,h3⟩:=h
 refine ⟨xs,h1.calm hc,h2,hx,fun i q hq=>?_⟩
 obtain ⟨A,m,c,A',m',c',e0,e1,e2,e3⟩:=h3 i q hq
 exact ⟨A,m,c,A',m',c',e0,e1,e2,e3.calm hc⟩
theorem BoxC.calm {W W':World} {b:Nat} {q:Rat} (h:BoxC W b q)(hc:Calm W W'):BoxC W' b q:=FArc.calm h hc
theorem IntsAt.calm {W W':World} {v:Value} {l:List Int} (h:IntsAt W v l)(hc:Calm W W'):IntsAt W' v l:=Sl.calm h hc

section
variable {K V:Type} [DecidableEq K] {ek:K->Value} {ev:V->Value} {kt:TypeId}
theorem TMap.notCells {W:World} {b:Nat} {m:List (K × V)} (h:TMap ek ev W kt b m):∃ o:Obj,W.heap[b]? = some o/\o.isCells = false:=⟨_,h.1,rfl⟩
theorem TMap.blk_ne {W:World} {b g:Nat} {m:List (K × V)} {e:TypeId} {xs:List Value} (h:TMap ek ev W kt b m)(hg:Blk W g e xs):b ≠ g:=by
 intro e'
 subst e'
 have h2:=h.1
 unfold Blk at hg
 rw [hg] at h2
 cases h2
theorem TMap.far3 {W:World} {b g:Nat} {m:List (K × V)} {rs:List Rat} (h:TMap ek ev W kt b m)(hg:FArc W g rs) (i j k:Nat) (u0 u1 u2:Value):TMap ek ev (((W.setCell ⟨g,i,none⟩ u0).setCell ⟨g,j,none⟩ u1).setCell ⟨g,k,none⟩ u2) kt b m:=by
 obtain ⟨xs,h1,hx⟩:=hg.blk
 have hne:=h.blk_ne h1
 exact ((h.far (p:=⟨g,i,none⟩) hne _).far (p:=⟨g,j,none⟩) hne _).far (p:=⟨g,k,none⟩) hne _
end
end
def si (r:Nat):Deferred:={ target:=.collected r,args:=#[] }
def xz (rs:List Nat) (W W':World):Prop:=Calm W W'/\W'.heap.size = W.heap.size/\(∀ g:Nat,¬ g ∈ rs->W'.heap[g]? = W.heap[g]?)/\∀ B,(∀ r ∈ rs,B <= r)->B <= W.heap.size->Below B W W'
theorem ig {F:Fence} {n:Nat} {P:Program} {fn:Func} {tmps:Array Value} {R:Ending->World->Prop}:∀ (rs:List Nat) (W:World),(∀ r ∈ rs,W.heap[r]? = some (.deferred (some [])))->rs.Nodup ->
  (∀ W',xz rs W W'->LeavesInM F n P fn tmps R [] .returning W')->LeavesInM F n P fn tmps R (rs.map si) .returning W
 | [],W,_,_,h=>h W ⟨Calm.refl W,rfl,fun _ _=>rfl,fun _ _ hB=>(Below.refl _ W).mono hB⟩
 | r :: rs,W,hr,hn,h=>by
  rw [List.nodup_cons] at hn
  have hr0:W.heap[r]? = some (.deferred (some [])):=hr r List.mem_cons_self
  have G:=grownBy_putObj' W r (.deferred none)
  refine ⟨by simp,.inl ⟨r,_,rfl,run_takeDeferred hr0,?_⟩⟩
  refine ig rs _ (fun x hx=>?_) hn.2 (fun W' hs=>h W' ?_)
  ·rw [World.putObj_heap_other (show x ≠ r from fun e=>hn.1 (e ▸ hx))]
   exact hr x (List.mem_cons_of_mem _ hx)
  have hc:Calm W (W.putObj r (.deferred none)):=Calm.of_grown G (fun r' e=>by cases e; exact ⟨_,hr0,rfl⟩)
  refine ⟨hc.trans hs.1,by rw [hs.2.1,World.putObj_size],fun g hg=>(hs.2.2.1 g (fun h=>hg (List.mem_cons_of_mem _ h))).trans (World.putObj_heap_other (show g ≠ r from fun e=>hg (e ▸ List.mem_cons_self))),fun B hB hBW=>?_⟩
  have h1:Below B W (W.putObj r (.deferred none)):=((Below.refl _ W).mono hBW).grown G hBW (fun k e=>by cases e; exact hB r List.mem_cons_self)
  exact h1.trans (hs.2.2.2 B (fun x hx=>hB x (List.mem_cons_of_mem _ hx)) (by rw [World.putObj_size]; exact hBW))
end Go.Proofs.YtjebfdfkjlkifaaGreat
