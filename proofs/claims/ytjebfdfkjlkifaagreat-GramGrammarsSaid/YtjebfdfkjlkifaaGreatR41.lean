/- Lemmas. -/
import Derived.Test.YtjebfdfkjlkifaaGreatR36
set_option linter.all false
set_option maxRecDepth 1000000
set_option maxHeartbeats 32000000
namespace Go.Proofs.YtjebfdfkjlkifaaGreat
open Go.RowKit
theorem IntsAt.cut {w:World} {A:Option Addr} {n c k m:Nat} {l:List Int} (h:IntsAt w (.slice A n c) l)(hl:l.length = n)(hk:k <= n)(hm:m = n - k):IntsAt w (.slice (A.map fun x=>x.add k) m (c - k)) (l.drop k):=by
 subst hm
 obtain ⟨A',c',e,hc,hcm,hat⟩:=h.open_
 have hA:A = A'/\n = l.length/\c = c':=by cases e; exact ⟨rfl,rfl,rfl⟩
 obtain ⟨rfl,_,rfl⟩:=hA
 clear e
 rcases zP n with h0 | h0
 ·have hd:l.drop k = []:=List.eq_nil_of_length_eq_zero (by rw [List.length_drop]; omega)
  unfold IntsAt
  rw [hd]
  exact Sl.none' _ _ _ _ _ _ (by omega) rfl (by unfold maxLen; omega)
 obtain ⟨y,hy⟩:∃ y,l[0]? = some y:=⟨_,eG (by omega)⟩
 obtain ⟨b,o,rfl,_,_⟩:=hat 0 y hy
 unfold IntsAt at h ⊢
 rw [hl] at h
 have:=Sl.tail (k:=k) h hk
 rw [List.length_drop,hl,List.map_drop]
 have e:(⟨b,o,none⟩:Addr).add k = ⟨b,o + k,none⟩:=by unfold Addr.add; split <;> simp_all
 rw [Option.map_some,e]
 simpa using this
theorem IntsAt.none_ {w:World} {A:Option Addr} {c:Nat} (hc:c <= 9223372036854775807):IntsAt w (.slice A 0 c) []:=by
 unfold IntsAt
 exact Sl.none' _ _ _ _ _ _ rfl rfl (by unfold maxLen; omega)

theorem vP (O b v:Nat) (gs:List Gr)(hO:O <= 4)(hT:SmallT gs v) (n:Nat) (w:World)(hv:Value)(h:List Int) (mv:Value) (mix:List Rat)(hn:1 <= n/\n <= O)(hL:LvsAt w b O 0 gs)(hI:IntsAt w hv h)(hl:h.length = n - 1)(hk:NiceK h)(hm:FracsAt 64 w mv mix)(hml:mix.length = n + 1) :
  Calls Tryz.prog 218 #[.agg #[.slice (some ⟨b,0,none⟩) (O + 1) (O + 1),.int .i64 ((v + 1:Nat):Int),mv],.int .i64 n,hv] w (dj w v (dR (ap O gs) v mix n h)):=by
 have hv8:=hT.2.2.2
 obtain ⟨Ah,ch,rfl,hlc,hcm,_⟩:=hI.open_
 obtain ⟨Am,cm,rfl,hmc,hmm,hat⟩:=hm.open_
 obtain ⟨p,hp⟩:=nm (h.length)
 have hpn:p + 1 = n:=by omega
 rw [hp] at hI hlc ⊢
 rw [hml] at hm hmc ⊢
 have HI:=aH hI
 have HL:=aH hL
 have HLN:=aH hp
 have HM:=aH hm
 have HML:=aH hml
 have HAT:=aH hat
 have HK:=aH hk
 have HT:=aH hT
 have QM:Hd (∀ q ∈ mix,QB 64 q):=aH (fun q hq=>by
  obtain ⟨j,hj⟩:=List.mem_iff_getElem?.1 hq
  obtain ⟨_,_,_,_,_,_,_,_,_,_,hf⟩:=hat j q hj
  exact hf.qb (by omega))
 clear hI hL hl hm hml hat hk hT hp
 go_enter Tryz.func218,Tryz.ntmps218
 go_wp2_with (at_make; refine aD rfl _ _ rfl ((v:Int) + 1) (v + 1) rfl rfl (by omega) (by omega) ?_)
 obtain ⟨W,hW,P0,PB,Phs⟩:=aA w 175 [.slice (some ⟨b,0,none⟩) (O + 1) (O + 1),.int .i64 ((v:Int) + 1),.slice Am (n + 1) cm]
 rw [<- hW]
 clear hW
 intro w1 hf1 hb1
 have F1:=aH hf1.arc
 have P1:=aH (P0.o.below hb1 (by omega))
 have B1:=aH (PB.o.trans (hb1.mono (by omega)))
 obtain ⟨p0,p1,p2,_,_,_⟩:=P1.o.three
 clear hf1 hb1
 go_wp2_with fail
 refine (tA w1 (.slice (some ⟨b,0,none⟩) (O + 1) (O + 1)) (v + 1) (by omega) (by omega) rfl _ _ _ rfl).mono ?_
 rintro e w2 ⟨be,rfl,hbe,hf2,hb2⟩
 have hbo:w.heap.size + 1 < w1.heap.size:=F1.o.lt
 have E2:Hd (FArc w2 be (cG (ap O gs) v h 0)):=aH hf2.arc
 have F2:=aH (F1.o.below hb2)
 have P2:=aH (P1.o.below' hb2)
 have B2:=aH (B1.o.trans (hb2.mono B1.o.size))
 obtain ⟨ow,how⟩:∃ f:Nat->Nat->Rat,f = fun j x=>jD (ap O gs) v mix h x j:=⟨_,rfl⟩
 have OW:=aH how
 have F2':Hd (FArc w2 (w.heap.size + 1) ((List.range (v + 1)).map (ow 0))):=aH (by
  have:=F2.o
  rw [OW.o]
  have e:(List.range (v + 1)).map (fun x=>jD (ap O gs) v mix h x 0) = List.replicate (v + 1) 0:=by
   apply List.ext_getElem?
   intro i
   by_cases hi:i < v + 1
   ·rw [List.getElem?_map,List.getElem?_range hi,List.getElem?_replicate_of_lt hi]; rfl
   rw [nI.2 (by simp; omega),nI.2 (by simp; omega)]
  rw [e]
  exact this)
 have MLD:=aH (fun (a:Nat) (b:List Int)=>HT.o.mild O a b)
 clear p0 p1 p2 hf2 hb2 P1 F1 F2 P0 PB B1 how
 go_wp2_with fail
 go_loopg [9,10,11,12,13] (n + 1) (fun gh i _ _ _ _ wz=>∃ (j:Nat),i = .int .i64 j/\j + gh = n + 1/\Hd (FArc wz be (cG (ap O gs) v h (j - 1)))/\Hd (FArc wz (w.heap.size + 1) ((List.range (v + 1)).map (ow j)))/\Hd (Blk wz w.heap.size 175 [.slice (some ⟨b,0,none⟩) (O + 1) (O + 1),.int .i64 ((v:Int) + 1),.slice Am (n + 1) cm])/\Hd (Below w.heap.size w wz))
 case atStart=>exact ⟨0,rfl,by omega,E2,F2',P2,B2⟩
 clear E2 F2' P2 B2
 obtain ⟨j,rfl,hj,E2,F2,P2,B2⟩:=hrel
 obtain ⟨p0,p1,p2,_,_,_⟩:=P2.o.three
 have s2:w.heap.size < wr.heap.size:=P2.o.lt
 rcases zP gk with hh | hh
 ·subst hh
  obtain rfl:j = n + 1:=by omega
  have d1:decide ((n:Int) + 1 <= (n:Int)) = false:=dF (by omega)
  have d2:decide (n + 1 <= n) = false:=dF (by omega)
  go_wp2_with fail
  go_ret
  exact ⟨w.heap.size + 1,rfl,by omega,by
   have:=F2.o
   rw [OW.o] at this
   exact this,B2.o⟩
 obtain ⟨gh,rfl⟩:∃ g,gk = g + 1:=⟨gk - 1,by omega⟩
 have d1:decide ((j:Int) <= (n:Int)) = true:=dT (by omega)
 have d2:decide (j <= n) = true:=dT (by omega)
 go_upto_if 27 with fail
 go_cut [10,11,12] (fun _ _ _ wc=>Hd (FArc wc be (cG (ap O gs) v h j))/\Hd (FArc wc (w.heap.size + 1) ((List.range (v + 1)).map (ow j)))/\Hd (Blk wc w.heap.size 175 [.slice (some ⟨b,0,none⟩) (O + 1) (O + 1),.int .i64 ((v:Int) + 1),.slice Am (n + 1) cm])/\Hd (Below w.heap.size w wc))
 case first =>
  rcases zP j with hj0 | hj0
  ·subst hj0
   go_wp2_with fail
   go_meet
   exact ⟨E2,F2,P2,B2⟩
  obtain ⟨i,rfl⟩:∃ i,j = i + 1:=⟨j - 1,by omega⟩
  obtain ⟨k,rfl⟩:∃ k,p = k + i:=⟨p - i,by omega⟩
  have E2:Hd (FArc wr be (cG (ap O gs) v h i)):=E2
  have j3:decide ((0:Int) < (i:Int) + 1) = true:=dT (by omega)
  have j4:decide (0 < i + 1) = true:=dT (by omega)
  have a1:IntKind.i64.wrap ((k:Int) + (i:Int) - ((i:Int) + 1)) = (k:Int) - 1:=by rw [show (k:Int) + (i:Int) - ((i:Int) + 1) = (k:Int) - 1 by omega]; exact iI _ (by omega)
  have a2:IntKind.i64.wrap ((k:Int) - 1 + 1) = (k:Int):=by rw [show (k:Int) - 1 + 1 = (k:Int) by omega]; exact iI _ (by omega)
  have a3:IntKind.i64.wrap (k:Int) = (k:Int):=iI _ (by omega)
  have a4:(0:Int) <= (k:Int):=by omega
  have a5:(k:Int) <= (k:Int) + (i:Int):=by omega
  have a6:(k:Int) <= (ch:Int):=by omega
  have LV:=aH (HL.o.below B2.o)
  have IW:=aH (HI.o.below B2.o)
  have HDL:Hd ((h.drop k).length = i):=aH (by rw [List.length_drop,HLN.o]; omega)
  have HDK:Hd (NiceK (h.drop k)):=aH ⟨by have:=HK.o.1; rw [List.length_drop]; omega,fun x hx=>HK.o.2 x (List.mem_of_mem_drop hx)⟩
  have hS:=aI p0 p1
  by_cases hck:ch = k
  ·obtain rfl:ch = k:=hck
   go_wp2_with fail
   go_region_held3 (fun w'=>w'.cell? ⟨w.heap.size,0,none⟩ = some (.slice (some ⟨b,0,none⟩) (O + 1) (O + 1))/\w'.cell? ⟨w.heap.size,1,none⟩ = some (.int .i64 ((v:Int) + 1)))
    (first | assumption | go_keep)
    (first
      | (go_at_call 219; refine (mI _ O (i + 1) b _ _ gs (h.drop ch) (LV.o.below (bS _)) ⟨by omega,by omega⟩ hO ?_ (by rw [HDL.o]; omega) HDK.o).mono ?_; (rw [List.eq_nil_of_length_eq_zero (HDL.o.trans (show i = 0 by omega))]; exact IntsAt.none_ (by omega)); rintro e wc ⟨mw,L,rfl,h1,h2,h3,h4'⟩; have h4:=bO h4'; have SN:=aH h1; have CN:Hd (ix L (ap O gs (i + 1) (h.drop ch))):=aH h2; have BC:=aH h4; have hS:=aI ((BC.o.cell (p:=⟨w.heap.size,0,none⟩) (by show w.heap.size < wr.heap.size; omega)).trans p0) ((BC.o.cell (p:=⟨w.heap.size,1,none⟩) (by show w.heap.size < wr.heap.size; omega)).trans p1); clear h1 h2 h3 h4 h4'))
   all_goals
    clear hS
    have M:=aH (MLD.o (i + 1) (h.drop ch))
    have HS0:Hd (el L = aM (ap O gs (i + 1) (h.drop ch)) v):=aH (gV CN.o (HT.o.keys CN.o))
    have EST:Hd (cG (ap O gs) v h (i + 1) = if 0 < aM (ap O gs (i + 1) (h.drop ch)) v then bQ (ap O gs (i + 1) (h.drop ch)) v else cG (ap O gs) v h (i)):=aH (by
     have e:h.length - i = ch:=by rw [HLN.o]; omega
     show (if 0 < aM (ap O gs (i + 1) (h.drop (h.length - i))) v then bQ (ap O gs (i + 1) (h.drop (h.length - i))) v else cG (ap O gs) v h (i)) = _
     rw [e])
    obtain ⟨N,hN⟩:∃ N:Int,el L = N:=⟨_,rfl⟩
    rw [hN]
    have HS:=aH (HS0.o.symm.trans hN)
    have hbs:=bH M.o v
    rw [HS.o] at hbs EST
    have hN0:0 <= N:=hbs.1
    have hN1:N < 900000000000000000:=by omega
    have E3:=aH (E2.o.below BC.o)
    have F3:=aH (F2.o.below BC.o)
    have P3:=aH (P2.o.below' BC.o)
    have B3:=aH (B2.o.trans (BC.o.mono B2.o.size))
    clear hN hbs p0 p1
    by_cases hz:0 < N
    ·have z1:decide (0 < N) = true:=dT hz
     have EQ:Hd (cG (ap O gs) v h (i + 1) = bQ (ap O gs (i + 1) (h.drop ch)) v):=aH (by rw [EST.o,if_pos hz])
     obtain ⟨old,hold⟩:=nm (cG (ap O gs) v h (i))
     have hol:old.length = v + 1:=by rw [<- hold]; exact dD _ _ _ _
     have E4:Hd (FArc wc be old):=aH (by rw [<- hold]; exact E3.o)
     have HOL:=aH hol
     obtain ⟨fw,hfw⟩:∃ f:Nat->Rat,f = fun (x:Nat)=>((ap O gs (i + 1) (h.drop ch) (x:Int):Int):Rat) / (N:Rat):=⟨_,rfl⟩
     have FW:=aH hfw
     clear hfw hold hol
     go_wp2_with fail
     go_loopg [12,46] (v + 1) (fun gq _ ii wz=>∃ (q:Nat),ii = .int .i64 q/\q + gq = v + 1/\Hd (FArc wz be ((List.range q).map fw ++ old.drop q))/\Hd (FArc wz (w.heap.size + 1) ((List.range (v + 1)).map (ow (i + 1))))/\Hd (SeenAt wz mw L)/\Hd (Blk wz w.heap.size 175 [.slice (some ⟨b,0,none⟩) (O + 1) (O + 1),.int .i64 ((v:Int) + 1),.slice Am (n + 1) cm])/\Hd (Below w.heap.size w wz))
     case atStart=>exact ⟨0,rfl,by omega,aH (by simpa using E4.o),F3,SN,P3,B3⟩
     clear E2 F2 P2 B2 E3 F3 P3 B3 E4 SN
     obtain ⟨q,rfl,hq,E4,F4,SN4,P4,B4⟩:=hrel
     rcases zP gk with hh | hh
     ·subst hh
      obtain rfl:q = v + 1:=by omega
      go_wp2_with fail
      go_meet
      exact ⟨aH (by
       have h1:=E4.o
       rw [dN (by rw [HOL.o]; exact nR _),List.append_nil,FW.o] at h1
       rw [EQ.o]
       unfold bQ
       rw [HS.o]
       exact h1),F4,P4,B4⟩
     obtain ⟨gq,rfl⟩:∃ g,gk = g + 1:=⟨gk - 1,by omega⟩
     obtain ⟨cj,hcj⟩:=nm (ap O gs (i + 1) (h.drop ch) (q:Int))
     have hm:=M.o (q:Int)
     rw [hcj] at hm
     have hlk:=SN4.o.look CN.o (x:=(q:Int)) (by omega)
     rw [hcj] at hlk
     have HV:Hd ((cj:Rat) / (N:Rat) = fw q):=aH (by rw [FW.o]; simp only [hcj])
     have q1:(0:Int) <= (q:Int):=by omega
     have q2:(q:Int) < (v:Int) + 1:=by omega
     have ql:q < old.length:=by rw [HOL.o]; omega
     have HGT:=aH (fz fw old ql)
     have QLH:=aH ql
     clear hcj ql
     go_wp2_with fail
     refine (sn _ cj N hm.1 (by omega) hz (by omega)).mono ?_
     rintro e w5 ⟨u,rfl,t5,hb5⟩
     rw [HV.o] at t5
     obtain ⟨Ar,mr,cr,Ar',mr',cr',rfl⟩:=t5.at_.open_
     have T5:=aH t5.at_
     have E5:=aH (E4.o.below hb5)
     have F5:=aH (F4.o.below hb5)
     have SN5:=aH (SN4.o.below hb5)
     have P5:=aH (P4.o.below' hb5)
     have B5:=aH (B4.o.trans (hb5.mono B4.o.size))
     obtain ⟨_,_,_,_,_,_,f0,f1,f2,y0,y1,y2,_⟩:=E5.o.get HGT.o
     clear t5 hb5 hlk
     go_wp2_with fail
     go_roundg gq
     case measure=>omega
     case rel=>exact ⟨q + 1,rfl,by omega,aH (by
      have:=E5.o.put (i:=q) (by have:=QLH.o; simp; omega) rfl T5.o
      rwa [cN fw old QLH.o rfl] at this),aH (F5.o.far E5.o (by omega) _ _ _ _ _ _ _ _ _ _),aH (SN5.o.far3 E5.o _ _ _ _ _ _),aH (P5.o.far3 (by omega) _ _ _ _ _ _),aH (aL B5.o (by omega) _ _ _ _ _ _)⟩
    have z1:decide (0 < N) = false:=dF hz
    have EQ:Hd (cG (ap O gs) v h (i + 1) = cG (ap O gs) v h (i)):=aH (by rw [EST.o,if_neg hz])
    go_wp2_with fail
    go_meet
    exact ⟨aH (by rw [EQ.o]; exact E3.o),F3,P3,B3⟩

  go_wp2_with fail
  go_region_held3 (fun w'=>w'.cell? ⟨w.heap.size,0,none⟩ = some (.slice (some ⟨b,0,none⟩) (O + 1) (O + 1))/\w'.cell? ⟨w.heap.size,1,none⟩ = some (.int .i64 ((v:Int) + 1)))
   (first | assumption | go_keep)
   (first
     | (go_at_call 219; refine (mI _ O (i + 1) b _ _ gs (h.drop k) (LV.o.below (bS _)) ⟨by omega,by omega⟩ hO ?_ (by rw [HDL.o]; omega) HDK.o).mono ?_; (exact IntsAt.drew (IW.o.cut HLN.o (by omega) (by omega))); rintro e wc ⟨mw,L,rfl,h1,h2,h3,h4'⟩; have h4:=bO h4'; have SN:=aH h1; have CN:Hd (ix L (ap O gs (i + 1) (h.drop k))):=aH h2; have BC:=aH h4; have hS:=aI ((BC.o.cell (p:=⟨w.heap.size,0,none⟩) (by show w.heap.size < wr.heap.size; omega)).trans p0) ((BC.o.cell (p:=⟨w.heap.size,1,none⟩) (by show w.heap.size < wr.heap.size; omega)).trans p1); clear h1 h2 h3 h4 h4'))
  all_goals
   clear hS
   have M:=aH (MLD.o (i + 1) (h.drop k))
   have HS0:Hd (el L = aM (ap O gs (i + 1) (h.drop k)) v):=aH (gV CN.o (HT.o.keys CN.o))
   have EST:Hd (cG (ap O gs) v h (i + 1) = if 0 < aM (ap O gs (i + 1) (h.drop k)) v then bQ (ap O gs (i + 1) (h.drop k)) v else cG (ap O gs) v h (i)):=aH (by
    have e:h.length - i = k:=by rw [HLN.o]; omega
    show (if 0 < aM (ap O gs (i + 1) (h.drop (h.length - i))) v then bQ (ap O gs (i + 1) (h.drop (h.length - i))) v else cG (ap O gs) v h (i)) = _
    rw [e])
   obtain ⟨N,hN⟩:∃ N:Int,el L = N:=⟨_,rfl⟩
   rw [hN]
   have HS:=aH (HS0.o.symm.trans hN)
   have hbs:=bH M.o v
   rw [HS.o] at hbs EST
   have hN0:0 <= N:=hbs.1
   have hN1:N < 900000000000000000:=by omega
   have E3:=aH (E2.o.below BC.o)
   have F3:=aH (F2.o.below BC.o)
   have P3:=aH (P2.o.below' BC.o)
   have B3:=aH (B2.o.trans (BC.o.mono B2.o.size))
   clear hN hbs p0 p1
   by_cases hz:0 < N
   ·have z1:decide (0 < N) = true:=dT hz
    have EQ:Hd (cG (ap O gs) v h (i + 1) = bQ (ap O gs (i + 1) (h.drop k)) v):=aH (by rw [EST.o,if_pos hz])
    obtain ⟨old,hold⟩:=nm (cG (ap O gs) v h (i))
    have hol:old.length = v + 1:=by rw [<- hold]; exact dD _ _ _ _
    have E4:Hd (FArc wc be old):=aH (by rw [<- hold]; exact E3.o)
    have HOL:=aH hol
    obtain ⟨fw,hfw⟩:∃ f:Nat->Rat,f = fun (x:Nat)=>((ap O gs (i + 1) (h.drop k) (x:Int):Int):Rat) / (N:Rat):=⟨_,rfl⟩
    have FW:=aH hfw
    clear hfw hold hol
    go_wp2_with fail
    go_loopg [12,46] (v + 1) (fun gq _ ii wz=>∃ (q:Nat),ii = .int .i64 q/\q + gq = v + 1/\Hd (FArc wz be ((List.range q).map fw ++ old.drop q))/\Hd (FArc wz (w.heap.size + 1) ((List.range (v + 1)).map (ow (i + 1))))/\Hd (SeenAt wz mw L)/\Hd (Blk wz w.heap.size 175 [.slice (some ⟨b,0,none⟩) (O + 1) (O + 1),.int .i64 ((v:Int) + 1),.slice Am (n + 1) cm])/\Hd (Below w.heap.size w wz))
    case atStart=>exact ⟨0,rfl,by omega,aH (by simpa using E4.o),F3,SN,P3,B3⟩
    clear E2 F2 P2 B2 E3 F3 P3 B3 E4 SN
    obtain ⟨q,rfl,hq,E4,F4,SN4,P4,B4⟩:=hrel
    rcases zP gk with hh | hh
    ·subst hh
     obtain rfl:q = v + 1:=by omega
     go_wp2_with fail
     go_meet
     exact ⟨aH (by
      have h1:=E4.o
      rw [dN (by rw [HOL.o]; exact nR _),List.append_nil,FW.o] at h1
      rw [EQ.o]
      unfold bQ
      rw [HS.o]
      exact h1),F4,P4,B4⟩
    obtain ⟨gq,rfl⟩:∃ g,gk = g + 1:=⟨gk - 1,by omega⟩
    obtain ⟨cj,hcj⟩:=nm (ap O gs (i + 1) (h.drop k) (q:Int))
    have hm:=M.o (q:Int)
    rw [hcj] at hm
    have hlk:=SN4.o.look CN.o (x:=(q:Int)) (by omega)
    rw [hcj] at hlk
    have HV:Hd ((cj:Rat) / (N:Rat) = fw q):=aH (by rw [FW.o]; simp only [hcj])
    have q1:(0:Int) <= (q:Int):=by omega
    have q2:(q:Int) < (v:Int) + 1:=by omega
    have ql:q < old.length:=by rw [HOL.o]; omega
    have HGT:=aH (fz fw old ql)
    have QLH:=aH ql
    clear hcj ql
    go_wp2_with fail
    refine (sn _ cj N hm.1 (by omega) hz (by omega)).mono ?_
    rintro e w5 ⟨u,rfl,t5,hb5⟩
    rw [HV.o] at t5
    obtain ⟨Ar,mr,cr,Ar',mr',cr',rfl⟩:=t5.at_.open_
    have T5:=aH t5.at_
    have E5:=aH (E4.o.below hb5)
    have F5:=aH (F4.o.below hb5)
    have SN5:=aH (SN4.o.below hb5)
    have P5:=aH (P4.o.below' hb5)
    have B5:=aH (B4.o.trans (hb5.mono B4.o.size))
    obtain ⟨_,_,_,_,_,_,f0,f1,f2,y0,y1,y2,_⟩:=E5.o.get HGT.o
    clear t5 hb5 hlk
    go_wp2_with fail
    go_roundg gq
    case measure=>omega
    case rel=>exact ⟨q + 1,rfl,by omega,aH (by
     have:=E5.o.put (i:=q) (by have:=QLH.o; simp; omega) rfl T5.o
     rwa [cN fw old QLH.o rfl] at this),aH (F5.o.far E5.o (by omega) _ _ _ _ _ _ _ _ _ _),aH (SN5.o.far3 E5.o _ _ _ _ _ _),aH (P5.o.far3 (by omega) _ _ _ _ _ _),aH (aL B5.o (by omega) _ _ _ _ _ _)⟩
   have z1:decide (0 < N) = false:=dF hz
   have EQ:Hd (cG (ap O gs) v h (i + 1) = cG (ap O gs) v h (i)):=aH (by rw [EST.o,if_neg hz])
   go_wp2_with fail
   go_meet
   exact ⟨aH (by rw [EQ.o]; exact E3.o),F3,P3,B3⟩

 obtain ⟨E5,F5,P5,B5⟩:=hcut
 clear E2 F2 P2 B2 p0 p1 p2
 obtain ⟨x,hx⟩:∃ x,mix[j]? = some x:=⟨_,eG (by rw [HML.o]; omega)⟩
 obtain ⟨A1,c1,ee,_,_,hat2⟩:=HM.o.at_
 obtain ⟨bm,om,ng,An,nn,cn,Ad,nd,cd,he,hbm,e0,e1,e2,hfx⟩:=hat2 j x hx
 have hA:Am = some ⟨bm,om,none⟩:=by injection ee with e1; rw [e1]; exact he
 subst hA
 have HGX:Hd (mix.getD j 0 = x):=aH (by rw [gD,hx]; rfl)
 have QX:=aH (QM.o x (mG hx))
 have FX:=aH hfx
 have HE0:=aH e0
 have HE1:=aH e1
 have HE2:=aH e2
 obtain ⟨est,hest⟩:=nm (cG (ap O gs) v h j)
 have hel:est.length = v + 1:=by rw [<- hest]; exact dD _ _ _ _
 have QE:Hd (∀ q ∈ est,QB 128 q):=aH (by rw [<- hest]; exact ja (fun a b=>HT.o.mild O a b) hv8 h j)
 have HEL:=aH hel
 have HES:=aH hest
 rw [hest] at E5
 have hs5:w.heap.size + 1 < wc.heap.size:=F5.o.lt
 clear hx ee hat2 he e0 e1 e2 hfx hest hel HM
 go_wp2_with fail
 go_loopg [13,63] (v + 1) (fun gq _ ii wz=>∃ (q:Nat),ii = .int .i64 q/\q + gq = v + 1/\Hd (FArc wz (w.heap.size + 1) ((List.range q).map (ow (j + 1)) ++ ((List.range (v + 1)).map (ow j)).drop q))/\Hd (FArc wz be est)/\Hd (Blk wz w.heap.size 175 [.slice (some ⟨b,0,none⟩) (O + 1) (O + 1),.int .i64 ((v:Int) + 1),.slice (some ⟨bm,om,none⟩) (n + 1) cm])/\Hd (Below w.heap.size w wz))
 case atStart=>exact ⟨0,rfl,by omega,aH (by simpa using F5.o),E5,P5,B5⟩
 clear E5 F5 P5 B5
 obtain ⟨q,rfl,hq,F6,E6,P6,B6⟩:=hrel
 rcases zP gk with hh | hh
 ·subst hh
  obtain rfl:q = v + 1:=by omega
  have j9:IntKind.i64.wrap ((j:Int) + 1) = (j:Int) + 1:=iI _ (by omega)
  go_wp2_with fail
  go_roundg gh
  case measure=>omega
  case rel=>exact ⟨j + 1,rfl,by omega,aH (by rw [Nat.add_sub_cancel,HES.o]; exact E6.o),aH (by
   have:=F6.o
   rwa [dN (by simp),List.append_nil] at this),P6,B6⟩
 obtain ⟨gq,rfl⟩:∃ g,gk = g + 1:=⟨gk - 1,by omega⟩
 obtain ⟨o,ho⟩:=nm (ow j q)
 obtain ⟨pe,hpe⟩:=nm (est.getD q 0)
 have hlo:q < ((List.range (v + 1)).map (ow j)).length:=by simp; omega
 have hgo:=fz (ow (j + 1)) ((List.range (v + 1)).map (ow j)) hlo
 rw [show ((List.range (v + 1)).map (ow j)).getD q 0 = o by rw [gD,List.getElem?_map,List.getElem?_range (show q < v + 1 by omega),<- ho]; rfl] at hgo
 have hge:est[q]? = some pe:=by rw [<- hpe,gD,eG (by rw [HEL.o]; omega)]; rfl
 have QP:=aH (QE.o pe (mG hge))
 have QO:Hd (QB 966 o):=aH (by rw [<- ho,OW.o]; exact (lQ (fun a b=>HT.o.mild O a b) hv8 QM.o h q j).mono (by omega))
 obtain ⟨X1,hX1⟩:∃ y:Rat,x * pe = y:=⟨_,rfl⟩
 have Q1:Hd (QB 200 X1):=aH (by rw [<- hX1]; exact (QX.o.mul QP.o).mono (by omega))
 obtain ⟨X2,hX2⟩:∃ y:Rat,o + X1 = y:=⟨_,rfl⟩
 have HV:Hd (X2 = ow (j + 1) q):=aH (by
  rw [<- hX2,<- hX1,<- ho,<- hpe,OW.o,<- HGX.o,<- HES.o]
  rfl)
 have HX1:=aH hX1
 have HX2:=aH hX2
 have HGO:=aH hgo
 have HGE:=aH hge
 have HLO:=aH hlo
 obtain ⟨Ao,mo,co,Ao',mo',co',g0,g1,g2,y0,y1,y2,tO⟩:=F6.o.get hgo
 obtain ⟨Ae,me,ce,Ae',me',ce',k0,k1,k2,_,_,_,tE⟩:=E6.o.get hge
 have TO:=aH (tO.frac (k:=2000) (QO.o.mono (by omega)) (by omega))
 have TE:=aH (tE.frac (k:=2000) (QP.o.mono (by omega)) (by omega))
 have TX:=aH ((FX.o.below B6.o).mono (show 64 <= 2000 by omega))
 have c0:=(B6.o.cell (p:=⟨bm,om + j * 3,none⟩) hbm).trans HE0.o
 have c1:=(B6.o.cell (p:=⟨bm,om + j * 3 + 1,none⟩) hbm).trans HE1.o
 have c2:=(B6.o.cell (p:=⟨bm,om + j * 3 + 2,none⟩) hbm).trans HE2.o
 have p2:=P6.o.cell 2
 simp only [List.getElem?_cons_zero,List.getElem?_cons_succ] at p2
 clear ho hpe hlo hgo hge hX1 hX2 tO tE
 have q1:(0:Int) <= (q:Int):=by omega
 have q2:(q:Int) < (v:Int) + 1:=by omega
 have q3:(0:Int) <= (j:Int):=by omega
 have q4:(j:Int) < (n:Int) + 1:=by omega
 have l0:=F6.o.lt
 have l1:=E6.o.lt
 have l2:=P6.o.lt
 have l3:=B6.o.size
 have BB:=aH (Below.refl wr.heap.size wr)
 have nb1:bm ≠ w.heap.size + 1:=by omega
 have nb2:be ≠ w.heap.size + 1:=by omega
 have nb3:w.heap.size ≠ w.heap.size + 1:=by omega
 have HSET:Hd (∀ w',Below wr.heap.size wr w'->(fun w'=>w'.cell? ⟨w.heap.size,2,none⟩ = some (.slice (some ⟨bm,om,none⟩) (n + 1) cm)/\w'.cell? ⟨bm,om + j * 3,none⟩ = some (.bool ng)/\w'.cell? ⟨bm,om + j * 3 + 1,none⟩ = some (.slice An nn cn)/\w'.cell? ⟨bm,om + j * 3 + 2,none⟩ = some (.slice Ad nd cd)/\w'.cell? ⟨be,q * 3,none⟩ = some (.bool (ae pe))/\w'.cell? ⟨be,q * 3 + 1,none⟩ = some (.slice Ae me ce)/\w'.cell? ⟨be,q * 3 + 2,none⟩ = some (.slice Ae' me' ce')) w'):=aH (fun w' hb=>⟨(hb.cell (p:=⟨w.heap.size,2,none⟩) l2).trans p2,(hb.cell (p:=⟨bm,om + j * 3,none⟩) (by show bm < wr.heap.size; omega)).trans c0,(hb.cell (p:=⟨bm,om + j * 3 + 1,none⟩) (by show bm < wr.heap.size; omega)).trans c1,(hb.cell (p:=⟨bm,om + j * 3 + 2,none⟩) (by show bm < wr.heap.size; omega)).trans c2,(hb.cell (p:=⟨be,q * 3,none⟩) l1).trans k0,(hb.cell (p:=⟨be,q * 3 + 1,none⟩) l1).trans k1,(hb.cell (p:=⟨be,q * 3 + 2,none⟩) l1).trans k2⟩)
 clear p2 c0 c1 c2 k0 k1 k2
 go_wp2_with fail
 refine wp_region_held_drew (S:=fun w'=>w'.cell? ⟨w.heap.size,2,none⟩ = some (.slice (some ⟨bm,om,none⟩) (n + 1) cm)/\w'.cell? ⟨bm,om + j * 3,none⟩ = some (.bool ng)/\w'.cell? ⟨bm,om + j * 3 + 1,none⟩ = some (.slice An nn cn)/\w'.cell? ⟨bm,om + j * 3 + 2,none⟩ = some (.slice Ad nd cd)/\w'.cell? ⟨be,q * 3,none⟩ = some (.bool (ae pe))/\w'.cell? ⟨be,q * 3 + 1,none⟩ = some (.slice Ae me ce)/\w'.cell? ⟨be,q * 3 + 2,none⟩ = some (.slice Ae' me' ce')) (by kernel_rfl) (HSET.o _ (bS wr)) (fun hHeld=>?_)
 refine tjj 0 ?_ rfl (by kernel_rfl) rfl ‹_› ?_ (fun _ _ _ h=>h) (tjj 1 ?_ rfl (by kernel_rfl) rfl ‹_› ?_ (fun _ _ _ h=>h) (tjj 2 ?_ rfl (by kernel_rfl) rfl ‹_› ?_ (fun _ _ _ h=>h) (tjj 3 ?_ rfl (by kernel_rfl) rfl ‹_› ?_ (fun _ _ _ h=>h) (tjj 4 ?_ rfl (by kernel_rfl) rfl ‹_› ?_ (fun _ _ _ h=>h) (tjj 6 ?_ rfl (by kernel_rfl) rfl ‹_› ?_ (fun _ _ _ h=>h) (tjj 7 ?_ rfl (by kernel_rfl) rfl ‹_› ?_ (fun _ _ _ h=>h) (tjj 8 ?_ rfl (by kernel_rfl) rfl ‹_› ?_ (fun _ _ _ h=>h) (tjj 9 ?_ rfl (by kernel_rfl) rfl ‹_› ?_ (fun _ _ _ h=>h) (tjj 10 ?_ rfl (by kernel_rfl) rfl ‹_› ?_ (fun _ _ _ h=>h) (tjj 11 ?_ rfl (by kernel_rfl) rfl ‹_› ?_ (fun _ _ _ h=>h) (tjj 12 ?_ rfl (by kernel_rfl) rfl ‹_› ?_ (fun _ _ _ h=>h) (tjj 13 ?_ rfl (by kernel_rfl) rfl ‹_› ?_ (fun _ _ _ h=>h) (tjj 14 ?_ rfl (by kernel_rfl) rfl ‹_› ?_ (fun _ _ _ h=>h) ?_)))))))))))))
 iterate 14 (rotate_left; · (intro w' hSw; (try dsimp only at hSw); (try go_frame); go_simp <;> with_reducible rfl))
 go_frame
 refine wpAnyH_ready (rs:=[5,15]) (by kernel_rfl) (by simp) ?_
 refine AllReadyH.cons rfl (fun K hK=>?_) (AllReadyH.cons rfl (fun K hK=>?_) AllReadyH.nil)
 ·go_simp
  refine hK.out _ _ hHeld (fun _=>?_)
  clear hK K
  try go_frame
  refine wpAnyH_ready (rs:=[15]) (by kernel_rfl) (by simp) ?_
  refine AllReadyH.cons rfl (fun K hK=>?_) AllReadyH.nil
  go_simp
  refine (lP _ _ _ x pe 2000 (TX.o.below (bS _)) (TE.o.below (bS _)) (by omega) (by omega)).mono ?_
  rintro e wl ⟨u,rfl,t,hb'⟩
  rw [HX1.o] at t
  have hb:=bO hb'
  have BB:=aH hb
  have T1:=aH (t.at_.frac (k:=2000) (Q1.o.mono (by omega)) (by omega))
  obtain ⟨Az,mz,cz,Az',mz',cz',rfl⟩:=t.at_.open_
  clear hHeld t hb'
  have hS:=HSET.o wl hb
  try go_simp
  refine hK.out _ _ hS (fun hHeld=>?_)
  clear hK K hS
  try go_frame
  refine wpAnyH_ready (rs:=[16]) (by kernel_rfl) (by simp) ?_
  refine AllReadyH.cons rfl (fun K hK=>?_) AllReadyH.nil
  go_simp
  clear hHeld
  refine (l8 _ _ _ o X1 2000 (TO.o.below BB.o) T1.o (by omega) (by omega)).mono ?_
  rintro e wl2 ⟨u,rfl,t,hb2⟩
  rw [HX2.o,HV.o] at t
  have BB2:=aH (BB.o.trans (hb2.mono BB.o.size))
  obtain ⟨As,ms,cs,As',ms',cs',rfl⟩:=t.at_.open_
  have T2:=aH t.at_
  clear t hb2
  have hS:=HSET.o wl2 BB2.o
  try go_simp
  refine hK.out _ _ hS (fun hHeld=>?_)
  clear hK K hS
  try go_frame
  refine tjj 17 ?_ rfl (by kernel_rfl) rfl ‹_› ?_ (fun _ _ _ h=>h) ?_
  rotate_left
  ·(intro w' hSw; (try dsimp only at hSw); (try go_frame); go_simp <;> with_reducible rfl)
  go_frame
  obtain ⟨_,_,_,_,_,_,z0,z1,z2,x0,x1,x2,_⟩:=(F6.o.below BB2.o).get HGO.o
  refine wpAnyH_ready (rs:=[18]) (by kernel_rfl) (by simp) ?_
  refine AllReadyH.cons rfl (fun K hK=>?_) AllReadyH.nil
  go_simp
  refine hK.out _ _ ⟨aj hHeld.1 nb3 _ _ _ _ _ _,aj hHeld.2.1 nb1 _ _ _ _ _ _,aj hHeld.2.2.1 nb1 _ _ _ _ _ _,aj hHeld.2.2.2.1 nb1 _ _ _ _ _ _,aj hHeld.2.2.2.2.1 nb2 _ _ _ _ _ _,aj hHeld.2.2.2.2.2.1 nb2 _ _ _ _ _ _,aj hHeld.2.2.2.2.2.2 nb2 _ _ _ _ _ _⟩ (fun _=>?_)
  clear hK K hHeld
  try go_frame
  refine wpAnyH_done (by kernel_rfl) ?_ _
  go_wp2_with fail
  go_roundg gq
  case measure=>omega
  case rel =>
   have F8:=F6.o.below BB2.o
   exact ⟨q + 1,rfl,by omega,aH (by
    have:=F8.put (i:=q) (by have:=HLO.o; simp; omega) rfl T2.o
    rwa [cN (ow (j + 1)) _ HLO.o rfl] at this),aH ((E6.o.below BB2.o).far F8 nb2 _ _ _ _ _ _ _ _ _ _),aH ((P6.o.below' BB2.o).far3 nb3 _ _ _ _ _ _),aH (aL (B6.o.trans (BB2.o.mono B6.o.size)) (by omega) _ _ _ _ _ _)⟩
 go_simp
 refine (lP _ _ _ x pe 2000 (TX.o.below (bS _)) (TE.o.below (bS _)) (by omega) (by omega)).mono ?_
 rintro e wl ⟨u,rfl,t,hb'⟩
 rw [HX1.o] at t
 have hb:=bO hb'
 have BB:=aH hb
 have T1:=aH (t.at_.frac (k:=2000) (Q1.o.mono (by omega)) (by omega))
 obtain ⟨Az,mz,cz,Az',mz',cz',rfl⟩:=t.at_.open_
 clear hHeld t hb'
 have hS:=HSET.o wl hb
 try go_simp
 refine hK.out _ _ hS (fun hHeld=>?_)
 clear hK K hS
 try go_frame
 have o0:=(BB.o.cell (p:=⟨w.heap.size + 1,q * 3,none⟩) l0).trans g0
 have o1:=(BB.o.cell (p:=⟨w.heap.size + 1,q * 3 + 1,none⟩) l0).trans g1
 have o2:=(BB.o.cell (p:=⟨w.heap.size + 1,q * 3 + 2,none⟩) l0).trans g2
 refine wpAnyH_ready (rs:=[5]) (by kernel_rfl) (by simp) ?_
 refine AllReadyH.cons rfl (fun K hK=>?_) AllReadyH.nil
 go_simp
 refine hK.out _ _ hHeld (fun _=>?_)
 clear hK K o0 o1 o2
 try go_frame
 refine wpAnyH_ready (rs:=[16]) (by kernel_rfl) (by simp) ?_
 refine AllReadyH.cons rfl (fun K hK=>?_) AllReadyH.nil
 go_simp
 clear hHeld
 refine (l8 _ _ _ o X1 2000 (TO.o.below BB.o) T1.o (by omega) (by omega)).mono ?_
 rintro e wl2 ⟨u,rfl,t,hb2⟩
 rw [HX2.o,HV.o] at t
 have BB2:=aH (BB.o.trans (hb2.mono BB.o.size))
 obtain ⟨As,ms,cs,As',ms',cs',rfl⟩:=t.at_.open_
 have T2:=aH t.at_
 clear t hb2
 have hS:=HSET.o wl2 BB2.o
 try go_simp
 refine hK.out _ _ hS (fun hHeld=>?_)
 clear hK K hS
 try go_frame
 refine tjj 17 ?_ rfl (by kernel_rfl) rfl ‹_› ?_ (fun _ _ _ h=>h) ?_
 rotate_left
 ·(intro w' hSw; (try dsimp only at hSw); (try go_frame); go_simp <;> with_reducible rfl)
 go_frame
 obtain ⟨_,_,_,_,_,_,z0,z1,z2,x0,x1,x2,_⟩:=(F6.o.below BB2.o).get HGO.o
 refine wpAnyH_ready (rs:=[18]) (by kernel_rfl) (by simp) ?_
 refine AllReadyH.cons rfl (fun K hK=>?_) AllReadyH.nil
 go_simp
 refine hK.out _ _ ⟨aj hHeld.1 nb3 _ _ _ _ _ _,aj hHeld.2.1 nb1 _ _ _ _ _ _,aj hHeld.2.2.1 nb1 _ _ _ _ _ _,aj hHeld.2.2.2.1 nb1 _ _ _ _ _ _,aj hHeld.2.2.2.2.1 nb2 _ _ _ _ _ _,aj hHeld.2.2.2.2.2.1 nb2 _ _ _ _ _ _,aj hHeld.2.2.2.2.2.2 nb2 _ _ _ _ _ _⟩ (fun _=>?_)
 clear hK K hHeld
 try go_frame
 refine wpAnyH_done (by kernel_rfl) ?_ _
 go_wp2_with fail
 go_roundg gq
 case measure=>omega
 case rel =>
  have F8:=F6.o.below BB2.o
  exact ⟨q + 1,rfl,by omega,aH (by
   have:=F8.put (i:=q) (by have:=HLO.o; simp; omega) rfl T2.o
   rwa [cN (ow (j + 1)) _ HLO.o rfl] at this),aH ((E6.o.below BB2.o).far F8 nb2 _ _ _ _ _ _ _ _ _ _),aH ((P6.o.below' BB2.o).far3 nb3 _ _ _ _ _ _),aH (aL (B6.o.trans (BB2.o.mono B6.o.size)) (by omega) _ _ _ _ _ _)⟩
end Go.Proofs.YtjebfdfkjlkifaaGreat
