/- Lemmas. -/
import Derived.Test.YtjebfdfkjlkifaaGreatR32
set_option linter.all false
set_option maxRecDepth 1000000
set_option maxHeartbeats 32000000
namespace Go.Proofs.YtjebfdfkjlkifaaGreat
open Go.RowKit
theorem sn (w:World) (z d:Int)(h0:0 <= z)(h1:z < 9223372036854775808) (d0:0 < d) (d1:d < 9223372036854775808) :
  Calls Tryz.prog 220 #[.int .i64 z,.int .i64 d] w fun e w'=>∃ u,e = .returned (.tuple #[u,.int .i64 0])/\CanNew w.heap.size w' u ((z:Rat) / (d:Rat))/\Below w.heap.size w w':=by
 obtain ⟨n,rfl⟩:=Int.eq_ofNat_of_zero_le h0
 obtain ⟨k,rfl⟩:=Int.eq_ofNat_of_zero_le (Int.le_of_lt d0)
 have:=vj w n k (by omega) (by omega) (by omega)
 rwa [show ((n:Int):Rat) = (n:Rat) from Rat.intCast_natCast n,show ((k:Int):Rat) = (k:Rat) from Rat.intCast_natCast k]

theorem xe (w:World) (O b v:Nat)(hv:Value) (T:Nat->List Int->Int->Int)(h:List Int)(hv8:v <= 8) (s:Bool) (A A':Option Addr) (m c m' c':Nat) (a:Rat) :
  Calls Tryz.prog 222 #[.agg #[.slice (some ⟨b,0,none⟩) (O + 1) (O + 1),.int .i64 ((v + 1:Nat):Int),.bool s,.slice A m c,.slice A' m' c'],.int .i64 0,hv] w (dj w v (bJ T v a 0 h)):=by
 go_enter Tryz.func222,Tryz.ntmps222
 go_wp2_with fail
 obtain ⟨W,hW,P0,PB,Phs⟩:=aA w 177 [.slice (some ⟨b,0,none⟩) (O + 1) (O + 1),.int .i64 ((v:Int) + 1),.bool s,.slice A m c,.slice A' m' c']
 rw [<- hW]
 clear hW
 obtain ⟨p0,p1,p2,p3,p4⟩:=dP P0.o
 go_wp2_with fail
 refine (tA W (.slice (some ⟨b,0,none⟩) (O + 1) (O + 1)) (v + 1) (by omega) (by omega) rfl _ _ _ rfl).mono ?_
 rintro e w1 ⟨b1,rfl,hb,hf,hb1⟩
 have HF:=aH hf.arc
 have B1:=aH (PB.o.trans (hb1.mono (by omega)))
 clear p0 p1 p2 p3 p4 hf hb1
 go_wp2_with fail
 go_ret
 exact ⟨_,rfl,by omega,HF.o,B1.o⟩

theorem vk (O b v:Nat) (gs:List Gr)(hO:O <= 4)(hT:SmallT gs v) (s:Bool) (A A':Option Addr) (m c m' c':Nat) (a:Rat)(ha0:0 < a)(ha1:a < 1) (n:Nat):∀ (w:World)(hv:Value)(h:List Int),n <= O->LvsAt w b O 0 gs->IntsAt w hv h->h.length = n - 1->NiceK h->FracAt 64 w (.agg #[.bool s,.slice A m c,.slice A' m' c']) a ->
  Calls Tryz.prog 222 #[.agg #[.slice (some ⟨b,0,none⟩) (O + 1) (O + 1),.int .i64 ((v + 1:Nat):Int),.bool s,.slice A m c,.slice A' m' c'],.int .i64 n,hv] w (dj w v (bJ (ap O gs) v a n h)):=by
 have hv8:=hT.2.2.2
 have A0:=aH ha0
 have A1:=aH ha1
 clear ha0 ha1
 induction n with
 | zero=>exact fun w hv h _ _ _ _ _ _=>xe w O b v hv _ h hv8 s A A' m c m' c' a
 | succ n ih =>
  intro w hv h hn hL hI hl hk ha
  obtain ⟨Ah,ch,rfl,hlc,hcm,_⟩:=hI.open_
  have hln:h.length = n:=by omega
  rw [hln] at hI hlc ⊢
  have HI:=aH hI
  have HL:=aH hL
  have HLN:=aH hln
  have HN:=aH hn
  have HK:=aH hk
  have IH:=aH ih
  have HT:=aH hT
  have HA:=aH ha
  have QA:=aH (ha.qb (by omega))
  have M:=aH (hT.mild O (n + 1) h)
  have b0:(((n:Int) + 1) == 0) = false:=by simpa using (show ¬ (n:Int) + 1 = 0 by omega)
  clear hI hL hln hn hk ih hT hl ha
  go_enter Tryz.func222,Tryz.ntmps222
  go_wp2_with fail
  obtain ⟨W,hW,P0,PB,Phs⟩:=aA w 177 [.slice (some ⟨b,0,none⟩) (O + 1) (O + 1),.int .i64 ((v:Int) + 1),.bool s,.slice A m c,.slice A' m' c']
  rw [<- hW]
  clear hW
  obtain ⟨p0,p1,p2,p3,p4⟩:=dP P0.o
  go_wp2_with fail
  refine (mI W O (n + 1) b _ _ gs h (HL.o.below PB.o) ⟨by omega,HN.o⟩ hO (HI.o.below PB.o) (by rw [HLN.o]; omega) HK.o).mono ?_
  rintro e W3 ⟨mv,L,rfl,hsn,hcnt,hbd,hb3⟩
  have SN:=aH hsn
  have CN:Hd (ix L (ap O gs (n + 1) h)):=aH hcnt
  have P3:=aH (P0.o.below' hb3)
  have BL3:=aH (PB.o.trans (hb3.mono PB.o.size))
  have s3:w.heap.size + 1 <= W3.heap.size:=Nat.le_trans Phs hb3.size
  have HA3:=aH ((HA.o.below BL3.o).mono (show 64 <= 5000000 by omega))
  obtain ⟨N,hN⟩:∃ N:Int,el L = N:=⟨_,rfl⟩
  rw [hN]
  have HS:=aH ((gV CN.o (HT.o.keys CN.o)).symm.trans hN)
  have HKS:=aH (length_eq CN.o (HT.o.keys CN.o))
  have hbs:=bH M.o v
  rw [HS.o] at hbs
  have hN0:0 <= N:=hbs.1
  have hN1:N < 900000000000000000:=by omega
  have hkl:=dV (ap O gs (n + 1) h) v
  obtain ⟨kk,hkk⟩:∃ k:Int,(L.length:Int) = k:=⟨_,rfl⟩
  have HKK:Hd (((aF (ap O gs (n + 1) h) v:Nat):Int) = kk):=aH (by rw [<- HKS.o]; exact hkk)
  have hk1:0 <= kk:=by omega
  have hk2:kk <= (v:Int) + 1:=by rw [<- HKK.o]; omega
  have LN:Hd (∀ w',SeenAt w' mv L->(Builtin.len_ #[206] 3 #[mv]).run Tryz.prog w' = .ok (.int .i64 kk) w'):=aH (fun w' hw'=>by rw [<- hkk]; exact hw'.len _)
  have hlen:=LN.o W3 SN.o
  clear hsn hcnt hb3 hN hbd hbs p0 p1 p2 p3 p4 P0 PB hkk hkl
  obtain ⟨p0,p1,p2,p3,p4⟩:=dP P3.o
  by_cases hall:kk = (v:Int) + 1
  ·have b1:(kk == (v:Int) + 1) = true:=by simpa using hall
   have HALL:Hd (aF (ap O gs (n + 1) h) v = v + 1):=aH (by have:=HKK.o; omega)
   have HNP:Hd (0 < aM (ap O gs (n + 1) h) v):=aH ((dU M.o v).2 (by rw [HALL.o]; omega))
   have hNp:0 < N:=by rw [<- HS.o]; exact HNP.o
   clear hall
   go_wp2_with (at_make; refine aD rfl _ _ rfl ((v:Int) + 1) (v + 1) rfl rfl (by omega) (by omega) ?_)
   intro w4 hf4 hb4
   have F4:=aH hf4.arc
   have SN4:=aH (SN.o.below hb4)
   have BL4:=aH (BL3.o.trans (hb4.mono BL3.o.size))
   obtain ⟨fw,hfw⟩:∃ f:Nat->Rat,f = fun (x:Nat)=>((ap O gs (n + 1) h (x:Int):Int):Rat) / (N:Rat):=⟨_,rfl⟩
   have FW:=aH hfw
   clear hlen hf4 hb4 p0 p1 p2 p3 p4 hfw SN BL3
   go_wp2_with fail
   go_loopg [10,43] (v + 1) (fun gh _ i wz=>∃ (j:Nat),i = .int .i64 j/\j + gh = v + 1/\Hd (FArc wz W3.heap.size ((List.range j).map fw ++ List.replicate gh 0))/\Hd (SeenAt wz mv L)/\Hd (Below w.heap.size w wz))
   case atStart=>exact ⟨0,rfl,by omega,aH (by simpa using F4.o),SN4,BL4⟩
   clear F4 SN4 BL4
   obtain ⟨j,rfl,hj,F4,SN4,BL4⟩:=hrel
   rcases zP gk with hh | hh
   ·subst hh
    obtain rfl:j = v + 1:=by omega
    go_wp2_with fail
    go_ret
    exact ⟨_,rfl,by omega,by
     have h1:=F4.o
     rw [List.replicate_zero,List.append_nil,FW.o] at h1
     unfold bJ
     rw [if_pos HALL.o]
     unfold bQ
     rw [HS.o]
     exact h1,BL4.o⟩
   obtain ⟨gh,rfl⟩:∃ g,gk = g + 1:=⟨gk - 1,by omega⟩
   obtain ⟨cj,hcj⟩:=nm (ap O gs (n + 1) h (j:Int))
   have hm:=M.o (j:Int)
   rw [hcj] at hm
   have hlk:=SN4.o.look CN.o (x:=(j:Int)) (by omega)
   rw [hcj] at hlk
   have HV:Hd ((cj:Rat) / (N:Rat) = fw j):=aH (by rw [FW.o]; simp only [hcj])
   have j1:(0:Int) <= (j:Int):=by omega
   have j2:(j:Int) < (v:Int) + 1:=by omega
   clear hcj
   go_wp2_with fail
   refine (sn wr cj N hm.1 (by omega) hNp (by omega)).mono ?_
   rintro e w5 ⟨u,rfl,t5,hb5⟩
   rw [HV.o] at t5
   obtain ⟨Ar,mr,cr,Ar',mr',cr',rfl⟩:=t5.at_.open_
   have T5:=aH t5.at_
   have F5:=aH (F4.o.below hb5)
   have SN5:=aH (SN4.o.below hb5)
   have BL5:=aH (BL4.o.trans (hb5.mono BL4.o.size))
   have hlt:W3.heap.size < wr.heap.size:=F4.o.lt
   obtain ⟨_,_,_,_,_,_,f0,f1,f2,y0,y1,y2,_⟩:=F5.o.get (ff fw j gh)
   clear t5 hb5 hlk
   go_wp2_with fail
   go_roundg gh
   case measure=>omega
   case rel=>exact ⟨j + 1,rfl,by omega,aH (by
    have:=F5.o.put (i:=j) (by simp) rfl T5.o
    rwa [eO fw j gh rfl] at this),aH (SN5.o.far3 F5.o _ _ _ _ _ _),aH (aL BL5.o (by omega) _ _ _ _ _ _)⟩
  have b1:(kk == (v:Int) + 1) = false:=by simpa using hall
  have HALL:Hd (¬ aF (ap O gs (n + 1) h) v = v + 1):=aH (by have:=HKK.o; omega)
  clear hall
  go_upto_region 12 with fail
  clear hlen
  go_cut [11] (fun x wc=>∃ b1,x = .slice (some ⟨b1,0,none⟩) (v + 1) (v + 1)/\Hd (W3.heap.size <= b1)/\Hd (FArc wc b1 (bJ (ap O gs) v a n (h.drop 1)))/\Hd (Below W3.heap.size W3 wc))
  case first =>
   have hS:=dP P3.o
   have i1:IntKind.i64.wrap ((n:Int) + 1 - 1) = (n:Int):=by rw [show (n:Int) + 1 - 1 = n by omega]; exact iI _ (by have:=HN.o; omega)
   have i2:IntKind.i64.wrap (n:Int) = (n:Int):=iI _ (by have:=HN.o; omega)
   have IA:=aH (HI.o.below BL3.o)
   have LA:=aH (HL.o.below BL3.o)
   have HAW:=aH (HA.o.below BL3.o)
   have NK:Hd (NiceK (h.drop 1)):=aH ⟨by have:=HK.o.1; rw [List.length_drop]; omega,fun x hx=>HK.o.2 x (List.mem_of_mem_drop hx)⟩
   have DL:Hd ((h.drop 1).length = n - 1):=aH (by rw [List.length_drop,HLN.o])
   rcases zP n with h0 | h0
   ·subst h0
    have TL:∀ A c,c <= 9223372036854775807->Hd (IntsAt W3 (.slice A 0 c) (h.drop 1)):=fun A c hc=>aH (by
     unfold IntsAt
     rw [DL.o,List.eq_nil_of_length_eq_zero DL.o]
     exact Sl.none' _ _ _ _ _ _ rfl rfl (by unfold maxLen; omega))
    have m0:min (1:Int) 0 = 0:=by decide
    rcases zP ch with hc0 | hc0
    ·subst hc0
     go_region_held3 (fun w'=>w'.cell? ⟨w.heap.size,0,none⟩ = some (.slice (some ⟨b,0,none⟩) (O + 1) (O + 1))/\w'.cell? ⟨w.heap.size,1,none⟩ = some (.int .i64 ((v:Int) + 1))/\w'.cell? ⟨w.heap.size,2,none⟩ = some (.bool s)/\w'.cell? ⟨w.heap.size,3,none⟩ = some (.slice A m c)/\w'.cell? ⟨w.heap.size,4,none⟩ = some (.slice A' m' c'))
      (first | assumption | go_keep)
      (first
       | (go_at_call 222; refine (IH.o _ _ (h.drop 1) (by have:=HN.o; omega) (LA.o.below (bS _)) ?_ DL.o NK.o (HAW.o.below (bS _))).mono ?_; (exact (TL _ _ (by omega)).o.drew); rintro e wc ⟨b1,rfl,h1,h2,h3'⟩; have h3:=bO h3'; have R1:Hd (W3.heap.size <= b1):=aH h1; have R2:=aH h2; have R3:=aH h3; have hS:=dP (P3.o.below' R3.o); clear h1 h2 h3 h3'))
     all_goals
      go_wp2_with fail
      go_meet
      exact ⟨b1,rfl,R1,R2,R3⟩
    have hc1:(ch == 0) = false:=by simpa using (show ¬ ch = 0 by omega)
    go_region_held3 (fun w'=>w'.cell? ⟨w.heap.size,0,none⟩ = some (.slice (some ⟨b,0,none⟩) (O + 1) (O + 1))/\w'.cell? ⟨w.heap.size,1,none⟩ = some (.int .i64 ((v:Int) + 1))/\w'.cell? ⟨w.heap.size,2,none⟩ = some (.bool s)/\w'.cell? ⟨w.heap.size,3,none⟩ = some (.slice A m c)/\w'.cell? ⟨w.heap.size,4,none⟩ = some (.slice A' m' c'))
     (first | assumption | go_keep)
     (first
      | (go_at_call 222; refine (IH.o _ _ (h.drop 1) (by have:=HN.o; omega) (LA.o.below (bS _)) ?_ DL.o NK.o (HAW.o.below (bS _))).mono ?_; (exact (TL _ _ (by omega)).o.drew); rintro e wc ⟨b1,rfl,h1,h2,h3'⟩; have h3:=bO h3'; have R1:Hd (W3.heap.size <= b1):=aH h1; have R2:=aH h2; have R3:=aH h3; have hS:=dP (P3.o.below' R3.o); clear h1 h2 h3 h3'))
    all_goals
     go_wp2_with fail
     go_meet
     exact ⟨b1,rfl,R1,R2,R3⟩
   obtain ⟨ba,oa,rfl,tl⟩:=IA.o.tail1 HLN.o h0
   have m0:min (1:Int) (n:Int) = 1:=by omega
   have n1:(1:Int) <= (n:Int):=by omega
   have n2:(n:Int) <= (ch:Int):=by omega
   rcases Nat.lt_or_ge 1 ch with hc0 | hc0
   ·have hc1:¬ ch = 1:=by omega
    rw [if_neg hc1] at tl
    have TL:=aH tl
    clear tl
    go_region_held3 (fun w'=>w'.cell? ⟨w.heap.size,0,none⟩ = some (.slice (some ⟨b,0,none⟩) (O + 1) (O + 1))/\w'.cell? ⟨w.heap.size,1,none⟩ = some (.int .i64 ((v:Int) + 1))/\w'.cell? ⟨w.heap.size,2,none⟩ = some (.bool s)/\w'.cell? ⟨w.heap.size,3,none⟩ = some (.slice A m c)/\w'.cell? ⟨w.heap.size,4,none⟩ = some (.slice A' m' c'))
     (first | assumption | go_keep)
     (first
      | (go_at_call 222; refine (IH.o _ _ (h.drop 1) (by have:=HN.o; omega) (LA.o.below (bS _)) ?_ DL.o NK.o (HAW.o.below (bS _))).mono ?_; (exact TL.o.drew); rintro e wc ⟨b1,rfl,h1,h2,h3'⟩; have h3:=bO h3'; have R1:Hd (W3.heap.size <= b1):=aH h1; have R2:=aH h2; have R3:=aH h3; have hS:=dP (P3.o.below' R3.o); clear h1 h2 h3 h3'))
    all_goals
     go_wp2_with fail
     go_meet
     exact ⟨b1,rfl,R1,R2,R3⟩
   obtain rfl:ch = 1:=by omega
   obtain rfl:n = 1:=by omega
   rw [if_pos rfl] at tl
   have TL:=aH tl
   clear tl
   go_region_held3 (fun w'=>w'.cell? ⟨w.heap.size,0,none⟩ = some (.slice (some ⟨b,0,none⟩) (O + 1) (O + 1))/\w'.cell? ⟨w.heap.size,1,none⟩ = some (.int .i64 ((v:Int) + 1))/\w'.cell? ⟨w.heap.size,2,none⟩ = some (.bool s)/\w'.cell? ⟨w.heap.size,3,none⟩ = some (.slice A m c)/\w'.cell? ⟨w.heap.size,4,none⟩ = some (.slice A' m' c'))
    (first | assumption | go_keep)
    (first
     | (go_at_call 222; refine (IH.o _ _ (h.drop 1) (by have:=HN.o; omega) (LA.o.below (bS _)) ?_ DL.o NK.o (HAW.o.below (bS _))).mono ?_; (exact TL.o.drew); rintro e wc ⟨b1,rfl,h1,h2,h3'⟩; have h3:=bO h3'; have R1:Hd (W3.heap.size <= b1):=aH h1; have R2:=aH h2; have R3:=aH h3; have hS:=dP (P3.o.below' R3.o); clear h1 h2 h3 h3'))
   all_goals
    go_wp2_with fail
    go_meet
    exact ⟨b1,rfl,R1,R2,R3⟩
  obtain ⟨b1,rfl,hb1,F4,BC⟩:=hcut
  obtain ⟨wd,rfl⟩:∃ x:World,x = wc:=⟨_,rfl⟩
  have s4:=hb1.o
  have P4:=aH (P3.o.below' BC.o)
  have SN4:=aH (SN.o.below BC.o)
  have HA4:=aH (HA3.o.below BC.o)
  have BL4:=aH (BL3.o.trans (BC.o.mono BL3.o.size))
  clear p0 p1 p2 p3 p4 P3 SN HA3 BL3 BC hb1
  obtain ⟨low,hlow⟩:=nm (bJ (ap O gs) v a n (h.drop 1))
  have QL:Hd (∀ q ∈ low,QB (bq n) q):=aH (by rw [<- hlow]; exact jS (fun a b=>HT.o.mild O a b) hv8 QA.o n _)
  have PL:Hd (∀ q ∈ low,0 < q):=aH (by rw [<- hlow]; exact gn (fun a b=>HT.o.mild O a b) A0.o A1.o n _)
  have LLH:Hd (low.length = v + 1):=aH (by rw [<- hlow]; exact bN _ _ _ _ _)
  rw [hlow] at F4
  have HLOW:=aH hlow
  have bqn:bq n <= 4392300:=po (by have:=HN.o; omega)
  have bqg:=lE n
  clear hlow
  by_cases hz:N = 0
  ·subst hz
   go_wp2_with fail
   go_ret
   exact ⟨b1,rfl,by omega,by
    have h1:=F4.o
    rw [<- HLOW.o] at h1
    unfold bJ
    rw [if_neg HALL.o,if_pos HS.o]
    exact h1,BL4.o⟩
  have hz0:(N == 0) = false:=by simpa using hz
  have hNp:0 < N:=by omega
  clear hz
  go_wp2_with fail
  obtain ⟨W4,hW4,R0,RB,Rhs⟩:=aA wd 40 [.bool false,.slice none 0 0,.slice none 0 0]
  rw [<- hW4]
  clear hW4
  have BR:Hd (BoxC W4 wd.heap.size 0):=aH (BoxC.of (q:=0) R0.o ((CanNew.zero_ 0 W4).at_))
  have F5:=aH (F4.o.below RB.o)
  have P5:=aH (P4.o.below' RB.o)
  have SN5:=aH (SN4.o.below RB.o)
  have HA5:=aH ((HA4.o.below RB.o).mono (show 5000000 <= 100000000 by omega))
  have BL5:=aH (BL4.o.trans (RB.o.mono BL4.o.size))
  have s5:b1 < wd.heap.size:=F4.o.lt
  have HNU:Hd (∃ x,x <= v/\ap O gs (n + 1) h (x:Int) = 0):=aH (lF HALL.o)
  have QR:Hd (∀ j,j <= v + 1->QB 40000000 (aY (ap O gs (n + 1) h) low j)):=aH (fun j hj=>(jq _ (by omega) QL.o j).mono (by
   have h1:j * (bq n + 1) <= 9 * (bq n + 1):=Nat.mul_le_mul_right _ (by omega)
   omega))
  clear R0 RB Rhs F4 P4 SN4 HA4 BL4
  go_loopg [13,14,74] (v + 1) (fun gh _ _ i wz=>∃ (j:Nat),i = .int .i64 j/\j + gh = v + 1/\Hd (BoxC wz wd.heap.size (aY (ap O gs (n + 1) h) low j))/\Hd (FArc wz b1 low)/\Hd (Blk wz w.heap.size 177 [.slice (some ⟨b,0,none⟩) (O + 1) (O + 1),.int .i64 ((v:Int) + 1),.bool s,.slice A m c,.slice A' m' c'])/\Hd (SeenAt wz mv L)/\Hd (FracAt 100000000 wz (.agg #[.bool s,.slice A m c,.slice A' m' c']) a)/\Hd (Below w.heap.size w wz))
  case atStart=>exact ⟨0,rfl,by omega,BR,F5,P5,SN5,HA5,BL5⟩
  clear BR F5 P5 SN5 HA5 BL5
  obtain ⟨j,rfl,hj,BR,F5,P5,SN5,HA5,BL5⟩:=hrel
  have hbr:=BR.o.lt
  rcases zP gk with hh | hh
  ·subst hh
   obtain rfl:j = v + 1:=by omega
   obtain ⟨rest,hrest⟩:=nm (aY (ap O gs (n + 1) h) low (v + 1))
   have QRE:=aH (QR.o (v + 1) (by omega))
   have RP:Hd (rest ≠ 0):=aH (by
    obtain ⟨x,hx,hx0⟩:=HNU.o
    have h1:=gc PL.o (j:=v + 1) (x:=x) (by omega) (by rw [LLH.o]; exact nR _) hx0
    rw [hrest] at h1
    exact fun e=>by rw [e] at h1; exact absurd h1 Rat.lt_irrefl)
   rw [hrest] at BR QRE
   have HREST:=aH hrest
   have hlen:=LN.o wr SN5.o
   obtain ⟨X1,hX1⟩:∃ x:Rat,a * (kk:Rat) = x:=⟨_,rfl⟩
   obtain ⟨X2,hX2⟩:∃ x:Rat,X1 / (N:Rat) = x:=⟨_,rfl⟩
   have QK:Hd (QB 64 (kk:Rat)):=aH (dA (by omega) (by omega))
   have QN:Hd (QB 64 (N:Rat)):=aH (dA (by omega) (by omega))
   have Q1:Hd (QB 128 X1):=aH (by rw [<- hX1]; exact QA.o.mul QK.o)
   have Q2:Hd (QB 192 X2):=aH (by rw [<- hX2]; exact Q1.o.div QN.o (by omega))
   have HX1:=aH hX1
   have HX2:=aH hX2
   have N0:Hd ((N:Rat) ≠ 0):=aH (by exact_mod_cast (show N ≠ 0 by omega))
   clear hrest hX1 hX2
   go_upto_region 22 with fail
   clear hlen
   go_cut [15] (fun p wc=>∃ bp,p = .pointer (some ⟨bp,0,none⟩)/\Hd (wr.heap.size <= bp)/\Hd (BoxC wc bp X2)/\Hd (Below wr.heap.size wr wc))
   case first =>
    have q5:=dP P5.o
    have hS:=(aI q5.2.2.1 (aI q5.2.2.2.1 (aI q5.2.2.2.2 (LN.o wr SN5.o))))
    have BB:=aH (Below.refl wr.heap.size wr)
    clear q5
    go_region_held3 (fun w'=>w'.cell? ⟨w.heap.size,2,none⟩ = some (.bool s)/\w'.cell? ⟨w.heap.size,3,none⟩ = some (.slice A m c)/\w'.cell? ⟨w.heap.size,4,none⟩ = some (.slice A' m' c')/\(Builtin.len_ #[206] 3 #[mv]).run Tryz.prog w' = .ok (.int .i64 kk) w')
     (first | assumption | exact ⟨hS.1,hS.2.1,hS.2.2.1,LN.o _ (SeenAt.drew SN5.o)⟩ | exact ⟨au hS.1 _,au hS.2.1 _,au hS.2.2.1 _,LN.o _ ((SN5.o.below BB.o).below (bA _ _))⟩ | exact ⟨au hS.1 _,au hS.2.1 _,au hS.2.2.1 _,LN.o _ (SN5.o.below (below_alloc_drew _ _))⟩ | exact ⟨aj hS.1 (by omega) _ _ _ _ _ _,aj hS.2.1 (by omega) _ _ _ _ _ _,aj hS.2.2.1 (by omega) _ _ _ _ _ _,LN.o _ ((SN5.o.below BB.o).far3 AB.o _ _ _ _ _ _)⟩ | go_keep)
     (first
      | (go_at_call_of 110 (Value.int .i64 kk); refine (ofI _ kk (by omega) (by omega)).mono ?_; rintro e wl ⟨u1,rfl,t,hb⟩; have hb0:=hb; (first | replace hb:=below_new_drew hb | replace hb:=below_new hb | replace hb:=bO hb | skip); (try (first | replace AB:=aH (AB.o.below' hb) | replace AB:=aH (AB.o.below hb))); (first | have AB:=aH ((BoxC.zero _).below hb0) | have AB:=aH ((BoxC.zero _).below (bO hb0)) | skip); replace BB:=aH (BB.o.trans (hb.mono BB.o.size)); have hs:=BB.o.size; clear hb0; have T1:=aH (t.at_.frac (k:=100000000) (QK.o.mono (by omega)) (by omega)); have q5:=dP (P5.o.below' BB.o); have hS:=(aI q5.2.2.1 (aI q5.2.2.2.1 (aI q5.2.2.2.2 (LN.o _ (SN5.o.below BB.o))))); clear t hb q5)
      | (go_at_call 121; refine (lP _ _ _ a (kk:Rat) 100000000 ?_ ?_ (by omega) (by omega)).mono ?_; (first | exact HA5.o.below BB.o | exact (HA5.o.below BB.o).below (bA _ _)); (first | exact T1.o | exact T1.o.below (bS _) | exact T1.o.below (bA _ _) | exact T1.o.below (below_alloc_drew _ _)); rintro e wl ⟨u2,rfl,t,hb⟩; rw [HX1.o] at t; have hb0:=hb; (first | replace hb:=below_new_drew hb | replace hb:=below_new hb | replace hb:=bO hb | skip); (try (first | replace AB:=aH (AB.o.below' hb) | replace AB:=aH (AB.o.below hb))); (first | have AB:=aH ((BoxC.zero _).below hb0) | have AB:=aH ((BoxC.zero _).below (bO hb0)) | skip); replace BB:=aH (BB.o.trans (hb.mono BB.o.size)); have hs:=BB.o.size; clear hb0; have T2:=aH (t.at_.frac (k:=100000000) (Q1.o.mono (by omega)) (by omega)); have q5:=dP (P5.o.below' BB.o); have hS:=(aI q5.2.2.1 (aI q5.2.2.2.1 (aI q5.2.2.2.2 (LN.o _ (SN5.o.below BB.o))))); clear t hb q5)
      | (go_at_call 110; refine (ofI _ N (by omega) (by omega)).mono ?_; rintro e wl ⟨u3,rfl,t,hb⟩; have hb0:=hb; (first | replace hb:=below_new_drew hb | replace hb:=below_new hb | replace hb:=bO hb | skip); (try (first | replace AB:=aH (AB.o.below' hb) | replace AB:=aH (AB.o.below hb))); (try (first | replace T2:=aH (T2.o.below' hb) | replace T2:=aH (T2.o.below hb))); (first | have AB:=aH ((BoxC.zero _).below hb0) | have AB:=aH ((BoxC.zero _).below (bO hb0)) | skip); replace BB:=aH (BB.o.trans (hb.mono BB.o.size)); have hs:=BB.o.size; clear hb0; have T3:=aH (t.at_.frac (k:=100000000) (QN.o.mono (by omega)) (by omega)); have q5:=dP (P5.o.below' BB.o); have hS:=(aI q5.2.2.1 (aI q5.2.2.2.1 (aI q5.2.2.2.2 (LN.o _ (SN5.o.below BB.o))))); clear t hb q5)
      | (go_at_call 223; refine (mS _ _ _ X1 (N:Rat) 100000000 ?_ ?_ (by omega) (by omega) N0.o).mono ?_; (first | exact T2.o | exact T2.o.below (bS _) | exact T2.o.below (bA _ _) | exact T2.o.below (below_alloc_drew _ _)); (first | exact T3.o | exact T3.o.below (bS _) | exact T3.o.below (bA _ _) | exact T3.o.below (below_alloc_drew _ _)); rintro e wl ⟨u4,rfl,t,hb⟩; rw [HX2.o] at t; have hb0:=hb; (first | replace hb:=below_new_drew hb | replace hb:=below_new hb | replace hb:=bO hb | skip); (try (first | replace AB:=aH (AB.o.below' hb) | replace AB:=aH (AB.o.below hb))); (first | have AB:=aH ((BoxC.zero _).below hb0) | have AB:=aH ((BoxC.zero _).below (bO hb0)) | skip); replace BB:=aH (BB.o.trans (hb.mono BB.o.size)); have hs:=BB.o.size; clear hb0; obtain ⟨Ar,mr,cr,Ar',mr',cr',rfl⟩:=t.at_.open_; have T4:=aH t.at_; (try (obtain ⟨_,_,_,_,_,_,ab0,ab1,ab2,az0,az1,az2,_⟩:=AB.o.get)); have q5:=dP (P5.o.below' BB.o); have hS:=(aI q5.2.2.1 (aI q5.2.2.2.1 (aI q5.2.2.2.2 (LN.o _ (SN5.o.below BB.o))))); clear t hb q5))
    all_goals
     go_wp2_with fail
     go_meet
     first
      | exact ⟨_,rfl,aH (by omega),aH (BoxC.new T4.o),aH (BB.o.alloc BB.o.size _)⟩
      | exact ⟨_,rfl,aH (by omega),aH (AB.o.put rfl T4.o),aH (aL BB.o (by omega) _ _ _ _ _ _)⟩
   obtain ⟨bf,rfl,hbf,BF,BC⟩:=hcut
   have s6:=hbf.o
   have BR6:=aH (BR.o.below BC.o)
   have F6:=aH (F5.o.below BC.o)
   have P6:=aH (P5.o.below' BC.o)
   have SN6:=aH (SN5.o.below BC.o)
   have HA6:=aH (HA5.o.below BC.o)
   have BL6:=aH (BL5.o.trans (BC.o.mono BL5.o.size))
   clear BR F5 P5 SN5 HA5 BL5 hbf BC
   obtain ⟨fw,hfw⟩:∃ f:Nat->Rat,f = fun x=>fU (ap O gs (n + 1) h) v a rest (low.getD x 0) x:=⟨_,rfl⟩
   have FW:=aH hfw
   clear hfw
   go_wp2_with fail
   go_loopg [16,17,98] (v + 1) (fun gh _ _ i wz=>∃ (j:Nat),i = .int .i64 j/\j + gh = v + 1/\Hd (FArc wz b1 ((List.range j).map fw ++ low.drop j))/\Hd (BoxC wz wd.heap.size rest)/\Hd (BoxC wz bf X2)/\Hd (Blk wz w.heap.size 177 [.slice (some ⟨b,0,none⟩) (O + 1) (O + 1),.int .i64 ((v:Int) + 1),.bool s,.slice A m c,.slice A' m' c'])/\Hd (SeenAt wz mv L)/\Hd (FracAt 100000000 wz (.agg #[.bool s,.slice A m c,.slice A' m' c']) a)/\Hd (Below w.heap.size w wz))
   case atStart=>exact ⟨0,rfl,by omega,aH (by simpa using F6.o),BR6,BF,P6,SN6,HA6,BL6⟩
   clear F6 BR6 BF P6 SN6 HA6 BL6
   obtain ⟨j,rfl,hj,F6,BR6,BF,P6,SN6,HA6,BL6⟩:=hrel
   rcases zP gk with hh | hh
   ·subst hh
    obtain rfl:j = v + 1:=by omega
    go_wp2_with fail
    go_ret
    exact ⟨b1,rfl,by omega,by
     have h1:=F6.o
     rw [dN (by rw [LLH.o]; exact nR _),List.append_nil,FW.o,<- HREST.o,<- HLOW.o] at h1
     unfold bJ
     rw [if_neg HALL.o,if_neg (show ¬ aM (ap O gs (n + 1) h) v = 0 by rw [HS.o]; omega)]
     exact h1,BL6.o⟩
   obtain ⟨gh,rfl⟩:∃ g,gk = g + 1:=⟨gk - 1,by omega⟩
   obtain ⟨cj,hcj⟩:=nm (ap O gs (n + 1) h (j:Int))
   obtain ⟨pj,hpj⟩:=nm (low.getD j 0)
   have hm:=M.o (j:Int)
   have QC:=aH (M.o.qb (j:Int))
   rw [hcj] at hm QC
   have QP:Hd (QB (bq n) pj):=aH (by rw [<- hpj]; exact cF (P:=fun q=>QB (bq n) q) (cB _ (by omega)) QL.o)
   have LK:Hd (∀ w',SeenAt w' mv L->(Instr.lookup 206 mv (.int .i64 (j:Int)) false).run Tryz.prog w' = .ok (.int .i64 cj) w'):=aH (fun w' hw'=>by
    rw [<- hcj]
    exact hw'.look CN.o (x:=(j:Int)) (by omega))
   have jl:j < low.length:=by rw [LLH.o]; omega
   have hget:=fz fw low jl
   rw [hpj] at hget
   have HG:=aH hget
   have JL:=aH jl
   have HV1:Hd (0 < cj->((cj:Rat) - a) / (N:Rat) = fw j):=aH (fun e=>by
    rw [FW.o]
    simp only [fU]
    rw [if_pos (by rw [hcj]; exact e),hcj,HS.o])
   have HV2:Hd (¬ 0 < cj->X2 * pj / rest = fw j):=aH (fun e=>by
    rw [FW.o]
    simp only [fU]
    rw [if_neg (by rw [hcj]; exact e),hpj,HS.o,<- HX2.o,<- HX1.o,show ((aF (ap O gs (n + 1) h) v:Nat):Rat) = (kk:Rat) by rw [<- HKK.o]; exact (Rat.intCast_natCast _).symm])
   obtain ⟨Ap,mp,cp,Ap',mp',cp',e0,e1,e2,_,_,_,tp⟩:=F6.o.get hget
   have TP:=aH (tp.frac (k:=100000000) (QP.o.mono (by omega)) (by omega))
   have hb1:=F6.o.lt
   have hlk:=LK.o _ (SN6.o.below (bA wr (.cells #[.bool (ae pj),.slice Ap mp cp,.slice Ap' mp' cp'] 40)))
   have j1:(0:Int) <= (j:Int):=by omega
   have j2:(j:Int) < (v:Int) + 1:=by omega
   clear hcj hpj hget jl tp
   by_cases hc:0 < cj
   ·have hcb:decide (0 < cj) = true:=dT hc
    have HV:=aH (HV1.o hc)
    obtain ⟨Y2,hY2⟩:∃ x:Rat,(cj:Rat) - a = x:=⟨_,rfl⟩
    have QY2:Hd (QB 129 Y2):=aH (by rw [<- hY2,Rat.sub_eq_add_neg]; exact QC.o.add QA.o.neg)
    have HY2:=aH hY2
    rw [hY2] at HV
    clear hY2
    go_wp2_with fail
    obtain ⟨W9,hW9,G0,GB,Ghs⟩:=aA wr 40 [.bool (ae pj),.slice Ap mp cp,.slice Ap' mp' cp']
    rw [<- hW9]
    clear hW9
    have SN7:=aH (SN6.o.below GB.o)
    have F7:=aH (F6.o.below GB.o)
    have P7:=aH (P6.o.below' GB.o)
    have HA7:=aH (HA6.o.below GB.o)
    have BR7:=aH (BR6.o.below GB.o)
    have BF7:=aH (BF.o.below GB.o)
    have BL7:=aH (BL6.o.trans (GB.o.mono BL6.o.size))
    clear hlk e0 e1 e2 G0 hc HV1 HV2
    have BB:=aH (Below.refl W9.heap.size W9)
    have q5:=dP P7.o
    have hS:=(aI q5.2.2.1 (aI q5.2.2.2.1 (aI q5.2.2.2.2 (LK.o W9 SN7.o))))
    clear q5
    go_region_held3 (fun w'=>w'.cell? ⟨w.heap.size,2,none⟩ = some (.bool s)/\w'.cell? ⟨w.heap.size,3,none⟩ = some (.slice A m c)/\w'.cell? ⟨w.heap.size,4,none⟩ = some (.slice A' m' c')/\(Instr.lookup 206 mv (.int .i64 (j:Int)) false).run Tryz.prog w' = .ok (.int .i64 cj) w')
     (first | assumption | exact ⟨hS.1,hS.2.1,hS.2.2.1,LK.o _ (SeenAt.drew SN7.o)⟩ | exact ⟨aj hS.1 (by omega) _ _ _ _ _ _,aj hS.2.1 (by omega) _ _ _ _ _ _,aj hS.2.2.1 (by omega) _ _ _ _ _ _,LK.o _ ((SN7.o.below BB.o).far3 (F7.o.below BB.o) _ _ _ _ _ _)⟩ | go_keep)
     (first
      | (go_at_call_of 110 (Value.int .i64 cj); refine (ofI _ cj (by omega) (by omega)).mono ?_; rintro e wl ⟨u1,rfl,t,hb⟩; have hb0:=hb; (first | replace hb:=below_new_drew hb | replace hb:=below_new hb | replace hb:=bO hb | skip); (try (first | replace AB:=aH (AB.o.below' hb) | replace AB:=aH (AB.o.below hb))); (first | have AB:=aH ((BoxC.zero _).below hb0) | have AB:=aH ((BoxC.zero _).below (bO hb0)) | skip); replace BB:=aH (BB.o.trans (hb.mono BB.o.size)); have hs:=BB.o.size; clear hb0; have T1:=aH (t.at_.frac (k:=100000000) (QC.o.mono (by omega)) (by omega)); have q5:=dP (P7.o.below' BB.o); have hS:=(aI q5.2.2.1 (aI q5.2.2.2.1 (aI q5.2.2.2.2 (LK.o _ (SN7.o.below BB.o))))); clear t hb q5)
      | (go_at_call 224; refine (wq _ _ _ (cj:Rat) a 100000000 ?_ ?_ (by omega) (by omega)).mono ?_; (first | exact T1.o | exact T1.o.below (bS _) | exact T1.o.below (bA _ _) | exact T1.o.below (below_alloc_drew _ _)); (exact HA7.o.below BB.o); rintro e wl ⟨u2,rfl,t,hb⟩; rw [HY2.o] at t; have hb0:=hb; (first | replace hb:=below_new_drew hb | replace hb:=below_new hb | replace hb:=bO hb | skip); (try (first | replace AB:=aH (AB.o.below' hb) | replace AB:=aH (AB.o.below hb))); (first | have AB:=aH ((BoxC.zero _).below hb0) | have AB:=aH ((BoxC.zero _).below (bO hb0)) | skip); replace BB:=aH (BB.o.trans (hb.mono BB.o.size)); have hs:=BB.o.size; clear hb0; have T2:=aH (t.at_.frac (k:=100000000) (QY2.o.mono (by omega)) (by omega)); have q5:=dP (P7.o.below' BB.o); have hS:=(aI q5.2.2.1 (aI q5.2.2.2.1 (aI q5.2.2.2.2 (LK.o _ (SN7.o.below BB.o))))); clear t hb q5)
      | (go_at_call 110; refine (ofI _ N (by omega) (by omega)).mono ?_; rintro e wl ⟨u3,rfl,t,hb⟩; have hb0:=hb; (first | replace hb:=below_new_drew hb | replace hb:=below_new hb | replace hb:=bO hb | skip); (try (first | replace AB:=aH (AB.o.below' hb) | replace AB:=aH (AB.o.below hb))); (try (first | replace T2:=aH (T2.o.below' hb) | replace T2:=aH (T2.o.below hb))); (first | have AB:=aH ((BoxC.zero _).below hb0) | have AB:=aH ((BoxC.zero _).below (bO hb0)) | skip); replace BB:=aH (BB.o.trans (hb.mono BB.o.size)); have hs:=BB.o.size; clear hb0; have T3:=aH (t.at_.frac (k:=100000000) (QN.o.mono (by omega)) (by omega)); have q5:=dP (P7.o.below' BB.o); have hS:=(aI q5.2.2.1 (aI q5.2.2.2.1 (aI q5.2.2.2.2 (LK.o _ (SN7.o.below BB.o))))); clear t hb q5)
      | (go_at_call 223; refine (mS _ _ _ Y2 (N:Rat) 100000000 ?_ ?_ (by omega) (by omega) N0.o).mono ?_; (first | exact T2.o | exact T2.o.below (bS _) | exact T2.o.below (bA _ _) | exact T2.o.below (below_alloc_drew _ _)); (first | exact T3.o | exact T3.o.below (bS _) | exact T3.o.below (bA _ _) | exact T3.o.below (below_alloc_drew _ _)); rintro e wl ⟨u4,rfl,t,hb⟩; rw [HV.o] at t; have hb0:=hb; (first | replace hb:=below_new_drew hb | replace hb:=below_new hb | replace hb:=bO hb | skip); (try (first | replace AB:=aH (AB.o.below' hb) | replace AB:=aH (AB.o.below hb))); (first | have AB:=aH ((BoxC.zero _).below hb0) | have AB:=aH ((BoxC.zero _).below (bO hb0)) | skip); replace BB:=aH (BB.o.trans (hb.mono BB.o.size)); have hs:=BB.o.size; clear hb0; obtain ⟨Ar,mr,cr,Ar',mr',cr',rfl⟩:=t.at_.open_; have T4:=aH t.at_; have q5:=dP (P7.o.below' BB.o); have hS:=(aI q5.2.2.1 (aI q5.2.2.2.1 (aI q5.2.2.2.2 (LK.o _ (SN7.o.below BB.o))))); obtain ⟨_,_,_,_,_,_,f0,f1,f2,y0,y1,y2,_⟩:=(F7.o.below BB.o).get HG.o; clear t hb q5))
    go_wp2_with fail
    go_roundg gh
    case measure=>omega
    case rel =>
     have F8:=F7.o.below BB.o
     exact ⟨j + 1,rfl,by omega,aH (by
      have:=F8.put (i:=j) (by have:=JL.o; simp; omega) rfl T4.o
      rwa [cN fw low JL.o rfl] at this),aH (FArc.far (BR7.o.below BB.o) F8 (by omega) _ _ _ _ _ _ _ _ _ _),aH (FArc.far (BF7.o.below BB.o) F8 (by omega) _ _ _ _ _ _ _ _ _ _),aH ((P7.o.below' BB.o).far3 (by omega) _ _ _ _ _ _),aH ((SN7.o.below BB.o).far3 F8 _ _ _ _ _ _),aH (F8.keepsF (HA7.o.below BB.o) _ _ _ _ _ _ _ _ _ _),aH (aL (BL7.o.trans (BB.o.mono BL7.o.size)) (by omega) _ _ _ _ _ _)⟩
   have hcb:decide (0 < cj) = false:=dF hc
   have HV:=aH (HV2.o hc)
   obtain ⟨Y2,hY2⟩:∃ x:Rat,X2 * pj = x:=⟨_,rfl⟩
   have QY2:Hd (QB 50000000 Y2):=aH (by rw [<- hY2]; exact (Q2.o.mul QP.o).mono (by omega))
   have HY2:=aH hY2
   rw [hY2] at HV
   obtain ⟨Aq,mq,cq,Aq',mq',cq',f0,f1,f2,_,_,_,tq⟩:=BF.o.get
   have TQ:=aH (tq.frac (k:=100000000) (Q2.o.mono (by omega)) (by omega))
   obtain ⟨Ar,mr,cr,Ar',mr',cr',r0,r1,r2,_,_,_,tr⟩:=BR6.o.get
   have TR:=aH (tr.frac (k:=100000000) (QRE.o.mono (by omega)) (by omega))
   clear hY2 tq tr
   go_wp2_with fail
   obtain ⟨W9,hW9,G0,GB,Ghs⟩:=aA wr 40 [.bool (ae pj),.slice Ap mp cp,.slice Ap' mp' cp']
   rw [<- hW9]
   clear hW9
   have SN7:=aH (SN6.o.below GB.o)
   have F7:=aH (F6.o.below GB.o)
   have P7:=aH (P6.o.below' GB.o)
   have HA7:=aH (HA6.o.below GB.o)
   have BR7:=aH (BR6.o.below GB.o)
   have BF7:=aH (BF.o.below GB.o)
   have TP7:=aH (TP.o.below GB.o)
   have TQ7:=aH (TQ.o.below GB.o)
   have TR7:=aH (TR.o.below GB.o)
   have BL7:=aH (BL6.o.trans (GB.o.mono BL6.o.size))
   have lf:=BF.o.lt
   have lr:=BR6.o.lt
   have E0:=aH G0.o.three
   have E1:=aH (aI ((GB.o.cell (p:=⟨bf,0,none⟩) lf).trans f0) (aI ((GB.o.cell (p:=⟨bf,1,none⟩) lf).trans f1) ((GB.o.cell (p:=⟨bf,2,none⟩) lf).trans f2)))
   have E2:=aH (aI ((GB.o.cell (p:=⟨wd.heap.size,0,none⟩) lr).trans r0) (aI ((GB.o.cell (p:=⟨wd.heap.size,1,none⟩) lr).trans r1) ((GB.o.cell (p:=⟨wd.heap.size,2,none⟩) lr).trans r2)))
   have lg:=G0.o.lt
   have lf7:=BF7.o.lt
   have lr7:=BR7.o.lt
   clear hlk e0 e1 e2 f0 f1 f2 r0 r1 r2 hc HV1 HV2
   have BB:=aH (Below.refl W9.heap.size W9)
   have hS:=(aI E0.o.1 (aI E0.o.2.1 (aI E0.o.2.2.1 (aI E1.o.1 (aI E1.o.2.1 (aI E1.o.2.2 (aI E2.o.1 (aI E2.o.2.1 E2.o.2.2))))))))
   go_region_held3 (fun w'=>w'.cell? ⟨wr.heap.size,0,none⟩ = some (.bool (ae pj))/\w'.cell? ⟨wr.heap.size,1,none⟩ = some (.slice Ap mp cp)/\w'.cell? ⟨wr.heap.size,2,none⟩ = some (.slice Ap' mp' cp')/\w'.cell? ⟨bf,0,none⟩ = some (.bool (ae X2))/\w'.cell? ⟨bf,1,none⟩ = some (.slice Aq mq cq)/\w'.cell? ⟨bf,2,none⟩ = some (.slice Aq' mq' cq')/\w'.cell? ⟨wd.heap.size,0,none⟩ = some (.bool (ae rest))/\w'.cell? ⟨wd.heap.size,1,none⟩ = some (.slice Ar mr cr)/\w'.cell? ⟨wd.heap.size,2,none⟩ = some (.slice Ar' mr' cr'))
    (first | assumption | exact ⟨aj hS.1 (show wr.heap.size ≠ b1 by omega) _ _ _ _ _ _,aj hS.2.1 (show wr.heap.size ≠ b1 by omega) _ _ _ _ _ _,aj hS.2.2.1 (show wr.heap.size ≠ b1 by omega) _ _ _ _ _ _,aj hS.2.2.2.1 (show bf ≠ b1 by omega) _ _ _ _ _ _,aj hS.2.2.2.2.1 (show bf ≠ b1 by omega) _ _ _ _ _ _,aj hS.2.2.2.2.2.1 (show bf ≠ b1 by omega) _ _ _ _ _ _,aj hS.2.2.2.2.2.2.1 (show wd.heap.size ≠ b1 by omega) _ _ _ _ _ _,aj hS.2.2.2.2.2.2.2.1 (show wd.heap.size ≠ b1 by omega) _ _ _ _ _ _,aj hS.2.2.2.2.2.2.2.2 (show wd.heap.size ≠ b1 by omega) _ _ _ _ _ _⟩ | go_keep)
    (first
     | (go_at_call 121; refine (lP _ _ _ X2 pj 100000000 ?_ ?_ (by omega) (by omega)).mono ?_; (first | exact TQ7.o | exact TQ7.o.below (bS _) | exact TQ7.o.below (bA _ _) | exact TQ7.o.below (below_alloc_drew _ _)); (first | exact TP7.o | exact TP7.o.below (bS _) | exact TP7.o.below (bA _ _) | exact TP7.o.below (below_alloc_drew _ _)); rintro e wl ⟨u1,rfl,t,hb⟩; rw [HY2.o] at t; have hb0:=hb; (first | replace hb:=below_new_drew hb | replace hb:=below_new hb | replace hb:=bO hb | skip); (try (first | replace AB:=aH (AB.o.below' hb) | replace AB:=aH (AB.o.below hb))); (first | have AB:=aH ((BoxC.zero _).below hb0) | have AB:=aH ((BoxC.zero _).below (bO hb0)) | skip); replace BB:=aH (BB.o.trans (hb.mono BB.o.size)); have hs:=BB.o.size; clear hb0; have T1:=aH (t.at_.frac (k:=100000000) (QY2.o.mono (by omega)) (by omega)); have hS:=(aI ((BB.o.cell (p:=⟨wr.heap.size,0,none⟩) lg).trans E0.o.1) (aI ((BB.o.cell (p:=⟨wr.heap.size,1,none⟩) lg).trans E0.o.2.1) (aI ((BB.o.cell (p:=⟨wr.heap.size,2,none⟩) lg).trans E0.o.2.2.1) (aI ((BB.o.cell (p:=⟨bf,0,none⟩) lf7).trans E1.o.1) (aI ((BB.o.cell (p:=⟨bf,1,none⟩) lf7).trans E1.o.2.1) (aI ((BB.o.cell (p:=⟨bf,2,none⟩) lf7).trans E1.o.2.2) (aI ((BB.o.cell (p:=⟨wd.heap.size,0,none⟩) lr7).trans E2.o.1) (aI ((BB.o.cell (p:=⟨wd.heap.size,1,none⟩) lr7).trans E2.o.2.1) ((BB.o.cell (p:=⟨wd.heap.size,2,none⟩) lr7).trans E2.o.2.2))))))))); clear t hb)
     | (go_at_call 223; refine (mS _ _ _ Y2 rest 100000000 ?_ ?_ (by omega) (by omega) RP.o).mono ?_; (first | exact T1.o | exact T1.o.below (bS _) | exact T1.o.below (bA _ _) | exact T1.o.below (below_alloc_drew _ _)); (exact TR7.o.below BB.o); rintro e wl ⟨u2,rfl,t,hb⟩; rw [HV.o] at t; have hb0:=hb; (first | replace hb:=below_new_drew hb | replace hb:=below_new hb | replace hb:=bO hb | skip); (try (first | replace AB:=aH (AB.o.below' hb) | replace AB:=aH (AB.o.below hb))); (first | have AB:=aH ((BoxC.zero _).below hb0) | have AB:=aH ((BoxC.zero _).below (bO hb0)) | skip); replace BB:=aH (BB.o.trans (hb.mono BB.o.size)); have hs:=BB.o.size; clear hb0; obtain ⟨As,ms,cs,As',ms',cs',rfl⟩:=t.at_.open_; have T4:=aH t.at_; have hS:=(aI ((BB.o.cell (p:=⟨wr.heap.size,0,none⟩) lg).trans E0.o.1) (aI ((BB.o.cell (p:=⟨wr.heap.size,1,none⟩) lg).trans E0.o.2.1) (aI ((BB.o.cell (p:=⟨wr.heap.size,2,none⟩) lg).trans E0.o.2.2.1) (aI ((BB.o.cell (p:=⟨bf,0,none⟩) lf7).trans E1.o.1) (aI ((BB.o.cell (p:=⟨bf,1,none⟩) lf7).trans E1.o.2.1) (aI ((BB.o.cell (p:=⟨bf,2,none⟩) lf7).trans E1.o.2.2) (aI ((BB.o.cell (p:=⟨wd.heap.size,0,none⟩) lr7).trans E2.o.1) (aI ((BB.o.cell (p:=⟨wd.heap.size,1,none⟩) lr7).trans E2.o.2.1) ((BB.o.cell (p:=⟨wd.heap.size,2,none⟩) lr7).trans E2.o.2.2))))))))); obtain ⟨_,_,_,_,_,_,f0,f1,f2,y0,y1,y2,_⟩:=(F7.o.below BB.o).get HG.o; clear t hb))
   go_wp2_with fail
   go_roundg gh
   case measure=>omega
   case rel =>
    have F8:=F7.o.below BB.o
    exact ⟨j + 1,rfl,by omega,aH (by
     have:=F8.put (i:=j) (by have:=JL.o; simp; omega) rfl T4.o
     rwa [cN fw low JL.o rfl] at this),aH (FArc.far (BR7.o.below BB.o) F8 (by omega) _ _ _ _ _ _ _ _ _ _),aH (FArc.far (BF7.o.below BB.o) F8 (by omega) _ _ _ _ _ _ _ _ _ _),aH ((P7.o.below' BB.o).far3 (by omega) _ _ _ _ _ _),aH ((SN7.o.below BB.o).far3 F8 _ _ _ _ _ _),aH (F8.keepsF (HA7.o.below BB.o) _ _ _ _ _ _ _ _ _ _),aH (aL (BL7.o.trans (BB.o.mono BL7.o.size)) (by omega) _ _ _ _ _ _)⟩
  obtain ⟨gh,rfl⟩:∃ g,gk = g + 1:=⟨gk - 1,by omega⟩
  obtain ⟨cj,hcj⟩:=nm (ap O gs (n + 1) h (j:Int))
  obtain ⟨pj,hpj⟩:=nm (low.getD j 0)
  obtain ⟨rj,hrj⟩:=nm (aY (ap O gs (n + 1) h) low j)
  have hm:=M.o (j:Int)
  rw [hcj] at hm
  have QP:Hd (QB (bq n) pj):=aH (by rw [<- hpj]; exact cF (P:=fun q=>QB (bq n) q) (cB _ (by omega)) QL.o)
  have QJ:=aH (QR.o j (by omega))
  rw [hrj] at QJ BR
  have HC0:Hd (cj = 0->aY (ap O gs (n + 1) h) low (j + 1) = rj + pj):=aH (fun e=>by
   show (if ap O gs (n + 1) h (j:Int) = 0 then _ else _) = _
   rw [if_pos (by rw [hcj,e]),hrj,hpj])
  have HC1:Hd (¬ cj = 0->aY (ap O gs (n + 1) h) low (j + 1) = rj):=aH (fun e=>by
   show (if ap O gs (n + 1) h (j:Int) = 0 then _ else _) = _
   rw [if_neg (by rw [hcj]; exact e),hrj])
  have LK:Hd (∀ w',SeenAt w' mv L->(Instr.lookup 206 mv (.int .i64 (j:Int)) false).run Tryz.prog w' = .ok (.int .i64 cj) w'):=aH (fun w' hw'=>by
   rw [<- hcj]
   exact hw'.look CN.o (x:=(j:Int)) (by omega))
  have hget:low[j]? = some pj:=by rw [<- hpj,gD,eG (by rw [LLH.o]; omega)]; rfl
  obtain ⟨Ap,mp,cp,Ap',mp',cp',e0,e1,e2,_,_,_,tp⟩:=F5.o.get hget
  have TP:=aH (tp.frac (k:=100000000) (QP.o.mono (by omega)) (by omega))
  obtain ⟨Ar,mr,cr,Ar',mr',cr',r0,r1,r2,z0,z1,z2,tr⟩:=BR.o.get
  have TR:=aH (tr.frac (k:=100000000) (QJ.o.mono (by omega)) (by omega))
  have hb1:=F5.o.lt
  have hlk:=LK.o _ (SN5.o.below (bA wr (.cells #[.bool (ae pj),.slice Ap mp cp,.slice Ap' mp' cp'] 40)))
  have j1:(0:Int) <= (j:Int):=by omega
  have j2:(j:Int) < (v:Int) + 1:=by omega
  clear hcj hpj hrj hget tp tr
  by_cases hc:cj = 0
  ·subst hc
   have HR:=aH (HC0.o rfl)
   go_wp2_with fail
   refine (l8 _ _ _ rj pj 100000000 ?_ ?_ (by omega) (by omega)).mono ?_
   ·exact TR.o.below (bA _ _)
   ·exact TP.o.below (bA _ _)
   rintro e w7 ⟨u,rfl,t,hb⟩
   replace hb:=below_new hb
   obtain ⟨As,ms,cs,As',ms',cs',rfl⟩:=t.at_.open_
   have T7:=aH t.at_
   have BR7:=aH (BR.o.below hb)
   have F7:=aH (F5.o.below hb)
   have P7:=aH (P5.o.below' hb)
   have SN7:=aH (SN5.o.below hb)
   have HA7:=aH (HA5.o.below hb)
   have BL7:=aH (BL5.o.trans (hb.mono BL5.o.size))
   clear hlk e0 e1 e2 r0 r1 r2 z0 z1 z2 t hb
   obtain ⟨_,_,_,_,_,_,r0,r1,r2,z0,z1,z2,_⟩:=BR7.o.get
   go_wp2_with fail
   go_roundg gh
   case measure=>omega
   case rel=>exact ⟨j + 1,rfl,by omega,aH (by rw [HR.o]; exact BR7.o.put rfl T7.o),aH (F7.o.far BR7.o (by omega) _ _ _ _ _ _ _ _ _ _),aH (P7.o.far3 (by omega) _ _ _ _ _ _),aH (SN7.o.far3 BR7.o _ _ _ _ _ _),aH (FArc.keepsF BR7.o HA7.o _ _ _ _ _ _ _ _ _ _),aH (aL BL7.o (by omega) _ _ _ _ _ _)⟩
  have hcb:(cj == 0) = false:=by simpa using hc
  have HR:=aH (HC1.o hc)
  have hb:=bA wr (.cells #[.bool (ae pj),.slice Ap mp cp,.slice Ap' mp' cp'] 40)
  have HB:=aH hb
  clear hc hb
  go_wp2_with fail
  go_roundg gh
  case measure=>omega
  case rel=>exact ⟨j + 1,rfl,by omega,aH (by rw [HR.o]; exact BR.o.below HB.o),aH (F5.o.below HB.o),aH (P5.o.below' HB.o),aH (SN5.o.below HB.o),aH (HA5.o.below HB.o),aH (BL5.o.trans (HB.o.mono BL5.o.size))⟩
end Go.Proofs.YtjebfdfkjlkifaaGreat
