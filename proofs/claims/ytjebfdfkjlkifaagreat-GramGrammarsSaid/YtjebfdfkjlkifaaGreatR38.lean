/- Lemmas. -/
import Derived.Test.YtjebfdfkjlkifaaGreatR37
import Derived.Test.YtjebfdfkjlkifaaGreatR27
set_option linter.all false
set_option maxRecDepth 1000000
set_option maxHeartbeats 32000000
namespace Go.Proofs.YtjebfdfkjlkifaaGreat
open Go.RowKit
section
attribute [local go_sem] Oper.semAt_some

theorem Sl.keptOff {w w':World} {sz:Nat} {v:Value} {n:Nat} {xs:List Value} {row:Option Nat} (h:Sl w sz v n xs)(hg:w.grownBy w' row)(ho:∀ b,row = some b->Off v b):Sl w' sz v n xs:=by
 obtain ⟨h0,A,c,rfl,h2,h3,h5⟩:=h
 refine ⟨h0,A,c,rfl,h2,h3,fun hn=>?_⟩
 obtain ⟨b,off,rfl,hlt,hc⟩:=h5 hn
 exact ⟨b,off,rfl,Nat.lt_of_lt_of_le hlt hg.size,fun j u hu=>(World.cell?_of_block (hg.block b hlt (fun e=>ho b e.symm _ _ _ rfl hn rfl))).trans (hc j u hu)⟩
theorem gC {v:Value} {b:Nat} (h:v.ownBlock = some b):∃ ad n c,v = .slice (some ad) n c/\ad.block = b:=by
 unfold Value.ownBlock at h
 split at h
 ·cases h; exact ⟨_,_,_,rfl,rfl⟩
 cases h
theorem qG {base:Nat} {w w':World} {v v' wsl:Value} {cells:List Value} {gs:List Gr} {ws:List Int} {n:Int} (hc:mc w v base cells gs)(hl:cells.length = gs.length * 2)(hw:IntsAt w wsl ws)(hf:From wsl base)(hap:nS wsl v)
  (hown:w'.ownsRow base 51 2 v' (gs.length + 1) (cells ++ [wsl,.int .i64 n]))(hg:w.grownBy w' v.ownBlock)(hv:v'.ownBlock = v.ownBlock ∨ v'.ownBlock = some w.heap.size):GOwn base w' v' (gs ++ [(ws,n)]):=by
 have key:∀ (c0:Value) (l:List Int),IntsAt w c0 l->nS c0 v->IntsAt w' c0 l/\nS c0 v':=by
  intro c0 l h1 h2
  refine ⟨Sl.keptOff h1 hg (fun b hb=>?_),fun ad m c e=>?_⟩
  ·obtain ⟨ad,m,c,e,rfl⟩:=gC hb
   exact h2 ad m c e
  have h3:v'.ownBlock = some ad.block:=by rw [e]; rfl
  rcases hv with hv | hv
  ·obtain ⟨ad',m',c',e',h4⟩:=gC (hv.symm.trans h3)
   rw [<- h4]
   exact h2 ad' m' c' e'
  have h4:w.heap.size = ad.block:=by rw [h3] at hv; exact (Option.some.inj hv).symm
  rw [<- h4]
  exact h1.off (nR _)
 refine ⟨cells ++ [wsl,.int .i64 n],by rw [List.length_append,List.length_singleton]; exact hown,fun i g hgi=>?_⟩
 rcases Nat.lt_or_ge i gs.length with h | h
 ·rw [List.getElem?_append_left h] at hgi
  obtain ⟨c0,e0,e1,e2,e3,e4⟩:=hc i g hgi
  exact ⟨c0,by rw [List.getElem?_append_left (by omega)]; exact e0,by rw [List.getElem?_append_left (by omega)]; exact e1,(key c0 _ e2 e4).1,e3,(key c0 _ e2 e4).2⟩
 rw [List.getElem?_append_right h] at hgi
 obtain ⟨h1,h2⟩:i = gs.length/\g = (ws,n):=by
  cases hi:i - gs.length with
  | zero=>rw [hi] at hgi; simp at hgi; exact ⟨by omega,hgi.symm⟩
  | succ k=>rw [hi] at hgi; simp at hgi
 subst h1
 subst h2
 refine ⟨wsl,?_,?_,(key _ _ hw hap).1,hf,(key _ _ hw hap).2⟩
 ·rw [List.getElem?_append_right (by omega),hl,Nat.sub_self]; rfl
 rw [List.getElem?_append_right (by omega),hl,show gs.length * 2 + 1 - gs.length * 2 = 1 by omega]; rfl

theorem rX {w w':World} {base:Nat} {e:TypeId} {sz:Nat} {v:Value} {n:Nat} {xs:List Value} (h:w.ownsRow base e sz v n xs)(hc:Calm w w'):w'.ownsRow base e sz v n xs:=by
 obtain ⟨h0,h1 | ⟨g,cap,cur,hv,hg,hh,hr⟩⟩:=h
 ·exact ⟨h0,.inl h1⟩
 exact ⟨h0,.inr ⟨g,cap,cur,hv,hg,hc.same _ _ hh rfl,hr⟩⟩
theorem GOwn.calm {base:Nat} {w w':World} {v:Value} {gs:List Gr} (h:GOwn base w v gs)(hb:Calm w w'):GOwn base w' v gs:=by
 obtain ⟨cells,h1,h2⟩:=h
 refine ⟨cells,rX h1 hb,fun i g hg=>?_⟩
 obtain ⟨c0,e0,e1,e2,e3,e4⟩:=h2 i g hg
 exact ⟨c0,e0,e1,e2.calm hb,e3,e4⟩
theorem o5 {w:World} {base:Nat} {e:TypeId} {sz:Nat} {v:Value} {n:Nat} {xs:List Value} (h:w.ownsRow base e sz v n xs) {p:Addr} (hp:p.block < base) (u:Value):(w.setCell p u).ownsRow base e sz v n xs:=by
 obtain ⟨h0,h1 | ⟨g,cap,cur,hv,hg,hh,hr⟩⟩:=h
 ·exact ⟨h0,.inl h1⟩
 exact ⟨h0,.inr ⟨g,cap,cur,hv,hg,(Below.heap_setCell w p u g (by omega)).trans hh,hr⟩⟩
theorem GOwn.far {base:Nat} {w:World} {v:Value} {gs:List Gr} (h:GOwn base w v gs) {p:Addr} (hp:p.block < base) (u:Value):GOwn base (w.setCell p u) v gs:=by
 obtain ⟨cells,h1,h2⟩:=h
 refine ⟨cells,o5 h1 hp u,fun i g hg=>?_⟩
 obtain ⟨c0,e0,e1,e2,e3,e4⟩:=h2 i g hg
 exact ⟨c0,e0,e1,Sl.setOff e2 (e3.off hp) u,e3,e4⟩
theorem g9 {w:World} {base:Nat} {e:TypeId} {sz:Nat} {v:Value} {n:Nat} {xs:List Value} (h:w.ownsRow base e sz v (n + 1) xs)(hsz:0 < sz):∃ g cap,v = .slice (some ⟨g,0,none⟩) (n + 1) cap:=by
 obtain ⟨h0,⟨_,h1⟩ | ⟨g,cap,cur,hv,_⟩⟩:=h
 ·rw [h1] at h0
  simp at h0
  omega
 exact ⟨g,cap,hv⟩

def dQ (gs:List Gr):Prop:=gs.Pairwise fun g h=>¬ bC h.1 g.1 < 0

theorem tJ (w:World) (mo:Nat) (V:Int) (bm:Nat) (m:List (List Int × Int))(hm:TMap aV (Value.int .i64) w 120 bm m)(hmo:mo <= 3)(hn:∀ e ∈ m,e.1.length = mo + 1/\NiceK e.1/\0 <= e.2/\e.2 <= 1073741824)(hl:m.length <= 20000)
  (hsort:∀ W B A n c gs,GOwn B W (.slice A n c) gs->gs.length = n->n <= 20000->B <= W.heap.size->Calls Tryz.prog 136 #[.slice A n c,.func (.func 137) #[] #[]] W fun e w'=>e = .returned (.tuple #[])/\∃ gs':List Gr,gs'.Perm gs/\dQ gs'/\GOwn B w' (.slice A n c) gs'/\Below B W w') :
  Calls Tryz.prog 82 #[.int .i64 ((mo + 1:Nat):Int),.int .i64 V,.map (some bm)] w fun e w'=>∃ A c gs',e = .returned (.tuple #[.agg #[.int .i64 ((mo + 1:Nat):Int),.int .i64 V,.slice A m.length c],.int .i64 0])/\gs'.Perm m/\dQ gs'/\GOwn w.heap.size w' (.slice A m.length c) gs'/\Below w.heap.size w w':=by
 obtain ⟨O,hO⟩:∃ O:Int,((mo + 1:Nat):Int) = O:=⟨_,rfl⟩
 rw [hO]
 have q0:(0:Int) <= O:=by omega
 have q1:O <= 4:=by omega
 have HO:=aH hO
 clear hO
 have HM:=aH hm
 have HN:=aH hn
 have HSO:=aH hsort
 obtain ⟨p,hp⟩:=nm (m.length)
 rw [hp] at hl ⊢
 have HP:=aH hp
 have d1:decide ((20000:Int) < (p:Int)) = false:=dF (by omega)
 have hbm:bm < w.heap.size:=by
  have:=hm.1
  exact (Array.getElem?_eq_some_iff.1 this).1
 clear hm hn hsort hp
 have hlen:∀ (o:Obj),(Builtin.len_ #[115] 3 #[.map (some bm)]).run Tryz.prog (w.alloc o) = .ok (.int .i64 (p:Int)) (w.alloc o):=fun o=>by
  have h1:=MapAt.len (P:=Tryz.prog) (t:=115) (HM.o.below ((Below.refl _ w).alloc (nR _) o)) Tryz.underlying115 3
  rw [show (cR aV (Value.int .i64) m).length = p by simpa [cR] using HP.o] at h1
  exact h1
 go_enter Tryz.func82,Tryz.ntmps82
 go_upto_region 4 with fail
 obtain ⟨W2,hW2,P0,P1,PB,Phs⟩:=cP w 27 [.int .i64 0,.int .i64 0,.slice none 0 0] 27 [.int .i64 O,.int .i64 V,.slice none 0 0]
 rw [<- hW2]
 clear hW2
 clear hlen
 have M2:=aH (HM.o.below PB.o)
 go_wp2_with (refine eJ rfl _ _ rfl 120 3 Tryz.underlying115 bm _ rfl M2.o ?_)
 intro w4 hm4 hi4 hb4 hs4
 have I4:Hd (IterAt w4 W2.heap.size bm m.length []):=aH (by simpa [cR] using hi4)
 have Q0:=aH (P0.o.below' hb4)
 have Q1:=aH (P1.o.below' hb4)
 have B4:=aH (PB.o.trans (hb4.mono PB.o.size))
 clear hm4 hi4 hb4 M2
 go_wp2_with fail
 go_loopg [9,10,11,13] p (fun gh _ _ _ _ wz=>∃ (vis:List Nat) (A:Option Addr) (c:Nat),vis.length + gh = p/\Hd (vis.Nodup/\∀ i ∈ vis,i < m.length)/\Hd (IterAt wz W2.heap.size bm m.length vis)/\Hd (GOwn (W2.heap.size + 1) wz (.slice A vis.length c) (cS m vis)) /\
  Hd (Blk wz (w.heap.size + 1) 27 [.int .i64 O,.int .i64 V,.slice A vis.length c])/\Hd (Blk wz w.heap.size 27 [.int .i64 0,.int .i64 0,.slice none 0 0])/\Hd (Below w.heap.size w wz)/\W2.heap.size + 1 <= wz.heap.size)
 case atStart=>exact ⟨[],none,0,by simp,aH ⟨List.nodup_nil,fun i hi=>by cases hi⟩,I4,aH (GOwn.nil_ _ _),Q1,Q0,B4,by omega⟩
 clear I4 Q0 Q1 B4 hs4
 obtain ⟨vis,A,c,hvl,VIS,I4,LS,Q1,Q0,B4,hsz⟩:=hrel
 have M4:=aH (HM.o.below B4.o)
 have I5:Hd (IterAt wr W2.heap.size bm (cR aV (Value.int .i64) m).length vis):=aH (by simpa [cR] using I4.o)
 go_wp2_with (refine fe rfl _ rfl 120 bm W2.heap.size (cR aV (Value.int .i64) m) vis rfl M4.o I5.o ?done ?more)
 case done =>
  intro hdone
  have HPM:Hd ((cS m vis).Perm m):=aH (kA VIS.o.1 VIS.o.2 (fun j hj=>hdone j (by simpa [cR] using hj)))
  have hvp:vis.length = p:=by have:=HPM.o.length_eq; rw [HP.o] at this; simpa [cS] using this
  obtain ⟨t0,t1,t2⟩:wr.cell? ⟨w.heap.size + 1,0,none⟩ = some (.int .i64 O)/\wr.cell? ⟨w.heap.size + 1,1,none⟩ = some (.int .i64 V)/\wr.cell? ⟨w.heap.size + 1,2,none⟩ = some (.slice A vis.length c):=⟨Q1.o.cell 0,Q1.o.cell 1,Q1.o.cell 2⟩
  have LSp:GOwn (W2.heap.size + 1) wr (.slice A p c) (cS m vis):=by rw [<- hvp]; exact LS.o
  have HLS:=aH LSp
  have HVP:=aH hvp
  clear hdone I5 LSp hvp
  go_wp2_with fail
  rw [HVP.o]
  refine (HSO.o wr (W2.heap.size + 1) A p c (cS m vis) HLS.o (by rw [HPM.o.length_eq,HP.o]) hl hsz).mono ?_
  rintro e w6 ⟨rfl,gs',g1,g2,g3,g4⟩
  have Z0:=aH (Q0.o.below g4 (by omega))
  have Z1:=aH (Q1.o.below g4 (by omega))
  have B6:=aH (B4.o.trans (g4.mono (by have:=PB.o.size; omega)))
  have HG:=aH (aI (g1.trans HPM.o) (aI g2 g3))
  have y0:=Z1.o.cell 0
  have y1:=Z1.o.cell 1
  have y2:=Z1.o.cell 2
  rw [HVP.o] at y2
  have r0:=Z0.o.cell 0
  have r1:=Z0.o.cell 1
  have r2:=Z0.o.cell 2
  have f0:=Z0.o.frozen 0
  have f1:=Z0.o.frozen 1
  have f2:=Z0.o.frozen 2
  simp only [List.getElem?_cons_zero,List.getElem?_cons_succ] at r0 r1 r2 y0 y1 y2
  clear t0 t1 t2 g1 g2 g3 g4
  go_wp2_with fail
  obtain ⟨W7,hW7⟩:∃ W7,W7 = ((w6.setCell ⟨w.heap.size,0,none⟩ (.int .i64 O)).setCell ⟨w.heap.size,1,none⟩ (.int .i64 V)).setCell ⟨w.heap.size,2,none⟩ (.slice A p c):=⟨_,rfl⟩
  have X7:Blk W7 w.heap.size 27 [.int .i64 O,.int .i64 V,.slice A p c]:=by
   rw [hW7]
   exact ((Z0.o.set_ 0 _).set_ 1 _).set_ 2 _
  have G7:GOwn (W2.heap.size + 1) W7 (.slice A p c) gs':=by
   rw [hW7]
   exact ((HG.o.2.2.far (p:=⟨w.heap.size,0,none⟩) (show w.heap.size < _ by omega) _).far (p:=⟨w.heap.size,1,none⟩) (show w.heap.size < _ by omega) _).far (p:=⟨w.heap.size,2,none⟩) (show w.heap.size < _ by omega) _
  have Y7:Below w.heap.size w W7:=by rw [hW7]; exact aL B6.o (nR _) _ _ _ _ _ _
  rw [<- hW7]
  clear hW7 r0 r1 r2 f0 f1 f2
  have r0:=X7.cell 0
  have r1:=X7.cell 1
  have r2:=X7.cell 2
  simp only [List.getElem?_cons_zero,List.getElem?_cons_succ] at r0 r1 r2
  refine bodyPost_ret (v:=.tuple #[.agg #[.int .i64 O,.int .i64 V,.slice A p c],.int .i64 0]) (by simp [results,Tryz.results82,go_sem,r0,r1,r2]) rfl ⟨A,c,gs',rfl,HG.o.1,HG.o.2.1,G7.mono (by omega),Y7⟩
 case more =>
  intro i xk xv w5 hx hiv hm5 hi5 hent hg5 hs5
  rw [fq] at hx
  obtain ⟨e,he,rfl,rfl⟩:∃ e,m[i]? = some e/\aV e.1 = xk/\Value.int .i64 e.2 = xv:=by
   cases h:m[i]? with
   | none=>rw [h] at hx; cases hx
   | some e=>rw [h] at hx; simp only [Option.map_some,Option.some.injEq,Prod.mk.injEq] at hx; exact ⟨e,rfl,hx.1,hx.2⟩
  clear hx
  have hne:=HN.o e (mG he)
  have HNE:=aH hne
  have hil:=(sI.1 he).1
  have VIS5:Hd ((vis ++ [i]).Nodup/\∀ k ∈ vis ++ [i],k < m.length):=aH ⟨List.nodup_append.2 ⟨VIS.o.1,by simp,fun a ha b hb e=>by simp at hb; subst hb; subst e; exact hiv ha⟩,fun k hk=>by rcases List.mem_append.1 hk with hk | hk; exact VIS.o.2 k hk; rw [List.mem_singleton.1 hk]; exact hil⟩
  have hgk:0 < gk:=by have:=jB VIS5.o.1 VIS5.o.2; rw [List.length_append,List.length_singleton,HP.o] at this; omega
  have HSN:=aH (kz m vis he)
  have hs5':W2.heap.size + 1 <= w5.heap.size:=by omega
  have J5:Hd (IterAt w5 W2.heap.size bm m.length (vis ++ [i])):=aH (by simpa [cR] using hi5)
  have C5:Hd (Calm wr w5):=aH (Calm.of_grown hg5 (fun r e=>by cases e; exact ⟨_,I4.o,rfl⟩))
  have L5:Hd (GOwn (W2.heap.size + 1) w5 (.slice A vis.length c) (cS m vis)):=aH (LS.o.calm C5.o)
  have R1:=aH (Q1.o.calm C5.o)
  have R0:=aH (Q0.o.calm C5.o)
  have B5:Hd (Below w.heap.size w w5):=aH (B4.o.grown hg5 B4.o.size (fun k e=>by cases e; omega))
  clear hm5 hi5 hg5 he hne I5 I4 hs5 LS Q1 Q0 B4 M4 C5
  obtain ⟨ks,cn⟩:=e
  simp only at hent HNE
  obtain ⟨a0,a1,a2,a3,hks⟩:=oK (bD (by rw [HNE.o.1]; omega:ks.length <= 4))
  have hkv:aV ks = .agg #[.int .i64 a0,.int .i64 a1,.int .i64 a2,.int .i64 a3]:=by unfold aV; rw [hks]; rfl
  rw [hkv] at hent ⊢
  have HKS:=aH hks
  clear hkv hks
  have hcb:=HNE.o.2.2
  have d2:decide ((1073741824:Int) < cn) = false:=dF (by omega)
  obtain ⟨wo,rfl⟩:∃ wo,wo = wr:=⟨_,rfl⟩
  obtain ⟨go,rfl⟩:∃ go,go = gk:=⟨_,rfl⟩
  obtain ⟨i0,gi,gz0,gz1,gz2⟩:=info_parts eD
  obtain ⟨j0,hj,hz0,hz1,hz2⟩:=info_parts m8
  go_wp2_with fail
  obtain ⟨W6,hW6,G0,G1,GB,Ghs⟩:=cP w5 120 [.int .i64 a0,.int .i64 a1,.int .i64 a2,.int .i64 a3] 51 [.slice none 0 0,.int .i64 cn]
  rw [<- hW6]
  clear hW6
  go_loopg [13,36] (mo + 1) (fun g2 _ s36 wz=>∃ (k:Nat) (A':Option Addr) (c':Nat),s36 = .int .i64 k/\k + g2 = mo + 1/\Hd (wz.ownsRow W6.heap.size 3 1 (.slice A' k c') k ((ks.take k).map (Value.int .i64)))/\Hd (Blk wz (w5.heap.size + 1) 51 [.slice A' k c',.int .i64 cn])/\Hd (Blk wz w5.heap.size 120 [.int .i64 a0,.int .i64 a1,.int .i64 a2,.int .i64 a3])/\Hd (Below w5.heap.size w5 wz)/\W6.heap.size <= wz.heap.size)
  case atStart=>exact ⟨0,none,0,rfl,by omega,aH (World.ownsRow_nil ..),G1,G0,GB,nR _⟩
  clear G1 G0 GB
  obtain ⟨k,A',c',rfl,hk,OW,G1,G0,B6,hs6⟩:=hrel
  have g0:=G1.o.cell 0
  have g1:=G1.o.cell 1
  simp only [List.getElem?_cons_zero,List.getElem?_cons_succ] at g0 g1
  by_cases hlt:k < mo + 1
  ·have d3:decide ((k:Int) < O) = true:=dT (by have:=HO.o; omega)
   obtain ⟨x,hx⟩:=nm (ks.getD k 0)
   have cK:wr.cell? ⟨w5.heap.size,k,none⟩ = some (.int .i64 (x + 1)):=by
    rw [G0.o.cell k]
    have h1:=pf (l:=ks) (d:=k) (by rw [HNE.o.1]; exact hlt)
    rw [HKS.o,hx] at h1
    have h2:=congrArg (Option.map (Value.int .i64)) h1
    rw [<- List.getElem?_map] at h2
    exact h2
   have hxb:=HNE.o.2.1.2 x (by rw [<- hx,gD,eG (by rw [HNE.o.1]; exact hlt)]; exact List.getElem_mem _)
   have HTK:Hd ((ks.take (k + 1)).map (Value.int .i64) = (ks.take k).map (Value.int .i64) ++ [.int .i64 x]):=aH (by
    rw [List.take_succ_eq_append_getElem (by rw [HNE.o.1]; exact hlt),List.map_append,<- hx,gD,eG (by rw [HNE.o.1]; exact hlt)]
    rfl)
   have i1:IntKind.i64.wrap (x + 1 - 1) = x:=by rw [show x + 1 - 1 = x by omega]; exact iI _ (by omega)
   have i2:IntKind.i64.wrap x = x:=iI _ (by omega)
   have i3:IntKind.i64.wrap ((k:Int) + 1) = (k:Int) + 1:=iI _ (by omega)
   have k1:(0:Int) <= (k:Int):=by omega
   have k2:(k:Int) < O:=by have:=HO.o; omega
   clear hx
   go_wp2_with (at_builtin; refine al rfl (.tmp 41) (.tmp 44) 44 rfl W6.heap.size 3 i0 (.int .i64 0) 1 8 Tryz.underlying44 gi gz0 gz1 gz2 rfl (by decide) _ _ _ rfl (bK OW.o (Below.alloc (Below.refl _ _) (nR _) _)) _ 1 [.int .i64 x] rfl (Sl.one _ _ _) (by simp [Value.oneCell']) (by unfold maxLen; omega) (by omega) (by simp; omega) ?_)
   intro v3 w3 t1 t2 _
   obtain ⟨g,cap,rfl⟩:=g9 t1 (by omega)
   have hnk:∀ q,(Value.slice A' k c').ownBlock = some q->W6.heap.size <= q:=ao (From.of_own OW.o)
   have OW3:Hd (w3.ownsRow W6.heap.size 3 1 (.slice (some ⟨g,0,none⟩) (k + 1) cap) (k + 1) ((ks.take (k + 1)).map (Value.int .i64))):=aH (by rw [HTK.o,List.map_take]; exact t1)
   have G13:=aH ((G1.o.alloc (.cells #[.int .i64 x] 3)).grown t2 (fun e=>by have:=hnk _ e.symm; omega))
   have G03:=aH ((G0.o.alloc (.cells #[.int .i64 x] 3)).grown t2 (fun e=>by have:=hnk _ e.symm; omega))
   have B63:=aH ((B6.o.alloc (by omega) (.cells #[.int .i64 x] 3)).grown t2 (by simp; omega) (fun q e=>by have:=hnk _ e; omega))
   have hs63:W6.heap.size <= w3.heap.size:=by have:=t2.size; simp at this; omega
   have c3:=G13.o.cell 0
   have f3:=G13.o.frozen 0
   simp only [List.getElem?_cons_zero] at c3
   clear t1 t2 cK g0 g1 hnk
   go_wp2_with fail
   go_roundg (mo + 1 - (k + 1))
   case measure=>omega
   case rel=>exact ⟨k + 1,some ⟨g,0,none⟩,cap,rfl,by omega,aH (o5 OW3.o (show w5.heap.size + 1 < _ by omega) _),aH (G13.o.set_ 0 _),aH (G03.o.far (show w5.heap.size ≠ w5.heap.size + 1 by omega) _),aH (B63.o.setCell (p:=⟨w5.heap.size + 1,0,none⟩) (show w5.heap.size <= w5.heap.size + 1 by omega) _),by simpa [World.setCell] using hs63⟩
  have d3:decide ((k:Int) < O) = false:=dF (by have:=HO.o; omega)
  have HKE:Hd (k = mo + 1):=aH (by omega)
  have d4:decide ((k:Int) < max O 0) = false:=by rw [Int.max_eq_left q0]; exact d3
  have R1w:=aH (R1.o.below' B6.o)
  have R0w:=aH (R0.o.below' B6.o)
  have J5w:=aH (J5.o.below B6.o)
  have L5w:=aH (L5.o.below B6.o)
  have BWw:=aH (B5.o.trans (B6.o.mono B5.o.size))
  have t2:=R1w.o.cell 2
  simp only [List.getElem?_cons_zero,List.getElem?_cons_succ] at t2
  have hks:ks.take k = ks:=tL (by rw [HNE.o.1,HKE.o]; exact nR _)
  have HW:Hd (IntsAt wr (.slice A' k c') ks/\From (.slice A' k c') W6.heap.size/\∀ b,(Value.slice A vis.length c).ownBlock = some b->b < w5.heap.size):=aH ⟨by
   have h1:=Sl.of_own OW.o
   rw [hks] at h1
   unfold IntsAt
   rw [HNE.o.1,<- HKE.o]
   exact h1,From.of_own OW.o,fun b hb=>fB L5.o hb⟩
  clear hks
  obtain ⟨cells,hc1,hc2⟩:=L5w.o.below (bA wr (.cells #[.slice A' k c',.int .i64 cn] 51))
  rw [show (cS m vis).length = vis.length by simp [cS]] at hc1
  have HC1:=aH hc1
  have HC2:=aH hc2
  have hvl2:vis.length + 1 <= 20000:=by omega
  clear hc1 hc2
  go_wp2_with (at_builtin; refine al rfl (.tmp 49) (.tmp 51) 25 rfl (W2.heap.size + 1) 51 j0 (.agg #[.slice none 0 0,.int .i64 0]) 2 32 Tryz.underlying25 hj hz0 hz1 hz2 rfl (by decide) _ _ _ rfl HC1.o _ 1 [.slice A' k c',.int .i64 cn] rfl (Sl.two _ _ _ _) (by simp [Value.oneCell']) (by unfold maxLen; omega) (by omega) (by simp; omega) ?_)
  intro v3 w3 u1 u2 u3
  obtain ⟨g,cap,rfl⟩:=g9 u1 (by omega)
  have hnk:∀ q,(Value.slice A vis.length c).ownBlock = some q->W2.heap.size + 1 <= q:=ao (From.of_own HC1.o)
  have hvs:(cS m vis).length = vis.length:=by simp [cS]
  have LG:Hd (GOwn (W2.heap.size + 1) w3 (.slice (some ⟨g,0,none⟩) (vis.length + 1) cap) (cS m (vis ++ [i]))):=aH (by
   rw [HSN.o]
   refine qG HC2.o (by rw [HC1.o.1,hvs]) (HW.o.1.below (bA wr _)) (HW.o.2.1.mono (by omega)) (fun ad n c0 e=>?_) (by rw [hvs]; exact u1) u2 (by rw [World.size_alloc]; exact u3)
   exact HW.o.2.1.off (Nat.lt_of_lt_of_le (HW.o.2.2 ad.block (by rw [e]; rfl)) (by omega)))
  have R13:=aH ((R1w.o.alloc (.cells #[.slice A' k c',.int .i64 cn] 51)).grown u2 (fun e=>by have:=hnk _ e.symm; omega))
  have R03:=aH ((R0w.o.alloc (.cells #[.slice A' k c',.int .i64 cn] 51)).grown u2 (fun e=>by have:=hnk _ e.symm; omega))
  have J53:=aH ((J5w.o.below (bA wr (.cells #[.slice A' k c',.int .i64 cn] 51))).kept u2 (fun e=>by have:=hnk _ e.symm; omega))
  have B53:=aH ((BWw.o.alloc (by omega) (.cells #[.slice A' k c',.int .i64 cn] 51)).grown u2 (by simp; omega) (fun q e=>by have:=hnk _ e; omega))
  have hs3:W2.heap.size + 1 <= w3.heap.size:=by have:=u2.size; simp at this; omega
  have c3:=R13.o.cell 2
  have f3:=R13.o.frozen 2
  simp only [List.getElem?_cons_zero,List.getElem?_cons_succ] at c3
  have VL:Hd ((vis ++ [i]).length = vis.length + 1):=aH (by simp)
  clear u1 u2 u3 hnk hvs t2 g0 g1
  go_wp2_with fail
  go_roundg (go - 1)
  case measure=>omega
  case rel=>exact ⟨vis ++ [i],some ⟨g,0,none⟩,cap,by rw [VL.o]; omega,VIS5,J53.o.far (p:=⟨w.heap.size + 1,2,none⟩) (show W2.heap.size ≠ w.heap.size + 1 by omega) _,aH (by rw [VL.o]; exact LG.o.far (p:=⟨w.heap.size + 1,2,none⟩) (show w.heap.size + 1 < _ by omega) _),aH (by rw [VL.o]; exact R13.o.set_ 2 _),aH (R03.o.far (p:=⟨w.heap.size + 1,2,none⟩) (show w.heap.size ≠ w.heap.size + 1 by omega) _),aH (B53.o.setCell (p:=⟨w.heap.size + 1,2,none⟩) (show w.heap.size <= w.heap.size + 1 by omega) _),by simpa [World.setCell] using hs3⟩
end
theorem GOwn.mid {B:Nat} {w w':World} {v:Value} {gs:List Gr} (h:GOwn B w v gs)(hm:Mid B w w'):GOwn B w' v gs:=by
 obtain ⟨cells,⟨h0,h1⟩,h2⟩:=h
 refine ⟨cells,⟨h0,?_⟩,fun i g hg=>?_⟩
 ·rcases h1 with h1 | ⟨g,cap,cur,hv,hb,hh,hr⟩
  ·exact .inl h1
  exact .inr ⟨g,cap,cur,hv,hb,(hm.same g hb (Array.getElem?_eq_some_iff.1 hh).1).trans hh,hr⟩
 obtain ⟨c0,e0,e1,e2,e3,e4⟩:=h2 i g hg
 refine ⟨c0,e0,e1,?_,e3,e4⟩
 obtain ⟨A,c,rfl,_⟩:=e2.open_
 cases A with
 | none =>
  obtain ⟨q0,A,c',e,q2,q3,q5⟩:=e2
  cases e
  exact ⟨q0,_,_,rfl,q2,q3,fun hn=>by obtain ⟨b,off,e,_⟩:=q5 hn; cases e⟩
 | some ad =>
  obtain ⟨q0,A,c',e,q2,q3,q5⟩:=e2
  cases e
  refine ⟨q0,_,_,rfl,q2,q3,fun hn=>?_⟩
  obtain ⟨b,off,e,hlt,hc⟩:=q5 hn
  cases e
  have hb:B <= b:=e3 _ _ _ rfl
  exact ⟨b,off,rfl,Nat.lt_of_lt_of_le hlt hm.size,fun j u hu=>(hm.cell (p:=⟨b,off + j,none⟩) hb hlt).trans (hc j u hu)⟩
theorem rc {m:List (List Int × Int)} {k:List Int} {c:Int} {e:List Int × Int} (h:e ∈ fF m (k,c)):e.1 = k ∨ e.1 ∈ m.map Prod.fst:=by
 rcases fm h with h | rfl
 ·exact .inr (List.mem_map.2 ⟨e,h,rfl⟩)
 exact .inl rfl
theorem re:∀ (l:List (List Int × Int)) (m:List (List Int × Int)),∀ e ∈ l.foldl fF m,e.1 ∈ m.map Prod.fst ∨ e.1 ∈ l.map Prod.fst:=by
 intro l
 induction l with
 | nil=>intro m e he; exact .inl (List.mem_map.2 ⟨e,he,rfl⟩)
 | cons x l ih =>
  intro m e he
  rcases ih _ e he with h | h
  ·obtain ⟨y,hy,e1⟩:=List.mem_map.1 h
   rcases rc hy with h2 | h2
   ·exact .inr (by rw [<- e1,h2]; exact List.mem_cons_self)
   exact .inl (by rw [<- e1]; exact h2)
  exact .inr (List.mem_cons_of_mem _ h)
theorem mL {K V:Type} [DecidableEq K] (m:List (K × V)) (k:K) (v:V):(dJ m k v).length <= m.length + 1:=by
 unfold dJ
 split <;> simp
theorem nQ:∀ (l m:List (List Int × Int)),(l.foldl fF m).length <= m.length + l.length:=by
 intro l
 induction l with
 | nil=>intro m; simp
 | cons x l ih =>
  intro m
  rw [List.foldl_cons,List.length_cons]
  have h1:=ih (fF m x)
  have h2:(fF m x).length <= m.length + 1:=mL _ _ _
  omega
theorem qf {mo:Nat} {ls:List (List Int)}:∀ g ∈ (eB mo ls).map Prod.fst,g.length = mo + 1:=by
 intro g hg
 obtain ⟨e,he,rfl⟩:=List.mem_map.1 hg
 unfold eB at he
 obtain ⟨g,hg1,rfl⟩:=List.mem_map.1 he
 obtain ⟨l,hl,hg⟩:=List.mem_flatMap.1 hg1
 obtain ⟨i,hi⟩:=List.getElem?_of_mem hg
 have hlt:=(sI.1 hi).1
 rw [dt] at hlt
 have e:(aw mo l).getD i [] = g:=by rw [gD,hi]; rfl
 rw [gO (by omega)] at e
 show g.length = mo + 1
 rw [<- e,List.length_take,List.length_drop,cV]
 omega

theorem vU (w:World) (O:Nat) (V:Int) (sv:Value) (ls:List (List Int))(hs:ListsAt w sv ls)(hl:gw ls = false)(hO:bu O V = true)(ho:jZ V ls = false)(hn:ls.length <= 8)
  (hsort:∀ W B A n c gs,GOwn B W (.slice A n c) gs->gs.length = n->n <= 20000->B <= W.heap.size->Calls Tryz.prog 136 #[.slice A n c,.func (.func 137) #[] #[]] W fun e w'=>e = .returned (.tuple #[])/\∃ gs':List Gr,gs'.Perm gs/\dQ gs'/\GOwn B w' (.slice A n c) gs'/\Below B W w') :
  Calls Tryz.prog 19 #[.int .i64 O,.int .i64 V,sv] w fun e w'=>∃ lv gs,e = .returned (.tuple #[.agg #[.int .i64 O,.int .i64 V,lv],.int .i64 0])/\gs.Perm (nC (O - 1) ls)/\dQ gs/\GramsAt w' lv gs/\Below w.heap.size w w':=by
 have hO4:=en hO
 refine vV w O V sv ls hs hl hO ho hn _ (fun W b hT hb=>?_)
 obtain ⟨mo,rfl⟩:∃ mo,O = mo + 1:=⟨O - 1,by omega⟩
 have hin:∀ l ∈ ls,∀ x ∈ l,1 <= x/\x <= V:=fun l hl=>gg (by simpa using List.any_eq_false.1 ho l hl)
 have h500:∀ l ∈ ls,l.length <= 500:=fun l hl'=>by simpa using List.any_eq_false.1 hl l hl'
 have hlen:(eB mo ls).length <= 5000:=by
  rw [<- jU]
  exact nD h500 hn
 have hnice:=nP (eB mo ls) (by
  rw [<- jU]
  exact lq (V:=V) (by omega) (by omega) hin)
 have hlen2:(nC mo ls).length <= 20000:=by
  have:=nQ (eB mo ls) []
  unfold nC l9
  simp only [List.length_nil] at this
  omega
 refine (tJ W mo V b (nC mo ls) hT (by omega) (fun e he=>?_) hlen2 hsort).mono ?_
 ·obtain ⟨g1,g2,g3⟩:=hnice e he
  refine ⟨?_,g1,g2,by omega⟩
  rcases re (eB mo ls) [] e he with h | h
  ·cases h
  exact qf _ h
 rintro e w' ⟨A,c,gs',rfl,hp,hso,hg,hb'⟩
 refine ⟨A,_,c,rfl,hb',fun W2 hb2 hm=>?_⟩
 exact ⟨_,gs',rfl,hp,hso,(hg.mid hm).at_,hb2⟩
theorem oW {O V:Int} {gs:List Gr} {k:Int} {a:Rat} {mix:List Rat} {ls:List (List Int)} (h:eX O V gs k a mix ls = 0):aJ O V gs k a mix = 0/\∀ l ∈ ls,l.length <= 500/\inR 1 V l = true:=by
 unfold eX at h
 split at h
 ·cases h
 next h1 =>
 split at h
 ·next h2=>exact absurd h h2
 next h2 =>
 split at h
 ·cases h
 next h3 =>
 refine ⟨by simpa using h2,fun l hl=>⟨?_,?_⟩⟩
 ·have h4:¬ gw ls = true:=fun e=>h1 (.inr e)
  unfold gw at h4
  rw [List.any_eq_true] at h4
  have:¬ 500 < l.length:=fun e=>h4 ⟨l,hl,dT e⟩
  omega
 unfold jZ at h3
 rw [List.any_eq_true] at h3
 cases hb:inR 1 V l with
 | true=>rfl
 | false=>exact absurd ⟨l,hl,by rw [hb]; rfl⟩ h3

theorem pR (w:World) (O v:Nat) (lv:Value) (gs:List Gr) (k:Int) (s:Bool) (A A':Option Addr) (m c m' c':Nat) (mv:Value) (a:Rat) (mix:List Rat) (sv:Value) (sl:List Int)(h:LangAt w lv gs s A A' m c m' c' a mv mix)(hs:IntsAt w sv sl)(hE:eX O v gs k a mix [sl] = 0)(hv8:v <= 8)
  (T:TypeId) (rv:Nat->Value) (F:FuncId) (row:List Int->List Rat)
  (hway:∀ b Am nm cm,mv = .slice Am nm cm->fs k b O v s A A' m c m' c' mv = .iface T (rv b))
  (hmeth:∀ b w,(method 358 T (rv b) "earshot/gram.row").run Tryz.prog w = .ok (F,rv b) w)
  (hnil:∀ b w,(nilAhead 358 T (rv b) "earshot/gram.row").run Tryz.prog w = .ok (some false) w)
  (hcf:∀ args w,(callFunc F args).run Tryz.prog w = .ok (.enter F args) w)
  (hrow:∀ b w0 wl,Below w.heap.size w w0->LvsAt wl b O 0 gs->Below w0.heap.size w0 wl->∀ W hv h,Below wl.heap.size wl W->IntsAt W hv h->h.length = O - 1->NiceK h->Calls Tryz.prog F #[rv b,.int .i64 O,hv] W (dj W v (row h)))
  (hq:∀ h,∀ q ∈ row h,QB 5000000 q)(hlen:∀ h,(row h).length = v + 1) :
  Calls Tryz.prog 36 #[aG O v lv k s A A' m c m' c' mv,sv] w fun e w'=>∃ u,e = .returned (.tuple #[u,.int .i64 0])/\CanAt w' u (oj row (O - 1) sl)/\Below w.heap.size w w':=by
 obtain ⟨Al,cl,rfl,_,_,_⟩:=h.grams.open_
 obtain ⟨Am,cm,rfl,_,_,_⟩:=h.mixes.open_
 obtain ⟨As,cs,rfl,hsc,hsm,_⟩:=hs.open_
 have HL:=aH h
 have HS:=aH hs
 have HE:=aH hE
 have HOK:=aH (oW hE)
 have HW:=aH hway
 have HM:=aH hmeth
 have HNI:=aH hnil
 have HCF:=aH hcf
 have HR:=aH hrow
 have HQ:=aH hq
 have HLN:=aH hlen
 clear h hs hE hway hmeth hnil hcf hrow hq hlen
 unfold aG
 go_enter Tryz.func36,Tryz.ntmps36
 go_wp2_with fail
 obtain ⟨W,hW,P0,P1,P2,PB,Phs⟩:=box3 w 43 [.int .i64 O,.int .i64 v,.slice Al gs.length cl,.int .i64 k,.bool s,.slice A m c,.slice A' m' c',.slice Am mix.length cm] 40 [.bool false,.slice none 0 0,.slice none 0 0] 44 [.slice As sl.length cs]
 rw [<- hW]
 clear hW
 have LS:Hd (ListsAt W (.slice (some ⟨w.heap.size + 2,0,none⟩) 1 1) [sl]):=aH (by
  refine ⟨[.slice As sl.length cs],⟨rfl,_,_,rfl,nR _,by unfold maxLen; omega,fun _=>⟨_,0,rfl,P2.o.lt,fun j u hu=>?_⟩⟩,fun i l hl=>?_⟩
  ·cases j with
   | succ j=>simp at hu
   | zero=>cases hu; exact P2.o.cell 0
  cases i with
  | succ i=>simp at hl
  | zero=>cases hl; exact ⟨_,rfl,HS.o.below PB.o⟩)
 refine (oP W O v (.slice Al gs.length cl) gs k s A A' m c m' c' (.slice Am mix.length cm) a mix (.slice (some ⟨w.heap.size + 1 + 1,0,none⟩) 1 1) [sl] (HL.o.below PB.o) LS.o).mono ?_
 rintro e w1 ⟨rfl,hb1⟩
 rw [HE.o]
 have X1:=aH (P0.o.below' hb1)
 have R1:Hd (BoxC w1 (w.heap.size + 1) 0):=aH ((BoxC.of (q:=0) P1.o ((CanNew.zero_ 0 W).at_)).below hb1)
 have B1:=aH (PB.o.trans (hb1.mono PB.o.size))
 clear hb1 P0 P1 P2 PB LS
 obtain ⟨p0,p1,p2,p3,p4,p5,p6,p7⟩:=an X1.o
 go_wp2_with fail
 refine (vw w1 O v (.slice Al gs.length cl) gs k s A A' m c m' c' (.slice Am mix.length cm) a mix (.slice As sl.length cs) sl (HL.o.below B1.o) (HS.o.below B1.o) (cI HOK.o.1).1 hv8 (HOK.o.2 sl (by simp)).2 (HOK.o.2 sl (by simp)).1 T rv F row HW.o HM.o HNI.o HCF.o (fun b wl hl hbl=>HR.o b w1 wl B1.o hl hbl) HQ.o HLN.o).mono ?_
 rintro e w2 ⟨u,rfl,hu,hb2⟩
 obtain ⟨q,hqv⟩:=nm (oj row (O - 1) sl)
 rw [hqv] at hu
 have HQV:=aH hqv
 clear hqv
 obtain ⟨Ax,mx,cx,Ax',mx',cx',rfl⟩:=hu.open_
 have TU:=aH hu
 have R2:=aH (R1.o.below hb2)
 have B2:=aH (B1.o.trans (hb2.mono B1.o.size))
 clear hu hb2 p0 p1 p2 p3 p4 p5 p6 p7
 obtain ⟨_,_,_,_,_,_,r0,r1,r2,y0,y1,y2,_⟩:=R2.o.get
 go_wp2_with fail
 have R3:=R2.o.put rfl TU.o
 obtain ⟨Az,mz,cz,Az',mz',cz',g0,g1,g2,_,_,_,tz⟩:=R3.get
 refine bodyPost_ret (v:=.tuple #[.agg #[.bool (ae q),.slice Az mz cz,.slice Az' mz' cz'],.int .i64 0]) (by simp [results,Tryz.results36,go_sem,g0,g1,g2,List.mapM_cons]) rfl ⟨_,rfl,by rw [HQV.o]; exact tz,aL B2.o (by omega) _ _ _ _ _ _⟩
def gs0:List Gr:=[([0,1],2),([1,0],1),([1,1],1),([1,2],1),([2,0],1)]
theorem pG:eU 1 [[1,2],[1,1]] = gs0:=by decide +kernel
theorem pF:(bJ (ap 2 gs0) 2 (1/2) 2 [0])[1]? = some (3/4):=by decide +kernel
theorem pE:(bJ (ap 2 gs0) 2 (1/2) 2 [0])[2]? = some (1/12):=by decide +kernel
theorem pD:(bw (ap 2 gs0) 2 2 [2])[0]? = some (2/3):=by decide +kernel
theorem rp:oj (fun h=>cQ (ap 2 gs0 2 h) 2 1) 1 [1,2] = 1/10:=by decide +kernel
theorem vD:bM 2 2 gs0 3 (1/2) [] [0] = 0:=by decide +kernel
theorem vC:bM 2 2 gs0 4 0 [] [2] = 0:=by decide +kernel
theorem wh:eX 2 2 gs0 1 1 [] [[1,2]] = 0:=by decide +kernel
theorem n9 {α:Type} {R:α->α->Prop} {l m:List α} (h:l.Perm m)(hl:l.Pairwise R)(hm:m.Pairwise R)(hx:∀ a ∈ m,∀ b ∈ m,R a b->R b a->a = b):l = m:=by
 induction l generalizing m with
 | nil=>exact (List.nil_perm.1 h).symm
 | cons a l ih =>
  cases m with
  | nil=>exact absurd h.length_eq (by simp)
  | cons b m =>
   have ha:a ∈ b :: m:=h.subset List.mem_cons_self
   have hb:b ∈ a :: l:=h.symm.subset List.mem_cons_self
   have hab:a = b:=by
    rcases List.mem_cons.1 ha with e | e
    ·exact e
    rcases List.mem_cons.1 hb with e' | e'
    ·exact e'.symm
    exact hx a ha b List.mem_cons_self ((List.pairwise_cons.1 hl).1 b e') ((List.pairwise_cons.1 hm).1 a e)
   subst hab
   rw [ih ((List.perm_cons a).1 h) (List.pairwise_cons.1 hl).2 (List.pairwise_cons.1 hm).2 (fun x hx1 y hy1=>hx x (List.mem_cons_of_mem _ hx1) y (List.mem_cons_of_mem _ hy1))]
theorem nX {gs:List Gr} (h:gs.Perm (nC 1 [[1,2],[1,1]]))(hs:dQ gs):gs = gs0:=by
 have h1:(nC 1 [[1,2],[1,1]]).Perm gs0:=by decide +kernel
 refine n9 (h.trans h1) hs (show gs0.Pairwise _ by decide +kernel) ?_
 decide +kernel
def lJ:List bP:=[⟨0,1,0,1/2⟩,⟨0,0,0,1/2⟩]
theorem uu:eA 1 1 lJ [1,1] = 0:=by decide +kernel
theorem ut:jn 1 1 lJ [1,1] = 1/8:=by decide +kernel
section
attribute [local go_sem] Oper.semAt_some

theorem fp {w:World} {g:Nat} {l:List Int} (h:Blk w g 3 (l.map (Value.int .i64)))(hl:l.length <= 1000):IntsAt w (.slice (some ⟨g,0,none⟩) l.length l.length) l:=by
 have:=h.sl (sz:=1) (n:=l.length) (c:=l.length) (by simp) (nR _) (by unfold maxLen; omega)
 unfold IntsAt
 rw [Nat.mul_one,tL (by simp)] at this
 exact this
theorem kN {w:World} {g a b:Nat} {l m:List Int} (h:Blk w g 44 [.slice (some ⟨a,0,none⟩) l.length l.length,.slice (some ⟨b,0,none⟩) m.length m.length])(ha:Blk w a 3 (l.map (Value.int .i64)))(hb:Blk w b 3 (m.map (Value.int .i64)))(hl:l.length <= 1000)(hm:m.length <= 1000) :
  ListsAt w (.slice (some ⟨g,0,none⟩) 2 2) [l,m]:=by
 have h1:=h.sl (sz:=1) (n:=2) (c:=2) (by simp) (nR _) (by unfold maxLen; omega)
 refine ⟨_,h1,fun i x hx=>?_⟩
 match i,hx with
 | 0,hx=>cases hx; exact ⟨_,rfl,fp ha hl⟩
 | 1,hx=>cases hx; exact ⟨_,rfl,fp hb hm⟩

theorem wi (w:World):Calls Tryz.prog 74 #[] w fun e w'=>∃ lv,e = .returned (.agg #[.int .i64 2,.int .i64 2,lv])/\GramsAt w' lv gs0/\Below w.heap.size w w':=by
 go_enter Tryz.func74,Tryz.ntmps74
 go_upto_region 1 with fail
 go_wp2_with fail
 obtain ⟨W,hW,P0,P1,P2,P3,PB,Phs⟩:=tU w 27 [.int .i64 0,.int .i64 0,.slice none 0 0] 3 [.int .i64 1,.int .i64 2] 3 [.int .i64 1,.int .i64 1] 44 [.slice (some ⟨w.heap.size + 1,0,none⟩) 2 2,.slice (some ⟨w.heap.size + 1 + 1,0,none⟩) 2 2]
 rw [<- hW]
 clear hW
 refine (Go.Proofs.YtjebfdfkjlkifaaGreat.countG W 2 2 1 _ [[1,2],[1,1]] rfl (by omega) (by simp) (by decide +kernel) (kN (l:=[1,2]) (m:=[1,1]) P3.o P1.o P2.o (by simp) (by simp))).mono ?_
 rintro e w1 ⟨lv,rfl,hg,_,hb⟩
 rw [pG] at hg
 obtain ⟨A,c,rfl,_⟩:=hg.at_.open_
 have HG:=aH hg
 have Q0:=aH (P0.o.below' hb)
 have B1:=aH (PB.o.trans (hb.mono PB.o.size))
 have r0:=Q0.o.cell 0
 have r1:=Q0.o.cell 1
 have r2:=Q0.o.cell 2
 have f0:=Q0.o.frozen 0
 have f1:=Q0.o.frozen 1
 have f2:=Q0.o.frozen 2
 simp only [List.getElem?_cons_zero,List.getElem?_cons_succ] at r0 r1 r2
 clear hg hb
 go_wp2_with fail
 clear r0 r1 r2 f0 f1 f2
 obtain ⟨W7,hW7⟩:∃ W7,W7 = ((w1.setCell ⟨w.heap.size,0,none⟩ (.int .i64 2)).setCell ⟨w.heap.size,1,none⟩ (.int .i64 2)).setCell ⟨w.heap.size,2,none⟩ (.slice A gs0.length c):=⟨_,rfl⟩
 have X7:Blk W7 w.heap.size 27 [.int .i64 2,.int .i64 2,.slice A gs0.length c]:=by
  rw [hW7]
  exact ((Q0.o.set_ 0 _).set_ 1 _).set_ 2 _
 have G7:GOwn W.heap.size W7 (.slice A gs0.length c) gs0:=by
  rw [hW7]
  exact ((HG.o.far (p:=⟨w.heap.size,0,none⟩) (show w.heap.size < _ by omega) _).far (p:=⟨w.heap.size,1,none⟩) (show w.heap.size < _ by omega) _).far (p:=⟨w.heap.size,2,none⟩) (show w.heap.size < _ by omega) _
 have Y7:Below w.heap.size w W7:=by rw [hW7]; exact aL B1.o (nR _) _ _ _ _ _ _
 rw [<- hW7]
 clear hW7
 have r0:=X7.cell 0
 have r1:=X7.cell 1
 have r2:=X7.cell 2
 simp only [List.getElem?_cons_zero,List.getElem?_cons_succ] at r0 r1 r2
 exact bodyPost_ret (v:=.agg #[.int .i64 2,.int .i64 2,.slice A gs0.length c]) (by simp [results,Tryz.results74,go_sem,r0,r1,r2]) rfl ⟨_,rfl,G7.at_,Y7⟩
end
theorem nJ {C:Int->Int} (h:Mild C) {v:Nat} (hv:v <= 8) {a:Rat} (ha:QB 64 a):∀ q ∈ cQ C v a,QB 322 q:=by
 intro q hq
 unfold cQ at hq
 obtain ⟨x,_,rfl⟩:=List.mem_map.1 hq
 exact ((h.qb x).add ha).div ((h.qbsum hv).add (ha.mul (bv (n:=v + 1) (k:=64) (by omega) (by omega)))) (by omega)
theorem wP (x:Value) (w:World):(nilAhead 358 180 x "earshot/gram.row").run Tryz.prog w = .ok (some false) w:=by kernel_rfl

theorem pS (w:World) (O v:Nat) (lv:Value) (gs:List Gr) (s:Bool) (A A':Option Addr) (m c m' c':Nat) (mv:Value) (a:Rat) (mix:List Rat) (sv:Value) (sl:List Int)(h:LangAt w lv gs s A A' m c m' c' a mv mix)(hs:IntsAt w sv sl)(hE:eX O v gs 1 a mix [sl] = 0)(hv8:v <= 8) :
  Calls Tryz.prog 36 #[aG O v lv 1 s A A' m c m' c' mv,sv] w fun e w'=>∃ u,e = .returned (.tuple #[u,.int .i64 0])/\CanAt w' u (oj (fun h=>cQ (ap O gs O h) v a) (O - 1) sl)/\Below w.heap.size w w':=by
 have hck:=(oW hE).1
 have hG:=dy (cI hck).1
 have hT:=bY (cI hck).1 hv8
 have hA:=eW (cI hck).2
 refine pR w O v lv gs 1 s A A' m c m' c' mv a mix sv sl h hs hE hv8 180 (fun b=>.agg #[.slice (some ⟨b,0,none⟩) (O + 1) (O + 1),.int .i64 ((v:Int) + 1),.bool s,.slice A m c,.slice A' m' c']) 226 (fun h=>cQ (ap O gs O h) v a) ?_ ?_ ?_ ?_ ?_ ?_ ?_
 ·intro b Am nm cm _
  unfold fs
  rw [if_neg (by decide),if_neg (by decide),if_neg (by decide)]
 ·exact fun b w=>vi _ w
 ·exact fun b w=>wP _ w
 ·exact fun args w=>by kernel_rfl
 ·intro b w0 wl hb0 hlv hbl W hv hl hbW hi hll hk
  have hB:=hb0.trans ((hbl.trans (hbW.mono hbl.size)).mono hb0.size)
  exact tW W O O b v hv gs hl s A A' m c m' c' a (hlv.below hbW) ⟨hG.2.1.1,nR _⟩ hG.2.1.2 hi hll hk (h.amount.below hB) hA.1 hT.2.2.2 hT.1 hT.2.1 hT.2.2.1
 ·intro hl q hq
  exact (nJ (hT.mild O O hl) hv8 (h.amount.qb (by omega)) q hq).mono (by omega)
 intro hl
 simp [cQ]
end Go.Proofs.YtjebfdfkjlkifaaGreat
