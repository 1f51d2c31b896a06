/- Lemmas. -/
import Derived.Test.YtjebfdfkjlkifaaGreatR36
set_option linter.all false
set_option maxRecDepth 1000000
set_option maxHeartbeats 32000000
namespace Go.Proofs.YtjebfdfkjlkifaaGreat
open Go.RowKit
section
attribute [local go_sem] Oper.semAt_some

def eB (m:Nat) (ls:List (List Int)):List (List Int × Int):=(ls.flatMap (aw m)).map fun g=>(g,1)
def nC (m:Nat) (ls:List (List Int)):List (List Int × Int):=l9 (eB m ls)

def fE (mo:Nat) (ls:List (List Int)) (j i:Nat):List (List Int × Int):=eB mo (ls.take j) ++ ((aw mo (ls.getD j [])).take i).map fun g=>(g,(1:Int))
theorem qR (mo:Nat) (ls:List (List Int)):fE mo ls 0 0 = []:=by simp [fE,eB]
theorem jU (mo:Nat) (ls:List (List Int)):fE mo ls ls.length 0 = eB mo ls:=by simp [fE]
theorem qS (mo:Nat) (ls:List (List Int)) (j i:Nat)(hi:i < (ls.getD j []).length + 1):fE mo ls j (i + 1) = fE mo ls j i ++ [((aw mo (ls.getD j [])).getD i [],1)]:=by
 unfold fE
 rw [kC hi,List.map_append,List.append_assoc]
 rfl
theorem qU (mo:Nat) (ls:List (List Int)) (j:Nat)(hj:j < ls.length):fE mo ls j ((ls.getD j []).length + 1) = fE mo ls (j + 1) 0:=by
 unfold fE
 rw [tL (l:=aw mo (ls.getD j [])) (by rw [dt]; exact nR _),List.take_succ_eq_append_getElem hj,show ls.getD j [] = ls[j] by rw [gD,eG hj]; rfl]
 unfold eB
 rw [List.flatMap_append,List.map_append]
 simp
theorem rY {mo:Nat} {ls:List (List Int)} (h:∀ l ∈ ls,l.length <= 500):(eB mo ls).length <= ls.length * 501:=by
 induction ls with
 | nil=>simp [eB]
 | cons l ls ih =>
  have h1:=ih (fun x hx=>h x (List.mem_cons_of_mem _ hx))
  have h2:=h l List.mem_cons_self
  unfold eB at h1 ⊢
  rw [List.length_map] at h1 ⊢
  rw [List.flatMap_cons,List.length_append,dt,List.length_cons]
  omega
theorem nD {mo:Nat} {ls:List (List Int)} {j i:Nat} (h:∀ l ∈ ls,l.length <= 500)(hn:ls.length <= 8):(fE mo ls j i).length <= 5000:=by
 unfold fE
 rw [List.length_append,List.length_map]
 have h1:=rY (mo:=mo) (ls:=ls.take j) (fun l hl=>h l (List.mem_of_mem_take hl))
 have h2:(ls.take j).length <= 8:=Nat.le_trans (List.length_take_le' _ _) hn
 have h3:((aw mo (ls.getD j [])).take i).length <= (ls.getD j []).length + 1:=by
  rw [<- dt mo]
  exact List.length_take_le' _ _
 have h4:(ls.getD j []).length <= 500:=by
  rw [gD]
  cases hg:ls[j]? with
  | none=>simp
  | some l=>exact h l (mG hg)
 omega
theorem nP (l:List (List Int × Int))(h:∀ e ∈ l,NiceK e.1/\e.2 = 1):NiceM l.length (l9 l):=by
 have key:∀ (l m:List (List Int × Int)) (n:Nat),(∀ e ∈ l,NiceK e.1/\e.2 = 1)->NiceM n m->NiceM ((n + l.length:Nat):Int) (l.foldl fF m):=by
  intro l
  induction l with
  | nil=>intro m n _ hm; simpa using hm
  | cons e l ih =>
   intro m n h hm
   obtain ⟨h2,h3⟩:=h e List.mem_cons_self
   obtain ⟨k,c⟩:=e
   simp only at h2 h3
   subst h3
   have h4:=hm.add (a:=1) (by omega) h2 (c:=1) (by omega)
   have h5:=ih (fF m (k,1)) (n + 1) (fun x hx=>h x (List.mem_cons_of_mem _ hx)) (by exact_mod_cast h4)
   rw [List.foldl_cons,List.length_cons,show n + (l.length + 1) = n + 1 + l.length by omega]
   exact h5
 have:=key l [] 0 h (fun e he=>by cases he)
 rwa [Nat.zero_add] at this
theorem lq {mo:Nat} {V:Int} {ls:List (List Int)} {j i:Nat} (hm:mo <= 3)(hV:0 <= V/\V <= 2000)(h:∀ l ∈ ls,∀ x ∈ l,1 <= x/\x <= V):∀ e ∈ fE mo ls j i,NiceK e.1/\e.2 = 1:=by
 have key:∀ l:List Int,(∀ x ∈ l,1 <= x/\x <= V)->∀ g ∈ aw mo l,NiceK g:=by
  intro l hl g hg
  obtain ⟨i,hi⟩:=List.getElem?_of_mem hg
  have hlt:=(sI.1 hi).1
  rw [dt] at hlt
  have e:(aw mo l).getD i [] = g:=by rw [gD,hi]; rfl
  have:=jJ (m:=mo) (v:=V) hV.1 hl hlt
  rw [e] at this
  exact ⟨by omega,fun x hx=>by have:=this.2 x hx; omega⟩
 intro e he
 unfold fE eB at he
 rcases List.mem_append.1 he with he | he
 ·obtain ⟨g,hg,rfl⟩:=List.mem_map.1 he
  obtain ⟨l,hl,hg⟩:=List.mem_flatMap.1 hg
  exact ⟨key l (h l (List.mem_of_mem_take hl)) g hg,rfl⟩
 obtain ⟨g,hg,rfl⟩:=List.mem_map.1 he
 refine ⟨key _ (fun x hx=>?_) g (List.mem_of_mem_take hg),rfl⟩
 rw [gD] at hx
 cases hg:ls[j]? with
 | none=>rw [hg] at hx; cases hx
 | some l=>rw [hg] at hx; exact h l (mG hg) x hx
def CoI (w3 W4:World) (mo:Nat) (ls:List (List Int)) (j:Nat) (rs:List Nat) (i:Nat) (W:World):Prop :=
 Below w3.heap.size w3 W/\Blk W (w3.heap.size + 1) 115 [.map (some w3.heap.size)] /\
  TMap aV (Value.int .i64) W 120 w3.heap.size (l9 (fE mo ls j i)) /\
  ∀ r ∈ rs,W4.heap.size <= r/\r < W.heap.size/\W.heap[r]? = some (.deferred (some []))
theorem CoI.mark {w3 W4:World} {mo:Nat} {ls:List (List Int)} {j i:Nat} {rs:List Nat} {W W':World} {row:Option Nat} (h:CoI w3 W4 mo ls j rs i W)(hg:W.grownBy W' row)(hr:∀ r ∈ rs,some r ≠ row):∀ r ∈ rs,W4.heap.size <= r/\r < W'.heap.size/\W'.heap[r]? = some (.deferred (some [])):=fun r hm=>by
 obtain ⟨h1,h2,h3⟩:=h.2.2.2 r hm
 exact ⟨h1,Nat.lt_of_lt_of_le h2 hg.size,(hg.block r h2 (hr r hm)).trans h3⟩
theorem uU {w3 W4:World} {mo:Nat} {ls:List (List Int)} {j B:Nat} {rs:List Nat} (hB:w3.heap.size < B)(hr:∀ r ∈ rs,r < B):OwnFrom B (CoI w3 W4 mo ls j rs):=by
 intro i W W' r h hg hw
 have hm:=h.mark hg (fun x hx e=>by have:=(hw x e.symm).1; have:=hr x hx; omega)
 obtain ⟨h1,h2,h3,_⟩:=h
 exact ⟨h1.grown hg h1.size (fun k e=>Nat.le_trans (by omega) (hw k e).1),h2.calm (Calm.of_grown hg (fun r' e=>(hw r' e).2)),h3.kept hg (fun e=>by have:=(hw w3.heap.size e.symm).1; omega),hm⟩
theorem vV (w:World) (O:Nat) (V:Int) (sv:Value) (ls:List (List Int))(hs:ListsAt w sv ls)(hl:gw ls = false)(hO:bu O V = true)(ho:jZ V ls = false)(hn:ls.length <= 8)
  (R:Ending->World->Prop) (hcol:∀ W b,TMap aV (Value.int .i64) W 120 b (nC (O - 1) ls)->Below w.heap.size w W->Calls Tryz.prog 82 #[.int .i64 O,.int .i64 V,.map (some b)] W fun e w'=>∃ A m c,e = .returned (.tuple #[.agg #[.int .i64 O,.int .i64 V,.slice A m c],.int .i64 0])/\Below W.heap.size W w'/\∀ W2,Below w.heap.size w W2->Mid W.heap.size w' W2->R (.returned (.tuple #[.agg #[.int .i64 O,.int .i64 V,.slice A m c],.int .i64 0])) W2) :
  Calls Tryz.prog 19 #[.int .i64 O,.int .i64 V,sv] w R:=by
 obtain ⟨As,cs,rfl,hsc,hsm,hat⟩:=hs.open_
 have HS:=aH hs
 have HAT:=aH hat
 have HLO:=aH hl
 have HSZ:=aH hO
 have HOU:=aH ho
 have HC:=aH hcol
 have hO4:=en hO
 obtain ⟨mo,rfl⟩:∃ mo,O = mo + 1:=⟨O - 1,by omega⟩
 obtain ⟨ns,hns⟩:=nm (ls.length)
 rw [hns] at hsc hn HS ⊢
 have HNS:=aH hns
 clear hs hat hl hO ho hcol hns
 refine (callsIn_wide (n:=10)).1 ?_
 refine callsIn_of_wp_marks Tryz.func19 rfl trivial ?_ rfl
 simp only [Tryz.ntmps19,List.size_toArray,List.length_cons,List.length_nil,Nat.reduceAdd,Nat.reduceSub,Array.replicate_succ,Array.replicate_zero,List.push_toArray,List.append_toArray,List.nil_append,List.cons_append]
 refine (wpIn_wide (n:=10)).2 ?_
 have hmm:=@run_makeMap Tryz.prog
 go_wp2_with fail
 obtain ⟨W,hW,P0,P1,PB,Phs⟩:=cP w 3 [.int .i64 V] 27 [.int .i64 0,.int .i64 0,.slice none 0 0]
 rw [<- hW]
 clear hW
 have CI:=aH (eF W _ ls 76 #[] (fun l=>decide (500 < l.length)) (HS.o.below PB.o) (by have:=HNS.o; omega) (fun _ _=>by kernel_rfl) (fun U x a hb hx hi=>fl U a x hi))
 refine CI.o.mono ?_
 rintro e w1 ⟨rfl,hb1⟩
 rw [show (ls.any fun l=>decide (500 < l.length)) = false from HLO.o]
 have X0:=aH (P0.o.below' hb1)
 have X1:=aH (P1.o.below' hb1)
 have B1:=aH (PB.o.trans (hb1.mono PB.o.size))
 clear hb1 P0 P1 PB CI
 have q0:=X0.o.cell 0
 simp only [List.getElem?_cons_zero] at q0
 go_wp2_with fail
 refine (rF w1 ((mo:Int) + 1) V).mono ?_
 rintro e w2 ⟨rfl,hb2⟩
 rw [show bu ((mo:Int) + 1) V = true from HSZ.o]
 have Y0:=aH (X0.o.below' hb2)
 have Y1:=aH (X1.o.below' hb2)
 have B2:=aH (B1.o.trans (hb2.mono B1.o.size))
 clear hb2 q0 X0 X1 B1
 have q0:=Y0.o.cell 0
 simp only [List.getElem?_cons_zero] at q0
 have CI:=aH (eF w2 _ ls 78 #[.pointer (some ⟨w.heap.size,0,none⟩)] (fun l=>!inR 1 V l) (HS.o.below B2.o) (by have:=HNS.o; omega) (fun _ _=>by kernel_rfl) (fun U x a hb hx hi=>rZ U a x V w.heap.size hi ((Y0.o.below' hb).cell 0)))
 go_wp2_with fail
 refine CI.o.mono ?_
 rintro e w3 ⟨rfl,hb3⟩
 rw [show (ls.any fun l=>!inR 1 V l) = false from HOU.o]
 have Z0:=aH (Y0.o.below' hb3)
 have Z1:=aH (Y1.o.below' hb3)
 have B3:=aH (B2.o.trans (hb3.mono B2.o.size))
 clear hb3 q0 Y0 Y1 B2 CI
 have q0:=Z0.o.cell 0
 simp only [List.getElem?_cons_zero] at q0
 go_wp2_with fail
 obtain ⟨W4,hW4⟩:∃ W4,W4 = (w3.alloc (.map #[] 0)).alloc (.cells #[.map (some w3.heap.size)] 115):=⟨_,rfl⟩
 have M4:Hd (TMap aV (Value.int .i64) W4 120 w3.heap.size ([]:List (List Int × Int))):=aH (by
  rw [hW4]
  exact (TMap.made w3 aV (Value.int .i64) 120).below ((Below.refl _ _).alloc (nR _) _))
 have D4:Hd (Blk W4 (w3.heap.size + 1) 115 [.map (some w3.heap.size)]):=aH (by
  rw [hW4]
  have:=Blk.new (w3.alloc (.map #[] 0)) 115 [.map (some w3.heap.size)]
  rwa [World.size_alloc] at this)
 have B34:Hd (Below w3.heap.size w3 W4):=aH (by rw [hW4]; exact ((Below.refl _ w3).alloc (nR _) _).alloc (by simp) _)
 rw [<- hW4]
 clear hW4 q0
 have s34:w3.heap.size + 1 < W4.heap.size:=D4.o.lt
 have hZ4:CoI w3 W4 mo ls 0 [] 0 W4:=⟨B34.o,D4.o,by rw [qR]; exact M4.o,fun r hr=>by cases hr⟩
 have Z4:=aH hZ4
 clear hZ4 M4 D4
 refine wp_loop (fun a W=>∃ (j:Nat) (rs:List Nat) (u10 u29 u30 u31 u32 u33 u34 u43:Value),a = ⟨#[.int .i64 ((mo:Int) + 1),.int .i64 V,.slice As ns cs,undef,.pointer (some ⟨w.heap.size,0,none⟩),undef,.pointer (some ⟨w.heap.size + 1,0,none⟩),.int .i64 0,.pointer (some ⟨w3.heap.size + 1,0,none⟩),undef,u10,undef,.slice As ns cs,.bool false,undef,.int .i64 ((mo:Int) + 1),.int .i64 V,.bool true,.bool false,.bool false,.slice As ns cs,.func (.func 78) #[] #[.pointer (some ⟨w.heap.size,0,none⟩)],.bool false,.bool false,undef,.map (some w3.heap.size),.slice As ns cs,.int .i64 (ns:Int),.int .i64 (j:Int),u29,u30,u31,u32,u33,u34,undef,undef,undef,undef,undef,undef,undef,undef,u43,undef,undef,undef,undef,undef,undef],rs.map si⟩/\j <= ns/\rs.Nodup/\W4.heap.size <= W.heap.size/\CoI w3 W4 mo ls j rs 0 W) (fun a _=>ns - (intOf (a.tmps.getD 28 undef)).toNat) ⟨0,[],undef,undef,undef,undef,undef,undef,undef,undef,rfl,Nat.zero_le _,List.nodup_nil,nR _,Z4.o⟩ ?_
 rintro a W ⟨j,rs,u10,u29,u30,u31,u32,u33,u34,u43,rfl,hj,hnd,hW4,hI⟩
 have HI:=aH hI
 have HND:=aH hnd
 clear hI Z4 hnd
 by_cases hlt:j < ns
 ·obtain ⟨l,hl⟩:∃ l,ls[j]? = some l:=⟨_,eG (by have:=HNS.o; omega)⟩
  obtain ⟨bl,ol,cl,rfl,hbl,hcl,hil⟩:=HAT.o j l hl
  have h500:l.length <= 500:=by
   have:=List.any_eq_false.1 HLO.o l (mG hl)
   simpa using this
  have HLV:Hd (∀ x ∈ l,1 <= x/\x <= V):=aH (by
   have:=List.any_eq_false.1 HOU.o l (mG hl)
   exact gg (by simpa using this))
  have HGD:Hd (ls.getD j [] = l):=aH (by rw [gD,hl]; rfl)
  obtain ⟨Ai,ci,rfl,_,_,_⟩:=hil.open_
  have b13:Below w3.heap.size w3 W:=HI.o.1
  have b1:Below w.heap.size w W:=B3.o.trans (b13.mono B3.o.size)
  have HIL:=aH (hil.below b1)
  have cW:=(b1.cell (p:=⟨bl,ol + j,none⟩) hbl).trans hcl
  have d1:decide ((j:Int) < (ns:Int)) = true:=dT (by omega)
  have j1:(0:Int) <= (j:Int):=by omega
  have j2:(j:Int) < (ns:Int):=by omega
  clear hl hcl hil
  go_wp2_with fail
  refine (tg W ((mo:Int) + 1) _ Ai l.length ci rfl).mono ?_
  rintro e w5 ⟨rfl,hgN,hgS,hb5⟩
  have GN:=aH hgN
  have GS:=aH hgS
  have B5:=aH hb5
  have zW:w3.heap.size + 1 < W.heap.size:=HI.o.2.1.lt
  have zw:w.heap.size <= w3.heap.size:=B3.o.size
  have z7:W.heap.size + 1 < w5.heap.size:=GS.o.lt
  clear hgN hgS hb5 cW
  go_wp2_with fail
  refine (wpIn_wide (n:=10)).1 ?_
  gi_wp2
  have HSQ:=aH (ni 9 (by omega) w5 W.heap.size mo (.slice Ai l.length ci) l W.heap.size (W.heap.size + 1) (by omega) (by omega) GN.o GS.o (HIL.o.below B5.o) (nR _))
  have hrs:∀ r ∈ rs,r < w5.heap.size:=fun r hr=>by have:=(HI.o.2.2.2 r hr).2.1; omega
  have HRS:=aH hrs
  have I5:Hd (CoI w3 W4 mo ls j rs 0 w5):=aH (by
   obtain ⟨h1,h2,h3,h4⟩:=HI.o
   refine ⟨h1.trans (B5.o.mono h1.size),h2.below' B5.o,h3.below B5.o,fun r hr=>?_⟩
   obtain ⟨g1,g2,g3⟩:=h4 r hr
   exact ⟨g1,by omega,(B5.o.block r g2).trans g3⟩)
  clear GN GS hrs
  refine ew rfl (by omega) (gf:=135) (lb:=#[.pointer (some ⟨W.heap.size,0,none⟩),.pointer (some ⟨W.heap.size + 1,0,none⟩)]) rfl trivial (fun args w=>by kernel_rfl) (fun i v=>mZ) (B:=W.heap.size) (by omega) HSQ.o rfl
   (CoI w3 W4 mo ls j rs) (uU (by omega) HRS.o) I5.o
   (fun xx=>{ tmps:=#[.int .i64 ((mo:Int) + 1),.int .i64 V,.slice (some ⟨bl,ol,none⟩) ns cs,undef,.pointer (some ⟨w.heap.size,0,none⟩),undef,.pointer (some ⟨w.heap.size + 1,0,none⟩),.int .i64 0,.pointer (some ⟨w3.heap.size + 1,0,none⟩),undef,.slice Ai l.length ci,xx,.slice (some ⟨bl,ol,none⟩) ns cs,.bool false,undef,.int .i64 ((mo:Int) + 1),.int .i64 V,.bool true,.bool false,.bool false,.slice (some ⟨bl,ol,none⟩) ns cs,.func (.func 78) #[] #[.pointer (some ⟨w.heap.size,0,none⟩)],.bool false,.bool false,undef,.map (some w3.heap.size),.slice (some ⟨bl,ol,none⟩) ns cs,.int .i64 (ns:Int),.int .i64 (j:Int),.bool true,.pointer (some ⟨bl,ol + j,none⟩),.slice Ai l.length ci,.int .i64 ((mo:Int) + 1),.slice Ai l.length ci,.func (.func 135) #[] #[.pointer (some ⟨W.heap.size,0,none⟩),.pointer (some ⟨W.heap.size + 1,0,none⟩)],xx,undef,undef,undef,undef,undef,undef,undef,u43,undef,undef,undef,undef,undef,undef],defers:=[] }) ?assign ?body ?done
  case assign =>
   intro l x W K hK
   gi_wp2
   exact hK
  case body =>
   intro lo i x Wr hi hx hI hlt
   obtain ⟨h1,h2,h3,h4⟩:=id hI
   have HII:=aH hI
   have hga:=jJ (m:=mo) (i:=i) (s:=l) (v:=V) (by omega) HLV.o hi
   have hst:=qS mo ls j i (by rw [HGD.o]; exact hi)
   rw [HGD.o] at hst
   obtain ⟨g,hg⟩:=nm ((aw mo l).getD i [])
   rw [hg] at hx hga hst
   have HST0:=aH hst
   obtain ⟨Ag,cg,rfl,_,_,_⟩:=hx.open_
   have HNK:Hd (NiceK g):=aH ⟨by omega,fun z hz=>by have:=hga.2 z hz; omega⟩
   obtain ⟨m,hm⟩:=nm (l9 (fE mo ls j i))
   have HNI:Hd (NiceM 5000 m):=aH (by
    rw [<- hm]
    intro e he
    obtain ⟨g1,g2,g3⟩:=nP _ (lq (mo:=mo) (V:=V) (ls:=ls) (j:=j) (i:=i) (by omega) (by omega) (fun l hl=>gg (by simpa using List.any_eq_false.1 HOU.o l hl))) e he
    have:=nD (mo:=mo) (ls:=ls) (j:=j) (i:=i) (fun l hl=>by simpa using List.any_eq_false.1 HLO.o l hl) (by rw [HNS.o]; exact hn)
    exact ⟨g1,g2,by omega⟩)
   have HST:Hd (l9 (fE mo ls j (i + 1)) = dJ m g ((aC m g).getD 0 + 1)):=aH (by rw [HST0.o,rd,hm]; rfl)
   rw [hm] at h3
   obtain ⟨v,hv⟩:=nm ((aC m g).getD 0)
   have hvb:=HNI.o.look (by omega) g
   rw [hv] at HST hvb
   have HV:=aH hv
   have BW0:=aH h1
   have D4:=aH h2
   have HM:=aH h3
   have HX:=aH hx
   have i1:IntKind.i64.wrap (v + 1) = v + 1:=iI _ (by omega)
   clear h1 h2 h3 h4 hst hg hx hga hm hv hI HST0
   gi_wp2
   refine dx (S:=fun w'=>w'.cell? ⟨w3.heap.size + 1,0,none⟩ = some (.map (some w3.heap.size))) (by kernel_rfl) (eC (by kernel_rfl)) (fun h=>by obtain ⟨a,w,h⟩:=h; exact h) ((D4.o.below' (bS Wr)).cell 0) (fun hHeld=>?_)
   refine tjj 0 ?_ rfl (by kernel_rfl) rfl ‹_› ?_ (fun _ _ _ h=>h) (tjj 1 ?_ rfl (by kernel_rfl) rfl ‹_› ?_ (fun _ _ _ h=>h) ?_)
   iterate 2 (rotate_left; · (intro w' hSw; (try dsimp only at hSw); (try go_frame); go_simp <;> with_reducible rfl))
   go_frame
   refine wpAnyH_ready (rs:=[2]) (by kernel_rfl) (by simp) ?_
   refine AllReadyH.cons rfl (fun K hK=>?_) AllReadyH.nil
   go_simp
   refine (lS _ _ _ (HX.o.below (bS _)) HNK.o.1 (fun z hz=>by have:=HNK.o.2 z hz; omega)).mono ?_
   rintro e w2 ⟨rfl,hb2'⟩
   have hb2:=bO hb2'
   have HM2:TMap aV (Value.int .i64) w2 120 w3.heap.size m:=HM.o.below hb2
   have inj:∀ e ∈ m,aV e.1 = aV g->e.1 = g:=fun e he h=>(HNI.o e he).1.inj HNK.o h
   have hlook:=HM2.look dW Tryz.underlying115 (fV w2) HNK.o.good inj
   obtain ⟨jj,w3',hent,hmid,hg3,hlook3⟩:=HM2.entry dW Tryz.underlying115 fV HNK.o.good inj
   rw [kZ,HV.o] at hlook hent hlook3
   obtain ⟨w4,hst,hT4,hg4⟩:=hmid.store (t:=115) (v + 1)
   have D2:=D4.o.below' hb2
   have D3:=D2.grown hg3 (by simp)
   have D5:=D3.grown hg4 (by simp)
   have hS2:=D2.cell 0
   have hS3:=D3.cell 0
   have hS4:=D5.cell 0
   simp only [List.getElem?_cons_zero] at hS2 hS3 hS4
   have T4:=aH hT4
   have MW:Hd (Mid W.heap.size Wr w4):=aH (((Mid.of_below hb2).trans (Mid.of_grown hg3 (by omega))).trans (Mid.of_grown hg4 (by omega)))
   have hs2:=hb2.size
   have hs3:=hg3.size
   have hsW:W.heap.size <= Wr.heap.size:=by omega
   have BW:Hd (Below w3.heap.size w3 w4):=aH (((BW0.o.trans (hb2.mono BW0.o.size)).grown hg3 (by omega) (fun k e=>by cases e; omega)).grown hg4 (by omega) (fun k e=>by cases e; omega))
   have MK:Hd (∀ r ∈ rs,W4.heap.size <= r/\r < w4.heap.size/\w4.heap[r]? = some (.deferred (some []))):=aH (fun r hr=>by
    obtain ⟨g1,g2,g3⟩:=HII.o.2.2.2 r hr
    have n1:some r ≠ some w3.heap.size:=fun e=>by cases e; omega
    exact ⟨g1,by have:=hg4.size; omega,(hg4.block r (by omega) n1).trans ((hg3.block r (by omega) n1).trans ((hb2.block r g2).trans g3))⟩)
   clear D4
   have D4:=aH D5
   clear hb2' hb2 HM2 inj hmid hT4 hg3 hg4 D2 D3 D5 hHeld HII
   try go_simp
   refine hK.out _ _ hS2 (fun hHeld=>?_)
   clear hK K
   try go_frame
   refine wpAnyH_ready (rs:=[3,5]) (by kernel_rfl) (by simp) ?_
   refine AllReadyH.cons rfl (fun K hK=>?_) (AllReadyH.cons rfl (fun K hK=>?_) AllReadyH.nil)
   ·skip
    go_simp
    refine hK.out _ _ hS2 (fun hHeld=>?_)
    clear hK K
    try go_frame
    refine tjj 4 ?_ rfl (by kernel_rfl) rfl ‹_› ?_ (fun _ _ _ h=>h) ?_
    rotate_left
    ·(intro w' hSw; (try dsimp only at hSw); (try go_frame); go_simp <;> with_reducible rfl)
    go_frame
    refine wpAnyH_ready (rs:=[5]) (by kernel_rfl) (by simp) ?_
    refine AllReadyH.cons rfl (fun K hK=>?_) AllReadyH.nil
    go_simp
    refine hK.out _ _ hS3 (fun hHeld=>?_)
    clear hK K
    try go_frame
    refine tjj 6 ?_ rfl (by kernel_rfl) rfl ‹_› ?_ (fun _ _ _ h=>h) ?_
    rotate_left
    ·(intro w' hSw; (try dsimp only at hSw); (try go_frame); go_simp <;> with_reducible rfl)
    go_frame
    refine wpAnyH_ready (rs:=[7]) (by kernel_rfl) (by simp) ?_
    refine AllReadyH.cons rfl (fun K hK=>?_) AllReadyH.nil
    go_simp
    refine hK.out _ _ hS4 (fun hHeld=>?_)
    clear hK K
    try go_frame
    clear hS2 hS3 hS4 hlook hent hlook3 hst
    refine wpAnyH_done (by kernel_rfl) ?_ _
    exact ⟨MW.o,BW.o,D4.o,by rw [HST.o]; exact T4.o,MK.o⟩
   skip
   go_simp
   refine hK.out _ _ hS3 (fun hHeld=>?_)
   clear hK K
   try go_frame
   refine tjj 6 ?_ rfl (by kernel_rfl) rfl ‹_› ?_ (fun _ _ _ h=>h) ?_
   rotate_left
   ·(intro w' hSw; (try dsimp only at hSw); (try go_frame); go_simp <;> with_reducible rfl)
   go_frame
   refine wpAnyH_ready (rs:=[3]) (by kernel_rfl) (by simp) ?_
   refine AllReadyH.cons rfl (fun K hK=>?_) AllReadyH.nil
   go_simp
   refine hK.out _ _ hS3 (fun hHeld=>?_)
   clear hK K
   try go_frame
   refine tjj 4 ?_ rfl (by kernel_rfl) rfl ‹_› ?_ (fun _ _ _ h=>h) ?_
   rotate_left
   ·(intro w' hSw; (try dsimp only at hSw); (try go_frame); go_simp <;> with_reducible rfl)
   go_frame
   refine wpAnyH_ready (rs:=[7]) (by kernel_rfl) (by simp) ?_
   refine AllReadyH.cons rfl (fun K hK=>?_) AllReadyH.nil
   go_simp
   refine hK.out _ _ hS4 (fun hHeld=>?_)
   clear hK K
   try go_frame
   clear hS2 hS3 hS4 hlook hent hlook3 hst
   refine wpAnyH_done (by kernel_rfl) ?_ _
   exact ⟨MW.o,BW.o,D4.o,by rw [HST.o]; exact T4.o,MK.o⟩
  case done =>
   intro Wd hI hK
   obtain ⟨h1,h2,h3,h4⟩:=id hI
   have i1:IntKind.i64.wrap ((j:Int) + 1) = (j:Int) + 1:=iI _ (by omega)
   have hwd:w5.heap.size < Wd.heap.size:=(Array.getElem?_eq_some_iff.1 hK).1
   have hne:=qU mo ls j (by rw [HNS.o]; exact hlt)
   rw [HGD.o] at hne
   have hRel:∃ (j':Nat) (rs':List Nat),j' = j + 1/\rs' = w5.heap.size :: rs/\rs'.Nodup/\CoI w3 W4 mo ls j' rs' 0 Wd:=⟨_,_,rfl,rfl,List.nodup_cons.2 ⟨fun h=>by have:=HRS.o _ h; omega,HND.o⟩,h1,h2,by rw [<- hne]; exact h3,fun r hr=>by
    rcases List.mem_cons.1 hr with rfl | hr
    ·exact ⟨by have:=B5.o.size; omega,hwd,hK⟩
    exact h4 r hr⟩
   have HREL:=aH hRel
   clear h1 h2 h3 h4 hI hK hne hRel
   go_wp2_with fail
   obtain ⟨j',rs',rfl,rfl,g1,g2⟩:=HREL.o
   refine ⟨⟨j + 1,w5.heap.size :: rs,.slice Ai l.length ci,.bool true,.pointer (some ⟨bl,ol + j,none⟩),.slice Ai l.length ci,.int .i64 ((mo:Int) + 1),.slice Ai l.length ci,.func (.func 135) #[] #[.pointer (some ⟨W.heap.size,0,none⟩),.pointer (some ⟨W.heap.size + 1,0,none⟩)],.int .i64 ((j:Int) + 1),rfl,by omega,g1,by have:=B5.o.size; omega,g2⟩,by simp [intOf]; omega⟩
 obtain rfl:j = ns:=by omega
 have d1:decide ((j:Int) < (j:Int)) = false:=dF (by omega)
 have b13:Below w3.heap.size w3 W:=HI.o.1
 have b1:Below w.heap.size w W:=B3.o.trans (b13.mono B3.o.size)
 have zw:w.heap.size + 1 < w3.heap.size:=Z1.o.lt
 have ZA:=aH (Z0.o.below' b13)
 have ZB:=aH (Z1.o.below' b13)
 have q0:=ZA.o.cell 0
 have q1:=HI.o.2.1.cell 0
 have BW:=aH b1
 simp only [List.getElem?_cons_zero] at q0 q1
 clear b13 b1
 go_wp2_with fail
 have TM:TMap aV (Value.int .i64) W 120 w3.heap.size (nC mo ls):=by
  have:=HI.o.2.2.1
  rw [show fE mo ls j 0 = eB mo ls by rw [<- HNS.o]; exact jU mo ls] at this
  exact this
 refine (HC.o W w3.heap.size TM BW.o).mono ?_
 rintro e w6 ⟨A,m,c,rfl,hb6,hR⟩
 have HR:=aH hR
 have B6:=aH hb6
 have Z6:=aH (ZB.o.below' hb6)
 have hz6:W.heap.size <= w6.heap.size:=hb6.size
 have r0:=Z6.o.cell 0
 have r1:=Z6.o.cell 1
 have r2:=Z6.o.cell 2
 simp only [List.getElem?_cons_zero,List.getElem?_cons_succ] at r0 r1 r2
 have f0:=Z6.o.frozen 0
 have f1:=Z6.o.frozen 1
 have f2:=Z6.o.frozen 2
 clear TM hR hb6 q0 q1
 go_wp2_with fail
 clear r0 r1 r2 f0 f1 f2
 obtain ⟨W6,hW6⟩:∃ W6,W6 = ((w6.setCell ⟨w.heap.size + 1,0,none⟩ (.int .i64 ((mo:Int) + 1))).setCell ⟨w.heap.size + 1,1,none⟩ (.int .i64 V)).setCell ⟨w.heap.size + 1,2,none⟩ (.slice A m c):=⟨_,rfl⟩
 have X6:Blk W6 (w.heap.size + 1) 27 [.int .i64 ((mo:Int) + 1),.int .i64 V,.slice A m c]:=by
  rw [hW6]
  exact ((Z6.o.set_ 0 _).set_ 1 _).set_ 2 _
 have Y6:Below w.heap.size w W6:=by rw [hW6]; exact aL (BW.o.trans (B6.o.mono BW.o.size)) (by omega) _ _ _ _ _ _
 have M6:Mid W.heap.size w6 W6:=by rw [hW6]; exact (((Mid.refl _ w6).set (.inl (by show w.heap.size + 1 < W.heap.size; omega)) _).set (.inl (by show w.heap.size + 1 < W.heap.size; omega)) _).set (.inl (by show w.heap.size + 1 < W.heap.size; omega)) _
 have K6:∀ r ∈ rs,W6.heap[r]? = some (.deferred (some [])):=fun r hr=>by
  obtain ⟨g1,g2,g3⟩:=HI.o.2.2.2 r hr
  have g4:=(B6.o.block r g2).trans g3
  rw [hW6]
  exact ((Below.heap_setCell _ ⟨w.heap.size + 1,2,none⟩ _ _ (by show r ≠ w.heap.size + 1; omega)).trans (Below.heap_setCell _ ⟨w.heap.size + 1,1,none⟩ _ _ (by show r ≠ w.heap.size + 1; omega))).trans ((Below.heap_setCell _ ⟨w.heap.size + 1,0,none⟩ _ _ (by show r ≠ w.heap.size + 1; omega)).trans g4)
 rw [<- hW6]
 clear hW6
 refine ig rs W6 K6 HND.o (fun W7 hs=>?_)
 obtain ⟨s1,s2,s3,s4⟩:=hs
 have Y7:Below w.heap.size w W7:=Y6.trans (s4 w.heap.size (fun r hr=>by have:=(HI.o.2.2.2 r hr).1; omega) Y6.size)
 have M7:Mid W.heap.size w6 W7:=M6.trans ⟨Nat.le_of_eq s2.symm,fun g hg _=>s3 g (fun h=>by have:=(HI.o.2.2.2 g h).2.1; omega)⟩
 have X7:=X6.calm s1
 have g0:=X7.cell 0
 have g1:=X7.cell 1
 have g2:=X7.cell 2
 simp only [List.getElem?_cons_zero,List.getElem?_cons_succ] at g0 g1 g2
 exact ⟨.tuple #[.agg #[.int .i64 ((mo:Int) + 1),.int .i64 V,.slice A m c],.int .i64 0],by simp [results,Tryz.results19,go_sem,g0,g1,g2],by have h:=HR.o W7 Y7 M7; rwa [show ((mo + 1:Nat):Int) = (mo:Int) + 1 from rfl] at h⟩
end
end Go.Proofs.YtjebfdfkjlkifaaGreat
