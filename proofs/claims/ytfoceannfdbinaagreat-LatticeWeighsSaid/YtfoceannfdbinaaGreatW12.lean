/- Lemmas. -/
import Derived.Test.YtfoceannfdbinaaGreatW10
import Derived.Deep.Upon
import Derived.RangeFuncNested
import Derived.RangeFuncLeaves
set_option linter.all false
set_option maxRecDepth 1000000
set_option maxHeartbeats 32000000
namespace Go.Proofs.YtfoceannfdbinaaGreat
open Go.RowKit
section
section
variable {P:Program}{μ:Mu}{s:St}{w:World}

theorem bU.adopt(h:bU μ s w)(hn:μ s.nx=none)x p(Y:OR (μ.with s.nx (.at_ p)) w s.nx x)(u:∀o U C,s.h.get o=some U->μ o=some (.at_ C)->C.blk≠p.blk)(B:∀o n A m c,s.h.get o=some (.nat n)->μ o=some (.val A m c)->yz (.slice A m c) p.blk)(N:∀n,x≠.nat n)(J:∀b i v,μ.fz b i=some v->p.blk≠b):bU (μ.with s.nx (.at_ p)) (s.new x) w:=by
 have hs:=Mu.sub_with (.at_ p) hn;refine⟨⟨fun o y e m=>?_,fun o o' y y' q q' e1 j m1 m2 hb=>?_,fun o n A m c o' U C e1 m1 j m2=>?_,fun o ho=>?_⟩,fun b i v hv=>⟨(h.fz b i v hv).1,(h.fz b i v hv).2.1,fun o y q e m=>?_⟩⟩
 ·simp only[St.new,Tr.get_set]at e;split at e
  ·next j=>subst j;cases e;exact Y
  next j=>
  rw[Mu.with_ne _ _ j]at m;exact(h.obj o y e m).keep hs (cC _) (fun _ _=>rfl) (fun _ _ _ _ _ _ _ _=>rfl)
 ·simp only[St.new,Tr.get_set]at e1 j;split at e1<;>split at j
  ·next a b=>rw[a,b]
  ·next a b=>
   subst a;rw[Mu.with_same]at m1;cases m1;rw[Mu.with_ne _ _ b]at m2;exact absurd hb.symm (u _ _ _ j m2)
  ·next a b=>
   subst b;rw[Mu.with_same]at m2;cases m2;rw[Mu.with_ne _ _ a]at m1;exact absurd hb (u _ _ _ e1 m1)
  next a b=>
  rw[Mu.with_ne _ _ a]at m1;rw[Mu.with_ne _ _ b]at m2;exact h.inj o o' y y' q q' e1 j m1 m2 hb
 ·simp only[St.new,Tr.get_set]at e1 j;split at e1
  ·next a=>cases e1;exact absurd rfl (N n)
  next a=>
  rw[Mu.with_ne _ _ a]at m1;split at j
  ·next b=>subst b;rw[Mu.with_same]at m2;cases m2;exact B o n A m c e1 m1
  next b=>rw[Mu.with_ne _ _ b]at m2;exact h.nat o n A m c o' U C e1 m1 j m2
 ·have Z:s.nx+1<=o:=ho;simp only[St.new];rw[Tr.get_set_ne _ _ (by omega)];exact h.wf o (by omega)
 simp only[St.new,Tr.get_set]at e;split at e
 ·next j=>subst j;rw[Mu.with_same]at m;cases m;exact J b i v hv
 next j=>rw[Mu.with_ne _ _ j]at m;exact(h.fz b i v hv).2.2 o y q e m

theorem lW(h:bU μ s w){z x x' l}(B:bV s z x=some l)(C:VR μ x x')(h1:∀o off n c,x=.sl o off n c->n*z=l.length∨True): ∃m,ap μ l m/\l.all flat=true/\((x=.snil/\l=[]/\x'=.slice none 0 0)∨(∃o off n c c' p,x=.sl o off n c/\l.length=n*z/\μ o=some (.at_ p)/\x'=.slice (some ⟨p.blk,p.base+off,none⟩) n c'/\(∀j u,m[j]?=some u->w.cell? ⟨p.blk,p.base+off+j,none⟩=some u)/\p.blk<w.heap.size)∨∃c n cap A,x=.vw c n/\l.length=n*z/\x'=.slice A n cap/\n<=cap/\cap<=maxLen/\(0<n->∃b base,A=some ⟨b,base,none⟩/\(∀j u,m[j]?=some u->w.cell? ⟨b,base+j,none⟩=some u)/\(0<z->b<w.heap.size))):=by
 unfold bV at B;split at B
 ·cases B;simp only[VR]at C;exact⟨[],ap.nil_,rfl,.inl ⟨rfl,rfl,C⟩⟩
 ·next o off n c=>
  split at B
  ·next cs t op ho=>
   simp only[VR]at C;obtain⟨p,c',hm,rfl,_⟩:=C;have U:=h.obj o _ ho (by rw[hm];simp);simp only[OR]at U;obtain⟨p',cells,e1,e2,e3,e4,e5⟩:=U;rw[hm]at e1;cases e1;obtain⟨g1,N⟩:=g9 B;have key:∀(k:Nat)(r:List AV)(off:Nat),r.length=k->(∀i,i<k->r[i]?=cs[off+i]?)->∃m,ap μ r m/\∀j u,m[j]?=some u->w.cell? ⟨p.blk,p.base+off+j,none⟩=some u:=by
    intro k
    induction k with
    |zero=>intro r off hr _;exact⟨[],by rw[oF hr];exact ap.nil_,by simp⟩
    |succ k ih=>
     intro r off Z ad;cases r with
     |nil=>simp at Z
     |cons y r=>
      have hy:=ad 0 (by omega);simp only[aAh,aAb]at hy;obtain⟨z,hz,C⟩:=e5 off y hy.symm;obtain⟨m,an,av⟩:=ih r (off+1) (by simpa using Z) (fun i hi=>by have:=ad (i+1) (by omega);rw[Em]at this;rw[this];congr 1;omega);refine⟨z::m,ap.cons C an,fun j u hj=>?_⟩;cases j with
      |zero=>simp at hj;subst hj;simp[World.cell?,e2,hz]
      |succ j=>rw[Em]at hj;have:=av j u hj;rw[show p.base+off+(j+1)=p.base+(off+1)+j by omega];exact this
   obtain⟨m,k1,k2⟩:=key (n*z) l off g1 N;refine⟨m,k1,?_,.inr (.inl ⟨o,off,n,c,c',p,rfl,g1,hm,rfl,k2,(IF.1 e2).1⟩)⟩;have e4:=e4.1;rw[Of]at e4⊢;intro a ha;obtain⟨i,hi⟩:=aAu.1 ha;have hlt:=(dO.1 hi).1;rw[N i (by omega)]at hi;exact e4 a (eQ hi)
  cases B
 ·next c n=>
  simp only[VR]at C;obtain⟨cs,⟨A,cap,rfl,q1,q2,q3⟩,J⟩:=C;rw[sT]at B;obtain⟨l',am,B⟩:=B;obtain⟨al,B⟩:=ah B;cases B;obtain⟨g1,N⟩:=g9 am;refine⟨cs.take (n*z),?_,al,.inr (.inr ⟨c,n,cap,A,rfl,g1,rfl,q1,q2,fun hn=>?_⟩)⟩
  ·have:l=c.take (n*z):=by
    apply aAa;intro i;rw[aBD];by_cases hi:i<n*z
    ·rw[oR hi,N i hi,SK]
    rw[iF hi,As];omega
   rw[this];exact ap.mono μ.blind_sub _ (J.take _)
  obtain⟨b,base,e,hf⟩:=q3 hn;refine⟨b,base,e,fun j u hu=>?_,fun hz=>?_⟩
  ·rw[aBD]at hu;split at hu
   ·exact eB (h.fz _ _ _ (hf j u hu)).2.1 (ap.noM J u (eQ hu))
   cases hu
  have Y:0<n*z:=aBg hn hz;obtain⟨y,hy⟩:∃y,c[0]?=some y:=by have:=N 0 Y;rw[SK,bY (by omega)]at this;exact⟨_,this.symm⟩
  obtain⟨u,hu,_⟩:=J.get hy;exact(h.fz _ _ _ (hf 0 u hu)).1
 cases B

theorem zu n:∀(k c:Nat),c<=2*n+768->Builtin.growBy n k c<=2*n+768
 |0,c,h=>h
 |k+1,c,h=>by
  unfold Builtin.growBy;split
  ·exact h
  next j=>exact zu n k _ (by omega)
theorem Gk{n c}(h:c<n):Builtin.nextslicecap n c<=2*n+768:=by
 unfold Builtin.nextslicecap;split
 ·omega
 split
 ·omega
 exact zu n 4 c (by omega)
theorem Aj zv(j:0<zv.size)n:Builtin.zeroCells zv n=(reps zv.toList n).toArray:=qi zv j n

theorem GY(h:bU μ s w){t t' ty e e'}(ht:P.underlying t=some (.slice e))(a9:P.underlying t'=some (.slice e')){x y r x' y' s'}(J:gM P s e x y=some (r,s'))(cu:VR μ x x')(dn:VR μ y y')(bo:∀o,s.nx<=o->o<s'.nx->μ o=none): ∃w' μ' v,(Builtin.append_ #[t,t'] ty #[x',y']).run P w=.ok v w'/\bU μ' s' w'/\fo μ s w μ' s' w'/\VR μ' r v:=by
 unfold gM at J;split at J
 ·next i zv hi hz=>
  split at J
  ·next old new cd b9=>
   obtain⟨hc,J⟩:=ah J;simp only[gE,aBc,ON,aAv]at hc;obtain⟨⟨⟨⟨g0,g1⟩,g2⟩,g3⟩,g4⟩:=hc;obtain⟨N,ea,cx⟩:=ii hz w;have eb:i.zero=some N:=by
    have:=ea;simp only[zeroValue,typeInfo,Le,aEn,BY,hi,aAr]at this;cases hzz:i.zero with
    |none=>rw[hzz]at this;simp at this
    |some q=>rw[hzz]at this;simp at this;rw[this]
   have ec:N.cells.size=i.size:=by rw[<-g2,(cx μ).cells.length];simp
   obtain⟨mo,o1,o2,o3⟩:=lW h cd cu (fun _ _ _ _ _=>.inr trivial);obtain⟨mn,n1,n2,n3⟩:=lW h b9 dn (fun _ _ _ _ _=>.inr trivial);have ln:=n1.length;have lo:=o1.length;obtain⟨k,hk,an⟩:∃k,new.length=k*i.size/\Src P i.size t' y' k mn w:=by
    rcases n3 with⟨rfl,rfl,rfl⟩|⟨o,off,n,c,c',p,rfl,hl,hm,rfl,al,_⟩|⟨c,n,cap,A,rfl,hl,rfl,_,_,hA⟩
    ·exact⟨0,by simp,by have:mn=[]:=oF (by simpa using ln.symm);subst this;exact Src.ofNil w a9 0⟩
    ·exact⟨n,hl,Src.ofSlice w a9 _ n c' mn (by rw[<-ln,hl]) (fun j u hj=>by rw[iB];exact al j u hj) (rn n1 n2)⟩
    refine⟨n,hl,?_⟩;rcases lE n with h0|h0
    ·subst h0;have:mn=[]:=oF (by rw[<-ln,hl];simp);subst this;cases A with
     |none=>exact Src.ofNil w a9 cap
     |some a=>exact Src.ofSlice w a9 a 0 cap [] (by simp) (fun j u hj=>by simp at hj) (fun u hu=>by cases hu)
    obtain⟨b,base,rfl,al,_⟩:=hA h0;exact Src.ofSlice w a9 _ n cap mn (by rw[<-ln,hl]) (fun j u hj=>by rw[iB];exact al j u hj) (rn n1 n2)
   have db:new.length/i.size=k:=by rw[hk];exact aCZ _ g1
   rw[db]at J;have ee:k<=new.length:=by rw[hk];exact aBM _ g1
   have grow:∀(base:Option Addr)(n c:Nat),x'=.slice base n c->n*i.size=old.length->c<n+k->(∀w1:World,(∀b off,w1.cell? ⟨b,off,none⟩=w.cell? ⟨b,off,none⟩)->(Builtin.firstCells i.size n (.slice base n c)).run P w1=.ok mo.toArray w1) -> ∃B,n+k<=B/\B<bI/\(Builtin.append_ #[t,t'] ty #[x',y']).run P w=.ok (.slice (some ⟨w.heap.size,0,none⟩) (n+k) B) (w.drew.alloc (.cells ((mo++mn)++reps N.cells.toList (B-(n+k))).toArray e)):=by
    intro base n c ex hn hlt Z;subst ex;have hb:n+k<=1000000:=by
     have:n<=old.length:=by rw[<-hn];exact aBM _ g1
     omega
    have b4:Builtin.nextslicecap (n+k) c*i.bytes<=281474976710656:=by have h1:=Gk hlt;have h2:Builtin.nextslicecap (n+k) c*i.bytes<=2000768*1000000:=aCo (by omega) g4;omega
    have:=run_append_grow_src (P:=P) w t t' ty e i N ht hi eb base n c mo (Z w.drew (fun _ _=>rfl)) y' k mn an hlt (by omega) b4;refine⟨grownCap w (n+k) c e,?_,?_,?_⟩
    ·unfold grownCap;simp only[Question.cut];omega
    ·unfold grownCap bI;simp only[Question.cut];have:w.tape w.drawn (.appendCap (n+k) c e)%(2^63-(n+k))<2^63-(n+k):=aBv _ (by omega);omega
    rw[this,Aj _ (by omega)];simp
   have grown:∀(n B:Nat)(s1:St),(∀o,μ o=none->s1.h.get o=s.h.get o)->n*i.size=old.length->n+k<=B->B<bI->s1.nx=s.nx->(∀o x,s1.h.get o=some x->s.h.get o=some x)->s1.h.get s.nx=none->μ s.nx=none -> ∃μ',bU μ' (s1.new (.cells (old++new) e true)) (w.drew.alloc (.cells ((mo++mn)++reps N.cells.toList (B-(n+k))).toArray e)) /\ fo μ s w μ' (s1.new (.cells (old++new) e true)) (w.drew.alloc (.cells ((mo++mn)++reps N.cells.toList (B-(n+k))).toArray e)) /\ VR μ' (.sl s.nx 0 (n+k) (bI+i.size)) (.slice (some ⟨w.heap.size,0,none⟩) (n+k) B):=by
    intro n B s1 bx hn b2 b0 hnx Y eh U;have dh:∀j,(reps N.cells.toList j).length=j*i.size:=by
     intro j
     induction j with
     |zero=>simp[reps]
     |succ j ih=>rw[reps,Sk,ih,aDJ,ec,aAl];omega
    have cp:((mo++mn)++reps N.cells.toList (B-(n+k))).length=B*i.size:=by simp only[Sk,dh];rw[<-lo,<-ln,<-hn,hk,<-aAl,<-aAl];congr 1;omega
    have dm:bU μ s1 w.drew:=by
     have:=h.drew.less s1.h s1.nx Y (fun o ho=>by
      cases e:s1.h.get o with
      |none=>rfl
      |some x=>have:=h.wf o (by omega);rw[Y o x e]at this;cases this)
     exact this
    have hp:(⟨w.heap.size,0,B*i.size⟩:Pl).blk=w.drew.heap.size:=rfl;have a7:lJ μ (μ.with s1.nx (.at_ ⟨w.heap.size,0,B*i.size⟩)):=Mu.sub_with _ (by rw[hnx];exact U);obtain⟨q1,q2⟩:=dm.new (by rw[hnx];exact U) (.cells ((mo++mn)++reps N.cells.toList (B-(n+k))).toArray e) (.cells (old++new) e true) ⟨w.heap.size,0,B*i.size⟩ hp (n8 (Mu.with_same _ _ _) (ir w.drew _) (by simpa using cp) (by rw[aCW,o2,n2];rfl) ⟨mo++mn,ap.mono a7 _ (o1.append n1),_,rfl,fU (qO (fun μ=>(cx μ).cells) μ _) (sL g0 _)⟩);have q3:fo μ s w.drew μ s1 w.drew:=⟨lJ.refl μ,fun _ h h'=>absurd h h',by omega,rfl,rfl,rfl,cC _,fun _ _ _=>rfl,fun o x p e1 e2=>.inr ⟨o,x,p,Y o x e1,e2,rfl⟩,fun o h1 _=>bx o h1,fun _ _ _ h=>.inl h⟩;refine⟨_,q1,(q3.trans q2).drew,?_⟩;obtain⟨y,hy,ey⟩:∃y,y=bI+i.size-bI/\y=i.size:=⟨_,rfl,by omega⟩;simp only[VR];rw[<-hy,ey];clear hy ey;refine⟨_,B,by rw[<-hnx];exact Mu.with_same _ _ _,rfl,fun e=>by omega,fun _=>⟨b2,b0,?_⟩⟩;simp
   rcases o3 with⟨rfl,rfl,rfl⟩|⟨o,off,n,cap,c,p,rfl,a6,hm,rfl,am,_⟩|⟨c,n,cap,A,rfl,_⟩
   ·simp only at J;cases hn0:Nat.beq new.length 0 with
    |true=>
     rw[hn0]at J;cases J;have h0:=ID hn0;have b5:k=0:=by omega
     subst b5;have:mn=[]:=oF (by omega);subst this;exact⟨w,μ,.slice none 0 0,run_append_nothing (P:=P) w t t' ty e i ht hi none 0 0 (cC 0) y' an,h,fo.refl _ _ _,by simp[VR]⟩
    |false=>
     rw[hn0]at J;cases J;have h0:=BW.1 hn0;have b5:0<k:=by
      rcases lE k with e|e
      ·subst e;simp at hk;exact absurd hk (by intro e;rw[e]at h0;exact h0 rfl)
      exact e
     have dl:mo=[]:=oF (by simpa using lo.symm);subst dl;obtain⟨B,c1,c2,c3⟩:=grow none 0 0 rfl (by simp) (by omega) (fun w1 _=>run_firstCells_none w1 i.size 0 0 0);obtain⟨μ',d1,d2,d3⟩:=grown 0 B s (fun _ _=>rfl) (by simp) c1 c2 rfl (fun _ _ h=>h) (h.wf _ (cC _)) (bo _ (cC _) (by simp[St.new]));refine⟨_,μ',_,c3,?_,?_,?_⟩
     ·simpa using d1
     ·simpa using d2
     simpa using d3
   ·have bm:=cu;simp only[VR]at bm;obtain⟨p0,c0,b8,bB,c8,c9⟩:=bm;rw[hm]at b8;cases b8;simp only[Value.slice.injEq,true_and]at bB;obtain⟨_,rfl⟩:=bB
    have Z:∀w1:World,(∀b off,w1.cell? ⟨b,off,none⟩=w.cell? ⟨b,off,none⟩)->(Builtin.firstCells i.size n (.slice (some ⟨p.blk,p.base+off,none⟩) n c)).run P w1=.ok mo.toArray w1:=fun w1 du=>
     aCS w1 i.size n ⟨p.blk,p.base+off,none⟩ n c mo (by rw[<-lo,a6]) (fun j u hj=>by rw[iB,du];exact am j u hj)
    have room:∀(cells:List AV)(t0:TypeId)(op:Bool),s.h.get o=some (.cells cells t0 op)->n+k<=c->off+n*i.size+new.length<=cells.length -> (Builtin.append_ #[t,t'] ty #[.slice (some ⟨p.blk,p.base+off,none⟩) n c,y']).run P w=.ok (.slice (some ⟨p.blk,p.base+off,none⟩) (n+k) c) (w.setCells p.blk (p.base+off+n*i.size) mn) /\ bU μ (s.set o (.cells (cz cells (off+n*i.size) new) t0 op)) (w.setCells p.blk (p.base+off+n*i.size) mn)/\fo μ s w μ (s.set o (.cells (cz cells (off+n*i.size) new) t0 op)) (w.setCells p.blk (p.base+off+n*i.size) mn):=by
     intro cells t0 op ho C b7;have a0:=h.obj o _ ho (by rw[hm];simp);simp only[OR]at a0;obtain⟨p',cs,e1,e2,e3,e4,e5⟩:=a0;rw[hm]at e1;cases e1;obtain⟨_,r2,r3⟩:=pg (P:=P) h ho hm n1 n2 b7;rw[<-aAo]at r2 r3;refine⟨?_,r2,r3⟩;have al:∀j,j<mn.length->∃u,cs[p.base+off+n*i.size+j]?=some u:=fun j hj=>by obtain⟨u,hu,_⟩:=e5 (off+n*i.size+j) _ (bY (by omega));exact⟨u,by rw[<-hu];congr 1;omega⟩
     exact run_append_room_src (P:=P) w t t' ty e i ht hi p.blk (p.base+off) n c y' k mn an C (fun j hj=>by obtain⟨u,hu⟩:=al j hj;simp[World.cell?,e2,hu]) (fun j hj=>by simp[World.frozen?,e2])
    simp only at J;cases hcb:Nat.blt cap bI with
    |true=>
     rw[hcb]at J;simp only[EQ]at J;rw[ON]at hcb;have c5:=c8 hcb;subst c5;cases C:Nat.ble (n+k) c with
     |true=>
      rw[C]at J;simp only[EQ]at J;rw[aAv]at C;split at J
      ·next cells t0 op ho=>
       obtain⟨dd,J⟩:=ah J;rw[aAv]at dd;cases J;have:off+n*i.size+new.length<=cells.length:=by have:(n+k)*i.size<=c*i.size:=Mt _ C;rw[aAl,<-hk]at this;omega
       obtain⟨r1,r2,r3⟩:=room cells t0 op ho C this;exact⟨_,μ,_,r1,r2,r3,by simp only[VR];exact⟨p,c,hm,rfl,fun _=>rfl,fun e=>absurd hcb e⟩⟩
      cases J
     |false=>
      rw[C]at J;cases J;have hlt:c<n+k:=by
       rcases By c (n+k)with h|h
       ·exact h
       rw[Nat.ble_eq_true_of_le h]at C;cases C
      obtain⟨B,c1,c2,c3⟩:=grow _ n c rfl a6.symm hlt Z;obtain⟨μ',d1,d2,d3⟩:=grown n B s (fun _ _=>rfl) a6.symm c1 c2 rfl (fun _ _ h=>h) (h.wf _ (cC _)) (bo _ (cC _) (by simp[St.new]));exact⟨_,μ',_,c3,d1,d2,d3⟩
    |false=>
     rw[hcb]at J;simp only[aAj]at J;obtain⟨bn,J⟩:=ah J;have bn:=ID bn;subst bn;obtain⟨yy,hy,ey⟩:∃y,y=bI+i.size-bI/\y=i.size:=⟨_,rfl,by omega⟩;have b6:=c9 (by omega);rw[<-hy,ey]at b6;obtain⟨kl,kb,kt⟩:=b6;have cy:∀(μ':Mu)(o' ba m:Nat)(p':Pl),μ' o'=some (.at_ p')->p'.blk=p.blk->p'.base+ba=p.base+off->p'.tot=p.tot->m<=c->VR μ' (.sl o' ba m (bI+i.size)) (.slice (some ⟨p.blk,p.base+off,none⟩) m c):=by intro μ' o' ba m p' a1 a2 a3 a4 a5;simp only[VR];rw[<-hy,ey];clear hy ey;exact⟨p',c,a1,by rw[a2,a3],fun e=>by omega,fun _=>⟨a5,kb,by rw[a3,a4];exact kt⟩⟩
     clear hy ey;split at J
     ·next cells t0 op ho=>
      have a0:=h.obj o _ ho (by rw[hm];simp);simp only[OR]at a0;obtain⟨p',cs,e1,e2,e3,e4,e5⟩:=a0;rw[hm]at e1;cases e1;cases hin:Nat.ble (off+n*i.size+new.length) cells.length with
      |true=>
       rw[hin]at J;cases J;rw[aAv]at hin;have C:n+k<=c:=by
        rcases lE new.length with e0|e0
        ·have:k=0:=by omega
         omega
        obtain⟨u,hu,_⟩:=e5 (off+n*i.size+new.length-1) _ (bY (by omega));have hlt:=(IF.1 hu).1;have:(n+k)*i.size<=c*i.size:=by rw[aAl,<-hk];omega
        exact Nat.le_of_mul_le_mul_right this g1
       obtain⟨r1,r2,r3⟩:=room cells t0 op ho C hin;exact⟨_,μ,_,r1,r2,r3,cy μ o off (n+k) p hm rfl rfl rfl C⟩
      |false=>
       rw[hin]at J;simp only[aAj]at J;obtain⟨b3,dv⟩:=ah J;clear J;have c6:=ID b3;subst c6;cases dv;have U:μ s.nx=none:=bo _ (cC _) (by simp[St.new,St.drop]);have cf:o≠s.nx:=fun e=>by rw[e,h.wf _ (cC _)]at ho;cases ho
       have Y:∀o1 x,(s.drop o).h.get o1=some x->s.h.get o1=some x:=fun o1 x e=>by simp only[St.drop,Tr.get_set]at e;split at e<;>simp_all
       rcases By c (n+k)with hlt|C
       ·obtain⟨B,c1,c2,c3⟩:=grow _ n c rfl a6.symm hlt Z;obtain⟨μ',d1,d2,d3⟩:=grown n B (s.drop o) (fun o1 h1=>by simp only[St.drop];exact Tr.get_set_ne _ _ (fun e=>by subst e;rw[hm]at h1;cases h1)) a6.symm c1 c2 rfl Y (by simp only[St.drop];rw[Tr.get_set_ne _ _ (aEt cf)];exact h.wf _ (cC _)) U;exact⟨_,μ',_,c3,d1,d2,d3⟩
       have ei:p.base+off+(n+k)*i.size<=cs.size:=by have:(n+k)*i.size<=c*i.size:=Mt _ C;omega
       have ef:(n+k)*i.size=n*i.size+new.length:=by rw[aAl,hk]
       have cm:=run_append_room_src (P:=P) w t t' ty e i ht hi p.blk (p.base+off) n c y' k mn an C (fun j hj=>by
         have:p.base+off+n*i.size+j<cs.size:=by omega
         simp[World.cell?,e2,this]) (fun j hj=>by simp[World.frozen?,e2])
       obtain⟨r1,r2,r3,r4⟩:=lB p.blk mn (p.base+off+n*i.size) w;have b1:=lA p.blk e (0,0) mn (p.base+off+n*i.size) w cs.toList (by simpa using e2);have bd:=fun g (hg:g≠p.blk)=>nU p.blk hg mn (p.base+off+n*i.size) w;have av:=h.drop o;have bj:∀o1 x1 p1,(s.drop o).h.get o1=some x1->μ o1=some (.at_ p1)->p1.blk≠p.blk:=fun o1 x1 p1 f1 f2 f3=>by have:o1=o:=h.inj o1 o x1 _ p1 p (Y o1 x1 f1) ho f2 hm f3;subst this;simp only[St.drop]at f1;rw[Tr.get_set_same]at f1;cases f1
       have ca:∀o1 n1 A m1 c1,(s.drop o).h.get o1=some (.nat n1)->μ o1=some (.val A m1 c1)->yz (.slice A m1 c1) p.blk:=fun o1 n1 A m1 c1 f1 f2=>h.nat o1 n1 A m1 c1 o _ p (Y _ _ f1) f2 ho hm
       have hrel:bU μ (s.drop o) (w.setCells p.blk (p.base+off+n*i.size) mn):= ⟨⟨fun o1 x1 f1 f2=>(av.obj o1 x1 f1 f2).keep (lJ.refl μ) (by omega) (fun p1 f3=>bd _ (bj o1 x1 p1 f1 f3)) (fun A m1 c1 f3 ad hA hpos hlt=>bd _ (by
         obtain⟨nn,rfl⟩:=(av.obj o1 x1 f1 f2).val f3;subst hA;exact ca o1 nn _ m1 c1 f1 f3 ad m1 c1 rfl hpos)),av.inj,av.nat,av.wf⟩,
         fun b' i' v' bf=>by
         obtain⟨z1,z2,z3⟩:=av.fz b' i' v' bf;have c4:p.blk≠b':=(h.fz b' i' v' bf).2.2 o _ p ho hm;exact⟨by omega,(kY (bd b' (aEt c4)) i').trans z2,z3⟩⟩
       have ch:(μ.with s.nx (.at_ ⟨p.blk,p.base+off,p.tot⟩)) s.nx=some (.at_ ⟨p.blk,p.base+off,p.tot⟩):=Mu.with_same _ _ _;have a7:lJ μ (μ.with s.nx (.at_ ⟨p.blk,p.base+off,p.tot⟩)):=Mu.sub_with _ U;have cb:OR (μ.with s.nx (.at_ ⟨p.blk,p.base+off,p.tot⟩)) (w.setCells p.blk (p.base+off+n*i.size) mn) s.nx (.cells (old++new) e true):=by
        refine⟨_,_,ch,b1,by simp[nX,e3],⟨by rw[aCW,o2,n2];rfl,wF (fU n1 n2) e4.2⟩,fun j x hj=>?_⟩;rw[aBC,jo];simp only;rw[aDs]at hj;split at hj
        ·next c7=>
         obtain⟨u,hu,hv⟩:=o1.get hj;refine⟨u,?_,hv.mono a7⟩;rw[iF (by omega)];have:=am j u hu;simp only[World.cell?,e2,aDQ,aBF,aCq]at this;rw[aBi];exact this
        next c7=>
        obtain⟨u,hu,hv⟩:=n1.get hj;refine⟨u,?_,hv.mono a7⟩;have ed:=(dO.1 hj).1;rw[oR (by simp only[aDJ];omega),<-hu];congr 1;omega
       have hR:=hrel.adopt U (.cells (old++new) e true) ⟨p.blk,p.base+off,p.tot⟩ cb bj ca (by simp) (fun b' i' v' bf=>(h.fz b' i' v' bf).2.2 o _ p ho hm);refine⟨_,μ.with s.nx (.at_ ⟨p.blk,p.base+off,p.tot⟩),_,cm,hR,?_,cy _ s.nx 0 (n+k) _ ch rfl (by simp) rfl C⟩;refine⟨a7,fun o1 f1 f2=>?_,by simp[St.new,St.drop],r1,r2,r3,by omega,fun g hg hno=>bd g (fun e=>hno o _ p ho hm e.symm),fun o1 x1 p1 f1 f2=>?_,fun o1 h1 h2=>by simp only[St.new,St.drop];rw[Tr.get_set_ne _ _ (by omega),Tr.get_set_ne _ _ (fun e=>by subst e;rw[hm]at h1;cases h1)],fun _ _ _ h=>.inl h⟩
       ·by_cases e:o1=s.nx
        ·subst e;simp[St.new,St.drop]
        rw[Mu.with_ne _ _ e]at f2;exact absurd f1 f2
       simp only[St.new]at f1;rw[Tr.get_set]at f1;split at f1
       ·next e=>rw[show(s.drop o).nx=s.nx from rfl]at e;subst e;rw[Mu.with_same]at f2;cases f2;exact .inr ⟨o,_,p,ho,hm,rfl⟩
       next e=>rw[Mu.with_ne _ _ (show o1≠s.nx from e)]at f2;exact .inr ⟨o1,x1,p1,Y o1 x1 f1,f2,rfl⟩
     cases J
   cases J
  cases J
 cases J
end
end
section
section
variable {P:Program}{μ:Mu}{s:St}{w:World}

theorem P5(h:bU μ s w){t t' ty e}(ht:P.underlying t=some (.slice e)){x y r x' y' s'}(N:oE P s e x y=some (r,s'))(am:VR μ x x')(an:VR μ y y'): ∃w' v,(Builtin.copy_ #[t,t'] ty #[x',y']).run P w=.ok v w'/\bU μ s' w'/\fo μ s w μ s' w'/\VR μ r v:=by
 unfold oE at N;split at N
 ·next z o off n cap o' Y C B hz=>
  split at N
  ·next c t0 op c' t1 a5 ho a2=>
   split at N
   ·next l hl=>
    obtain⟨Z,N⟩:=ah N;rw[aAv]at Z;cases N;have hr:bV s z (.sl o' Y (min n C) B)=some l:=by simp only[bV,a2,hl]
    simp only[VR]at am an;obtain⟨p,c1,hm,rfl,_⟩:=am;obtain⟨p',c2,av,rfl,k1,k2⟩:=an;have al:VR μ (.sl o' Y (min n C) B) (.slice (some ⟨p'.blk,p'.base+Y,none⟩) (min n C) c2):=by simp only[VR];exact⟨p',c2,av,rfl,k1,fun e=>by have:=k2 e;exact⟨by omega,this.2⟩⟩
    obtain⟨m,q1,q2,q3⟩:=lW h hr al (fun _ _ _ _ _=>.inr trivial);rcases q3 with⟨e,_⟩|⟨o2,a4,n2,c3,c4,p2,e1,U,a0,e2,J,_⟩|⟨_,_,_,_,e,_⟩
    ·cases e
    ·cases e1;rw[av]at a0;cases a0;cases e2;obtain⟨r1,r2,r3⟩:=pg (P:=P) (off:=off) h ho hm q1 q2 Z;refine⟨_,.int .i64 (min n C:Nat),?_,r2,r3,by simp[VR]⟩;have hf:=aCS (P:=P) w z (min n C) ⟨p'.blk,p'.base+Y,none⟩ C c2 m (by rw[<-q1.length,U]) (fun j u hj=>by rw[iB];exact J j u hj);have ad:Nat.min C n=min n C:=Nat.min_comm C n;simp[Builtin.copy_,sK ht,Builtin.lenOf,bL hz,ad,hf,r1,goInt]
    cases e
   cases N
  cases N
 ·next z o off n cap c' C hz=>
  split at N
  ·next c t0 op l ho hl=>
   obtain⟨Z,N⟩:=ah N;simp only[gE,aAv]at Z;cases N;have hr:bV s z (.vw c' (min n C))=some l:=by simp only[bV,hl,CC,Z.2,EQ]
   simp only[VR]at am an;obtain⟨p,c1,hm,rfl,_⟩:=am;obtain⟨cs,⟨A,B,rfl,k1,k2,k3⟩,a1⟩:=an;have al:VR μ (.vw c' (min n C)) (.slice A (min n C) B):=by simp only[VR];exact⟨cs,⟨A,B,rfl,by omega,k2,fun h=>k3 (by omega)⟩,a1⟩
   obtain⟨m,q1,q2,q3⟩:=lW h hr al (fun _ _ _ _ _=>.inr trivial);rcases q3 with⟨e,_⟩|⟨_,_,_,_,_,_,e,_⟩|⟨c3,n3,a3,A3,e1,U,e2,_,_,hA⟩
   ·cases e
   ·cases e
   cases e1;cases e2;obtain⟨r1,r2,r3⟩:=pg (P:=P) (off:=off) h ho hm q1 q2 Z.1;refine⟨_,.int .i64 (min n C:Nat),?_,r2,r3,by simp[VR]⟩;have ad:Nat.min C n=min n C:=Nat.min_comm C n;have hf:(Builtin.firstCells z (min n C) (.slice A C B)).run P w=.ok m.toArray w:=by
    rcases lE (min n C)with h0|h0
    ·have:m=[]:=oF (by rw[<-q1.length,U,h0];simp);subst this;cases A with
     |none=>rw[h0];exact run_firstCells_none w z C B 0
     |some a=>exact aCS (P:=P) w z (min n C) a C B [] (by simp[h0]) (fun j u hj=>by simp at hj)
    obtain⟨b,base,rfl,J,_⟩:=hA h0;exact aCS (P:=P) w z (min n C) ⟨b,base,none⟩ C B m (by rw[<-q1.length,U]) (fun j u hj=>by rw[iB];exact J j u hj)
   simp[Builtin.copy_,sK ht,Builtin.lenOf,bL hz,ad,hf,r1,goInt]
  cases N
 cases N

theorem GO{es l}(h:lK μ es l)(b:Nat):l.findIdx? (fun e=>(e.born:Int) == (b:Int))=es.findIdx? (fun e=>Nat.beq e.born b):=by
 induction es generalizing l with
 |nil=>simp only[lK]at h;subst h;rfl
 |cons x es ih=>
  obtain⟨k,v,A,rfl,u,y,j⟩:=h;rw[List.findIdx?_cons,List.findIdx?_cons,ih j];have:((x.born:Int) == (b:Int))=Nat.beq x.born b:=by rw[aBO];simp;omega
  simp[this]

def Xm(P:Program)(μ:Mu)(s:St)(w:World)(x:AV)(s':St)(run:Result Next):Prop:=
 ∃w' μ' v n,run=.ok n w'/\(n=.value v∨n=.skip/\v=undef)/\bU μ' s' w'/\fo μ s w μ' s' w'/\VR μ' x v

theorem PT(h:bU μ s w){ρ ev}(y:∀x v,ρ x=some v->VR μ v (ev x))o{t a v}(u:o.op=.store t a v){X E x s'}(j:iG P X E ρ s o.op=some (x,s')):Xm P μ s w x s' ((execOp ev o).run P w):=by
 rw[u]at j;simp only[iG]at j;split at j
 ·next N U ha A=>
  simp only[iN,Gt]at j;obtain⟨s1,hs,rfl,rfl⟩:=j;obtain⟨w',B,C,J⟩:=KJ h hs (y _ _ ha) (y _ _ A);exact⟨w',μ,undef,.skip,by simp[execOp,u,B],.inr ⟨rfl,rfl⟩,C,J,by simp[VR,ap,undef]⟩
 cases j
theorem BH(hl:laidOutB P=true)(h:bU μ s w){ρ ev}(u:∀x v,ρ x=some v->VR μ v (ev x))o{t m k v}(y:o.op=.mapUpdate t m k v){X E x s'}(j:iG P X E ρ s o.op=some (x,s')):Xm P μ s w x s' ((execOp ev o).run P w):=by
 rw[y]at j;simp only[iG]at j;split at j
 ·next kt U Z Y vv hu hm A B=>
  simp only[iN,Gt]at j;obtain⟨s1,hs,rfl,rfl⟩:=j;obtain⟨w',C,J,N⟩:=Gu hl h hu hs (u _ _ hm) (u _ _ A) (u _ _ B);exact⟨w',μ,undef,.skip,by simp[execOp,y,C],.inr ⟨rfl,rfl⟩,J,N,by simp[VR,ap,undef]⟩
 cases j
theorem Eu(hl:laidOutB P=true)(h:bU μ s w){ρ ev}(hρ:∀x v,ρ x=some v->VR μ v (ev x))o{t m k}(ho:o.op=.mapEntry t m k){X E x s'}(u:iG P X E ρ s o.op=some (x,s')):Xm P μ s w x s' ((execOp ev o).run P w):=by
 rw[ho]at u;simp only[iG]at u;split at u
 ·next kt et o1 kv hu hm hk=>
  split at u
  ·next q es clock hq B=>
   have Z:=hρ _ _ hm;simp only[VR]at Z;obtain⟨p,j,em⟩:=Z;have y:=uR hq (hρ _ _ hk);have al:=pr hq;have ad:=h.obj o1 _ B (by rw[j];simp);simp only[OR]at ad;obtain⟨p',l,h1,N,h3⟩:=ad;rw[j]at h1;cases h1;have Y:VR μ kv (bZ q):=y▸hρ _ _ hk;split at u
   ·next i J=>
    obtain⟨c1,c2,_,C⟩:=gO hl al J h3 w;obtain⟨e0,U,g1,g2,g3,g4,g5,g6⟩:=C _ rfl;rw[g2]at u;cases u;obtain⟨r1,r2⟩:=fy (x:=.map (es.set i ⟨kv,U.val,U.born⟩) clock) (O:=.map (l.set i ⟨bZ q,e0.val,U.born⟩).toArray clock) h B j N (by simp) (fun w' hw=>by simp only[OR];exact⟨p,_,j,hw,h3.set Y g5⟩);refine⟨_,μ,.tuple #[e0.val,.int .i64 U.born],_,?_,.inl rfl,r1,r2,by simp only[VR];exact⟨[e0.val,.int .i64 U.born],rfl,ap.cons g5 (ap.cons (by simp[VR]) ap.nil_)⟩⟩;simp only[execOp,ho];apply aQ;rw[em,y];simp only[Instr.mapEntry,Le,sK hu w,BY,dH N (by simp),c1,g6,aBC,g1,AC,aEb,g3,c2];rw[qj l i _ e0 g1,kf N (by simp),<-g4];rfl
   ·next J=>
    obtain⟨c1,c2,A,_⟩:=gO hl al J h3 w;have g6:=A rfl;split at u
    ·next z hz=>
     cases u;obtain⟨zv,an,am⟩:=ii hz w;obtain⟨r1,r2⟩:=fy (x:=.map (es++[⟨kv,z,clock⟩]) (clock+1)) (O:=.map (l++[(⟨bZ q,zv,clock⟩:MapEntry)]).toArray (clock+1)) h B j N (by simp) (fun w' hw=>by simp only[OR];exact⟨p,_,j,hw,h3.append Y (am μ) clock⟩);refine⟨_,μ,.tuple #[zv,.int .i64 clock],_,?_,.inl rfl,r1,r2,by simp only[VR];exact⟨[zv,.int .i64 clock],rfl,ap.cons (am μ) (ap.cons (by simp[VR]) ap.nil_)⟩⟩;simp only[execOp,ho];apply aQ;rw[em,y];simp only[Instr.mapEntry,Le,sK hu w,BY,dH N (by simp),c1,g6,an];rw[kf N (by simp)];simp[goInt]
    cases u
   cases u
  cases u
 cases u
theorem yq(h:bU μ s w){ρ ev}(Z:∀x v,ρ x=some v->VR μ v (ev x))o{t m b v}(ho:o.op=.entryStore t m b v){X E x s'}(j:iG P X E ρ s o.op=some (x,s')):Xm P μ s w x s' ((execOp ev o).run P w):=by
 rw[ho]at j;simp only[iG]at j;split at j
 ·next o1 bn vv hm hb hv=>
  rw[sT]at hb;obtain⟨ba,N,U⟩:=hb;have eb:=mS U (Z _ _ N);have y:=Z _ _ hm;simp only[VR]at y;obtain⟨p,u,em⟩:=y;split at j
  ·next es clock A=>
   split at j
   ·next i hi=>
    split at j
    ·next a ha=>
     cases j;have B:=h.obj o1 _ A (by rw[u];simp);simp only[OR]at B;obtain⟨p',l,h1,C,J⟩:=B;rw[u]at h1;cases h1;obtain⟨e0,f1,f2,f3,f4⟩:=J.get ha;obtain⟨r1,r2⟩:=fy (x:=.map (es.set i ⟨a.key,vv,a.born⟩) clock) (O:=.map (l.set i ⟨e0.key,ev v,a.born⟩).toArray clock) h A u C (by simp) (fun w' hw=>by simp only[OR];exact⟨p,_,u,hw,J.set f2 (Z _ _ hv)⟩);refine⟨_,μ,undef,.skip,?_,.inr ⟨rfl,rfl⟩,r1,r2,by simp[VR,ap,undef]⟩;have Y:l.toArray.findIdx? (fun e=>(e.born:Int) == (bn:Int))=some i:=by rw[<-hi,<-GO J bn];simp
     simp only[execOp,ho,Instr.entryStore,Le,em,eb,asInt,asIntOf,aAr,dH C (by simp),BY,Y];rw[qj l i _ e0 f1,kf C (by simp),<-f4];rfl
    cases j
   cases j
  cases j
 cases j
theorem PU(h:bU μ s w){ρ ev}(Z:∀x v,ρ x=some v->VR μ v (ev x))o{t y}(U:o.op=.range t y){X E x s'}(j:iG P X E ρ s o.op=some (x,s'))(A:∀o,s.nx<=o->o<s'.nx->μ o=none):Xm P μ s w x s' ((execOp ev o).run P w):=by
 rw[U]at j;simp only[iG]at j;split at j
 ·next kt et hu hy=>
  cases j;have u:=Z _ _ hy;simp only[VR]at u;have hn:=A _ (cC _) (by simp[St.new]);obtain⟨J,N⟩:=h.new hn (.mapIter none 0 #[] 0) (.iter none 0 [] 0) ⟨w.heap.size,0,0⟩ rfl (by simp only[OR];exact⟨_,none,Mu.with_same _ _ _,rfl,ir w _,rfl⟩);refine⟨_,_,.pointer (some ⟨w.heap.size,0,none⟩),_,?_,.inl rfl,J,N,by simp only[VR];exact⟨_,Mu.with_same _ _ _,rfl⟩⟩;simp only[execOp,U];exact aQ (by simp[Instr.range,sK hu,u])
 ·next kt et ks vs hu hy=>
  cases j;have u:=Z _ _ hy;simp only[VR]at u;obtain⟨b,l,clock,l',em,g1,g2,g3,g4,g5,g6⟩:=u;have hb:=jZ (h.fz _ _ _ g1).2.1;have hn:=A _ (cC _) (by simp[St.new]);obtain⟨J,N⟩:=h.new hn (.mapIter (some b) clock #[] clock) (.walk [] ks vs) ⟨w.heap.size,0,0⟩ rfl (by simp only[OR];exact⟨_,b,l,clock,[],l',Mu.with_same _ _ _,rfl,ir w _,g1,g3,g4,by rw[show(l.filter fun e=>!([]:List Nat).contains e.born)=l from by rw[List.filter_eq_self];intro e _;rfl];exact g2,g5,g6,fun k v e=>by cases e⟩);refine⟨_,_,.pointer (some ⟨w.heap.size,0,none⟩),_,?_,.inl rfl,J,N,by simp only[VR];exact⟨_,Mu.with_same _ _ _,rfl⟩⟩;simp only[execOp,U];exact aQ (by simp[Instr.range,sK hu,em,getObj,Sem.run,hb])
 ·next kt et o1 hu hy=>
  split at j
  ·next es clock Y=>
   cases j;have u:=Z _ _ hy;simp only[VR]at u;obtain⟨p,B,em⟩:=u;have C:=h.obj o1 _ Y (by rw[B];simp);simp only[OR]at C;obtain⟨p',l,h1,h2,h3⟩:=C;rw[B]at h1;cases h1;have hn:=A _ (cC _) (by simp[St.new]);obtain⟨J,N⟩:=h.new hn (.mapIter (some p.blk) clock #[] clock) (.iter (some o1) clock [] clock) ⟨w.heap.size,0,0⟩ rfl (by simp only[OR];exact⟨_,_,Mu.with_same _ _ _,rfl,ir w _,p,Mu.sub_with _ hn _ _ B,rfl⟩);refine⟨_,_,.pointer (some ⟨w.heap.size,0,none⟩),_,?_,.inl rfl,J,N,by simp only[VR];exact⟨_,Mu.with_same _ _ _,rfl⟩⟩;simp only[execOp,U];exact aQ (by simp[Instr.range,sK hu,em,getObj,Sem.run,h2])
  cases j
 cases j
theorem LK{es l}(h:lK μ es l)(f:Nat->Bool):lK μ (es.filter fun e=>f e.born) (l.filter fun e=>f e.born):=by
 induction es generalizing l with
 |nil=>simp only[lK]at h;subst h;rfl
 |cons x es ih=>
  obtain⟨k,v,A,rfl,u,y,j⟩:=h;simp only[aDm];split
  ·exact⟨k,v,_,rfl,u,y,ih j⟩
  exact ih j
theorem W4{es l}(h:lK μ es l)(f:Nat->Bool):(l.all fun e=>f e.born)=(es.all fun e=>f e.born):=by
 induction es generalizing l with
 |nil=>simp only[lK]at h;subst h;rfl
 |cons x es ih=>obtain⟨k,v,A,rfl,u,y,j⟩:=h;simp only[aAR,ih j]
theorem GF{es l}(h:lK μ es l):l.isEmpty=es.isEmpty:=by
 cases es with
 |nil=>simp only[lK]at h;subst h;rfl
 |cons x es=>obtain⟨k,v,j,rfl,_⟩:=h;rfl
theorem TQ(h:bU μ s w){ρ ev}(hρ:∀x v,ρ x=some v->VR μ v (ev x))o{it b}(ho:o.op=.next it b){X E x s'}(y:iG P X E ρ s o.op=some (x,s')):Xm P μ s w x s' ((execOp ev o).run P w):=by
 rw[ho]at y;cases b
 case true=>simp[iG]at y
 simp only[iG]at y;split at y
 ·next o1 a0=>
  have hv:=hρ _ _ a0;simp only[VR]at hv;obtain⟨p,A,em⟩:=hv;split at y
  ·next C=>
   cases y;have B:=h.obj o1 _ C (by rw[A];simp);simp only[OR]at B;obtain⟨p',m',U,h0,Y,h3⟩:=B;rw[A]at U;cases U;subst h3;refine⟨w,μ,.tuple #[.bool false],_,?_,.inl rfl,h,fo.refl _ _ _,by simp only[VR];exact⟨[.bool false],rfl,ap.cons (by simp[VR]) ap.nil_⟩⟩;simp only[execOp,ho];exact aQ (by simp[Instr.next,em,h0,getObj,Sem.run,Y])
  ·next a3 C=>
   cases y;have B:=h.obj o1 _ C (by rw[A];simp);simp only[OR]at B;obtain⟨p',b,l,c,sn,l',U,h0,Y,h3,h4,h5,h6,h7,h8,h9⟩:=B;rw[A]at U;cases U;have hb:=jZ (h.fz _ _ _ h3).2.1;have J:(l.filter fun e=>!sn.contains e.born)=[]:=by have:=h7.length;have e2:=h6.length_eq;rw[aAP,RW]at this;exact oF (by omega)
   refine⟨w,μ,.tuple #[.bool false],_,?_,.inl rfl,h,fo.refl _ _ _,by simp only[VR];exact⟨[.bool false],rfl,ap.cons (by simp[VR]) ap.nil_⟩⟩;simp only[execOp,ho];refine aQ ?_;have N:(l.toArray.filter fun e=>!sn.toArray.contains e.born)=#[]:=by
    have:(l.toArray.filter fun e=>!sn.toArray.contains e.born)=(l.filter fun e=>!sn.contains e.born).toArray:=by simp
    rw[this,J]
   have an:(!sn.toArray.isEmpty && !l.toArray.isEmpty&&l.toArray.all fun e=>decide (e.born≥c))=false:=by
    cases l with
    |nil=>simp
    |cons e l=>have:=h5 e Do;simp only[List.size_toArray,Array.all_eq_true,Bool.and_eq_false_imp];intro _;rw[Bool.eq_false_iff];intro al;have:=Array.all_eq_true.1 al 0 (by simp);simp at this;omega
   simp only[Instr.next,em,h0,aAh,Le,dH Y (by simp),BY,dH hb (by simp),N];rw[iF (by rw[an];simp)];simp[Question.forced]
  ·next m u seen last C=>
   split at y
   ·next es clock a2=>
    have B:=h.obj o1 _ C (by rw[A];simp);simp only[OR]at B;obtain⟨p',m',U,h0,Y,q,ad,rfl⟩:=B;rw[A]at U;cases U;have Z:=h.obj m _ a2 (by rw[ad];simp);simp only[OR]at Z;obtain⟨q',l,h4,h5,h6⟩:=Z;rw[ad]at h4;cases h4;cases hcond:(!seen.isEmpty && !es.isEmpty&&es.all fun e=>Nat.ble last e.born)with
    |true=>rw[hcond]at y;cases y
    |false=>
     rw[hcond]at y;simp only[aAj]at y;have am:(!seen.toArray.isEmpty && !l.toArray.isEmpty&&l.toArray.all fun e=>decide (e.born≥last))=false:=by
      have e1:=W4 h6 (fun b=>Nat.ble last b);have e2:(l.all fun e=>decide (e.born≥last))=(l.all fun e=>Nat.ble last e.born):=by congr 1;funext e;rw[aBO];simp
      rw[<-hcond,<-e1,<-GF h6];simp[e2]
     have j:=LK h6 (fun b=>!seen.contains b);have N:(l.toArray.filter fun e=>!seen.toArray.contains e.born)=(l.filter fun e=>!seen.contains e.born).toArray:=by simp
     split at y
     ·next J=>
      cases y;rw[J]at j;simp only[lK]at j;refine⟨w,μ,.tuple #[.bool false],_,?_,.inl rfl,h,fo.refl _ _ _,by simp only[VR];exact⟨[.bool false],rfl,ap.cons (by simp[VR]) ap.nil_⟩⟩;simp only[execOp,ho];refine aQ ?_;simp only[Instr.next,em,h0,aAh,Le,dH Y (by simp),BY,dH h5 (by simp),N,j];rw[iF (by rw[am];simp)];simp[Question.forced]
     ·next a av=>
      obtain⟨hb,y⟩:=ah y;cases y;rw[av]at j;obtain⟨kk,vv,l',a1,f1,f2,f3⟩:=j;simp only[lK]at f3;subst f3;rw[ON]at hb;obtain⟨r1,r2⟩:=fy (x:=.iter (some m) u (seen++[a.born]) clock) (O:=.mapIter (some q.blk) u (seen++[a.born]).toArray clock) h C A Y (by simp) (fun w' hw=>by simp only[OR];exact⟨p,_,A,h0,hw,q,ad,rfl⟩);refine⟨_,μ,.tuple #[.bool true,kk,vv],_,?_,.inl rfl,r1,r2,by simp only[VR];exact⟨[.bool true,kk,vv],rfl,ap.cons (by simp[VR]) (ap.cons f1 (ap.cons f2 ap.nil_))⟩⟩;simp only[execOp,ho];refine aQ ?_;simp only[Instr.next,em,h0,aAh,Le,dH Y (by simp),BY,dH h5 (by simp),N,a1];rw[iF (by rw[am];simp)];have hn:¬(u<=a.born):=by omega
      have e1:([⟨kk,vv,a.born⟩]:List MapEntry).toArray.filter (fun e=>decide (e.born<u))=#[⟨kk,vv,a.born⟩]:=by simp[hb]
      have e2:([⟨kk,vv,a.born⟩]:List MapEntry).toArray.filter (fun e=>decide (e.born≥u))=#[]:=by simp[hb]
      simp[Question.forced,hb,hn,setObj,Sem.run,Y]
     cases y
   cases y
  cases y
 cases y
end
end
section
def Fw(ro:Option Nat):Fence:={ Fence.wide with round:=ro }
def oP(P:Program)(f:FuncId):Prop:=∀args w,(callFunc f args).run P w=.ok (.enter f args) w
def DM(μ:Mu):List Nat->List Deferred->Prop
 | [],ds=>ds=[]
 |r::ms,ds=>∃p ds',μ r=some (.at_ p)/\ds={ target:=.collected p.blk,args:=#[] }::ds'/\DM μ ms ds'
theorem DM.mono{μ μ'}(hs:lJ μ μ'):∀{ms:List Nat}{ds:List Deferred},DM μ ms ds->DM μ' ms ds
 | [],_,h=>h
 |_::_,_,⟨p,ds',h1,h2,h3⟩=>⟨p,ds',hs _ _ h1,h2,DM.mono hs h3⟩
def Xj(μ:Mu):Option Nat->Option Nat->Prop
 |none,r=>r=none
 |some l,r=>∃p,μ l=some (.at_ p)/\r=some p.blk
theorem Xj.mono{μ μ'}(hs:lJ μ μ'){x y}(h:Xj μ x y):Xj μ' x y:=by
 cases x with
 |none=>exact h
 |some l=>obtain⟨p,j,u⟩:=h;exact⟨p,hs _ _ j,u⟩
def pI:Ex->Exit
 | .normal=>.normal
 | .exit id=>.exit id
 | .ret=>.ret
def iP(μ:Mu)(s s':St):Prop:=∀o,s.nx<=o->o<s'.nx->μ o=none

def Wf(s:St):Prop:=∀o,s.nx<=o->s.h.get o=none
structure dJ(P:Program)(E:Ev):Prop where
 call:∀{f args s v s'},E.call f args s=some (v,s')->(oP P f/\s.nx<=s'.nx/\(Wf s->Wf s'))/\∀{μ:Mu}{w:World}{vs:List Value}(n:Nat),bU μ s w->ap μ args vs->iP μ s s'->
  CallsIn Fence.wide n P f vs.toArray w fun e w'=>∃v' μ',e=.returned v'/\bU μ' s' w'/\fo μ s w μ' s' w'/\VR μ' v v'
 code:∀{c fr s ex fr' s'},E.code c fr s=some (ex,fr',s')->fr'.n=fr.n/\fr'.rd=fr.rd/\(s.nx<=s'.nx/\(Wf s->Wf s'))/\∀{μ:Mu}{w:World}{a:Act}{ro:Option Nat}(n:Nat){Q:Exit->Act->World->Prop},bU μ s w->TR μ fr.n fr.T a.tmps->DM μ fr.ms a.defers->Xj μ fr.rd ro->iP μ s s'->
  (∀μ' w' a',bU μ' s' w'->fo μ s w μ' s' w'->TR μ' fr'.n fr'.T a'.tmps->DM μ' fr'.ms a'.defers->Q (pI ex) a' w')->c.wpIn (Fw ro) n P Q a w

def kG(P:Program)(X:eC):Prop:=∀t m f via,X.meth t m=some (f,via)->match via with
 | .same=>∀v w,(method (P.types.size+Made.depth) t v m).run P w=.ok (f,v) w
 | .deref e=>∀b off w,(method (P.types.size+Made.depth) t (.pointer (some ⟨b,off,none⟩)) m).run P w=((loadVar e ⟨b,off,none⟩).run P w).andThen fun v w'=>.ok (f,v) w'

section
variable {P:Program}{μ:Mu}{s:St}{w:World}

theorem mC{T n}{a:Act}(hT:TR μ n T a.tmps):∀x v,js T x=some v->VR μ v (a.eval x):=by
 intro x v h;cases x with
 |tmp t=>obtain⟨y,j,u⟩:=hT.2 t v h;simpa [Act.eval,j]using u
 |const c=>exact gQ μ c h
 |global g=>simp[js]at h
 |func f=>simp only[js,iD]at h;subst h;simp only[VR,Act.eval];exact⟨[],[],rfl,ap.nil_,ap.nil_⟩

theorem jm{ro n}{o:Oper}{a K Q x s' r}(h:Xm P μ s w x s' r)(hK:∀μ' w' v,bU μ' s' w'->fo μ s w μ' s' w'->VR μ' x v->K (a.put o.dst v) w'):o.uponIn (Fw ro) n P a K Q r:=by
 obtain⟨w',μ',v,nx,rfl,hn,j,u,y⟩:=h;rcases hn with rfl|⟨rfl,rfl⟩
 ·exact hK _ _ _ j u y
 exact hK _ _ _ j u y

theorem oU{E}(S:dJ P E){ro n}{o:Oper}{a K Q f args vs x s'}(u:E.call f args s=some (x,s'))(h:bU μ s w)(y:ap μ args vs)(hf:iP μ s s')(hK:∀μ' w' v,bU μ' s' w'->fo μ s w μ' s' w'->VR μ' x v->K (a.put o.dst v) w'):o.uponIn (Fw ro) n P a K Q (.ok (.enter f vs.toArray) w):=by refine⟨fun e=>(by cases e),?_⟩;have j:=(S.call u).2 (n-1) h y hf;refine aCi (F:=Fw ro) j ?_;rintro e w' ⟨J,μ',rfl,A,B,C⟩;exact hK _ _ _ A B C

theorem yC{n}:∀(ps:List Tmp)(args:List AV)(u:List Value)(T:Tr AV)(j:Array Value),ap μ args u->(ps.all fun t=>Nat.blt t n)=true->TR μ n T j->TR μ n ((ps.zip args).foldl (fun T p=>T.set p.1 (some p.2)) T) ((ps.zip u).foldl (fun j p=>j.setIfInBounds p.1 p.2) j)
 | [],_,_,_,_,_,_,h=>h
 |p::ps,[],u,_,_,hv,_,h=>by simp only[ap]at hv;subst hv;exact h
 |p::ps,x::xs,u,T,j,hv,hp,h=>by simp only[ap]at hv;obtain⟨y,C,rfl,A,B⟩:=hv;simp only[aAR,gE,ON]at hp;simp only[List.zip_cons_cons,aBl];exact yC ps xs C _ _ B (by simpa using hp.2) (h.put hp.1 A)

theorem Mz{E}(S:dJ P E){ro n}{o:Oper}{a K Q l p}(hm:μ l=some (.at_ p)){args vs x s'}(y:eA E l args s=some (x,s'))(h:bU μ s w)(hv:ap μ args vs)(hf:iP μ s s')(hK:∀μ' w' v,bU μ' s' w'->fo μ s w μ' s' w'->VR μ' x v->K (a.put o.dst v) w'):o.uponIn (Fw ro) n P a K Q ((Instr.yield p.blk vs.toArray).run P w):=by
 unfold eA at y;split at y
 ·next pe b8 n0 T ps asn body ds ho=>
  have bd:=h.obj l _ ho (by rw[hm];simp);simp only[OR]at bd;obtain⟨p',q,tm,fn,h1,h2,h3,h4⟩:=bd;rw[hm]at h1;cases h1;obtain⟨a7,y⟩:=ah y;simp only[gE,aBc]at a7;obtain⟨a9,b4⟩:=a7;split at y
  ·next fr1 s1 a6=>
   split at y
   ·next bj bB n1 T1 bm Z U bx ba=>
    split at y
    ·next ex fr2 s2 b3=>
     split at y
     ·next cb ca a3 n2 T2 J u j a0 Y=>
      obtain⟨_,_,b9,an⟩:=S.code a6;obtain⟨_,_,nx2,av⟩:=S.code b3;have bf:s'.nx=s2.nx:=by cases ex<;>simp only[iD,Gt]at y<;>(rw[<-y.2];rfl)
      have b5:vs.length=ps.length:=by rw[<-hv.length];exact a9
      have hy:=run_yield (P:=P) (args:=vs.toArray) h4 (by simpa using b5);rw[hy];refine⟨fun e=>(by cases e),roundIn_of_wpIn trivial ?_⟩;have b0:=yC (μ:=μ) ps args vs T tm hv (by simpa using b4) h3;have a4:((ps.toArray.zip vs.toArray).foldl (fun tmps (x:Nat×Value)=>tmps.setIfInBounds x.1 x.2) tm)=(ps.zip vs).foldl (fun tm p=>tm.setIfInBounds p.1 p.2) tm:=by simp
      refine an (a:={ tmps:=((ps.toArray.zip vs.toArray).foldl (fun tmps (x:Nat×Value)=>tmps.setIfInBounds x.1 x.2) tm),defers:=[] }) (ro:=some p.blk) (n-1) h (by simp only;rw[a4];exact b0) (by simp[DM]) ⟨p,hm,rfl⟩ (fun o1 e1 e2=>hf o1 e1 (by rw[bf];have:s1.nx<=s2.nx:=nx2.1;omega)) ?_;intro μ1 w1 a1 r1 t1 b6 bo;have C:=t1.sub _ _ hm;have al:=r1.obj l _ ba (by rw[C];simp);simp only[OR]at al;obtain⟨p1,q1,bn,a5,g1,g2,g3,g4⟩:=al;rw[C]at g1;cases g1;obtain⟨b1,b2⟩:=fy (x:=.loop .busy bj bB n1 T1 bm Z U bx) (O:=.loop { state:=.busy,pending:=bj,fn:=a5,tmps:=bn,params:=bm.toArray,assign:=Z,body:=U,defers:=q1.blk }) r1 ba C g4 (by simp) (fun w' hw=>by simp only[OR];exact⟨p,q1,bn,a5,C,g2,g3,hw⟩);refine⟨_,run_beginRound g4 rfl,?_⟩;refine av (ro:=some p.blk) (n-1) b1 b6 bo (by have e:=(S.code a6).2.1;rw[e];exact⟨p,C,rfl⟩) (fun o1 e1 e2=>?_) ?_
      ·have hn:=t1.nx;cases hmu:μ1 o1 with
       |none=>rfl
       |some lc=>
        exfalso;by_cases ad:μ o1=none
        ·have:=t1.dom o1 ad (by rw[hmu];simp);have:s1.nx<=o1:=e1;omega
        exact ad (hf o1 (by have:s1.nx<=o1:=e1;omega) (by rw[bf];exact e2))
      intro μ2 w2 a2 r2 t2 cd b7;have A:=t2.sub _ _ C;have am:=r2.obj l _ Y (by rw[A];simp);simp only[OR]at am;obtain⟨p2,q2,N,B,k1,k2,k3,k4⟩:=am;rw[A]at k1;cases k1;have tot:=(t1.trans b2).trans t2;cases ex with
      |normal=>cases y;obtain⟨c1,c2⟩:=fy (x:=.loop .ready none a3 n2 T2 J u j a0) (O:=.loop { state:=.ready,pending:=none,fn:=B,tmps:=N,params:=J.toArray,assign:=u,body:=j,defers:=q2.blk }) r2 Y A k4 (by simp) (fun w' hw=>by simp only[OR];exact⟨p,q2,N,B,A,k2,k3,hw⟩);exact⟨_,_,run_endRound none k4,hK _ _ _ c1 (tot.trans c2) (by simp[VR])⟩
      |ret=>cases y;obtain⟨c1,c2⟩:=fy (x:=.loop .done (some .ret) a3 n2 T2 J u j a0) (O:=.loop { state:=.done,pending:=some .ret,fn:=B,tmps:=N,params:=J.toArray,assign:=u,body:=j,defers:=q2.blk }) r2 Y A k4 (by simp) (fun w' hw=>by simp only[OR];exact⟨p,q2,N,B,A,k2,k3,hw⟩);exact⟨_,_,run_endRound (some .ret) k4,hK _ _ _ c1 (tot.trans c2) (by simp[VR])⟩
      |exit id=>cases y;obtain⟨c1,c2⟩:=fy (x:=.loop .done (some (.exit id)) a3 n2 T2 J u j a0) (O:=.loop { state:=.done,pending:=some (.exit id),fn:=B,tmps:=N,params:=J.toArray,assign:=u,body:=j,defers:=q2.blk }) r2 Y A k4 (by simp) (fun w' hw=>by simp only[OR];exact⟨p,q2,N,B,A,k2,k3,hw⟩);exact⟨_,_,run_endRound (some (.exit id)) k4,hK _ _ _ c1 (tot.trans c2) (by simp[VR])⟩
     cases y
    cases y
   cases y
  cases y
 cases y
end
end
end Go.Proofs.YtfoceannfdbinaaGreat
