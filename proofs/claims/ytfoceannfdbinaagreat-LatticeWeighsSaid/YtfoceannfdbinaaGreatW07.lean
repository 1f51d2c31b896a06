/- Lemmas. -/
import Derived.Shelf.Small.Bits
import Derived.Shelf.Small.Wraps
import Derived.Test.YtfoceannfdbinaaGreatW05
import Derived.Deep.LoopGhost
set_option linter.all false
set_option maxRecDepth 1000000
set_option maxHeartbeats 32000000
namespace Go.Proofs.YtfoceannfdbinaaGreat
open Go.RowKit
theorem rZ{l:List Nat}{k x}(h:l[k]?=some x):val (l.drop k)=x+4294967296*val (l.drop (k+1)):=by obtain⟨j,rfl⟩:=dO.1 h;rw[AT j];rfl

theorem RE{l i}(hl:Ok l)(h:val l<4294967296^(i+2)):l.getD (i+1) 0*4294967296+l.getD i 0=val l/4294967296^i:=by
 have e:val l=val (l.take i)+4294967296^i*(l.getD i 0+4294967296*l.getD (i+1) 0+4294967296*4294967296*val (l.drop (i+2))):=by
  rcases By l.length (i+2)with hlt|hge
  ·have A:=bg l i;have u:=bg l (i+1);rw[bk (k:=i+1+1) (by omega)]at u;rw[AS (by omega),u,A,Lt];simp only[val]
   grind
  have j:=jd l i (by omega);have x:l[i]?=some (l.getD i 0):=by rw[eM,bY (by omega)];rfl
  have y:l[i+1]?=some (l.getD (i+1) 0):=by rw[eM,bY (by omega)];rfl
  rw[rZ x,rZ y]at j;rw[j]
  grind
 have C:val (l.drop (i+2))=0:=by
  rcases lE (val (l.drop (i+2)))with j|j
  ·exact j
  exfalso;rw[show i+2=i+1+1 by omega,Lt,Lt]at h;have B:4294967296^i*(4294967296*4294967296*1)<=4294967296^i*(l.getD i 0+4294967296*l.getD (i+1) 0+4294967296*4294967296*val (l.drop (i+2))):=Tk _ (by omega);rw[show 4294967296^i*(4294967296*4294967296*1)=4294967296^i*4294967296*4294967296 by grind]at B;omega
 rw[C]at e;have J:=gj _ (hl.take i);have hp:4294967296^(l.take i).length<=4294967296^i:=OK (by omega) (by rw[Io];omega);rw[e,aCg _ _ (aAg (by omega)),aBe (by omega)];omega

def kH(V U R:Nat)(o:List Nat)(k:Nat):Prop:=Ok o/\k<=o.length/\val (o.take k)=0/\V*(4294967296^k*val (o.drop k))+R=U/\R<V*4294967296^k

theorem kH.start{V U m}(h:U<V*4294967296^m):kH V U U (List.replicate m 0) m:= ⟨Ok.replicate _,by simp,by rw[aDH,gy],by rw[AS (by simp)];simp[val],h⟩

theorem kH.zero{V U R k o}(h:kH V U R o (k+1)):o[k]?=some 0/\val (o.take k)=0:=by
 obtain⟨y,A,j,B,C⟩:=h;rw[bg]at j;have hp:0<4294967296^k:=aAg (by omega);have u:4294967296^k*o.getD k 0=0:=by omega
 have x:o.getD k 0=0:=by
  rcases aEj.1 u with h|h
  ·omega
  exact h
 refine⟨?_,by omega⟩;rw[<-x,eM,bY (by omega)];rfl

theorem kH.skip{V U R k o}(h:kH V U R o (k+1))(x:R<V*4294967296^k):kH V U R o k:=by
 obtain⟨y,A⟩:=h.zero;obtain⟨j,B,C,u,J⟩:=h;refine⟨j,by omega,A,?_,x⟩;rw[rZ y,<-u,Lt]
 grind

theorem kH.step{V U R k q o}(h:kH V U R o (k+1))(y:q<4294967296)(B:V*q*4294967296^k<=R)(C:R<(q+1)*(V*4294967296^k)):kH V U (R-V*q*4294967296^k) (o.set k q) k:=by
 obtain⟨Z,A⟩:=h.zero;obtain⟨j,J,N,u,Y⟩:=h;refine⟨j.set _ _ y,by simp;omega,?_,?_,?_⟩
 ·rw[List.take_set_of_le (cC _)];exact A
 ·rw[rZ (x:=q) (by rw[aCx (by omega)]),aCR (by omega)];obtain⟨T,hT⟩:∃T,R=V*q*4294967296^k+T:=⟨R-V*q*4294967296^k,by omega⟩;rw[hT,aAY,<-u,hT,Lt]
  grind
 have:(q+1)*(V*4294967296^k)=V*q*4294967296^k+V*4294967296^k:=by grind
 omega

theorem kH.done{V U R o}(h:kH V U R o 0):val o=U/V/\R=U%V:=by
 obtain⟨_,_,_,u,j⟩:=h;simp only[Nat.pow_zero,aBt,aAZ,aCp]at u j;rw[<-u];constructor
 ·rw[aDA (by omega),aBe j,aAh]
 rw[aDB,aBE j]

theorem Pw{V R j n vt top}(hV:vt*4294967296^n<=V)(u:0<vt)(B:R<V*4294967296^(j+1))(C:top=R/4294967296^(j+n)): R<(min (top/vt) 4294967295+1)*(V*4294967296^j):=by
 have x:0<V:=by have:0<vt*4294967296^n:=aBg u (aAg (by omega));omega
 have hp:0<V*4294967296^j:=aBg x (aAg (by omega));have J:=Nat.lt_div_mul_add (a:=R) hp;have N:=Nat.div_mul_le_self R (V*4294967296^j);have U:R/(V*4294967296^j)<4294967296:=by
  rw[aCB hp];rw[Lt]at B;have:4294967296*(V*4294967296^j)=V*(4294967296^j*4294967296):=by grind
  omega
 generalize R/(V*4294967296^j)=q at *;have Y:q<=top/vt:=by
  rw[Nat.le_div_iff_mul_le u,C,Nat.le_div_iff_mul_le (aAg (by omega))];have Z:q*(vt*4294967296^n)*4294967296^j<=q*V*4294967296^j:=Mt _ (Tk _ hV);rw[aBT];have h6:q*vt*(4294967296^j*4294967296^n)=q*(vt*4294967296^n)*4294967296^j:=by grind
  have h7:q*V*4294967296^j=q*(V*4294967296^j):=by grind
  omega
 have y:q+1<=min (top/vt) 4294967295+1:=by omega
 have A:(q+1)*(V*4294967296^j)<=(min (top/vt) 4294967295+1)*(V*4294967296^j):=Mt _ y;rw[aAl,aBt]at A;omega

theorem zL a b s:a*2^s/(b*2^s)=a/b/\a*2^s%(b*2^s)=a%b*2^s:= ⟨Nat.mul_div_mul_right _ _ (aAg (by omega)),Nat.mul_mod_mul_right _ _ _⟩
end Go.Proofs.YtfoceannfdbinaaGreat
namespace Go.Proofs
open Go.Shelf
def Tryz.lays128_ren:Go.Shelf.Ren:=⟨fun|128=>205|n=>n,fun|51=>178|3=>3|4=>4|46=>179|5=>5|9=>9|n=>n,fun|n=>n⟩
theorem Tryz.lays128:Go.Proofs.Lays.n128 Tryz.prog Tryz.lays128_ren:={ mixed:=by kernel_rfl,f128:=Tryz.func205.trans (congrArg some (by kernel_rfl)),t3:=Tryz.underlying3,a3:=Tryz.isAgg3,z3:=Tryz.sizeOf3,v3:=Tryz.zeroValue3,t4:=Tryz.underlying4,a4:=Tryz.isAgg4,z4:=Tryz.sizeOf4,v4:=Tryz.zeroValue4,t5:=Tryz.underlying5,a5:=Tryz.isAgg5,z5:=Tryz.sizeOf5,v5:=Tryz.zeroValue5,t9:=Tryz.underlying9,a9:=Tryz.isAgg9,z9:=Tryz.sizeOf9,v9:=Tryz.zeroValue9,t46:=Tryz.underlying179,a46:=Tryz.isAgg179,z46:=Tryz.sizeOf179,v46:=Tryz.zeroValue179,t51:=Tryz.underlying178,a51:=Tryz.isAgg178,z51:=Tryz.sizeOf178,v51:=Tryz.zeroValue178 }
theorem Tryz.bits_Len32 x w(j:0<=x)(u:x<=4294967295): Calls Tryz.prog 205 #[.int .u32 x] w fun e w'=>e=.returned (.int .i64 (Lib.bitLen x.toNat))/\w'=w:=Any.bits_Len32 Tryz.lays128 x w j u
def Tryz.lays133_ren:Go.Shelf.Ren:=⟨fun|133=>221|128=>205|n=>n,fun|51=>178|3=>3|4=>4|46=>179|5=>5|9=>9|n=>n,fun|n=>n⟩
theorem Tryz.lays133:Go.Proofs.Lays.n133 Tryz.prog Tryz.lays133_ren:={ mixed:=by kernel_rfl,f128:=Tryz.func205.trans (congrArg some (by kernel_rfl)),f133:=Tryz.func221.trans (congrArg some (by kernel_rfl)),t3:=Tryz.underlying3,a3:=Tryz.isAgg3,z3:=Tryz.sizeOf3,v3:=Tryz.zeroValue3,t4:=Tryz.underlying4,a4:=Tryz.isAgg4,z4:=Tryz.sizeOf4,v4:=Tryz.zeroValue4,t5:=Tryz.underlying5,a5:=Tryz.isAgg5,z5:=Tryz.sizeOf5,v5:=Tryz.zeroValue5,t9:=Tryz.underlying9,a9:=Tryz.isAgg9,z9:=Tryz.sizeOf9,v9:=Tryz.zeroValue9,t46:=Tryz.underlying179,a46:=Tryz.isAgg179,z46:=Tryz.sizeOf179,v46:=Tryz.zeroValue179,t51:=Tryz.underlying178,a51:=Tryz.isAgg178,z51:=Tryz.sizeOf178,v51:=Tryz.zeroValue178 }
theorem Tryz.bits_LeadingZeros32 x w(j:0<=x)(u:x<=4294967295): Calls Tryz.prog 221 #[.int .u32 x] w fun e w'=>e=.returned (.int .i64 (32-(Lib.bitLen x.toNat:Int)))/\w'=w:=Any.bits_LeadingZeros32 Tryz.lays133 x w j u
def Tryz.lays215_ren:Go.Shelf.Ren:=⟨fun|215=>192|n=>n,fun|3=>3|4=>4|n=>n,fun|n=>n⟩
theorem Tryz.lays215:Go.Proofs.Lays.n215 Tryz.prog Tryz.lays215_ren:={ mixed:=by kernel_rfl,f215:=Tryz.func192.trans (congrArg some (by kernel_rfl)),t3:=Tryz.underlying3,a3:=Tryz.isAgg3,z3:=Tryz.sizeOf3,v3:=Tryz.zeroValue3,t4:=Tryz.underlying4,a4:=Tryz.isAgg4,z4:=Tryz.sizeOf4,v4:=Tryz.zeroValue4 }
open Go.RowKit in
theorem Tryz.cmp_isNaN_int x w: Calls Tryz.prog 192 #[.int .i64 x] w fun e w'=>e=.returned (.bool false)/\w'=w:=Any.cmp_isNaN_int Tryz.lays215 x w
def Tryz.lays122_ren:Go.Shelf.Ren:=⟨fun|122=>159|215=>192|n=>n,fun|3=>3|4=>4|n=>n,fun|n=>n⟩
theorem Tryz.lays122:Go.Proofs.Lays.n122 Tryz.prog Tryz.lays122_ren:={ mixed:=by kernel_rfl,f122:=Tryz.func159.trans (congrArg some (by kernel_rfl)),f215:=Tryz.func192.trans (congrArg some (by kernel_rfl)),t3:=Tryz.underlying3,a3:=Tryz.isAgg3,z3:=Tryz.sizeOf3,v3:=Tryz.zeroValue3,t4:=Tryz.underlying4,a4:=Tryz.isAgg4,z4:=Tryz.sizeOf4,v4:=Tryz.zeroValue4 }
open Go.RowKit in
theorem Tryz.cmp_Compare_int x y w: Calls Tryz.prog 159 #[.int .i64 x,.int .i64 y] w fun e w'=>e=.returned (.int .i64 (Lib.compareInt x y))/\w'=w:=Any.cmp_Compare_int Tryz.lays122 x y w
end Go.Proofs
namespace Go.Proofs.YtfoceannfdbinaaGreat
open Go.RowKit
theorem BV f x:Lib.bitLenAux f x<=f:=by
 induction f generalizing x with
 |zero=>simp[Lib.bitLenAux]
 |succ f ih=>
  simp only[Lib.bitLenAux];split
  ·omega
  have:=ih (x/2);omega
theorem BU{x}(h:0<x)(j:x<4294967296):1<=Lib.bitLen x/\Lib.bitLen x<=32:=by
 constructor
 ·unfold Lib.bitLen;simp only[Lib.bitLenAux];rw[iF (by omega)];omega
 have e:Lib.bitLen x=Lib.bitLenAux 32 x:=Lib.bitLenAux_fuel 32 x (by omega) 64 (by omega);rw[e];exact BV _ _

theorem Td(d:Nat)(h:0<d)(j:d<4294967296):∃s:Nat,s<=31/\∀w,Calls Tryz.prog 221 #[.int .u32 (d:Int)] w fun e w'=>e=.returned (.int .i64 (s:Int))/\w'=w:=by have u:=BU h j;refine⟨32-Lib.bitLen d,by omega,fun w=>?_⟩;have:=Tryz.bits_LeadingZeros32 (d:Int) w (by omega) (by omega);rw[iO,show(32:Int)-(Lib.bitLen d:Int)=((32-Lib.bitLen d:Nat):Int)by omega]at this;exact this

theorem PW w va a k p B cb m(ha:ae w va a)(hb:cQ w (.slice B m.length cb) m)(tm:dQ m)(hp:m.length=p)(h9:2<=p)(la:a<2^k)(hk:k<=17592186044416)(h:val m<=a): Calls Tryz.prog 212 #[va,.slice B p cb] w fun e w'=>∃q r,e=.returned (.tuple #[q,r])/\ae w' q (a/val m)/\ae w' r (a%val m)/\Below w.heap.size w w'/\bP q w.heap.size:=by
 have db:ae w (.slice B p cb) (val m):=⟨m,hp▸hb,tm,rfl⟩;have c:=lj w va _ a (val m) ha db;have hc:=BO h;generalize i9 a (val m)=cc at *;have C:=aS c;clear c;obtain⟨_,B',ih,hA,hR,i1,hB⟩:=hb.open_;cases hA;rcases hB with hB|⟨b,off,rfl,fa,a4⟩
 ·subst hB;simp at hp;omega
 rw[hp]at hR;obtain⟨d,hd⟩:∃d,m[p-1]?=some d:=⟨_,bY (by omega)⟩;have fl:0<d:=by
  rcases lE d with h0|h0
  ·subst h0;exfalso;apply tm;rw[aCP,hp];exact hd
  exact h0
 have fm:d<4294967296:=hb.2.get hd;have hO:=a4 (p-1) d hd;obtain⟨s,hs,lead⟩:=Td d fl fm;have bB:=aS lead;have h4:((p:Int) == 1)=false:=by simp;omega
 have HA:=aS ha;have HB:=aS db;have e9:val m<2^k:=If h la;have cp:=aS la;have cx:=aS e9;have et:=aS h;have eo:=aS hd;clear hb db a4 hd lead ha la e9 h hp;go_enter Tryz.func212,Tryz.ntmps212;go_wp2_with fail;go_step3;go_wp2_with (go_at_call 182;refine C.out.mono ?_;rintro e w' ⟨rfl,nd,rfl⟩);go_wp2_with (go_at_call 221;refine(bB.out _).mono ?_;rintro e w' ⟨rfl,rfl⟩);have ua:a*2^s<2^(k+31):=by rw[aBT];exact aCK cp.out (OK (by omega) hs) (aAg (by omega))
 have ub:val m*2^s<2^(k+31):=by rw[aBT];exact aCK cx.out (OK (by omega) hs) (aAg (by omega))
 have bd:val m*2^s<=a*2^s:=Mt _ et.out
 have cy:0<val m*2^s:=aBg (by
  rcases lE (val m)with h|h
  ·have:=tm.val_zero h;subst this;have:=eo.out;simp at this
  ·exact h) (aAg (by omega))
 obtain⟨U,hU⟩:∃U,a*2^s=U:=⟨_,rfl⟩;obtain⟨V,hV⟩:∃V,val m*2^s=V:=⟨_,rfl⟩;rw[hU]at ua bd;rw[hV]at ub bd cy;have UA:=aS ua;have UB:=aS ub;have e0:=aS bd;have e5:=aS cy;have HU:=aS hU;have HV:=aS hV;clear ua ub bd cy hU hV;refine(U5 _ va a k s (HA.out.drewN nd) cp.out (by omega) hs).mono ?_;rintro e w1 ⟨vu,rfl,dm,a0⟩;rw[HU.out]at dm;have eV:=aS dm;have ba:=aS (bh a0);clear dm a0;go_wp2_with fail;refine(U5 _ _ (val m) k s (HB.out.below ba.out) cx.out (by omega) hs).mono ?_;rintro e Y ⟨vv,rfl,g6,a0⟩;rw[HV.out]at g6;obtain⟨lu,du,tu,a5⟩:=eV.out.below a0;obtain⟨lv,dv,tv,N⟩:=g6;have b6:=iZ (m:=lv) du.2 tv (by rw[a5,N];exact e0.out);have ia:=tu.length_le (k:=k+31) (by rw[a5];exact UA.out);have DU:=aS du;have NU:=aS (show ae Y vu U from⟨lu,du,tu,a5⟩);have NV:=aS (show ae Y vv V from⟨lv,dv,tv,N⟩);obtain⟨hj,AU,cu,rfl,hX,i2,hN⟩:=du.open_;obtain⟨ea,AV,cv,rfl,h3,jj,c4⟩:=dv.open_;obtain⟨nu,an⟩:∃nu,lu.length=nu:=⟨_,rfl⟩;obtain⟨n,a6⟩:∃n,lv.length=n:=⟨_,rfl⟩;have av:lv≠[]:=fun e=>by subst e;have:=e5.out;rw[<-N]at this;simp[val]at this
 have hS:0<lv.length:=aCn.2 av;rcases c4 with c4|⟨b2,hh,rfl,c5,ad⟩
 ·exact absurd c4 av
 obtain⟨vt,a7⟩:∃vt,lv[n-1]?=some vt:=⟨_,bY (by omega)⟩;have b7:0<vt:=by
  rcases lE vt with h0|h0
  ·subst h0;exfalso;apply tv;rw[aCP,a6];exact a7
  exact h0
 have g7:vt<4294967296:=ea.get a7;have fb:=ad (n-1) vt a7;have b3:vt*4294967296^(n-1)<=V:=by rw[<-N];have e:=bg lv (n-1);rw[bk (by omega),eM,a7]at e;rw[e,aBm];exact Nat.le_add_left _ _
 rw[an]at b6 ia hX DU NU⊢;rw[a6]at b6 h3 hS NV⊢;have bo:Hid (U<V*4294967296^(nu-n+1)):=aS (by have e1:=gj lu hj;rw[a5,an]at e1;have e2:=tv.ge av;rw[N,a6]at e2;have e3:4294967296^(n-1)*4294967296^(nu-n+1)<=V*4294967296^(nu-n+1):=Mt _ e2;rw[<-aBT,show n-1+(nu-n+1)=nu by omega]at e3;omega);have bx:Hid (V<4294967296^n):=aS (by rw[<-N,<-a6];exact gj lv ea);have e4:=aS b3;have ca:=aS (ba.out.trans (a0.mono ba.out.size));have hC:=aS an;clear a0 du dv tu tv a5 N hj ea hN b3 a7 ad an a6 av;obtain⟨i0,hi,he,hf,hg⟩:=aBn fi;obtain⟨M,it,ix⟩:∃M:Nat,nu+1<=M+n/\M+n<=nu+1:=⟨nu+1-n,by omega,by omega⟩;go_wp2_with (at_make;refine bH rfl _ _ 29 rfl 178 i0 (.int .u32 0) 4 Tryz.underlying29 hi he hf hg rfl .i64 .i64 _ _ M rfl rfl (by omega) (by omega) (by omega) (by unfold maxLen;omega) ?_);intro w3 b4 c6;have cl:Calls Tryz.prog 181 #[.slice AU nu cu] w3 fun e w'=>∃v',e=.returned v'/\ae w' v' U/\Below w3.heap.size w3 w'/\bP v' w3.heap.size:=by obtain⟨l',d',t',rfl⟩:=NU.out.below c6;have:=jk w3 _ l'.length (l'.map dg) d'.1 (qC l') (by have:=t'.length_le UA.out;omega);refine this.mono ?_;rintro e w' ⟨v',rfl,h1,h2,base,c9,gx⟩;exact⟨v',rfl,⟨l',⟨h1,d'.2⟩,t',rfl⟩,h2,(bP.of_own gx).mono c9⟩
 have CL:=aS cl;have cf:=aS (DB.of_blk (e:=178) (o:=List.replicate M 0) (g:=Y.heap.size) (w:=w3) (by simpa [dg]using b4));have cd:=aS c6;have en:=aS fb;clear cl b4 c6 fb;go_wp2_with (go_at_call 181;refine CL.out.mono ?_;rintro e w4 ⟨j4,rfl,g3,c7,fv⟩);have ey:=aS g3;have ht:=aS (fv.mono (B':=Y.heap.size+1) (by have:=cf.out.lt;omega));have eh:=aS (cd.out.trans (c7.mono cd.out.size));have bn:=aS (cf.out.below c7);have eO:Hid (kH V U U (List.replicate M 0) M):=aS (kH.start (by rw[show M=nu-n+1 by omega];exact bo.out));clear g3 c7 fv;go_wp2_with fail;go_step3;go_wp2_with fail;go_loopg [13,14] M (fun g vr j wr=>∃(q:Int)(R:Nat)(o:List Nat),j=.int .i64 q/\q+1=g/\g<=M/\(ae wr vr R/\bP vr (Y.heap.size+1))/\kH V U R o g/\o.length=M/\DB wr Y.heap.size o/\Below Y.heap.size Y wr)
 case atStart=>exact⟨_,U,List.replicate M 0,rfl,by omega,cC _,⟨ey.out,ht.out⟩,eO.out,by simp,bn.out,eh.out⟩
 obtain⟨q,R,o,rfl,hq,j2,⟨hr,gd⟩,b5,gr,fs,y⟩:=hrel;have hx:=aS gd;clear gd;have HR:=aS hr;have u:=aS b5;have a3:=aS gr;have ch:=aS fs;have a2:=aS y;have bm:=y.size;clear hr b5 gr fs;rcases lE gk with h0|h0
 ·subst h0;obtain rfl:q = -1:=by omega
  clear hq y;have dn:=u.out.done;have DD:=aS (ch.out.digAt u.out.1 a3.out (cC _) (by omega));have DN:=aS dn;have RK:Hid (R<2^(k+31)):=aS (If (by rw[dn.2];exact Nat.mod_le _ _) UA.out);clear dn;go_wp2_with fail;refine(nN wr _ o DD.out (by rw[a3.out];omega)).mono ?_;rintro e w5 ⟨vq,rfl,g1,A,fz⟩;have hE:=aS g1;have hv:=aS (fz.mono (EM ca.out.size bm));have hH:=aS (HR.out.below A);have ei:=aS (a2.out.trans (A.mono bm));clear g1 A fz;go_wp2_with fail;refine(down w5 _ R (k+31) s hH.out RK.out (by omega) hs).mono ?_;rintro e w6 ⟨vd,rfl,fp,J⟩;have hF:=aS (hE.out.below J);have hl:=aS (ei.out.trans (J.mono ei.out.size));have ho:=aS fp;clear fp J;go_wp2_with fail;try rw[aEi]
  go_ret2;have e1:=DN.out;rw[<-HU.out,<-HV.out,(zL a (val m) s).1,(zL a (val m) s).2]at e1;have e2:R/2^s=a%val m:=by rw[e1.2];exact aCZ _ (aAg (by omega))
  rw[<-e1.1,<-e2];exact⟨_,_,rfl,hF.out,ho.out,ca.out.trans (hl.out.mono ca.out.size),hv.out⟩
 obtain⟨j,rfl⟩:∃j,gk=j+1:=⟨gk-1,by omega⟩;obtain rfl:q=j:=by omega
 clear hq h0;obtain⟨lr,dr,tr,dl⟩:=HR.out;obtain⟨d1,am⟩:∃x,lr.getD (j+n) 0=x:=⟨_,rfl⟩;obtain⟨d0,al⟩:∃x,lr.getD (j+n-1) 0=x:=⟨_,rfl⟩;have b1:d1<4294967296:=by rw[<-am];exact dr.2.getD _
 have b0:d0<4294967296:=by rw[<-al];exact dr.2.getD _
 have c1:∀W,W=wr->Calls Tryz.prog 223 #[u13,.int .i64 ((j:Int)+(n:Int))] W fun e w'=>e=.returned (.int .u64 (d1:Int))/\W=w':=by intro W hW;rw[hW];have:=PY wr u13 lr ((j:Int)+(n:Int)) dr (by omega) (by omega);rw[iF (by omega),show((j:Int)+(n:Int)).toNat=j+n by omega,am]at this;exact this.mono fun _ _ ⟨h1,h2⟩=>⟨h1,h2.symm⟩
 have c0:∀W,W=wr->Calls Tryz.prog 223 #[u13,.int .i64 ((j:Int)+(n:Int)-1)] W fun e w'=>e=.returned (.int .u64 (d0:Int))/\W=w':=by intro W hW;rw[hW];have:=PY wr u13 lr ((j:Int)+(n:Int)-1) dr (by omega) (by omega);rw[iF (by omega),show((j:Int)+(n:Int)-1).toNat=j+n-1 by omega,al]at this;exact this.mono fun _ _ ⟨h1,h2⟩=>⟨h1,h2.symm⟩
 obtain⟨T,hT⟩:∃T,T=d1*4294967296+d0:=⟨_,rfl⟩;have hM:T<18446744073709551616:=by omega
 have e7:T=R/4294967296^(j+(n-1)):=by rw[hT,<-am,<-al,<-dl,show j+n=(j+(n-1))+1 by omega,show j+(n-1)+1-1=j+(n-1)by omega];refine RE dr.2 ?_;rw[dl];have h1:=u.out.2.2.2.2;have h2:V*4294967296^(j+1)<4294967296^n*4294967296^(j+1):=Nat.mul_lt_mul_of_pos_right bx.out (aAg (by omega));rw[<-aBT,show n+(j+1)=j+(n-1)+2 by omega]at h2;omega
 have hG:=Pw (V:=V) (R:=R) (j:=j) (n:=n-1) (vt:=vt) (top:=T) e4.out b7 u.out.2.2.2.2 e7;have gv:=Wd d1 d0 b1 b0;rw[<-hT]at gv;obtain⟨Q,hQ⟩:∃Q,T/vt=Q:=⟨_,rfl⟩;have hL:Q<=T:=by rw[<-hQ];exact aCe _ _
 have hP:(T:Int)/(vt:Int)=(Q:Int):=by rw[<-hQ,aBV]
 rw[hQ]at hG;have HG:=aS hG;have C1:=aS c1;have C0:=aS c0;have ff:=(y.cell (p:=⟨b2,hh+(n-1),none⟩) c5).trans en.out;have hJ:=aS (NV.out.below y);clear hG c1 c0 hT e7 dl tr dr am al y hQ;go_wp2_with fail;refine(C1.out _ rfl).mono ?_;rintro e w' ⟨rfl,rfl⟩;go_wp2_with fail;refine(C0.out _ rfl).mono ?_;rintro e w' ⟨rfl,rfl⟩;go_wp2_with fail;have RK:Hid (R<2^(k+31)):=aS (by have h1:=u.out.2.2.2.1;have h2:=UA.out;omega);have RJ:=aS (show j<=4398046511104 by omega);clear gv hP ff hM hL b1 b0;obtain⟨wo,rfl⟩:∃wo:World,wo=wr:=⟨_,rfl⟩;go_loopg [13,16] (min Q 4294967295) (fun g2 vr gs wx=>gs=.int .u64 (g2:Int)/\g2<=4294967295/\(ae wx vr R/\bP vr (Y.heap.size+1))/\R<(g2+1)*(V*4294967296^j)/\Below wo.heap.size wo wx)
 case atStart=>exact⟨gn (by omega),by omega,⟨HR.out,hx.out⟩,HG.out,Below.refl _ _⟩
 obtain⟨rfl,j1,⟨g4,gh⟩,e6,a1⟩:=hrel;have er:=aS gh;clear gh;have ez:=aS e6;have hn:=aS a1;have eL:=aS g4;have cm:=aS (ch.out.below a1);have hK:=aS (hJ.out.below a1);have g5:=a1.size;have hm:=aS (a2.out.trans (a1.mono bm));clear C1 C0 CL cf cd en ey eh bn eO C HA HB cp cx et eo bB hO fl fm h4 h9 fa ba NU DU bo bx e4 hC e0 e5 HU HV eV hc hi he hf hg b7 g7 tm;clear e6 a1 g4;rcases lE gk with h0|h0
 ·subst h0;have dv:=u.out.skip (by have:=ez.out;rw[SK,aBt]at this;exact this);have DV:=aS dv;clear dv;go_wp2_with fail;go_roundg j
  case measure=>omega
  case rel=>exact⟨(j:Int)-1,R,o,rfl,by omega,by omega,⟨eL.out,er.out⟩,DV.out,a3.out,cm.out,hm.out⟩
 have j3:((gk:Int) != 0)=true:=by simp;omega
 go_wp2_with fail;refine(CP wr gk (by omega)).mono ?_;rintro e w5 ⟨v5,rfl,h5,A⟩;have H5:=aS h5;have hI:=aS (hK.out.below A);have ed:=aS (hn.out.trans (A.mono g5));have eb:=aS A;clear h5 A;go_wp2_with fail;have gb:gk<2^32:=by omega
 refine(mul w5 _ _ V gk (k+31) 32 hI.out H5.out UB.out gb (by omega) (by omega)).mono ?_;rintro e w6 ⟨v6,rfl,h6,J⟩;have H6:=aS h6;have ee:=aS (ed.out.trans (J.mono ed.out.size));have PB:Hid (V*gk<2^(k+31+32)):=aS (by rw[aBT];exact aCK UB.out (aDh gb) (aAg (by omega)));have ec:=aS (eb.out.trans (J.mono eb.out.size));clear h6 J gb;go_wp2_with fail;refine(RV w6 _ (V*gk) (k+31+32) j H6.out PB.out (by omega) RJ.out).mono ?_;rintro e w7 ⟨v7,rfl,h7,c8⟩;have H7:=aS h7;have b9:=aS (ee.out.trans (c8.mono ee.out.size));clear h7;have b8:Hid (Below wr.heap.size wr w7):=aS (ec.out.trans (c8.mono ec.out.size));have R7:=aS (eL.out.below b8.out);clear c8;have c:=lj w7 v7 _ _ R H7.out R7.out;have RB:Hid (R<2^(k+31)):=RK;by_cases bj:V*gk*4294967296^j<=R
 ·have bf:i9 (V*gk*4294967296^j) R<=0:=by unfold i9;split<;>(try split)<;>omega
  generalize i9 (V*gk*4294967296^j) R=c2 at *;have ib:decide (0<c2)=false:=by rw[aAs];omega
  clear bf;have C2:=aS c;have Z:=aS bj;clear c bj;go_wp2_with fail;refine C2.out.mono ?_;rintro e w' ⟨rfl,a9,rfl⟩;go_wp2_with fail;refine(XV _ _ _ R _ (k+31) (R7.out.drewN a9) (H7.out.drewN a9) RB.out Z.out (by omega)).mono ?_;rintro e w8 ⟨v8,rfl,h8,e8,dd⟩;have ef:=aS (b9.out.trans ((bh e8).mono b9.out.size));have D8:=aS (ch.out.below ef.out);have H8:=aS (h8.setFar (p:=⟨Y.heap.size,j,none⟩) (dd.mono (B':=Y.heap.size+1) (by have:=cm.out.lt;have:=b8.out.size;show Y.heap.size+1<=w7.heap.size;omega)) (aAV _) (.int .u32 (gk:Int)));have hw:=aS (dd.mono (B':=Y.heap.size+1) (by have:=cm.out.lt;have:=b8.out.size;show Y.heap.size+1<=w7.heap.size;omega));have ej:=aS (a2.out.trans (ef.out.mono bm));clear h8 e8 dd;have dv:=u.out.step (q:=gk) (by omega) Z.out ez.out;have DV:=aS dv;have dh:j<o.length:=by rw[a3.out];omega
  have hy:=aS dh;have hz:=D8.out.cell dh;have j0:=D8.out.frozen j;clear dv dh;go_wp2_with fail;go_roundg j
  case measure=>omega
  case rel=>exact⟨(j:Int)-1,_,o.set j gk,rfl,by omega,by omega,⟨H8.out,hw.out⟩,DV.out,by rw[aCV];exact a3.out,D8.out.set hy.out rfl,ej.out.setCell (p:=⟨Y.heap.size,j,none⟩) (cC _) _⟩
 have bf:i9 (V*gk*4294967296^j) R=1:=lk (by omega);rw[bf]at c;have C2:=aS c;have Z:=aS bj;clear c bj bf;go_wp2_with fail;refine C2.out.mono ?_;rintro e w' ⟨rfl,a9,rfl⟩;obtain⟨g,rfl⟩:∃g,gk=g+1:=⟨gk-1,by omega⟩
 have RG:Hid (R<(g+1)*(V*4294967296^j)):=aS (by
  have h1:=Z.out;have h2:(g+1)*(V*4294967296^j)=V*(g+1)*4294967296^j:=by grind
  omega)
 go_wp2_with fail;go_roundg g
 case measure=>omega
 case rel=>exact⟨rfl,by omega,⟨R7.out.drewN a9,er.out⟩,RG.out,a8 b9.out a9⟩
theorem div w j B a b k(ha:ae w j a)(C:ae w B b)(y:a<2^k)(J:k<=17592186044416)(u:0<b): Calls Tryz.prog 212 #[j,B] w fun e w'=>∃q r,e=.returned (.tuple #[q,r])/\ae w' q (a/b)/\ae w' r (a%b)/\Below w.heap.size w w'/\bP q w.heap.size:=by
 rcases By a b with h|h
 ·exact WG w j B a b k ha C y (by omega) h
 obtain⟨m,dm,N,rfl⟩:=C;obtain⟨_,A,c,rfl,_,_,_⟩:=dm.open_;rcases By m.length 2 with x|x
 ·match m,x with
  | [],_=>simp[val]at u
  | [d],_=>simp only[val,Nat.mul_zero,aAh]at h u⊢;exact div_one w j a d k A c ha dm y (by omega) u h
 exact PW w j a k m.length A c m ha dm N rfl x y J h

theorem gcd w C J a b k(ha:ae w C a)(hb:ae w J b)(la:a<2^k)(lb:b<2^k)(hk:k<=17592186044416): Calls Tryz.prog 211 #[C,J] w fun e w'=>∃v',e=.returned v'/\ae w' v' (Nat.gcd a b)/\Below w.heap.size w w':=by
 have HA:=aS ha;have HB:=aS hb;have LA:=aS la;have LB:=aS lb;clear ha hb la lb;go_enter Tryz.func211,Tryz.ntmps211;go_wp2_with fail;go_loopg [0,1] b (fun g C J wr=>∃x,ae wr C x/\ae wr J g/\Nat.gcd x g=Nat.gcd a b/\x<2^k/\g<2^k/\Below w.heap.size w wr)
 case atStart=>exact⟨a,HA.out,HB.out,rfl,LA.out,LB.out,Below.refl _ _⟩
 obtain⟨x,hx,hy,B,lx,ly,u⟩:=hrel;obtain⟨m,dm,Z,hm⟩:=hy;obtain⟨_,A,c,rfl,al,ad,_⟩:=dm.open_;have HY:=aS (show ae wr (.slice A m.length c) gk from⟨m,dm,Z,hm⟩);have Y:=Z.eq_nil;rw[hm]at Y;have H0:=aS Y;have HX:=aS hx;have HG:=aS B;have LX:=aS lx;have LY:=aS ly;have j:=aS u;clear hx dm Z hm B lx ly u Y;rcases lE gk with h|h
 ·subst h;have hm:m=[]:=H0.out.1 rfl;subst hm;go_wp2_with fail;go_ret;have B:=HG.out;rw[aDN]at B;rw[<-B];exact⟨_,rfl,HX.out,j.out⟩
 have am:0<m.length:=aCn.2 fun e=>by have:=H0.out.2 e;omega
 go_wp2_with (go_at_call 212;refine(div wr _ _ x gk k HX.out HY.out LX.out hk h).mono ?_;rintro e w1 ⟨q,r,rfl,hq,hr,y,_⟩);have HR:=aS hr;have U:=aS (HY.out.below y);have N:=aS (j.out.trans (y.mono j.out.size));clear hq hr y;go_wp2_with fail;have hlt:=aBv x h;go_roundg (x%gk)
 case measure=>exact hlt
 case rel=>exact⟨gk,U.out,HR.out,by rw[<-HG.out,aDi x gk,Nat.gcd_rec gk x,aDi],LY.out,TK hlt (aDh LY.out),N.out⟩
def dD(neg:Bool)(n:Nat):Int:=if neg then -(n:Int)else(n:Int)

theorem mA neg n:(dD neg n).natAbs=n:=by unfold dD;split<;>simp

theorem RY neg n g(h:g∣n):dD neg n/(g:Int)=dD neg (n/g):=by
 unfold dD;split
 ·rw[Int.neg_ediv_of_dvd (Int.natCast_dvd_natCast.2 h),aBV]
 rw[aBV]

theorem red neg n d(hd:0<d):(mkRat (dD neg n) d).num=dD neg (n/Nat.gcd n d)/\(mkRat (dD neg n) d).den=d/Nat.gcd n d:=by rw[Rat.num_mkRat,Rat.den_mkRat,iF (by omega),iF (by omega),mA,aDi d n];exact⟨RY _ _ _ (aDl n d),rfl⟩

def ay(q:Rat):Bool:=decide (q.num<0)

theorem sZ{q neg m}(h:q.num=dD neg m):ay q=(neg&&decide (0<m)):=by unfold ay;rw[h];unfold dD;cases neg<;>simp<;>omega

theorem jH q:q.num=dD (ay q) q.num.natAbs:=by
 unfold dD ay;by_cases h:q.num<0
 ·simp[h];omega
 simp[h];omega

theorem zo q:ay q=true↔q<0:=by unfold ay;rw[aDO,Rat.lt_iff];simp

def QB(k:Nat)(q:Rat):Prop:=q.num.natAbs<2^k/\q.den<2^k

theorem QB.mono{k u q}(h:QB k q)(j:k<=u):QB u q:= ⟨TK h.1 (OK (by omega) j),TK h.2 (OK (by omega) j)⟩
theorem QB.neg{k q}(h:QB k q):QB k (-q):=by refine⟨?_,h.2⟩;rw[Rat.neg_num,Int.natAbs_neg];exact h.1
theorem QB.red{k n d neg}(hn:n<2^k)(hd:d<2^k)(j:0<d):QB k (mkRat (dD neg n) d):=by
 obtain⟨u,x⟩:=Go.Proofs.YtfoceannfdbinaaGreat.red neg n d j;refine⟨?_,?_⟩
 ·rw[u,mA];exact If (aCe _ _) hn
 rw[x];exact If (aCe _ _) hd
theorem bv{a b j k}(ha:a<2^j)(u:b<2^k):a*b<2^(j+k):=by rw[aBT];exact Nat.mul_lt_mul'' ha u

theorem Cf a b:a+b=mkRat (a.num*b.den+b.num*a.den) (a.den*b.den):=Rat.add_def' a b
theorem Jj a b:a*b=mkRat (dD (ay a != ay b) (a.num.natAbs*b.num.natAbs)) (a.den*b.den):=by
 rw[Rat.mul_def'];congr 1
 conv=>lhs;rw[jH a,jH b]
 unfold dD;cases ay a<;>cases ay b<;>simp[aAq,aCL,Int.mul_neg]
theorem E6 a b(h:ay a=ay b):a+b=mkRat (dD (ay a) (a.num.natAbs*b.den+b.num.natAbs*a.den)) (a.den*b.den):=by
 rw[Cf];congr 1
 conv=>lhs;rw[jH a,jH b,<-h]
 unfold dD;cases ay a<;>simp[aAq,aCz,aCL]<;>omega
theorem E8 a b(h:ay a≠ay b)(hlt:a.num.natAbs*b.den<b.num.natAbs*a.den):a+b=mkRat (dD (ay b) (b.num.natAbs*a.den-a.num.natAbs*b.den)) (a.den*b.den):=by
 rw[Cf];congr 1
 conv=>lhs;rw[jH a,jH b]
 unfold dD;cases ha:ay a<;>cases hb:ay b<;>simp_all [aCL]<;>rw[aDC (by omega)]<;>simp[aAq]<;>omega
theorem E7 a b(h:ay a≠ay b)(hlt:b.num.natAbs*a.den<=a.num.natAbs*b.den):a+b=mkRat (dD (ay a) (a.num.natAbs*b.den-b.num.natAbs*a.den)) (a.den*b.den):=by
 rw[Cf];congr 1
 conv=>lhs;rw[jH a,jH b]
 unfold dD;cases ha:ay a<;>cases hb:ay b<;>simp_all [aCL]<;>rw[aDC (by omega)]<;>simp[aAq]<;>omega

theorem QB.mul{j k a b}(ha:QB j a)(u:QB k b):QB (j+k) (a*b):=by rw[Jj];exact QB.red (bv ha.1 u.1) (bv ha.2 u.2) (aBg a.den_pos b.den_pos)
theorem QB.add{j k a b}(ha:QB j a)(y:QB k b):QB (j+k+1) (a+b):=by
 have B:=bv ha.1 y.2;have A:=bv y.1 ha.2;rw[aDg k j]at A;have C:=bv ha.2 y.2;have J:2^(j+k+1)=2^(j+k)+2^(j+k):=by rw[Lt];omega
 have x:=aBg a.den_pos b.den_pos;by_cases h:ay a=ay b
 ·rw[E6 a b h];exact QB.red (by omega) (by omega) x
 rcases By (a.num.natAbs*b.den) (b.num.natAbs*a.den)with u|u
 ·rw[E8 a b h u];exact QB.red (by omega) (by omega) x
 rw[E7 a b h u];exact QB.red (by omega) (by omega) x
theorem QB.inv{k a}(ha:QB k a)(j:0<k):QB k a⁻¹:=by
 refine⟨?_,?_⟩
 ·rw[Rat.num_inv,aEm,Int.natAbs_natCast];by_cases h:a.num=0
  ·rw[h];simpa using aAg (by omega)
  rw[aDP h,aBt];exact ha.2
 rw[Rat.den_inv];split
 ·exact aAE (by omega)
 exact ha.1
end Go.Proofs.YtfoceannfdbinaaGreat
namespace Go.Proofs.YtfoceannfdbinaaGreat
open Go.RowKit
def yz(v:Value)(F:Nat):Prop:=∀ad n c,v=.slice (some ad) n c->0<n->ad.block≠F
theorem bP.off{v B F}(h:bP v B)(hf:F<B):yz v F:=fun j n c e _=>by have:=h j n c e;omega
theorem Sl.off{w sz v n F xs}(h:Sl w sz v n xs)(hf:w.heap.size<=F):yz v F:=by obtain⟨_,A,c,rfl,_,_,j⟩:=h;intro u B x e hn;cases e;obtain⟨b,off,e,y,_⟩:=j hn;cases e;simp only;omega
theorem ae.off{w v n F}(h:ae w v n)(hf:w.heap.size<=F):yz v F:=by obtain⟨l,d,_⟩:=h;exact d.1.off hf
theorem Sl.setOff{w sz v n xs}(h:Sl w sz v n xs){p}(hf:yz v p.block)u:Sl (w.setCell p u) sz v n xs:=by obtain⟨B,A,c,y,C,J,N⟩:=h;refine⟨B,A,c,y,C,J,fun hn=>?_⟩;obtain⟨b,off,e,hlt,Y⟩:=N hn;subst e;have U:=hf _ _ _ y hn;refine⟨b,off,rfl,by simpa [World.setCell]using hlt,fun j x Z=>?_⟩;rw[aBB w p _ u (fun e=>U (by rw[e]))];exact Y j x Z
theorem ae.setOff{w v n}(h:ae w v n){p}(hf:yz v p.block)u:ae (w.setCell p u) v n:=by obtain⟨l,⟨j,x⟩,y⟩:=h;exact⟨l,⟨j.setOff hf u,x⟩,y⟩

def fN(w:World)(v:Value)(q:Rat):Prop:=∃vn vd,v=.agg #[.bool (ay q),vn,vd]/\ae w vn q.num.natAbs/\ae w vd q.den
theorem fN.below{w w' v q}(h:fN w v q)(j:Below w.heap.size w w'):fN w' v q:=by obtain⟨A,y,e,u,x⟩:=h;exact⟨A,y,e,u.below j,x.below j⟩

def di(B:Nat)(w:World)(v:Value)(q:Rat):Prop:=∃vn vd,v=.agg #[.bool (ay q),vn,vd]/\ae w vn q.num.natAbs/\ae w vd q.den/\bP vn B/\bP vd B
theorem di.at_{B w v q}(h:di B w v q):fN w v q:=by obtain⟨y,x,e,j,u,_⟩:=h;exact⟨y,x,e,j,u⟩
theorem di.below{B w w' v q}(h:di B w v q)(j:Below w.heap.size w w'):di B w' v q:=by obtain⟨C,A,e,u,x,y⟩:=h;exact⟨C,A,e,u.below j,x.below j,y⟩
theorem di.mono{B B' w v q}(h:di B w v q)(j:B'<=B):di B' w v q:=by obtain⟨J,C,e,u,x,y,A⟩:=h;exact⟨J,C,e,u,x,y.mono j,A.mono j⟩

theorem ae.box3{w v n B}(h:ae w v n)(hf:bP v (B+1))j u x: ae (((w.setCell ⟨B,0,none⟩ j).setCell ⟨B,1,none⟩ u).setCell ⟨B,2,none⟩ x) v n:= ((h.setFar hf (p:=⟨B,0,none⟩) (aAV _) j).setFar hf (p:=⟨B,1,none⟩) (aAV _) u).setFar hf (p:=⟨B,2,none⟩) (aAV _) x
theorem eW{w:World}{B p x}(h:w.cell? p=some x)(hp:p.block≠B)j u y: (((w.setCell ⟨B,0,none⟩ j).setCell ⟨B,1,none⟩ u).setCell ⟨B,2,none⟩ y).cell? p=some x:=by rw[aBB _ _ _ _ (fun e=>hp (by rw[<-e])),aBB _ _ _ _ (fun e=>hp (by rw[<-e])),aBB _ _ _ _ (fun e=>hp (by rw[<-e]))];exact h
theorem cg.box3{w B e a b c}(h:cg w B e [a,b,c])j u x: cg (((w.setCell ⟨B,0,none⟩ j).setCell ⟨B,1,none⟩ u).setCell ⟨B,2,none⟩ x) B e [j,u,x]:=((h.set_ 0 j).set_ 1 u).set_ 2 x
theorem cg.box3far{w B g e xs}(h:cg w g e xs)(j:g≠B)u x y: cg (((w.setCell ⟨B,0,none⟩ u).setCell ⟨B,1,none⟩ x).setCell ⟨B,2,none⟩ y) g e xs:= ((h.far (p:=⟨B,0,none⟩) j u).far (p:=⟨B,1,none⟩) j x).far (p:=⟨B,2,none⟩) j y
theorem ae.box3off{w v n B}(h:ae w v n)(hf:yz v B)j u x: ae (((w.setCell ⟨B,0,none⟩ j).setCell ⟨B,1,none⟩ u).setCell ⟨B,2,none⟩ x) v n:= ((h.setOff (p:=⟨B,0,none⟩) hf j).setOff (p:=⟨B,1,none⟩) hf u).setOff (p:=⟨B,2,none⟩) hf x
theorem au{w w' j B}(h:Below j w w')(u:j<=B)x y A: Below j w (((w'.setCell ⟨B,0,none⟩ x).setCell ⟨B,1,none⟩ y).setCell ⟨B,2,none⟩ A):= ((h.setCell (p:=⟨B,0,none⟩) u x).setCell (p:=⟨B,1,none⟩) u y).setCell (p:=⟨B,2,none⟩) u A

theorem ae.len{w v n}(h:ae w v n):∃A m c,v=.slice A m c/\m<=9223372036854775807/\(0<m↔0<n):=by obtain⟨l,d,t,rfl⟩:=h;obtain⟨_,A,c,rfl,u,j,_⟩:=d.open_;refine⟨A,l.length,c,rfl,by omega,?_⟩;rw[aCn,Nat.pos_iff_ne_zero];exact(not_congr t.eq_nil).symm

theorem cg.three{w g e a b c}(h:cg w g e [a,b,c]): w.cell? ⟨g,0,none⟩=some a/\w.cell? ⟨g,1,none⟩=some b/\w.cell? ⟨g,2,none⟩=some c/\w.frozen? ⟨g,0,none⟩=false/\w.frozen? ⟨g,1,none⟩=false/\w.frozen? ⟨g,2,none⟩=false:= ⟨h.cell 0,h.cell 1,h.cell 2,h.frozen 0,h.frozen 1,h.frozen 2⟩
theorem di.open_{B w v q}(h:di B w v q):∃A m c j x u,v=.agg #[.bool (ay q),.slice A m c,.slice j x u]/\ae w (.slice A m c) q.num.natAbs/\ae w (.slice j x u) q.den/\bP (.slice A m c) B/\bP (.slice j x u) B:=by obtain⟨Y,U,rfl,y,C,J,N⟩:=h;obtain⟨A,m,c,rfl,_⟩:=y.len;obtain⟨j,x,u,rfl,_⟩:=C.len;exact⟨A,m,c,j,x,u,rfl,y,C,J,N⟩
theorem fN.open_{w v q}(h:fN w v q):∃A m c u j x,v=.agg #[.bool (ay q),.slice A m c,.slice u j x]/\m<=9223372036854775807/\j<=9223372036854775807/\(0<m↔0<q.num.natAbs)/\ae w (.slice A m c) q.num.natAbs/\ae w (.slice u j x) q.den:=by obtain⟨N,J,rfl,B,C⟩:=h;obtain⟨A,m,c,rfl,hm,hp⟩:=B.len;obtain⟨u,j,x,rfl,y,_⟩:=C.len;exact⟨A,m,c,u,j,x,rfl,hm,y,hp,B,C⟩
theorem di.box3{B g w q A j m c x u}(N:ae w (.slice A m c) q.num.natAbs)(U:ae w (.slice j x u) q.den)(y:bP (.slice A m c) B)(C:bP (.slice j x u) B)(J:g<B)Y Z u2: di B (((w.setCell ⟨g,0,none⟩ Y).setCell ⟨g,1,none⟩ Z).setCell ⟨g,2,none⟩ u2) (.agg #[.bool (ay q),.slice A m c,.slice j x u]) q:= ⟨_,_,rfl,N.box3 (y.mono J) _ _ _,U.box3 (C.mono J) _ _ _,y,C⟩

theorem pf w neg vn vd n d k(hn:ae w vn n)(hd:ae w vd d)(ln:n<2^k)(ld:d<2^k)(hk:k<=17592186044416)(h0:0<d): Calls Tryz.prog 180 #[.bool neg,vn,vd] w fun e w'=>∃v',e=.returned v'/\di w.heap.size w' v' (mkRat (dD neg n) d)/\Below w.heap.size w w':=by
 have HN:=aS hn;have HD:=aS hd;have LN:=aS ln;have LD:=aS ld;obtain⟨r1,r2⟩:=red neg n d h0;have R1:=aS r1;have R2:=aS r2;have a1:0<Nat.gcd n d:=Nat.gcd_pos_of_pos_right _ h0;clear hn hd ln ld r1 r2;generalize hg:Nat.gcd n d=g at *;have bn:=aS hg;clear hg;have HW:Hid (∀o,Below w.heap.size w (w.alloc o)):=aS (fun o=>(Below.refl _ _).alloc (cC _) o);go_enter Tryz.func180,Tryz.ntmps180;go_wp2_with fail;refine(gcd _ vn vd n d k (HN.out.alloc _) (HD.out.alloc _) LN.out LD.out hk).mono ?_;rintro e w1 ⟨vg,rfl,Y,u⟩;rw[bn.out]at Y;have am:=aS Y;have bB:w.heap.size+1<=w1.heap.size:=by have:=u.size;simpa using this
 have bo:=aS ((HN.out.alloc _).below u);have bf:=aS ((HD.out.alloc _).below u);have a7:=aS ((HW.out _).trans (u.mono (by simp)));have a5:=aS ((cg.new w 192 [.bool false,.slice none 0 0,.slice none 0 0]).below' u);clear Y u;go_wp2_with fail;refine(div w1 vn vg n g k bo.out am.out LN.out hk a1).mono ?_;rintro e w2 ⟨vq,vr,rfl,a3,_,x,av⟩;have bx:=aS a3;have a9:=aS (a7.out.trans (x.mono (by omega)));have bm:=aS (am.out.below x);have bj:=aS (bf.out.below x);have ad:=aS (av.mono bB);have a6:=aS (a5.out.below' x);have b0:w.heap.size+1<=w2.heap.size:=by have:=x.size;omega
 clear a3 x av;go_wp2_with fail;refine(div w2 vd vg d g k bj.out bm.out LD.out hk a1).mono ?_;rintro e w3 ⟨b6,b7,rfl,a4,_,y,a0⟩;have an:=aS a4;have ba:=aS (a9.out.trans (y.mono (by omega)));have N:=aS (bx.out.below y);have al:=aS (a0.mono b0);have j:=aS (a6.out.below' y);have b2:w.heap.size+1<=w3.heap.size:=by have:=y.size;omega
 clear a4 y a0;obtain⟨A,m,c,rfl,hm,a2⟩:=N.out.len;obtain⟨Z,m',c',rfl,b1,_⟩:=an.out.len;have hb:ay (mkRat (dD neg n) d)=(neg&&decide (0<m)):=by rw[sZ R1.out];congr 1;exact aCN.2 a2.symm
 have bd:=aS hb;clear a2 hb;have B:=j.out.cell 0;have C:=j.out.cell 1;have J:=j.out.cell 2;have b3:=j.out.frozen 0;have b4:=j.out.frozen 1;have b5:=j.out.frozen 2;simp only[aAb,Em]at B C J;have fin:∀(b:Bool),b=(neg&&decide (0<m))->di w.heap.size (((w3.setCell ⟨w.heap.size,0,none⟩ (.bool b)).setCell ⟨w.heap.size,1,none⟩ (.slice A m c)).setCell ⟨w.heap.size,2,none⟩ (.slice Z m' c')) (.agg #[.bool b,.slice A m c,.slice Z m' c']) (mkRat (dD neg n) d) /\ Below w.heap.size w (((w3.setCell ⟨w.heap.size,0,none⟩ (.bool b)).setCell ⟨w.heap.size,1,none⟩ (.slice A m c)).setCell ⟨w.heap.size,2,none⟩ (.slice Z m' c')):=by
  intro b hb;refine⟨⟨_,_,by rw[bd.out,<-hb],?_,?_,ad.out.mono (aAm _),al.out.mono (aAm _)⟩,au ba.out (cC _) _ _ _⟩
  ·rw[R1.out,mA];exact N.out.box3 ad.out _ _ _
  rw[R2.out];exact an.out.box3 al.out _ _ _
 have U:=aS fin;clear fin;cases neg
 ·go_wp2_with fail;exact IN (v:=.agg #[.bool false,.slice A m c,.slice Z m' c']) (by simp[results,Tryz.results180,go_sem,B,C,J]) rfl ⟨_,rfl,U.out false (by simp)⟩
 by_cases h:0<m
 ·go_wp2_with fail;exact IN (v:=.agg #[.bool true,.slice A m c,.slice Z m' c']) (by simp[results,Tryz.results180,go_sem,B,C,J]) rfl ⟨_,rfl,U.out true (by simp[h])⟩
 go_wp2_with fail;exact IN (v:=.agg #[.bool false,.slice A m c,.slice Z m' c']) (by simp[results,Tryz.results180,go_sem,B,C,J]) rfl ⟨_,rfl,U.out false (by simp[h])⟩
theorem ae.keep{w w' v n}(h:ae w v n)(hs:w.heap.size<=w'.heap.size)(Z:∀x m c,v=.slice (some x) m c->0<m->x.block<w.heap.size->w'.heap[x.block]?=w.heap[x.block]?):ae w' v n:=by obtain⟨l,⟨⟨B,A,c,y,C,J,N⟩,U⟩,Y⟩:=h;refine⟨l,⟨⟨B,A,c,y,C,J,fun hn=>?_⟩,U⟩,Y⟩;obtain⟨b,off,rfl,hlt,hc⟩:=N hn;refine⟨b,off,rfl,TK hlt hs,fun j u hu=>?_⟩;have e:=Z _ _ _ y hn hlt;rw[<-hc j u hu];exact World.cell?_of_block (w:=w) e

def Yi:LS->LoopState
 | .ready=>.ready
 | .busy=>.busy
 | .done=>.done
 | .over=>.exhausted
def TR(μ:Mu)(n:Nat)(T:Tr AV)(tm:Array Value):Prop:=tm.size=n/\∀t x,T.get t=some x->∃y,tm[t]?=some y/\VR μ x y
theorem TR.mono{μ μ' n T j}(h:TR μ n T j)(hs:lJ μ μ'):TR μ' n T j:= ⟨h.1,fun t x e=>let ⟨y,h1,h2⟩:=h.2 t x e;⟨y,h1,h2.mono hs⟩⟩
theorem TR.put{μ n T A}(h:TR μ n T A){d}(hd:d<n){x y}(J:VR μ x y):TR μ n (T.set d (some x)) (A.setIfInBounds d y):=by
 refine⟨by simp[h.1],fun t z e=>?_⟩;rw[Tr.get_set]at e;split at e
 ·next j=>subst j;cases e;exact⟨y,by simp[h.1,hd],J⟩
 next j=>
 obtain⟨u,B,C⟩:=h.2 t z e;exact⟨u,by rw[aBz (aEt j)];exact B,C⟩

def ko:Value->Bool
 | .int .u32 _=>false
 |_=>true
theorem li{v}(h:ko v=false):Fi v=false:=by cases v<;>first|rfl|cases h
theorem yj{μ x v}(h:VR μ x v)(hf:flat x=true):ko v=true:=by
 cases x<;>simp only[VR]at h<;>simp only[flat]at hf
 case i k n=>subst h;cases k<;>first|rfl|(simp[flat]at hf;done)
 all_goals first
  |(subst h;rfl)
  |(obtain⟨_,_,rfl⟩:=h;rfl)
  |(obtain⟨_,_,_,rfl,_⟩:=h;rfl)
  |(obtain⟨_,_,_,_,rfl⟩:=h;rfl)
  |(obtain⟨_,_,rfl,_⟩:=h;rfl)
  |(obtain⟨_,rfl,_⟩:=h;rfl)
  |(obtain⟨_,_,_,_,_,_,rfl,_⟩:=h;rfl)
  |(obtain⟨_,⟨_,_,rfl,_⟩,_⟩:=h;rfl)
  |(obtain⟨_,_,_,rfl,_⟩:=h;rfl)
  |(obtain⟨_,_,_,_,rfl,_⟩:=h;rfl)
  |cases hf
theorem fU{μ}:∀{l:List AV}{m:List Value},ap μ l m->l.all flat=true->m.all ko=true
 | [],m,h,_=>by simp only[ap]at h;subst h;rfl
 |x::l,m,h,hf=>by simp only[ap]at h;obtain⟨y,A,rfl,j,u⟩:=h;simp only[aAR,gE]at hf⊢;exact⟨yj j hf.1,fU u hf.2⟩

def lK(μ:Mu):List AE->List MapEntry->Prop
 | [],l=>l=[]
 |e::es,l=>∃k v l',l=⟨k,v,e.born⟩::l'/\VR μ e.key k/\VR μ e.val v/\lK μ es l'
theorem lK.mono{μ μ'}(hs:lJ μ μ'):∀{es:List AE}{l:List MapEntry},lK μ es l->lK μ' es l
 | [],_,h=>h
 |_::_,_,⟨k,v,l',e,h1,h2,h3⟩=>⟨k,v,l',e,h1.mono hs,h2.mono hs,lK.mono hs h3⟩

def OR(μ:Mu)(w:World)(o:Nat):AO->Prop
 | .cells c t op=>∃p cs,μ o=some (.at_ p)/\w.heap[p.blk]?=some (.cells cs t (0,0))/\cs.size=p.tot/\(c.all flat=true/\cs.toList.all ko=true)/\
   ∀i x,c[i]?=some x->∃y,cs[p.base+i]?=some y/\VR μ x y
 | .map es clock=>∃p l,μ o=some (.at_ p)/\w.heap[p.blk]?=some (.map l.toArray clock)/\lK μ es l
 | .iter m since seen st=>∃p m',μ o=some (.at_ p)/\p.base=0/\w.heap[p.blk]?=some (.mapIter m' since seen.toArray st)/\
   (match m with
    |none=>m'=none
    |some m=>∃q,μ m=some (.at_ q)/\m'=some q.blk)
 | .amap I=>∃p l clock es,μ o=some (.at_ p)/\w.heap[p.blk]?=some (.map l.toArray clock)/\lK μ es l/\I es
 | .walk cur ks vs=>∃(p:Pl)(b:Nat)(l:List MapEntry)(clock:Nat)(seen:List Nat)(l':List MapEntry),μ o=some (.at_ p)/\p.base=0/\w.heap[p.blk]?=some (.mapIter (some b) clock seen.toArray clock)/\μ.fz b 0=some (Vg l clock)/\(l.map (·.born)).Nodup/\(∀e∈l,e.born<clock)/\
   List.Perm l' (l.filter fun e=>!seen.contains e.born)/\ap μ.blind ks (l'.map (·.key))/\ap μ.blind vs (l'.map (·.val))/\
   (∀k v,cur=[k,v]->∃e,e∈l/\seen.getLast? = some e.born/\VR μ.blind k e.key/\VR μ.blind v e.val)
 | .loop st pe _ n T ps asn body ds=>∃p q tm fn,μ o=some (.at_ p)/\μ ds=some (.at_ q)/\TR μ n T tm/\
   w.heap[p.blk]?=some (.loop { state:=Yi st,pending:=pe,fn,tmps:=tm,params:=ps.toArray,assign:=asn,body,defers:=q.blk })
 | .defs=>∃p,μ o=some (.at_ p)/\w.heap[p.blk]?=some (.deferred (some []))
 | .nat n=>∃A m c,μ o=some (.val A m c)/\ae w (.slice A m c) n

theorem OR.at_{μ w o x p}(h:OR μ w o x)(hm:μ o=some (.at_ p)):∃b,w.heap[p.blk]?=some b:=by
 cases x<;>simp only[OR]at h
 case cells=>obtain⟨y,cs,j,u,_⟩:=h;rw[hm]at j;cases j;exact⟨_,u⟩
 case map=>obtain⟨y,cs,j,u,_⟩:=h;rw[hm]at j;cases j;exact⟨_,u⟩
 case iter=>obtain⟨y,C,j,_,u,_⟩:=h;rw[hm]at j;cases j;exact⟨_,u⟩
 case amap=>obtain⟨y,l,c,es,j,u,_⟩:=h;rw[hm]at j;cases j;exact⟨_,u⟩
 case walk=>obtain⟨y,b,l,c,J,B,j,_,u,_⟩:=h;rw[hm]at j;cases j;exact⟨_,u⟩
 case loop=>obtain⟨y,q,N,fn,j,_,_,u⟩:=h;rw[hm]at j;cases j;exact⟨_,u⟩
 case defs=>obtain⟨y,j,u⟩:=h;rw[hm]at j;cases j;exact⟨_,u⟩
 case nat=>obtain⟨A,m,c,j,_⟩:=h;rw[hm]at j;cases j
theorem OR.keep{μ μ' w w' o x}(h:OR μ w o x)(hs:lJ μ μ')(hz:w.heap.size<=w'.heap.size)(J:∀p,μ o=some (.at_ p)->w'.heap[p.blk]?=w.heap[p.blk]?)(hv:∀A m c,μ o=some (.val A m c)->∀N,A=some N->0<m->N.block<w.heap.size->w'.heap[N.block]?=w.heap[N.block]?):OR μ' w' o x:=by
 cases x<;>simp only[OR]at h⊢
 case cells=>obtain⟨p,cs,j,u,B,C,Y⟩:=h;exact⟨p,cs,hs _ _ j,(J p j).trans u,B,C,fun i x e=>let ⟨y,a,b⟩:=Y i x e;⟨y,a,b.mono hs⟩⟩
 case map=>obtain⟨p,cs,j,u,B⟩:=h;exact⟨p,cs,hs _ _ j,(J p j).trans u,B.mono hs⟩
 case iter m _ _ _=>
  obtain⟨p,Z,j,U,u,B⟩:=h;refine⟨p,Z,hs _ _ j,U,(J p j).trans u,?_⟩;cases m with
  |none=>exact B
  |some m=>obtain⟨q,a,b⟩:=B;exact⟨q,hs _ _ a,b⟩
 case loop=>obtain⟨p,q,tm,fn,j,u,B,C⟩:=h;exact⟨p,q,tm,fn,hs _ _ j,hs _ _ u,B.mono hs,(J p j).trans C⟩
 case defs=>obtain⟨p,j,u⟩:=h;exact⟨p,hs _ _ j,(J p j).trans u⟩
 case amap=>obtain⟨p,l,c,es,j,u,B,C⟩:=h;exact⟨p,l,c,es,hs _ _ j,(J p j).trans u,B.mono hs,C⟩
 case walk=>obtain⟨p,b,l,c,sn,l',j,U,u,B,C,Y,h6,h7,h8,h9⟩:=h;exact⟨p,b,l,c,sn,l',hs _ _ j,U,(J p j).trans u,hs.fz _ _ _ B,C,Y,h6,ap.mono hs.blind _ h7,ap.mono hs.blind _ h8,fun k v e=>let ⟨x,g1,g2,g3,g4⟩:=h9 k v e;⟨x,g1,g2,VR.mono hs.blind _ g3,VR.mono hs.blind _ g4⟩⟩
 case nat=>obtain⟨A,m,c,j,u⟩:=h;refine⟨A,m,c,hs _ _ j,u.keep hz fun N Z c' e hm hlt=>?_⟩;cases e;exact hv _ m c j N rfl hm hlt
theorem OR.val{μ w o x A m c}(h:OR μ w o x)(hm:μ o=some (.val A m c)):∃n,x=.nat n:=by
 cases x<;>simp only[OR]at h
 case cells=>obtain⟨y,cs,j,u,_⟩:=h;rw[hm]at j;cases j
 case map=>obtain⟨y,cs,j,u,_⟩:=h;rw[hm]at j;cases j
 case iter=>obtain⟨y,C,j,_,u,_⟩:=h;rw[hm]at j;cases j
 case amap=>obtain⟨y,l,c,es,j,u,_⟩:=h;rw[hm]at j;cases j
 case walk=>obtain⟨y,b,l,c,J,B,j,_,u,_⟩:=h;rw[hm]at j;cases j
 case loop=>obtain⟨y,q,N,fn,j,_,_,u⟩:=h;rw[hm]at j;cases j
 case defs=>obtain⟨y,j,u⟩:=h;rw[hm]at j;cases j
 case nat=>exact⟨_,rfl⟩

def wZ(w:World)(g:Nat):Prop:=∃i v,w.cell? ⟨g,i,none⟩=some v/\ko v=false
theorem OR.nodig{μ w o x p}(h:OR μ w o x)(hm:μ o=some (.at_ p)):¬wZ w p.blk:=by
 rintro⟨i,v,y,hd⟩;cases x<;>simp only[OR]at h
 case cells=>
  obtain⟨B,cs,C,J,U,N,Y⟩:=h;rw[hm]at C;cases C;simp only[World.cell?,J]at y;have y:cs[i]?=some v:=by simpa using y
  have:=Of.1 N.2 v (by rw[<-aBi]at y;exact eQ y);rw[hd]at this;cases this
 case map=>obtain⟨B,l,j,u,_⟩:=h;rw[hm]at j;cases j;simp[World.cell?,u]at y
 case iter=>obtain⟨B,m',j,_,u,_⟩:=h;rw[hm]at j;cases j;simp[World.cell?,u]at y
 case amap=>obtain⟨B,l,c,es,j,u,_⟩:=h;rw[hm]at j;cases j;simp[World.cell?,u]at y
 case walk=>obtain⟨B,b,l,c,sn,Z,j,_,u,_⟩:=h;rw[hm]at j;cases j;simp[World.cell?,u]at y
 case loop=>obtain⟨B,q,tm,fn,j,_,_,u⟩:=h;rw[hm]at j;cases j;simp[World.cell?,u]at y
 case defs=>obtain⟨B,j,u⟩:=h;rw[hm]at j;cases j;simp[World.cell?,u]at y
 case nat=>obtain⟨A,m,c,C,_⟩:=h;rw[hm]at C;cases C
theorem Ji{μ w o Z n x A m c p}(h:OR μ w o (.nat n))(hm:μ o=some (.val A m c))(C:OR μ w Z x)(y:μ Z=some (.at_ p))(hx:∀n,x≠.nat n):yz (.slice A m c) p.blk:=by
 simp only[OR]at h;obtain⟨A',m',c',Y,h2⟩:=h;rw[hm]at Y;cases Y;intro ad n' am e J U;cases e;obtain⟨l,⟨⟨hl,al,c2,e3,_,_,h4⟩,_⟩,_⟩:=h2;cases e3;obtain⟨b,off,e4,hlt,hc⟩:=h4 J;cases e4;obtain⟨d,hd⟩:∃d,l[0]?=some d:=⟨_,bY J⟩;have j:=hc 0 (dg d) (by rw[mT,hd];rfl);simp only at U;subst U;simp only[World.cell?]at j;cases x<;>simp only[OR]at C
 case cells=>obtain⟨N,cs,u,B,g3,g4,g5⟩:=C;rw[y]at u;cases u;rw[B]at j;simp only[aDQ,aBF,aCq]at j;have:=g4.2;rw[Of]at this;have:=this (dg d) (eQ (i:=off+0) (by rw[aBi];exact j));simp[ko,dg]at this
 case map=>obtain⟨N,l,u,B,_⟩:=C;rw[y]at u;cases u;rw[B]at j;simp at j
 case iter=>obtain⟨N,m',u,_,B,_⟩:=C;rw[y]at u;cases u;rw[B]at j;simp at j
 case amap=>obtain⟨N,l,c,es,u,B,_⟩:=C;rw[y]at u;cases u;rw[B]at j;simp at j
 case walk=>obtain⟨N,b,l,c,sn,l',u,_,B,_⟩:=C;rw[y]at u;cases u;rw[B]at j;simp at j
 case loop=>obtain⟨N,q,tm,fn,u,_,_,B⟩:=C;rw[y]at u;cases u;rw[B]at j;simp at j
 case defs=>obtain⟨N,u,B⟩:=C;rw[y]at u;cases u;rw[B]at j;simp at j
 case nat k=>exact absurd rfl (hx k)

structure YQ(μ:Mu)(s:St)(w:World):Prop where
 obj:∀o x,s.h.get o=some x->μ o≠none->OR μ w o x
 inj:∀o o' x x' p p',s.h.get o=some x->s.h.get o'=some x'->μ o=some (.at_ p)->μ o'=some (.at_ p')->p.blk=p'.blk->o=o'
 nat:∀o n A m c o' x' p',s.h.get o=some (.nat n)->μ o=some (.val A m c)->s.h.get o'=some x'->μ o'=some (.at_ p')->yz (.slice A m c) p'.blk
 wf:∀o,s.nx<=o->s.h.get o=none
def Z3(μ:Mu)(s:St)(w:World):Prop:=∀b i v,μ.fz b i=some v->b<w.heap.size/\eE w b i=some v/\∀o x p,s.h.get o=some x->μ o=some (.at_ p)->p.blk≠b
structure bU(μ:Mu)(s:St)(w:World):Prop extends YQ μ s w where
 fz:Z3 μ s w

structure fo(μ:Mu)(s:St)(w:World)(μ':Mu)(s':St)(w':World):Prop where
 sub:lJ μ μ'
 dom:∀o,μ o=none->μ' o≠none->s.nx<=o/\o<s'.nx
 nx:s.nx<=s'.nx
 os:w'.os=w.os
 tape:w'.tape=w.tape
 output:w'.output=w.output
 size:w.heap.size<=w'.heap.size
 blk:∀g,g<w.heap.size->(∀o x p,s.h.get o=some x->μ o=some (.at_ p)->p.blk≠g)->w'.heap[g]?=w.heap[g]?
 own:∀o x p,s'.h.get o=some x->μ' o=some (.at_ p)->w.heap.size<=p.blk∨∃o0 x0 p0,s.h.get o0=some x0/\μ o0=some (.at_ p0)/\p0.blk=p.blk
 keep:∀o,μ o=none->o<s.nx->s'.h.get o=s.h.get o
 fz:∀b i v,μ'.fz b i=some v->μ.fz b i=some v∨w.heap.size<=b∨(∃o x p,s.h.get o=some x/\μ o=some (.at_ p)/\p.blk=b)∨ko v=false
theorem Ty{μ μ' s s' w w'}(h:bU μ s w)(t:fo μ s w μ' s' w')(e:μ'.fz=μ.fz):Z3 μ' s' w':=by
 intro b i v y;rw[e]at y;obtain⟨j,U,u⟩:=h.fz b i v y;refine⟨TK j t.size,?_,fun o x p A B=>?_⟩
 ·rw[<-U];exact kY (t.blk b j u) i
 rcases t.own o x p A B with h4|⟨Y,x0,Z,C,J,N⟩
 ·omega
 rw[<-N];exact u Y x0 Z C J
theorem Ba{μ μ' s s' w w'}(h:bU μ s w)(e:μ'.fz=μ.fz)(k:YQ μ' s' w'/\fo μ s w μ' s' w'):bU μ' s' w'/\fo μ s w μ' s' w':=⟨⟨k.1,Ty h k.2 e⟩,k.2⟩
theorem fo.refl μ s w:fo μ s w μ s w:= ⟨lJ.refl μ,fun _ h j=>absurd h j,cC _,rfl,rfl,rfl,cC _,fun _ _ _=>rfl,fun o x p h j=>.inr ⟨o,x,p,h,j,rfl⟩,fun _ _ _=>rfl,fun _ _ _ h=>.inl h⟩
theorem fo.trans{a b c s t u w v z}(h:fo a s w b t v)(k:fo b t v c u z):fo a s w c u z:=by
 refine⟨h.sub.trans k.sub,fun o j y=>?_,EM h.nx k.nx,k.os.trans h.os,k.tape.trans h.tape,k.output.trans h.output,EM h.size k.size,fun g hg hn=>?_,fun o x p A B=>?_,fun o j y=>?_,fun b' i v hv=>?_⟩
 ·by_cases e:b o=none
  ·have:=k.dom o e y;have:=h.nx;omega
  have:=h.dom o j e;have:=k.nx;omega
 ·exact(k.blk g (TK hg h.size) fun o x p A B=>by
   rcases h.own o x p A B with j|⟨J,U,N,j,y,C⟩
   ·omega
   ·rw[<-C];exact hn J U N j y).trans (h.blk g hg hn)
 ·rcases k.own o x p A B with j|⟨J,U,N,j,y,C⟩
  ·exact .inl (EM h.size j)
  rw[<-C];exact h.own J U N j y
 ·exact(k.keep o (by
   cases e:b o with
   |none=>rfl
   |some l=>have:=h.dom o j (by rw[e];simp);omega) (by have:=h.nx;omega)).trans (h.keep o j y)
 rcases k.fz b' i v hv with j|j|⟨o,x,p,A,B,Y⟩|j
 ·exact h.fz b' i v j
 ·exact .inr (.inl (EM h.size j))
 ·rcases h.own o x p A B with j|⟨J,U,N,j,y,C⟩
  ·exact .inr (.inl (by omega))
  exact .inr (.inr (.inl ⟨J,U,N,j,y,C.trans Y⟩))
 exact .inr (.inr (.inr j))
theorem fo.drew{μ μ' s s' w w'}(h:fo μ s w.drew μ' s' w'):fo μ s w μ' s' w':=⟨h.sub,h.dom,h.nx,h.os,h.tape,h.output,h.size,h.blk,h.own,h.keep,h.fz⟩
theorem bU.drew{μ s w}(h:bU μ s w):bU μ s w.drew:=⟨⟨fun o x e m=>by have:=h.obj o x e m;exact this.keep (lJ.refl μ) (cC _) (fun _ _=>rfl) (fun _ _ _ _ _ _ _ _=>rfl),h.inj,h.nat,h.wf⟩,h.fz⟩

def Mu.with(μ:Mu)(o:Nat)(l:Lc):Mu:=⟨fun k=>if k=o then some l else μ k,μ.fz⟩
theorem Mu.sub_with{μ o}l(h:μ o=none):lJ μ (μ.with o l):=⟨fun k u e=>by unfold Mu.with;simp only;rw[iF (fun j=>by subst j;rw[h]at e;cases e)];exact e,fun _ _ _ e=>e⟩
theorem Mu.with_same(μ:Mu)o l:μ.with o l o=some l:=oR rfl
theorem Mu.with_ne(μ:Mu){o k}l(h:k≠o):μ.with o l k=μ k:=iF h

theorem ir(w:World)O:(w.alloc O).heap[w.heap.size]?=some O:=aDM w O

theorem bU.new{μ s w}(h:bU μ s w)(hn:μ s.nx=none)O x p(hp:p.blk=w.heap.size)(hx:OR (μ.with s.nx (.at_ p)) (w.alloc O) s.nx x):bU (μ.with s.nx (.at_ p)) (s.new x) (w.alloc O)/\fo μ s w (μ.with s.nx (.at_ p)) (s.new x) (w.alloc O):=by
 have hs:=Mu.sub_with (.at_ p) hn;have N:w.heap.size<=(w.alloc O).heap.size:=by simp
 have u:∀g,g<w.heap.size->(w.alloc O).heap[g]?=w.heap[g]?:=fun g Z=>Below.heap_alloc w O g Z;have lt:∀o x U,s.h.get o=some x->μ o=some (.at_ U)->U.blk<w.heap.size:=fun o x U e m=>by obtain⟨b,Y⟩:=(h.obj o x e (by rw[m];simp)).at_ m;exact(IF.1 Y).1
 have ne:∀o x,s.h.get o=some x->o≠s.nx:=fun o x e j=>by subst j;rw[h.wf _ (cC _)]at e;cases e
 refine Ba h rfl ?_;constructor
 ·refine⟨fun o y e m=>?_,fun o o' y y' q q' e1 j m1 m2 Y=>?_,fun o n A m c o' x' U e1 m1 j m2=>?_,fun o ho=>?_⟩
  ·simp only[St.new,Tr.get_set]at e;split at e
   ·next j=>subst j;cases e;exact hx
   next j=>
   rw[Mu.with_ne _ _ j]at m;refine(h.obj o y e m).keep hs N (fun q hq=>u _ (lt o y q e hq)) (fun A m' c hq ad hA hm hlt=>u _ hlt)
  ·simp only[St.new,Tr.get_set]at e1 j;split at e1<;>split at j
   ·next a b=>rw[a,b]
   ·next a b=>
    subst a;rw[Mu.with_same]at m1;cases m1;rw[Mu.with_ne _ _ b]at m2;have:=lt _ _ _ j m2;omega
   ·next a b=>
    subst b;rw[Mu.with_same]at m2;cases m2;rw[Mu.with_ne _ _ a]at m1;have:=lt _ _ _ e1 m1;omega
   next a b=>
   rw[Mu.with_ne _ _ a]at m1;rw[Mu.with_ne _ _ b]at m2;exact h.inj o o' y y' q q' e1 j m1 m2 Y
  ·simp only[St.new,Tr.get_set]at e1 j;split at e1
   ·next a=>subst a;rw[Mu.with_same]at m1;cases m1
   next a=>
   rw[Mu.with_ne _ _ a]at m1;split at j
   ·next b=>
    subst b;rw[Mu.with_same]at m2;cases m2;have hv:=h.obj o _ e1 (by rw[m1];simp);simp only[OR]at hv;obtain⟨A',m',c',B,C⟩:=hv;rw[m1]at B;cases B;intro ad n' am e J;cases e;obtain⟨l,⟨⟨_,al,c2,e3,_,_,h4⟩,_⟩,_⟩:=C;cases e3;obtain⟨b,off,e4,hlt,_⟩:=h4 J;cases e4;simp only;omega
   next b=>
   rw[Mu.with_ne _ _ b]at m2;exact h.nat o n A m c o' x' U e1 m1 j m2
  have B:s.nx+1<=o:=ho;simp only[St.new];rw[Tr.get_set_ne _ _ (by omega)];exact h.wf o (by omega)
 refine⟨hs,fun o B C=>?_,by simp[St.new],rfl,rfl,rfl,N,fun g Z _=>u g Z,fun o y q e1 m1=>?_,fun o _ C=>by simp only[St.new];exact Tr.get_set_ne _ _ (by omega),fun _ _ _ h=>.inl h⟩
 ·by_cases e:o=s.nx
  ·subst e;simp[St.new]
  rw[Mu.with_ne _ _ e]at C;exact absurd B C
 simp only[St.new,Tr.get_set]at e1;split at e1
 ·next a=>subst a;rw[Mu.with_same]at m1;cases m1;left;omega
 next a=>rw[Mu.with_ne _ _ a]at m1;right;exact⟨o,y,q,e1,m1,rfl⟩

theorem bU.turn{μ s w w'}(h:bU μ s w){o p C}(u:s.h.get o=some C)(hm:μ o=some (.at_ p))x(Y:w'.os=w.os)(al:w'.tape=w.tape)(Z:w'.output=w.output)(am:w'.heap.size=w.heap.size)(U:∀g,g≠p.blk->w'.heap[g]?=w.heap[g]?)(hx:OR μ w' o x)(hn:∀n,x≠.nat n):bU μ (s.set o x) w'/\fo μ s w μ (s.set o x) w':=by
 refine Ba h rfl ?_;constructor
 ·refine⟨fun B y e m=>?_,fun o1 o2 y y' q q' e1 j m1 m2 hbb=>?_,fun o1 n A m c B x' p' e1 m1 j m2=>?_,fun o1 ho=>?_⟩
  ·simp only[St.set,Tr.get_set]at e;split at e
   ·next j=>subst j;cases e;exact hx
   next j=>
   refine(h.obj B y e m).keep (lJ.refl μ) (by omega) (fun q N=>U _ fun e3=>j (h.inj B o y C q p e u N hm e3)) (fun A m' c N ad hA hm' hlt=>U _ ?_);subst hA;obtain⟨n,rfl⟩:=(h.obj B y e m).val N;exact h.nat B n _ m' c o C p e N u hm ad m' c rfl hm'
  ·simp only[St.set,Tr.get_set]at e1 j;split at e1<;>split at j
   ·next a b=>rw[a,b]
   ·next a b=>subst a;exact h.inj _ _ _ _ q q' u j m1 m2 hbb
   ·next a b=>subst b;exact h.inj _ _ _ _ q q' e1 u m1 m2 hbb
   exact h.inj _ _ _ _ q q' e1 j m1 m2 hbb
  ·simp only[St.set,Tr.get_set]at e1 j;split at e1
   ·next a=>cases e1;exact absurd rfl (hn n)
   split at j
   ·next b=>subst b;exact h.nat o1 n A m c _ _ p' e1 m1 u m2
   exact h.nat o1 n A m c _ _ p' e1 m1 j m2
  simp only[St.set];rw[Tr.get_set_ne _ _ (fun e=>by subst e;rw[h.wf _ ho]at u;cases u)];exact h.wf o1 ho
 refine⟨lJ.refl μ,fun o J h2=>absurd J h2,cC _,Y,al,Z,by omega,fun g _ hg=>U g fun e=>hg o C p u hm e.symm,fun B y q e1 m1=>?_,fun B J _=>by simp only[St.set];exact Tr.get_set_ne _ _ (fun e=>by subst e;rw[hm]at J;cases J),fun _ _ _ h=>.inl h⟩;simp only[St.set,Tr.get_set]at e1;split at e1
 ·next a=>subst a;right;exact⟨B,C,q,u,m1,rfl⟩
 right;exact⟨B,y,q,e1,m1,rfl⟩
theorem bU.less{μ s w}(h:bU μ s w)j nx(hs:∀o x,j.get o=some x->s.h.get o=some x)(y:∀o,nx<=o->j.get o=none):bU μ ⟨j,nx⟩ w:= ⟨⟨fun o x e m=>h.obj o x (hs o x e) m,fun o o' x x' p p' e e'=>h.inj o o' x x' p p' (hs _ _ e) (hs _ _ e'),fun o n A m c o' x' p' e m1 e'=>h.nat o n A m c o' x' p' (hs _ _ e) m1 (hs _ _ e'),y⟩,fun b i v u=>let ⟨h1,h2,h3⟩:=h.fz b i v u;⟨h1,h2,fun o x p e=>h3 o x p (hs _ _ e)⟩⟩
theorem bU.drop{μ s w}(h:bU μ s w)k:bU μ (s.drop k) w:= h.less _ _ (fun o x e=>by rw[Tr.get_set]at e;split at e<;>simp_all) (fun o ho=>by rw[Tr.get_set];split;rfl;exact h.wf o ho)
theorem fo.drop μ s w k(y:μ k≠none):fo μ s w μ (s.drop k) w:= ⟨lJ.refl μ,fun _ h j=>absurd h j,cC _,rfl,rfl,rfl,cC _,fun _ _ _=>rfl,fun o x p h j=>.inr ⟨o,x,p,by simp only[St.drop,Tr.get_set]at h;split at h<;>simp_all,j,rfl⟩,fun o u _=>by simp only[St.drop];exact Tr.get_set_ne _ _ (fun e=>y (e▸u)),fun _ _ _ h=>.inl h⟩
end Go.Proofs.YtfoceannfdbinaaGreat
