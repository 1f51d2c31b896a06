/- Lemmas on the way: Quo, Shelf, Nat10, Nat11, Num. -/
import Derived.Shelf.Small.Bits
import Derived.Shelf.Small.Wraps
import Derived.Test.YtkdhppimhdemjaaGreatU05
import Derived.Deep.LoopGhost
set_option linter.all false
set_option maxRecDepth 1000000
set_option maxHeartbeats 32000000
namespace Go.Proofs.YtkdhppimhdemjaaGreat
open Go.RowKit
theorem nM {l:List Nat} {k x:Nat} (h:l[k]? = some x):val (l.drop k) = x + 4294967296 * val (l.drop (k + 1)):=by
 obtain ⟨hk,rfl⟩:=List.getElem?_eq_some_iff.1 h
 rw [List.drop_eq_getElem_cons hk]
 rfl

theorem Hj {l:List Nat} {i:Nat} (hl:Ok l)(h:val l < 4294967296 ^ (i + 2)):l.getD (i + 1) 0 * 4294967296 + l.getD i 0 = val l / 4294967296 ^ i:=by
 have e:val l = val (l.take i) + 4294967296 ^ i * (l.getD i 0 + 4294967296 * l.getD (i + 1) 0 + 4294967296 * 4294967296 * val (l.drop (i + 2))):=by
  rcases Nat.lt_or_ge l.length (i + 2) with hlt | hge
  ·have h1:=aL l i
   have h2:=aL l (i + 1)
   rw [aO (k:=i + 1 + 1) (by omega)] at h2
   rw [List.drop_eq_nil_of_le (by omega),h2,h1,Nat.pow_succ]
   simp only [val]
   grind
  have h0:=fM l i (by omega)
  have e1:l[i]? = some (l.getD i 0):=by rw [List.getD_eq_getElem?_getD,List.getElem?_eq_getElem (by omega)]; rfl
  have e2:l[i + 1]? = some (l.getD (i + 1) 0):=by rw [List.getD_eq_getElem?_getD,List.getElem?_eq_getElem (by omega)]; rfl
  rw [nM e1,nM e2] at h0
  rw [h0]
  grind
 have hz:val (l.drop (i + 2)) = 0:=by
  rcases Nat.eq_zero_or_pos (val (l.drop (i + 2))) with h0 | h0
  ·exact h0
  exfalso
  rw [show i + 2 = i + 1 + 1 by omega,Nat.pow_succ,Nat.pow_succ] at h
  have h3:4294967296 ^ i * (4294967296 * 4294967296 * 1) <= 4294967296 ^ i * (l.getD i 0 + 4294967296 * l.getD (i + 1) 0 + 4294967296 * 4294967296 * val (l.drop (i + 2))):=Nat.mul_le_mul_left _ (by omega)
  rw [show 4294967296 ^ i * (4294967296 * 4294967296 * 1) = 4294967296 ^ i * 4294967296 * 4294967296 by grind] at h3
  omega
 rw [hz] at e
 have ht:=eo _ (hl.take i)
 have hp:4294967296 ^ (l.take i).length <= 4294967296 ^ i:=Nat.pow_le_pow_right (by omega) (by rw [List.length_take]; omega)
 rw [e,Nat.add_mul_div_left _ _ (Nat.pow_pos (by omega)),Nat.div_eq_of_lt (by omega)]
 omega

def gW (V U R:Nat) (o:List Nat) (k:Nat):Prop:=Ok o/\k <= o.length/\val (o.take k) = 0/\V * (4294967296 ^ k * val (o.drop k)) + R = U/\R < V * 4294967296 ^ k

theorem gW.start {V U m:Nat} (h:U < V * 4294967296 ^ m):gW V U U (List.replicate m 0) m :=
 ⟨Ok.replicate _,by simp,by rw [List.take_replicate,eB],by rw [List.drop_eq_nil_of_le (by simp)]; simp [val],h⟩

theorem gW.zero {V U R k:Nat} {o:List Nat} (h:gW V U R o (k + 1)):o[k]? = some 0/\val (o.take k) = 0:=by
 obtain ⟨h1,h2,h3,h4,h5⟩:=h
 rw [aL] at h3
 have hp:0 < 4294967296 ^ k:=Nat.pow_pos (by omega)
 have h6:4294967296 ^ k * o.getD k 0 = 0:=by omega
 have h7:o.getD k 0 = 0:=by
  rcases Nat.mul_eq_zero.1 h6 with h | h
  ·omega
  exact h
 refine ⟨?_,by omega⟩
 rw [<- h7,List.getD_eq_getElem?_getD,List.getElem?_eq_getElem (by omega)]; rfl

theorem gW.skip {V U R k:Nat} {o:List Nat} (h:gW V U R o (k + 1))(hR:R < V * 4294967296 ^ k):gW V U R o k:=by
 obtain ⟨z1,z2⟩:=h.zero
 obtain ⟨h1,h2,h3,h4,h5⟩:=h
 refine ⟨h1,by omega,z2,?_,hR⟩
 rw [nM z1,<- h4,Nat.pow_succ]
 grind

theorem gW.step {V U R k q:Nat} {o:List Nat} (h:gW V U R o (k + 1))(hq:q < 4294967296)(h1:V * q * 4294967296 ^ k <= R)(h2:R < (q + 1) * (V * 4294967296 ^ k)):gW V U (R - V * q * 4294967296 ^ k) (o.set k q) k:=by
 obtain ⟨z1,z2⟩:=h.zero
 obtain ⟨h3,h4,h5,h6,h7⟩:=h
 refine ⟨h3.set _ _ hq,by simp; omega,?_,?_,?_⟩
 ·rw [List.take_set_of_le (Nat.le_refl _)]; exact z2
 ·rw [nM (x:=q) (by rw [List.getElem?_set_self (by omega)]),List.drop_set_of_lt (by omega)]
  obtain ⟨T,hT⟩:∃ T,R = V * q * 4294967296 ^ k + T:=⟨R - V * q * 4294967296 ^ k,by omega⟩
  rw [hT,Nat.add_sub_cancel_left,<- h6,hT,Nat.pow_succ]
  grind
 have:(q + 1) * (V * 4294967296 ^ k) = V * q * 4294967296 ^ k + V * 4294967296 ^ k:=by grind
 omega

theorem gW.done {V U R:Nat} {o:List Nat} (h:gW V U R o 0):val o = U / V/\R = U % V:=by
 obtain ⟨_,_,_,h4,h5⟩:=h
 simp only [Nat.pow_zero,Nat.one_mul,Nat.mul_one,List.drop_zero] at h4 h5
 rw [<- h4]
 constructor
 ·rw [Nat.mul_add_div (by omega),Nat.div_eq_of_lt h5,Nat.add_zero]
 rw [Nat.mul_add_mod,Nat.mod_eq_of_lt h5]

theorem Fm {V R j n vt top:Nat} (hV:vt * 4294967296 ^ n <= V)(hvt:0 < vt)(hR:R < V * 4294967296 ^ (j + 1))(ht:top = R / 4294967296 ^ (j + n)) :
  R < (min (top / vt) 4294967295 + 1) * (V * 4294967296 ^ j):=by
 have hVp:0 < V:=by
  have:0 < vt * 4294967296 ^ n:=Nat.mul_pos hvt (Nat.pow_pos (by omega))
  omega
 have hp:0 < V * 4294967296 ^ j:=Nat.mul_pos hVp (Nat.pow_pos (by omega))
 have e1:=Nat.lt_div_mul_add (a:=R) hp
 have e2:=Nat.div_mul_le_self R (V * 4294967296 ^ j)
 have e3:R / (V * 4294967296 ^ j) < 4294967296:=by
  rw [Nat.div_lt_iff_lt_mul hp]
  rw [Nat.pow_succ] at hR
  have:4294967296 * (V * 4294967296 ^ j) = V * (4294967296 ^ j * 4294967296):=by grind
  omega
 generalize R / (V * 4294967296 ^ j) = q at *
 have e4:q <= top / vt:=by
  rw [Nat.le_div_iff_mul_le hvt,ht,Nat.le_div_iff_mul_le (Nat.pow_pos (by omega))]
  have h5:q * (vt * 4294967296 ^ n) * 4294967296 ^ j <= q * V * 4294967296 ^ j:=Nat.mul_le_mul_right _ (Nat.mul_le_mul_left _ hV)
  rw [Nat.pow_add]
  have h6:q * vt * (4294967296 ^ j * 4294967296 ^ n) = q * (vt * 4294967296 ^ n) * 4294967296 ^ j:=by grind
  have h7:q * V * 4294967296 ^ j = q * (V * 4294967296 ^ j):=by grind
  omega
 have e5:q + 1 <= min (top / vt) 4294967295 + 1:=by omega
 have e6:(q + 1) * (V * 4294967296 ^ j) <= (min (top / vt) 4294967295 + 1) * (V * 4294967296 ^ j):=Nat.mul_le_mul_right _ e5
 rw [Nat.add_mul,Nat.one_mul] at e6
 omega

theorem tS (a b s:Nat):a * 2 ^ s / (b * 2 ^ s) = a / b/\a * 2 ^ s % (b * 2 ^ s) = a % b * 2 ^ s :=
 ⟨Nat.mul_div_mul_right _ _ (Nat.pow_pos (by omega)),Nat.mul_mod_mul_right _ _ _⟩
end Go.Proofs.YtkdhppimhdemjaaGreat
namespace Go.Proofs
open Go.Shelf
def Tryz.lays128_ren:Go.Shelf.Ren:=⟨fun | 128=>235 | n=>n,fun | 51=>199 | 3=>3 | 4=>4 | 46=>209 | 5=>5 | 9=>9 | n=>n,fun | n=>n⟩
theorem Tryz.lays128:Go.Proofs.Lays.n128 Tryz.prog Tryz.lays128_ren:={
 mixed:=by kernel_rfl
 f128:=Tryz.func235.trans (congrArg some (by kernel_rfl))
 t3:=Tryz.underlying3
 a3:=Tryz.isAgg3
 z3:=Tryz.sizeOf3
 v3:=Tryz.zeroValue3
 t4:=Tryz.underlying4
 a4:=Tryz.isAgg4
 z4:=Tryz.sizeOf4
 v4:=Tryz.zeroValue4
 t5:=Tryz.underlying5
 a5:=Tryz.isAgg5
 z5:=Tryz.sizeOf5
 v5:=Tryz.zeroValue5
 t9:=Tryz.underlying9
 a9:=Tryz.isAgg9
 z9:=Tryz.sizeOf9
 v9:=Tryz.zeroValue9
 t46:=Tryz.underlying209
 a46:=Tryz.isAgg209
 z46:=Tryz.sizeOf209
 v46:=Tryz.zeroValue209
 t51:=Tryz.underlying199
 a51:=Tryz.isAgg199
 z51:=Tryz.sizeOf199
 v51:=Tryz.zeroValue199 }
theorem Tryz.bits_Len32 (x:Int) (w:World)(h0:0 <= x)(h1:x <= 4294967295) :
  Calls Tryz.prog 235 #[.int .u32 x] w fun e w'=>e = .returned (.int .i64 (Lib.bitLen x.toNat))/\w' = w:=Any.bits_Len32 Tryz.lays128 x w h0 h1
def Tryz.lays133_ren:Go.Shelf.Ren:=⟨fun | 133=>288 | 128=>235 | n=>n,fun | 51=>199 | 3=>3 | 4=>4 | 46=>209 | 5=>5 | 9=>9 | n=>n,fun | n=>n⟩
theorem Tryz.lays133:Go.Proofs.Lays.n133 Tryz.prog Tryz.lays133_ren:={
 mixed:=by kernel_rfl
 f128:=Tryz.func235.trans (congrArg some (by kernel_rfl))
 f133:=Tryz.func288.trans (congrArg some (by kernel_rfl))
 t3:=Tryz.underlying3
 a3:=Tryz.isAgg3
 z3:=Tryz.sizeOf3
 v3:=Tryz.zeroValue3
 t4:=Tryz.underlying4
 a4:=Tryz.isAgg4
 z4:=Tryz.sizeOf4
 v4:=Tryz.zeroValue4
 t5:=Tryz.underlying5
 a5:=Tryz.isAgg5
 z5:=Tryz.sizeOf5
 v5:=Tryz.zeroValue5
 t9:=Tryz.underlying9
 a9:=Tryz.isAgg9
 z9:=Tryz.sizeOf9
 v9:=Tryz.zeroValue9
 t46:=Tryz.underlying209
 a46:=Tryz.isAgg209
 z46:=Tryz.sizeOf209
 v46:=Tryz.zeroValue209
 t51:=Tryz.underlying199
 a51:=Tryz.isAgg199
 z51:=Tryz.sizeOf199
 v51:=Tryz.zeroValue199 }
theorem Tryz.bits_LeadingZeros32 (x:Int) (w:World)(h0:0 <= x)(h1:x <= 4294967295) :
  Calls Tryz.prog 288 #[.int .u32 x] w fun e w'=>e = .returned (.int .i64 (32 - (Lib.bitLen x.toNat:Int)))/\w' = w:=Any.bits_LeadingZeros32 Tryz.lays133 x w h0 h1
def Tryz.lays215_ren:Go.Shelf.Ren:=⟨fun | 215=>187 | n=>n,fun | 3=>3 | 4=>4 | n=>n,fun | n=>n⟩
theorem Tryz.lays215:Go.Proofs.Lays.n215 Tryz.prog Tryz.lays215_ren:={
 mixed:=by kernel_rfl
 f215:=Tryz.func187.trans (congrArg some (by kernel_rfl))
 t3:=Tryz.underlying3
 a3:=Tryz.isAgg3
 z3:=Tryz.sizeOf3
 v3:=Tryz.zeroValue3
 t4:=Tryz.underlying4
 a4:=Tryz.isAgg4
 z4:=Tryz.sizeOf4
 v4:=Tryz.zeroValue4 }
open Go.RowKit in
theorem Tryz.cmp_isNaN_int (x:Int) (w:World) :
  Calls Tryz.prog 187 #[.int .i64 x] w fun e w'=>e = .returned (.bool false)/\w' = w:=Any.cmp_isNaN_int Tryz.lays215 x w
def Tryz.lays122_ren:Go.Shelf.Ren:=⟨fun | 122=>120 | 215=>187 | n=>n,fun | 3=>3 | 4=>4 | n=>n,fun | n=>n⟩
theorem Tryz.lays122:Go.Proofs.Lays.n122 Tryz.prog Tryz.lays122_ren:={
 mixed:=by kernel_rfl
 f122:=Tryz.func120.trans (congrArg some (by kernel_rfl))
 f215:=Tryz.func187.trans (congrArg some (by kernel_rfl))
 t3:=Tryz.underlying3
 a3:=Tryz.isAgg3
 z3:=Tryz.sizeOf3
 v3:=Tryz.zeroValue3
 t4:=Tryz.underlying4
 a4:=Tryz.isAgg4
 z4:=Tryz.sizeOf4
 v4:=Tryz.zeroValue4 }
open Go.RowKit in
theorem Tryz.cmp_Compare_int (x y:Int) (w:World) :
  Calls Tryz.prog 120 #[.int .i64 x,.int .i64 y] w fun e w'=>e = .returned (.int .i64 (Lib.compareInt x y))/\w' = w:=Any.cmp_Compare_int Tryz.lays122 x y w
end Go.Proofs
namespace Go.Proofs.YtkdhppimhdemjaaGreat
open Go.RowKit
theorem vk (f x:Nat):Lib.bitLenAux f x <= f:=by
 induction f generalizing x with
 | zero=>simp [Lib.bitLenAux]
 | succ f ih =>
  simp only [Lib.bitLenAux]
  split
  ·omega
  have:=ih (x / 2); omega
theorem vj {x:Nat} (h:0 < x) (h':x < 4294967296):1 <= Lib.bitLen x/\Lib.bitLen x <= 32:=by
 constructor
 ·unfold Lib.bitLen
  simp only [Lib.bitLenAux]
  rw [if_neg (by omega)]
  omega
 have e:Lib.bitLen x = Lib.bitLenAux 32 x:=Lib.bitLenAux_fuel 32 x (by omega) 64 (by omega)
 rw [e]
 exact vk _ _

theorem IJ (d:Nat)(h:0 < d) (h':d < 4294967296):∃ s:Nat,s <= 31/\∀ w,Calls Tryz.prog 288 #[.int .u32 (d:Int)] w fun e w'=>e = .returned (.int .i64 (s:Int))/\w' = w:=by
 have hr:=vj h h'
 refine ⟨32 - Lib.bitLen d,by omega,fun w=>?_⟩
 have:=Tryz.bits_LeadingZeros32 (d:Int) w (by omega) (by omega)
 rw [Int.toNat_natCast,show (32:Int) - (Lib.bitLen d:Int) = ((32 - Lib.bitLen d:Nat):Int) by omega] at this
 exact this

theorem FO (w:World) (va:Value) (a k p:Nat) (B:Option Addr) (cb:Nat) (m:List Nat)(ha:ab w va a)(hb:bW w (.slice B m.length cb) m) (tm:cS m)(hp:m.length = p)(hp2:2 <= p) (la:a < 2 ^ k)(hk:k <= 17592186044416)(h:val m <= a) :
  Calls Tryz.prog 252 #[va,.slice B p cb] w fun e w'=>∃ q r,e = .returned (.tuple #[q,r])/\ab w' q (a / val m)/\ab w' r (a % val m)/\Below w.heap.size w w'/\bf q w.heap.size:=by
 have hbn:ab w (.slice B p cb) (val m):=⟨m,hp ▸ hb,tm,rfl⟩
 have c:=iq w va _ a (val m) ha hbn
 have hc:=vf h
 generalize fK a (val m) = cc at *
 have C:=Lib.hid c
 clear c
 obtain ⟨_,B',cb',hA,hlc,hcm,hB⟩:=hb.open_
 cases hA
 rcases hB with hB | ⟨b,off,rfl,hblt,hcell⟩
 ·subst hB; simp at hp; omega
 rw [hp] at hlc
 obtain ⟨d,hd⟩:∃ d,m[p - 1]? = some d:=⟨_,List.getElem?_eq_getElem (by omega)⟩
 have hd0:0 < d:=by
  rcases Nat.eq_zero_or_pos d with h0 | h0
  ·subst h0
   exfalso
   apply tm
   rw [List.getLast?_eq_getElem?,hp]
   exact hd
  exact h0
 have hd1:d < 4294967296:=hb.2.get hd
 have hc0:=hcell (p - 1) d hd
 obtain ⟨s,hs,lead⟩:=IJ d hd0 hd1
 have LEAD:=Lib.hid lead
 have hp1:((p:Int) == 1) = false:=by simp; omega
 have HA:=Lib.hid ha
 have HB:=Lib.hid hbn
 have hbk:val m < 2 ^ k:=Nat.lt_of_le_of_lt h la
 have HLA:=Lib.hid la
 have HLB:=Lib.hid hbk
 have HLE:=Lib.hid h
 have HDM:=Lib.hid hd
 clear hb hbn hcell hd lead ha la hbk h hp
 go_enter Tryz.func252,Tryz.ntmps252
 go_wp2_with fail
 go_step3
 go_wp2_with (go_at_call 180; refine C.out.mono ?_; rintro e w' ⟨rfl,nd,rfl⟩)
 go_wp2_with (go_at_call 288; refine (LEAD.out _).mono ?_; rintro e w' ⟨rfl,rfl⟩)
 have ua:a * 2 ^ s < 2 ^ (k + 31):=by
  rw [Nat.pow_add]
  exact Nat.mul_lt_mul_of_lt_of_le HLA.out (Nat.pow_le_pow_right (by omega) hs) (Nat.pow_pos (by omega))
 have ub:val m * 2 ^ s < 2 ^ (k + 31):=by
  rw [Nat.pow_add]
  exact Nat.mul_lt_mul_of_lt_of_le HLB.out (Nat.pow_le_pow_right (by omega) hs) (Nat.pow_pos (by omega))
 have hUV:val m * 2 ^ s <= a * 2 ^ s:=Nat.mul_le_mul_right _ HLE.out
 have hVp:0 < val m * 2 ^ s:=Nat.mul_pos (by
  rcases Nat.eq_zero_or_pos (val m) with h | h
  ·have:=tm.val_zero h; subst this; have:=HDM.out; simp at this
  ·exact h) (Nat.pow_pos (by omega))
 obtain ⟨U,hU⟩:∃ U,a * 2 ^ s = U:=⟨_,rfl⟩
 obtain ⟨V,hV⟩:∃ V,val m * 2 ^ s = V:=⟨_,rfl⟩
 rw [hU] at ua hUV
 rw [hV] at ub hUV hVp
 have UA:=Lib.hid ua
 have UB:=Lib.hid ub
 have HUV:=Lib.hid hUV
 have HVP:=Lib.hid hVp
 have HU:=Lib.hid hU
 have HV:=Lib.hid hV
 clear ua ub hUV hVp hU hV
 refine (Kb _ va a k s (HA.out.drewN nd) HLA.out (by omega) hs).mono ?_
 rintro e w1 ⟨vu,rfl,hu1,hb1⟩
 rw [HU.out] at hu1
 have HU1:=Lib.hid hu1
 have HB1:=Lib.hid (aN hb1)
 clear hu1 hb1
 go_wp2_with fail
 refine (Kb _ _ (val m) k s (HB.out.below HB1.out) HLB.out (by omega) hs).mono ?_
 rintro e w2 ⟨vv,rfl,hv1,hb1⟩
 rw [HV.out] at hv1
 obtain ⟨lu,du,tu,hlu⟩:=HU1.out.below hb1
 obtain ⟨lv,dv,tv,hlv⟩:=hv1
 have hlen:=fF (m:=lv) du.2 tv (by rw [hlu,hlv]; exact HUV.out)
 have lul:=tu.length_le (k:=k + 31) (by rw [hlu]; exact UA.out)
 have DU:=Lib.hid du
 have NU:=Lib.hid (show ab w2 vu U from ⟨lu,du,tu,hlu⟩)
 have NV:=Lib.hid (show ab w2 vv V from ⟨lv,dv,tv,hlv⟩)
 obtain ⟨oku,AU,cu,rfl,hnu,hcu,hUu⟩:=du.open_
 obtain ⟨okv,AV,cv,rfl,hnv,hcv,hVv⟩:=dv.open_
 obtain ⟨nu,hnu'⟩:∃ nu,lu.length = nu:=⟨_,rfl⟩
 obtain ⟨n,hn'⟩:∃ n,lv.length = n:=⟨_,rfl⟩
 have hvne:lv ≠ []:=fun e=>by subst e; have:=HVP.out; rw [<- hlv] at this; simp [val] at this
 have hnp:0 < lv.length:=List.length_pos_iff.2 hvne
 rcases hVv with hVv | ⟨b2,off2,rfl,hb2lt,hcell2⟩
 ·exact absurd hVv hvne
 obtain ⟨vt,hvt⟩:∃ vt,lv[n - 1]? = some vt:=⟨_,List.getElem?_eq_getElem (by omega)⟩
 have hvt0:0 < vt:=by
  rcases Nat.eq_zero_or_pos vt with h0 | h0
  ·subst h0
   exfalso
   apply tv
   rw [List.getLast?_eq_getElem?,hn']
   exact hvt
  exact h0
 have hvt1:vt < 4294967296:=okv.get hvt
 have hct:=hcell2 (n - 1) vt hvt
 have hVge:vt * 4294967296 ^ (n - 1) <= V:=by
  rw [<- hlv]
  have e:=aL lv (n - 1)
  rw [aO (by omega),List.getD_eq_getElem?_getD,hvt] at e
  rw [e,Nat.mul_comm]
  exact Nat.le_add_left _ _
 rw [hnu'] at hlen lul hnu DU NU ⊢
 rw [hn'] at hlen hnv hnp NV ⊢
 have HUlt:Hid (U < V * 4294967296 ^ (nu - n + 1)):=Lib.hid (by
  have e1:=eo lu oku
  rw [hlu,hnu'] at e1
  have e2:=tv.ge hvne
  rw [hlv,hn'] at e2
  have e3:4294967296 ^ (n - 1) * 4294967296 ^ (nu - n + 1) <= V * 4294967296 ^ (nu - n + 1):=Nat.mul_le_mul_right _ e2
  rw [<- Nat.pow_add,show n - 1 + (nu - n + 1) = nu by omega] at e3
  omega)
 have HVlt:Hid (V < 4294967296 ^ n):=Lib.hid (by rw [<- hlv,<- hn']; exact eo lv okv)
 have HVG:=Lib.hid hVge
 have HB2:=Lib.hid (HB1.out.trans (hb1.mono HB1.out.size))
 have HNU:=Lib.hid hnu'
 clear hb1 du dv tu tv hlu hlv oku okv hUu hVge hvt hcell2 hnu' hn' hvne
 obtain ⟨i0,hi,hz0,hz1,hz2⟩:=info_parts dB
 obtain ⟨M,hM1,hM2⟩:∃ M:Nat,nu + 1 <= M + n/\M + n <= nu + 1:=⟨nu + 1 - n,by omega,by omega⟩
 go_wp2_with (at_make; refine aV rfl _ _ 28 rfl 199 i0 (.int .u32 0) 4 Tryz.underlying28 hi hz0 hz1 hz2 rfl .i64 .i64 _ _ M rfl rfl (by omega) (by omega) (by omega) (by unfold maxLen; omega) ?_)
 intro w3 hblk hb3
 have cl:Calls Tryz.prog 179 #[.slice AU nu cu] w3 fun e w'=>∃ v',e = .returned v'/\ab w' v' U/\Below w3.heap.size w3 w'/\bf v' w3.heap.size:=by
  obtain ⟨l',d',t',rfl⟩:=NU.out.below hb3
  have:=fQ w3 _ l'.length (l'.map dg) d'.1 (mD l') (by have:=t'.length_le UA.out; omega)
  refine this.mono ?_
  rintro e w' ⟨v',rfl,h1,h2,base,hbase,hown⟩
  exact ⟨v',rfl,⟨l',⟨h1,d'.2⟩,t',rfl⟩,h2,(bf.of_own hown).mono hbase⟩
 have CL:=Lib.hid cl
 have HBK:=Lib.hid (DB.of_blk (e:=199) (o:=List.replicate M 0) (g:=w2.heap.size) (w:=w3) (by simpa [dg] using hblk))
 have HB3:=Lib.hid hb3
 have HCT:=Lib.hid hct
 clear cl hblk hb3 hct
 go_wp2_with (go_at_call 179; refine CL.out.mono ?_; rintro e w4 ⟨vr0,rfl,hr4,hb4,hf4⟩)
 have HR4:=Lib.hid hr4
 have HF4:=Lib.hid (hf4.mono (B':=w2.heap.size + 1) (by have:=HBK.out.lt; omega))
 have HB4:=Lib.hid (HB3.out.trans (hb4.mono HB3.out.size))
 have HBK4:=Lib.hid (HBK.out.below hb4)
 have HST:Hid (gW V U U (List.replicate M 0) M):=Lib.hid (gW.start (by rw [show M = nu - n + 1 by omega]; exact HUlt.out))
 clear hr4 hb4 hf4
 go_wp2_with fail
 go_step3
 go_wp2_with fail
 go_loopg [13,14] M (fun g vr j wr=>∃ (q:Int) (R:Nat) (o:List Nat),j = .int .i64 q/\q + 1 = g/\g <= M/\(ab wr vr R/\bf vr (w2.heap.size + 1))/\gW V U R o g/\o.length = M/\DB wr w2.heap.size o/\Below w2.heap.size w2 wr)
 case atStart=>exact ⟨_,U,List.replicate M 0,rfl,by omega,Nat.le_refl _,⟨HR4.out,HF4.out⟩,HST.out,by simp,HBK4.out,HB4.out⟩
 obtain ⟨q,R,o,rfl,hq,hgM,⟨hr,hfr⟩,hdiv,hol,hdb,hbel⟩:=hrel
 have HFR:=Lib.hid hfr
 clear hfr
 have HR:=Lib.hid hr
 have HDIV:=Lib.hid hdiv
 have HOL:=Lib.hid hol
 have HDB:=Lib.hid hdb
 have HBEL:=Lib.hid hbel
 have hsz:=hbel.size
 clear hr hdiv hol hdb
 rcases Nat.eq_zero_or_pos gk with h0 | h0
 ·subst h0
  obtain rfl:q = -1:=by omega
  clear hq hbel
  have dn:=HDIV.out.done
  have DD:=Lib.hid (HDB.out.digAt HDIV.out.1 HOL.out (Nat.le_refl _) (by omega))
  have DN:=Lib.hid dn
  have RK:Hid (R < 2 ^ (k + 31)):=Lib.hid (Nat.lt_of_le_of_lt (by rw [dn.2]; exact Nat.mod_le _ _) UA.out)
  clear dn
  go_wp2_with fail
  refine (jY wr _ o DD.out (by rw [HOL.out]; omega)).mono ?_
  rintro e w5 ⟨vq,rfl,hq5,hb5,hf5⟩
  have HQ5:=Lib.hid hq5
  have HF5:=Lib.hid (hf5.mono (Nat.le_trans HB2.out.size hsz))
  have HR5:=Lib.hid (HR.out.below hb5)
  have HB5:=Lib.hid (HBEL.out.trans (hb5.mono hsz))
  clear hq5 hb5 hf5
  go_wp2_with fail
  refine (down w5 _ R (k + 31) s HR5.out RK.out (by omega) hs).mono ?_
  rintro e w6 ⟨vd,rfl,hd6,hb6⟩
  have HQ6:=Lib.hid (HQ5.out.below hb6)
  have HB6:=Lib.hid (HB5.out.trans (hb6.mono HB5.out.size))
  have HD6:=Lib.hid hd6
  clear hd6 hb6
  go_wp2_with fail
  try rw [Exit.noGoto_ret]
  go_ret2
  have e1:=DN.out
  rw [<- HU.out,<- HV.out,(tS a (val m) s).1,(tS a (val m) s).2] at e1
  have e2:R / 2 ^ s = a % val m:=by rw [e1.2]; exact Nat.mul_div_cancel _ (Nat.pow_pos (by omega))
  rw [<- e1.1,<- e2]
  exact ⟨_,_,rfl,HQ6.out,HD6.out,HB2.out.trans (HB6.out.mono HB2.out.size),HF5.out⟩
 obtain ⟨j,rfl⟩:∃ j,gk = j + 1:=⟨gk - 1,by omega⟩
 obtain rfl:q = j:=by omega
 clear hq h0
 obtain ⟨lr,dr,tr,hlr⟩:=HR.out
 obtain ⟨d1,hd1'⟩:∃ x,lr.getD (j + n) 0 = x:=⟨_,rfl⟩
 obtain ⟨d0,hd0'⟩:∃ x,lr.getD (j + n - 1) 0 = x:=⟨_,rfl⟩
 have b1:d1 < 4294967296:=by rw [<- hd1']; exact dr.2.getD _
 have b0:d0 < 4294967296:=by rw [<- hd0']; exact dr.2.getD _
 have c1:∀ W,W = wr->Calls Tryz.prog 290 #[u13,.int .i64 ((j:Int) + (n:Int))] W fun e w'=>e = .returned (.int .u64 (d1:Int))/\W = w':=by
  intro W hW
  rw [hW]
  have:=FQ wr u13 lr ((j:Int) + (n:Int)) dr (by omega) (by omega)
  rw [if_neg (by omega),show ((j:Int) + (n:Int)).toNat = j + n by omega,hd1'] at this
  exact this.mono fun _ _ ⟨h1,h2⟩=>⟨h1,h2.symm⟩
 have c0:∀ W,W = wr->Calls Tryz.prog 290 #[u13,.int .i64 ((j:Int) + (n:Int) - 1)] W fun e w'=>e = .returned (.int .u64 (d0:Int))/\W = w':=by
  intro W hW
  rw [hW]
  have:=FQ wr u13 lr ((j:Int) + (n:Int) - 1) dr (by omega) (by omega)
  rw [if_neg (by omega),show ((j:Int) + (n:Int) - 1).toNat = j + n - 1 by omega,hd0'] at this
  exact this.mono fun _ _ ⟨h1,h2⟩=>⟨h1,h2.symm⟩
 obtain ⟨T,hT⟩:∃ T,T = d1 * 4294967296 + d0:=⟨_,rfl⟩
 have hTb:T < 18446744073709551616:=by omega
 have hTR:T = R / 4294967296 ^ (j + (n - 1)):=by
  rw [hT,<- hd1',<- hd0',<- hlr,show j + n = (j + (n - 1)) + 1 by omega,show j + (n - 1) + 1 - 1 = j + (n - 1) by omega]
  refine Hj dr.2 ?_
  rw [hlr]
  have h1:=HDIV.out.2.2.2.2
  have h2:V * 4294967296 ^ (j + 1) < 4294967296 ^ n * 4294967296 ^ (j + 1):=Nat.mul_lt_mul_of_pos_right HVlt.out (Nat.pow_pos (by omega))
  rw [<- Nat.pow_add,show n + (j + 1) = j + (n - 1) + 2 by omega] at h2
  omega
 have hG:=Fm (V:=V) (R:=R) (j:=j) (n:=n - 1) (vt:=vt) (top:=T) HVG.out hvt0 HDIV.out.2.2.2.2 hTR
 have hor:=K4 d1 d0 b1 b0
 rw [<- hT] at hor
 obtain ⟨Q,hQ⟩:∃ Q,T / vt = Q:=⟨_,rfl⟩
 have hQb:Q <= T:=by rw [<- hQ]; exact Nat.div_le_self _ _
 have hdv:(T:Int) / (vt:Int) = (Q:Int):=by rw [<- hQ,Int.natCast_ediv]
 rw [hQ] at hG
 have HG:=Lib.hid hG
 have C1:=Lib.hid c1
 have C0:=Lib.hid c0
 have hctr:=(hbel.cell (p:=⟨b2,off2 + (n - 1),none⟩) hb2lt).trans HCT.out
 have NVR:=Lib.hid (NV.out.below hbel)
 clear hG c1 c0 hT hTR hlr tr dr hd1' hd0' hbel hQ
 go_wp2_with fail
 refine (C1.out _ rfl).mono ?_
 rintro e w' ⟨rfl,rfl⟩
 go_wp2_with fail
 refine (C0.out _ rfl).mono ?_
 rintro e w' ⟨rfl,rfl⟩
 go_wp2_with fail
 have RK:Hid (R < 2 ^ (k + 31)):=Lib.hid (by
  have h1:=HDIV.out.2.2.2.1
  have h2:=UA.out
  omega)
 have RJ:=Lib.hid (show j <= 4398046511104 by omega)
 clear hor hdv hctr hTb hQb b1 b0
 obtain ⟨wo,rfl⟩:∃ wo:World,wo = wr:=⟨_,rfl⟩
 go_loopg [13,16] (min Q 4294967295) (fun g2 vr gs wx=>gs = .int .u64 (g2:Int)/\g2 <= 4294967295/\(ab wx vr R/\bf vr (w2.heap.size + 1))/\R < (g2 + 1) * (V * 4294967296 ^ j)/\Below wo.heap.size wo wx)
 case atStart=>exact ⟨ez (by omega),by omega,⟨HR.out,HFR.out⟩,HG.out,Below.refl _ _⟩
 obtain ⟨rfl,hg2,⟨hrx,hfx⟩,hRg,hbx⟩:=hrel
 have HFX:=Lib.hid hfx
 clear hfx
 have HRG:=Lib.hid hRg
 have HBX:=Lib.hid hbx
 have HRX:=Lib.hid hrx
 have HDX:=Lib.hid (HDB.out.below hbx)
 have NVX:=Lib.hid (NVR.out.below hbx)
 have hszx:=hbx.size
 have HBW:=Lib.hid (HBEL.out.trans (hbx.mono hsz))
 clear C1 C0 CL HBK HB3 HCT HR4 HB4 HBK4 HST C HA HB HLA HLB HLE HDM LEAD hc0 hd0 hd1 hp1 hp2 hblt HB1 NU DU HUlt HVlt HVG HNU HUV HVP HU HV HU1 hc hi hz0 hz1 hz2 hvt0 hvt1 tm
 clear hRg hbx hrx
 rcases Nat.eq_zero_or_pos gk with h0 | h0
 ·subst h0
  have dv:=HDIV.out.skip (by have:=HRG.out; rw [Nat.zero_add,Nat.one_mul] at this; exact this)
  have DV:=Lib.hid dv
  clear dv
  go_wp2_with fail
  go_roundg j
  case measure=>omega
  case rel=>exact ⟨(j:Int) - 1,R,o,rfl,by omega,by omega,⟨HRX.out,HFX.out⟩,DV.out,HOL.out,HDX.out,HBW.out⟩
 have hne:((gk:Int) != 0) = true:=by simp; omega
 go_wp2_with fail
 refine (vX wr gk (by omega)).mono ?_
 rintro e w5 ⟨v5,rfl,h5,hb5⟩
 have H5:=Lib.hid h5
 have NV5:=Lib.hid (NVX.out.below hb5)
 have BX5:=Lib.hid (HBX.out.trans (hb5.mono hszx))
 have BR5:=Lib.hid hb5
 clear h5 hb5
 go_wp2_with fail
 have gb:gk < 2 ^ 32:=by omega
 refine (mul w5 _ _ V gk (k + 31) 32 NV5.out H5.out UB.out gb (by omega) (by omega)).mono ?_
 rintro e w6 ⟨v6,rfl,h6,hb6⟩
 have H6:=Lib.hid h6
 have BX6:=Lib.hid (BX5.out.trans (hb6.mono BX5.out.size))
 have PB:Hid (V * gk < 2 ^ (k + 31 + 32)):=Lib.hid (by
  rw [Nat.pow_add]
  exact Nat.mul_lt_mul_of_lt_of_le UB.out (Nat.le_of_lt gb) (Nat.pow_pos (by omega)))
 have BR6:=Lib.hid (BR5.out.trans (hb6.mono BR5.out.size))
 clear h6 hb6 gb
 go_wp2_with fail
 refine (Hq w6 _ (V * gk) (k + 31 + 32) j H6.out PB.out (by omega) RJ.out).mono ?_
 rintro e w7 ⟨v7,rfl,h7,hb7⟩
 have H7:=Lib.hid h7
 have BX7:=Lib.hid (BX6.out.trans (hb7.mono BX6.out.size))
 clear h7
 have BR7:Hid (Below wr.heap.size wr w7):=Lib.hid (BR6.out.trans (hb7.mono BR6.out.size))
 have R7:=Lib.hid (HRX.out.below BR7.out)
 clear hb7
 have c:=iq w7 v7 _ _ R H7.out R7.out
 have RB:Hid (R < 2 ^ (k + 31)):=RK
 by_cases hle:V * gk * 4294967296 ^ j <= R
 ·have hcc:fK (V * gk * 4294967296 ^ j) R <= 0:=by
   unfold fK; split <;> (try split) <;> omega
  generalize fK (V * gk * 4294967296 ^ j) R = c2 at *
  have hdec:decide (0 < c2) = false:=by rw [decide_eq_false_iff_not]; omega
  clear hcc
  have C2:=Lib.hid c
  have HLE2:=Lib.hid hle
  clear c hle
  go_wp2_with fail
  refine C2.out.mono ?_
  rintro e w' ⟨rfl,nd2,rfl⟩
  go_wp2_with fail
  refine (MN _ _ _ R _ (k + 31) (R7.out.drewN nd2) (H7.out.drewN nd2) RB.out HLE2.out (by omega)).mono ?_
  rintro e w8 ⟨v8,rfl,h8,hb8,hf8⟩
  have BX8:=Lib.hid (BX7.out.trans ((aN hb8).mono BX7.out.size))
  have D8:=Lib.hid (HDB.out.below BX8.out)
  have H8:=Lib.hid (h8.setFar (p:=⟨w2.heap.size,j,none⟩) (hf8.mono (B':=w2.heap.size + 1) (by have:=HDX.out.lt; have:=BR7.out.size; show w2.heap.size + 1 <= w7.heap.size; omega)) (Nat.lt_succ_self _) (.int .u32 (gk:Int)))
  have HF8:=Lib.hid (hf8.mono (B':=w2.heap.size + 1) (by have:=HDX.out.lt; have:=BR7.out.size; show w2.heap.size + 1 <= w7.heap.size; omega))
  have HBW8:=Lib.hid (HBEL.out.trans (BX8.out.mono hsz))
  clear h8 hb8 hf8
  have dv:=HDIV.out.step (q:=gk) (by omega) HLE2.out HRG.out
  have DV:=Lib.hid dv
  have hjo:j < o.length:=by rw [HOL.out]; omega
  have HJO:=Lib.hid hjo
  have hz:=D8.out.cell hjo
  have hfz:=D8.out.frozen j
  clear dv hjo
  go_wp2_with fail
  go_roundg j
  case measure=>omega
  case rel=>exact ⟨(j:Int) - 1,_,o.set j gk,rfl,by omega,by omega,⟨H8.out,HF8.out⟩,DV.out,by rw [List.length_set]; exact HOL.out,D8.out.set HJO.out rfl,HBW8.out.setCell (p:=⟨w2.heap.size,j,none⟩) (Nat.le_refl _) _⟩
 have hcc:fK (V * gk * 4294967296 ^ j) R = 1:=ir (by omega)
 rw [hcc] at c
 have C2:=Lib.hid c
 have HLE2:=Lib.hid hle
 clear c hle hcc
 go_wp2_with fail
 refine C2.out.mono ?_
 rintro e w' ⟨rfl,nd2,rfl⟩
 obtain ⟨g,rfl⟩:∃ g,gk = g + 1:=⟨gk - 1,by omega⟩
 have RG:Hid (R < (g + 1) * (V * 4294967296 ^ j)):=Lib.hid (by
  have h1:=HLE2.out
  have h2:(g + 1) * (V * 4294967296 ^ j) = V * (g + 1) * 4294967296 ^ j:=by grind
  omega)
 go_wp2_with fail
 go_roundg g
 case measure=>omega
 case rel=>exact ⟨rfl,by omega,⟨R7.out.drewN nd2,HFX.out⟩,RG.out,aJ BX7.out nd2⟩
theorem OG (w:World) (va vb:Value) (a b k:Nat)(ha:ab w va a)(hb:ab w vb b) (la:a < 2 ^ k)(hk:k <= 17592186044416)(h0:0 < b) :
  Calls Tryz.prog 252 #[va,vb] w fun e w'=>∃ q r,e = .returned (.tuple #[q,r])/\ab w' q (a / b)/\ab w' r (a % b)/\Below w.heap.size w w'/\bf q w.heap.size:=by
 rcases Nat.lt_or_ge a b with h | h
 ·exact LC w va vb a b k ha hb la (by omega) h
 obtain ⟨m,dm,tm,rfl⟩:=hb
 obtain ⟨_,A,c,rfl,_,_,_⟩:=dm.open_
 rcases Nat.lt_or_ge m.length 2 with h1 | h1
 ·match m,h1 with
  | [],_=>simp [val] at h0
  | [d],_ =>
   simp only [val,Nat.mul_zero,Nat.add_zero] at h h0 ⊢
   exact div_one w va a d k A c ha dm la (by omega) h0 h
 exact FO w va a k m.length A c m ha dm tm rfl h1 la hk h

theorem gcd (w:World) (va vb:Value) (a b k:Nat)(ha:ab w va a)(hb:ab w vb b) (la:a < 2 ^ k) (lb:b < 2 ^ k)(hk:k <= 17592186044416) :
  Calls Tryz.prog 251 #[va,vb] w fun e w'=>∃ v',e = .returned v'/\ab w' v' (Nat.gcd a b)/\Below w.heap.size w w':=by
 have HA:=Lib.hid ha
 have HB:=Lib.hid hb
 have LA:=Lib.hid la
 have LB:=Lib.hid lb
 clear ha hb la lb
 go_enter Tryz.func251,Tryz.ntmps251
 go_wp2_with fail
 go_loopg [0,1] b (fun g va vb wr=>∃ x,ab wr va x/\ab wr vb g/\Nat.gcd x g = Nat.gcd a b/\x < 2 ^ k/\g < 2 ^ k/\Below w.heap.size w wr)
 case atStart=>exact ⟨a,HA.out,HB.out,rfl,LA.out,LB.out,Below.refl _ _⟩
 obtain ⟨x,hx,hy,hg,lx,ly,hbel⟩:=hrel
 obtain ⟨m,dm,tm,hm⟩:=hy
 obtain ⟨_,A,c,rfl,hlc,hcm,_⟩:=dm.open_
 have HY:=Lib.hid (show ab wr (.slice A m.length c) gk from ⟨m,dm,tm,hm⟩)
 have h0:=tm.eq_nil
 rw [hm] at h0
 have H0:=Lib.hid h0
 have HX:=Lib.hid hx
 have HG:=Lib.hid hg
 have LX:=Lib.hid lx
 have LY:=Lib.hid ly
 have HBEL:=Lib.hid hbel
 clear hx dm tm hm hg lx ly hbel h0
 rcases Nat.eq_zero_or_pos gk with h | h
 ·subst h
  have hm:m = []:=H0.out.1 rfl
  subst hm
  go_wp2_with fail
  go_ret
  have hg:=HG.out
  rw [Nat.gcd_zero_right] at hg
  rw [<- hg]
  exact ⟨_,rfl,HX.out,HBEL.out⟩
 have hml:0 < m.length:=List.length_pos_iff.2 fun e=>by have:=H0.out.2 e; omega
 go_wp2_with (go_at_call 252; refine (OG wr _ _ x gk k HX.out HY.out LX.out hk h).mono ?_; rintro e w1 ⟨q,r,rfl,hq,hr,hb1,_⟩)
 have HR:=Lib.hid hr
 have HY1:=Lib.hid (HY.out.below hb1)
 have HB1:=Lib.hid (HBEL.out.trans (hb1.mono HBEL.out.size))
 clear hq hr hb1
 go_wp2_with fail
 have hlt:=Nat.mod_lt x h
 go_roundg (x % gk)
 case measure=>exact hlt
 case rel=>exact ⟨gk,HY1.out,HR.out,by rw [<- HG.out,Nat.gcd_comm x gk,Nat.gcd_rec gk x,Nat.gcd_comm],LY.out,Nat.lt_of_lt_of_le hlt (Nat.le_of_lt LY.out),HB1.out⟩
def dV (neg:Bool) (n:Nat):Int:=if neg then -(n:Int) else (n:Int)

theorem jn (neg:Bool) (n:Nat):(dV neg n).natAbs = n:=by unfold dV; split <;> simp

theorem Hs (neg:Bool) (n g:Nat)(h:g ∣ n):dV neg n / (g:Int) = dV neg (n / g):=by
 unfold dV
 split
 ·rw [Int.neg_ediv_of_dvd (Int.natCast_dvd_natCast.2 h),Int.natCast_ediv]
 rw [Int.natCast_ediv]

theorem red (neg:Bool) (n d:Nat)(hd:0 < d):(mkRat (dV neg n) d).num = dV neg (n / Nat.gcd n d)/\(mkRat (dV neg n) d).den = d / Nat.gcd n d:=by
 rw [Rat.num_mkRat,Rat.den_mkRat,if_neg (by omega),if_neg (by omega),jn,Nat.gcd_comm d n]
 exact ⟨Hs _ _ _ (Nat.gcd_dvd_left n d),rfl⟩

def ap (q:Rat):Bool:=decide (q.num < 0)

theorem oC {q:Rat} {neg:Bool} {m:Nat} (h:q.num = dV neg m):ap q = (neg && decide (0 < m)):=by
 unfold ap
 rw [h]
 unfold dV
 cases neg <;> simp <;> omega

theorem f6 (q:Rat):q.num = dV (ap q) q.num.natAbs:=by
 unfold dV ap
 by_cases h:q.num < 0
 ·simp [h]; omega
 simp [h]; omega

theorem s8 (q:Rat):ap q = true ↔ q < 0:=by
 unfold ap
 rw [decide_eq_true_iff,Rat.lt_iff]
 simp

def QB (k:Nat) (q:Rat):Prop:=q.num.natAbs < 2 ^ k/\q.den < 2 ^ k

theorem QB.mono {k k':Nat} {q:Rat} (h:QB k q)(hk:k <= k'):QB k' q :=
 ⟨Nat.lt_of_lt_of_le h.1 (Nat.pow_le_pow_right (by omega) hk),Nat.lt_of_lt_of_le h.2 (Nat.pow_le_pow_right (by omega) hk)⟩
theorem QB.neg {k:Nat} {q:Rat} (h:QB k q):QB k (-q):=by
 refine ⟨?_,h.2⟩
 rw [Rat.neg_num,Int.natAbs_neg]
 exact h.1
theorem QB.red {k n d:Nat} {neg:Bool} (hn:n < 2 ^ k)(hd:d < 2 ^ k)(h0:0 < d):QB k (mkRat (dV neg n) d):=by
 obtain ⟨h1,h2⟩:=Go.Proofs.YtkdhppimhdemjaaGreat.red neg n d h0
 refine ⟨?_,?_⟩
 ·rw [h1,jn]; exact Nat.lt_of_le_of_lt (Nat.div_le_self _ _) hn
 rw [h2]; exact Nat.lt_of_le_of_lt (Nat.div_le_self _ _) hd
theorem aR {a b j k:Nat} (ha:a < 2 ^ j)(hb:b < 2 ^ k):a * b < 2 ^ (j + k):=by
 rw [Nat.pow_add]
 exact Nat.mul_lt_mul'' ha hb

theorem vA (a b:Rat):a + b = mkRat (a.num * b.den + b.num * a.den) (a.den * b.den):=Rat.add_def' a b
theorem AZ (a b:Rat):a * b = mkRat (dV (ap a != ap b) (a.num.natAbs * b.num.natAbs)) (a.den * b.den):=by
 rw [Rat.mul_def']
 congr 1
 conv=>lhs; rw [f6 a,f6 b]
 unfold dV
 cases ap a <;> cases ap b <;> simp [Int.natCast_mul,Int.neg_mul,Int.mul_neg]
theorem ye (a b:Rat)(h:ap a = ap b):a + b = mkRat (dV (ap a) (a.num.natAbs * b.den + b.num.natAbs * a.den)) (a.den * b.den):=by
 rw [vA]
 congr 1
 conv=>lhs; rw [f6 a,f6 b,<- h]
 unfold dV
 cases ap a <;> simp [Int.natCast_mul,Int.natCast_add,Int.neg_mul] <;> omega
theorem yg (a b:Rat)(h:ap a ≠ ap b)(hlt:a.num.natAbs * b.den < b.num.natAbs * a.den):a + b = mkRat (dV (ap b) (b.num.natAbs * a.den - a.num.natAbs * b.den)) (a.den * b.den):=by
 rw [vA]
 congr 1
 conv=>lhs; rw [f6 a,f6 b]
 unfold dV
 cases ha:ap a <;> cases hb:ap b <;> simp_all [Int.neg_mul] <;> rw [Int.natCast_sub (by omega)] <;> simp [Int.natCast_mul] <;> omega
theorem yf (a b:Rat)(h:ap a ≠ ap b)(hlt:b.num.natAbs * a.den <= a.num.natAbs * b.den):a + b = mkRat (dV (ap a) (a.num.natAbs * b.den - b.num.natAbs * a.den)) (a.den * b.den):=by
 rw [vA]
 congr 1
 conv=>lhs; rw [f6 a,f6 b]
 unfold dV
 cases ha:ap a <;> cases hb:ap b <;> simp_all [Int.neg_mul] <;> rw [Int.natCast_sub (by omega)] <;> simp [Int.natCast_mul] <;> omega

theorem QB.mul {j k:Nat} {a b:Rat} (ha:QB j a)(hb:QB k b):QB (j + k) (a * b):=by
 rw [AZ]
 exact QB.red (aR ha.1 hb.1) (aR ha.2 hb.2) (Nat.mul_pos a.den_pos b.den_pos)
theorem QB.add {j k:Nat} {a b:Rat} (ha:QB j a)(hb:QB k b):QB (j + k + 1) (a + b):=by
 have h1:=aR ha.1 hb.2
 have h2:=aR hb.1 ha.2
 rw [Nat.add_comm k j] at h2
 have h3:=aR ha.2 hb.2
 have h4:2 ^ (j + k + 1) = 2 ^ (j + k) + 2 ^ (j + k):=by rw [Nat.pow_succ]; omega
 have h0:=Nat.mul_pos a.den_pos b.den_pos
 by_cases h:ap a = ap b
 ·rw [ye a b h]
  exact QB.red (by omega) (by omega) h0
 rcases Nat.lt_or_ge (a.num.natAbs * b.den) (b.num.natAbs * a.den) with h' | h'
 ·rw [yg a b h h']
  exact QB.red (by omega) (by omega) h0
 rw [yf a b h h']
 exact QB.red (by omega) (by omega) h0
theorem QB.inv {k:Nat} {a:Rat} (ha:QB k a)(hk:0 < k):QB k a⁻¹:=by
 refine ⟨?_,?_⟩
 ·rw [Rat.num_inv,Int.natAbs_mul,Int.natAbs_natCast]
  by_cases h:a.num = 0
  ·rw [h]; simpa using Nat.pow_pos (by omega)
  rw [Int.natAbs_sign_of_ne_zero h,Nat.one_mul]; exact ha.2
 rw [Rat.den_inv]
 split
 ·exact Nat.one_lt_two_pow (by omega)
 exact ha.1
end Go.Proofs.YtkdhppimhdemjaaGreat
