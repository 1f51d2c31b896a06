/- Lemmas on the way: Nat5, Shf, Nat6, Nat8, Nat7, Nat9. -/
import Derived.Test.YtkdhppimhdemjaaGreatU04
import Derived.Laws.BitsAllLaws
import Derived.Deep.RegionWith
set_option linter.all false
set_option maxRecDepth 1000000
set_option maxHeartbeats 32000000
namespace Go.Proofs.YtkdhppimhdemjaaGreat
open Go.RowKit
theorem Ab {o:List Nat} {k d:Nat} (r:Nat)(h:o[k]? = some d):val (o.set k r) + 4294967296 ^ k * d = val o + 4294967296 ^ k * r:=by
 induction o generalizing k with
 | nil=>simp at h
 | cons x o ih =>
  cases k with
  | zero=>simp at h; subst h; simp [val]; omega
  | succ k =>
   simp at h
   have:=ih h
   simp only [List.set_cons_succ,val,Nat.pow_succ]
   generalize 4294967296 ^ k = z at *
   grind

def gS (l m o:List Nat) (i:Nat):Prop:=Ok o/\o.length = l.length + m.length/\val (o.take (i + m.length)) = val (l.take i) * val m
def pF (l m o:List Nat) (i x j c:Nat):Prop:=Ok o/\o.length = l.length + m.length/\c < 4294967296 /\
 val (o.take (i + m.length)) + 4294967296 ^ (i + j) * c = val (l.take i) * val m + 4294967296 ^ i * x * val (m.take j)

theorem gS.start (l m:List Nat):gS l m (List.replicate (l.length + m.length) 0) 0 :=
 ⟨Ok.replicate _,by simp,by rw [List.take_replicate,eB]; simp [val]⟩
theorem gS.row {l m o:List Nat} {i:Nat} (h:gS l m o i) (x:Nat):pF l m o i x 0 0 :=
 ⟨h.1,h.2.1,by omega,by rw [h.2.2]; simp [val]⟩
theorem ow {x y:Nat} (hx:x < 4294967296)(hy:y < 4294967296):x * y <= 18446744065119617025:=by
 have:x * y <= 4294967295 * 4294967295:=Nat.mul_le_mul (by omega) (by omega)
 omega
theorem pF.step {l m o:List Nat} {i x j c y d:Nat} (h:pF l m o i x j c)(hx:x < 4294967296)(hd:o.getD (i + j) 0 = d)(hy:m.getD j 0 = y) (hy':y < 4294967296)(hi:i < l.length)(hj:j < m.length) :
  pF l m (o.set (i + j) ((c + (x * y + d)) % 4294967296)) i x (j + 1) ((c + (x * y + d)) / 4294967296):=by
 obtain ⟨h1,h2,h3,h4⟩:=h
 have hk:i + j < o.length:=by omega
 have hd':o[i + j]? = some d:=by
  rw [<- hd,List.getD_eq_getElem?_getD,List.getElem?_eq_getElem hk]; rfl
 have hdl:=h1.get hd'
 have hxy:=ow hx hy'
 refine ⟨h1.set _ _ (Nat.mod_lt _ (by omega)),by simpa using h2,by omega,?_⟩
 rw [List.take_set]
 have e1:=Ab ((c + (x * y + d)) % 4294967296) (o:=o.take (i + m.length)) (k:=i + j) (d:=d) (by rw [List.getElem?_take_of_lt (by omega)]; exact hd')
 have e2:=Nat.div_add_mod (c + (x * y + d)) 4294967296
 rw [aL,hy]
 have e3:4294967296 ^ (i + (j + 1)) = 4294967296 ^ (i + j) * 4294967296:=by rw [<- Nat.add_assoc,Nat.pow_succ]
 have e4:4294967296 ^ (i + j) = 4294967296 ^ i * 4294967296 ^ j:=Nat.pow_add _ _ _
 have e5:4294967296 ^ (i + j) * (c + (x * y + d)) = 4294967296 ^ (i + j) * (4294967296 * ((c + (x * y + d)) / 4294967296) + (c + (x * y + d)) % 4294967296):=by rw [e2]
 rw [e3]
 generalize (c + (x * y + d)) / 4294967296 = q at *
 generalize (c + (x * y + d)) % 4294967296 = r at *
 generalize val ((List.take (i + m.length) o).set (i + j) r) = V at *
 generalize val (List.take (i + m.length) o) = W at *
 generalize val (List.take i l) * val m = U at *
 generalize val (List.take j m) = M at *
 rw [e4] at *
 generalize 4294967296 ^ i = z at *
 generalize 4294967296 ^ j = t at *
 clear h1 h2 h3 hk hd hd' hdl hxy hy hy' hi hj e3 e4 e2
 grind
theorem pF.done {l m o:List Nat} {i x c:Nat} (h:pF l m o i x m.length c)(hx:l.getD i 0 = x)(hi:i < l.length):gS l m (o.set (i + m.length) c) (i + 1):=by
 obtain ⟨h1,h2,h3,h4⟩:=h
 refine ⟨h1.set _ _ h3,by simpa using h2,?_⟩
 rw [show i + 1 + m.length = i + m.length + 1 by omega,dG o (by omega),cO,List.length_take,Nat.min_eq_left (by omega),h4,aO (Nat.le_refl _),aL,hx,Nat.add_mul]
theorem gS.done {l m o:List Nat} (h:gS l m o l.length):val o = val l * val m:=by
 obtain ⟨h1,h2,h3⟩:=h
 rw [aO (by omega),aO (Nat.le_refl _)] at h3
 exact h3

theorem rJ (c x y d:Nat):(c:Int) + ((x:Int) * (y:Int) + (d:Int)) = ((c + (x * y + d):Nat):Int):=by simp only [Int.natCast_add,Int.natCast_mul]
theorem F9 (c x y d:Nat):((c:Int) + ((x:Int) * (y:Int) + (d:Int))) / 4294967296 = (((c + (x * y + d)) / 4294967296:Nat):Int):=by
 rw [rJ]
 omega
theorem F8 (c x y d:Nat):((c:Int) + ((x:Int) * (y:Int) + (d:Int))) % 4294967296 = (((c + (x * y + d)) % 4294967296:Nat):Int):=by
 rw [rJ]
 omega

theorem mul (w:World) (va vb:Value) (a b ka kb:Nat)(ha:ab w va a)(hb:ab w vb b) (la:a < 2 ^ ka) (lb:b < 2 ^ kb)(hka:ka <= 70368744177664)(hkb:kb <= 70368744177664) :
  Calls Tryz.prog 182 #[va,vb] w fun e w'=>∃ v',e = .returned v'/\ab w' v' (a * b)/\Below w.heap.size w w':=by
 obtain ⟨l,dl,tl,rfl⟩:=ha
 obtain ⟨m,dm,tm,rfl⟩:=hb
 have ll:=tl.length_le la
 have lm:=tm.length_le lb
 clear la lb tl tm
 obtain ⟨okl,A,ca,rfl,hlc,hcm,hA⟩:=dl.open_
 obtain ⟨okm,B,cb,rfl,hmc,hcm',hB⟩:=dm.open_
 clear dl dm
 have HA:=Lib.hid hA
 have HB:=Lib.hid hB
 clear hA hB
 have HO:=Lib.hid okl
 have HP:=Lib.hid okm
 clear okl okm
 obtain ⟨n,hn⟩:∃ n,l.length = n:=⟨_,rfl⟩
 obtain ⟨p,hp⟩:∃ p,m.length = p:=⟨_,rfl⟩
 rw [hn] at hlc ll ⊢
 rw [hp] at hmc lm ⊢
 have start:=gS.start l m
 rw [hn,hp] at start
 have HN:=Lib.hid hn
 have HQ:=Lib.hid hp
 have HST:=Lib.hid start
 clear hn hp start
 obtain ⟨i0,hi,hz0,hz1,hz2⟩:=info_parts dB
 obtain ⟨N,hN1,hN2⟩:∃ N:Nat,n + p <= N/\N <= n + p:=⟨n + p,Nat.le_refl _,Nat.le_refl _⟩
 go_enter Tryz.func182,Tryz.ntmps182
 go_wp2_with (at_make; refine aV rfl _ _ 28 rfl 199 i0 (.int .u32 0) 4 Tryz.underlying28 hi hz0 hz1 hz2 rfl .i64 .i64 _ _ N rfl rfl (by omega) (by omega) (by omega) (by unfold maxLen; omega) ?_)
 intro w1 hblk hbel
 go_wp2_with fail
 go_loopw [19] (fun i wr=>∃ (k:Nat) (o:List Nat),i = .int .i64 k/\k <= n/\gS l m o k/\DB wr w.heap.size o/\Below w.heap.size w wr)
   (fun i _=>n - (intOf i).toNat)
 case atStart=>exact ⟨0,List.replicate (n + p) 0,rfl,by omega,HST.out,DB.of_blk (e:=199) (by rw [show n + p = N by omega]; simpa [dg] using hblk),hbel⟩
 clear hblk hbel
 obtain ⟨k,o,rfl,hk,hr,hdb,hbel⟩:=hrel
 have HR:=Lib.hid hr
 have HDB:=Lib.hid hdb
 by_cases hlt:k < n
 ·obtain ⟨x,hx⟩:∃ x,l.getD k 0 = x:=⟨_,rfl⟩
  have hx0:x < 4294967296:=by rw [<- hx]; exact HO.out.getD k
  have hcx:=bL HA.out HN.out hbel k x hx
  have row:=HR.out.row x
  have ROW:=Lib.hid row
  have HX:=Lib.hid hx
  have HB1:=Lib.hid hbel
  clear hx row hbel hdb hr
  rcases hcx with ⟨h1,b,off,rfl,hb,hc1⟩ | ⟨h1,hx⟩
  ·obtain ⟨wo,rfl⟩:∃ wo:World,wo = wr:=⟨_,rfl⟩
   go_wp2_with fail
   go_loopw [8,26] (fun c j wr=>∃ (q cc:Nat) (o':List Nat),j = .int .i64 q/\c = .int .u64 cc/\q <= p/\pF l m o' k x q cc/\DB wr w.heap.size o'/\Below w.heap.size w wr)
    (fun _ j _=>p - (intOf j).toNat)
   case atStart=>exact ⟨0,0,o,rfl,rfl,by omega,ROW.out,HDB.out,HB1.out⟩
   obtain ⟨q,cc,o',rfl,rfl,hq,hr,hdb,hbel⟩:=hrel
   have hcc:=hr.2.2.1
   have hlen:=hr.2.1
   rw [HN.out,HQ.out] at hlen
   have HLEN:=Lib.hid hlen
   have HR':=Lib.hid hr
   have HDB':=Lib.hid hdb
   clear hr hlen hdb
   by_cases hlt':q < p
   ·obtain ⟨y,hy⟩:∃ y,m.getD q 0 = y:=⟨_,rfl⟩
    have hy0:y < 4294967296:=by rw [<- hy]; exact HP.out.getD q
    obtain ⟨d,hd⟩:∃ d,o'.getD (k + q) 0 = d:=⟨_,rfl⟩
    have hd0:d < 4294967296:=by rw [<- hd]; exact HR'.out.1.getD _
    have hkq:k + q < o'.length:=by rw [HLEN.out]; omega
    have hz:=HDB'.out.cell hkq
    rw [hd] at hz
    have hfz:=HDB'.out.frozen (k + q)
    have step:=HR'.out.step hx0 hd hy hy0 (by rw [HN.out]; omega) (by rw [HQ.out]; omega)
    have STEP:=Lib.hid step
    have hcy:=bL HB.out HQ.out hbel q y hy
    have HB2:=Lib.hid hbel
    have HKQ:=Lib.hid hkq
    have hxy:=ow hx0 hy0
    have hxy1:(x:Int) * (y:Int) <= 18446744065119617025:=by
     rw [<- Int.natCast_mul]; omega
    have hxy2:0 <= (x:Int) * (y:Int):=by
     rw [<- Int.natCast_mul]; omega
    clear hd hy step hbel hkq hxy
    rcases hcy with ⟨h2,b',off',rfl,hb',hc2⟩ | ⟨h2,hy⟩
    ·go_wp2_with fail
     exact ⟨⟨q + 1,_,_,rfl,ez (F9 _ _ _ _),by omega,STEP.out,HDB'.out.set HKQ.out (F8 _ _ _ _),HB2.out.setCell (p:=⟨w.heap.size,_,none⟩) (Nat.le_refl _) _⟩,by simp [intOf]; omega⟩
    omega
   obtain rfl:q = p:=by omega
   have hr2:=HR'.out
   have hx:=HX.out
   rw [<- HQ.out] at hr2
   have dn:=hr2.done hx (by rw [HN.out]; omega)
   rw [HQ.out] at dn
   have hkq:k + q < o'.length:=by rw [HLEN.out]; omega
   have hz:=HDB'.out.cell hkq
   have hfz:=HDB'.out.frozen (k + q)
   have DN:=Lib.hid dn
   have HKQ:=Lib.hid hkq
   have HB2:=Lib.hid hbel
   clear hr2 hx dn hkq hbel
   go_wp2_with fail
   exact ⟨⟨k + 1,_,rfl,by omega,DN.out,HDB'.out.set HKQ.out (by omega),HB2.out.setCell (p:=⟨w.heap.size,_,none⟩) (Nat.le_refl _) _⟩,by simp [intOf]; omega⟩
  omega
 obtain rfl:k = n:=by omega
 have hr2:=HR.out
 rw [<- HN.out] at hr2
 have hv:=hr2.done
 have hlen:=hr2.2.1
 rw [HN.out,HQ.out] at hlen
 have hd:=HDB.out.digAt hr.1 (n:=N) (c:=N) (by omega) (Nat.le_refl _) (by omega)
 have HD:=Lib.hid hd
 have HV:=Lib.hid hv
 have HB2:=Lib.hid hbel
 have HLEN:=Lib.hid hlen
 clear hd hv hbel hdb hr hr2 hlen
 go_wp2_with (go_at_call 185; refine (jl _ _ o HD.out (by rw [HLEN.out]; omega)).mono ?_; rintro e w' ⟨v',rfl,hv,hb⟩)
 go_ret
 rw [HV.out] at hv
 exact ⟨v',rfl,hv,HB2.out.trans (hb.mono HB2.out.size)⟩
theorem kX {s:Nat} (hs:s <= 31):2 ^ s * 2 ^ (32 - s) = 4294967296:=by
 rw [<- Nat.pow_add,show s + (32 - s) = 32 by omega]

theorem j6 {s:Nat} (x:Nat)(hs:s <= 31):x * 2 ^ s % 4294967296 = 2 ^ s * (x % 2 ^ (32 - s))/\x * 2 ^ s = x * 2 ^ s % 4294967296 + 4294967296 * (x / 2 ^ (32 - s)):=by
 have h:=kX hs
 have e:x * 2 ^ s % 4294967296 = 2 ^ s * (x % 2 ^ (32 - s)):=by rw [<- h,Nat.mul_comm x,Nat.mul_mod_mul_left]
 refine ⟨e,?_⟩
 rw [e,<- h]
 have:=Nat.mod_add_div x (2 ^ (32 - s))
 conv=>lhs; rw [<- this]
 rw [Nat.add_mul,Nat.mul_comm (x % 2 ^ (32 - s)),Nat.mul_comm (2 ^ (32 - s) * _),Nat.mul_assoc]

theorem qT {s y z:Nat} (hy:y < 2 ^ s):y ||| 2 ^ s * z = y + 2 ^ s * z:=by
 rw [Nat.or_comm,<- Nat.two_pow_add_eq_or_of_lt hy,Nat.add_comm]

theorem KQ {s y x:Nat} (hs:s <= 31)(hy:y < 2 ^ s):bits .or .u32 (y:Int) ((x:Int) * 2 ^ s % 4294967296) = ((y + x * 2 ^ s % 4294967296:Nat):Int):=by
 have h1:(x:Int) * 2 ^ s % 4294967296 = ((x * 2 ^ s % 4294967296:Nat):Int):=by
  rw [Int.natCast_emod,Int.natCast_mul,Int.natCast_pow]; rfl
 have h2:(2:Nat) ^ s <= 2 ^ 31:=Nat.pow_le_pow_right (by omega) hs
 rw [h1,u32_or_nat y _ (by omega) (Nat.mod_lt _ (by omega)),(j6 x hs).1,qT hy]
theorem Ep (s x:Nat)(hx:x < 4294967296):(x:Int) / 2 ^ (32 - s) % 4294967296 = ((x / 2 ^ (32 - s):Nat):Int):=by
 have h1:(x:Int) / 2 ^ (32 - s) = ((x / 2 ^ (32 - s):Nat):Int):=by
  rw [Int.natCast_ediv,Int.natCast_pow]; rfl
 have h2:x / 2 ^ (32 - s) <= x:=Nat.div_le_self _ _
 rw [h1]
 generalize x / 2 ^ (32 - s) = q at *
 omega

theorem C8 {s y x:Nat} (hs:s <= 31)(hy:y < 2 ^ s)(hx:x < 4294967296):y + x * 2 ^ s % 4294967296 < 4294967296/\x / 2 ^ (32 - s) < 2 ^ s:=by
 have h:=kX hs
 have hp:0 < 2 ^ (32 - s):=Nat.pow_pos (by omega)
 constructor
 ·rw [(j6 x hs).1]
  have h1:x % 2 ^ (32 - s) < 2 ^ (32 - s):=Nat.mod_lt _ hp
  have h2:2 ^ s * (x % 2 ^ (32 - s) + 1) <= 2 ^ s * 2 ^ (32 - s):=Nat.mul_le_mul_left _ h1
  rw [h,Nat.mul_succ] at h2
  omega
 rw [Nat.div_lt_iff_lt_mul hp,h]; exact hx

def gu (l o:List Nat) (s k:Nat):Prop:=Ok o/\o.length = l.length + 1/\o.getD k 0 < 2 ^ s/\val (o.take (k + 1)) = val (l.take k) * 2 ^ s
theorem gu.start (l:List Nat) (s:Nat):gu l (List.replicate (l.length + 1) 0) s 0:=by
 refine ⟨Ok.replicate _,by simp,?_,?_⟩
 ·simpa [List.getD_eq_getElem?_getD,List.getElem?_replicate] using Nat.pow_pos (n:=s) (show 0 < 2 by omega)
 rw [List.take_replicate,eB]; simp [val]
theorem gu.step {l o:List Nat} {s k x y:Nat} (h:gu l o s k)(hs:s <= 31)(hx:l.getD k 0 = x) (hx':x < 4294967296)(hy:o.getD k 0 = y)(hk:k < l.length) :
  gu l ((o.set k (y + x * 2 ^ s % 4294967296)).set (k + 1) (x / 2 ^ (32 - s))) s (k + 1):=by
 obtain ⟨h1,h2,h3,h4⟩:=h
 rw [hy] at h3
 have hd:=C8 hs h3 hx'
 have hp:(2:Nat) ^ s <= 2 ^ 31:=Nat.pow_le_pow_right (by omega) hs
 refine ⟨(h1.set _ _ hd.1).set _ _ (by omega),by simpa using h2,?_,?_⟩
 ·rw [List.getD_eq_getElem?_getD,List.getElem?_set_self (by simp; omega)]
  exact hd.2
 rw [dG _ (by simp; omega),cO,dG _ (by omega),cO,aL l,hx]
 rw [aL,hy] at h4
 have e:=(j6 x hs).2
 simp only [List.length_append,List.length_take,List.length_singleton]
 rw [Nat.min_eq_left (by omega),Nat.pow_succ]
 generalize x * 2 ^ s % 4294967296 = r at *
 generalize x / 2 ^ (32 - s) = q at *
 generalize hz:4294967296 ^ k = z at *
 have e2:z * (x * 2 ^ s) = z * (r + 4294967296 * q):=by rw [e]
 grind
theorem gu.done {l o:List Nat} {s:Nat} (h:gu l o s l.length):val o = val l * 2 ^ s:=by
 obtain ⟨h1,h2,h3,h4⟩:=h
 rw [aO (by omega),aO (Nat.le_refl _)] at h4
 exact h4

def kE (s:Nat):List Nat->List Nat
 | []=>[]
 | d :: l=>((d + 4294967296 * l.getD 0 0) / 2 ^ s % 4294967296) :: kE s l
theorem nN (s:Nat) (l:List Nat):(kE s l).length = l.length:=by
 induction l with
 | nil=>rfl
 | cons d l ih=>simp [kE,ih]
theorem tR (s:Nat) (l:List Nat) (k:Nat)(hk:k < l.length):(kE s l)[k]? = some ((l.getD k 0 + 4294967296 * l.getD (k + 1) 0) / 2 ^ s % 4294967296):=by
 induction l generalizing k with
 | nil=>simp at hk
 | cons d l ih =>
  cases k with
  | zero=>simp [kE]
  | succ k =>
   have:=ih k (by simpa using hk)
   simpa [kE] using this
theorem Hg (l:List Nat) (s:Nat)(hs:s <= 31):val l % 2 ^ s = l.getD 0 0 % 2 ^ s:=by
 cases l with
 | nil=>rfl
 | cons d l =>
  simp only [val,List.getD_cons_zero]
  rw [<- kX hs,Nat.mul_assoc,Nat.add_mul_mod_self_left]
theorem tQ (s:Nat)(hs:s <= 31) (l:List Nat)(hl:Ok l):val (kE s l) = val l / 2 ^ s:=by
 induction l with
 | nil=>simp [kE,val]
 | cons d l ih =>
  rw [Ok.cons] at hl
  have h0:=hl.1
  have hm:=Hg l s hs
  have hp:0 < 2 ^ s:=Nat.pow_pos (by omega)
  simp only [kE,val,ih hl.2]
  have hB:=kX hs
  generalize l.getD 0 0 = h at *
  generalize val l = v at *
  have e1:(d + 4294967296 * h) / 2 ^ s = d / 2 ^ s + 2 ^ (32 - s) * h:=by
   rw [<- hB,Nat.mul_assoc,Nat.add_mul_div_left _ _ hp]
  have e2:(d + 4294967296 * v) / 2 ^ s = d / 2 ^ s + 2 ^ (32 - s) * v:=by
   rw [<- hB,Nat.mul_assoc,Nat.add_mul_div_left _ _ hp]
  rw [e1,e2]
  have hd:d / 2 ^ s < 2 ^ (32 - s):=by
   rw [Nat.div_lt_iff_lt_mul hp,Nat.mul_comm,hB]; exact h0
  have ev:=Nat.mod_add_div v (2 ^ s)
  have eh:=Nat.mod_add_div h (2 ^ s)
  rw [<- hm] at eh
  have hr:v % 2 ^ s < 2 ^ s:=Nat.mod_lt _ hp
  generalize hP:2 ^ (32 - s) = P at *
  generalize 2 ^ s = S at *
  generalize v % S = r at *
  generalize v / S = q at *
  generalize h / S = z at *
  generalize d / S = c at *
  have hlt:c + P * r < 4294967296:=by
   have h2:P * (r + 1) <= P * S:=Nat.mul_le_mul_left _ hr
   rw [Nat.mul_comm P S,hB,Nat.mul_succ] at h2
   omega
  have e3:c + P * h = c + P * r + 4294967296 * z:=by
   rw [<- eh,<- hB]; grind
  have e4:c + P * v = c + P * r + 4294967296 * q:=by
   rw [<- ev,<- hB]; grind
  rw [e3,e4,Nat.add_mul_mod_self_left,Nat.mod_eq_of_lt hlt]
theorem FQ (w:World) (v:Value) (l:List Nat) (i:Int)(hd:bW w v l)(hi:i < 9223372036854775807) (hi':-9223372036854775807 < i) :
  Calls Tryz.prog 290 #[v,.int .i64 i] w fun e w'=>e = .returned (.int .u64 ((if i < 0 then 0 else l.getD i.toNat 0:Nat):Int))/\w' = w:=by
 obtain ⟨okl,A,ca,rfl,hlc,hcm,hA⟩:=hd.open_
 have HA:=Lib.hid hA
 clear hA hd
 obtain ⟨n,hn⟩:∃ n,l.length = n:=⟨_,rfl⟩
 rw [hn] at hlc ⊢
 have HN:=Lib.hid hn
 clear hn
 by_cases h0:i < 0
 ·go_enter Tryz.func290,Tryz.ntmps290
  go_wp2_with fail
  go_ret
  exact ⟨by simp,rfl⟩
 obtain ⟨k,rfl⟩:∃ k:Nat,i = k:=⟨i.toNat,by omega⟩
 have hx:=bL HA.out HN.out (Below.refl _ _) k _ rfl
 rw [show (if (k:Int) < 0 then 0 else l.getD (k:Int).toNat 0:Nat) = l.getD k 0 by rw [if_neg (by omega)]; rfl]
 have hok:=okl.getD k
 clear okl h0
 generalize l.getD k 0 = x at *
 rcases hx with ⟨h1,b,off,rfl,hb,hc⟩ | ⟨h1,hx⟩
 ·clear hi hi'
  go_enter Tryz.func290,Tryz.ntmps290
  go_wp2_with fail
  go_ret
  exact ⟨rfl,rfl⟩
 subst hx
 clear hok
 go_enter Tryz.func290,Tryz.ntmps290
 go_wp2_with fail
 go_ret
 exact ⟨rfl,rfl⟩

theorem Kb (w:World) (va:Value) (a k s:Nat)(ha:ab w va a) (la:a < 2 ^ k)(hk:k <= 70368744177664)(hs:s <= 31) :
  Calls Tryz.prog 289 #[va,.int .i64 (s:Int)] w fun e w'=>∃ v',e = .returned v'/\ab w' v' (a * 2 ^ s)/\Below w.heap.size w w':=by
 obtain ⟨l,dl,tl,rfl⟩:=ha
 have ll:=tl.length_le la
 clear la tl
 obtain ⟨okl,A,ca,rfl,hlc,hcm,hA⟩:=dl.open_
 clear dl
 have HA:=Lib.hid hA
 clear hA
 have HO:=Lib.hid okl
 clear okl
 obtain ⟨n,hn⟩:∃ n,l.length = n:=⟨_,rfl⟩
 rw [hn] at hlc ll ⊢
 have HN:=Lib.hid hn
 clear hn
 obtain ⟨i0,hi,hz0,hz1,hz2⟩:=info_parts dB
 obtain ⟨N,hN1,hN2⟩:∃ N:Nat,n + 1 <= N/\N <= n + 1:=⟨n + 1,Nat.le_refl _,Nat.le_refl _⟩
 go_enter Tryz.func289,Tryz.ntmps289
 go_wp2_with (at_make; refine aV rfl _ _ 28 rfl 199 i0 (.int .u32 0) 4 Tryz.underlying28 hi hz0 hz1 hz2 rfl .i64 .i64 _ _ N rfl rfl (by omega) (by omega) (by omega) (by unfold maxLen; omega) ?_)
 intro w1 hblk hbel
 go_wp2_with fail
 go_loopw [14] (fun i wr=>∃ (k:Nat) (o:List Nat),i = .int .i64 k/\k <= n/\gu l o s k/\DB wr w.heap.size o/\Below w.heap.size w wr)
   (fun i _=>n - (intOf i).toNat)
 case atStart=>exact ⟨0,List.replicate (l.length + 1) 0,rfl,by omega,gu.start l s,DB.of_blk (e:=199) (by rw [HN.out,show n + 1 = N by omega]; simpa [dg] using hblk),hbel⟩
 obtain ⟨k,o,rfl,hk,hs',hdb,hbel⟩:=hrel
 have ho:=hs'.2.1
 rw [HN.out] at ho
 have HL:=Lib.hid ho
 have HS:=Lib.hid hs'
 have HDB:=Lib.hid hdb
 clear ho hblk hs'
 by_cases hlt:k < n
 ·obtain ⟨x,hx⟩:∃ x,l.getD k 0 = x:=⟨_,rfl⟩
  obtain ⟨y,hy⟩:∃ y,o.getD k 0 = y:=⟨_,rfl⟩
  have hx0:x < 4294967296:=by rw [<- hx]; exact HO.out.getD k
  have hy0:y < 4294967296:=by rw [<- hy]; exact HS.out.1.getD k
  have hy1:y < 2 ^ s:=by rw [<- hy]; exact HS.out.2.2.1
  have HY1:=Lib.hid hy1
  have hk0:k < o.length:=by rw [HL.out]; omega
  have hk1:k + 1 < o.length:=by rw [HL.out]; omega
  have hz:=hdb.cell hk0
  rw [hy] at hz
  have hfz:=hdb.frozen k
  have hz1:=hdb.cell hk1
  have hfz1:=hdb.frozen (k + 1)
  have hcx:=bL HA.out HN.out hbel k x hx
  have step:=HS.out.step hs hx hx0 hy (by rw [HN.out]; exact hlt)
  have STEP:=Lib.hid step
  have HB2:=Lib.hid hbel
  have HK0:=Lib.hid hk0
  have HK1:=Lib.hid hk1
  clear hx hy hy1 step hbel hdb hk0 hk1
  rcases hcx with ⟨h1,b,off,rfl,hb,hc1⟩ | ⟨h1,hx⟩
  ·go_wp2_with fail
   go_region
   go_wp2_with fail
   have d1:=HDB.out.set HK0.out (KQ (x:=x) hs HY1.out)
   have d2:=(d1.set (k:=k + 1) (by simpa using HK1.out) (Ep s x hx0)).drewN 1
   exact ⟨⟨k + 1,_,rfl,by omega,STEP.out,d2,((HB2.out.setCell (p:=⟨w.heap.size,k,none⟩) (Nat.le_refl _) _).setCell (p:=⟨w.heap.size,k + 1,none⟩) (Nat.le_refl _) _).drew⟩,by simp [intOf]; omega⟩
  omega
 obtain rfl:k = n:=by omega
 have hs2:=HS.out
 rw [<- HN.out] at hs2
 have hv:=hs2.done
 have hd:=HDB.out.digAt hs2.1 (n:=N) (c:=N) (by rw [HL.out]; omega) (Nat.le_refl _) (by omega)
 have HD:=Lib.hid hd
 have HV:=Lib.hid hv
 have HB2:=Lib.hid hbel
 clear hd hv hbel hdb hs2
 go_wp2_with (go_at_call 185; refine (jl _ _ o HD.out (by rw [HL.out]; omega)).mono ?_; rintro e w' ⟨v',rfl,hv,hb⟩)
 go_ret
 rw [HV.out] at hv
 exact ⟨v',rfl,hv,HB2.out.trans (hb.mono HB2.out.size)⟩
theorem DZ (s x y:Nat)(hx:x < 4294967296)(hy:y < 4294967296):bits .or .u64 (x:Int) ((y:Int) * 4294967296) / 2 ^ s % 4294967296 = (((x + 4294967296 * y) / 2 ^ s % 4294967296:Nat):Int):=by
 have e1:(y:Int) * 4294967296 = ((y * 4294967296:Nat):Int):=by omega
 have e2:bits .or .u64 (x:Int) ((y:Int) * 4294967296) = ((x + 4294967296 * y:Nat):Int):=by
  rw [e1,u64_or_nat _ _ (by omega) (by omega)]
  congr 1
  rw [Nat.mul_comm]
  exact qT (s:=32) (by omega)
 rw [e2,Int.natCast_emod,Int.natCast_ediv,Int.natCast_pow]
 rfl

def jE (l o:List Nat) (s k:Nat):Prop:=Ok o/\o.length = l.length/\o.take k = (kE s l).take k
theorem jE.start (l:List Nat) (s:Nat):jE l (List.replicate l.length 0) s 0:=⟨Ok.replicate _,by simp,by simp⟩
theorem jE.step {l o:List Nat} {s k x y:Nat} (h:jE l o s k)(hx:l.getD k 0 = x)(hy:l.getD (k + 1) 0 = y)(hk:k < l.length):jE l (o.set k ((x + 4294967296 * y) / 2 ^ s % 4294967296)) s (k + 1):=by
 obtain ⟨h1,h2,h3⟩:=h
 refine ⟨h1.set _ _ (Nat.mod_lt _ (by omega)),by simpa using h2,?_⟩
 rw [dG _ (by omega),h3,aG _ (tR s l k hk),hx,hy]
theorem jE.done {l o:List Nat} {s:Nat} (h:jE l o s l.length)(hs:s <= 31)(hl:Ok l):val o = val l / 2 ^ s:=by
 obtain ⟨h1,h2,h3⟩:=h
 rw [List.take_of_length_le (by omega),List.take_of_length_le (by rw [nN]; exact Nat.le_refl _)] at h3
 rw [h3,tQ s hs l hl]

theorem down (w:World) (va:Value) (a k s:Nat)(ha:ab w va a) (la:a < 2 ^ k)(hk:k <= 70368744177664)(hs:s <= 31) :
  Calls Tryz.prog 292 #[va,.int .i64 (s:Int)] w fun e w'=>∃ v',e = .returned v'/\ab w' v' (a / 2 ^ s)/\Below w.heap.size w w':=by
 obtain ⟨l,dl,tl,rfl⟩:=ha
 have ll:=tl.length_le la
 clear la tl
 have DL:=Lib.hid dl
 obtain ⟨okl,A,ca,rfl,hlc,hcm,hA⟩:=dl.open_
 clear dl hA
 have HO:=Lib.hid okl
 clear okl
 obtain ⟨n,hn⟩:∃ n,l.length = n:=⟨_,rfl⟩
 have dig:∀ (wr:World),Below w.heap.size w wr->∀ i:Nat,i <= n->Calls Tryz.prog 290 #[.slice A n ca,.int .i64 (i:Int)] wr fun e w'=>e = .returned (.int .u64 ((l.getD i 0:Nat):Int))/\w' = wr:=by
  intro wr hb i hi
  have:=FQ wr _ l (i:Int) (DL.out.below hb) (by omega) (by omega)
  rw [if_neg (by omega),hn] at this
  exact this
 have DIG:=Lib.hid dig
 clear dig DL
 rw [hn] at hlc ll ⊢
 have HN:=Lib.hid hn
 clear hn
 obtain ⟨i0,hi,hz0,hz1,hz2⟩:=info_parts dB
 go_enter Tryz.func292,Tryz.ntmps292
 go_wp2_with (at_make; refine aV rfl _ _ 28 rfl 199 i0 (.int .u32 0) 4 Tryz.underlying28 hi hz0 hz1 hz2 rfl .i64 .i64 _ _ n rfl rfl (by omega) (by omega) (by omega) (by unfold maxLen; omega) ?_)
 intro w1 hblk hbel
 go_wp2_with fail
 go_loopw [12] (fun i wr=>∃ (k:Nat) (o:List Nat),i = .int .i64 k/\k <= n/\jE l o s k/\DB wr w.heap.size o/\Below w.heap.size w wr)
   (fun i _=>n - (intOf i).toNat)
 case atStart=>exact ⟨0,List.replicate l.length 0,rfl,by omega,jE.start l s,DB.of_blk (e:=199) (by rw [HN.out]; simpa [dg] using hblk),hbel⟩
 obtain ⟨k,o,rfl,hk,hs',hdb,hbel⟩:=hrel
 have ho:=hs'.2.1
 rw [HN.out] at ho
 have HL:=Lib.hid ho
 have HS:=Lib.hid hs'
 have HDB:=Lib.hid hdb
 clear ho hblk hs'
 by_cases hlt:k < n
 ·have c0:=DIG.out wr hbel k (by omega)
  have c1:=DIG.out wr hbel (k + 1) (by omega)
  obtain ⟨x,hx⟩:∃ x,l.getD k 0 = x:=⟨_,rfl⟩
  obtain ⟨y,hy⟩:∃ y,l.getD (k + 1) 0 = y:=⟨_,rfl⟩
  have hx0:x < 4294967296:=by rw [<- hx]; exact HO.out.getD k
  have hy0:y < 4294967296:=by rw [<- hy]; exact HO.out.getD (k + 1)
  rw [hx] at c0
  rw [hy,show ((k + 1:Nat):Int) = (k:Int) + 1 by omega] at c1
  have C0:=Lib.hid c0
  have C1:=Lib.hid c1
  clear c0 c1
  have hk0:k < o.length:=by rw [HL.out]; omega
  have hz:=hdb.cell hk0
  have hfz:=hdb.frozen k
  have step:=HS.out.step (k:=k) hx hy (by rw [HN.out]; exact hlt)
  have STEP:=Lib.hid step
  have HB2:=Lib.hid hbel
  have HK0:=Lib.hid hk0
  clear hx hy step hbel hdb hk0
  go_wp2_with fail
  refine C0.out.mono ?_
  rintro e w' ⟨rfl,rfl⟩
  go_wp2_with fail
  refine C1.out.mono ?_
  rintro e w' ⟨rfl,rfl⟩
  go_wp2_with fail
  exact ⟨⟨k + 1,_,rfl,by omega,STEP.out,HDB.out.set HK0.out (DZ s x y hx0 hy0),HB2.out.setCell (p:=⟨w.heap.size,k,none⟩) (Nat.le_refl _) _⟩,by simp [intOf]; omega⟩
 obtain rfl:k = n:=by omega
 have hs2:=HS.out
 rw [<- HN.out] at hs2
 have hv:=hs2.done hs HO.out
 have hd:=HDB.out.digAt hs2.1 (n:=k) (c:=k) (by rw [HL.out]) (Nat.le_refl _) (by omega)
 have HD:=Lib.hid hd
 have HV:=Lib.hid hv
 have HB2:=Lib.hid hbel
 clear hd hv hbel hdb hs2
 go_wp2_with (go_at_call 185; refine (jl _ _ o HD.out (by rw [HL.out]; omega)).mono ?_; rintro e w' ⟨v',rfl,hv,hb⟩)
 go_ret
 rw [HV.out] at hv
 exact ⟨v',rfl,hv,HB2.out.trans (hb.mono HB2.out.size)⟩

theorem Hq (w:World) (va:Value) (a k d:Nat)(ha:ab w va a) (la:a < 2 ^ k)(hk:k <= 70368744177664)(hd:d <= 4398046511104) :
  Calls Tryz.prog 291 #[va,.int .i64 (d:Int)] w fun e w'=>∃ v',e = .returned v'/\ab w' v' (a * 4294967296 ^ d)/\Below w.heap.size w w':=by
 obtain ⟨l,dl,tl,rfl⟩:=ha
 have ll:=tl.length_le la
 clear la
 have DL:=Lib.hid dl
 obtain ⟨okl,A,ca,rfl,hlc,hcm,hA⟩:=dl.open_
 clear dl hA
 have HO:=Lib.hid okl
 have HT:=Lib.hid tl
 clear okl tl
 obtain ⟨n,hn⟩:∃ n,l.length = n:=⟨_,rfl⟩
 rw [hn] at hlc ll ⊢
 have HN:=Lib.hid hn
 clear hn
 obtain ⟨i0,hi,hz0,hz1,hz2⟩:=info_parts dB
 rcases Nat.eq_zero_or_pos n with h0 | h0
 ·subst h0
  go_enter Tryz.func291,Tryz.ntmps291
  go_wp2_with fail
  go_ret
  have hl:l = []:=by simpa using HN.out
  subst hl
  exact ⟨_,rfl,by simpa [val] using ab.nil_ w,Below.refl _ _⟩
 have h0':((n:Int) == 0) = false:=by simp; omega
 have DLN:=DL.out.1
 rw [HN.out] at DLN
 have DN:=Lib.hid DLN
 clear DLN
 go_enter Tryz.func291,Tryz.ntmps291
 go_wp2_with (at_make; refine aV rfl _ _ 183 rfl 199 i0 (.int .u32 0) 4 Tryz.underlying183 hi hz0 hz1 hz2 rfl .i64 .i64 _ _ d rfl rfl (by omega) (by omega) (by omega) (by unfold maxLen; omega) ?_)
 intro w1 hblk hbel
 have hown:=hblk.own (base:=w.heap.size) (sz:=1) (n:=d) (Nat.le_refl _) (by simp) (by unfold maxLen; omega)
 have hsl:=DN.out.below hbel
 have HW:=Lib.hid hown
 have HSL:=Lib.hid hsl
 have HB2:=Lib.hid hbel
 clear hblk hown hsl hbel
 go_wp2_with (at_builtin; refine aP rfl _ _ 183 rfl w.heap.size 199 i0 (.int .u32 0) 1 4 Tryz.underlying183 hi hz0 hz1 hz2 rfl (by decide) _ _ _ rfl HW.out _ n (l.map dg) rfl HSL.out (mD l) ?c1 ?c2 ?c3 ?_)
 case c1=>unfold maxLen; omega
 case c2=>omega
 case c3=>exact HB2.out.size
 intro v' w2 hown2 hgrow _
 have hb2:=HB2.out.grown hgrow HB2.out.size (by intro k hk; simp [Value.ownBlock] at hk; omega)
 have HW2:=Lib.hid (Sl.of_own hown2)
 have HB3:=Lib.hid hb2
 clear hown2 hgrow hb2
 go_wp2_with fail
 go_ret
 refine ⟨v',rfl,⟨List.replicate d 0 ++ l,⟨?_,Ok.append.2 ⟨Ok.replicate _,HO.out⟩⟩,?_,?_⟩,HB3.out⟩
 ·have:=HW2.out
  simpa [dg,HN.out] using this
 ·have hl:l ≠ []:=fun e=>by have:=HN.out; rw [e] at this; simp at this; omega
  have:=HT.out
  unfold cS at this ⊢
  rw [List.getLast?_append]
  cases h:l.getLast? with
  | none=>exact absurd (List.getLast?_eq_none_iff.1 h) hl
  | some x=>rw [h] at this; simpa using this
 rw [l7,eB,List.length_replicate,Nat.zero_add,Nat.mul_comm]
theorem xH {l:List Nat} {k x:Nat} (h:l[k]? = some x):l.drop k = x :: l.drop (k + 1):=by
 obtain ⟨hk,rfl⟩:=List.getElem?_eq_some_iff.1 h
 exact List.drop_eq_getElem_cons hk

theorem K4 (r x:Nat)(hr:r < 4294967296)(hx:x < 4294967296):bits .or .u64 ((r:Int) * 4294967296) (x:Int) = ((r * 4294967296 + x:Nat):Int):=by
 rw [show (r:Int) * 4294967296 = ((r * 4294967296:Nat):Int) by omega,u64_or_nat _ _ (by omega) (by omega)]
 congr 1
 rw [Nat.or_comm,Nat.mul_comm]
 exact (qT (s:=32) (by omega)).trans (Nat.add_comm _ _)

theorem uf (r x d:Nat):((r:Int) * 4294967296 + (x:Int)) % (d:Int) = (((r * 4294967296 + x) % d:Nat):Int):=by
 rw [Int.natCast_emod,Int.natCast_add,Int.natCast_mul]; rfl
theorem ug (r x d:Nat)(h:(r * 4294967296 + x) / d < 4294967296):((r:Int) * 4294967296 + (x:Int)) / (d:Int) % 4294967296 = (((r * 4294967296 + x) / d:Nat):Int):=by
 have e:((r:Int) * 4294967296 + (x:Int)) / (d:Int) = (((r * 4294967296 + x) / d:Nat):Int):=by
  rw [Int.natCast_ediv,Int.natCast_add,Int.natCast_mul]; rfl
 rw [e]
 generalize (r * 4294967296 + x) / d = q at *
 omega

def gU (l o:List Nat) (d k r:Nat):Prop:=Ok o/\o.length = l.length/\r < d/\val (l.drop k) = d * val (o.drop k) + r
theorem gU.start (l:List Nat) {d:Nat} (hd:0 < d):gU l (List.replicate l.length 0) d l.length 0 :=
 ⟨Ok.replicate _,by simp,hd,by rw [List.drop_eq_nil_of_le (Nat.le_refl _),List.drop_eq_nil_of_le (by simp)]; simp [val]⟩
theorem gU.step {l o:List Nat} {d k r x:Nat} (h:gU l o d (k + 1) r)(hd:d < 4294967296)(hx:l[k]? = some x) (hx':x < 4294967296) :
  gU l (o.set k ((r * 4294967296 + x) / d)) d k ((r * 4294967296 + x) % d)/\(r * 4294967296 + x) / d < 4294967296:=by
 obtain ⟨h1,h2,h3,h4⟩:=h
 have hk:=(List.getElem?_eq_some_iff.1 hx).1
 have hq:(r * 4294967296 + x) / d < 4294967296:=by
  rw [Nat.div_lt_iff_lt_mul (by omega)]
  have:(r + 1) * 4294967296 <= d * 4294967296:=Nat.mul_le_mul_right _ h3
  omega
 refine ⟨⟨h1.set _ _ hq,by simpa using h2,Nat.mod_lt _ (by omega),?_⟩,hq⟩
 have e0:=xH (l:=o.set k ((r * 4294967296 + x) / d)) (k:=k) (x:=(r * 4294967296 + x) / d) (by rw [List.getElem?_set_self (by omega)])
 rw [xH hx,e0,List.drop_set_of_lt (by omega)]
 simp only [val]
 have e:=Nat.div_add_mod (r * 4294967296 + x) d
 rw [h4]
 generalize (r * 4294967296 + x) / d = q at *
 generalize (r * 4294967296 + x) % d = t at *
 grind
theorem gU.done {l o:List Nat} {d r:Nat} (h:gU l o d 0 r):val o = val l / d/\r = val l % d:=by
 obtain ⟨_,_,h3,h4⟩:=h
 simp only [List.drop_zero] at h4
 rw [h4]
 constructor
 ·rw [Nat.mul_add_div (by omega),Nat.div_eq_of_lt h3,Nat.add_zero]
 rw [Nat.mul_add_mod,Nat.mod_eq_of_lt h3]

theorem over (w:World) (va:Value) (a d k:Nat)(ha:ab w va a) (la:a < 2 ^ k)(hk:k <= 70368744177664)(hd:0 < d) (hd':d < 4294967296) :
  Calls Tryz.prog 287 #[va,.int .u32 (d:Int)] w fun e w'=>∃ v',e = .returned (.tuple #[v',.int .u32 ((a % d:Nat):Int)])/\ab w' v' (a / d)/\Below w.heap.size w w'/\bf v' w.heap.size:=by
 obtain ⟨l,dl,tl,rfl⟩:=ha
 have ll:=tl.length_le la
 clear la tl
 obtain ⟨okl,A,ca,rfl,hlc,hcm,hA⟩:=dl.open_
 clear dl
 have HA:=Lib.hid hA
 clear hA
 have HO:=Lib.hid okl
 clear okl
 obtain ⟨n,hn⟩:∃ n,l.length = n:=⟨_,rfl⟩
 rw [hn] at hlc ll ⊢
 have HN:=Lib.hid hn
 clear hn
 obtain ⟨i0,hi,hz0,hz1,hz2⟩:=info_parts dB
 go_enter Tryz.func287,Tryz.ntmps287
 go_wp2_with (at_make; refine aV rfl _ _ 28 rfl 199 i0 (.int .u32 0) 4 Tryz.underlying28 hi hz0 hz1 hz2 rfl .i64 .i64 _ _ n rfl rfl (by omega) (by omega) (by omega) (by unfold maxLen; omega) ?_)
 intro w1 hblk hbel
 go_wp2_with fail
 go_loopw [7,8] (fun r i wr=>∃ (q:Int) (k rr:Nat) (o:List Nat),i = .int .i64 q/\r = .int .u64 rr/\q + 1 = k/\k <= n/\gU l o d k rr/\DB wr w.heap.size o/\Below w.heap.size w wr)
   (fun _ i _=>(intOf i + 1).toNat)
 case atStart=>exact ⟨_,n,0,List.replicate l.length 0,rfl,rfl,by omega,by omega,HN.out ▸ gU.start l hd,DB.of_blk (e:=199) (by rw [HN.out]; simpa [dg] using hblk),hbel⟩
 obtain ⟨q,k',rr,o,rfl,rfl,hq,hk',hs,hdb,hbel⟩:=hrel
 have ho:=hs.2.1
 rw [HN.out] at ho
 have HL:=Lib.hid ho
 have HS:=Lib.hid hs
 have HDB:=Lib.hid hdb
 have hrr:=hs.2.2.1
 clear ho hblk hs
 rcases Nat.eq_zero_or_pos k' with h0 | h0
 ·subst h0
  obtain rfl:q = -1:=by omega
  clear hq
  have dn:=HS.out.done
  have hdd:=HDB.out.digAt HS.out.1 (n:=n) (c:=n) (by rw [HL.out]) (Nat.le_refl _) (by omega)
  have HD:=Lib.hid hdd
  have HB2:=Lib.hid hbel
  have DN:=Lib.hid dn
  clear dn hdd hbel hdb
  go_wp2_with (go_at_call 185; refine (jY _ _ o HD.out (by rw [HL.out]; omega)).mono ?_; rintro e w' ⟨v',rfl,hv,hb,hf⟩)
  go_ret2
  rw [DN.out.1] at hv
  refine ⟨v',?_,hv,HB2.out.trans (hb.mono HB2.out.size),hf.mono HB2.out.size⟩
  rw [<- DN.out.2]
  rfl
 obtain ⟨k,rfl⟩:∃ k,k' = k + 1:=⟨k' - 1,by omega⟩
 obtain rfl:q = k:=by omega
 clear hq h0
 have hkl:k < l.length:=by rw [HN.out]; omega
 obtain ⟨x,hx⟩:∃ x,l[k]? = some x:=⟨_,List.getElem?_eq_getElem hkl⟩
 have hx0:=HO.out.get hx
 have hxd:l.getD k 0 = x:=by rw [List.getD_eq_getElem?_getD,hx]; rfl
 have hk0:k < o.length:=by rw [HL.out]; omega
 have hz:=hdb.cell hk0
 have hfz:=hdb.frozen k
 have hcx:=bL HA.out HN.out hbel k x hxd
 have step:=HS.out.step hd' hx hx0
 have STEP:=Lib.hid step
 have HB2:=Lib.hid hbel
 have HK0:=Lib.hid hk0
 clear hx hxd step hbel hdb hk0 hkl
 rcases hcx with ⟨h1,b,off,rfl,hb,hc1⟩ | ⟨h1,hx⟩
 ·have hor:=K4 rr x (by omega) hx0
  go_wp2_with fail
  exact ⟨⟨_,k,_,_,rfl,ez (uf _ _ _),by omega,by omega,STEP.out.1,HDB.out.set HK0.out (ug _ _ _ STEP.out.2),HB2.out.setCell (p:=⟨w.heap.size,k,none⟩) (Nat.le_refl _) _⟩,by simp [intOf]⟩
 omega
theorem LC (w:World) (va vb:Value) (a b k:Nat)(ha:ab w va a)(hb:ab w vb b) (la:a < 2 ^ k)(hk:k <= 70368744177664)(h:a < b) :
  Calls Tryz.prog 252 #[va,vb] w fun e w'=>∃ q r,e = .returned (.tuple #[q,r])/\ab w' q (a / b)/\ab w' r (a % b)/\Below w.heap.size w w'/\bf q w.heap.size:=by
 have c:=iq w va vb a b ha hb
 rw [fP h] at c
 obtain ⟨l,dl,tl,rfl⟩:=ha
 have ll:=tl.length_le la
 have cl:∀ nd,Calls Tryz.prog 179 #[va] (w.drewN nd) fun e w'=>∃ v',e = .returned v'/\Sl w' 1 v' l.length (l.map dg)/\Below (w.drewN nd).heap.size (w.drewN nd) w'/\∃ base,(w.drewN nd).heap.size <= base/\w'.ownsRow base 199 1 v' l.length (l.map dg) :=
  fun nd=>fQ (w.drewN nd) va l.length (l.map dg) (dl.1.drewN nd) (mD l) (by omega)
 have C:=Lib.hid c
 have CL:=Lib.hid cl
 clear c cl hb la
 have h1:val l / b = 0:=Nat.div_eq_of_lt h
 have h2:val l % b = val l:=Nat.mod_eq_of_lt h
 rw [h1,h2]
 clear h1 h2 h
 have HO:=Lib.hid dl.2
 have HT:=Lib.hid tl
 clear dl tl
 go_enter Tryz.func252,Tryz.ntmps252
 go_wp2_with fail
 go_step3
 go_wp2_with (go_at_call 180; refine C.out.mono ?_; rintro e w' ⟨rfl,nd,rfl⟩)
 go_wp2_with (go_at_call 179; refine (CL.out nd).mono ?_; rintro e w1 ⟨v1,rfl,hv1,hb1,_⟩)
 rw [Exit.noGoto_ret]
 go_ret2
 exact ⟨_,_,rfl,ab.nil_ _,⟨l,⟨hv1,HO.out⟩,HT.out,rfl⟩,aN hb1,bf.nil_ _⟩

theorem vf {a b:Nat} (h:b <= a):0 <= fK a b:=by
 unfold fK
 rw [if_neg (by omega)]
 split <;> omega

theorem div_one (w:World) (va:Value) (a d k:Nat) (B:Option Addr) (cb:Nat)(ha:ab w va a)(hb:bW w (.slice B 1 cb) [d]) (la:a < 2 ^ k)(hk:k <= 70368744177664)(hd:0 < d)(h:d <= a) :
  Calls Tryz.prog 252 #[va,.slice B 1 cb] w fun e w'=>∃ q r,e = .returned (.tuple #[q,r])/\ab w' q (a / d)/\ab w' r (a % d)/\Below w.heap.size w w'/\bf q w.heap.size:=by
 have hd':d < 4294967296:=hb.2 d (by simp)
 have c:=iq w va _ a d ha ⟨[d],hb,by simp [cS]; omega,by simp [val]⟩
 have hc:=vf h
 generalize fK a d = cc at *
 have C:=Lib.hid c
 clear c
 obtain ⟨_,A,ca,hA,hlc,hcm,hB⟩:=hb.open_
 cases hA
 rcases hB with hB | ⟨b,off,rfl,hblt,hcell⟩
 ·cases hB
 have hc0:=hcell 0 d rfl
 rw [Nat.add_zero] at hc0
 have ov:∀ nd,Calls Tryz.prog 287 #[va,.int .u32 (d:Int)] (w.drewN nd) fun e w'=>∃ v',e = .returned (.tuple #[v',.int .u32 ((a % d:Nat):Int)])/\ab w' v' (a / d)/\Below (w.drewN nd).heap.size (w.drewN nd) w'/\bf v' w.heap.size :=
  fun nd=>over (w.drewN nd) va a d k ha la hk hd hd'
 have OV:=Lib.hid ov
 have hm:a % d < 4294967296:=by have:=Nat.mod_lt a hd; omega
 generalize a % d = m at *
 generalize a / d = q at *
 clear ov hcell hb ha la h
 go_enter Tryz.func252,Tryz.ntmps252
 go_wp2_with fail
 go_step3
 go_wp2_with (go_at_call 180; refine C.out.mono ?_; rintro e w' ⟨rfl,nd,rfl⟩)
 go_wp2_with (go_at_call 287; refine (OV.out _).mono ?_; rintro e w1 ⟨v1,rfl,hv1,hb1,hf1⟩)
 have HF:=Lib.hid hf1
 clear hf1
 have HV:=Lib.hid hv1
 have HB:=Lib.hid (aN hb1)
 clear hv1 hb1
 go_wp2_with (go_at_call 178; refine (vX _ m (by omega)).mono ?_; rintro e w2 ⟨v2,rfl,hv2,hb2⟩)
 rw [Exit.noGoto_ret]
 go_ret2
 exact ⟨_,_,rfl,HV.out.below hb2,hv2,HB.out.trans (hb2.mono HB.out.size),HF.out⟩
end Go.Proofs.YtkdhppimhdemjaaGreat
