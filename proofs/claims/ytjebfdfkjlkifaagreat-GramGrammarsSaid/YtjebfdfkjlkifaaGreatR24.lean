/- Lemmas. -/
import Derived.Test.YtjebfdfkjlkifaaGreatR23
set_option linter.all false
set_option maxRecDepth 1000000
set_option maxHeartbeats 32000000
namespace Go.Proofs.YtjebfdfkjlkifaaGreat
open Go.RowKit
def dZ (join:Rat->Rat->Rat) (sl:List Int) (rest:List Rat) (t:Nat) (out:List Rat) (r:bP):List Rat :=
 match eM sl rest t r with
 | some q=>out.set r.f.toNat (join (out.getD r.f.toNat 0) q)
 | none=>out
def eP (join:Rat->Rat->Rat) (Ln:Nat) (rs:List bP) (sl:List Int) (rest:List Rat) (t:Nat):List Rat:=rs.foldl (dZ join sl rest t) (List.replicate Ln 0)
def eo (join:Rat->Rat->Rat) (Ln:Nat) (rs:List bP) (sl:List Int):Nat->List Rat
 | 0=>eP join Ln rs sl [] sl.length
 | g + 1=>eP join Ln rs sl (eo join Ln rs sl g) (sl.length - (g + 1))
theorem jp (join:Rat->Rat->Rat) (sl:List Int) (rest:List Rat) (t:Nat) (out:List Rat) (r:bP):(dZ join sl rest t out r).length = out.length:=by
 unfold dZ
 split <;> simp
theorem eY (join:Rat->Rat->Rat) (Ln:Nat) (rs:List bP) (sl:List Int) (rest:List Rat) (t:Nat):(eP join Ln rs sl rest t).length = Ln:=by
 unfold eP
 have key:∀ s:List Rat,(rs.foldl (dZ join sl rest t) s).length = s.length:=by
  induction rs with
  | nil=>exact fun _=>rfl
  | cons r rs ih=>intro s; rw [List.foldl_cons,ih,jp]
 rw [key,List.length_replicate]
theorem iX (join:Rat->Rat->Rat) (Ln:Nat) (rs:List bP) (sl:List Int) (g:Nat):(eo join Ln rs sl g).length = Ln:=by
 cases g <;> exact eY _ _ _ _ _ _
theorem f9 (join:Rat->Rat->Rat) (Ln:Nat) (rs:List bP) (r:bP) (sl:List Int) (rest:List Rat) (t:Nat):eP join Ln (rs ++ [r]) sl rest t = dZ join sl rest t (eP join Ln rs sl rest t) r:=by simp [eP]

def ke (join:Rat->Rat->Rat):Prop:=∀ (E M N:Nat) (a b:Rat),0 < E->Dn E M a->Dn E N b->Dn E (M + N) (join a b)
theorem r8:ke (· + ·):=fun _ _ _ _ _ hE h h'=>h.add h' hE
theorem ou {join:Rat->Rat->Rat} (hj:ke join) {E S i:Nat} (hE:0 < E) {sl:List Int} {rest:List Rat} {t:Nat} {out:List Rat} {r:bP} (ho:∀ x ∈ out,Dn E (i * S) x)(hs:∀ q,eM sl rest t r = some q->Dn E S q):∀ x ∈ dZ join sl rest t out r,Dn E ((i + 1) * S) x:=by
 have hm:i * S <= (i + 1) * S:=Nat.mul_le_mul_right _ (by omega)
 unfold dZ
 split
 ·rename_i q hq
  intro x hx
  rcases List.mem_or_eq_of_mem_set hx with hx | rfl
  ·exact (ho x hx).mono hm
  rw [Nat.succ_mul]
  refine hj E (i * S) S _ _ hE ?_ (hs q hq)
  rw [gD]
  rcases h:out[r.f.toNat]? with _ | y
  ·exact Dn.zero _ _
  exact ho y (mG h)
 exact fun x hx=>(ho x hx).mono hm
theorem oY {join:Rat->Rat->Rat} (hj:ke join) {E S Ln:Nat} (hE:0 < E) {sl:List Int} {rest:List Rat} {t:Nat} (rs:List bP)(hs:∀ r ∈ rs,∀ q,eM sl rest t r = some q->Dn E S q) (i:Nat):∀ x ∈ eP join Ln (rs.take i) sl rest t,Dn E (i * S) x:=by
 induction i with
 | zero =>
  intro x hx
  have:x = 0:=List.eq_of_mem_replicate (by simpa [eP] using hx)
  rw [this]
  exact Dn.zero _ _
 | succ i ih =>
  rcases h:rs[i]? with _ | r
  ·have hl:=nI.1 h
   rw [tL (by omega)]
   rw [tL hl] at ih
   exact fun x hx=>(ih x hx).mono (Nat.mul_le_mul_right _ (by omega))
  rw [List.take_add_one,h]
  simp only [Option.toList_some]
  rw [f9]
  exact ou hj hE ih (hs r (mG h))
theorem kE {sl:List Int} {rest:List Rat} {r:bP} {q:Rat} (h:eM sl rest sl.length r = some q):q = r.q:=by
 unfold eM at h
 split at h
 ·simpa using h.symm
 rw [nI.2 (nR _),if_neg (by simp)] at h
 cases h
theorem mE {sl:List Int} {rest:List Rat} {t:Nat} (ht:t < sl.length) {r:bP} {q:Rat} (h:eM sl rest t r = some q):q = r.q * rest.getD r.t.toNat 0:=by
 unfold eM at h
 split at h
 ·rw [if_neg (by omega)] at h
  cases h
 split at h
 ·simpa using h.symm
 cases h
theorem ph {E M:Nat} {l:List Rat} (h:∀ x ∈ l,Dn E M x) (i:Nat):Dn E M (l.getD i 0):=by
 rw [gD]
 rcases hh:l[i]? with _ | y
 ·exact Dn.zero _ _
 exact h y (mG hh)
theorem ux {join:Rat->Rat->Rat} (hj:ke join) {E W n Ln:Nat} (hE:0 < E) {rs:List bP} {sl:List Int} (hw:∀ r ∈ rs,Dn E W r.q)(hn:rs.length = n) (g:Nat)(hg:g <= sl.length) :
  (∀ x ∈ eo join Ln rs sl g,Dn (E ^ (g + 1)) ((n * W) ^ (g + 1)) x) /\
  ∀ i,∀ x ∈ eP join Ln (rs.take i) sl (match g with | 0=>[] | g + 1=>eo join Ln rs sl g) (sl.length - g),Dn (E ^ (g + 1)) (i * (W * (n * W) ^ g)) x:=by
 have whole:(∀ i,∀ x ∈ eP join Ln (rs.take i) sl (match g with | 0=>[] | g + 1=>eo join Ln rs sl g) (sl.length - g),Dn (E ^ (g + 1)) (i * (W * (n * W) ^ g)) x)->∀ x ∈ eo join Ln rs sl g,Dn (E ^ (g + 1)) ((n * W) ^ (g + 1)) x:=by
  intro h x hx
  have:=h n x (by rw [tL (by omega)]; cases g <;> exact hx)
  rw [<- Nat.mul_assoc,Nat.mul_comm (n * W),<- Nat.pow_succ] at this
  exact this
 suffices h:∀ i,∀ x ∈ eP join Ln (rs.take i) sl (match g with | 0=>[] | g + 1=>eo join Ln rs sl g) (sl.length - g),Dn (E ^ (g + 1)) (i * (W * (n * W) ^ g)) x from ⟨whole h,h⟩
 clear whole
 induction g with
 | zero =>
  refine oY hj (Nat.pow_pos hE) rs fun r hr q hq=>?_
  have e:q = r.q:=kE (rest:=[]) (by simpa using hq)
  rw [e]
  simpa using hw r hr
 | succ g ih =>
  have ih':=ih (by omega)
  have whole:∀ x ∈ eo join Ln rs sl g,Dn (E ^ (g + 1)) ((n * W) ^ (g + 1)) x:=by
   intro x hx
   have:=ih' n x (by rw [tL (by omega)]; cases g <;> exact hx)
   rw [<- Nat.mul_assoc,Nat.mul_comm (n * W),<- Nat.pow_succ] at this
   exact this
  refine oY hj (Nat.pow_pos hE) rs fun r hr q hq=>?_
  have e:=mE (by omega) hq
  rw [e]
  have:=(hw r hr).mul (ph whole r.t.toNat)
  rw [Nat.mul_comm E,<- Nat.pow_succ] at this
  exact this
theorem FracAt.putBlk {k:Nat} {w:World} {a b c:Value} {q:Rat} {g:Nat} {e:TypeId} {xs:List Value} (h:FracAt k w (.agg #[a,b,c]) q)(hb:Blk w g e xs)(hx:∀ x ∈ xs,bh x) (i:Nat) (u:Value):FracAt k (w.setCell ⟨g,i,none⟩ u) (.agg #[a,b,c]) q:=by
 obtain ⟨ln,ld,hd1,hd2⟩:=h.digs
 exact h.setOff (p:=⟨g,i,none⟩) (hd1.offBlk hb hx) (hd2.offBlk hb hx) u
theorem FArk.far {k:Nat} {w:World} {b g:Nat} {qs:List Rat} {e:TypeId} {xs:List Value} (h:FArk k w b qs)(hb:Blk w g e xs)(hx:∀ x ∈ xs,bh x)(hne:b ≠ g) (i:Nat) (u:Value):FArk k (w.setCell ⟨g,i,none⟩ u) b qs:=by
 obtain ⟨ys,g1,g2,gx,g3⟩:=h
 refine ⟨ys,g1.far (p:=⟨g,i,none⟩) hne u,g2,gx,fun j r hr=>?_⟩
 obtain ⟨s1,A1,m1,c1,A1',m1',c1',e0,e1,e2,e3⟩:=g3 j r hr
 exact ⟨s1,A1,m1,c1,A1',m1',c1',e0,e1,e2,e3.putBlk hb hx _ _⟩

def RowsAt (K:Nat) (w:World) (b Ln p g:Nat) (R:Nat->List Rat):Prop:=∃ xs,Blk w b 41 xs/\xs.length = p + 1/\(∀ x ∈ xs,bh x)/\∀ j,g <= j->j <= p->∃ rb,xs[j]? = some (.slice (some ⟨rb,0,none⟩) Ln Ln)/\b < rb/\FArk K w rb (R j)
def InAt (K:Nat) (w:World) (b cur Ln p t:Nat) (R:Nat->List Rat) (part:List Rat):Prop:=∃ xs,Blk w b 41 xs/\xs.length = p + 1/\(∀ x ∈ xs,bh x)/\xs[t]? = some (.slice (some ⟨cur,0,none⟩) Ln Ln)/\b < cur/\FArk K w cur part /\
 ∀ j,t + 1 <= j->j <= p->∃ rb,xs[j]? = some (.slice (some ⟨rb,0,none⟩) Ln Ln)/\b < rb/\rb < cur/\FArk K w rb (R j)
theorem RowsAt.below {K:Nat} {w w':World} {b Ln p g:Nat} {R:Nat->List Rat} (h:RowsAt K w b Ln p g R)(hb:Below w.heap.size w w'):RowsAt K w' b Ln p g R:=by
 obtain ⟨xs,h1,h2,h3,h4⟩:=h
 refine ⟨xs,h1.below' hb,h2,h3,fun j hg hp=>?_⟩
 obtain ⟨rb,e,hl,hf⟩:=h4 j hg hp
 exact ⟨rb,e,hl,hf.below hb⟩
theorem RowsAt.row {K:Nat} {w:World} {b Ln p g:Nat} {R:Nat->List Rat} (h:RowsAt K w b Ln p g R) {j:Nat} (hg:g <= j)(hp:j <= p):∃ rb,w.cell? ⟨b,j,none⟩ = some (.slice (some ⟨rb,0,none⟩) Ln Ln)/\FArk K w rb (R j)/\b < w.heap.size:=by
 obtain ⟨xs,h1,h2,h3,h4⟩:=h
 obtain ⟨rb,e,hl,hf⟩:=h4 j hg hp
 exact ⟨rb,(h1.cell j).trans e,hf,h1.lt⟩
theorem InAt.below {K:Nat} {w w':World} {b cur Ln p t:Nat} {R:Nat->List Rat} {part:List Rat} (h:InAt K w b cur Ln p t R part)(hb:Below w.heap.size w w'):InAt K w' b cur Ln p t R part:=by
 obtain ⟨xs,h1,h2,h3,h4,h5,h6,h7⟩:=h
 refine ⟨xs,h1.below' hb,h2,h3,h4,h5,h6.below hb,fun j hg hp=>?_⟩
 obtain ⟨rb,e,hl,hlt,hf⟩:=h7 j hg hp
 exact ⟨rb,e,hl,hlt,hf.below hb⟩
theorem InAt.start {K:Nat} {w w2:World} {b Ln p t:Nat} {R:Nat->List Rat} (h:RowsAt K w b Ln p (t + 1) R)(hf:FArr (w.heap.size + 1) w2 w.heap.size (List.replicate Ln 0))(hb:Below w.heap.size w w2)(ht:t <= p)(h0:0 < K)(hK:K <= 17592186044416) :
  InAt K (w2.setCell ⟨b,t,none⟩ (.slice (some ⟨w.heap.size,0,none⟩) Ln Ln)) b w.heap.size Ln p t R (List.replicate Ln 0):=by
 obtain ⟨xs,h1,h2,h3,h4⟩:=h
 have hlt:=h1.lt
 have h1':=h1.below' hb
 refine ⟨_,h1'.set_ t _,by simpa using h2,aO h3 _ (show bh (.slice _ _ _) from trivial),List.getElem?_set_self (by omega),hlt,(hf.zeros h0 hK).far h1' h3 (by omega) _ _,fun j hg hp=>?_⟩
 obtain ⟨rb,e,hl,hfr⟩:=h4 j hg hp
 exact ⟨rb,by rw [sN (by omega)]; exact e,hl,hfr.lt,(hfr.below hb).far h1' h3 (by omega) _ _⟩
theorem InAt.done {K:Nat} {w:World} {b cur Ln p t:Nat} {R:Nat->List Rat} {part:List Rat} (h:InAt K w b cur Ln p t R part)(he:part = R t):RowsAt K w b Ln p t R:=by
 obtain ⟨xs,h1,h2,h3,h4,h5,h6,h7⟩:=h
 refine ⟨xs,h1,h2,h3,fun j hg hp=>?_⟩
 rcases Nat.eq_or_lt_of_le hg with e | e
 ·subst e
  exact ⟨cur,h4,h5,he ▸ h6⟩
 obtain ⟨rb,e,hl,hlt,hf⟩:=h7 j e hp
 exact ⟨rb,e,hl,hf⟩
theorem InAt.cell {K:Nat} {w:World} {b cur Ln p t:Nat} {R:Nat->List Rat} {part:List Rat} (h:InAt K w b cur Ln p t R part):w.cell? ⟨b,t,none⟩ = some (.slice (some ⟨cur,0,none⟩) Ln Ln)/\cur < w.heap.size/\b < w.heap.size:=by
 obtain ⟨xs,h1,h2,h3,h4,h5,h6,_⟩:=h
 exact ⟨(h1.cell t).trans h4,h6.lt,h1.lt⟩
theorem InAt.put {K:Nat} {w:World} {b cur Ln p t:Nat} {R:Nat->List Rat} {part:List Rat} (h:InAt K w b cur Ln p t R part) {i:Nat} (hi:i < part.length) {q:Rat} {s:Bool} {A A':Option Addr} {m c m' c':Nat} (hq:FracAt K w (.agg #[.bool s,.slice A m c,.slice A' m' c']) q) :
  InAt K (((w.setCell ⟨cur,i * 3,none⟩ (.bool s)).setCell ⟨cur,i * 3 + 1,none⟩ (.slice A m c)).setCell ⟨cur,i * 3 + 2,none⟩ (.slice A' m' c')) b cur Ln p t R (part.set i q):=by
 obtain ⟨xs,h1,h2,h3,h4,h5,h6,h7⟩:=h
 refine ⟨xs,((h1.far (p:=⟨cur,i * 3,none⟩) (show b ≠ cur by omega) _).far (p:=⟨cur,i * 3 + 1,none⟩) (show b ≠ cur by omega) _).far (p:=⟨cur,i * 3 + 2,none⟩) (show b ≠ cur by omega) _,h2,h3,h4,h5,h6.put hi hq,fun j hg hp=>?_⟩
 obtain ⟨rb,e,hl,hlt,hf⟩:=h7 j hg hp
 exact ⟨rb,e,hl,hlt,hf.put_other h6 (by omega) _ _ _ _ _ _ _ _⟩
end Go.Proofs.YtjebfdfkjlkifaaGreat
