/- Lemmas on the way: Jt1. -/
import Derived.Test.YtdehimgccmbfkaaGreatT31
set_option linter.all false
set_option maxRecDepth 1000000
set_option maxHeartbeats 32000000
namespace Go.Proofs.YtdehimgccmbfkaaGreat
open Go.RowKit
theorem ty_bool_sz:sizeT Tryz.prog 4 = some 1:=by kernel_rfl
theorem ty_bool_pa (c:List AV) (o:Nat):partA Tryz.prog 4 c o = c[o]?:=partA_sc (by kernel_rfl) c o
theorem ty_bool_zr:zeroT Tryz.prog 4 = some (.b false):=by kernel_rfl
theorem ty_bool_st (s:St) (v:AV) (o f:Nat):storeA Tryz.prog s 4 v (.ptr o f) = stoK s 1 v o f (s.h.get o):=storeA_eq (by kernel_rfl) s v o f
theorem ty_bool:type_of% (And.intro @ty_bool_sz (And.intro @ty_bool_pa (And.intro @ty_bool_zr @ty_bool_st))):=(And.intro @ty_bool_sz (And.intro @ty_bool_pa (And.intro @ty_bool_zr @ty_bool_st)))

theorem ty_int_sz:sizeT Tryz.prog 3 = some 1:=by kernel_rfl
theorem ty_int_pa (c:List AV) (o:Nat):partA Tryz.prog 3 c o = c[o]?:=partA_sc (by kernel_rfl) c o
theorem ty_int_zr:zeroT Tryz.prog 3 = some (.i .i64 0):=by kernel_rfl
theorem ty_int_st (s:St) (v:AV) (o f:Nat):storeA Tryz.prog s 3 v (.ptr o f) = stoK s 1 v o f (s.h.get o):=storeA_eq (by kernel_rfl) s v o f
theorem ty_int:type_of% (And.intro @ty_int_sz (And.intro @ty_int_pa (And.intro @ty_int_zr @ty_int_st))):=(And.intro @ty_int_sz (And.intro @ty_int_pa (And.intro @ty_int_zr @ty_int_st)))

theorem ty_uint32_sz:sizeT Tryz.prog 182 = some 1:=by kernel_rfl
theorem ty_uint32_pa (c:List AV) (o:Nat):partA Tryz.prog 182 c o = c[o]?:=partA_sc (by kernel_rfl) c o
theorem ty_uint32_zr:zeroT Tryz.prog 182 = some (.i .u32 0):=by kernel_rfl
theorem ty_uint32_st (s:St) (v:AV) (o f:Nat):storeA Tryz.prog s 182 v (.ptr o f) = stoK s 1 v o f (s.h.get o):=storeA_eq (by kernel_rfl) s v o f
theorem ty_uint32:type_of% (And.intro @ty_uint32_sz (And.intro @ty_uint32_pa (And.intro @ty_uint32_zr @ty_uint32_st))):=(And.intro @ty_uint32_sz (And.intro @ty_uint32_pa (And.intro @ty_uint32_zr @ty_uint32_st)))

theorem ty_api_Errno_sz:sizeT Tryz.prog 39 = some 1:=by kernel_rfl
theorem ty_api_Errno_pa (c:List AV) (o:Nat):partA Tryz.prog 39 c o = c[o]?:=partA_sc (by kernel_rfl) c o
theorem ty_api_Errno_zr:zeroT Tryz.prog 39 = some (.i .i64 0):=by kernel_rfl
theorem ty_api_Errno_st (s:St) (v:AV) (o f:Nat):storeA Tryz.prog s 39 v (.ptr o f) = stoK s 1 v o f (s.h.get o):=storeA_eq (by kernel_rfl) s v o f
theorem ty_api_Errno:type_of% (And.intro @ty_api_Errno_sz (And.intro @ty_api_Errno_pa (And.intro @ty_api_Errno_zr @ty_api_Errno_st))):=(And.intro @ty_api_Errno_sz (And.intro @ty_api_Errno_pa (And.intro @ty_api_Errno_zr @ty_api_Errno_st)))

theorem ty_api_Smoothing_sz:sizeT Tryz.prog 28 = some 1:=by kernel_rfl
theorem ty_api_Smoothing_pa (c:List AV) (o:Nat):partA Tryz.prog 28 c o = c[o]?:=partA_sc (by kernel_rfl) c o
theorem ty_api_Smoothing_zr:zeroT Tryz.prog 28 = some (.i .i64 0):=by kernel_rfl
theorem ty_api_Smoothing_st (s:St) (v:AV) (o f:Nat):storeA Tryz.prog s 28 v (.ptr o f) = stoK s 1 v o f (s.h.get o):=storeA_eq (by kernel_rfl) s v o f
theorem ty_api_Smoothing:type_of% (And.intro @ty_api_Smoothing_sz (And.intro @ty_api_Smoothing_pa (And.intro @ty_api_Smoothing_zr @ty_api_Smoothing_st))):=(And.intro @ty_api_Smoothing_sz (And.intro @ty_api_Smoothing_pa (And.intro @ty_api_Smoothing_zr @ty_api_Smoothing_st)))

theorem ty_api_Frac_sz:sizeT Tryz.prog 31 = some 3:=by kernel_rfl
theorem ty_api_Frac_pa (c:List AV) (o:Nat):partA Tryz.prog 31 c o = (getR c o 3).map .agg:=partA_ag (by kernel_rfl) (by kernel_rfl) c o
theorem ty_api_Frac_zr:zeroT Tryz.prog 31 = some (.agg [.b false,.snil,.snil]):=by kernel_rfl
theorem ty_api_Frac_st (s:St) (v:AV) (o f:Nat):storeA Tryz.prog s 31 v (.ptr o f) = stoK s 3 v o f (s.h.get o):=storeA_eq (by kernel_rfl) s v o f
theorem ty_api_Frac_fp0 (o f:Nat):fadA Tryz.prog 31 0 (.ptr o f) = some (.ptr o (f + 0)):=by kernel_rfl
theorem ty_api_Frac_fv0 (c:List AV) (f:Nat):fadA Tryz.prog 31 0 (.vp c f) = some (.vp c (f + 0)):=by kernel_rfl
theorem ty_api_Frac_fl0 (l:List AV):fldA Tryz.prog 31 0 (.agg l) = l[0]?:=by kernel_rfl
theorem ty_api_Frac_fp1 (o f:Nat):fadA Tryz.prog 31 1 (.ptr o f) = some (.ptr o (f + 1)):=by kernel_rfl
theorem ty_api_Frac_fv1 (c:List AV) (f:Nat):fadA Tryz.prog 31 1 (.vp c f) = some (.vp c (f + 1)):=by kernel_rfl
theorem ty_api_Frac_fl1 (l:List AV):fldA Tryz.prog 31 1 (.agg l) = l[1]?:=by kernel_rfl
theorem ty_api_Frac_fp2 (o f:Nat):fadA Tryz.prog 31 2 (.ptr o f) = some (.ptr o (f + 2)):=by kernel_rfl
theorem ty_api_Frac_fv2 (c:List AV) (f:Nat):fadA Tryz.prog 31 2 (.vp c f) = some (.vp c (f + 2)):=by kernel_rfl
theorem ty_api_Frac_fl2 (l:List AV):fldA Tryz.prog 31 2 (.agg l) = l[2]?:=by kernel_rfl
theorem ty_api_Frac_bl {X:Env} {E:Ev} {ρ:Operand->Option AV} {s:St} {K:AV->St->Prop} (ps:Array (Nat × Operand)):opK Tryz.prog X E ρ s (.build 31 ps) K = bindK (fillL ρ [(0,1),(1,1),(2,1)] [.b false,.snil,.snil] ps.toList) fun c=>K (.agg c) s:=O_bl ty_api_Frac_zr Tryz.underlying31 (by kernel_rfl) ps
theorem ty_api_Frac:type_of% (And.intro @ty_api_Frac_sz (And.intro @ty_api_Frac_pa (And.intro @ty_api_Frac_zr (And.intro @ty_api_Frac_st (And.intro @ty_api_Frac_fp0 (And.intro @ty_api_Frac_fv0 (And.intro @ty_api_Frac_fl0 (And.intro @ty_api_Frac_fp1 (And.intro @ty_api_Frac_fv1 (And.intro @ty_api_Frac_fl1 (And.intro @ty_api_Frac_fp2 (And.intro @ty_api_Frac_fv2 (And.intro @ty_api_Frac_fl2 @ty_api_Frac_bl))))))))))))):=(And.intro @ty_api_Frac_sz (And.intro @ty_api_Frac_pa (And.intro @ty_api_Frac_zr (And.intro @ty_api_Frac_st (And.intro @ty_api_Frac_fp0 (And.intro @ty_api_Frac_fv0 (And.intro @ty_api_Frac_fl0 (And.intro @ty_api_Frac_fp1 (And.intro @ty_api_Frac_fv1 (And.intro @ty_api_Frac_fl1 (And.intro @ty_api_Frac_fp2 (And.intro @ty_api_Frac_fv2 (And.intro @ty_api_Frac_fl2 @ty_api_Frac_bl)))))))))))))

theorem ty_api_Arc_sz:sizeT Tryz.prog 45 = some 7:=by kernel_rfl
theorem ty_api_Arc_pa (c:List AV) (o:Nat):partA Tryz.prog 45 c o = (getR c o 7).map .agg:=partA_ag (by kernel_rfl) (by kernel_rfl) c o
theorem ty_api_Arc_zr:zeroT Tryz.prog 45 = some (.agg [.i .i64 0,.i .i64 0,.i .i64 0,.i .i64 0,.b false,.snil,.snil]):=by kernel_rfl
theorem ty_api_Arc_st (s:St) (v:AV) (o f:Nat):storeA Tryz.prog s 45 v (.ptr o f) = stoK s 7 v o f (s.h.get o):=storeA_eq (by kernel_rfl) s v o f
theorem ty_api_Arc_fp0 (o f:Nat):fadA Tryz.prog 45 0 (.ptr o f) = some (.ptr o (f + 0)):=by kernel_rfl
theorem ty_api_Arc_fv0 (c:List AV) (f:Nat):fadA Tryz.prog 45 0 (.vp c f) = some (.vp c (f + 0)):=by kernel_rfl
theorem ty_api_Arc_fl0 (l:List AV):fldA Tryz.prog 45 0 (.agg l) = l[0]?:=by kernel_rfl
theorem ty_api_Arc_fp1 (o f:Nat):fadA Tryz.prog 45 1 (.ptr o f) = some (.ptr o (f + 1)):=by kernel_rfl
theorem ty_api_Arc_fv1 (c:List AV) (f:Nat):fadA Tryz.prog 45 1 (.vp c f) = some (.vp c (f + 1)):=by kernel_rfl
theorem ty_api_Arc_fl1 (l:List AV):fldA Tryz.prog 45 1 (.agg l) = l[1]?:=by kernel_rfl
theorem ty_api_Arc_fp2 (o f:Nat):fadA Tryz.prog 45 2 (.ptr o f) = some (.ptr o (f + 2)):=by kernel_rfl
theorem ty_api_Arc_fv2 (c:List AV) (f:Nat):fadA Tryz.prog 45 2 (.vp c f) = some (.vp c (f + 2)):=by kernel_rfl
theorem ty_api_Arc_fl2 (l:List AV):fldA Tryz.prog 45 2 (.agg l) = l[2]?:=by kernel_rfl
theorem ty_api_Arc_fp3 (o f:Nat):fadA Tryz.prog 45 3 (.ptr o f) = some (.ptr o (f + 3)):=by kernel_rfl
theorem ty_api_Arc_fv3 (c:List AV) (f:Nat):fadA Tryz.prog 45 3 (.vp c f) = some (.vp c (f + 3)):=by kernel_rfl
theorem ty_api_Arc_fl3 (l:List AV):fldA Tryz.prog 45 3 (.agg l) = l[3]?:=by kernel_rfl
theorem ty_api_Arc_fp4 (o f:Nat):fadA Tryz.prog 45 4 (.ptr o f) = some (.ptr o (f + 4)):=by kernel_rfl
theorem ty_api_Arc_fv4 (c:List AV) (f:Nat):fadA Tryz.prog 45 4 (.vp c f) = some (.vp c (f + 4)):=by kernel_rfl
theorem ty_api_Arc_fl4 (l:List AV):fldA Tryz.prog 45 4 (.agg l) = (getR l 4 3).map .agg:=by kernel_rfl
theorem ty_api_Arc_bl {X:Env} {E:Ev} {ρ:Operand->Option AV} {s:St} {K:AV->St->Prop} (ps:Array (Nat × Operand)):opK Tryz.prog X E ρ s (.build 45 ps) K = bindK (fillL ρ [(0,1),(1,1),(2,1),(3,1),(4,3)] [.i .i64 0,.i .i64 0,.i .i64 0,.i .i64 0,.b false,.snil,.snil] ps.toList) fun c=>K (.agg c) s:=O_bl ty_api_Arc_zr Tryz.underlying45 (by kernel_rfl) ps
theorem ty_api_Arc:type_of% (And.intro @ty_api_Arc_sz (And.intro @ty_api_Arc_pa (And.intro @ty_api_Arc_zr (And.intro @ty_api_Arc_st (And.intro @ty_api_Arc_fp0 (And.intro @ty_api_Arc_fv0 (And.intro @ty_api_Arc_fl0 (And.intro @ty_api_Arc_fp1 (And.intro @ty_api_Arc_fv1 (And.intro @ty_api_Arc_fl1 (And.intro @ty_api_Arc_fp2 (And.intro @ty_api_Arc_fv2 (And.intro @ty_api_Arc_fl2 (And.intro @ty_api_Arc_fp3 (And.intro @ty_api_Arc_fv3 (And.intro @ty_api_Arc_fl3 (And.intro @ty_api_Arc_fp4 (And.intro @ty_api_Arc_fv4 (And.intro @ty_api_Arc_fl4 @ty_api_Arc_bl))))))))))))))))))):=(And.intro @ty_api_Arc_sz (And.intro @ty_api_Arc_pa (And.intro @ty_api_Arc_zr (And.intro @ty_api_Arc_st (And.intro @ty_api_Arc_fp0 (And.intro @ty_api_Arc_fv0 (And.intro @ty_api_Arc_fl0 (And.intro @ty_api_Arc_fp1 (And.intro @ty_api_Arc_fv1 (And.intro @ty_api_Arc_fl1 (And.intro @ty_api_Arc_fp2 (And.intro @ty_api_Arc_fv2 (And.intro @ty_api_Arc_fl2 (And.intro @ty_api_Arc_fp3 (And.intro @ty_api_Arc_fv3 (And.intro @ty_api_Arc_fl3 (And.intro @ty_api_Arc_fp4 (And.intro @ty_api_Arc_fv4 (And.intro @ty_api_Arc_fl4 @ty_api_Arc_bl)))))))))))))))))))

theorem ty_api_Gram_sz:sizeT Tryz.prog 127 = some 2:=by kernel_rfl
theorem ty_api_Gram_pa (c:List AV) (o:Nat):partA Tryz.prog 127 c o = (getR c o 2).map .agg:=partA_ag (by kernel_rfl) (by kernel_rfl) c o
theorem ty_api_Gram_zr:zeroT Tryz.prog 127 = some (.agg [.snil,.i .i64 0]):=by kernel_rfl
theorem ty_api_Gram_st (s:St) (v:AV) (o f:Nat):storeA Tryz.prog s 127 v (.ptr o f) = stoK s 2 v o f (s.h.get o):=storeA_eq (by kernel_rfl) s v o f
theorem ty_api_Gram_fp0 (o f:Nat):fadA Tryz.prog 127 0 (.ptr o f) = some (.ptr o (f + 0)):=by kernel_rfl
theorem ty_api_Gram_fv0 (c:List AV) (f:Nat):fadA Tryz.prog 127 0 (.vp c f) = some (.vp c (f + 0)):=by kernel_rfl
theorem ty_api_Gram_fl0 (l:List AV):fldA Tryz.prog 127 0 (.agg l) = l[0]?:=by kernel_rfl
theorem ty_api_Gram_fp1 (o f:Nat):fadA Tryz.prog 127 1 (.ptr o f) = some (.ptr o (f + 1)):=by kernel_rfl
theorem ty_api_Gram_fv1 (c:List AV) (f:Nat):fadA Tryz.prog 127 1 (.vp c f) = some (.vp c (f + 1)):=by kernel_rfl
theorem ty_api_Gram_fl1 (l:List AV):fldA Tryz.prog 127 1 (.agg l) = l[1]?:=by kernel_rfl
theorem ty_api_Gram_bl {X:Env} {E:Ev} {ρ:Operand->Option AV} {s:St} {K:AV->St->Prop} (ps:Array (Nat × Operand)):opK Tryz.prog X E ρ s (.build 127 ps) K = bindK (fillL ρ [(0,1),(1,1)] [.snil,.i .i64 0] ps.toList) fun c=>K (.agg c) s:=O_bl ty_api_Gram_zr Tryz.underlying127 (by kernel_rfl) ps
theorem ty_api_Gram:type_of% (And.intro @ty_api_Gram_sz (And.intro @ty_api_Gram_pa (And.intro @ty_api_Gram_zr (And.intro @ty_api_Gram_st (And.intro @ty_api_Gram_fp0 (And.intro @ty_api_Gram_fv0 (And.intro @ty_api_Gram_fl0 (And.intro @ty_api_Gram_fp1 (And.intro @ty_api_Gram_fv1 (And.intro @ty_api_Gram_fl1 @ty_api_Gram_bl)))))))))):=(And.intro @ty_api_Gram_sz (And.intro @ty_api_Gram_pa (And.intro @ty_api_Gram_zr (And.intro @ty_api_Gram_st (And.intro @ty_api_Gram_fp0 (And.intro @ty_api_Gram_fv0 (And.intro @ty_api_Gram_fl0 (And.intro @ty_api_Gram_fp1 (And.intro @ty_api_Gram_fv1 (And.intro @ty_api_Gram_fl1 @ty_api_Gram_bl))))))))))

theorem ty_s_uint32_sz:sizeT Tryz.prog 29 = some 1:=by kernel_rfl
theorem ty_s_uint32_pa (c:List AV) (o:Nat):partA Tryz.prog 29 c o = c[o]?:=partA_sc (by kernel_rfl) c o
theorem ty_s_uint32_zr:zeroT Tryz.prog 29 = some (.snil):=by kernel_rfl
theorem ty_s_uint32_st (s:St) (v:AV) (o f:Nat):storeA Tryz.prog s 29 v (.ptr o f) = stoK s 1 v o f (s.h.get o):=storeA_eq (by kernel_rfl) s v o f
theorem ty_s_uint32_ix {z:Int} {n:Nat} (h:0 <= z)(h1:z.toNat < n) (o f c:Nat):idxA Tryz.prog 29 (.sl o f n c) (.i .i64 z) = some (.ptr o (f + z.toNat * 1)):=idxA_sl Tryz.underlying29 (by kernel_rfl) h h1 o f c
theorem ty_s_uint32_iv {z:Int} {n:Nat} (h:0 <= z)(h1:z.toNat < n) (c:List AV):idxA Tryz.prog 29 (.vw c n) (.i .i64 z) = some (.vp c (z.toNat * 1)):=idxA_vw Tryz.underlying29 (by kernel_rfl) h h1 c
theorem ty_s_uint32_ln {X:Env} {E:Ev} {ρ:Operand->Option AV} {s:St} {K:AV->St->Prop} (x:Operand):opK Tryz.prog X E ρ s (.call ⟨.builtin .len,#[x],#[29]⟩) K = bindK (ρ x) fun a=>bindK (lenS a) fun v=>K v s:=O_lenS Tryz.underlying29 x
theorem ty_s_uint32_un:Tryz.prog.underlying 29 = some (.slice 182):=Tryz.underlying29
theorem ty_s_uint32:type_of% (And.intro @ty_s_uint32_sz (And.intro @ty_s_uint32_pa (And.intro @ty_s_uint32_zr (And.intro @ty_s_uint32_st (And.intro @ty_s_uint32_ix (And.intro @ty_s_uint32_iv (And.intro @ty_s_uint32_ln @ty_s_uint32_un))))))):=(And.intro @ty_s_uint32_sz (And.intro @ty_s_uint32_pa (And.intro @ty_s_uint32_zr (And.intro @ty_s_uint32_st (And.intro @ty_s_uint32_ix (And.intro @ty_s_uint32_iv (And.intro @ty_s_uint32_ln @ty_s_uint32_un)))))))

theorem ty_s_int_sz:sizeT Tryz.prog 51 = some 1:=by kernel_rfl
theorem ty_s_int_pa (c:List AV) (o:Nat):partA Tryz.prog 51 c o = c[o]?:=partA_sc (by kernel_rfl) c o
theorem ty_s_int_zr:zeroT Tryz.prog 51 = some (.snil):=by kernel_rfl
theorem ty_s_int_st (s:St) (v:AV) (o f:Nat):storeA Tryz.prog s 51 v (.ptr o f) = stoK s 1 v o f (s.h.get o):=storeA_eq (by kernel_rfl) s v o f
theorem ty_s_int_mk {X:Env} {E:Ev} {ρ:Operand->Option AV} {s:St} {K:AV->St->Prop} (l c:Operand):opK Tryz.prog X E ρ s (.makeSlice 51 l c) K = bindK (ρ l) fun a=>bindK (ρ c) fun b=>bindK (bnd a) fun l=>bindK (bnd b) fun c=>bindK (lenOk l c) fun _=>K (.sl s.nx 0 l c) (s.new (.cells (reps [.i .i64 0] c) 3 false)):=O_mk Tryz.underlying51 ty_int_zr (nz:=1) (by kernel_rfl) l c
theorem ty_s_int_bs {X:Env} {E:Ev} {ρ:Operand->Option AV} {s:St} {K:AV->St->Prop} (x:Operand):opK Tryz.prog X E ρ s (.buildSlice 51 1 #[(0,x)]) K = bindK (ρ x) fun v=>bindK (cond (Nat.beq v.cells.length 1 && v.cells.all flat) (some ()) none) fun _=>K (.sl s.nx 0 1 1) (s.new (.cells v.cells 3 false)):=O_bs Tryz.underlying51 ty_int_zr ty_int_sz (by kernel_rfl) x
theorem ty_s_int_an (o:Nat) (s:St):appV Tryz.prog 51 51 .snil (.sl o 0 1 1) s = (apR 1 (s.h.get o)).map fun new=>(.sl s.nx 0 1 (big + 1),s.new (.cells new 3 true)):=appV_nil Tryz.underlying51 Tryz.underlying51 ty_int_zr (by kernel_rfl) o s
theorem ty_s_int_as (o o2 n:Nat) (s:St):appV Tryz.prog 51 51 (.sl o 0 n (big + 1)) (.sl o2 0 1 1) s = ap2 Tryz.prog 51 51 3 1 o n (big + 1) o2 s (s.h.get o) (s.h.get o2):=appV_2 Tryz.underlying51 Tryz.underlying51 ty_int_zr (by kernel_rfl) o o2 n s
theorem ty_s_int_ix {z:Int} {n:Nat} (h:0 <= z)(h1:z.toNat < n) (o f c:Nat):idxA Tryz.prog 51 (.sl o f n c) (.i .i64 z) = some (.ptr o (f + z.toNat * 1)):=idxA_sl Tryz.underlying51 (by kernel_rfl) h h1 o f c
theorem ty_s_int_iv {z:Int} {n:Nat} (h:0 <= z)(h1:z.toNat < n) (c:List AV):idxA Tryz.prog 51 (.vw c n) (.i .i64 z) = some (.vp c (z.toNat * 1)):=idxA_vw Tryz.underlying51 (by kernel_rfl) h h1 c
theorem ty_s_int_ln {X:Env} {E:Ev} {ρ:Operand->Option AV} {s:St} {K:AV->St->Prop} (x:Operand):opK Tryz.prog X E ρ s (.call ⟨.builtin .len,#[x],#[51]⟩) K = bindK (ρ x) fun a=>bindK (lenS a) fun v=>K v s:=O_lenS Tryz.underlying51 x
theorem ty_s_int_un:Tryz.prog.underlying 51 = some (.slice 3):=Tryz.underlying51
theorem ty_s_int:type_of% (And.intro @ty_s_int_sz (And.intro @ty_s_int_pa (And.intro @ty_s_int_zr (And.intro @ty_s_int_st (And.intro @ty_s_int_mk (And.intro @ty_s_int_bs (And.intro @ty_s_int_an (And.intro @ty_s_int_as (And.intro @ty_s_int_ix (And.intro @ty_s_int_iv (And.intro @ty_s_int_ln @ty_s_int_un))))))))))):=(And.intro @ty_s_int_sz (And.intro @ty_s_int_pa (And.intro @ty_s_int_zr (And.intro @ty_s_int_st (And.intro @ty_s_int_mk (And.intro @ty_s_int_bs (And.intro @ty_s_int_an (And.intro @ty_s_int_as (And.intro @ty_s_int_ix (And.intro @ty_s_int_iv (And.intro @ty_s_int_ln @ty_s_int_un)))))))))))

theorem ty_s_api_Gram_sz:sizeT Tryz.prog 25 = some 1:=by kernel_rfl
theorem ty_s_api_Gram_pa (c:List AV) (o:Nat):partA Tryz.prog 25 c o = c[o]?:=partA_sc (by kernel_rfl) c o
theorem ty_s_api_Gram_zr:zeroT Tryz.prog 25 = some (.snil):=by kernel_rfl
theorem ty_s_api_Gram_st (s:St) (v:AV) (o f:Nat):storeA Tryz.prog s 25 v (.ptr o f) = stoK s 1 v o f (s.h.get o):=storeA_eq (by kernel_rfl) s v o f
theorem ty_s_api_Gram_mk {X:Env} {E:Ev} {ρ:Operand->Option AV} {s:St} {K:AV->St->Prop} (l c:Operand):opK Tryz.prog X E ρ s (.makeSlice 25 l c) K = bindK (ρ l) fun a=>bindK (ρ c) fun b=>bindK (bnd a) fun l=>bindK (bnd b) fun c=>bindK (lenOk l c) fun _=>K (.sl s.nx 0 l c) (s.new (.cells (reps [.snil,.i .i64 0] c) 127 false)):=O_mk Tryz.underlying25 ty_api_Gram_zr (nz:=2) (by kernel_rfl) l c
theorem ty_s_api_Gram_bs {X:Env} {E:Ev} {ρ:Operand->Option AV} {s:St} {K:AV->St->Prop} (x:Operand):opK Tryz.prog X E ρ s (.buildSlice 25 1 #[(0,x)]) K = bindK (ρ x) fun v=>bindK (cond (Nat.beq v.cells.length 2 && v.cells.all flat) (some ()) none) fun _=>K (.sl s.nx 0 1 1) (s.new (.cells v.cells 127 false)):=O_bs Tryz.underlying25 ty_api_Gram_zr ty_api_Gram_sz (by kernel_rfl) x
theorem ty_s_api_Gram_an (o:Nat) (s:St):appV Tryz.prog 25 25 .snil (.sl o 0 1 1) s = (apR 2 (s.h.get o)).map fun new=>(.sl s.nx 0 1 (big + 2),s.new (.cells new 127 true)):=appV_nil Tryz.underlying25 Tryz.underlying25 ty_api_Gram_zr (by kernel_rfl) o s
theorem ty_s_api_Gram_as (o o2 n:Nat) (s:St):appV Tryz.prog 25 25 (.sl o 0 n (big + 2)) (.sl o2 0 1 1) s = ap2 Tryz.prog 25 25 127 2 o n (big + 2) o2 s (s.h.get o) (s.h.get o2):=appV_2 Tryz.underlying25 Tryz.underlying25 ty_api_Gram_zr (by kernel_rfl) o o2 n s
theorem ty_s_api_Gram_ix {z:Int} {n:Nat} (h:0 <= z)(h1:z.toNat < n) (o f c:Nat):idxA Tryz.prog 25 (.sl o f n c) (.i .i64 z) = some (.ptr o (f + z.toNat * 2)):=idxA_sl Tryz.underlying25 (by kernel_rfl) h h1 o f c
theorem ty_s_api_Gram_iv {z:Int} {n:Nat} (h:0 <= z)(h1:z.toNat < n) (c:List AV):idxA Tryz.prog 25 (.vw c n) (.i .i64 z) = some (.vp c (z.toNat * 2)):=idxA_vw Tryz.underlying25 (by kernel_rfl) h h1 c
theorem ty_s_api_Gram_ln {X:Env} {E:Ev} {ρ:Operand->Option AV} {s:St} {K:AV->St->Prop} (x:Operand):opK Tryz.prog X E ρ s (.call ⟨.builtin .len,#[x],#[25]⟩) K = bindK (ρ x) fun a=>bindK (lenS a) fun v=>K v s:=O_lenS Tryz.underlying25 x
theorem ty_s_api_Gram_un:Tryz.prog.underlying 25 = some (.slice 127):=Tryz.underlying25
theorem ty_s_api_Gram:type_of% (And.intro @ty_s_api_Gram_sz (And.intro @ty_s_api_Gram_pa (And.intro @ty_s_api_Gram_zr (And.intro @ty_s_api_Gram_st (And.intro @ty_s_api_Gram_mk (And.intro @ty_s_api_Gram_bs (And.intro @ty_s_api_Gram_an (And.intro @ty_s_api_Gram_as (And.intro @ty_s_api_Gram_ix (And.intro @ty_s_api_Gram_iv (And.intro @ty_s_api_Gram_ln @ty_s_api_Gram_un))))))))))):=(And.intro @ty_s_api_Gram_sz (And.intro @ty_s_api_Gram_pa (And.intro @ty_s_api_Gram_zr (And.intro @ty_s_api_Gram_st (And.intro @ty_s_api_Gram_mk (And.intro @ty_s_api_Gram_bs (And.intro @ty_s_api_Gram_an (And.intro @ty_s_api_Gram_as (And.intro @ty_s_api_Gram_ix (And.intro @ty_s_api_Gram_iv (And.intro @ty_s_api_Gram_ln @ty_s_api_Gram_un)))))))))))

theorem ty_api_Table_sz:sizeT Tryz.prog 27 = some 3:=by kernel_rfl
theorem ty_api_Table_pa (c:List AV) (o:Nat):partA Tryz.prog 27 c o = (getR c o 3).map .agg:=partA_ag (by kernel_rfl) (by kernel_rfl) c o
theorem ty_api_Table_zr:zeroT Tryz.prog 27 = some (.agg [.i .i64 0,.i .i64 0,.snil]):=by kernel_rfl
theorem ty_api_Table_st (s:St) (v:AV) (o f:Nat):storeA Tryz.prog s 27 v (.ptr o f) = stoK s 3 v o f (s.h.get o):=storeA_eq (by kernel_rfl) s v o f
theorem ty_api_Table_fp0 (o f:Nat):fadA Tryz.prog 27 0 (.ptr o f) = some (.ptr o (f + 0)):=by kernel_rfl
theorem ty_api_Table_fv0 (c:List AV) (f:Nat):fadA Tryz.prog 27 0 (.vp c f) = some (.vp c (f + 0)):=by kernel_rfl
theorem ty_api_Table_fl0 (l:List AV):fldA Tryz.prog 27 0 (.agg l) = l[0]?:=by kernel_rfl
theorem ty_api_Table_fp1 (o f:Nat):fadA Tryz.prog 27 1 (.ptr o f) = some (.ptr o (f + 1)):=by kernel_rfl
theorem ty_api_Table_fv1 (c:List AV) (f:Nat):fadA Tryz.prog 27 1 (.vp c f) = some (.vp c (f + 1)):=by kernel_rfl
theorem ty_api_Table_fl1 (l:List AV):fldA Tryz.prog 27 1 (.agg l) = l[1]?:=by kernel_rfl
theorem ty_api_Table_fp2 (o f:Nat):fadA Tryz.prog 27 2 (.ptr o f) = some (.ptr o (f + 2)):=by kernel_rfl
theorem ty_api_Table_fv2 (c:List AV) (f:Nat):fadA Tryz.prog 27 2 (.vp c f) = some (.vp c (f + 2)):=by kernel_rfl
theorem ty_api_Table_fl2 (l:List AV):fldA Tryz.prog 27 2 (.agg l) = l[2]?:=by kernel_rfl
theorem ty_api_Table_bl {X:Env} {E:Ev} {ρ:Operand->Option AV} {s:St} {K:AV->St->Prop} (ps:Array (Nat × Operand)):opK Tryz.prog X E ρ s (.build 27 ps) K = bindK (fillL ρ [(0,1),(1,1),(2,1)] [.i .i64 0,.i .i64 0,.snil] ps.toList) fun c=>K (.agg c) s:=O_bl ty_api_Table_zr Tryz.underlying27 (by kernel_rfl) ps
theorem ty_api_Table:type_of% (And.intro @ty_api_Table_sz (And.intro @ty_api_Table_pa (And.intro @ty_api_Table_zr (And.intro @ty_api_Table_st (And.intro @ty_api_Table_fp0 (And.intro @ty_api_Table_fv0 (And.intro @ty_api_Table_fl0 (And.intro @ty_api_Table_fp1 (And.intro @ty_api_Table_fv1 (And.intro @ty_api_Table_fl1 (And.intro @ty_api_Table_fp2 (And.intro @ty_api_Table_fv2 (And.intro @ty_api_Table_fl2 @ty_api_Table_bl))))))))))))):=(And.intro @ty_api_Table_sz (And.intro @ty_api_Table_pa (And.intro @ty_api_Table_zr (And.intro @ty_api_Table_st (And.intro @ty_api_Table_fp0 (And.intro @ty_api_Table_fv0 (And.intro @ty_api_Table_fl0 (And.intro @ty_api_Table_fp1 (And.intro @ty_api_Table_fv1 (And.intro @ty_api_Table_fl1 (And.intro @ty_api_Table_fp2 (And.intro @ty_api_Table_fv2 (And.intro @ty_api_Table_fl2 @ty_api_Table_bl)))))))))))))

theorem ty_s_api_Frac_sz:sizeT Tryz.prog 32 = some 1:=by kernel_rfl
theorem ty_s_api_Frac_pa (c:List AV) (o:Nat):partA Tryz.prog 32 c o = c[o]?:=partA_sc (by kernel_rfl) c o
theorem ty_s_api_Frac_zr:zeroT Tryz.prog 32 = some (.snil):=by kernel_rfl
theorem ty_s_api_Frac_st (s:St) (v:AV) (o f:Nat):storeA Tryz.prog s 32 v (.ptr o f) = stoK s 1 v o f (s.h.get o):=storeA_eq (by kernel_rfl) s v o f
theorem ty_s_api_Frac_mk {X:Env} {E:Ev} {ρ:Operand->Option AV} {s:St} {K:AV->St->Prop} (l c:Operand):opK Tryz.prog X E ρ s (.makeSlice 32 l c) K = bindK (ρ l) fun a=>bindK (ρ c) fun b=>bindK (bnd a) fun l=>bindK (bnd b) fun c=>bindK (lenOk l c) fun _=>K (.sl s.nx 0 l c) (s.new (.cells (reps [.b false,.snil,.snil] c) 31 false)):=O_mk Tryz.underlying32 ty_api_Frac_zr (nz:=3) (by kernel_rfl) l c
theorem ty_s_api_Frac_bs {X:Env} {E:Ev} {ρ:Operand->Option AV} {s:St} {K:AV->St->Prop} (x:Operand):opK Tryz.prog X E ρ s (.buildSlice 32 1 #[(0,x)]) K = bindK (ρ x) fun v=>bindK (cond (Nat.beq v.cells.length 3 && v.cells.all flat) (some ()) none) fun _=>K (.sl s.nx 0 1 1) (s.new (.cells v.cells 31 false)):=O_bs Tryz.underlying32 ty_api_Frac_zr ty_api_Frac_sz (by kernel_rfl) x
theorem ty_s_api_Frac_an (o:Nat) (s:St):appV Tryz.prog 32 32 .snil (.sl o 0 1 1) s = (apR 3 (s.h.get o)).map fun new=>(.sl s.nx 0 1 (big + 3),s.new (.cells new 31 true)):=appV_nil Tryz.underlying32 Tryz.underlying32 ty_api_Frac_zr (by kernel_rfl) o s
theorem ty_s_api_Frac_as (o o2 n:Nat) (s:St):appV Tryz.prog 32 32 (.sl o 0 n (big + 3)) (.sl o2 0 1 1) s = ap2 Tryz.prog 32 32 31 3 o n (big + 3) o2 s (s.h.get o) (s.h.get o2):=appV_2 Tryz.underlying32 Tryz.underlying32 ty_api_Frac_zr (by kernel_rfl) o o2 n s
theorem ty_s_api_Frac_ix {z:Int} {n:Nat} (h:0 <= z)(h1:z.toNat < n) (o f c:Nat):idxA Tryz.prog 32 (.sl o f n c) (.i .i64 z) = some (.ptr o (f + z.toNat * 3)):=idxA_sl Tryz.underlying32 (by kernel_rfl) h h1 o f c
theorem ty_s_api_Frac_iv {z:Int} {n:Nat} (h:0 <= z)(h1:z.toNat < n) (c:List AV):idxA Tryz.prog 32 (.vw c n) (.i .i64 z) = some (.vp c (z.toNat * 3)):=idxA_vw Tryz.underlying32 (by kernel_rfl) h h1 c
theorem ty_s_api_Frac_ln {X:Env} {E:Ev} {ρ:Operand->Option AV} {s:St} {K:AV->St->Prop} (x:Operand):opK Tryz.prog X E ρ s (.call ⟨.builtin .len,#[x],#[32]⟩) K = bindK (ρ x) fun a=>bindK (lenS a) fun v=>K v s:=O_lenS Tryz.underlying32 x
theorem ty_s_api_Frac_un:Tryz.prog.underlying 32 = some (.slice 31):=Tryz.underlying32
theorem ty_s_api_Frac:type_of% (And.intro @ty_s_api_Frac_sz (And.intro @ty_s_api_Frac_pa (And.intro @ty_s_api_Frac_zr (And.intro @ty_s_api_Frac_st (And.intro @ty_s_api_Frac_mk (And.intro @ty_s_api_Frac_bs (And.intro @ty_s_api_Frac_an (And.intro @ty_s_api_Frac_as (And.intro @ty_s_api_Frac_ix (And.intro @ty_s_api_Frac_iv (And.intro @ty_s_api_Frac_ln @ty_s_api_Frac_un))))))))))):=(And.intro @ty_s_api_Frac_sz (And.intro @ty_s_api_Frac_pa (And.intro @ty_s_api_Frac_zr (And.intro @ty_s_api_Frac_st (And.intro @ty_s_api_Frac_mk (And.intro @ty_s_api_Frac_bs (And.intro @ty_s_api_Frac_an (And.intro @ty_s_api_Frac_as (And.intro @ty_s_api_Frac_ix (And.intro @ty_s_api_Frac_iv (And.intro @ty_s_api_Frac_ln @ty_s_api_Frac_un)))))))))))

theorem ty_api_Language_sz:sizeT Tryz.prog 34 = some 8:=by kernel_rfl
theorem ty_api_Language_pa (c:List AV) (o:Nat):partA Tryz.prog 34 c o = (getR c o 8).map .agg:=partA_ag (by kernel_rfl) (by kernel_rfl) c o
theorem ty_api_Language_zr:zeroT Tryz.prog 34 = some (.agg [.i .i64 0,.i .i64 0,.snil,.i .i64 0,.b false,.snil,.snil,.snil]):=by kernel_rfl
theorem ty_api_Language_st (s:St) (v:AV) (o f:Nat):storeA Tryz.prog s 34 v (.ptr o f) = stoK s 8 v o f (s.h.get o):=storeA_eq (by kernel_rfl) s v o f
theorem ty_api_Language_fp0 (o f:Nat):fadA Tryz.prog 34 0 (.ptr o f) = some (.ptr o (f + 0)):=by kernel_rfl
theorem ty_api_Language_fv0 (c:List AV) (f:Nat):fadA Tryz.prog 34 0 (.vp c f) = some (.vp c (f + 0)):=by kernel_rfl
theorem ty_api_Language_fl0 (l:List AV):fldA Tryz.prog 34 0 (.agg l) = (getR l 0 3).map .agg:=by kernel_rfl
theorem ty_api_Language_fp1 (o f:Nat):fadA Tryz.prog 34 1 (.ptr o f) = some (.ptr o (f + 3)):=by kernel_rfl
theorem ty_api_Language_fv1 (c:List AV) (f:Nat):fadA Tryz.prog 34 1 (.vp c f) = some (.vp c (f + 3)):=by kernel_rfl
theorem ty_api_Language_fl1 (l:List AV):fldA Tryz.prog 34 1 (.agg l) = l[3]?:=by kernel_rfl
theorem ty_api_Language_fp2 (o f:Nat):fadA Tryz.prog 34 2 (.ptr o f) = some (.ptr o (f + 4)):=by kernel_rfl
theorem ty_api_Language_fv2 (c:List AV) (f:Nat):fadA Tryz.prog 34 2 (.vp c f) = some (.vp c (f + 4)):=by kernel_rfl
theorem ty_api_Language_fl2 (l:List AV):fldA Tryz.prog 34 2 (.agg l) = (getR l 4 3).map .agg:=by kernel_rfl
theorem ty_api_Language_fp3 (o f:Nat):fadA Tryz.prog 34 3 (.ptr o f) = some (.ptr o (f + 7)):=by kernel_rfl
theorem ty_api_Language_fv3 (c:List AV) (f:Nat):fadA Tryz.prog 34 3 (.vp c f) = some (.vp c (f + 7)):=by kernel_rfl
theorem ty_api_Language_fl3 (l:List AV):fldA Tryz.prog 34 3 (.agg l) = l[7]?:=by kernel_rfl
theorem ty_api_Language_bl {X:Env} {E:Ev} {ρ:Operand->Option AV} {s:St} {K:AV->St->Prop} (ps:Array (Nat × Operand)):opK Tryz.prog X E ρ s (.build 34 ps) K = bindK (fillL ρ [(0,3),(3,1),(4,3),(7,1)] [.i .i64 0,.i .i64 0,.snil,.i .i64 0,.b false,.snil,.snil,.snil] ps.toList) fun c=>K (.agg c) s:=O_bl ty_api_Language_zr Tryz.underlying34 (by kernel_rfl) ps
theorem ty_api_Language:type_of% (And.intro @ty_api_Language_sz (And.intro @ty_api_Language_pa (And.intro @ty_api_Language_zr (And.intro @ty_api_Language_st (And.intro @ty_api_Language_fp0 (And.intro @ty_api_Language_fv0 (And.intro @ty_api_Language_fl0 (And.intro @ty_api_Language_fp1 (And.intro @ty_api_Language_fv1 (And.intro @ty_api_Language_fl1 (And.intro @ty_api_Language_fp2 (And.intro @ty_api_Language_fv2 (And.intro @ty_api_Language_fl2 (And.intro @ty_api_Language_fp3 (And.intro @ty_api_Language_fv3 (And.intro @ty_api_Language_fl3 @ty_api_Language_bl)))))))))))))))):=(And.intro @ty_api_Language_sz (And.intro @ty_api_Language_pa (And.intro @ty_api_Language_zr (And.intro @ty_api_Language_st (And.intro @ty_api_Language_fp0 (And.intro @ty_api_Language_fv0 (And.intro @ty_api_Language_fl0 (And.intro @ty_api_Language_fp1 (And.intro @ty_api_Language_fv1 (And.intro @ty_api_Language_fl1 (And.intro @ty_api_Language_fp2 (And.intro @ty_api_Language_fv2 (And.intro @ty_api_Language_fl2 (And.intro @ty_api_Language_fp3 (And.intro @ty_api_Language_fv3 (And.intro @ty_api_Language_fl3 @ty_api_Language_bl))))))))))))))))

theorem ty_s_api_Arc_sz:sizeT Tryz.prog 22 = some 1:=by kernel_rfl
theorem ty_s_api_Arc_pa (c:List AV) (o:Nat):partA Tryz.prog 22 c o = c[o]?:=partA_sc (by kernel_rfl) c o
theorem ty_s_api_Arc_zr:zeroT Tryz.prog 22 = some (.snil):=by kernel_rfl
theorem ty_s_api_Arc_st (s:St) (v:AV) (o f:Nat):storeA Tryz.prog s 22 v (.ptr o f) = stoK s 1 v o f (s.h.get o):=storeA_eq (by kernel_rfl) s v o f
theorem ty_s_api_Arc_mk {X:Env} {E:Ev} {ρ:Operand->Option AV} {s:St} {K:AV->St->Prop} (l c:Operand):opK Tryz.prog X E ρ s (.makeSlice 22 l c) K = bindK (ρ l) fun a=>bindK (ρ c) fun b=>bindK (bnd a) fun l=>bindK (bnd b) fun c=>bindK (lenOk l c) fun _=>K (.sl s.nx 0 l c) (s.new (.cells (reps [.i .i64 0,.i .i64 0,.i .i64 0,.i .i64 0,.b false,.snil,.snil] c) 45 false)):=O_mk Tryz.underlying22 ty_api_Arc_zr (nz:=7) (by kernel_rfl) l c
theorem ty_s_api_Arc_bs {X:Env} {E:Ev} {ρ:Operand->Option AV} {s:St} {K:AV->St->Prop} (x:Operand):opK Tryz.prog X E ρ s (.buildSlice 22 1 #[(0,x)]) K = bindK (ρ x) fun v=>bindK (cond (Nat.beq v.cells.length 7 && v.cells.all flat) (some ()) none) fun _=>K (.sl s.nx 0 1 1) (s.new (.cells v.cells 45 false)):=O_bs Tryz.underlying22 ty_api_Arc_zr ty_api_Arc_sz (by kernel_rfl) x
theorem ty_s_api_Arc_an (o:Nat) (s:St):appV Tryz.prog 22 22 .snil (.sl o 0 1 1) s = (apR 7 (s.h.get o)).map fun new=>(.sl s.nx 0 1 (big + 7),s.new (.cells new 45 true)):=appV_nil Tryz.underlying22 Tryz.underlying22 ty_api_Arc_zr (by kernel_rfl) o s
theorem ty_s_api_Arc_as (o o2 n:Nat) (s:St):appV Tryz.prog 22 22 (.sl o 0 n (big + 7)) (.sl o2 0 1 1) s = ap2 Tryz.prog 22 22 45 7 o n (big + 7) o2 s (s.h.get o) (s.h.get o2):=appV_2 Tryz.underlying22 Tryz.underlying22 ty_api_Arc_zr (by kernel_rfl) o o2 n s
theorem ty_s_api_Arc_ix {z:Int} {n:Nat} (h:0 <= z)(h1:z.toNat < n) (o f c:Nat):idxA Tryz.prog 22 (.sl o f n c) (.i .i64 z) = some (.ptr o (f + z.toNat * 7)):=idxA_sl Tryz.underlying22 (by kernel_rfl) h h1 o f c
theorem ty_s_api_Arc_iv {z:Int} {n:Nat} (h:0 <= z)(h1:z.toNat < n) (c:List AV):idxA Tryz.prog 22 (.vw c n) (.i .i64 z) = some (.vp c (z.toNat * 7)):=idxA_vw Tryz.underlying22 (by kernel_rfl) h h1 c
theorem ty_s_api_Arc_ln {X:Env} {E:Ev} {ρ:Operand->Option AV} {s:St} {K:AV->St->Prop} (x:Operand):opK Tryz.prog X E ρ s (.call ⟨.builtin .len,#[x],#[22]⟩) K = bindK (ρ x) fun a=>bindK (lenS a) fun v=>K v s:=O_lenS Tryz.underlying22 x
theorem ty_s_api_Arc_un:Tryz.prog.underlying 22 = some (.slice 45):=Tryz.underlying22
theorem ty_s_api_Arc:type_of% (And.intro @ty_s_api_Arc_sz (And.intro @ty_s_api_Arc_pa (And.intro @ty_s_api_Arc_zr (And.intro @ty_s_api_Arc_st (And.intro @ty_s_api_Arc_mk (And.intro @ty_s_api_Arc_bs (And.intro @ty_s_api_Arc_an (And.intro @ty_s_api_Arc_as (And.intro @ty_s_api_Arc_ix (And.intro @ty_s_api_Arc_iv (And.intro @ty_s_api_Arc_ln @ty_s_api_Arc_un))))))))))):=(And.intro @ty_s_api_Arc_sz (And.intro @ty_s_api_Arc_pa (And.intro @ty_s_api_Arc_zr (And.intro @ty_s_api_Arc_st (And.intro @ty_s_api_Arc_mk (And.intro @ty_s_api_Arc_bs (And.intro @ty_s_api_Arc_an (And.intro @ty_s_api_Arc_as (And.intro @ty_s_api_Arc_ix (And.intro @ty_s_api_Arc_iv (And.intro @ty_s_api_Arc_ln @ty_s_api_Arc_un)))))))))))

theorem ty_api_Lattice_sz:sizeT Tryz.prog 24 = some 2:=by kernel_rfl
theorem ty_api_Lattice_pa (c:List AV) (o:Nat):partA Tryz.prog 24 c o = (getR c o 2).map .agg:=partA_ag (by kernel_rfl) (by kernel_rfl) c o
theorem ty_api_Lattice_zr:zeroT Tryz.prog 24 = some (.agg [.i .i64 0,.snil]):=by kernel_rfl
theorem ty_api_Lattice_st (s:St) (v:AV) (o f:Nat):storeA Tryz.prog s 24 v (.ptr o f) = stoK s 2 v o f (s.h.get o):=storeA_eq (by kernel_rfl) s v o f
theorem ty_api_Lattice_fp0 (o f:Nat):fadA Tryz.prog 24 0 (.ptr o f) = some (.ptr o (f + 0)):=by kernel_rfl
theorem ty_api_Lattice_fv0 (c:List AV) (f:Nat):fadA Tryz.prog 24 0 (.vp c f) = some (.vp c (f + 0)):=by kernel_rfl
theorem ty_api_Lattice_fl0 (l:List AV):fldA Tryz.prog 24 0 (.agg l) = l[0]?:=by kernel_rfl
theorem ty_api_Lattice_fp1 (o f:Nat):fadA Tryz.prog 24 1 (.ptr o f) = some (.ptr o (f + 1)):=by kernel_rfl
theorem ty_api_Lattice_fv1 (c:List AV) (f:Nat):fadA Tryz.prog 24 1 (.vp c f) = some (.vp c (f + 1)):=by kernel_rfl
theorem ty_api_Lattice_fl1 (l:List AV):fldA Tryz.prog 24 1 (.agg l) = l[1]?:=by kernel_rfl
theorem ty_api_Lattice_bl {X:Env} {E:Ev} {ρ:Operand->Option AV} {s:St} {K:AV->St->Prop} (ps:Array (Nat × Operand)):opK Tryz.prog X E ρ s (.build 24 ps) K = bindK (fillL ρ [(0,1),(1,1)] [.i .i64 0,.snil] ps.toList) fun c=>K (.agg c) s:=O_bl ty_api_Lattice_zr Tryz.underlying24 (by kernel_rfl) ps
theorem ty_api_Lattice:type_of% (And.intro @ty_api_Lattice_sz (And.intro @ty_api_Lattice_pa (And.intro @ty_api_Lattice_zr (And.intro @ty_api_Lattice_st (And.intro @ty_api_Lattice_fp0 (And.intro @ty_api_Lattice_fv0 (And.intro @ty_api_Lattice_fl0 (And.intro @ty_api_Lattice_fp1 (And.intro @ty_api_Lattice_fv1 (And.intro @ty_api_Lattice_fl1 @ty_api_Lattice_bl)))))))))):=(And.intro @ty_api_Lattice_sz (And.intro @ty_api_Lattice_pa (And.intro @ty_api_Lattice_zr (And.intro @ty_api_Lattice_st (And.intro @ty_api_Lattice_fp0 (And.intro @ty_api_Lattice_fv0 (And.intro @ty_api_Lattice_fl0 (And.intro @ty_api_Lattice_fp1 (And.intro @ty_api_Lattice_fv1 (And.intro @ty_api_Lattice_fl1 @ty_api_Lattice_bl))))))))))

theorem ty_s_bool_sz:sizeT Tryz.prog 152 = some 1:=by kernel_rfl
theorem ty_s_bool_pa (c:List AV) (o:Nat):partA Tryz.prog 152 c o = c[o]?:=partA_sc (by kernel_rfl) c o
theorem ty_s_bool_zr:zeroT Tryz.prog 152 = some (.snil):=by kernel_rfl
theorem ty_s_bool_st (s:St) (v:AV) (o f:Nat):storeA Tryz.prog s 152 v (.ptr o f) = stoK s 1 v o f (s.h.get o):=storeA_eq (by kernel_rfl) s v o f
theorem ty_s_bool_mk {X:Env} {E:Ev} {ρ:Operand->Option AV} {s:St} {K:AV->St->Prop} (l c:Operand):opK Tryz.prog X E ρ s (.makeSlice 152 l c) K = bindK (ρ l) fun a=>bindK (ρ c) fun b=>bindK (bnd a) fun l=>bindK (bnd b) fun c=>bindK (lenOk l c) fun _=>K (.sl s.nx 0 l c) (s.new (.cells (reps [.b false] c) 4 false)):=O_mk Tryz.underlying152 ty_bool_zr (nz:=1) (by kernel_rfl) l c
theorem ty_s_bool_bs {X:Env} {E:Ev} {ρ:Operand->Option AV} {s:St} {K:AV->St->Prop} (x:Operand):opK Tryz.prog X E ρ s (.buildSlice 152 1 #[(0,x)]) K = bindK (ρ x) fun v=>bindK (cond (Nat.beq v.cells.length 1 && v.cells.all flat) (some ()) none) fun _=>K (.sl s.nx 0 1 1) (s.new (.cells v.cells 4 false)):=O_bs Tryz.underlying152 ty_bool_zr ty_bool_sz (by kernel_rfl) x
theorem ty_s_bool_an (o:Nat) (s:St):appV Tryz.prog 152 152 .snil (.sl o 0 1 1) s = (apR 1 (s.h.get o)).map fun new=>(.sl s.nx 0 1 (big + 1),s.new (.cells new 4 true)):=appV_nil Tryz.underlying152 Tryz.underlying152 ty_bool_zr (by kernel_rfl) o s
theorem ty_s_bool_as (o o2 n:Nat) (s:St):appV Tryz.prog 152 152 (.sl o 0 n (big + 1)) (.sl o2 0 1 1) s = ap2 Tryz.prog 152 152 4 1 o n (big + 1) o2 s (s.h.get o) (s.h.get o2):=appV_2 Tryz.underlying152 Tryz.underlying152 ty_bool_zr (by kernel_rfl) o o2 n s
theorem ty_s_bool_ix {z:Int} {n:Nat} (h:0 <= z)(h1:z.toNat < n) (o f c:Nat):idxA Tryz.prog 152 (.sl o f n c) (.i .i64 z) = some (.ptr o (f + z.toNat * 1)):=idxA_sl Tryz.underlying152 (by kernel_rfl) h h1 o f c
theorem ty_s_bool_iv {z:Int} {n:Nat} (h:0 <= z)(h1:z.toNat < n) (c:List AV):idxA Tryz.prog 152 (.vw c n) (.i .i64 z) = some (.vp c (z.toNat * 1)):=idxA_vw Tryz.underlying152 (by kernel_rfl) h h1 c
theorem ty_s_bool_ln {X:Env} {E:Ev} {ρ:Operand->Option AV} {s:St} {K:AV->St->Prop} (x:Operand):opK Tryz.prog X E ρ s (.call ⟨.builtin .len,#[x],#[152]⟩) K = bindK (ρ x) fun a=>bindK (lenS a) fun v=>K v s:=O_lenS Tryz.underlying152 x
theorem ty_s_bool_un:Tryz.prog.underlying 152 = some (.slice 4):=Tryz.underlying152
theorem ty_s_bool:type_of% (And.intro @ty_s_bool_sz (And.intro @ty_s_bool_pa (And.intro @ty_s_bool_zr (And.intro @ty_s_bool_st (And.intro @ty_s_bool_mk (And.intro @ty_s_bool_bs (And.intro @ty_s_bool_an (And.intro @ty_s_bool_as (And.intro @ty_s_bool_ix (And.intro @ty_s_bool_iv (And.intro @ty_s_bool_ln @ty_s_bool_un))))))))))):=(And.intro @ty_s_bool_sz (And.intro @ty_s_bool_pa (And.intro @ty_s_bool_zr (And.intro @ty_s_bool_st (And.intro @ty_s_bool_mk (And.intro @ty_s_bool_bs (And.intro @ty_s_bool_an (And.intro @ty_s_bool_as (And.intro @ty_s_bool_ix (And.intro @ty_s_bool_iv (And.intro @ty_s_bool_ln @ty_s_bool_un)))))))))))

theorem tys:type_of% (And.intro @ty_bool (And.intro @ty_int (And.intro @ty_uint32 (And.intro @ty_api_Errno (And.intro @ty_api_Smoothing (And.intro @ty_api_Frac (And.intro @ty_api_Arc (And.intro @ty_api_Gram (And.intro @ty_s_uint32 (And.intro @ty_s_int (And.intro @ty_s_api_Gram (And.intro @ty_api_Table (And.intro @ty_s_api_Frac (And.intro @ty_api_Language (And.intro @ty_s_api_Arc (And.intro @ty_api_Lattice @ty_s_bool)))))))))))))))):=(And.intro @ty_bool (And.intro @ty_int (And.intro @ty_uint32 (And.intro @ty_api_Errno (And.intro @ty_api_Smoothing (And.intro @ty_api_Frac (And.intro @ty_api_Arc (And.intro @ty_api_Gram (And.intro @ty_s_uint32 (And.intro @ty_s_int (And.intro @ty_s_api_Gram (And.intro @ty_api_Table (And.intro @ty_s_api_Frac (And.intro @ty_api_Language (And.intro @ty_s_api_Arc (And.intro @ty_api_Lattice @ty_s_bool))))))))))))))))
end Go.Proofs.YtdehimgccmbfkaaGreat
