/- Written by sh.py: what functions do, out of the deep reading; each is joined to the program by the kernel. -/
import Derived.Test.YtlmpjhbfgakgdaaDoorShNames
namespace Go.Proofs.YtlmpjhbfgakgdaaDoor
open Go.Ab
set_option linter.unusedVariables false
set_option linter.unusedSimpArgs false
set_option maxRecDepth 100000

/-- bytes.Repeat -/
def S_bytes_Repeat (x0 : Value) (x1 : Value) (H : Heap) (Q : Value → Heap → Prop) : Prop :=
  binV (.int .i64) .eql x1 (.int .i64 0) fun t13 =>
  asB t13 fun b13 =>
  ifB b13 (
  bldS 5 1 false (zeroL Tryd.prog 5) 0 [] H fun t14 H =>
  Q t14 H) (
  binV (.int .i64) .lss x1 (.int .i64 0) fun t16 =>
  asB t16 fun b16 =>
  JoinPT (fun K15 =>
  ifB b16 (
  False) (
  K15 [] H)) fun s15 H =>
  lenSl x0 H fun t20 =>
  cvI .u64 t20 fun t21 =>
  cvI .u64 x1 fun t23 =>
  callV Tryd.prog (fnV fn_math_bits_Mul) [t21, t23] H fun t24 H =>
  extractV 0 t24 fun t25 =>
  extractV 1 t24 fun t26 =>
  JoinPT (fun K23 =>
  binV (.int .u64) .gtr t25 (.int .u64 0) fun t28 =>
  asB t28 fun b29 =>
  ifB b29 (
  K23 [[(.bool true)]] H) (
  binV (.int .u64) .gtr t26 (.int .u64 9223372036854775807) fun t31 =>
  K23 [[t31]] H)) fun s23 H =>
  asB (sv s23 0) fun b32 =>
  JoinPT (fun K24 =>
  ifB b32 (
  False) (
  K24 [] H)) fun s24 H =>
  cvI .i64 t26 fun t35 =>
  lenSl x0 H fun t37 =>
  binV (.int .i64) .eql t37 (.int .i64 0) fun t38 =>
  asB t38 fun b38 =>
  ifB b38 (
  bldS 5 1 false (zeroL Tryd.prog 5) 0 [] H fun t39 H =>
  Q t39 H) (
  binV (.int .i64) .gtr t35 (.int .i64 8192) fun t42 =>
  asB t42 fun b42 =>
  JoinPT (fun K42 =>
  ifB b42 (
  lenSl x0 H fun t44 =>
  binV (.int .i64) .quo (.int .i64 8192) t44 fun t45 =>
  lenSl x0 H fun t47 =>
  binV (.int .i64) .mul t45 t47 fun t48 =>
  binV (.int .i64) .eql t48 (.int .i64 0) fun t50 =>
  asB t50 fun b50 =>
  JoinPT (fun K48 =>
  ifB b50 (
  lenSl x0 H fun t52 =>
  K48 [[t52]] H) (
  K48 [[t48]] H)) fun s48 H =>
  K42 [[(sv s48 0)]] H) (
  K42 [[t35]] H)) fun s42 H =>
  xcV Tryd.prog fn_internal_bytealg_MakeNoZero [t35] H fun t54 H =>
  slS 1 t54 none (some t35) (some t35) fun t57 =>
  cpS 1 t57 x0 H fun t60 H =>
  LoopPT (fun s57 H K57 =>
  binV (.int .i64) .lss (sv s57 0) t35 fun t63 =>
  asB t63 fun b63 =>
  ifB b63 (
  minV (sv s57 0) (sv s42 0) fun t66 =>
  slS 1 t57 (some (sv s57 0)) none none fun t70 =>
  slS 1 t57 none (some t66) none fun t73 =>
  cpS 1 t70 t73 H fun t74 H =>
  binV (.int .i64) .add (sv s57 0) t74 fun t75 =>
  K57 [[t75]] H) (
  Q t57 H)) [[t60]] H))
theorem S_bytes_Repeat_of {x0 : Value} {x1 : Value} {H : Heap} {Q : Value → Heap → Prop} (h : S_bytes_Repeat x0 x1 H Q) : callV Tryd.prog (fnV fn_bytes_Repeat) [x0, x1] H Q :=
  callV_fn (hcalls_of (pv := []) (ann := [(15, []), (23, [64]), (24, []), (42, [16]), (48, [16]), (57, [20])]) Tryd.func22 (by kernel_rfl) (Eq.mpr (by kernel_rfl) h))

/-- thimblerig/sha.Of -/
def S_sha_Of (x0 : Value) (H : Heap) (Q : Value → Heap → Prop) : Prop :=
  newT H fun H =>
  callV Tryd.prog (fnV fn_sha_Begin) [] H fun t8 H =>
  newT H fun H =>
  cellsV true 10 t8 fun c1 =>
  lenSl x0 H fun t10 =>
  LoopPT (fun s12 H K12 =>
  binV (.int .i64) .lss (sv s12 1) t10 fun t12 =>
  asB t12 fun b12 =>
  ifB b12 (
  idxS 1 x0 (sv s12 1) fun t13 =>
  loadP false 1 t13 H fun t14 =>
  ifB (decide (0 + 10 ≤ ((sc s12 0)).length)) (
  callV Tryd.prog (fnV fn_sha_come) [(.agg (seg (sc s12 0) 0 10).toArray), t14] H fun t17 H =>
  cellsV true 10 t17 fun c2 =>
  ifB (decide (0 + 10 ≤ ((sc s12 0)).length)) (
  binV (.int .i64) .add (sv s12 1) (.int .i64 1) fun t18 =>
  K12 [(setSeg (sc s12 0) 0 c2), [t18]] H) False) False) (
  ifB (decide (0 + 10 ≤ ((sc s12 0)).length)) (
  callV Tryd.prog (fnV fn_sha_End) [(.agg (seg (sc s12 0) 0 10).toArray)] H fun t21 H =>
  extractV 0 t21 fun t22 =>
  extractV 1 t21 fun t23 =>
  newT H fun H =>
  cellsV true 32 t22 fun c3 =>
  ifB (decide (0 + 32 ≤ ((zeroL Tryd.prog 49)).length)) (
  ifB (decide (0 + 32 ≤ ((setSeg (zeroL Tryd.prog 49) 0 c3)).length)) (
  cellsV true 32 (.agg (seg (setSeg (zeroL Tryd.prog 49) 0 c3) 0 32).toArray) fun c4 =>
  ifB (decide (0 + 32 ≤ ((zeroL Tryd.prog 49)).length)) (
  ifB (decide (0 + 32 ≤ ((setSeg (zeroL Tryd.prog 49) 0 c4)).length)) (
  Q (.agg (seg (setSeg (zeroL Tryd.prog 49) 0 c4) 0 32).toArray) H) False) False) False) False) False)) [(setSeg [(.int .u32 0), (.int .u32 0), (.int .u32 0), (.int .u32 0), (.int .u32 0), (.int .u32 0), (.int .u32 0), (.int .u32 0), (.slice none 0 0), (.int .u64 0)] 0 c1), [(.int .i64 0)]] H
theorem S_sha_Of_of {x0 : Value} {H : Heap} {Q : Value → Heap → Prop} (h : S_sha_Of x0 H Q) : callV Tryd.prog (fnV fn_sha_Of) [x0] H Q :=
  callV_fn (hcalls_of (pv := [2, 3, 6]) (ann := [(12, [7, 22])]) Tryd.func24 (by kernel_rfl) (Eq.mpr (by kernel_rfl) h))

/-- math/bits.Mul -/
def S_math_bits_Mul (x0 : Value) (x1 : Value) (H : Heap) (Q : Value → Heap → Prop) : Prop :=
  callV Tryd.prog (fnV fn_math_bits_Mul64) [x0, x1] H fun t25 H =>
  extractV 0 t25 fun t26 =>
  extractV 1 t25 fun t27 =>
  Q (.tuple #[t26, t27]) H
theorem S_math_bits_Mul_of {x0 : Value} {x1 : Value} {H : Heap} {Q : Value → Heap → Prop} (h : S_math_bits_Mul x0 x1 H Q) : callV Tryd.prog (fnV fn_math_bits_Mul) [x0, x1] H Q :=
  callV_fn (hcalls_of (pv := []) (ann := []) Tryd.func42 (by kernel_rfl) (Eq.mpr (by kernel_rfl) h))

/-- thimblerig/sha.Begin -/
def S_sha_Begin  (H : Heap) (Q : Value → Heap → Prop) : Prop :=
  newT H fun H =>
  Q (.agg #[(.int .u32 1779033703), (.int .u32 3144134277), (.int .u32 1013904242), (.int .u32 2773480762), (.int .u32 1359893119), (.int .u32 2600822924), (.int .u32 528734635), (.int .u32 1541459225), (.slice none 0 0), (.int .u64 0)]) H
theorem S_sha_Begin_of  {H : Heap} {Q : Value → Heap → Prop} (h : S_sha_Begin H Q) : callV Tryd.prog (fnV fn_sha_Begin) [] H Q :=
  callV_fn (hcalls_of (pv := [0]) (ann := []) Tryd.func44 (by kernel_rfl) (Eq.mpr (by kernel_rfl) h))

/-- thimblerig/sha.come -/
def S_sha_come (x0_0 : Value) (x0_1 : Value) (x0_2 : Value) (x0_3 : Value) (x0_4 : Value) (x0_5 : Value) (x0_6 : Value) (x0_7 : Value) (x0_8 : Value) (x0_9 : Value) (x1 : Value) (H : Heap) (Q : Value → Heap → Prop) : Prop :=
  newC 99 [x0_0, x0_1, x0_2, x0_3, x0_4, x0_5, x0_6, x0_7, x0_8, x0_9] H fun a2 H =>
  newC 99 [(.int .u32 0), (.int .u32 0), (.int .u32 0), (.int .u32 0), (.int .u32 0), (.int .u32 0), (.int .u32 0), (.int .u32 0), (.slice none 0 0), (.int .u64 0)] H fun a4 H =>
  ScopePT (fun K =>
  fldP 9 (.pointer (some ⟨a2, 0, none⟩)) fun t5 =>
  loadP false 1 t5 H fun t6 =>
  lenSl x1 H fun t8 =>
  cvI .u64 t8 fun t9 =>
  binV (.int .u64) .add t6 t9 fun t10 =>
  fldP 9 (.pointer (some ⟨a2, 0, none⟩)) fun t11 =>
  storeP false 1 t11 t10 H fun H =>
  fldP 8 (.pointer (some ⟨a2, 0, none⟩)) fun t12 =>
  loadP false 1 t12 H fun t13 =>
  bldS 41 1 false (zeroL Tryd.prog 41) 2 [(0, t13), (1, x1)] H fun t15 H =>
  callV Tryd.prog (fnV fn_slices_Concat_byte_byte) [t15] H fun t16 H =>
  fldP 8 (.pointer (some ⟨a2, 0, none⟩)) fun t17 =>
  storeP false 1 t17 t16 H fun H =>
  fldP 8 (.pointer (some ⟨a2, 0, none⟩)) fun t18 =>
  loadP false 1 t18 H fun t19 =>
  lenSl t19 H fun t20 =>
  binV (.int .i64) .lss t20 (.int .i64 64) fun t21 =>
  asB t21 fun b21 =>
  ifB b21 (
  K 0 [] H) (
  fldP 0 (.pointer (some ⟨a2, 0, none⟩)) fun t22 =>
  fldP 8 (.pointer (some ⟨a2, 0, none⟩)) fun t23 =>
  loadP false 1 t23 H fun t24 =>
  slS 1 t24 none (some (.int .i64 64)) none fun t25 =>
  callV Tryd.prog (fnV fn_sha_turn) [t22, t25] H fun t26 H =>
  fldP 8 (.pointer (some ⟨a2, 0, none⟩)) fun t27 =>
  loadP false 1 t27 H fun t28 =>
  slS 1 t28 (some (.int .i64 64)) none none fun t29 =>
  fldP 8 (.pointer (some ⟨a2, 0, none⟩)) fun t30 =>
  storeP false 1 t30 t29 H fun H =>
  K 1 [] H)) fun I =>
  (∀ n s1000001 H, I n 1 s1000001 H →
  fldP 8 (.pointer (some ⟨a2, 0, none⟩)) fun t18 =>
  loadP false 1 t18 H fun t19 =>
  lenSl t19 H fun t20 =>
  binV (.int .i64) .lss t20 (.int .i64 64) fun t21 =>
  asB t21 fun b21 =>
  ifB b21 (
  ∃ m, m < n ∧ I m 0 [] H) (
  fldP 0 (.pointer (some ⟨a2, 0, none⟩)) fun t22 =>
  fldP 8 (.pointer (some ⟨a2, 0, none⟩)) fun t23 =>
  loadP false 1 t23 H fun t24 =>
  slS 1 t24 none (some (.int .i64 64)) none fun t25 =>
  callV Tryd.prog (fnV fn_sha_turn) [t22, t25] H fun t26 H =>
  fldP 8 (.pointer (some ⟨a2, 0, none⟩)) fun t27 =>
  loadP false 1 t27 H fun t28 =>
  slS 1 t28 (some (.int .i64 64)) none none fun t29 =>
  fldP 8 (.pointer (some ⟨a2, 0, none⟩)) fun t30 =>
  storeP false 1 t30 t29 H fun H =>
  ∃ m, m < n ∧ I m 1 [] H)) ∧
  (∀ n s1000000 H, I n 0 s1000000 H →
  fldP 8 (.pointer (some ⟨a2, 0, none⟩)) fun t31 =>
  loadP false 1 t31 H fun t32 =>
  callV Tryd.prog (fnV fn_slices_Clone_byte_byte) [t32] H fun t33 H =>
  fldP 8 (.pointer (some ⟨a2, 0, none⟩)) fun t34 =>
  storeP false 1 t34 t33 H fun H =>
  loadP true 10 (.pointer (some ⟨a2, 0, none⟩)) H fun t35 =>
  storeP true 10 (.pointer (some ⟨a4, 0, none⟩)) t35 H fun H =>
  loadP true 10 (.pointer (some ⟨a4, 0, none⟩)) H fun r4 =>
  Q r4 H) ∧ True
theorem S_sha_come_of {x0_0 : Value} {x0_1 : Value} {x0_2 : Value} {x0_3 : Value} {x0_4 : Value} {x0_5 : Value} {x0_6 : Value} {x0_7 : Value} {x0_8 : Value} {x0_9 : Value} {x1 : Value} {H : Heap} {Q : Value → Heap → Prop} (h : S_sha_come x0_0 x0_1 x0_2 x0_3 x0_4 x0_5 x0_6 x0_7 x0_8 x0_9 x1 H Q) : callV Tryd.prog (fnV fn_sha_come) [(.agg #[x0_0, x0_1, x0_2, x0_3, x0_4, x0_5, x0_6, x0_7, x0_8, x0_9]), x1] H Q :=
  callV_fn (hcallsQ_of (pv := []) (ann := [(1000000, []), (1000001, [])]) Tryd.func45 (by kernel_rfl) (Eq.mpr (by kernel_rfl) h))

/-- thimblerig/sha.End -/
def S_sha_End (x0_0 : Value) (x0_1 : Value) (x0_2 : Value) (x0_3 : Value) (x0_4 : Value) (x0_5 : Value) (x0_6 : Value) (x0_7 : Value) (x0_8 : Value) (x0_9 : Value) (H : Heap) (Q : Value → Heap → Prop) : Prop :=
  newT H fun H =>
  newT H fun H =>
  callV Tryd.prog (fnV fn_sha_Check) [(.agg #[x0_0, x0_1, x0_2, x0_3, x0_4, x0_5, x0_6, x0_7, x0_8, x0_9])] H fun t9 H =>
  binV (.int .i64) .neq t9 (.int .i64 0) fun t11 =>
  asB t11 fun b11 =>
  ifB b11 (
  ifB (decide (0 + 32 ≤ ((zeroL Tryd.prog 49)).length)) (
  cellsV true 32 (.agg (seg (zeroL Tryd.prog 49) 0 32).toArray) fun c1 =>
  ifB (decide (0 + 32 ≤ ((zeroL Tryd.prog 49)).length)) (
  ifB (decide (0 + 32 ≤ ((setSeg (zeroL Tryd.prog 49) 0 c1)).length)) (
  Q (.tuple #[(.agg (seg (setSeg (zeroL Tryd.prog 49) 0 c1) 0 32).toArray), t9]) H) False) False) False) (
  bldS 5 1 false (zeroL Tryd.prog 5) 1 [(0, (.int .u8 128))] H fun t14 H =>
  LoopPT (fun s18 H K18 =>
  lenSl x0_8 H fun t17 =>
  lenSl (sv s18 0) H fun t19 =>
  binV (.int .i64) .add t17 t19 fun t20 =>
  binV (.int .i64) .rem t20 (.int .i64 64) fun t21 =>
  binV (.int .i64) .neq t21 (.int .i64 56) fun t22 =>
  asB t22 fun b22 =>
  ifB b22 (
  bldS 5 1 false (zeroL Tryd.prog 5) 1 [(0, (.int .u8 0))] H fun t24 H =>
  appS 5 1 1 (zeroL Tryd.prog 5) (sv s18 0) t24 H fun t25 H =>
  K18 [[t25]] H) (
  LoopPT (fun s27 H K27 =>
  binV (.int .i64) .lss (sv s27 1) (.int .i64 8) fun t27 =>
  asB t27 fun b27 =>
  ifB b27 (
  binV (.int .u64) .shl x0_9 (.int .u64 3) fun t32 =>
  binV (.int .i64) .mul (.int .i64 8) (sv s27 1) fun t34 =>
  binV (.int .i64) .sub (.int .i64 56) t34 fun t35 =>
  binV (.int .u64) .shr t32 t35 fun t36 =>
  cvI .u8 t36 fun t37 =>
  bldS 5 1 false (zeroL Tryd.prog 5) 1 [(0, t37)] H fun t38 H =>
  appS 5 1 1 (zeroL Tryd.prog 5) (sv s27 0) t38 H fun t39 H =>
  binV (.int .i64) .add (sv s27 1) (.int .i64 1) fun t40 =>
  K27 [[t39], [t40]] H) (
  callV Tryd.prog (fnV fn_sha_come) [(.agg #[x0_0, x0_1, x0_2, x0_3, x0_4, x0_5, x0_6, x0_7, x0_8, x0_9]), (sv s27 0)] H fun t43 H =>
  cellsV true 10 t43 fun c2 =>
  LoopPT (fun s45 H K45 =>
  binV (.int .i64) .lss (sv s45 1) (.int .i64 32) fun t45 =>
  asB t45 fun b45 =>
  ifB b45 (
  binV (.int .i64) .quo (sv s45 1) (.int .i64 4) fun t49 =>
  idxR 8 t49 fun j51 =>
  ifB (decide ((0 + j51 * 1) + 1 ≤ ((setSeg [x0_0, x0_1, x0_2, x0_3, x0_4, x0_5, x0_6, x0_7, x0_8, x0_9] 0 c2)).length)) (
  binV (.int .i64) .rem (sv s45 1) (.int .i64 4) fun t54 =>
  binV (.int .i64) .mul t54 (.int .i64 8) fun t55 =>
  binV (.int .i64) .sub (.int .i64 24) t55 fun t56 =>
  binV (.int .u32) .shr (mkV false (seg (setSeg [x0_0, x0_1, x0_2, x0_3, x0_4, x0_5, x0_6, x0_7, x0_8, x0_9] 0 c2) (0 + j51 * 1) 1)) t56 fun t57 =>
  cvI .u8 t57 fun t58 =>
  idxR 32 (sv s45 1) fun j59 =>
  ifB (okc t58) (
  ifB (decide ((0 + j59 * 1) + 1 ≤ ((sc s45 0)).length)) (
  binV (.int .i64) .add (sv s45 1) (.int .i64 1) fun t60 =>
  K45 [(setSeg (sc s45 0) (0 + j59 * 1) [t58]), [t60]] H) False) False) False) (
  ifB (decide (0 + 32 ≤ ((sc s45 0)).length)) (
  cellsV true 32 (.agg (seg (sc s45 0) 0 32).toArray) fun c3 =>
  ifB (decide (0 + 32 ≤ ((sc s45 0)).length)) (
  ifB (decide (0 + 32 ≤ ((setSeg (sc s45 0) 0 c3)).length)) (
  Q (.tuple #[(.agg (seg (setSeg (sc s45 0) 0 c3) 0 32).toArray), (.int .i64 0)]) H) False) False) False)) [(zeroL Tryd.prog 49), [(.int .i64 0)]] H)) [[(sv s18 0)], [(.int .i64 0)]] H)) [[t14]] H)
theorem S_sha_End_of {x0_0 : Value} {x0_1 : Value} {x0_2 : Value} {x0_3 : Value} {x0_4 : Value} {x0_5 : Value} {x0_6 : Value} {x0_7 : Value} {x0_8 : Value} {x0_9 : Value} {H : Heap} {Q : Value → Heap → Prop} (h : S_sha_End x0_0 x0_1 x0_2 x0_3 x0_4 x0_5 x0_6 x0_7 x0_8 x0_9 H Q) : callV Tryd.prog (fnV fn_sha_End) [(.agg #[x0_0, x0_1, x0_2, x0_3, x0_4, x0_5, x0_6, x0_7, x0_8, x0_9])] H Q :=
  callV_fn (hcalls_of (pv := [1, 2]) (ann := [(18, [10]), (27, [10, 52]), (45, [5, 88])]) Tryd.func46 (by kernel_rfl) (Eq.mpr (by kernel_rfl) h))

/-- thimblerig/thimblerigref02.Of -/
def S_ref02_Of (x0 : Value) (H : Heap) (Q : Value → Heap → Prop) : Prop :=
  newT H fun H =>
  callV Tryd.prog (fnV fn_ref02_Begin) [] H fun t3 H =>
  callV Tryd.prog (fnV fn_ref02_Came) [t3, x0] H fun t5 H =>
  callV Tryd.prog (fnV fn_ref02_Ended) [t5] H fun t6 H =>
  cellsV true 32 t6 fun c1 =>
  ifB (decide (0 + 32 ≤ ((zeroL Tryd.prog 49)).length)) (
  ifB (decide (0 + 32 ≤ ((setSeg (zeroL Tryd.prog 49) 0 c1)).length)) (
  Q (.agg (seg (setSeg (zeroL Tryd.prog 49) 0 c1) 0 32).toArray) H) False) False
theorem S_ref02_Of_of {x0 : Value} {H : Heap} {Q : Value → Heap → Prop} (h : S_ref02_Of x0 H Q) : callV Tryd.prog (fnV fn_ref02_Of) [x0] H Q :=
  callV_fn (hcalls_of (pv := [2]) (ann := []) Tryd.func51 (by kernel_rfl) (Eq.mpr (by kernel_rfl) h))

/-- math/bits.Mul32 -/
def S_math_bits_Mul32 (x0 : Value) (x1 : Value) (H : Heap) (Q : Value → Heap → Prop) : Prop :=
  cvI .u64 x0 fun t8 =>
  cvI .u64 x1 fun t10 =>
  binV (.int .u64) .mul t8 t10 fun t11 =>
  binV (.int .u64) .shr t11 (.int .u64 32) fun t13 =>
  cvI .u32 t13 fun t14 =>
  cvI .u32 t11 fun t16 =>
  Q (.tuple #[t14, t16]) H
theorem S_math_bits_Mul32_of {x0 : Value} {x1 : Value} {H : Heap} {Q : Value → Heap → Prop} (h : S_math_bits_Mul32 x0 x1 H Q) : callV Tryd.prog (fnV fn_math_bits_Mul32) [x0, x1] H Q :=
  callV_fn (hcalls_of (pv := []) (ann := []) Tryd.func64 (by kernel_rfl) (Eq.mpr (by kernel_rfl) h))

/-- math/bits.Mul64 -/
def S_math_bits_Mul64 (x0 : Value) (x1 : Value) (H : Heap) (Q : Value → Heap → Prop) : Prop :=
  binV (.int .u64) .and x0 (.int .u64 4294967295) fun t15 =>
  binV (.int .u64) .shr x0 (.int .u64 32) fun t17 =>
  binV (.int .u64) .and x1 (.int .u64 4294967295) fun t19 =>
  binV (.int .u64) .shr x1 (.int .u64 32) fun t21 =>
  binV (.int .u64) .mul t15 t19 fun t24 =>
  binV (.int .u64) .mul t17 t19 fun t27 =>
  binV (.int .u64) .shr t24 (.int .u64 32) fun t29 =>
  binV (.int .u64) .add t27 t29 fun t30 =>
  binV (.int .u64) .and t30 (.int .u64 4294967295) fun t32 =>
  binV (.int .u64) .shr t30 (.int .u64 32) fun t34 =>
  binV (.int .u64) .mul t15 t21 fun t38 =>
  binV (.int .u64) .add t32 t38 fun t39 =>
  binV (.int .u64) .mul t17 t21 fun t42 =>
  binV (.int .u64) .add t42 t34 fun t44 =>
  binV (.int .u64) .shr t39 (.int .u64 32) fun t46 =>
  binV (.int .u64) .add t44 t46 fun t47 =>
  binV (.int .u64) .mul x0 x1 fun t50 =>
  Q (.tuple #[t47, t50]) H
theorem S_math_bits_Mul64_of {x0 : Value} {x1 : Value} {H : Heap} {Q : Value → Heap → Prop} (h : S_math_bits_Mul64 x0 x1 H Q) : callV Tryd.prog (fnV fn_math_bits_Mul64) [x0, x1] H Q :=
  callV_fn (hcalls_of (pv := []) (ann := []) Tryd.func65 (by kernel_rfl) (Eq.mpr (by kernel_rfl) h))

/-- thimblerig/sha.turn -/
def S_sha_turn (x0 : Value) (x1 : Value) (H : Heap) (Q : Value → Heap → Prop) : Prop :=
  newT H fun H =>
  newT H fun H =>
  JoinPT (fun K8 =>
  nilV x0 fun t19 =>
  loadP true 8 t19 H fun t20 =>
  (callV Tryd.prog (fnV fn_sha_spread) [x1] H fun t17 H =>
  (loadP true 8 t19 H fun u20 =>
  u20 = t20) ∧
  ((newT H fun H =>
  (loadP true 8 t19 H fun u20 =>
  u20 = t20) ∧
  (newC 97 [(.int .u32 0), (.int .u32 0), (.int .u32 0), (.int .u32 0), (.int .u32 0), (.int .u32 0), (.int .u32 0), (.int .u32 0)] H fun a7 H =>
  (loadP true 8 t19 H fun u20 =>
  u20 = t20) ∧
  (cellsV true 64 t17 fun c1 =>
  ifB (decide (0 + 64 ≤ ((zeroL Tryd.prog 145)).length)) (
  (loadP true 8 t19 H fun u20 =>
  u20 = t20) ∧
  (storeP true 8 (.pointer (some ⟨a7, 0, none⟩)) t20 H fun H =>
  K8 [(setSeg (zeroL Tryd.prog 145) 0 c1), [(.pointer (some ⟨a7, 0, none⟩))]] H)) False))) ∧
  (newC 97 [(.int .u32 0), (.int .u32 0), (.int .u32 0), (.int .u32 0), (.int .u32 0), (.int .u32 0), (.int .u32 0), (.int .u32 0)] H fun a7 H =>
  (loadP true 8 t19 H fun u20 =>
  u20 = t20) ∧
  (newT H fun H =>
  (loadP true 8 t19 H fun u20 =>
  u20 = t20) ∧
  (cellsV true 64 t17 fun c2 =>
  ifB (decide (0 + 64 ≤ ((zeroL Tryd.prog 145)).length)) (
  (loadP true 8 t19 H fun u20 =>
  u20 = t20) ∧
  (storeP true 8 (.pointer (some ⟨a7, 0, none⟩)) t20 H fun H =>
  K8 [(setSeg (zeroL Tryd.prog 145) 0 c2), [(.pointer (some ⟨a7, 0, none⟩))]] H)) False))))) ∧
  (newT H fun H =>
  (loadP true 8 t19 H fun u20 =>
  u20 = t20) ∧
  ((callV Tryd.prog (fnV fn_sha_spread) [x1] H fun t17 H =>
  (loadP true 8 t19 H fun u20 =>
  u20 = t20) ∧
  (newC 97 [(.int .u32 0), (.int .u32 0), (.int .u32 0), (.int .u32 0), (.int .u32 0), (.int .u32 0), (.int .u32 0), (.int .u32 0)] H fun a7 H =>
  (loadP true 8 t19 H fun u20 =>
  u20 = t20) ∧
  (cellsV true 64 t17 fun c3 =>
  ifB (decide (0 + 64 ≤ ((zeroL Tryd.prog 145)).length)) (
  (loadP true 8 t19 H fun u20 =>
  u20 = t20) ∧
  (storeP true 8 (.pointer (some ⟨a7, 0, none⟩)) t20 H fun H =>
  K8 [(setSeg (zeroL Tryd.prog 145) 0 c3), [(.pointer (some ⟨a7, 0, none⟩))]] H)) False))) ∧
  (newC 97 [(.int .u32 0), (.int .u32 0), (.int .u32 0), (.int .u32 0), (.int .u32 0), (.int .u32 0), (.int .u32 0), (.int .u32 0)] H fun a7 H =>
  (loadP true 8 t19 H fun u20 =>
  u20 = t20) ∧
  (callV Tryd.prog (fnV fn_sha_spread) [x1] H fun t17 H =>
  (loadP true 8 t19 H fun u20 =>
  u20 = t20) ∧
  (cellsV true 64 t17 fun c4 =>
  ifB (decide (0 + 64 ≤ ((zeroL Tryd.prog 145)).length)) (
  (loadP true 8 t19 H fun u20 =>
  u20 = t20) ∧
  (storeP true 8 (.pointer (some ⟨a7, 0, none⟩)) t20 H fun H =>
  K8 [(setSeg (zeroL Tryd.prog 145) 0 c4), [(.pointer (some ⟨a7, 0, none⟩))]] H)) False))))) ∧
  (newC 97 [(.int .u32 0), (.int .u32 0), (.int .u32 0), (.int .u32 0), (.int .u32 0), (.int .u32 0), (.int .u32 0), (.int .u32 0)] H fun a7 H =>
  (loadP true 8 t19 H fun u20 =>
  u20 = t20) ∧
  ((callV Tryd.prog (fnV fn_sha_spread) [x1] H fun t17 H =>
  (loadP true 8 t19 H fun u20 =>
  u20 = t20) ∧
  (newT H fun H =>
  (loadP true 8 t19 H fun u20 =>
  u20 = t20) ∧
  (cellsV true 64 t17 fun c5 =>
  ifB (decide (0 + 64 ≤ ((zeroL Tryd.prog 145)).length)) (
  (loadP true 8 t19 H fun u20 =>
  u20 = t20) ∧
  (storeP true 8 (.pointer (some ⟨a7, 0, none⟩)) t20 H fun H =>
  K8 [(setSeg (zeroL Tryd.prog 145) 0 c5), [(.pointer (some ⟨a7, 0, none⟩))]] H)) False))) ∧
  (newT H fun H =>
  (loadP true 8 t19 H fun u20 =>
  u20 = t20) ∧
  (callV Tryd.prog (fnV fn_sha_spread) [x1] H fun t17 H =>
  (loadP true 8 t19 H fun u20 =>
  u20 = t20) ∧
  (cellsV true 64 t17 fun c6 =>
  ifB (decide (0 + 64 ≤ ((zeroL Tryd.prog 145)).length)) (
  (loadP true 8 t19 H fun u20 =>
  u20 = t20) ∧
  (storeP true 8 (.pointer (some ⟨a7, 0, none⟩)) t20 H fun H =>
  K8 [(setSeg (zeroL Tryd.prog 145) 0 c6), [(.pointer (some ⟨a7, 0, none⟩))]] H)) False)))))) fun s8 H =>
  LoopPT (fun s12 H K12 =>
  binV (.int .i64) .lss (sv s12 0) (.int .i64 64) fun t22 =>
  asB t22 fun b22 =>
  ifB b22 (
  idxA 8 1 (sv s8 1) (.int .i64 7) fun t24 =>
  loadP false 1 t24 H fun t25 =>
  idxA 8 1 (sv s8 1) (.int .i64 4) fun t27 =>
  loadP false 1 t27 H fun t28 =>
  idxA 8 1 (sv s8 1) (.int .i64 6) fun t31 =>
  loadP false 1 t31 H fun t32 =>
  idxA 8 1 (sv s8 1) (.int .i64 4) fun t33 =>
  loadP false 1 t33 H fun t34 =>
  idxA 8 1 (sv s8 1) (.int .i64 5) fun t35 =>
  loadP false 1 t35 H fun t36 =>
  idxA 8 1 (sv s8 1) (.int .i64 6) fun t37 =>
  loadP false 1 t37 H fun t38 =>
  binV (.int .u32) .xor t36 t38 fun t39 =>
  binV (.int .u32) .and t34 t39 fun t40 =>
  binV (.int .u32) .xor t32 t40 fun t41 =>
  idxA 64 1 (.pointer (some ⟨1, 0, none⟩)) (sv s12 0) fun t44 =>
  loadP false 1 t44 H fun t45 =>
  idxR 64 (sv s12 0) fun j48 =>
  ifB (decide ((0 + j48 * 1) + 1 ≤ ((sc s8 0)).length)) (
  callV Tryd.prog (fnV fn_sha_turns_of) [(.agg #[(.int .i64 6), (.int .i64 11), (.int .i64 25), (.bool false)]), t28] H fun t29 H =>
  (loadP false 1 t44 H fun u45 =>
  u45 = t45) ∧
  (loadP false 1 t37 H fun u38 =>
  u38 = t38) ∧
  (loadP false 1 t35 H fun u36 =>
  u36 = t36) ∧
  (loadP false 1 t33 H fun u34 =>
  u34 = t34) ∧
  (loadP false 1 t31 H fun u32 =>
  u32 = t32) ∧
  (loadP false 1 t24 H fun u25 =>
  u25 = t25) ∧
  (binV (.int .u32) .add t25 t29 fun t30 =>
  binV (.int .u32) .add t30 t41 fun t42 =>
  binV (.int .u32) .add t42 t45 fun t46 =>
  binV (.int .u32) .add t46 (mkV false (seg (sc s8 0) (0 + j48 * 1) 1)) fun t50 =>
  idxA 8 1 (sv s8 1) (.int .i64 0) fun t52 =>
  loadP false 1 t52 H fun t53 =>
  idxA 8 1 (sv s8 1) (.int .i64 0) fun t55 =>
  loadP false 1 t55 H fun t56 =>
  idxA 8 1 (sv s8 1) (.int .i64 1) fun t57 =>
  loadP false 1 t57 H fun t58 =>
  binV (.int .u32) .and t56 t58 fun t59 =>
  idxA 8 1 (sv s8 1) (.int .i64 2) fun t60 =>
  loadP false 1 t60 H fun t61 =>
  idxA 8 1 (sv s8 1) (.int .i64 0) fun t62 =>
  loadP false 1 t62 H fun t63 =>
  idxA 8 1 (sv s8 1) (.int .i64 1) fun t64 =>
  loadP false 1 t64 H fun t65 =>
  binV (.int .u32) .or t63 t65 fun t66 =>
  binV (.int .u32) .and t61 t66 fun t67 =>
  binV (.int .u32) .or t59 t67 fun t68 =>
  callV Tryd.prog (fnV fn_sha_turns_of) [(.agg #[(.int .i64 2), (.int .i64 13), (.int .i64 22), (.bool false)]), t53] H fun t54 H =>
  (loadP false 1 t64 H fun u65 =>
  u65 = t65) ∧
  (loadP false 1 t62 H fun u63 =>
  u63 = t63) ∧
  (loadP false 1 t60 H fun u61 =>
  u61 = t61) ∧
  (loadP false 1 t57 H fun u58 =>
  u58 = t58) ∧
  (loadP false 1 t55 H fun u56 =>
  u56 = t56) ∧
  (binV (.int .u32) .add t54 t68 fun t69 =>
  slA 8 1 (sv s8 1) (some (.int .i64 1)) none none fun t70 =>
  slA 8 1 (sv s8 1) none (some (.int .i64 7)) none fun t71 =>
  cpS 1 t70 t71 H fun t72 H =>
  binV (.int .u32) .add t50 t69 fun t75 =>
  idxA 8 1 (sv s8 1) (.int .i64 4) fun t76 =>
  loadP false 1 t76 H fun t77 =>
  binV (.int .u32) .add t77 t50 fun t79 =>
  idxA 8 1 (sv s8 1) (.int .i64 0) fun t80 =>
  storeP false 1 t80 t75 H fun H =>
  idxA 8 1 (sv s8 1) (.int .i64 4) fun t81 =>
  storeP false 1 t81 t79 H fun H =>
  binV (.int .i64) .add (sv s12 0) (.int .i64 1) fun t82 =>
  K12 [[t82]] H))) False) (
  LoopPT (fun s36 H K36 =>
  binV (.int .i64) .lss (sv s36 0) (.int .i64 8) fun t84 =>
  asB t84 fun b84 =>
  ifB b84 (
  nilV x0 fun t88 =>
  idxA 8 1 t88 (sv s36 0) fun t89 =>
  loadP false 1 t89 H fun t90 =>
  idxA 8 1 (sv s8 1) (sv s36 0) fun t92 =>
  loadP false 1 t92 H fun t93 =>
  binV (.int .u32) .add t90 t93 fun t94 =>
  nilV x0 fun t95 =>
  idxA 8 1 t95 (sv s36 0) fun t96 =>
  storeP false 1 t96 t94 H fun H =>
  binV (.int .i64) .add (sv s36 0) (.int .i64 1) fun t97 =>
  K36 [[t97]] H) (
  Q (.tuple #[]) H)) [[(.int .i64 0)]] H)) [[(.int .i64 0)]] H
theorem S_sha_turn_of {x0 : Value} {x1 : Value} {H : Heap} {Q : Value → Heap → Prop} (h : S_sha_turn x0 x1 H Q) : callV Tryd.prog (fnV fn_sha_turn) [x0, x1] H Q :=
  callV_fn (hcalls_of (pv := [4, 5, 6]) (ann := [(8, [13, 14]), (12, [42]), (36, [166])]) Tryd.func67 (by kernel_rfl) (Eq.mpr (by kernel_rfl) h))

/-- thimblerig/sha.Check -/
def S_sha_Check (x0_0 : Value) (x0_1 : Value) (x0_2 : Value) (x0_3 : Value) (x0_4 : Value) (x0_5 : Value) (x0_6 : Value) (x0_7 : Value) (x0_8 : Value) (x0_9 : Value) (H : Heap) (Q : Value → Heap → Prop) : Prop :=
  newT H fun H =>
  JoinPT (fun K8 =>
  binV (.int .u64) .geq x0_9 (.int .u64 72057594037927936) fun t5 =>
  asB t5 fun b6 =>
  ifB b6 (
  K8 [[(.bool true)]] H) (
  lenSl x0_8 H fun t9 =>
  cvI .u64 t9 fun t10 =>
  binV (.int .u64) .rem x0_9 (.int .u64 64) fun t13 =>
  binV (.int .u64) .neq t10 t13 fun t14 =>
  K8 [[t14]] H)) fun s8 H =>
  asB (sv s8 0) fun b15 =>
  ifB b15 (
  Q (.int .i64 8) H) (
  Q (.int .i64 0) H)
theorem S_sha_Check_of {x0_0 : Value} {x0_1 : Value} {x0_2 : Value} {x0_3 : Value} {x0_4 : Value} {x0_5 : Value} {x0_6 : Value} {x0_7 : Value} {x0_8 : Value} {x0_9 : Value} {H : Heap} {Q : Value → Heap → Prop} (h : S_sha_Check x0_0 x0_1 x0_2 x0_3 x0_4 x0_5 x0_6 x0_7 x0_8 x0_9 H Q) : callV Tryd.prog (fnV fn_sha_Check) [(.agg #[x0_0, x0_1, x0_2, x0_3, x0_4, x0_5, x0_6, x0_7, x0_8, x0_9])] H Q :=
  callV_fn (hcalls_of (pv := [1]) (ann := [(8, [30])]) Tryd.func69 (by kernel_rfl) (Eq.mpr (by kernel_rfl) h))

/-- thimblerig/thimblerigref02.Ended -/
def S_ref02_Ended (x0_0 : Value) (x0_1 : Value) (x0_2 : Value) (x0_3 : Value) (x0_4 : Value) (x0_5 : Value) (x0_6 : Value) (x0_7 : Value) (x0_8 : Value) (x0_9 : Value) (H : Heap) (Q : Value → Heap → Prop) : Prop :=
  newT H fun H =>
  newT H fun H =>
  bldS 5 1 false (zeroL Tryd.prog 5) 0 [] H fun t9 H =>
  appS 5 1 1 (zeroL Tryd.prog 5) t9 x0_8 H fun t12 H =>
  bldS 5 1 false (zeroL Tryd.prog 5) 1 [(0, (.int .u8 128))] H fun t13 H =>
  appS 5 1 1 (zeroL Tryd.prog 5) t12 t13 H fun t14 H =>
  LoopPT (fun s9 H K9 =>
  lenSl (sv s9 0) H fun t16 =>
  binV (.int .i64) .rem t16 (.int .i64 64) fun t17 =>
  binV (.int .i64) .neq t17 (.int .i64 56) fun t18 =>
  asB t18 fun b18 =>
  ifB b18 (
  bldS 5 1 false (zeroL Tryd.prog 5) 1 [(0, (.int .u8 0))] H fun t20 H =>
  appS 5 1 1 (zeroL Tryd.prog 5) (sv s9 0) t20 H fun t21 H =>
  K9 [[t21]] H) (
  binV (.int .u64) .mul (.int .u64 8) x0_9 fun t24 =>
  LoopPT (fun s21 H K21 =>
  binV (.int .i64) .geq (sv s21 1) (.int .i64 0) fun t26 =>
  asB t26 fun b26 =>
  ifB b26 (
  binV (.int .i64) .mul (.int .i64 8) (sv s21 1) fun t32 =>
  cvI .u64 t32 fun t33 =>
  binV (.int .u64) .shr t24 t33 fun t34 =>
  cvI .u8 t34 fun t35 =>
  bldS 5 1 false (zeroL Tryd.prog 5) 1 [(0, t35)] H fun t36 H =>
  appS 5 1 1 (zeroL Tryd.prog 5) (sv s21 0) t36 H fun t37 H =>
  binV (.int .i64) .sub (sv s21 1) (.int .i64 1) fun t28 =>
  K21 [[t37], [t28]] H) (
  newT H fun H =>
  ifB ([x0_0, x0_1, x0_2, x0_3, x0_4, x0_5, x0_6, x0_7].all okc) (
  LoopPT (fun s33 H K33 =>
  lenSl (sv s33 0) H fun t41 =>
  binV (.int .i64) .gtr t41 (.int .i64 0) fun t42 =>
  asB t42 fun b42 =>
  ifB b42 (
  ifB (decide (0 + 8 ≤ ((sc s33 1)).length)) (
  slS 1 (sv s33 0) none (some (.int .i64 64)) none fun t45 =>
  callV Tryd.prog (fnV fn_ref02_Turn) [(.agg (seg (sc s33 1) 0 8).toArray), t45] H fun t46 H =>
  cellsV true 8 t46 fun c1 =>
  ifB (decide (0 + 8 ≤ ((sc s33 1)).length)) (
  slS 1 (sv s33 0) (some (.int .i64 64)) none none fun t48 =>
  K33 [[t48], (setSeg (sc s33 1) 0 c1)] H) False) False) (
  newT H fun H =>
  LoopPT (fun s48 H K48 =>
  binV (.int .i64) .lss (sv s48 1) (.int .i64 32) fun t50 =>
  asB t50 fun b50 =>
  ifB b50 (
  binV (.int .i64) .quo (sv s48 1) (.int .i64 4) fun t55 =>
  idxR 8 t55 fun j56 =>
  ifB (decide ((0 + j56 * 1) + 1 ≤ ((sc s33 1)).length)) (
  binV (.int .i64) .rem (sv s48 1) (.int .i64 4) fun t59 =>
  binV (.int .i64) .mul (.int .i64 8) t59 fun t60 =>
  binV (.int .i64) .sub (.int .i64 24) t60 fun t61 =>
  cvI .u64 t61 fun t62 =>
  binV (.int .u32) .shr (mkV false (seg (sc s33 1) (0 + j56 * 1) 1)) t62 fun t63 =>
  cvI .u8 t63 fun t64 =>
  idxR 32 (sv s48 1) fun j65 =>
  ifB (okc t64) (
  ifB (decide ((0 + j65 * 1) + 1 ≤ ((sc s48 0)).length)) (
  binV (.int .i64) .add (sv s48 1) (.int .i64 1) fun t52 =>
  K48 [(setSeg (sc s48 0) (0 + j65 * 1) [t64]), [t52]] H) False) False) False) (
  ifB (decide (0 + 32 ≤ ((sc s48 0)).length)) (
  cellsV true 32 (.agg (seg (sc s48 0) 0 32).toArray) fun c2 =>
  ifB (decide (0 + 32 ≤ ((zeroL Tryd.prog 49)).length)) (
  ifB (decide (0 + 32 ≤ ((setSeg (zeroL Tryd.prog 49) 0 c2)).length)) (
  Q (.agg (seg (setSeg (zeroL Tryd.prog 49) 0 c2) 0 32).toArray) H) False) False) False)) [(zeroL Tryd.prog 49), [(.int .i64 0)]] H)) [[(sv s21 0)], [x0_0, x0_1, x0_2, x0_3, x0_4, x0_5, x0_6, x0_7]] H) False)) [[(sv s9 0)], [(.int .i64 7)]] H)) [[t14]] H
theorem S_ref02_Ended_of {x0_0 : Value} {x0_1 : Value} {x0_2 : Value} {x0_3 : Value} {x0_4 : Value} {x0_5 : Value} {x0_6 : Value} {x0_7 : Value} {x0_8 : Value} {x0_9 : Value} {H : Heap} {Q : Value → Heap → Prop} (h : S_ref02_Ended x0_0 x0_1 x0_2 x0_3 x0_4 x0_5 x0_6 x0_7 x0_8 x0_9 H Q) : callV Tryd.prog (fnV fn_ref02_Ended) [(.agg #[x0_0, x0_1, x0_2, x0_3, x0_4, x0_5, x0_6, x0_7, x0_8, x0_9])] H Q :=
  callV_fn (hcalls_of (pv := [1, 2, 6, 7]) (ann := [(9, [6]), (21, [6, 10]), (33, [6, 13]), (48, [15, 16])]) Tryd.func75 (by kernel_rfl) (Eq.mpr (by kernel_rfl) h))

/-- thimblerig/thimblerigref02.Came -/
def S_ref02_Came (x0_0 : Value) (x0_1 : Value) (x0_2 : Value) (x0_3 : Value) (x0_4 : Value) (x0_5 : Value) (x0_6 : Value) (x0_7 : Value) (x0_8 : Value) (x0_9 : Value) (x1 : Value) (H : Heap) (Q : Value → Heap → Prop) : Prop :=
  newT H fun H =>
  newT H fun H =>
  bldS 5 1 false (zeroL Tryd.prog 5) 0 [] H fun t6 H =>
  appS 5 1 1 (zeroL Tryd.prog 5) t6 x0_8 H fun t9 H =>
  appS 5 1 1 (zeroL Tryd.prog 5) t9 x1 H fun t11 H =>
  LoopPT (fun s9 H K9 =>
  lenSl (sv s9 1) H fun t13 =>
  binV (.int .i64) .geq t13 (.int .i64 64) fun t14 =>
  asB t14 fun b14 =>
  ifB b14 (
  ifB (decide (0 + 8 ≤ ((sc s9 0)).length)) (
  slS 1 (sv s9 1) none (some (.int .i64 64)) none fun t18 =>
  callV Tryd.prog (fnV fn_ref02_Turn) [(.agg (seg (sc s9 0) 0 8).toArray), t18] H fun t19 H =>
  cellsV true 8 t19 fun c1 =>
  ifB (decide (0 + 8 ≤ ((sc s9 0)).length)) (
  slS 1 (sv s9 1) (some (.int .i64 64)) none none fun t22 =>
  K9 [(setSeg (sc s9 0) 0 c1), [t22]] H) False) False) (
  ifB (decide (0 + 8 ≤ ((sc s9 0)).length)) (
  ifB (decide (9 + 1 ≤ ((sc s9 0)).length)) (
  lenSl x1 H fun t29 =>
  cvI .u64 t29 fun t30 =>
  binV (.int .u64) .add (mkV false (seg (sc s9 0) 9 1)) t30 fun t31 =>
  cellsV true 8 (.agg (seg (sc s9 0) 0 8).toArray) fun c2 =>
  ifB (okc (sv s9 1)) (
  ifB (decide (8 + 1 ≤ ((setSeg [(.int .u32 0), (.int .u32 0), (.int .u32 0), (.int .u32 0), (.int .u32 0), (.int .u32 0), (.int .u32 0), (.int .u32 0), (.slice none 0 0), (.int .u64 0)] 0 c2)).length)) (
  ifB (okc t31) (
  ifB (decide (9 + 1 ≤ ((setSeg (setSeg [(.int .u32 0), (.int .u32 0), (.int .u32 0), (.int .u32 0), (.int .u32 0), (.int .u32 0), (.int .u32 0), (.int .u32 0), (.slice none 0 0), (.int .u64 0)] 0 c2) 8 [(sv s9 1)])).length)) (
  cellsV true 10 (.agg (setSeg (setSeg (setSeg [(.int .u32 0), (.int .u32 0), (.int .u32 0), (.int .u32 0), (.int .u32 0), (.int .u32 0), (.int .u32 0), (.int .u32 0), (.slice none 0 0), (.int .u64 0)] 0 c2) 8 [(sv s9 1)]) 9 [t31]).toArray) fun c3 =>
  ifB (decide (0 + 10 ≤ ((setSeg [(.int .u32 0), (.int .u32 0), (.int .u32 0), (.int .u32 0), (.int .u32 0), (.int .u32 0), (.int .u32 0), (.int .u32 0), (.slice none 0 0), (.int .u64 0)] 0 c3)).length)) (
  Q (.agg (seg (setSeg [(.int .u32 0), (.int .u32 0), (.int .u32 0), (.int .u32 0), (.int .u32 0), (.int .u32 0), (.int .u32 0), (.int .u32 0), (.slice none 0 0), (.int .u64 0)] 0 c3) 0 10).toArray) H) False) False) False) False) False) False) False)) [[x0_0, x0_1, x0_2, x0_3, x0_4, x0_5, x0_6, x0_7, x0_8, x0_9], [t11]] H
theorem S_ref02_Came_of {x0_0 : Value} {x0_1 : Value} {x0_2 : Value} {x0_3 : Value} {x0_4 : Value} {x0_5 : Value} {x0_6 : Value} {x0_7 : Value} {x0_8 : Value} {x0_9 : Value} {x1 : Value} {H : Heap} {Q : Value → Heap → Prop} (h : S_ref02_Came x0_0 x0_1 x0_2 x0_3 x0_4 x0_5 x0_6 x0_7 x0_8 x0_9 x1 H Q) : callV Tryd.prog (fnV fn_ref02_Came) [(.agg #[x0_0, x0_1, x0_2, x0_3, x0_4, x0_5, x0_6, x0_7, x0_8, x0_9]), x1] H Q :=
  callV_fn (hcalls_of (pv := [2, 4]) (ann := [(9, [5, 10])]) Tryd.func76 (by kernel_rfl) (Eq.mpr (by kernel_rfl) h))

/-- thimblerig/thimblerigref02.Begin -/
def S_ref02_Begin  (H : Heap) (Q : Value → Heap → Prop) : Prop :=
  newT H fun H =>
  Q (.agg #[(.int .u32 1779033703), (.int .u32 3144134277), (.int .u32 1013904242), (.int .u32 2773480762), (.int .u32 1359893119), (.int .u32 2600822924), (.int .u32 528734635), (.int .u32 1541459225), (.slice none 0 0), (.int .u64 0)]) H
theorem S_ref02_Begin_of  {H : Heap} {Q : Value → Heap → Prop} (h : S_ref02_Begin H Q) : callV Tryd.prog (fnV fn_ref02_Begin) [] H Q :=
  callV_fn (hcalls_of (pv := [0]) (ann := []) Tryd.func77 (by kernel_rfl) (Eq.mpr (by kernel_rfl) h))

/-- thimblerig/sha.spread -/
def S_sha_spread (x0 : Value) (H : Heap) (Q : Value → Heap → Prop) : Prop :=
  newT H fun H =>
  newT H fun H =>
  newT H fun H =>
  LoopPT (fun s12 H K12 =>
  binV (.int .i64) .lss (sv s12 1) (.int .i64 64) fun t13 =>
  asB t13 fun b13 =>
  ifB b13 (
  JoinPT (fun K500001 =>
  binV (.int .i64) .lss (sv s12 1) (.int .i64 16) fun t16 =>
  asB t16 fun b16 =>
  ifB b16 (
  binV (.int .i64) .mul (.int .i64 4) (sv s12 1) fun t19 =>
  binV (.int .i64) .mul (.int .i64 4) (sv s12 1) fun t21 =>
  binV (.int .i64) .add t21 (.int .i64 4) fun t22 =>
  slS 1 x0 (some t19) (some t22) none fun t23 =>
  lenSl t23 H fun t24 =>
  LoopPT (fun s24 H K24 =>
  binV (.int .i64) .lss (sv s24 1) t24 fun t26 =>
  asB t26 fun b26 =>
  ifB b26 (
  idxS 1 t23 (sv s24 1) fun t27 =>
  loadP false 1 t27 H fun t28 =>
  idxR 64 (sv s12 1) fun j31 =>
  ifB (decide ((0 + j31 * 1) + 1 ≤ ((sc s24 0)).length)) (
  binV (.int .u32) .shl (mkV false (seg (sc s24 0) (0 + j31 * 1) 1)) (.int .u64 8) fun t33 =>
  cvI .u32 t28 fun t35 =>
  binV (.int .u32) .or t33 t35 fun t36 =>
  idxR 64 (sv s12 1) fun j37 =>
  ifB (okc t36) (
  ifB (decide ((0 + j37 * 1) + 1 ≤ ((sc s24 0)).length)) (
  binV (.int .i64) .add (sv s24 1) (.int .i64 1) fun t38 =>
  K24 [(setSeg (sc s24 0) (0 + j37 * 1) [t36]), [t38]] H) False) False) False) (
  K500001 [(sc s24 0)] H)) [(sc s12 0), [(.int .i64 0)]] H) (
  binV (.int .i64) .sub (sv s12 1) (.int .i64 16) fun t41 =>
  idxR 64 t41 fun j42 =>
  ifB (decide ((0 + j42 * 1) + 1 ≤ ((sc s12 0)).length)) (
  binV (.int .i64) .sub (sv s12 1) (.int .i64 15) fun t46 =>
  idxR 64 t46 fun j47 =>
  ifB (decide ((0 + j47 * 1) + 1 ≤ ((sc s12 0)).length)) (
  binV (.int .i64) .sub (sv s12 1) (.int .i64 7) fun t52 =>
  idxR 64 t52 fun j53 =>
  ifB (decide ((0 + j53 * 1) + 1 ≤ ((sc s12 0)).length)) (
  binV (.int .i64) .sub (sv s12 1) (.int .i64 2) fun t58 =>
  idxR 64 t58 fun j59 =>
  ifB (decide ((0 + j59 * 1) + 1 ≤ ((sc s12 0)).length)) (
  callV Tryd.prog (fnV fn_sha_turns_of) [(.agg #[(.int .i64 7), (.int .i64 18), (.int .i64 3), (.bool true)]), (mkV false (seg (sc s12 0) (0 + j47 * 1) 1))] H fun t49 H =>
  binV (.int .u32) .add (mkV false (seg (sc s12 0) (0 + j42 * 1) 1)) t49 fun t50 =>
  binV (.int .u32) .add t50 (mkV false (seg (sc s12 0) (0 + j53 * 1) 1)) fun t55 =>
  callV Tryd.prog (fnV fn_sha_turns_of) [(.agg #[(.int .i64 17), (.int .i64 19), (.int .i64 10), (.bool true)]), (mkV false (seg (sc s12 0) (0 + j59 * 1) 1))] H fun t61 H =>
  binV (.int .u32) .add t55 t61 fun t62 =>
  idxR 64 (sv s12 1) fun j63 =>
  ifB (okc t62) (
  ifB (decide ((0 + j63 * 1) + 1 ≤ ((sc s12 0)).length)) (
  K500001 [(setSeg (sc s12 0) (0 + j63 * 1) [t62])] H) False) False) False) False) False) False)) fun s500001 H =>
  binV (.int .i64) .add (sv s12 1) (.int .i64 1) fun t64 =>
  K12 [(sc s500001 0), [t64]] H) (
  ifB (decide (0 + 64 ≤ ((sc s12 0)).length)) (
  cellsV true 64 (.agg (seg (sc s12 0) 0 64).toArray) fun c1 =>
  ifB (decide (0 + 64 ≤ ((sc s12 0)).length)) (
  ifB (decide (0 + 64 ≤ ((setSeg (sc s12 0) 0 c1)).length)) (
  Q (.agg (seg (setSeg (sc s12 0) 0 c1) 0 64).toArray) H) False) False) False)) [(zeroL Tryd.prog 145), [(.int .i64 0)]] H
theorem S_sha_spread_of {x0 : Value} {H : Heap} {Q : Value → Heap → Prop} (h : S_sha_spread x0 H Q) : callV Tryd.prog (fnV fn_sha_spread) [x0] H Q :=
  callV_fn (hcalls_of (pv := [2, 3, 4]) (ann := [(12, [5, 24]), (24, [5, 50]), (500001, [5])]) Tryd.func83 (by kernel_rfl) (Eq.mpr (by kernel_rfl) h))

/-- (thimblerig/sha.turns).of -/
def S_sha_turns_of (x0_0 : Value) (x0_1 : Value) (x0_2 : Value) (x0_3 : Value) (x1 : Value) (H : Heap) (Q : Value → Heap → Prop) : Prop :=
  newT H fun H =>
  idxR 3 (.int .i64 2) fun j8 =>
  ifB (decide ((0 + j8 * 1) + 1 ≤ ([x0_0, x0_1, x0_2, x0_3]).length)) (
  unV .neg (mkV false (seg [x0_0, x0_1, x0_2, x0_3] (0 + j8 * 1) 1)) fun t10 =>
  callV Tryd.prog (fnV fn_math_bits_RotateLeft32) [x1, t10] H fun t11 H =>
  asB x0_3 fun b13 =>
  JoinPT (fun K12 =>
  ifB b13 (
  idxR 3 (.int .i64 2) fun j16 =>
  ifB (decide ((0 + j16 * 1) + 1 ≤ ([x0_0, x0_1, x0_2, x0_3]).length)) (
  binV (.int .u32) .shr x1 (mkV false (seg [x0_0, x0_1, x0_2, x0_3] (0 + j16 * 1) 1)) fun t18 =>
  K12 [[t18]] H) False) (
  K12 [[t11]] H)) fun s12 H =>
  idxR 3 (.int .i64 0) fun j21 =>
  ifB (decide ((0 + j21 * 1) + 1 ≤ ([x0_0, x0_1, x0_2, x0_3]).length)) (
  unV .neg (mkV false (seg [x0_0, x0_1, x0_2, x0_3] (0 + j21 * 1) 1)) fun t23 =>
  idxR 3 (.int .i64 1) fun j27 =>
  ifB (decide ((0 + j27 * 1) + 1 ≤ ([x0_0, x0_1, x0_2, x0_3]).length)) (
  unV .neg (mkV false (seg [x0_0, x0_1, x0_2, x0_3] (0 + j27 * 1) 1)) fun t29 =>
  callV Tryd.prog (fnV fn_math_bits_RotateLeft32) [x1, t23] H fun t24 H =>
  callV Tryd.prog (fnV fn_math_bits_RotateLeft32) [x1, t29] H fun t30 H =>
  binV (.int .u32) .xor t24 t30 fun t31 =>
  binV (.int .u32) .xor t31 (sv s12 0) fun t33 =>
  Q t33 H) False) False) False
theorem S_sha_turns_of_of {x0_0 : Value} {x0_1 : Value} {x0_2 : Value} {x0_3 : Value} {x1 : Value} {H : Heap} {Q : Value → Heap → Prop} (h : S_sha_turns_of x0_0 x0_1 x0_2 x0_3 x1 H Q) : callV Tryd.prog (fnV fn_sha_turns_of) [(.agg #[x0_0, x0_1, x0_2, x0_3]), x1] H Q :=
  callV_fn (hcalls_of (pv := [2]) (ann := [(12, [10])]) Tryd.func84 (by kernel_rfl) (Eq.mpr (by kernel_rfl) h))

/-- thimblerig/thimblerigref02.Turn -/
def S_ref02_Turn (x0_0 : Value) (x0_1 : Value) (x0_2 : Value) (x0_3 : Value) (x0_4 : Value) (x0_5 : Value) (x0_6 : Value) (x0_7 : Value) (x1 : Value) (H : Heap) (Q : Value → Heap → Prop) : Prop :=
  newT H fun H =>
  newT H fun H =>
  callV Tryd.prog (fnV fn_ref02_table) [] H fun t16 H =>
  newT H fun H =>
  cellsV true 64 t16 fun c1 =>
  ifB (decide (0 + 64 ≤ ((zeroL Tryd.prog 145)).length)) (
  callV Tryd.prog (fnV fn_ref02_words) [x1] H fun t18 H =>
  newT H fun H =>
  cellsV true 64 t18 fun c2 =>
  ifB (decide (0 + 64 ≤ ((zeroL Tryd.prog 145)).length)) (
  newT H fun H =>
  ifB ([x0_0, x0_1, x0_2, x0_3, x0_4, x0_5, x0_6, x0_7].all okc) (
  LoopPT (fun s18 H K18 =>
  binV (.int .i64) .lss (sv s18 1) (.int .i64 64) fun t21 =>
  asB t21 fun b21 =>
  ifB b21 (
  idxR 8 (.int .i64 4) fun j24 =>
  ifB (decide ((0 + j24 * 1) + 1 ≤ ((sc s18 0)).length)) (
  idxR 8 (.int .i64 5) fun j27 =>
  ifB (decide ((0 + j27 * 1) + 1 ≤ ((sc s18 0)).length)) (
  binV (.int .u32) .and (mkV false (seg (sc s18 0) (0 + j24 * 1) 1)) (mkV false (seg (sc s18 0) (0 + j27 * 1) 1)) fun t29 =>
  binV (.int .u32) .xor (mkV false (seg (sc s18 0) (0 + j24 * 1) 1)) (.int .u32 4294967295) fun t31 =>
  idxR 8 (.int .i64 6) fun j32 =>
  ifB (decide ((0 + j32 * 1) + 1 ≤ ((sc s18 0)).length)) (
  binV (.int .u32) .and t31 (mkV false (seg (sc s18 0) (0 + j32 * 1) 1)) fun t34 =>
  binV (.int .u32) .xor t29 t34 fun t35 =>
  idxR 8 (.int .i64 7) fun j36 =>
  ifB (decide ((0 + j36 * 1) + 1 ≤ ((sc s18 0)).length)) (
  idxR 64 (sv s18 1) fun j50 =>
  ifB (decide ((0 + j50 * 1) + 1 ≤ ((setSeg (zeroL Tryd.prog 145) 0 c1)).length)) (
  idxR 64 (sv s18 1) fun j54 =>
  ifB (decide ((0 + j54 * 1) + 1 ≤ ((setSeg (zeroL Tryd.prog 145) 0 c2)).length)) (
  callV Tryd.prog (fnV fn_ref02_turned) [(mkV false (seg (sc s18 0) (0 + j24 * 1) 1)), (.int .u32 6)] H fun t39 H =>
  callV Tryd.prog (fnV fn_ref02_turned) [(mkV false (seg (sc s18 0) (0 + j24 * 1) 1)), (.int .u32 11)] H fun t41 H =>
  binV (.int .u32) .xor t39 t41 fun t42 =>
  callV Tryd.prog (fnV fn_ref02_turned) [(mkV false (seg (sc s18 0) (0 + j24 * 1) 1)), (.int .u32 25)] H fun t44 H =>
  binV (.int .u32) .xor t42 t44 fun t45 =>
  binV (.int .u32) .add (mkV false (seg (sc s18 0) (0 + j36 * 1) 1)) t45 fun t46 =>
  binV (.int .u32) .add t46 t35 fun t48 =>
  binV (.int .u32) .add t48 (mkV false (seg (setSeg (zeroL Tryd.prog 145) 0 c1) (0 + j50 * 1) 1)) fun t52 =>
  binV (.int .u32) .add t52 (mkV false (seg (setSeg (zeroL Tryd.prog 145) 0 c2) (0 + j54 * 1) 1)) fun t56 =>
  idxR 8 (.int .i64 0) fun j57 =>
  ifB (decide ((0 + j57 * 1) + 1 ≤ ((sc s18 0)).length)) (
  idxR 8 (.int .i64 1) fun j60 =>
  ifB (decide ((0 + j60 * 1) + 1 ≤ ((sc s18 0)).length)) (
  binV (.int .u32) .and (mkV false (seg (sc s18 0) (0 + j57 * 1) 1)) (mkV false (seg (sc s18 0) (0 + j60 * 1) 1)) fun t62 =>
  idxR 8 (.int .i64 2) fun j64 =>
  ifB (decide ((0 + j64 * 1) + 1 ≤ ((sc s18 0)).length)) (
  binV (.int .u32) .and (mkV false (seg (sc s18 0) (0 + j57 * 1) 1)) (mkV false (seg (sc s18 0) (0 + j64 * 1) 1)) fun t66 =>
  binV (.int .u32) .xor t62 t66 fun t67 =>
  idxR 8 (.int .i64 1) fun j68 =>
  ifB (decide ((0 + j68 * 1) + 1 ≤ ((sc s18 0)).length)) (
  idxR 8 (.int .i64 2) fun j70 =>
  ifB (decide ((0 + j70 * 1) + 1 ≤ ((sc s18 0)).length)) (
  binV (.int .u32) .and (mkV false (seg (sc s18 0) (0 + j68 * 1) 1)) (mkV false (seg (sc s18 0) (0 + j70 * 1) 1)) fun t72 =>
  binV (.int .u32) .xor t67 t72 fun t73 =>
  callV Tryd.prog (fnV fn_ref02_turned) [(mkV false (seg (sc s18 0) (0 + j57 * 1) 1)), (.int .u32 2)] H fun t75 H =>
  callV Tryd.prog (fnV fn_ref02_turned) [(mkV false (seg (sc s18 0) (0 + j57 * 1) 1)), (.int .u32 13)] H fun t77 H =>
  binV (.int .u32) .xor t75 t77 fun t78 =>
  callV Tryd.prog (fnV fn_ref02_turned) [(mkV false (seg (sc s18 0) (0 + j57 * 1) 1)), (.int .u32 22)] H fun t80 H =>
  binV (.int .u32) .xor t78 t80 fun t81 =>
  binV (.int .u32) .add t81 t73 fun t83 =>
  binV (.int .u32) .add t56 t83 fun t86 =>
  idxR 8 (.int .i64 0) fun j87 =>
  ifB (decide ((0 + j87 * 1) + 1 ≤ ((sc s18 0)).length)) (
  idxR 8 (.int .i64 1) fun j89 =>
  ifB (decide ((0 + j89 * 1) + 1 ≤ ((sc s18 0)).length)) (
  idxR 8 (.int .i64 2) fun j91 =>
  ifB (decide ((0 + j91 * 1) + 1 ≤ ((sc s18 0)).length)) (
  idxR 8 (.int .i64 3) fun j93 =>
  ifB (decide ((0 + j93 * 1) + 1 ≤ ((sc s18 0)).length)) (
  binV (.int .u32) .add (mkV false (seg (sc s18 0) (0 + j93 * 1) 1)) t56 fun t96 =>
  idxR 8 (.int .i64 4) fun j97 =>
  ifB (decide ((0 + j97 * 1) + 1 ≤ ((sc s18 0)).length)) (
  idxR 8 (.int .i64 5) fun j99 =>
  ifB (decide ((0 + j99 * 1) + 1 ≤ ((sc s18 0)).length)) (
  idxR 8 (.int .i64 6) fun j101 =>
  ifB (decide ((0 + j101 * 1) + 1 ≤ ((sc s18 0)).length)) (
  ifB (okc t86) (
  ifB (okc (mkV false (seg (sc s18 0) (0 + j87 * 1) 1))) (
  ifB (okc (mkV false (seg (sc s18 0) (0 + j89 * 1) 1))) (
  ifB (okc (mkV false (seg (sc s18 0) (0 + j91 * 1) 1))) (
  ifB (okc t96) (
  ifB (okc (mkV false (seg (sc s18 0) (0 + j97 * 1) 1))) (
  ifB (okc (mkV false (seg (sc s18 0) (0 + j99 * 1) 1))) (
  ifB (okc (mkV false (seg (sc s18 0) (0 + j101 * 1) 1))) (
  ifB ([t86, (mkV false (seg (sc s18 0) (0 + j87 * 1) 1)), (mkV false (seg (sc s18 0) (0 + j89 * 1) 1)), (mkV false (seg (sc s18 0) (0 + j91 * 1) 1)), t96, (mkV false (seg (sc s18 0) (0 + j97 * 1) 1)), (mkV false (seg (sc s18 0) (0 + j99 * 1) 1)), (mkV false (seg (sc s18 0) (0 + j101 * 1) 1))].all okc) (
  ifB (decide (0 + 8 ≤ ((sc s18 0)).length)) (
  binV (.int .i64) .add (sv s18 1) (.int .i64 1) fun t23 =>
  K18 [(setSeg (sc s18 0) 0 [t86, (mkV false (seg (sc s18 0) (0 + j87 * 1) 1)), (mkV false (seg (sc s18 0) (0 + j89 * 1) 1)), (mkV false (seg (sc s18 0) (0 + j91 * 1) 1)), t96, (mkV false (seg (sc s18 0) (0 + j97 * 1) 1)), (mkV false (seg (sc s18 0) (0 + j99 * 1) 1)), (mkV false (seg (sc s18 0) (0 + j101 * 1) 1))]), [t23]] H) False) False) False) False) False) False) False) False) False) False) False) False) False) False) False) False) False) False) False) False) False) False) False) False) False) False) False) False) (
  LoopPT (fun s48 H K48 =>
  binV (.int .i64) .lss (sv s48 1) (.int .i64 8) fun t105 =>
  asB t105 fun b105 =>
  ifB b105 (
  idxR 8 (sv s48 1) fun j110 =>
  ifB (decide ((0 + j110 * 1) + 1 ≤ ((sc s48 0)).length)) (
  idxR 8 (sv s48 1) fun j113 =>
  ifB (decide ((0 + j113 * 1) + 1 ≤ ((sc s18 0)).length)) (
  binV (.int .u32) .add (mkV false (seg (sc s48 0) (0 + j110 * 1) 1)) (mkV false (seg (sc s18 0) (0 + j113 * 1) 1)) fun t115 =>
  idxR 8 (sv s48 1) fun j116 =>
  ifB (okc t115) (
  ifB (decide ((0 + j116 * 1) + 1 ≤ ((sc s48 0)).length)) (
  binV (.int .i64) .add (sv s48 1) (.int .i64 1) fun t107 =>
  K48 [(setSeg (sc s48 0) (0 + j116 * 1) [t115]), [t107]] H) False) False) False) False) (
  ifB (decide (0 + 8 ≤ ((sc s48 0)).length)) (
  cellsV true 8 (.agg (seg (sc s48 0) 0 8).toArray) fun c3 =>
  ifB (decide (0 + 8 ≤ ((setSeg [(.int .u32 0), (.int .u32 0), (.int .u32 0), (.int .u32 0), (.int .u32 0), (.int .u32 0), (.int .u32 0), (.int .u32 0)] 0 c3)).length)) (
  Q (.agg (seg (setSeg [(.int .u32 0), (.int .u32 0), (.int .u32 0), (.int .u32 0), (.int .u32 0), (.int .u32 0), (.int .u32 0), (.int .u32 0)] 0 c3) 0 8).toArray) H) False) False)) [[x0_0, x0_1, x0_2, x0_3, x0_4, x0_5, x0_6, x0_7], [(.int .i64 0)]] H)) [[x0_0, x0_1, x0_2, x0_3, x0_4, x0_5, x0_6, x0_7], [(.int .i64 0)]] H) False) False) False
theorem S_ref02_Turn_of {x0_0 : Value} {x0_1 : Value} {x0_2 : Value} {x0_3 : Value} {x0_4 : Value} {x0_5 : Value} {x0_6 : Value} {x0_7 : Value} {x1 : Value} {H : Heap} {Q : Value → Heap → Prop} (h : S_ref02_Turn x0_0 x0_1 x0_2 x0_3 x0_4 x0_5 x0_6 x0_7 x1 H Q) : callV Tryd.prog (fnV fn_ref02_Turn) [(.agg #[x0_0, x0_1, x0_2, x0_3, x0_4, x0_5, x0_6, x0_7]), x1] H Q :=
  callV_fn (hcalls_of (pv := [2, 4, 5, 6, 7]) (ann := [(18, [15, 16]), (48, [5, 30])]) Tryd.func87 (by kernel_rfl) (Eq.mpr (by kernel_rfl) h))

/-- math/bits.RotateLeft32 -/
def S_math_bits_RotateLeft32 (x0 : Value) (x1 : Value) (H : Heap) (Q : Value → Heap → Prop) : Prop :=
  cvI .u64 x1 fun t7 =>
  binV (.int .u64) .and t7 (.int .u64 31) fun t8 =>
  binV (.int .u32) .shl x0 t8 fun t11 =>
  binV (.int .u64) .sub (.int .u64 32) t8 fun t14 =>
  binV (.int .u32) .shr x0 t14 fun t15 =>
  binV (.int .u32) .or t11 t15 fun t16 =>
  Q t16 H
theorem S_math_bits_RotateLeft32_of {x0 : Value} {x1 : Value} {H : Heap} {Q : Value → Heap → Prop} (h : S_math_bits_RotateLeft32 x0 x1 H Q) : callV Tryd.prog (fnV fn_math_bits_RotateLeft32) [x0, x1] H Q :=
  callV_fn (hcalls_of (pv := []) (ann := []) Tryd.func90 (by kernel_rfl) (Eq.mpr (by kernel_rfl) h))

/-- thimblerig/thimblerigref02.table -/
def S_ref02_table  (H : Heap) (Q : Value → Heap → Prop) : Prop :=
  newT H fun H =>
  ifB (decide (0 + 64 ≤ ((zeroL Tryd.prog 145)).length)) (
  ifB (decide (0 + 64 ≤ ((setSeg (zeroL Tryd.prog 145) 0 [(.int .u32 1116352408), (.int .u32 1899447441), (.int .u32 3049323471), (.int .u32 3921009573), (.int .u32 961987163), (.int .u32 1508970993), (.int .u32 2453635748), (.int .u32 2870763221), (.int .u32 3624381080), (.int .u32 310598401), (.int .u32 607225278), (.int .u32 1426881987), (.int .u32 1925078388), (.int .u32 2162078206), (.int .u32 2614888103), (.int .u32 3248222580), (.int .u32 3835390401), (.int .u32 4022224774), (.int .u32 264347078), (.int .u32 604807628), (.int .u32 770255983), (.int .u32 1249150122), (.int .u32 1555081692), (.int .u32 1996064986), (.int .u32 2554220882), (.int .u32 2821834349), (.int .u32 2952996808), (.int .u32 3210313671), (.int .u32 3336571891), (.int .u32 3584528711), (.int .u32 113926993), (.int .u32 338241895), (.int .u32 666307205), (.int .u32 773529912), (.int .u32 1294757372), (.int .u32 1396182291), (.int .u32 1695183700), (.int .u32 1986661051), (.int .u32 2177026350), (.int .u32 2456956037), (.int .u32 2730485921), (.int .u32 2820302411), (.int .u32 3259730800), (.int .u32 3345764771), (.int .u32 3516065817), (.int .u32 3600352804), (.int .u32 4094571909), (.int .u32 275423344), (.int .u32 430227734), (.int .u32 506948616), (.int .u32 659060556), (.int .u32 883997877), (.int .u32 958139571), (.int .u32 1322822218), (.int .u32 1537002063), (.int .u32 1747873779), (.int .u32 1955562222), (.int .u32 2024104815), (.int .u32 2227730452), (.int .u32 2361852424), (.int .u32 2428436474), (.int .u32 2756734187), (.int .u32 3204031479), (.int .u32 3329325298)])).length)) (
  Q (.agg (seg (setSeg (zeroL Tryd.prog 145) 0 [(.int .u32 1116352408), (.int .u32 1899447441), (.int .u32 3049323471), (.int .u32 3921009573), (.int .u32 961987163), (.int .u32 1508970993), (.int .u32 2453635748), (.int .u32 2870763221), (.int .u32 3624381080), (.int .u32 310598401), (.int .u32 607225278), (.int .u32 1426881987), (.int .u32 1925078388), (.int .u32 2162078206), (.int .u32 2614888103), (.int .u32 3248222580), (.int .u32 3835390401), (.int .u32 4022224774), (.int .u32 264347078), (.int .u32 604807628), (.int .u32 770255983), (.int .u32 1249150122), (.int .u32 1555081692), (.int .u32 1996064986), (.int .u32 2554220882), (.int .u32 2821834349), (.int .u32 2952996808), (.int .u32 3210313671), (.int .u32 3336571891), (.int .u32 3584528711), (.int .u32 113926993), (.int .u32 338241895), (.int .u32 666307205), (.int .u32 773529912), (.int .u32 1294757372), (.int .u32 1396182291), (.int .u32 1695183700), (.int .u32 1986661051), (.int .u32 2177026350), (.int .u32 2456956037), (.int .u32 2730485921), (.int .u32 2820302411), (.int .u32 3259730800), (.int .u32 3345764771), (.int .u32 3516065817), (.int .u32 3600352804), (.int .u32 4094571909), (.int .u32 275423344), (.int .u32 430227734), (.int .u32 506948616), (.int .u32 659060556), (.int .u32 883997877), (.int .u32 958139571), (.int .u32 1322822218), (.int .u32 1537002063), (.int .u32 1747873779), (.int .u32 1955562222), (.int .u32 2024104815), (.int .u32 2227730452), (.int .u32 2361852424), (.int .u32 2428436474), (.int .u32 2756734187), (.int .u32 3204031479), (.int .u32 3329325298)]) 0 64).toArray) H) False) False
theorem S_ref02_table_of  {H : Heap} {Q : Value → Heap → Prop} (h : S_ref02_table H Q) : callV Tryd.prog (fnV fn_ref02_table) [] H Q := by
  refine callV_fn (hcalls_of (pv := [0]) (ann := []) Tryd.func92 ?_ ?_)
  · kernel_rfl
  · refine @Eq.mpr _ (S_ref02_table H Q) ?_ h
    kernel_rfl

/-- thimblerig/thimblerigref02.words -/
def S_ref02_words (x0 : Value) (H : Heap) (Q : Value → Heap → Prop) : Prop :=
  newT H fun H =>
  newT H fun H =>
  LoopPT (fun s12 H K12 =>
  binV (.int .i64) .lss (sv s12 1) (.int .i64 16) fun t11 =>
  asB t11 fun b11 =>
  ifB b11 (
  binV (.int .i64) .mul (.int .i64 4) (sv s12 1) fun t17 =>
  idxS 1 x0 t17 fun t18 =>
  loadP false 1 t18 H fun t19 =>
  cvI .u32 t19 fun t20 =>
  binV (.int .u32) .shl t20 (.int .u64 24) fun t21 =>
  binV (.int .i64) .mul (.int .i64 4) (sv s12 1) fun t24 =>
  binV (.int .i64) .add t24 (.int .i64 1) fun t25 =>
  idxS 1 x0 t25 fun t26 =>
  loadP false 1 t26 H fun t27 =>
  cvI .u32 t27 fun t28 =>
  binV (.int .u32) .shl t28 (.int .u64 16) fun t29 =>
  binV (.int .u32) .or t21 t29 fun t30 =>
  binV (.int .i64) .mul (.int .i64 4) (sv s12 1) fun t33 =>
  binV (.int .i64) .add t33 (.int .i64 2) fun t34 =>
  idxS 1 x0 t34 fun t35 =>
  loadP false 1 t35 H fun t36 =>
  cvI .u32 t36 fun t37 =>
  binV (.int .u32) .shl t37 (.int .u64 8) fun t38 =>
  binV (.int .u32) .or t30 t38 fun t39 =>
  binV (.int .i64) .mul (.int .i64 4) (sv s12 1) fun t42 =>
  binV (.int .i64) .add t42 (.int .i64 3) fun t43 =>
  idxS 1 x0 t43 fun t44 =>
  loadP false 1 t44 H fun t45 =>
  cvI .u32 t45 fun t46 =>
  binV (.int .u32) .or t39 t46 fun t47 =>
  idxR 64 (sv s12 1) fun j48 =>
  ifB (okc t47) (
  ifB (decide ((0 + j48 * 1) + 1 ≤ ((sc s12 0)).length)) (
  binV (.int .i64) .add (sv s12 1) (.int .i64 1) fun t13 =>
  K12 [(setSeg (sc s12 0) (0 + j48 * 1) [t47]), [t13]] H) False) False) (
  LoopPT (fun s24 H K24 =>
  binV (.int .i64) .lss (sv s24 1) (.int .i64 64) fun t50 =>
  asB t50 fun b50 =>
  ifB b50 (
  binV (.int .i64) .sub (sv s24 1) (.int .i64 15) fun t54 =>
  idxR 64 t54 fun j55 =>
  ifB (decide ((0 + j55 * 1) + 1 ≤ ((sc s24 0)).length)) (
  binV (.int .i64) .sub (sv s24 1) (.int .i64 2) fun t58 =>
  idxR 64 t58 fun j59 =>
  ifB (decide ((0 + j59 * 1) + 1 ≤ ((sc s24 0)).length)) (
  callV Tryd.prog (fnV fn_ref02_turned) [(mkV false (seg (sc s24 0) (0 + j55 * 1) 1)), (.int .u32 7)] H fun t62 H =>
  callV Tryd.prog (fnV fn_ref02_turned) [(mkV false (seg (sc s24 0) (0 + j55 * 1) 1)), (.int .u32 18)] H fun t64 H =>
  binV (.int .u32) .xor t62 t64 fun t65 =>
  binV (.int .u32) .shr (mkV false (seg (sc s24 0) (0 + j55 * 1) 1)) (.int .u64 3) fun t67 =>
  binV (.int .u32) .xor t65 t67 fun t68 =>
  callV Tryd.prog (fnV fn_ref02_turned) [(mkV false (seg (sc s24 0) (0 + j59 * 1) 1)), (.int .u32 17)] H fun t70 H =>
  callV Tryd.prog (fnV fn_ref02_turned) [(mkV false (seg (sc s24 0) (0 + j59 * 1) 1)), (.int .u32 19)] H fun t72 H =>
  binV (.int .u32) .xor t70 t72 fun t73 =>
  binV (.int .u32) .shr (mkV false (seg (sc s24 0) (0 + j59 * 1) 1)) (.int .u64 10) fun t75 =>
  binV (.int .u32) .xor t73 t75 fun t76 =>
  binV (.int .i64) .sub (sv s24 1) (.int .i64 16) fun t79 =>
  idxR 64 t79 fun j80 =>
  ifB (decide ((0 + j80 * 1) + 1 ≤ ((sc s24 0)).length)) (
  binV (.int .i64) .sub (sv s24 1) (.int .i64 7) fun t83 =>
  idxR 64 t83 fun j84 =>
  ifB (decide ((0 + j84 * 1) + 1 ≤ ((sc s24 0)).length)) (
  binV (.int .u32) .add (mkV false (seg (sc s24 0) (0 + j80 * 1) 1)) (mkV false (seg (sc s24 0) (0 + j84 * 1) 1)) fun t86 =>
  binV (.int .u32) .add t86 t68 fun t88 =>
  binV (.int .u32) .add t88 t76 fun t90 =>
  idxR 64 (sv s24 1) fun j91 =>
  ifB (okc t90) (
  ifB (decide ((0 + j91 * 1) + 1 ≤ ((sc s24 0)).length)) (
  binV (.int .i64) .add (sv s24 1) (.int .i64 1) fun t52 =>
  K24 [(setSeg (sc s24 0) (0 + j91 * 1) [t90]), [t52]] H) False) False) False) False) False) False) (
  ifB (decide (0 + 64 ≤ ((sc s24 0)).length)) (
  cellsV true 64 (.agg (seg (sc s24 0) 0 64).toArray) fun c1 =>
  ifB (decide (0 + 64 ≤ ((zeroL Tryd.prog 145)).length)) (
  ifB (decide (0 + 64 ≤ ((setSeg (zeroL Tryd.prog 145) 0 c1)).length)) (
  Q (.agg (seg (setSeg (zeroL Tryd.prog 145) 0 c1) 0 64).toArray) H) False) False) False)) [(sc s12 0), [(.int .i64 16)]] H)) [(zeroL Tryd.prog 145), [(.int .i64 0)]] H
theorem S_ref02_words_of {x0 : Value} {H : Heap} {Q : Value → Heap → Prop} (h : S_ref02_words x0 H Q) : callV Tryd.prog (fnV fn_ref02_words) [x0] H Q :=
  callV_fn (hcalls_of (pv := [2, 3]) (ann := [(12, [7, 8]), (24, [7, 10])]) Tryd.func93 (by kernel_rfl) (Eq.mpr (by kernel_rfl) h))

/-- thimblerig/thimblerigref02.turned -/
def S_ref02_turned (x0 : Value) (x1 : Value) (H : Heap) (Q : Value → Heap → Prop) : Prop :=
  binV (.int .u32) .shr x0 x1 fun t7 =>
  binV (.int .u32) .sub (.int .u32 32) x1 fun t10 =>
  binV (.int .u32) .shl x0 t10 fun t11 =>
  binV (.int .u32) .or t7 t11 fun t12 =>
  Q t12 H
theorem S_ref02_turned_of {x0 : Value} {x1 : Value} {H : Heap} {Q : Value → Heap → Prop} (h : S_ref02_turned x0 x1 H Q) : callV Tryd.prog (fnV fn_ref02_turned) [x0, x1] H Q :=
  callV_fn (hcalls_of (pv := []) (ann := []) Tryd.func94 (by kernel_rfl) (Eq.mpr (by kernel_rfl) h))

end Go.Proofs.YtlmpjhbfgakgdaaDoor
