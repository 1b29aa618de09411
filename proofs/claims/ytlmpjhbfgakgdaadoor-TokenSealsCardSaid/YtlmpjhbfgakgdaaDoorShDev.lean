/- Written by sh.py: what functions do, out of the deep reading; each is joined to the program by the kernel. -/
import Derived.Test.YtlmpjhbfgakgdaaDoorShNames
namespace Go.Proofs.YtlmpjhbfgakgdaaDoor
open Go.Ab
set_option linter.unusedVariables false
set_option linter.unusedSimpArgs false
set_option maxRecDepth 100000

/-- thimblerig/thimblerigref01.Same -/
def S_ref01_Same (x0 : Value) (x1 : Value) (H : Heap) (Q : Value → Heap → Prop) : Prop :=
  cvBS x0 H fun t6 =>
  cvBS x1 H fun t8 =>
  binV .string .eql t6 t8 fun t9 =>
  Q t9 H
theorem S_ref01_Same_of {x0 : Value} {x1 : Value} {H : Heap} {Q : Value → Heap → Prop} (h : S_ref01_Same x0 x1 H Q) : callV Tryd.prog (fnV fn_ref01_Same) [x0, x1] H Q :=
  callV_fn (hcalls_of (pv := []) (ann := []) Tryd.func10 (by kernel_rfl) (Eq.mpr (by kernel_rfl) h))

/-- slices.ContainsFunc[[]thimblerig/api.Oram,thimblerig/api.Oram] -/
def S_slices_ContainsFunc_api_Oram_api_Oram (x0 : Value) (x1 : Value) (H : Heap) (Q : Value → Heap → Prop) : Prop :=
  callV Tryd.prog (fnV fn_slices_IndexFunc_api_Oram_api_Oram) [x0, x1] H fun t7 H =>
  binV (.int .i64) .geq t7 (.int .i64 0) fun t8 =>
  Q t8 H
theorem S_slices_ContainsFunc_api_Oram_api_Oram_of {x0 : Value} {x1 : Value} {H : Heap} {Q : Value → Heap → Prop} (h : S_slices_ContainsFunc_api_Oram_api_Oram x0 x1 H Q) : callV Tryd.prog (fnV fn_slices_ContainsFunc_api_Oram_api_Oram) [x0, x1] H Q :=
  callV_fn (hcalls_of (pv := []) (ann := []) Tryd.func18 (by kernel_rfl) (Eq.mpr (by kernel_rfl) h))

/-- thimblerig/thimblerigref01.SameInts -/
def S_ref01_SameInts (x0 : Value) (x1 : Value) (H : Heap) (Q : Value → Heap → Prop) : Prop :=
  lenSl x0 H fun t7 =>
  lenSl x1 H fun t9 =>
  binV (.int .i64) .neq t7 t9 fun t10 =>
  asB t10 fun b10 =>
  ifB b10 (
  Q (.bool false) H) (
  LoopPT (fun s15 H K15 =>
  lenSl x0 H fun t13 =>
  binV (.int .i64) .lss (sv s15 0) t13 fun t14 =>
  asB t14 fun b14 =>
  ifB b14 (
  idxS 1 x0 (sv s15 0) fun t19 =>
  loadP false 1 t19 H fun t20 =>
  idxS 1 x1 (sv s15 0) fun t23 =>
  loadP false 1 t23 H fun t24 =>
  binV (.int .i64) .neq t20 t24 fun t25 =>
  asB t25 fun b25 =>
  ifB b25 (
  Q (.bool false) H) (
  binV (.int .i64) .add (sv s15 0) (.int .i64 1) fun t16 =>
  K15 [[t16]] H)) (
  Q (.bool true) H)) [[(.int .i64 0)]] H)
theorem S_ref01_SameInts_of {x0 : Value} {x1 : Value} {H : Heap} {Q : Value → Heap → Prop} (h : S_ref01_SameInts x0 x1 H Q) : callV Tryd.prog (fnV fn_ref01_SameInts) [x0, x1] H Q :=
  callV_fn (hcalls_of (pv := []) (ann := [(15, [10])]) Tryd.func27 (by kernel_rfl) (Eq.mpr (by kernel_rfl) h))

/-- slices.ContainsFunc[[]int,int] -/
def S_slices_ContainsFunc_int_int (x0 : Value) (x1 : Value) (H : Heap) (Q : Value → Heap → Prop) : Prop :=
  callV Tryd.prog (fnV fn_slices_IndexFunc_int_int) [x0, x1] H fun t7 H =>
  binV (.int .i64) .geq t7 (.int .i64 0) fun t8 =>
  Q t8 H
theorem S_slices_ContainsFunc_int_int_of {x0 : Value} {x1 : Value} {H : Heap} {Q : Value → Heap → Prop} (h : S_slices_ContainsFunc_int_int x0 x1 H Q) : callV Tryd.prog (fnV fn_slices_ContainsFunc_int_int) [x0, x1] H Q :=
  callV_fn (hcalls_of (pv := []) (ann := []) Tryd.func35 (by kernel_rfl) (Eq.mpr (by kernel_rfl) h))

/-- slices.IndexFunc[[]thimblerig/api.Oram,thimblerig/api.Oram] -/
def S_slices_IndexFunc_api_Oram_api_Oram (x0 : Value) (x1 : Value) (H : Heap) (Q : Value → Heap → Prop) : Prop :=
  lenSl x0 H fun t7 =>
  LoopPT (fun s9 H K9 =>
  binV (.int .i64) .lss (sv s9 0) t7 fun t9 =>
  asB t9 fun b9 =>
  ifB b9 (
  idxS 33 x0 (sv s9 0) fun t14 =>
  loadP true 33 t14 H fun t15 =>
  callV Tryd.prog x1 [t15] H fun t16 H =>
  asB t16 fun b16 =>
  ifB b16 (
  Q (sv s9 0) H) (
  binV (.int .i64) .add (sv s9 0) (.int .i64 1) fun t18 =>
  K9 [[t18]] H)) (
  Q (.int .i64 (-1)) H)) [[(.int .i64 0)]] H
theorem S_slices_IndexFunc_api_Oram_api_Oram_of {x0 : Value} {x1 : Value} {H : Heap} {Q : Value → Heap → Prop} (h : S_slices_IndexFunc_api_Oram_api_Oram x0 x1 H Q) : callV Tryd.prog (fnV fn_slices_IndexFunc_api_Oram_api_Oram) [x0, x1] H Q :=
  callV_fn (hcalls_of (pv := []) (ann := [(9, [16])]) Tryd.func38 (by kernel_rfl) (Eq.mpr (by kernel_rfl) h))

/-- slices.IndexFunc[[]int,int] -/
def S_slices_IndexFunc_int_int (x0 : Value) (x1 : Value) (H : Heap) (Q : Value → Heap → Prop) : Prop :=
  lenSl x0 H fun t7 =>
  LoopPT (fun s9 H K9 =>
  binV (.int .i64) .lss (sv s9 0) t7 fun t9 =>
  asB t9 fun b9 =>
  ifB b9 (
  idxS 1 x0 (sv s9 0) fun t14 =>
  loadP false 1 t14 H fun t15 =>
  callV Tryd.prog x1 [t15] H fun t16 H =>
  asB t16 fun b16 =>
  ifB b16 (
  Q (sv s9 0) H) (
  binV (.int .i64) .add (sv s9 0) (.int .i64 1) fun t18 =>
  K9 [[t18]] H)) (
  Q (.int .i64 (-1)) H)) [[(.int .i64 0)]] H
theorem S_slices_IndexFunc_int_int_of {x0 : Value} {x1 : Value} {H : Heap} {Q : Value → Heap → Prop} (h : S_slices_IndexFunc_int_int x0 x1 H Q) : callV Tryd.prog (fnV fn_slices_IndexFunc_int_int) [x0, x1] H Q :=
  callV_fn (hcalls_of (pv := []) (ann := [(9, [16])]) Tryd.func61 (by kernel_rfl) (Eq.mpr (by kernel_rfl) h))

/-- slices.Concat[[]byte,byte] -/
def S_slices_Concat_byte_byte (x0 : Value) (H : Heap) (Q : Value → Heap → Prop) : Prop :=
  lenSl x0 H fun t10 =>
  LoopPT (fun s12 H K12 =>
  binV (.int .i64) .lss (sv s12 1) t10 fun t12 =>
  asB t12 fun b12 =>
  ifB b12 (
  idxS 1 x0 (sv s12 1) fun t13 =>
  loadP false 1 t13 H fun t14 =>
  lenSl t14 H fun t17 =>
  binV (.int .i64) .add (sv s12 0) t17 fun t18 =>
  binV (.int .i64) .lss t18 (.int .i64 0) fun t20 =>
  asB t20 fun b20 =>
  JoinPT (fun K24 =>
  ifB b20 (
  False) (
  K24 [] H)) fun s24 H =>
  binV (.int .i64) .add (sv s12 1) (.int .i64 1) fun t22 =>
  K12 [[t18], [t22]] H) (
  callV Tryd.prog (fnV fn_slices_Grow_byte_byte) [(.slice none 0 0), (sv s12 0)] H fun t24 H =>
  lenSl x0 H fun t26 =>
  LoopPT (fun s36 H K36 =>
  binV (.int .i64) .lss (sv s36 1) t26 fun t28 =>
  asB t28 fun b28 =>
  ifB b28 (
  idxS 1 x0 (sv s36 1) fun t29 =>
  loadP false 1 t29 H fun t30 =>
  appS 5 1 1 (zeroL Tryd.prog 5) (sv s36 0) t30 H fun t33 H =>
  binV (.int .i64) .add (sv s36 1) (.int .i64 1) fun t34 =>
  K36 [[t33], [t34]] H) (
  Q (sv s36 0) H)) [[t24], [(.int .i64 0)]] H)) [[(.int .i64 0)], [(.int .i64 0)]] H
theorem S_slices_Concat_byte_byte_of {x0 : Value} {H : Heap} {Q : Value → Heap → Prop} (h : S_slices_Concat_byte_byte x0 H Q) : callV Tryd.prog (fnV fn_slices_Concat_byte_byte) [x0] H Q :=
  callV_fn (hcalls_of (pv := []) (ann := [(12, [6, 22]), (24, []), (36, [12, 54])]) Tryd.func66 (by kernel_rfl) (Eq.mpr (by kernel_rfl) h))

/-- slices.Clone[[]byte,byte] -/
def S_slices_Clone_byte_byte (x0 : Value) (H : Heap) (Q : Value → Heap → Prop) : Prop :=
  binV (.slice 5) .eql x0 (.slice none 0 0) fun t4 =>
  asB t4 fun b4 =>
  ifB b4 (
  Q (.slice none 0 0) H) (
  bldS 5 1 false (zeroL Tryd.prog 5) 0 [] H fun t5 H =>
  appS 5 1 1 (zeroL Tryd.prog 5) t5 x0 H fun t7 H =>
  Q t7 H)
theorem S_slices_Clone_byte_byte_of {x0 : Value} {H : Heap} {Q : Value → Heap → Prop} (h : S_slices_Clone_byte_byte x0 H Q) : callV Tryd.prog (fnV fn_slices_Clone_byte_byte) [x0] H Q :=
  callV_fn (hcalls_of (pv := []) (ann := []) Tryd.func68 (by kernel_rfl) (Eq.mpr (by kernel_rfl) h))

/-- thimblerig/thimblerigref01.Put -/
def S_ref01_Put (x0 : Value) (x1 : Value) (H : Heap) (Q : Value → Heap → Prop) : Prop :=
  JoinPT (fun K8 =>
  callV Tryd.prog (fnV fn_ref01_numbers) [x1] H fun t11 H =>
  unV .not t11 fun t12 =>
  asB t12 fun b13 =>
  ifB b13 (
  K8 [[(.bool true)]] H) (
  lenSl x0 H fun t15 =>
  lenSl x1 H fun t17 =>
  binV (.int .i64) .neq t15 t17 fun t18 =>
  K8 [[t18]] H)) fun s8 H =>
  asB (sv s8 0) fun b19 =>
  ifB b19 (
  Q (.tuple #[(.slice none 0 0), (.int .i64 2)]) H) (
  LoopPT (fun s18 H K18 =>
  lenSl x0 H fun t22 =>
  binV (.int .i64) .lss (sv s18 1) t22 fun t23 =>
  asB t23 fun b23 =>
  ifB b23 (
  idxS 1 x0 (sv s18 1) fun t29 =>
  loadP false 1 t29 H fun t30 =>
  idxS 1 x1 (sv s18 1) fun t33 =>
  loadP false 1 t33 H fun t34 =>
  callV Tryd.prog (fnV fn_ref01_Digits) [t30, t34] H fun t35 H =>
  extractV 0 t35 fun t36 =>
  extractV 1 t35 fun t37 =>
  unV .not t37 fun t39 =>
  asB t39 fun b39 =>
  ifB b39 (
  Q (.tuple #[(.slice none 0 0), (.int .i64 4)]) H) (
  appS 5 1 1 (zeroL Tryd.prog 5) (sv s18 0) t36 H fun t42 H =>
  binV (.int .i64) .add (sv s18 1) (.int .i64 1) fun t25 =>
  K18 [[t42], [t25]] H)) (
  Q (.tuple #[(sv s18 0), (.int .i64 0)]) H)) [[(.slice none 0 0)], [(.int .i64 0)]] H)
theorem S_ref01_Put_of {x0 : Value} {x1 : Value} {H : Heap} {Q : Value → Heap → Prop} (h : S_ref01_Put x0 x1 H Q) : callV Tryd.prog (fnV fn_ref01_Put) [x0, x1] H Q :=
  callV_fn (hcalls_of (pv := []) (ann := [(8, [38]), (18, [12, 14])]) Tryd.func73 (by kernel_rfl) (Eq.mpr (by kernel_rfl) h))

/-- thimblerig/thimblerigref01.Digits -/
def S_ref01_Digits (x0 : Value) (x1 : Value) (H : Heap) (Q : Value → Heap → Prop) : Prop :=
  LoopPT (fun s12 H K12 =>
  binV (.int .i64) .lss (sv s12 2) x1 fun t10 =>
  asB t10 fun b10 =>
  ifB b10 (
  binV (.int .u64) .rem (sv s12 0) (.int .u64 256) fun t15 =>
  cvI .u8 t15 fun t16 =>
  bldS 5 1 false (zeroL Tryd.prog 5) 1 [(0, t16)] H fun t17 H =>
  appS 5 1 1 (zeroL Tryd.prog 5) (sv s12 1) t17 H fun t18 H =>
  binV (.int .u64) .quo (sv s12 0) (.int .u64 256) fun t20 =>
  binV (.int .i64) .add (sv s12 2) (.int .i64 1) fun t12 =>
  K12 [[t20], [t18], [t12]] H) (
  binV (.int .u64) .eql (sv s12 0) (.int .u64 0) fun t23 =>
  Q (.tuple #[(sv s12 1), t23]) H)) [[x0], [(.slice none 0 0)], [(.int .i64 0)]] H
theorem S_ref01_Digits_of {x0 : Value} {x1 : Value} {H : Heap} {Q : Value → Heap → Prop} (h : S_ref01_Digits x0 x1 H Q) : callV Tryd.prog (fnV fn_ref01_Digits) [x0, x1] H Q :=
  callV_fn (hcalls_of (pv := []) (ann := [(12, [0, 12, 14])]) Tryd.func74 (by kernel_rfl) (Eq.mpr (by kernel_rfl) h))

/-- slices.Grow[[]byte,byte] -/
def S_slices_Grow_byte_byte (x0 : Value) (x1 : Value) (H : Heap) (Q : Value → Heap → Prop) : Prop :=
  binV (.int .i64) .lss x1 (.int .i64 0) fun t6 =>
  asB t6 fun b6 =>
  JoinPT (fun K9 =>
  ifB b6 (
  False) (
  K9 [] H)) fun s9 H =>
  capSl x0 fun t10 =>
  lenSl x0 H fun t12 =>
  binV (.int .i64) .sub t10 t12 fun t13 =>
  binV (.int .i64) .sub x1 t13 fun t14 =>
  binV (.int .i64) .gtr t14 (.int .i64 0) fun t16 =>
  asB t16 fun b16 =>
  JoinPT (fun K18 =>
  ifB b16 (
  capSl x0 fun t19 =>
  slS 1 x0 none (some t19) none fun t20 =>
  appZ 5 1 1 (zeroL Tryd.prog 5) t20 t14 H fun t22 H =>
  lenSl x0 H fun t24 =>
  slS 1 t22 none (some t24) none fun t25 =>
  K18 [[t25]] H) (
  K18 [[x0]] H)) fun s18 H =>
  Q (sv s18 0) H
theorem S_slices_Grow_byte_byte_of {x0 : Value} {x1 : Value} {H : Heap} {Q : Value → Heap → Prop} (h : S_slices_Grow_byte_byte x0 x1 H Q) : callV Tryd.prog (fnV fn_slices_Grow_byte_byte) [x0, x1] H Q :=
  callV_fn (hcalls_of (pv := []) (ann := [(9, []), (18, [0])]) Tryd.func82 (by kernel_rfl) (Eq.mpr (by kernel_rfl) h))

/-- thimblerig/thimblerigref01.numbers -/
def S_ref01_numbers (x0 : Value) (H : Heap) (Q : Value → Heap → Prop) : Prop :=
  LoopPT (fun s9 H K9 =>
  lenSl x0 H fun t6 =>
  binV (.int .i64) .lss (sv s9 0) t6 fun t7 =>
  asB t7 fun b7 =>
  ifB b7 (
  JoinPT (fun K17 =>
  idxS 1 x0 (sv s9 0) fun t12 =>
  loadP false 1 t12 H fun t13 =>
  binV (.int .i64) .lss t13 (.int .i64 1) fun t14 =>
  asB t14 fun b15 =>
  ifB b15 (
  K17 [[(.bool true)]] H) (
  idxS 1 x0 (sv s9 0) fun t18 =>
  loadP false 1 t18 H fun t19 =>
  binV (.int .i64) .gtr t19 (.int .i64 8) fun t20 =>
  K17 [[t20]] H)) fun s17 H =>
  asB (sv s17 0) fun b21 =>
  ifB b21 (
  Q (.bool false) H) (
  binV (.int .i64) .add (sv s9 0) (.int .i64 1) fun t9 =>
  K9 [[t9]] H)) (
  callV Tryd.prog (fnV fn_ref01_Total) [x0] H fun t23 H =>
  binV (.int .i64) .geq t23 (.int .i64 0) fun t24 =>
  Q t24 H)) [[(.int .i64 0)]] H
theorem S_ref01_numbers_of {x0 : Value} {H : Heap} {Q : Value → Heap → Prop} (h : S_ref01_numbers x0 H Q) : callV Tryd.prog (fnV fn_ref01_numbers) [x0] H Q :=
  callV_fn (hcalls_of (pv := []) (ann := [(9, [6]), (17, [42])]) Tryd.func86 (by kernel_rfl) (Eq.mpr (by kernel_rfl) h))

/-- thimblerig/thimblerigref01.Total -/
def S_ref01_Total (x0 : Value) (H : Heap) (Q : Value → Heap → Prop) : Prop :=
  lenSl x0 H fun t6 =>
  binV (.int .i64) .gtr t6 (.int .i64 64) fun t7 =>
  asB t7 fun b7 =>
  ifB b7 (
  Q (.int .i64 (-1)) H) (
  LoopPT (fun s18 H K18 =>
  lenSl x0 H fun t10 =>
  binV (.int .i64) .lss (sv s18 1) t10 fun t11 =>
  asB t11 fun b11 =>
  ifB b11 (
  JoinPT (fun K26 =>
  idxS 1 x0 (sv s18 1) fun t16 =>
  loadP false 1 t16 H fun t17 =>
  binV (.int .i64) .lss t17 (.int .i64 0) fun t18 =>
  asB t18 fun b19 =>
  ifB b19 (
  K26 [[(.bool true)]] H) (
  idxS 1 x0 (sv s18 1) fun t22 =>
  loadP false 1 t22 H fun t23 =>
  binV (.int .i64) .gtr t23 (.int .i64 65536) fun t24 =>
  K26 [[t24]] H)) fun s26 H =>
  asB (sv s26 0) fun b25 =>
  ifB b25 (
  Q (.int .i64 (-1)) H) (
  idxS 1 x0 (sv s18 1) fun t29 =>
  loadP false 1 t29 H fun t30 =>
  binV (.int .i64) .add (sv s18 0) t30 fun t31 =>
  binV (.int .i64) .add (sv s18 1) (.int .i64 1) fun t13 =>
  K18 [[t31], [t13]] H)) (
  binV (.int .i64) .gtr (sv s18 0) (.int .i64 65536) fun t33 =>
  asB t33 fun b33 =>
  ifB b33 (
  Q (.int .i64 (-1)) H) (
  Q (sv s18 0) H))) [[(.int .i64 0)], [(.int .i64 0)]] H)
theorem S_ref01_Total_of {x0 : Value} {H : Heap} {Q : Value → Heap → Prop} (h : S_ref01_Total x0 H Q) : callV Tryd.prog (fnV fn_ref01_Total) [x0] H Q :=
  callV_fn (hcalls_of (pv := []) (ann := [(18, [6, 8]), (26, [50])]) Tryd.func91 (by kernel_rfl) (Eq.mpr (by kernel_rfl) h))

end Go.Proofs.YtlmpjhbfgakgdaaDoor
