/- Written by sh.py: what functions do, out of the deep reading; each is joined to the program by the kernel. -/
import Derived.Test.YtlmpjhbfgakgdaaDoorShNames
namespace Go.Proofs.YtlmpjhbfgakgdaaDoor
open Go.Ab
set_option linter.unusedVariables false
set_option linter.unusedSimpArgs false
set_option maxRecDepth 100000

/-- thimblerig/slot.Write -/
def S_slot_Write (x0_0 : Value) (x0_1 : Value) (x0_2 : Value) (x0_3 : Value) (x1_0 : Value) (x1_1 : Value) (x1_2 : Value) (H : Heap) (Q : Value → Heap → Prop) : Prop :=
  newT H fun H =>
  newT H fun H =>
  callV Tryd.prog (fnV fn_slot_Check) [(.agg #[x0_0, x0_1, x0_2, x0_3]), (.agg #[x1_0, x1_1, x1_2])] H fun t12 H =>
  binV (.int .i64) .neq t12 (.int .i64 0) fun t14 =>
  asB t14 fun b14 =>
  ifB b14 (
  Q (.tuple #[(.slice none 0 0), t12]) H) (
  newC 88 [(.int .i64 0), (.int .i64 0)] H fun a7 H =>
  storeP true 2 (.pointer (some ⟨a7, 0, none⟩)) (.agg #[(.int .i64 4), (.int .i64 4)]) H fun H =>
  cvI .u64 x1_0 fun t20 =>
  binV (.int .u64) .add t20 (.int .u64 1) fun t21 =>
  cvI .u64 x1_1 fun t24 =>
  slA 2 1 (.pointer (some ⟨a7, 0, none⟩)) none none none fun t26 =>
  bldS 28 1 false (zeroL Tryd.prog 28) 2 [(0, t21), (1, t24)] H fun t25 H =>
  callV Tryd.prog (fnV fn_num_Put) [t25, t26] H fun t27 H =>
  extractV 0 t27 fun t28 =>
  extractV 1 t27 fun t29 =>
  appS 5 1 1 (zeroL Tryd.prog 5) t28 x1_2 H fun t33 H =>
  Q (.tuple #[t33, t29]) H)
theorem S_slot_Write_of {x0_0 : Value} {x0_1 : Value} {x0_2 : Value} {x0_3 : Value} {x1_0 : Value} {x1_1 : Value} {x1_2 : Value} {H : Heap} {Q : Value → Heap → Prop} (h : S_slot_Write x0_0 x0_1 x0_2 x0_3 x1_0 x1_1 x1_2 H Q) : callV Tryd.prog (fnV fn_slot_Write) [(.agg #[x0_0, x0_1, x0_2, x0_3]), (.agg #[x1_0, x1_1, x1_2])] H Q :=
  callV_fn (hcalls_of (pv := [2, 3]) (ann := []) Tryd.func20 (by kernel_rfl) (Eq.mpr (by kernel_rfl) h))

/-- thimblerig/slot.None -/
def S_slot_None (x0_0 : Value) (x0_1 : Value) (x0_2 : Value) (x0_3 : Value) (H : Heap) (Q : Value → Heap → Prop) : Prop :=
  newT H fun H =>
  callV Tryd.prog (fnV fn_slot_Slots) [(.agg #[x0_0, x0_1, x0_2, x0_3])] H fun t8 H =>
  extractV 0 t8 fun t9 =>
  extractV 1 t8 fun t10 =>
  binV (.int .i64) .neq t10 (.int .i64 0) fun t12 =>
  asB t12 fun b12 =>
  ifB b12 (
  Q (.tuple #[(.slice none 0 0), t10]) H) (
  binV (.int .i64) .add (.int .i64 8) x0_1 fun t16 =>
  mkS 5 1 1 (zeroL Tryd.prog 5) t16 t16 H fun t17 H =>
  Q (.tuple #[t17, (.int .i64 0)]) H)
theorem S_slot_None_of {x0_0 : Value} {x0_1 : Value} {x0_2 : Value} {x0_3 : Value} {H : Heap} {Q : Value → Heap → Prop} (h : S_slot_None x0_0 x0_1 x0_2 x0_3 H Q) : callV Tryd.prog (fnV fn_slot_None) [(.agg #[x0_0, x0_1, x0_2, x0_3])] H Q :=
  callV_fn (hcalls_of (pv := [1]) (ann := []) Tryd.func21 (by kernel_rfl) (Eq.mpr (by kernel_rfl) h))

/-- thimblerig/entry.Write -/
def S_entry_Write (x0 : Value) (x1 : Value) (H : Heap) (Q : Value → Heap → Prop) : Prop :=
  callV Tryd.prog (fnV fn_entry_Check) [x0, x1] H fun t9 H =>
  binV (.int .i64) .neq t9 (.int .i64 0) fun t11 =>
  asB t11 fun b11 =>
  ifB b11 (
  Q (.tuple #[(.slice none 0 0), t9]) H) (
  cvI .u64 x1 fun t14 =>
  bldS 28 1 false (zeroL Tryd.prog 28) 1 [(0, t14)] H fun t15 H =>
  bldS 3 1 false (zeroL Tryd.prog 3) 1 [(0, (.int .i64 4))] H fun t16 H =>
  callV Tryd.prog (fnV fn_num_Put) [t15, t16] H fun t17 H =>
  extractV 0 t17 fun t18 =>
  extractV 1 t17 fun t19 =>
  Q (.tuple #[t18, t19]) H)
theorem S_entry_Write_of {x0 : Value} {x1 : Value} {H : Heap} {Q : Value → Heap → Prop} (h : S_entry_Write x0 x1 H Q) : callV Tryd.prog (fnV fn_entry_Write) [x0, x1] H Q :=
  callV_fn (hcalls_of (pv := []) (ann := []) Tryd.func23 (by kernel_rfl) (Eq.mpr (by kernel_rfl) h))

/-- thimblerig/thimblerigref09.TwinAll -/
def S_ref09_TwinAll (x0 : Value) (H : Heap) (Q : Value → Heap → Prop) : Prop :=
  LoopPT (fun s12 H K12 =>
  lenSl x0 H fun t7 =>
  binV (.int .i64) .lss (sv s12 1) t7 fun t8 =>
  asB t8 fun b8 =>
  ifB b8 (
  idxS 3 x0 (sv s12 1) fun t14 =>
  loadP true 3 t14 H fun t15 =>
  callV Tryd.prog (fnV fn_ref09_Twin) [t15] H fun t16 H =>
  bldS 54 3 true (zeroL Tryd.prog 54) 1 [(0, t16)] H fun t17 H =>
  appS 54 3 40 (zeroL Tryd.prog 54) (sv s12 0) t17 H fun t18 H =>
  binV (.int .i64) .add (sv s12 1) (.int .i64 1) fun t10 =>
  K12 [[t18], [t10]] H) (
  Q (sv s12 0) H)) [[(.slice none 0 0)], [(.int .i64 0)]] H
theorem S_ref09_TwinAll_of {x0 : Value} {H : Heap} {Q : Value → Heap → Prop} (h : S_ref09_TwinAll x0 H Q) : callV Tryd.prog (fnV fn_ref09_TwinAll) [x0] H Q :=
  callV_fn (hcalls_of (pv := []) (ann := [(12, [6, 8])]) Tryd.func29 (by kernel_rfl) (Eq.mpr (by kernel_rfl) h))

/-- thimblerig/entry.Check -/
def S_entry_Check (x0 : Value) (x1 : Value) (H : Heap) (Q : Value → Heap → Prop) : Prop :=
  callV Tryd.prog (fnV fn_geo_Leaves) [x0] H fun t9 H =>
  extractV 0 t9 fun t10 =>
  extractV 1 t9 fun t11 =>
  binV (.int .i64) .neq t11 (.int .i64 0) fun t14 =>
  asB t14 fun b12 =>
  ifB b12 (
  Q t11 H) (
  JoinPT (fun K17 =>
  binV (.int .i64) .lss x1 (.int .i64 0) fun t18 =>
  asB t18 fun b19 =>
  ifB b19 (
  K17 [[(.bool true)]] H) (
  binV (.int .i64) .add (.int .i64 1) t10 fun t22 =>
  binV (.int .i64) .geq x1 t22 fun t23 =>
  K17 [[t23]] H)) fun s17 H =>
  asB (sv s17 0) fun b16 =>
  ifB b16 (
  Q (.int .i64 8) H) (
  Q (.int .i64 0) H))
theorem S_entry_Check_of {x0 : Value} {x1 : Value} {H : Heap} {Q : Value → Heap → Prop} (h : S_entry_Check x0 x1 H Q) : callV Tryd.prog (fnV fn_entry_Check) [x0, x1] H Q :=
  callV_fn (hcalls_of (pv := []) (ann := [(17, [32])]) Tryd.func37 (by kernel_rfl) (Eq.mpr (by kernel_rfl) h))

/-- thimblerig/slot.Check -/
def S_slot_Check (x0_0 : Value) (x0_1 : Value) (x0_2 : Value) (x0_3 : Value) (x1_0 : Value) (x1_1 : Value) (x1_2 : Value) (H : Heap) (Q : Value → Heap → Prop) : Prop :=
  newT H fun H =>
  newT H fun H =>
  callV Tryd.prog (fnV fn_slot_Slots) [(.agg #[x0_0, x0_1, x0_2, x0_3])] H fun t11 H =>
  extractV 0 t11 fun t12 =>
  extractV 1 t11 fun t13 =>
  binV (.int .i64) .neq t13 (.int .i64 0) fun t15 =>
  asB t15 fun b15 =>
  ifB b15 (
  Q t13 H) (
  callV Tryd.prog (fnV fn_geo_Leaves) [x0_2] H fun t20 H =>
  extractV 0 t20 fun t21 =>
  extractV 1 t20 fun t22 =>
  JoinPT (fun K20 =>
  binV (.int .i64) .lss x1_0 (.int .i64 0) fun t25 =>
  asB t25 fun b26 =>
  ifB b26 (
  K20 [[(.bool true)]] H) (
  binV (.int .i64) .geq x1_0 x0_0 fun t31 =>
  asB t31 fun b33 =>
  ifB b33 (
  K20 [[(.bool true)]] H) (
  binV (.int .i64) .lss x1_1 (.int .i64 0) fun t36 =>
  asB t36 fun b38 =>
  ifB b38 (
  K20 [[(.bool true)]] H) (
  binV (.int .i64) .geq x1_1 t21 fun t42 =>
  asB t42 fun b44 =>
  ifB b44 (
  K20 [[(.bool true)]] H) (
  lenSl x1_2 H fun t47 =>
  binV (.int .i64) .neq t47 x0_1 fun t50 =>
  K20 [[t50]] H))))) fun s20 H =>
  asB (sv s20 0) fun b51 =>
  ifB b51 (
  Q (.int .i64 8) H) (
  Q (.int .i64 0) H))
theorem S_slot_Check_of {x0_0 : Value} {x0_1 : Value} {x0_2 : Value} {x0_3 : Value} {x1_0 : Value} {x1_1 : Value} {x1_2 : Value} {H : Heap} {Q : Value → Heap → Prop} (h : S_slot_Check x0_0 x0_1 x0_2 x0_3 x1_0 x1_1 x1_2 H Q) : callV Tryd.prog (fnV fn_slot_Check) [(.agg #[x0_0, x0_1, x0_2, x0_3]), (.agg #[x1_0, x1_1, x1_2])] H Q :=
  callV_fn (hcalls_of (pv := [2, 3]) (ann := [(20, [102])]) Tryd.func39 (by kernel_rfl) (Eq.mpr (by kernel_rfl) h))

/-- thimblerig/num.Put -/
def S_num_Put (x0 : Value) (x1 : Value) (H : Heap) (Q : Value → Heap → Prop) : Prop :=
  callV Tryd.prog (fnV fn_num_numbers) [x1] H fun t13 H =>
  extractV 0 t13 fun t14 =>
  extractV 1 t13 fun t15 =>
  JoinPT (fun K11 =>
  binV (.int .i64) .neq t15 (.int .i64 0) fun t17 =>
  asB t17 fun b18 =>
  ifB b18 (
  K11 [[(.bool true)]] H) (
  lenSl x0 H fun t20 =>
  lenSl x1 H fun t22 =>
  binV (.int .i64) .neq t20 t22 fun t23 =>
  K11 [[t23]] H)) fun s11 H =>
  asB (sv s11 0) fun b24 =>
  ifB b24 (
  Q (.tuple #[(.slice none 0 0), (.int .i64 2)]) H) (
  mkS 5 1 1 (zeroL Tryd.prog 5) (.int .i64 0) t14 H fun t26 H =>
  lenSl x0 H fun t28 =>
  LoopPT (fun s21 H K21 =>
  binV (.int .i64) .lss (sv s21 1) t28 fun t30 =>
  asB t30 fun b30 =>
  ifB b30 (
  idxS 1 x0 (sv s21 1) fun t32 =>
  loadP false 1 t32 H fun t33 =>
  idxS 1 x1 (sv s21 1) fun t36 =>
  loadP false 1 t36 H fun t37 =>
  LoopPT (fun s30 H K30 =>
  binV (.int .i64) .lss (sv s30 2) t37 fun t39 =>
  asB t39 fun b39 =>
  ifB b39 (
  cvI .u8 (sv s30 1) fun t42 =>
  bldS 5 1 false (zeroL Tryd.prog 5) 1 [(0, t42)] H fun t43 H =>
  appS 5 1 1 (zeroL Tryd.prog 5) (sv s30 0) t43 H fun t44 H =>
  binV (.int .u64) .shr (sv s30 1) (.int .u64 8) fun t46 =>
  binV (.int .i64) .add (sv s30 2) (.int .i64 1) fun t47 =>
  K30 [[t44], [t46], [t47]] H) (
  binV (.int .u64) .gtr (sv s30 1) (.int .u64 0) fun t49 =>
  asB t49 fun b49 =>
  ifB b49 (
  Q (.tuple #[(.slice none 0 0), (.int .i64 4)]) H) (
  binV (.int .i64) .add (sv s21 1) (.int .i64 1) fun t50 =>
  K21 [[(sv s30 0)], [t50]] H))) [[(sv s21 0)], [t33], [(.int .i64 0)]] H) (
  Q (.tuple #[(sv s21 0), (.int .i64 0)]) H)) [[t26], [(.int .i64 0)]] H)
theorem S_num_Put_of {x0 : Value} {x1 : Value} {H : Heap} {Q : Value → Heap → Prop} (h : S_num_Put x0 x1 H Q) : callV Tryd.prog (fnV fn_num_Put) [x0, x1] H Q :=
  callV_fn (hcalls_of (pv := []) (ann := [(11, [48]), (21, [16, 58]), (30, [16, 20, 76])]) Tryd.func40 (by kernel_rfl) (Eq.mpr (by kernel_rfl) h))

/-- thimblerig/slot.Slots -/
def S_slot_Slots (x0_0 : Value) (x0_1 : Value) (x0_2 : Value) (x0_3 : Value) (H : Heap) (Q : Value → Heap → Prop) : Prop :=
  newT H fun H =>
  callV Tryd.prog (fnV fn_geo_Leaves) [x0_2] H fun t11 H =>
  extractV 0 t11 fun t12 =>
  extractV 1 t11 fun t13 =>
  JoinPT (fun K11 =>
  binV (.int .i64) .neq t13 (.int .i64 0) fun t15 =>
  asB t15 fun b16 =>
  ifB b16 (
  K11 [[(.bool true)]] H) (
  binV (.int .i64) .lss x0_0 (.int .i64 1) fun t19 =>
  asB t19 fun b21 =>
  ifB b21 (
  K11 [[(.bool true)]] H) (
  minV (.int .i64 64) t12 fun t25 =>
  binV (.int .i64) .gtr x0_0 t25 fun t26 =>
  asB t26 fun b28 =>
  ifB b28 (
  K11 [[(.bool true)]] H) (
  binV (.int .i64) .lss x0_1 (.int .i64 1) fun t31 =>
  asB t31 fun b33 =>
  ifB b33 (
  K11 [[(.bool true)]] H) (
  binV (.int .i64) .gtr x0_1 (.int .i64 32) fun t36 =>
  K11 [[t36]] H))))) fun s11 H =>
  asB (sv s11 0) fun b37 =>
  ifB b37 (
  Q (.tuple #[(.int .i64 0), (.int .i64 8)]) H) (
  binV (.int .i64) .add (.int .i64 8) x0_1 fun t40 =>
  binV (.int .i64) .sub x0_3 (.int .i64 64) fun t43 =>
  JoinPT (fun K20 =>
  binV (.int .i64) .lss t43 t40 fun t46 =>
  asB t46 fun b47 =>
  ifB b47 (
  K20 [[(.bool true)]] H) (
  binV (.int .i64) .mul (.int .i64 4) t40 fun t50 =>
  binV (.int .i64) .gtr t43 t50 fun t51 =>
  asB t51 fun b53 =>
  ifB b53 (
  K20 [[(.bool true)]] H) (
  binV (.int .i64) .rem t43 t40 fun t56 =>
  binV (.int .i64) .gtr t56 (.int .i64 0) fun t57 =>
  K20 [[t57]] H))) fun s20 H =>
  asB (sv s20 0) fun b58 =>
  ifB b58 (
  Q (.tuple #[(.int .i64 0), (.int .i64 8)]) H) (
  binV (.int .i64) .quo t43 t40 fun t61 =>
  Q (.tuple #[t61, (.int .i64 0)]) H))
theorem S_slot_Slots_of {x0_0 : Value} {x0_1 : Value} {x0_2 : Value} {x0_3 : Value} {H : Heap} {Q : Value → Heap → Prop} (h : S_slot_Slots x0_0 x0_1 x0_2 x0_3 H Q) : callV Tryd.prog (fnV fn_slot_Slots) [(.agg #[x0_0, x0_1, x0_2, x0_3])] H Q :=
  callV_fn (hcalls_of (pv := [1]) (ann := [(11, [74]), (20, [116])]) Tryd.func41 (by kernel_rfl) (Eq.mpr (by kernel_rfl) h))

/-- thimblerig/thimblerigref19.May -/
def S_ref19_May (x0 : Value) (x1 : Value) (H : Heap) (Q : Value → Heap → Prop) : Prop :=
  JoinPT (fun K8 =>
  binV (.int .i64) .geq x1 (.int .i64 0) fun t6 =>
  asB t6 fun b7 =>
  ifB b7 (
  callV Tryd.prog (fnV fn_ref07_Many) [x0] H fun t10 H =>
  binV (.int .i64) .leq x1 t10 fun t11 =>
  K8 [[t11]] H) (
  K8 [[(.bool false)]] H)) fun s8 H =>
  Q (sv s8 0) H
theorem S_ref19_May_of {x0 : Value} {x1 : Value} {H : Heap} {Q : Value → Heap → Prop} (h : S_ref19_May x0 x1 H Q) : callV Tryd.prog (fnV fn_ref19_May) [x0, x1] H Q :=
  callV_fn (hcalls_of (pv := []) (ann := [(8, [8])]) Tryd.func48 (by kernel_rfl) (Eq.mpr (by kernel_rfl) h))

/-- thimblerig/thimblerigref09.Of -/
def S_ref09_Of (x0_0 : Value) (x0_1 : Value) (x0_2 : Value) (H : Heap) (Q : Value → Heap → Prop) : Prop :=
  newT H fun H =>
  binV (.int .i64) .add x0_0 (.int .i64 1) fun t8 =>
  cvI .u64 t8 fun t9 =>
  cvI .u64 x0_1 fun t12 =>
  bldS 28 1 false (zeroL Tryd.prog 28) 2 [(0, t9), (1, t12)] H fun t13 H =>
  bldS 3 1 false (zeroL Tryd.prog 3) 2 [(0, (.int .i64 4)), (1, (.int .i64 4))] H fun t14 H =>
  callV Tryd.prog (fnV fn_ref01_Put) [t13, t14] H fun t15 H =>
  extractV 0 t15 fun t16 =>
  extractV 1 t15 fun t17 =>
  appS 5 1 1 (zeroL Tryd.prog 5) t16 x0_2 H fun t21 H =>
  Q t21 H
theorem S_ref09_Of_of {x0_0 : Value} {x0_1 : Value} {x0_2 : Value} {H : Heap} {Q : Value → Heap → Prop} (h : S_ref09_Of x0_0 x0_1 x0_2 H Q) : callV Tryd.prog (fnV fn_ref09_Of) [(.agg #[x0_0, x0_1, x0_2])] H Q :=
  callV_fn (hcalls_of (pv := [1]) (ann := []) Tryd.func49 (by kernel_rfl) (Eq.mpr (by kernel_rfl) h))

/-- thimblerig/thimblerigref19.Bytes -/
def S_ref19_Bytes (x0 : Value) (H : Heap) (Q : Value → Heap → Prop) : Prop :=
  cvI .u64 x0 fun t7 =>
  callV Tryd.prog (fnV fn_ref01_Digits) [t7, (.int .i64 4)] H fun t8 H =>
  extractV 0 t8 fun t9 =>
  extractV 1 t8 fun t10 =>
  Q t9 H
theorem S_ref19_Bytes_of {x0 : Value} {H : Heap} {Q : Value → Heap → Prop} (h : S_ref19_Bytes x0 H Q) : callV Tryd.prog (fnV fn_ref19_Bytes) [x0] H Q :=
  callV_fn (hcalls_of (pv := []) (ann := []) Tryd.func50 (by kernel_rfl) (Eq.mpr (by kernel_rfl) h))

/-- thimblerig/thimblerigref09.SameAll -/
def S_ref09_SameAll (x0 : Value) (x1 : Value) (H : Heap) (Q : Value → Heap → Prop) : Prop :=
  lenSl x0 H fun t7 =>
  lenSl x1 H fun t9 =>
  binV (.int .i64) .neq t7 t9 fun t10 =>
  asB t10 fun b10 =>
  ifB b10 (
  Q (.bool false) H) (
  LoopPT (fun s15 H K15 =>
  lenSl x0 H fun t13 =>
  binV (.int .i64) .lss (sv s15 0) t13 fun t14 =>
  asB t14 fun b14 =>
  ifB b14 (
  idxS 3 x0 (sv s15 0) fun t19 =>
  loadP true 3 t19 H fun t20 =>
  idxS 3 x1 (sv s15 0) fun t23 =>
  loadP true 3 t23 H fun t24 =>
  callV Tryd.prog (fnV fn_ref09_Same) [t20, t24] H fun t25 H =>
  unV .not t25 fun t26 =>
  asB t26 fun b26 =>
  ifB b26 (
  Q (.bool false) H) (
  binV (.int .i64) .add (sv s15 0) (.int .i64 1) fun t16 =>
  K15 [[t16]] H)) (
  Q (.bool true) H)) [[(.int .i64 0)]] H)
theorem S_ref09_SameAll_of {x0 : Value} {x1 : Value} {H : Heap} {Q : Value → Heap → Prop} (h : S_ref09_SameAll x0 x1 H Q) : callV Tryd.prog (fnV fn_ref09_SameAll) [x0, x1] H Q :=
  callV_fn (hcalls_of (pv := []) (ann := [(15, [10])]) Tryd.func52 (by kernel_rfl) (Eq.mpr (by kernel_rfl) h))

/-- thimblerig/thimblerigref09.Twin -/
def S_ref09_Twin (x0_0 : Value) (x0_1 : Value) (x0_2 : Value) (H : Heap) (Q : Value → Heap → Prop) : Prop :=
  newT H fun H =>
  newT H fun H =>
  bldS 5 1 false (zeroL Tryd.prog 5) 0 [] H fun t3 H =>
  appS 5 1 1 (zeroL Tryd.prog 5) t3 x0_2 H fun t6 H =>
  ifB (okc t6) (
  ifB ([x0_0, x0_1, t6].all okc) (
  Q (.agg #[x0_0, x0_1, t6]) H) False) False
theorem S_ref09_Twin_of {x0_0 : Value} {x0_1 : Value} {x0_2 : Value} {H : Heap} {Q : Value → Heap → Prop} (h : S_ref09_Twin x0_0 x0_1 x0_2 H Q) : callV Tryd.prog (fnV fn_ref09_Twin) [(.agg #[x0_0, x0_1, x0_2])] H Q :=
  callV_fn (hcalls_of (pv := [1, 2]) (ann := []) Tryd.func53 (by kernel_rfl) (Eq.mpr (by kernel_rfl) h))

/-- thimblerig/stash.Check -/
def S_stash_Check (x0_0 : Value) (x0_1 : Value) (x0_2 : Value) (x0_3 : Value) (x1 : Value) (H : Heap) (Q : Value → Heap → Prop) : Prop :=
  newT H fun H =>
  callV Tryd.prog (fnV fn_slot_Slots) [(.agg #[x0_0, x0_1, x0_2, x0_3])] H fun t12 H =>
  extractV 0 t12 fun t13 =>
  extractV 1 t12 fun t14 =>
  binV (.int .i64) .neq t14 (.int .i64 0) fun t16 =>
  asB t16 fun b16 =>
  ifB b16 (
  Q t14 H) (
  lenSl x1 H fun t19 =>
  LoopPT (fun s21 H K21 =>
  binV (.int .i64) .lss (sv s21 1) t19 fun t21 =>
  asB t21 fun b21 =>
  ifB b21 (
  idxS 3 x1 (sv s21 1) fun t22 =>
  loadP true 3 t22 H fun t23 =>
  newT H fun H =>
  cellsV true 3 t23 fun c1 =>
  JoinPT (fun K29 =>
  ifB (decide (0 + 1 ≤ ((setSeg [(.int .i64 0), (.int .i64 0), (.slice none 0 0)] 0 c1)).length)) (
  binV (.int .i64) .leq (mkV false (seg (setSeg [(.int .i64 0), (.int .i64 0), (.slice none 0 0)] 0 c1) 0 1)) (sv s21 0) fun t27 =>
  asB t27 fun b28 =>
  ifB b28 (
  K29 [[(.bool true)]] H) (
  ifB (decide (0 + 3 ≤ ((setSeg [(.int .i64 0), (.int .i64 0), (.slice none 0 0)] 0 c1)).length)) (
  callV Tryd.prog (fnV fn_slot_Check) [(.agg #[x0_0, x0_1, x0_2, x0_3]), (.agg (seg (setSeg [(.int .i64 0), (.int .i64 0), (.slice none 0 0)] 0 c1) 0 3).toArray)] H fun t31 H =>
  binV (.int .i64) .neq t31 (.int .i64 0) fun t32 =>
  K29 [[t32]] H) False)) False) fun s29 H =>
  asB (sv s29 0) fun b33 =>
  ifB b33 (
  Q (.int .i64 8) H) (
  ifB (decide (0 + 1 ≤ ((setSeg [(.int .i64 0), (.int .i64 0), (.slice none 0 0)] 0 c1)).length)) (
  binV (.int .i64) .add (sv s21 1) (.int .i64 1) fun t36 =>
  K21 [[(mkV false (seg (setSeg [(.int .i64 0), (.int .i64 0), (.slice none 0 0)] 0 c1) 0 1))], [t36]] H) False)) (
  Q (.int .i64 0) H)) [[(.int .i64 (-1))], [(.int .i64 0)]] H)
theorem S_stash_Check_of {x0_0 : Value} {x0_1 : Value} {x0_2 : Value} {x0_3 : Value} {x1 : Value} {H : Heap} {Q : Value → Heap → Prop} (h : S_stash_Check x0_0 x0_1 x0_2 x0_3 x1 H Q) : callV Tryd.prog (fnV fn_stash_Check) [(.agg #[x0_0, x0_1, x0_2, x0_3]), x1] H Q :=
  callV_fn (hcalls_of (pv := [2, 9]) (ann := [(21, [14, 40]), (29, [66])]) Tryd.func60 (by kernel_rfl) (Eq.mpr (by kernel_rfl) h))

/-- thimblerig/num.numbers -/
def S_num_numbers (x0 : Value) (H : Heap) (Q : Value → Heap → Prop) : Prop :=
  callV Tryd.prog (fnV fn_slices_ContainsFunc_int_int) [x0, (fnV fn_num_numbers_1)] H fun t5 H =>
  asB t5 fun b5 =>
  ifB b5 (
  Q (.tuple #[(.int .i64 0), (.int .i64 2)]) H) (
  callV Tryd.prog (fnV fn_num_Size) [x0] H fun t7 H =>
  extractV 0 t7 fun t8 =>
  extractV 1 t7 fun t9 =>
  Q (.tuple #[t8, t9]) H)
theorem S_num_numbers_of {x0 : Value} {H : Heap} {Q : Value → Heap → Prop} (h : S_num_numbers x0 H Q) : callV Tryd.prog (fnV fn_num_numbers) [x0] H Q :=
  callV_fn (hcalls_of (pv := []) (ann := []) Tryd.func63 (by kernel_rfl) (Eq.mpr (by kernel_rfl) h))

/-- thimblerig/thimblerigref16.May -/
def S_ref16_May (x0_0 : Value) (x0_1 : Value) (x0_2 : Value) (x0_3 : Value) (x1 : Value) (H : Heap) (Q : Value → Heap → Prop) : Prop :=
  newT H fun H =>
  LoopPT (fun s9 H K9 =>
  lenSl x1 H fun t8 =>
  binV (.int .i64) .lss (sv s9 0) t8 fun t9 =>
  asB t9 fun b9 =>
  ifB b9 (
  JoinPT (fun K17 =>
  idxS 3 x1 (sv s9 0) fun t15 =>
  loadP true 3 t15 H fun t16 =>
  callV Tryd.prog (fnV fn_ref09_May) [(.agg #[x0_0, x0_1, x0_2, x0_3]), t16] H fun t17 H =>
  unV .not t17 fun t18 =>
  asB t18 fun b19 =>
  ifB b19 (
  undef = undef ∧ (
  undef = undef ∧ (
  undef = undef ∧ (
  undef = undef ∧ (
  undef = undef ∧ (
  undef = undef ∧ (
  undef = undef ∧ (
  undef = undef ∧ (
  undef = undef ∧ (
  undef = undef ∧ (
  undef = undef ∧ (
  undef = undef ∧ (
  K17 [[(.bool true)]] H))))))))))))) (
  binV (.int .i64) .gtr (sv s9 0) (.int .i64 0) fun t21 =>
  asB t21 fun b22 =>
  ifB b22 (
  idxS 3 x1 (sv s9 0) fun t25 =>
  fldP 0 t25 fun t26 =>
  loadP false 1 t26 H fun t27 =>
  binV (.int .i64) .sub (sv s9 0) (.int .i64 1) fun t30 =>
  idxS 3 x1 t30 fun t31 =>
  fldP 0 t31 fun t32 =>
  loadP false 1 t32 H fun t33 =>
  binV (.int .i64) .leq t27 t33 fun t34 =>
  K17 [[t34]] H) (
  K17 [[(.bool false)]] H))) fun s17 H =>
  asB (sv s17 0) fun b36 =>
  ifB b36 (
  Q (.bool false) H) (
  binV (.int .i64) .add (sv s9 0) (.int .i64 1) fun t11 =>
  K9 [[t11]] H)) (
  Q (.bool true) H)) [[(.int .i64 0)]] H
theorem S_ref16_May_of {x0_0 : Value} {x0_1 : Value} {x0_2 : Value} {x0_3 : Value} {x1 : Value} {H : Heap} {Q : Value → Heap → Prop} (h : S_ref16_May x0_0 x0_1 x0_2 x0_3 x1 H Q) : callV Tryd.prog (fnV fn_ref16_May) [(.agg #[x0_0, x0_1, x0_2, x0_3]), x1] H Q :=
  callV_fn (hcalls_of (pv := [2]) (ann := [(9, [10]), (17, [72])]) Tryd.func71 (by kernel_rfl) (Eq.mpr (by kernel_rfl) h))

/-- thimblerig/thimblerigref09.Same -/
def S_ref09_Same (x0_0 : Value) (x0_1 : Value) (x0_2 : Value) (x1_0 : Value) (x1_1 : Value) (x1_2 : Value) (H : Heap) (Q : Value → Heap → Prop) : Prop :=
  newT H fun H =>
  newT H fun H =>
  JoinPT (fun K8 =>
  binV (.int .i64) .eql x0_0 x1_0 fun t9 =>
  asB t9 fun b10 =>
  ifB b10 (
  binV (.int .i64) .eql x0_1 x1_1 fun t15 =>
  asB t15 fun b17 =>
  ifB b17 (
  callV Tryd.prog (fnV fn_ref01_Same) [x0_2, x1_2] H fun t22 H =>
  K8 [[t22]] H) (
  K8 [[(.bool false)]] H)) (
  K8 [[(.bool false)]] H)) fun s8 H =>
  Q (sv s8 0) H
theorem S_ref09_Same_of {x0_0 : Value} {x0_1 : Value} {x0_2 : Value} {x1_0 : Value} {x1_1 : Value} {x1_2 : Value} {H : Heap} {Q : Value → Heap → Prop} (h : S_ref09_Same x0_0 x0_1 x0_2 x1_0 x1_1 x1_2 H Q) : callV Tryd.prog (fnV fn_ref09_Same) [(.agg #[x0_0, x0_1, x0_2]), (.agg #[x1_0, x1_1, x1_2])] H Q :=
  callV_fn (hcalls_of (pv := [2, 3]) (ann := [(8, [8])]) Tryd.func78 (by kernel_rfl) (Eq.mpr (by kernel_rfl) h))

/-- thimblerig/num.numbers$1 -/
def S_num_numbers_1 (x0 : Value) (H : Heap) (Q : Value → Heap → Prop) : Prop :=
  JoinPT (fun K8 =>
  binV (.int .i64) .lss x0 (.int .i64 1) fun t4 =>
  asB t4 fun b5 =>
  ifB b5 (
  K8 [[(.bool true)]] H) (
  binV (.int .i64) .gtr x0 (.int .i64 8) fun t7 =>
  K8 [[t7]] H)) fun s8 H =>
  Q (sv s8 0) H
theorem S_num_numbers_1_of {x0 : Value} {H : Heap} {Q : Value → Heap → Prop} (h : S_num_numbers_1 x0 H Q) : callV Tryd.prog (fnV fn_num_numbers_1) [x0] H Q :=
  callV_fn (hcalls_of (pv := []) (ann := [(8, [4])]) Tryd.func80 (by kernel_rfl) (Eq.mpr (by kernel_rfl) h))

/-- thimblerig/num.Size -/
def S_num_Size (x0 : Value) (H : Heap) (Q : Value → Heap → Prop) : Prop :=
  newC 3 [(.int .i64 0)] H fun a4 H =>
  storeP false 1 (.pointer (some ⟨a4, 0, none⟩)) (.int .i64 0) H fun H =>
  lenSl x0 H fun t10 =>
  binV (.int .i64) .gtr t10 (.int .i64 64) fun t11 =>
  asB t11 fun b11 =>
  ifB b11 (
  Q (.tuple #[(.int .i64 0), (.int .i64 2)]) H) (
  lenSl x0 H fun t13 =>
  LoopPT (fun s21 H K21 =>
  binV (.int .i64) .lss (sv s21 0) t13 fun t15 =>
  asB t15 fun b15 =>
  ifB b15 (
  idxS 1 x0 (sv s21 0) fun t16 =>
  loadP false 1 t16 H fun t17 =>
  callV Tryd.prog (.func (.func fn_num_Size_1) #[] #[(.pointer (some ⟨a4, 0, none⟩))]) [t17] H fun t20 H =>
  unV .not t20 fun t21 =>
  asB t21 fun b21 =>
  ifB b21 (
  Q (.tuple #[(.int .i64 0), (.int .i64 2)]) H) (
  binV (.int .i64) .add (sv s21 0) (.int .i64 1) fun t22 =>
  K21 [[t22]] H)) (
  loadP false 1 (.pointer (some ⟨a4, 0, none⟩)) H fun t23 =>
  Q (.tuple #[t23, (.int .i64 0)]) H)) [[(.int .i64 0)]] H)
theorem S_num_Size_of {x0 : Value} {H : Heap} {Q : Value → Heap → Prop} (h : S_num_Size x0 H Q) : callV Tryd.prog (fnV fn_num_Size) [x0] H Q :=
  callV_fn (hcalls_of (pv := []) (ann := [(21, [28])]) Tryd.func81 (by kernel_rfl) (Eq.mpr (by kernel_rfl) h))

/-- thimblerig/thimblerigref09.May -/
def S_ref09_May (x0_0 : Value) (x0_1 : Value) (x0_2 : Value) (x0_3 : Value) (x1_0 : Value) (x1_1 : Value) (x1_2 : Value) (H : Heap) (Q : Value → Heap → Prop) : Prop :=
  newT H fun H =>
  newT H fun H =>
  JoinPT (fun K8 =>
  binV (.int .i64) .geq x1_0 (.int .i64 0) fun t7 =>
  asB t7 fun b8 =>
  ifB b8 (
  binV (.int .i64) .lss x1_0 x0_0 fun t13 =>
  asB t13 fun b15 =>
  ifB b15 (
  binV (.int .i64) .geq x1_1 (.int .i64 0) fun t18 =>
  asB t18 fun b20 =>
  ifB b20 (
  callV Tryd.prog (fnV fn_ref07_Many) [x0_2] H fun t25 H =>
  binV (.int .i64) .lss x1_1 t25 fun t26 =>
  asB t26 fun b28 =>
  ifB b28 (
  lenSl x1_2 H fun t31 =>
  binV (.int .i64) .eql t31 x0_1 fun t34 =>
  K8 [[t34]] H) (
  K8 [[(.bool false)]] H)) (
  K8 [[(.bool false)]] H)) (
  K8 [[(.bool false)]] H)) (
  K8 [[(.bool false)]] H)) fun s8 H =>
  Q (sv s8 0) H
theorem S_ref09_May_of {x0_0 : Value} {x0_1 : Value} {x0_2 : Value} {x0_3 : Value} {x1_0 : Value} {x1_1 : Value} {x1_2 : Value} {H : Heap} {Q : Value → Heap → Prop} (h : S_ref09_May x0_0 x0_1 x0_2 x0_3 x1_0 x1_1 x1_2 H Q) : callV Tryd.prog (fnV fn_ref09_May) [(.agg #[x0_0, x0_1, x0_2, x0_3]), (.agg #[x1_0, x1_1, x1_2])] H Q :=
  callV_fn (hcalls_of (pv := [2, 3]) (ann := [(8, [8])]) Tryd.func85 (by kernel_rfl) (Eq.mpr (by kernel_rfl) h))

/-- thimblerig/num.Size$1 -/
def S_num_Size_1 (x0 : Value) (y0 : Value) (H : Heap) (Q : Value → Heap → Prop) : Prop :=
  JoinPT (fun K8 =>
  binV (.int .i64) .lss x0 (.int .i64 0) fun t5 =>
  asB t5 fun b6 =>
  ifB b6 (
  K8 [[(.bool true)]] H) (
  loadP false 1 y0 H fun t8 =>
  binV (.int .i64) .sub (.int .i64 65536) t8 fun t9 =>
  binV (.int .i64) .gtr x0 t9 fun t10 =>
  K8 [[t10]] H)) fun s8 H =>
  asB (sv s8 0) fun b11 =>
  ifB b11 (
  Q (.bool false) H) (
  loadP false 1 y0 H fun t12 =>
  binV (.int .i64) .add t12 x0 fun t14 =>
  storeP false 1 y0 t14 H fun H =>
  Q (.bool true) H)
theorem S_num_Size_1_of {x0 : Value} {y0 : Value} {H : Heap} {Q : Value → Heap → Prop} (h : S_num_Size_1 x0 y0 H Q) : callV Tryd.prog (fnV fn_num_Size_1) [x0, y0] H Q :=
  callV_fn (hcalls_of (pv := []) (ann := [(8, [22])]) Tryd.func89 (by kernel_rfl) (Eq.mpr (by kernel_rfl) h))
theorem C_num_Size_1_of {x0 : Value} {y0 : Value} {H : Heap} {Q : Value → Heap → Prop} (h : S_num_Size_1 x0 y0 H Q) : callV Tryd.prog (.func (.func fn_num_Size_1) #[] #[y0]) [x0] H Q :=
  callV_cl (S_num_Size_1_of h)

end Go.Proofs.YtlmpjhbfgakgdaaDoor
