/- Written by sh.py: what functions do, out of the deep reading; each is joined to the program by the kernel. -/
import Derived.Test.YtlalkgkicccjiaaShNames
namespace Go.Proofs.Ytlalkgkicccjiaa
open Go.Ab
set_option linter.unusedVariables false
set_option linter.unusedSimpArgs false
set_option maxRecDepth 100000

/-- thimblerig/thimblerigref01.SameAll -/
def S_ref01_SameAll (x0 : Value) (x1 : Value) (H : Heap) (Q : Value → Heap → Prop) : Prop :=
  lenSl x0 H fun t7 =>
  lenSl x1 H fun t9 =>
  binV (.int .i64) .neq t7 t9 fun t10 =>
  asB t10 fun b10 =>
  ifB b10 (
  Q (.bool false) H) (
  LoopPT (fun s15 H K15 =>
  lenSl x0 H fun t13 =>
  binV (.int .i64) .lss (sv s15 0) t13 fun t14 =>
  asB t14 fun b14 =>
  ifB b14 (
  idxS 1 x0 (sv s15 0) fun t19 =>
  loadP false 1 t19 H fun t20 =>
  idxS 1 x1 (sv s15 0) fun t23 =>
  loadP false 1 t23 H fun t24 =>
  callV Try.prog (fnV fn_ref01_Same) [t20, t24] H fun t25 H =>
  unV .not t25 fun t26 =>
  asB t26 fun b26 =>
  ifB b26 (
  Q (.bool false) H) (
  binV (.int .i64) .add (sv s15 0) (.int .i64 1) fun t16 =>
  K15 [[t16]] H)) (
  Q (.bool true) H)) [[(.int .i64 0)]] H)
theorem S_ref01_SameAll_of {x0 : Value} {x1 : Value} {H : Heap} {Q : Value → Heap → Prop} (h : S_ref01_SameAll x0 x1 H Q) : callV Try.prog (fnV fn_ref01_SameAll) [x0, x1] H Q :=
  callV_fn (hcalls_of (pv := []) (ann := [(15, [10])]) Try.func13 (by kernel_rfl) (Eq.mpr (by kernel_rfl) h))

/-- thimblerig/dev.New -/
def S_dev_New (x0_0 : Value) (x0_1 : Value) (x0_2 : Value) (x0_3 : Value) (x0_4 : Value) (x0_5 : Value) (x0_6 : Value) (x0_7 : Value) (x0_8 : Value) (H : Heap) (Q : Value → Heap → Prop) : Prop :=
  newT H fun H =>
  newT H fun H =>
  callV Try.prog (fnV fn_conf_Levels) [(.agg #[x0_0, x0_1, x0_2, x0_3, x0_4, x0_5, x0_6, x0_7, x0_8])] H fun t7 H =>
  extractV 0 t7 fun t8 =>
  extractV 1 t7 fun t9 =>
  callV Try.prog (fnV fn_dev_each_api_Level_byte) [t8, (fnV fn_dev_New_1)] H fun t11 H =>
  ifB (okc t11) (
  ifB ([t11].all okc) (
  Q (.tuple #[(.agg #[t11]), t9]) H) False) False
theorem S_dev_New_of {x0_0 : Value} {x0_1 : Value} {x0_2 : Value} {x0_3 : Value} {x0_4 : Value} {x0_5 : Value} {x0_6 : Value} {x0_7 : Value} {x0_8 : Value} {H : Heap} {Q : Value → Heap → Prop} (h : S_dev_New x0_0 x0_1 x0_2 x0_3 x0_4 x0_5 x0_6 x0_7 x0_8 H Q) : callV Try.prog (fnV fn_dev_New) [(.agg #[x0_0, x0_1, x0_2, x0_3, x0_4, x0_5, x0_6, x0_7, x0_8])] H Q :=
  callV_fn (hcalls_of (pv := [1, 2]) (ann := []) Try.func21 (by kernel_rfl) (Eq.mpr (by kernel_rfl) h))

/-- thimblerig/thimblerigref01.Same -/
def S_ref01_Same (x0 : Value) (x1 : Value) (H : Heap) (Q : Value → Heap → Prop) : Prop :=
  cvBS x0 H fun t6 =>
  cvBS x1 H fun t8 =>
  binV .string .eql t6 t8 fun t9 =>
  Q t9 H
theorem S_ref01_Same_of {x0 : Value} {x1 : Value} {H : Heap} {Q : Value → Heap → Prop} (h : S_ref01_Same x0 x1 H Q) : callV Try.prog (fnV fn_ref01_Same) [x0, x1] H Q :=
  callV_fn (hcalls_of (pv := []) (ann := []) Try.func26 (by kernel_rfl) (Eq.mpr (by kernel_rfl) h))

/-- slices.Clone[[]byte,byte] -/
def S_slices_Clone_byte_byte (x0 : Value) (H : Heap) (Q : Value → Heap → Prop) : Prop :=
  binV (.slice 5) .eql x0 (.slice none 0 0) fun t4 =>
  asB t4 fun b4 =>
  ifB b4 (
  Q (.slice none 0 0) H) (
  bldS 5 1 false (zeroL Try.prog 5) 0 [] H fun t5 H =>
  appS 5 1 1 (zeroL Try.prog 5) t5 x0 H fun t7 H =>
  Q t7 H)
theorem S_slices_Clone_byte_byte_of {x0 : Value} {H : Heap} {Q : Value → Heap → Prop} (h : S_slices_Clone_byte_byte x0 H Q) : callV Try.prog (fnV fn_slices_Clone_byte_byte) [x0] H Q :=
  callV_fn (hcalls_of (pv := []) (ann := []) Try.func27 (by kernel_rfl) (Eq.mpr (by kernel_rfl) h))

/-- thimblerig/dev.each[thimblerig/api.Level,[][]byte] -/
def S_dev_each_api_Level_byte (x0 : Value) (x1 : Value) (H : Heap) (Q : Value → Heap → Prop) : Prop :=
  lenSl x0 H fun t8 =>
  LoopPT (fun s9 H K9 =>
  binV (.int .i64) .lss (sv s9 1) t8 fun t10 =>
  asB t10 fun b10 =>
  ifB b10 (
  idxS 4 x0 (sv s9 1) fun t11 =>
  loadP true 4 t11 H fun t12 =>
  newT H fun H =>
  cellsV true 4 t12 fun c1 =>
  ifB (decide (0 + 4 ≤ ((setSeg [(.int .i64 0), (.int .i64 0), (.int .i64 0), (.int .i64 0)] 0 c1)).length)) (
  callV Try.prog x1 [(.agg (seg (setSeg [(.int .i64 0), (.int .i64 0), (.int .i64 0), (.int .i64 0)] 0 c1) 0 4).toArray)] H fun t16 H =>
  bldS 25 1 false (zeroL Try.prog 25) 1 [(0, t16)] H fun t17 H =>
  appS 25 1 24 (zeroL Try.prog 25) (sv s9 0) t17 H fun t18 H =>
  binV (.int .i64) .add (sv s9 1) (.int .i64 1) fun t19 =>
  K9 [[t18], [t19]] H) False) (
  Q (sv s9 0) H)) [[(.slice none 0 0)], [(.int .i64 0)]] H
theorem S_dev_each_api_Level_byte_of {x0 : Value} {x1 : Value} {H : Heap} {Q : Value → Heap → Prop} (h : S_dev_each_api_Level_byte x0 x1 H Q) : callV Try.prog (fnV fn_dev_each_api_Level_byte) [x0, x1] H Q :=
  callV_fn (hcalls_of (pv := [6]) (ann := [(9, [8, 18])]) Try.func35 (by kernel_rfl) (Eq.mpr (by kernel_rfl) h))

/-- thimblerig/dev.New$1 -/
def S_dev_New_1 (x0_0 : Value) (x0_1 : Value) (x0_2 : Value) (x0_3 : Value) (H : Heap) (Q : Value → Heap → Prop) : Prop :=
  newC 76 [x0_0, x0_1, x0_2, x0_3] H fun a1 H =>
  fldP 2 (.pointer (some ⟨a1, 0, none⟩)) fun t6 =>
  loadP false 1 t6 H fun t7 =>
  callV Try.prog (fnV fn_geo_Buckets) [t7] H fun t8 H =>
  extractV 0 t8 fun t9 =>
  extractV 1 t8 fun t10 =>
  mkS 3 1 8 (zeroL Try.prog 3) t9 t9 H fun t12 H =>
  callV Try.prog (fnV fn_dev_each_int_byte) [t12, (.func (.func fn_dev_New_1_1) #[] #[(.pointer (some ⟨a1, 0, none⟩))])] H fun t14 H =>
  Q t14 H
theorem S_dev_New_1_of {x0_0 : Value} {x0_1 : Value} {x0_2 : Value} {x0_3 : Value} {H : Heap} {Q : Value → Heap → Prop} (h : S_dev_New_1 x0_0 x0_1 x0_2 x0_3 H Q) : callV Try.prog (fnV fn_dev_New_1) [(.agg #[x0_0, x0_1, x0_2, x0_3])] H Q :=
  callV_fn (hcalls_of (pv := []) (ann := []) Try.func36 (by kernel_rfl) (Eq.mpr (by kernel_rfl) h))

/-- thimblerig/dev.each[int,[]byte] -/
def S_dev_each_int_byte (x0 : Value) (x1 : Value) (H : Heap) (Q : Value → Heap → Prop) : Prop :=
  lenSl x0 H fun t8 =>
  LoopPT (fun s9 H K9 =>
  binV (.int .i64) .lss (sv s9 1) t8 fun t10 =>
  asB t10 fun b10 =>
  ifB b10 (
  idxS 1 x0 (sv s9 1) fun t11 =>
  loadP false 1 t11 H fun t12 =>
  callV Try.prog x1 [t12] H fun t16 H =>
  bldS 43 1 false (zeroL Try.prog 43) 1 [(0, t16)] H fun t17 H =>
  appS 43 1 24 (zeroL Try.prog 43) (sv s9 0) t17 H fun t18 H =>
  binV (.int .i64) .add (sv s9 1) (.int .i64 1) fun t19 =>
  K9 [[t18], [t19]] H) (
  Q (sv s9 0) H)) [[(.slice none 0 0)], [(.int .i64 0)]] H
theorem S_dev_each_int_byte_of {x0 : Value} {x1 : Value} {H : Heap} {Q : Value → Heap → Prop} (h : S_dev_each_int_byte x0 x1 H Q) : callV Try.prog (fnV fn_dev_each_int_byte) [x0, x1] H Q :=
  callV_fn (hcalls_of (pv := []) (ann := [(9, [8, 18])]) Try.func37 (by kernel_rfl) (Eq.mpr (by kernel_rfl) h))

/-- thimblerig/dev.New$1$1 -/
def S_dev_New_1_1 (x0 : Value) (y0 : Value) (H : Heap) (Q : Value → Heap → Prop) : Prop :=
  fldP 3 y0 fun t4 =>
  loadP false 1 t4 H fun t5 =>
  binV (.int .i64) .add (.int .i64 8) t5 fun t6 =>
  mkS 5 1 1 (zeroL Try.prog 5) t6 t6 H fun t7 H =>
  Q t7 H
theorem S_dev_New_1_1_of {x0 : Value} {y0 : Value} {H : Heap} {Q : Value → Heap → Prop} (h : S_dev_New_1_1 x0 y0 H Q) : callV Try.prog (fnV fn_dev_New_1_1) [x0, y0] H Q :=
  callV_fn (hcalls_of (pv := []) (ann := []) Try.func38 (by kernel_rfl) (Eq.mpr (by kernel_rfl) h))
theorem C_dev_New_1_1_of {x0 : Value} {y0 : Value} {H : Heap} {Q : Value → Heap → Prop} (h : S_dev_New_1_1 x0 y0 H Q) : callV Try.prog (.func (.func fn_dev_New_1_1) #[] #[y0]) [x0] H Q :=
  callV_cl (S_dev_New_1_1_of h)

/-- thimblerig/dev.Read -/
def S_dev_Read (x0_0 : Value) (x0_1 : Value) (x0_2 : Value) (x0_3 : Value) (x0_4 : Value) (x0_5 : Value) (x0_6 : Value) (x0_7 : Value) (x0_8 : Value) (x1_0 : Value) (x2 : Value) (x3 : Value) (H : Heap) (Q : Value → Heap → Prop) : Prop :=
  newT H fun H =>
  newT H fun H =>
  ifB (okc x2) (
  newC 3 [x2] H fun a6 H =>
  newC 26 [(.slice none 0 0)] H fun a9 H =>
  loadP false 1 (.pointer (some ⟨a6, 0, none⟩)) H fun t18 =>
  callV Try.prog (fnV fn_dev_asked) [(.agg #[x0_0, x0_1, x0_2, x0_3, x0_4, x0_5, x0_6, x0_7, x0_8]), (.agg #[x1_0]), t18, x3] H fun t20 H =>
  binV (.int .i64) .neq t20 (.int .i64 0) fun t22 =>
  asB t22 fun b22 =>
  ifB b22 (
  storeP false 1 (.pointer (some ⟨a9, 0, none⟩)) (.slice none 0 0) H fun H =>
  loadP false 1 (.pointer (some ⟨a9, 0, none⟩)) H fun r9 =>
  Q (.tuple #[(.slice none 0 0), r9, t20]) H) (
  lenSl x3 H fun t26 =>
  LoopPT (fun s21 H K21 =>
  binV (.int .i64) .lss (sv s21 1) t26 fun t28 =>
  asB t28 fun b28 =>
  ifB b28 (
  idxS 1 x3 (sv s21 1) fun t29 =>
  loadP false 1 t29 H fun t30 =>
  loadP false 1 (.pointer (some ⟨a6, 0, none⟩)) H fun t32 =>
  callV Try.prog (fnV fn_dev_one) [(.agg #[x1_0]), t32, t30] H fun t34 H =>
  idxS 1 t34 (.int .i64 0) fun t35 =>
  loadP false 1 t35 H fun t36 =>
  callV Try.prog (fnV fn_slices_Clone_byte_byte) [t36] H fun t39 H =>
  bldS 43 1 false (zeroL Try.prog 43) 1 [(0, t39)] H fun t40 H =>
  appS 43 1 24 (zeroL Try.prog 43) (sv s21 0) t40 H fun t41 H =>
  callV Try.prog (.func (.func fn_dev_Read_1) #[] #[(.pointer (some ⟨a9, 0, none⟩)), (.pointer (some ⟨a6, 0, none⟩))]) [t30, t36] H fun t45 H =>
  binV (.int .i64) .add (sv s21 1) (.int .i64 1) fun t46 =>
  K21 [[t41], [t46]] H) (
  loadP false 1 (.pointer (some ⟨a9, 0, none⟩)) H fun t48 =>
  storeP false 1 (.pointer (some ⟨a9, 0, none⟩)) t48 H fun H =>
  loadP false 1 (.pointer (some ⟨a9, 0, none⟩)) H fun r9 =>
  Q (.tuple #[(sv s21 0), r9, (.int .i64 0)]) H)) [[(.slice none 0 0)], [(.int .i64 0)]] H)) False
theorem S_dev_Read_of {x0_0 : Value} {x0_1 : Value} {x0_2 : Value} {x0_3 : Value} {x0_4 : Value} {x0_5 : Value} {x0_6 : Value} {x0_7 : Value} {x0_8 : Value} {x1_0 : Value} {x2 : Value} {x3 : Value} {H : Heap} {Q : Value → Heap → Prop} (h : S_dev_Read x0_0 x0_1 x0_2 x0_3 x0_4 x0_5 x0_6 x0_7 x0_8 x1_0 x2 x3 H Q) : callV Try.prog (fnV fn_dev_Read) [(.agg #[x0_0, x0_1, x0_2, x0_3, x0_4, x0_5, x0_6, x0_7, x0_8]), (.agg #[x1_0]), x2, x3] H Q :=
  callV_fn (hcalls_of (pv := [4, 5]) (ann := [(21, [16, 54])]) Try.func39 (by kernel_rfl) (Eq.mpr (by kernel_rfl) h))

/-- thimblerig/dev.Write -/
def S_dev_Write (x0_0 : Value) (x0_1 : Value) (x0_2 : Value) (x0_3 : Value) (x0_4 : Value) (x0_5 : Value) (x0_6 : Value) (x0_7 : Value) (x0_8 : Value) (x1_0 : Value) (x2 : Value) (x3 : Value) (x4 : Value) (H : Heap) (Q : Value → Heap → Prop) : Prop :=
  newT H fun H =>
  newT H fun H =>
  newT H fun H =>
  callV Try.prog (fnV fn_dev_asked) [(.agg #[x0_0, x0_1, x0_2, x0_3, x0_4, x0_5, x0_6, x0_7, x0_8]), (.agg #[x1_0]), x2, x3] H fun t21 H =>
  binV (.int .i64) .neq t21 (.int .i64 0) fun t23 =>
  asB t23 fun b23 =>
  ifB b23 (
  Q (.tuple #[(.agg #[(.slice none 0 0)]), (.slice none 0 0), t21]) H) (
  idxS 1 x1_0 x2 fun t29 =>
  loadP false 1 t29 H fun t30 =>
  idxS 1 t30 (.int .i64 0) fun t31 =>
  loadP false 1 t31 H fun t32 =>
  lenSl t32 H fun t33 =>
  newC 3 [(.int .i64 0)] H fun a14 H =>
  storeP false 1 (.pointer (some ⟨a14, 0, none⟩)) t33 H fun H =>
  JoinPT (fun K20 =>
  lenSl x4 H fun t35 =>
  lenSl x3 H fun t37 =>
  binV (.int .i64) .neq t35 t37 fun t38 =>
  asB t38 fun b39 =>
  ifB b39 (
  K20 [[(.bool true)]] H) (
  callV Try.prog (fnV fn_slices_ContainsFunc_byte_byte) [x4, (.func (.func fn_dev_Write_1) #[] #[(.pointer (some ⟨a14, 0, none⟩))])] H fun t42 H =>
  K20 [[t42]] H)) fun s20 H =>
  asB (sv s20 0) fun b43 =>
  ifB b43 (
  Q (.tuple #[(.agg #[(.slice none 0 0)]), (.slice none 0 0), (.int .i64 2)]) H) (
  callV Try.prog (fnV fn_dev_Twin) [(.agg #[x1_0])] H fun t46 H =>
  cellsV true 1 t46 fun c1 =>
  lenSl x3 H fun t48 =>
  LoopPT (fun s30 H K30 =>
  binV (.int .i64) .lss (sv s30 1) t48 fun t50 =>
  asB t50 fun b50 =>
  ifB b50 (
  idxS 1 x3 (sv s30 1) fun t52 =>
  loadP false 1 t52 H fun t53 =>
  ifB (decide (0 + 1 ≤ ((setSeg [(.slice none 0 0)] 0 c1)).length)) (
  idxS 1 x4 (sv s30 1) fun t60 =>
  loadP false 1 t60 H fun t61 =>
  callV Try.prog (fnV fn_dev_one) [(.agg (seg (setSeg [(.slice none 0 0)] 0 c1) 0 1).toArray), x2, t53] H fun t57 H =>
  (loadP false 1 t60 H fun u61 =>
  u61 = t61) ∧
  (callV Try.prog (fnV fn_slices_Clone_byte_byte) [t61] H fun t62 H =>
  idxS 1 t57 (.int .i64 0) fun t63 =>
  storeP false 1 t63 t62 H fun H =>
  idxS 1 x4 (sv s30 1) fun t69 =>
  loadP false 1 t69 H fun t70 =>
  callV Try.prog (fnV fn_slices_Clone_byte_byte) [t70] H fun t71 H =>
  ifB (okc x2) (
  ifB (okc t53) (
  ifB (okc t71) (
  bldS 45 4 true (zeroL Try.prog 45) 1 [(0, (.agg #[(.int .u8 2), x2, t53, t71]))] H fun t73 H =>
  appS 45 4 48 (zeroL Try.prog 45) (sv s30 0) t73 H fun t74 H =>
  binV (.int .i64) .add (sv s30 1) (.int .i64 1) fun t75 =>
  K30 [[t74], [t75]] H) False) False) False)) False) (
  ifB (decide (0 + 1 ≤ ((setSeg [(.slice none 0 0)] 0 c1)).length)) (
  cellsV true 1 (.agg (seg (setSeg [(.slice none 0 0)] 0 c1) 0 1).toArray) fun c2 =>
  ifB (decide (0 + 1 ≤ ((setSeg [(.slice none 0 0)] 0 c1)).length)) (
  ifB (decide (0 + 1 ≤ ((setSeg (setSeg [(.slice none 0 0)] 0 c1) 0 c2)).length)) (
  Q (.tuple #[(.agg (seg (setSeg (setSeg [(.slice none 0 0)] 0 c1) 0 c2) 0 1).toArray), (sv s30 0), (.int .i64 0)]) H) False) False) False)) [[(.slice none 0 0)], [(.int .i64 0)]] H))
theorem S_dev_Write_of {x0_0 : Value} {x0_1 : Value} {x0_2 : Value} {x0_3 : Value} {x0_4 : Value} {x0_5 : Value} {x0_6 : Value} {x0_7 : Value} {x0_8 : Value} {x1_0 : Value} {x2 : Value} {x3 : Value} {x4 : Value} {H : Heap} {Q : Value → Heap → Prop} (h : S_dev_Write x0_0 x0_1 x0_2 x0_3 x0_4 x0_5 x0_6 x0_7 x0_8 x1_0 x2 x3 x4 H Q) : callV Try.prog (fnV fn_dev_Write) [(.agg #[x0_0, x0_1, x0_2, x0_3, x0_4, x0_5, x0_6, x0_7, x0_8]), (.agg #[x1_0]), x2, x3, x4] H Q :=
  callV_fn (hcalls_of (pv := [5, 6, 10]) (ann := [(20, [86]), (30, [22, 98])]) Try.func40 (by kernel_rfl) (Eq.mpr (by kernel_rfl) h))

/-- slices.Clone[[]int,int] -/
def S_slices_Clone_int_int (x0 : Value) (H : Heap) (Q : Value → Heap → Prop) : Prop :=
  binV (.slice 3) .eql x0 (.slice none 0 0) fun t4 =>
  asB t4 fun b4 =>
  ifB b4 (
  Q (.slice none 0 0) H) (
  bldS 3 1 false (zeroL Try.prog 3) 0 [] H fun t5 H =>
  appS 3 1 8 (zeroL Try.prog 3) t5 x0 H fun t7 H =>
  Q t7 H)
theorem S_slices_Clone_int_int_of {x0 : Value} {H : Heap} {Q : Value → Heap → Prop} (h : S_slices_Clone_int_int x0 H Q) : callV Try.prog (fnV fn_slices_Clone_int_int) [x0] H Q :=
  callV_fn (hcalls_of (pv := []) (ann := []) Try.func44 (by kernel_rfl) (Eq.mpr (by kernel_rfl) h))

/-- slices.Reverse[[]int,int] -/
def S_slices_Reverse_int_int (x0 : Value) (H : Heap) (Q : Value → Heap → Prop) : Prop :=
  lenSl x0 H fun t5 =>
  binV (.int .i64) .sub t5 (.int .i64 1) fun t6 =>
  LoopPT (fun s6 H K6 =>
  binV (.int .i64) .lss (sv s6 0) (sv s6 1) fun t9 =>
  asB t9 fun b9 =>
  ifB b9 (
  idxS 1 x0 (sv s6 1) fun t20 =>
  loadP false 1 t20 H fun t21 =>
  idxS 1 x0 (sv s6 0) fun t24 =>
  loadP false 1 t24 H fun t25 =>
  idxS 1 x0 (sv s6 0) fun t26 =>
  storeP false 1 t26 t21 H fun H =>
  idxS 1 x0 (sv s6 1) fun t27 =>
  storeP false 1 t27 t25 H fun H =>
  binV (.int .i64) .add (sv s6 0) (.int .i64 1) fun t11 =>
  binV (.int .i64) .sub (sv s6 1) (.int .i64 1) fun t13 =>
  K6 [[t11], [t13]] H) (
  Q (.tuple #[]) H)) [[(.int .i64 0)], [t6]] H
theorem S_slices_Reverse_int_int_of {x0 : Value} {H : Heap} {Q : Value → Heap → Prop} (h : S_slices_Reverse_int_int x0 H Q) : callV Try.prog (fnV fn_slices_Reverse_int_int) [x0] H Q :=
  callV_fn (hcalls_of (pv := []) (ann := [(6, [4, 6])]) Try.func45 (by kernel_rfl) (Eq.mpr (by kernel_rfl) h))

/-- slices.Backward[[]thimblerig/api.Level,thimblerig/api.Level] -/
def S_slices_Backward_api_Level_api_Level (x0 : Value) (H : Heap) (Q : Value → Heap → Prop) : Prop :=
  ifB (okc x0) (
  newC 53 [x0] H fun a1 H =>
  Q (.func (.func fn_slices_Backward_api_Level_api_Level_1) #[] #[(.pointer (some ⟨a1, 0, none⟩))]) H) False
theorem S_slices_Backward_api_Level_api_Level_of {x0 : Value} {H : Heap} {Q : Value → Heap → Prop} (h : S_slices_Backward_api_Level_api_Level x0 H Q) : callV Try.prog (fnV fn_slices_Backward_api_Level_api_Level) [x0] H Q :=
  callV_fn (hcalls_of (pv := []) (ann := []) Try.func46 (by kernel_rfl) (Eq.mpr (by kernel_rfl) h))

/-- thimblerig/thimblerigref01.Number -/
def S_ref01_Number (x0 : Value) (H : Heap) (Q : Value → Heap → Prop) : Prop :=
  lenSl x0 H fun t6 =>
  binV (.int .i64) .sub t6 (.int .i64 1) fun t7 =>
  LoopPT (fun s12 H K12 =>
  binV (.int .i64) .geq (sv s12 1) (.int .i64 0) fun t9 =>
  asB t9 fun b9 =>
  ifB b9 (
  binV (.int .u64) .mul (.int .u64 256) (sv s12 0) fun t13 =>
  idxS 1 x0 (sv s12 1) fun t16 =>
  loadP false 1 t16 H fun t17 =>
  cvI .u64 t17 fun t18 =>
  binV (.int .u64) .add t13 t18 fun t19 =>
  binV (.int .i64) .sub (sv s12 1) (.int .i64 1) fun t11 =>
  K12 [[t19], [t11]] H) (
  Q (sv s12 0) H)) [[(.int .u64 0)], [t7]] H
theorem S_ref01_Number_of {x0 : Value} {H : Heap} {Q : Value → Heap → Prop} (h : S_ref01_Number x0 H Q) : callV Try.prog (fnV fn_ref01_Number) [x0] H Q :=
  callV_fn (hcalls_of (pv := []) (ann := [(12, [6, 8])]) Try.func50 (by kernel_rfl) (Eq.mpr (by kernel_rfl) h))

/-- slices.ContainsFunc[[][]uint32,[]uint32] -/
def S_slices_ContainsFunc_uint32_uint32 (x0 : Value) (x1 : Value) (H : Heap) (Q : Value → Heap → Prop) : Prop :=
  callV Try.prog (fnV fn_slices_IndexFunc_uint32_uint32) [x0, x1] H fun t7 H =>
  binV (.int .i64) .geq t7 (.int .i64 0) fun t8 =>
  Q t8 H
theorem S_slices_ContainsFunc_uint32_uint32_of {x0 : Value} {x1 : Value} {H : Heap} {Q : Value → Heap → Prop} (h : S_slices_ContainsFunc_uint32_uint32 x0 x1 H Q) : callV Try.prog (fnV fn_slices_ContainsFunc_uint32_uint32) [x0, x1] H Q :=
  callV_fn (hcalls_of (pv := []) (ann := []) Try.func58 (by kernel_rfl) (Eq.mpr (by kernel_rfl) h))

/-- thimblerig/dev.asked -/
def S_dev_asked (x0_0 : Value) (x0_1 : Value) (x0_2 : Value) (x0_3 : Value) (x0_4 : Value) (x0_5 : Value) (x0_6 : Value) (x0_7 : Value) (x0_8 : Value) (x1_0 : Value) (x2 : Value) (x3 : Value) (H : Heap) (Q : Value → Heap → Prop) : Prop :=
  newT H fun H =>
  newC 58 [x1_0] H fun a5 H =>
  ifB (okc x2) (
  newC 3 [x2] H fun a6 H =>
  loadP true 1 (.pointer (some ⟨a5, 0, none⟩)) H fun t11 =>
  callV Try.prog (fnV fn_dev_Check) [(.agg #[x0_0, x0_1, x0_2, x0_3, x0_4, x0_5, x0_6, x0_7, x0_8]), t11] H fun t12 H =>
  binV (.int .i64) .neq t12 (.int .i64 0) fun t14 =>
  asB t14 fun b14 =>
  ifB b14 (
  Q t12 H) (
  JoinPT (fun K17 =>
  loadP false 1 (.pointer (some ⟨a6, 0, none⟩)) H fun t16 =>
  binV (.int .i64) .lss t16 (.int .i64 0) fun t17 =>
  asB t17 fun b18 =>
  ifB b18 (
  K17 [[(.bool true)]] H) (
  loadP false 1 (.pointer (some ⟨a6, 0, none⟩)) H fun t19 =>
  fldP 0 (.pointer (some ⟨a5, 0, none⟩)) fun t20 =>
  loadP false 1 t20 H fun t21 =>
  lenSl t21 H fun t22 =>
  binV (.int .i64) .geq t19 t22 fun t23 =>
  K17 [[t23]] H)) fun s17 H =>
  asB (sv s17 0) fun b24 =>
  ifB b24 (
  Q (.int .i64 2) H) (
  callV Try.prog (fnV fn_slices_ContainsFunc_int_int) [x3, (.func (.func fn_dev_asked_1) #[] #[(.pointer (some ⟨a5, 0, none⟩)), (.pointer (some ⟨a6, 0, none⟩))])] H fun t27 H =>
  asB t27 fun b27 =>
  ifB b27 (
  Q (.int .i64 2) H) (
  Q (.int .i64 0) H)))) False
theorem S_dev_asked_of {x0_0 : Value} {x0_1 : Value} {x0_2 : Value} {x0_3 : Value} {x0_4 : Value} {x0_5 : Value} {x0_6 : Value} {x0_7 : Value} {x0_8 : Value} {x1_0 : Value} {x2 : Value} {x3 : Value} {H : Heap} {Q : Value → Heap → Prop} (h : S_dev_asked x0_0 x0_1 x0_2 x0_3 x0_4 x0_5 x0_6 x0_7 x0_8 x1_0 x2 x3 H Q) : callV Try.prog (fnV fn_dev_asked) [(.agg #[x0_0, x0_1, x0_2, x0_3, x0_4, x0_5, x0_6, x0_7, x0_8]), (.agg #[x1_0]), x2, x3] H Q :=
  callV_fn (hcalls_of (pv := [4]) (ann := [(17, [48])]) Try.func61 (by kernel_rfl) (Eq.mpr (by kernel_rfl) h))

/-- thimblerig/dev.Read$1 -/
def S_dev_Read_1 (x0 : Value) (x1 : Value) (y0 : Value) (y1 : Value) (H : Heap) (Q : Value → Heap → Prop) : Prop :=
  loadP false 1 y0 H fun t6 =>
  loadP false 1 y1 H fun t7 =>
  callV Try.prog (fnV fn_slices_Clone_byte_byte) [x1] H fun t10 H =>
  (loadP false 1 y1 H fun u7 =>
  u7 = t7) ∧
  (loadP false 1 y0 H fun u6 =>
  u6 = t6) ∧
  (ifB (okc t7) (
  ifB (okc x0) (
  ifB (okc t10) (
  bldS 45 4 true (zeroL Try.prog 45) 1 [(0, (.agg #[(.int .u8 1), t7, x0, t10]))] H fun t12 H =>
  (loadP false 1 y1 H fun u7 =>
  u7 = t7) ∧
  (loadP false 1 y0 H fun u6 =>
  u6 = t6) ∧
  (appS 45 4 48 (zeroL Try.prog 45) t6 t12 H fun t13 H =>
  (loadP false 1 y1 H fun u7 =>
  u7 = t7) ∧
  (storeP false 1 y0 t13 H fun H =>
  Q (.tuple #[]) H))) False) False) False)
theorem S_dev_Read_1_of {x0 : Value} {x1 : Value} {y0 : Value} {y1 : Value} {H : Heap} {Q : Value → Heap → Prop} (h : S_dev_Read_1 x0 x1 y0 y1 H Q) : callV Try.prog (fnV fn_dev_Read_1) [x0, x1, y0, y1] H Q :=
  callV_fn (hcalls_of (pv := []) (ann := []) Try.func62 (by kernel_rfl) (Eq.mpr (by kernel_rfl) h))
theorem C_dev_Read_1_of {x0 : Value} {x1 : Value} {y0 : Value} {y1 : Value} {H : Heap} {Q : Value → Heap → Prop} (h : S_dev_Read_1 x0 x1 y0 y1 H Q) : callV Try.prog (.func (.func fn_dev_Read_1) #[] #[y0, y1]) [x0, x1] H Q :=
  callV_cl (S_dev_Read_1_of h)

/-- thimblerig/dev.one -/
def S_dev_one (x0_0 : Value) (x1 : Value) (x2 : Value) (H : Heap) (Q : Value → Heap → Prop) : Prop :=
  newT H fun H =>
  idxS 1 x0_0 x1 fun t10 =>
  loadP false 1 t10 H fun t11 =>
  binV (.int .i64) .sub x2 (.int .i64 1) fun t13 =>
  slS 1 t11 (some t13) (some x2) (some x2) fun t16 =>
  Q t16 H
theorem S_dev_one_of {x0_0 : Value} {x1 : Value} {x2 : Value} {H : Heap} {Q : Value → Heap → Prop} (h : S_dev_one x0_0 x1 x2 H Q) : callV Try.prog (fnV fn_dev_one) [(.agg #[x0_0]), x1, x2] H Q :=
  callV_fn (hcalls_of (pv := [3]) (ann := []) Try.func63 (by kernel_rfl) (Eq.mpr (by kernel_rfl) h))

/-- slices.ContainsFunc[[][]byte,[]byte] -/
def S_slices_ContainsFunc_byte_byte (x0 : Value) (x1 : Value) (H : Heap) (Q : Value → Heap → Prop) : Prop :=
  callV Try.prog (fnV fn_slices_IndexFunc_byte_byte) [x0, x1] H fun t7 H =>
  binV (.int .i64) .geq t7 (.int .i64 0) fun t8 =>
  Q t8 H
theorem S_slices_ContainsFunc_byte_byte_of {x0 : Value} {x1 : Value} {H : Heap} {Q : Value → Heap → Prop} (h : S_slices_ContainsFunc_byte_byte x0 x1 H Q) : callV Try.prog (fnV fn_slices_ContainsFunc_byte_byte) [x0, x1] H Q :=
  callV_fn (hcalls_of (pv := []) (ann := []) Try.func64 (by kernel_rfl) (Eq.mpr (by kernel_rfl) h))

/-- thimblerig/dev.Write$1 -/
def S_dev_Write_1 (x0 : Value) (y0 : Value) (H : Heap) (Q : Value → Heap → Prop) : Prop :=
  lenSl x0 H fun t5 =>
  loadP false 1 y0 H fun t6 =>
  binV (.int .i64) .neq t5 t6 fun t7 =>
  Q t7 H
theorem S_dev_Write_1_of {x0 : Value} {y0 : Value} {H : Heap} {Q : Value → Heap → Prop} (h : S_dev_Write_1 x0 y0 H Q) : callV Try.prog (fnV fn_dev_Write_1) [x0, y0] H Q :=
  callV_fn (hcalls_of (pv := []) (ann := []) Try.func65 (by kernel_rfl) (Eq.mpr (by kernel_rfl) h))
theorem C_dev_Write_1_of {x0 : Value} {y0 : Value} {H : Heap} {Q : Value → Heap → Prop} (h : S_dev_Write_1 x0 y0 H Q) : callV Try.prog (.func (.func fn_dev_Write_1) #[] #[y0]) [x0] H Q :=
  callV_cl (S_dev_Write_1_of h)

/-- thimblerig/dev.Twin -/
def S_dev_Twin (x0_0 : Value) (H : Heap) (Q : Value → Heap → Prop) : Prop :=
  newT H fun H =>
  newT H fun H =>
  callV Try.prog (fnV fn_dev_each_byte_byte_0) [x0_0, (fnV fn_dev_Twin_1)] H fun t5 H =>
  ifB (okc t5) (
  ifB ([t5].all okc) (
  Q (.agg #[t5]) H) False) False
theorem S_dev_Twin_of {x0_0 : Value} {H : Heap} {Q : Value → Heap → Prop} (h : S_dev_Twin x0_0 H Q) : callV Try.prog (fnV fn_dev_Twin) [(.agg #[x0_0])] H Q :=
  callV_fn (hcalls_of (pv := [1, 2]) (ann := []) Try.func66 (by kernel_rfl) (Eq.mpr (by kernel_rfl) h))

/-- slices.Backward[[]thimblerig/api.Level,thimblerig/api.Level]$1 -/
def S_slices_Backward_api_Level_api_Level_1 (x0 : Value) (y0 : Value) (H : Heap) (Q : Value → Heap → Prop) : Prop :=
  loadP false 1 y0 H fun t4 =>
  lenSl t4 H fun t5 =>
  binV (.int .i64) .sub t5 (.int .i64 1) fun t6 =>
  LoopPT (fun s6 H K6 =>
  binV (.int .i64) .geq (sv s6 0) (.int .i64 0) fun t8 =>
  asB t8 fun b8 =>
  ifB b8 (
  loadP false 1 y0 H fun t13 =>
  idxS 4 t13 (sv s6 0) fun t15 =>
  loadP true 4 t15 H fun t16 =>
  callV Try.prog x0 [(sv s6 0), t16] H fun t17 H =>
  unV .not t17 fun t18 =>
  asB t18 fun b18 =>
  ifB b18 (
  Q (.tuple #[]) H) (
  binV (.int .i64) .sub (sv s6 0) (.int .i64 1) fun t10 =>
  K6 [[t10]] H)) (
  Q (.tuple #[]) H)) [[t6]] H
theorem S_slices_Backward_api_Level_api_Level_1_of {x0 : Value} {y0 : Value} {H : Heap} {Q : Value → Heap → Prop} (h : S_slices_Backward_api_Level_api_Level_1 x0 y0 H Q) : callV Try.prog (fnV fn_slices_Backward_api_Level_api_Level_1) [x0, y0] H Q :=
  callV_fn (hcalls_of (pv := []) (ann := [(6, [6])]) Try.func68 (by kernel_rfl) (Eq.mpr (by kernel_rfl) h))
theorem C_slices_Backward_api_Level_api_Level_1_of {x0 : Value} {y0 : Value} {H : Heap} {Q : Value → Heap → Prop} (h : S_slices_Backward_api_Level_api_Level_1 x0 y0 H Q) : callV Try.prog (.func (.func fn_slices_Backward_api_Level_api_Level_1) #[] #[y0]) [x0] H Q :=
  callV_cl (S_slices_Backward_api_Level_api_Level_1_of h)

/-- slices.IndexFunc[[][]uint32,[]uint32] -/
def S_slices_IndexFunc_uint32_uint32 (x0 : Value) (x1 : Value) (H : Heap) (Q : Value → Heap → Prop) : Prop :=
  lenSl x0 H fun t7 =>
  LoopPT (fun s9 H K9 =>
  binV (.int .i64) .lss (sv s9 0) t7 fun t9 =>
  asB t9 fun b9 =>
  ifB b9 (
  idxS 1 x0 (sv s9 0) fun t14 =>
  loadP false 1 t14 H fun t15 =>
  callV Try.prog x1 [t15] H fun t16 H =>
  asB t16 fun b16 =>
  ifB b16 (
  Q (sv s9 0) H) (
  binV (.int .i64) .add (sv s9 0) (.int .i64 1) fun t18 =>
  K9 [[t18]] H)) (
  Q (.int .i64 (-1)) H)) [[(.int .i64 0)]] H
theorem S_slices_IndexFunc_uint32_uint32_of {x0 : Value} {x1 : Value} {H : Heap} {Q : Value → Heap → Prop} (h : S_slices_IndexFunc_uint32_uint32 x0 x1 H Q) : callV Try.prog (fnV fn_slices_IndexFunc_uint32_uint32) [x0, x1] H Q :=
  callV_fn (hcalls_of (pv := []) (ann := [(9, [16])]) Try.func79 (by kernel_rfl) (Eq.mpr (by kernel_rfl) h))

/-- thimblerig/dev.Check -/
def S_dev_Check (x0_0 : Value) (x0_1 : Value) (x0_2 : Value) (x0_3 : Value) (x0_4 : Value) (x0_5 : Value) (x0_6 : Value) (x0_7 : Value) (x0_8 : Value) (x1_0 : Value) (H : Heap) (Q : Value → Heap → Prop) : Prop :=
  newT H fun H =>
  newT H fun H =>
  callV Try.prog (fnV fn_conf_Levels) [(.agg #[x0_0, x0_1, x0_2, x0_3, x0_4, x0_5, x0_6, x0_7, x0_8])] H fun t13 H =>
  extractV 0 t13 fun t14 =>
  extractV 1 t13 fun t15 =>
  JoinPT (fun K11 =>
  binV (.int .i64) .neq t15 (.int .i64 0) fun t17 =>
  asB t17 fun b18 =>
  ifB b18 (
  K11 [[(.bool true)]] H) (
  lenSl t14 H fun t20 =>
  lenSl x1_0 H fun t23 =>
  binV (.int .i64) .neq t20 t23 fun t24 =>
  K11 [[t24]] H)) fun s11 H =>
  asB (sv s11 0) fun b25 =>
  ifB b25 (
  Q (.int .i64 8) H) (
  lenSl t14 H fun t27 =>
  LoopPT (fun s18 H K18 =>
  binV (.int .i64) .lss (sv s18 0) t27 fun t29 =>
  asB t29 fun b29 =>
  ifB b29 (
  idxS 4 t14 (sv s18 0) fun t31 =>
  loadP true 4 t31 H fun t32 =>
  newC 76 [(.int .i64 0), (.int .i64 0), (.int .i64 0), (.int .i64 0)] H fun a8 H =>
  storeP true 4 (.pointer (some ⟨a8, 0, none⟩)) t32 H fun H =>
  fldP 2 (.pointer (some ⟨a8, 0, none⟩)) fun t34 =>
  loadP false 1 t34 H fun t35 =>
  callV Try.prog (fnV fn_geo_Buckets) [t35] H fun t36 H =>
  extractV 0 t36 fun t37 =>
  extractV 1 t36 fun t38 =>
  JoinPT (fun K29 =>
  idxS 1 x1_0 (sv s18 0) fun t42 =>
  loadP false 1 t42 H fun t43 =>
  lenSl t43 H fun t44 =>
  binV (.int .i64) .neq t44 t37 fun t46 =>
  asB t46 fun b47 =>
  ifB b47 (
  K29 [[(.bool true)]] H) (
  idxS 1 x1_0 (sv s18 0) fun t51 =>
  loadP false 1 t51 H fun t52 =>
  callV Try.prog (fnV fn_slices_ContainsFunc_byte_byte) [t52, (.func (.func fn_dev_Check_1) #[] #[(.pointer (some ⟨a8, 0, none⟩))])] H fun t54 H =>
  K29 [[t54]] H)) fun s29 H =>
  asB (sv s29 0) fun b55 =>
  ifB b55 (
  Q (.int .i64 8) H) (
  binV (.int .i64) .add (sv s18 0) (.int .i64 1) fun t56 =>
  K18 [[t56]] H)) (
  Q (.int .i64 0) H)) [[(.int .i64 0)]] H)
theorem S_dev_Check_of {x0_0 : Value} {x0_1 : Value} {x0_2 : Value} {x0_3 : Value} {x0_4 : Value} {x0_5 : Value} {x0_6 : Value} {x0_7 : Value} {x0_8 : Value} {x1_0 : Value} {H : Heap} {Q : Value → Heap → Prop} (h : S_dev_Check x0_0 x0_1 x0_2 x0_3 x0_4 x0_5 x0_6 x0_7 x0_8 x1_0 H Q) : callV Try.prog (fnV fn_dev_Check) [(.agg #[x0_0, x0_1, x0_2, x0_3, x0_4, x0_5, x0_6, x0_7, x0_8]), (.agg #[x1_0])] H Q :=
  callV_fn (hcalls_of (pv := [2, 3]) (ann := [(11, [50]), (18, [56]), (29, [110])]) Try.func80 (by kernel_rfl) (Eq.mpr (by kernel_rfl) h))

/-- slices.ContainsFunc[[]int,int] -/
def S_slices_ContainsFunc_int_int (x0 : Value) (x1 : Value) (H : Heap) (Q : Value → Heap → Prop) : Prop :=
  callV Try.prog (fnV fn_slices_IndexFunc_int_int) [x0, x1] H fun t7 H =>
  binV (.int .i64) .geq t7 (.int .i64 0) fun t8 =>
  Q t8 H
theorem S_slices_ContainsFunc_int_int_of {x0 : Value} {x1 : Value} {H : Heap} {Q : Value → Heap → Prop} (h : S_slices_ContainsFunc_int_int x0 x1 H Q) : callV Try.prog (fnV fn_slices_ContainsFunc_int_int) [x0, x1] H Q :=
  callV_fn (hcalls_of (pv := []) (ann := []) Try.func81 (by kernel_rfl) (Eq.mpr (by kernel_rfl) h))

/-- thimblerig/dev.asked$1 -/
def S_dev_asked_1 (x0 : Value) (y0 : Value) (y1 : Value) (H : Heap) (Q : Value → Heap → Prop) : Prop :=
  JoinPT (fun K8 =>
  binV (.int .i64) .lss x0 (.int .i64 1) fun t6 =>
  asB t6 fun b7 =>
  ifB b7 (
  K8 [[(.bool true)]] H) (
  fldP 0 y0 fun t9 =>
  loadP false 1 t9 H fun t10 =>
  loadP false 1 y1 H fun t11 =>
  idxS 1 t10 t11 fun t12 =>
  loadP false 1 t12 H fun t13 =>
  lenSl t13 H fun t14 =>
  binV (.int .i64) .gtr x0 t14 fun t15 =>
  K8 [[t15]] H)) fun s8 H =>
  Q (sv s8 0) H
theorem S_dev_asked_1_of {x0 : Value} {y0 : Value} {y1 : Value} {H : Heap} {Q : Value → Heap → Prop} (h : S_dev_asked_1 x0 y0 y1 H Q) : callV Try.prog (fnV fn_dev_asked_1) [x0, y0, y1] H Q :=
  callV_fn (hcalls_of (pv := []) (ann := [(8, [8])]) Try.func82 (by kernel_rfl) (Eq.mpr (by kernel_rfl) h))
theorem C_dev_asked_1_of {x0 : Value} {y0 : Value} {y1 : Value} {H : Heap} {Q : Value → Heap → Prop} (h : S_dev_asked_1 x0 y0 y1 H Q) : callV Try.prog (.func (.func fn_dev_asked_1) #[] #[y0, y1]) [x0] H Q :=
  callV_cl (S_dev_asked_1_of h)

/-- slices.IndexFunc[[][]byte,[]byte] -/
def S_slices_IndexFunc_byte_byte (x0 : Value) (x1 : Value) (H : Heap) (Q : Value → Heap → Prop) : Prop :=
  lenSl x0 H fun t7 =>
  LoopPT (fun s9 H K9 =>
  binV (.int .i64) .lss (sv s9 0) t7 fun t9 =>
  asB t9 fun b9 =>
  ifB b9 (
  idxS 1 x0 (sv s9 0) fun t14 =>
  loadP false 1 t14 H fun t15 =>
  callV Try.prog x1 [t15] H fun t16 H =>
  asB t16 fun b16 =>
  ifB b16 (
  Q (sv s9 0) H) (
  binV (.int .i64) .add (sv s9 0) (.int .i64 1) fun t18 =>
  K9 [[t18]] H)) (
  Q (.int .i64 (-1)) H)) [[(.int .i64 0)]] H
theorem S_slices_IndexFunc_byte_byte_of {x0 : Value} {x1 : Value} {H : Heap} {Q : Value → Heap → Prop} (h : S_slices_IndexFunc_byte_byte x0 x1 H Q) : callV Try.prog (fnV fn_slices_IndexFunc_byte_byte) [x0, x1] H Q :=
  callV_fn (hcalls_of (pv := []) (ann := [(9, [16])]) Try.func83 (by kernel_rfl) (Eq.mpr (by kernel_rfl) h))

/-- thimblerig/dev.each[[][]byte,[][]byte] -/
def S_dev_each_byte_byte_0 (x0 : Value) (x1 : Value) (H : Heap) (Q : Value → Heap → Prop) : Prop :=
  lenSl x0 H fun t8 =>
  LoopPT (fun s9 H K9 =>
  binV (.int .i64) .lss (sv s9 1) t8 fun t10 =>
  asB t10 fun b10 =>
  ifB b10 (
  idxS 1 x0 (sv s9 1) fun t11 =>
  loadP false 1 t11 H fun t12 =>
  callV Try.prog x1 [t12] H fun t16 H =>
  bldS 25 1 false (zeroL Try.prog 25) 1 [(0, t16)] H fun t17 H =>
  appS 25 1 24 (zeroL Try.prog 25) (sv s9 0) t17 H fun t18 H =>
  binV (.int .i64) .add (sv s9 1) (.int .i64 1) fun t19 =>
  K9 [[t18], [t19]] H) (
  Q (sv s9 0) H)) [[(.slice none 0 0)], [(.int .i64 0)]] H
theorem S_dev_each_byte_byte_0_of {x0 : Value} {x1 : Value} {H : Heap} {Q : Value → Heap → Prop} (h : S_dev_each_byte_byte_0 x0 x1 H Q) : callV Try.prog (fnV fn_dev_each_byte_byte_0) [x0, x1] H Q :=
  callV_fn (hcalls_of (pv := []) (ann := [(9, [8, 18])]) Try.func84 (by kernel_rfl) (Eq.mpr (by kernel_rfl) h))

/-- thimblerig/dev.Twin$1 -/
def S_dev_Twin_1 (x0 : Value) (H : Heap) (Q : Value → Heap → Prop) : Prop :=
  callV Try.prog (fnV fn_dev_each_byte_byte_1) [x0, (fnV fn_slices_Clone_byte_byte)] H fun t4 H =>
  Q t4 H
theorem S_dev_Twin_1_of {x0 : Value} {H : Heap} {Q : Value → Heap → Prop} (h : S_dev_Twin_1 x0 H Q) : callV Try.prog (fnV fn_dev_Twin_1) [x0] H Q :=
  callV_fn (hcalls_of (pv := []) (ann := []) Try.func85 (by kernel_rfl) (Eq.mpr (by kernel_rfl) h))

/-- thimblerig/dev.each[[]byte,[]byte] -/
def S_dev_each_byte_byte_1 (x0 : Value) (x1 : Value) (H : Heap) (Q : Value → Heap → Prop) : Prop :=
  lenSl x0 H fun t8 =>
  LoopPT (fun s9 H K9 =>
  binV (.int .i64) .lss (sv s9 1) t8 fun t10 =>
  asB t10 fun b10 =>
  ifB b10 (
  idxS 1 x0 (sv s9 1) fun t11 =>
  loadP false 1 t11 H fun t12 =>
  callV Try.prog x1 [t12] H fun t16 H =>
  bldS 43 1 false (zeroL Try.prog 43) 1 [(0, t16)] H fun t17 H =>
  appS 43 1 24 (zeroL Try.prog 43) (sv s9 0) t17 H fun t18 H =>
  binV (.int .i64) .add (sv s9 1) (.int .i64 1) fun t19 =>
  K9 [[t18], [t19]] H) (
  Q (sv s9 0) H)) [[(.slice none 0 0)], [(.int .i64 0)]] H
theorem S_dev_each_byte_byte_1_of {x0 : Value} {x1 : Value} {H : Heap} {Q : Value → Heap → Prop} (h : S_dev_each_byte_byte_1 x0 x1 H Q) : callV Try.prog (fnV fn_dev_each_byte_byte_1) [x0, x1] H Q :=
  callV_fn (hcalls_of (pv := []) (ann := [(9, [8, 18])]) Try.func86 (by kernel_rfl) (Eq.mpr (by kernel_rfl) h))

/-- thimblerig/dev.Check$1 -/
def S_dev_Check_1 (x0 : Value) (y0 : Value) (H : Heap) (Q : Value → Heap → Prop) : Prop :=
  lenSl x0 H fun t5 =>
  fldP 3 y0 fun t6 =>
  loadP false 1 t6 H fun t7 =>
  binV (.int .i64) .add (.int .i64 8) t7 fun t8 =>
  binV (.int .i64) .neq t5 t8 fun t9 =>
  Q t9 H
theorem S_dev_Check_1_of {x0 : Value} {y0 : Value} {H : Heap} {Q : Value → Heap → Prop} (h : S_dev_Check_1 x0 y0 H Q) : callV Try.prog (fnV fn_dev_Check_1) [x0, y0] H Q :=
  callV_fn (hcalls_of (pv := []) (ann := []) Try.func88 (by kernel_rfl) (Eq.mpr (by kernel_rfl) h))
theorem C_dev_Check_1_of {x0 : Value} {y0 : Value} {H : Heap} {Q : Value → Heap → Prop} (h : S_dev_Check_1 x0 y0 H Q) : callV Try.prog (.func (.func fn_dev_Check_1) #[] #[y0]) [x0] H Q :=
  callV_cl (S_dev_Check_1_of h)

/-- slices.IndexFunc[[]int,int] -/
def S_slices_IndexFunc_int_int (x0 : Value) (x1 : Value) (H : Heap) (Q : Value → Heap → Prop) : Prop :=
  lenSl x0 H fun t7 =>
  LoopPT (fun s9 H K9 =>
  binV (.int .i64) .lss (sv s9 0) t7 fun t9 =>
  asB t9 fun b9 =>
  ifB b9 (
  idxS 1 x0 (sv s9 0) fun t14 =>
  loadP false 1 t14 H fun t15 =>
  callV Try.prog x1 [t15] H fun t16 H =>
  asB t16 fun b16 =>
  ifB b16 (
  Q (sv s9 0) H) (
  binV (.int .i64) .add (sv s9 0) (.int .i64 1) fun t18 =>
  K9 [[t18]] H)) (
  Q (.int .i64 (-1)) H)) [[(.int .i64 0)]] H
theorem S_slices_IndexFunc_int_int_of {x0 : Value} {x1 : Value} {H : Heap} {Q : Value → Heap → Prop} (h : S_slices_IndexFunc_int_int x0 x1 H Q) : callV Try.prog (fnV fn_slices_IndexFunc_int_int) [x0, x1] H Q :=
  callV_fn (hcalls_of (pv := []) (ann := [(9, [16])]) Try.func89 (by kernel_rfl) (Eq.mpr (by kernel_rfl) h))

end Go.Proofs.Ytlalkgkicccjiaa
