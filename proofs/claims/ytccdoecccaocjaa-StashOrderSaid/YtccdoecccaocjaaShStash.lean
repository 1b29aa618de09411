/- Written by sh.py: what functions do, out of the deep reading; each is joined to the program by the kernel. -/
import Derived.Test.YtccdoecccaocjaaShNames
namespace Go.Proofs.Ytccdoecccaocjaa
open Go.Ab
set_option linter.unusedVariables false
set_option linter.unusedSimpArgs false
set_option maxRecDepth 100000

/-- thimblerig/thimblerigref09.Great -/
def S_ref09_Great (x0 : Value) (x1 : Value) (H : Heap) (Q : Value → Heap → Prop) : Prop :=
  LoopPT (fun s12 H K12 =>
  JoinPT (fun K14 =>
  lenSl x0 H fun t9 =>
  binV (.int .i64) .lss (sv s12 1) t9 fun t10 =>
  asB t10 fun b11 =>
  ifB b11 (
  binV (.int .i64) .lss (sv s12 1) (.int .i64 200) fun t13 =>
  K14 [[t13]] H) (
  K14 [[(.bool false)]] H)) fun s14 H =>
  asB (sv s14 0) fun b14 =>
  ifB b14 (
  idxS 3 x0 (sv s12 1) fun t20 =>
  fldP 2 t20 fun t21 =>
  loadP false 1 t21 H fun t22 =>
  lenSl t22 H fun t23 =>
  minV t23 (.int .i64 1000) fun t24 =>
  binV (.int .i64) .add (sv s12 0) t24 fun t25 =>
  binV (.int .i64) .add (sv s12 1) (.int .i64 1) fun t16 =>
  K12 [[t25], [t16]] H) (
  JoinPT (fun K23 =>
  lenSl x0 H fun t27 =>
  binV (.int .i64) .gtr t27 x1 fun t29 =>
  asB t29 fun b30 =>
  ifB b30 (
  K23 [[(.bool true)]] H) (
  binV (.int .i64) .gtr (sv s12 0) (.int .i64 5000) fun t32 =>
  K23 [[t32]] H)) fun s23 H =>
  Q (sv s23 0) H)) [[(.int .i64 0)], [(.int .i64 0)]] H
theorem S_ref09_Great_of {x0 : Value} {x1 : Value} {H : Heap} {Q : Value → Heap → Prop} (h : S_ref09_Great x0 x1 H Q) : callV Try.prog (fnV fn_ref09_Great) [x0, x1] H Q :=
  callV_fn (hcalls_of (pv := []) (ann := [(12, [10, 12]), (14, [28]), (23, [8])]) Try.func9 (by kernel_rfl) (Eq.mpr (by kernel_rfl) h))

/-- thimblerig/stash.Add -/
def S_stash_Add (x0_0 : Value) (x0_1 : Value) (x0_2 : Value) (x0_3 : Value) (x1 : Value) (x2 : Value) (H : Heap) (Q : Value → Heap → Prop) : Prop :=
  newT H fun H =>
  callV Try.prog (fnV fn_stash_Check) [(.agg #[x0_0, x0_1, x0_2, x0_3]), x1] H fun t15 H =>
  binV (.int .i64) .neq t15 (.int .i64 0) fun t17 =>
  asB t17 fun b17 =>
  ifB b17 (
  Q (.tuple #[(.slice none 0 0), t15]) H) (
  callV Try.prog (fnV fn_stash_Twin) [x1] H fun t20 H =>
  newC 24 [(.slice none 0 0)] H fun a9 H =>
  storeP false 1 (.pointer (some ⟨a9, 0, none⟩)) t20 H fun H =>
  lenSl x2 H fun t23 =>
  LoopPT (fun s24 H K24 =>
  binV (.int .i64) .lss (sv s24 0) t23 fun t25 =>
  asB t25 fun b25 =>
  ifB b25 (
  idxS 3 x2 (sv s24 0) fun t26 =>
  loadP true 3 t26 H fun t27 =>
  newT H fun H =>
  cellsV true 3 t27 fun c1 =>
  JoinPT (fun K32 =>
  ifB (decide (0 + 3 ≤ ((setSeg [(.int .i64 0), (.int .i64 0), (.slice none 0 0)] 0 c1)).length)) (
  callV Try.prog (fnV fn_slot_Check) [(.agg #[x0_0, x0_1, x0_2, x0_3]), (.agg (seg (setSeg [(.int .i64 0), (.int .i64 0), (.slice none 0 0)] 0 c1) 0 3).toArray)] H fun t30 H =>
  binV (.int .i64) .neq t30 (.int .i64 0) fun t31 =>
  asB t31 fun b32 =>
  ifB b32 (
  K32 [[(.bool true)]] H) (
  ifB (decide (0 + 1 ≤ ((setSeg [(.int .i64 0), (.int .i64 0), (.slice none 0 0)] 0 c1)).length)) (
  callV Try.prog (.func (.func fn_stash_Add_1) #[] #[(.pointer (some ⟨a9, 0, none⟩))]) [(mkV false (seg (setSeg [(.int .i64 0), (.int .i64 0), (.slice none 0 0)] 0 c1) 0 1))] H fun t36 H =>
  K32 [[t36]] H) False)) False) fun s32 H =>
  asB (sv s32 0) fun b37 =>
  ifB b37 (
  Q (.tuple #[(.slice none 0 0), (.int .i64 8)]) H) (
  loadP false 1 (.pointer (some ⟨a9, 0, none⟩)) H fun t38 =>
  ifB (decide (0 + 3 ≤ ((setSeg [(.int .i64 0), (.int .i64 0), (.slice none 0 0)] 0 c1)).length)) (
  callV Try.prog (fnV fn_stash_put) [t38, (.agg (seg (setSeg [(.int .i64 0), (.int .i64 0), (.slice none 0 0)] 0 c1) 0 3).toArray)] H fun t40 H =>
  storeP false 1 (.pointer (some ⟨a9, 0, none⟩)) t40 H fun H =>
  binV (.int .i64) .add (sv s24 0) (.int .i64 1) fun t41 =>
  K24 [[t41]] H) False)) (
  loadP false 1 (.pointer (some ⟨a9, 0, none⟩)) H fun t42 =>
  Q (.tuple #[t42, (.int .i64 0)]) H)) [[(.int .i64 0)]] H)
theorem S_stash_Add_of {x0_0 : Value} {x0_1 : Value} {x0_2 : Value} {x0_3 : Value} {x1 : Value} {x2 : Value} {H : Heap} {Q : Value → Heap → Prop} (h : S_stash_Add x0_0 x0_1 x0_2 x0_3 x1 x2 H Q) : callV Try.prog (fnV fn_stash_Add) [(.agg #[x0_0, x0_1, x0_2, x0_3]), x1, x2] H Q :=
  callV_fn (hcalls_of (pv := [3, 12]) (ann := [(24, [48]), (32, [74])]) Try.func10 (by kernel_rfl) (Eq.mpr (by kernel_rfl) h))

/-- thimblerig/thimblerigref09.SameAll -/
def S_ref09_SameAll (x0 : Value) (x1 : Value) (H : Heap) (Q : Value → Heap → Prop) : Prop :=
  lenSl x0 H fun t7 =>
  lenSl x1 H fun t9 =>
  binV (.int .i64) .neq t7 t9 fun t10 =>
  asB t10 fun b10 =>
  ifB b10 (
  Q (.bool false) H) (
  LoopPT (fun s15 H K15 =>
  lenSl x0 H fun t13 =>
  binV (.int .i64) .lss (sv s15 0) t13 fun t14 =>
  asB t14 fun b14 =>
  ifB b14 (
  idxS 3 x0 (sv s15 0) fun t19 =>
  loadP true 3 t19 H fun t20 =>
  idxS 3 x1 (sv s15 0) fun t23 =>
  loadP true 3 t23 H fun t24 =>
  callV Try.prog (fnV fn_ref09_Same) [t20, t24] H fun t25 H =>
  unV .not t25 fun t26 =>
  asB t26 fun b26 =>
  ifB b26 (
  Q (.bool false) H) (
  binV (.int .i64) .add (sv s15 0) (.int .i64 1) fun t16 =>
  K15 [[t16]] H)) (
  Q (.bool true) H)) [[(.int .i64 0)]] H)
theorem S_ref09_SameAll_of {x0 : Value} {x1 : Value} {H : Heap} {Q : Value → Heap → Prop} (h : S_ref09_SameAll x0 x1 H Q) : callV Try.prog (fnV fn_ref09_SameAll) [x0, x1] H Q :=
  callV_fn (hcalls_of (pv := []) (ann := [(15, [10])]) Try.func11 (by kernel_rfl) (Eq.mpr (by kernel_rfl) h))

/-- thimblerig/stash.Check -/
def S_stash_Check (x0_0 : Value) (x0_1 : Value) (x0_2 : Value) (x0_3 : Value) (x1 : Value) (H : Heap) (Q : Value → Heap → Prop) : Prop :=
  newT H fun H =>
  callV Try.prog (fnV fn_slot_Slots) [(.agg #[x0_0, x0_1, x0_2, x0_3])] H fun t12 H =>
  extractV 0 t12 fun t13 =>
  extractV 1 t12 fun t14 =>
  binV (.int .i64) .neq t14 (.int .i64 0) fun t16 =>
  asB t16 fun b16 =>
  ifB b16 (
  Q t14 H) (
  lenSl x1 H fun t19 =>
  LoopPT (fun s21 H K21 =>
  binV (.int .i64) .lss (sv s21 1) t19 fun t21 =>
  asB t21 fun b21 =>
  ifB b21 (
  idxS 3 x1 (sv s21 1) fun t22 =>
  loadP true 3 t22 H fun t23 =>
  newT H fun H =>
  cellsV true 3 t23 fun c1 =>
  JoinPT (fun K29 =>
  ifB (decide (0 + 1 ≤ ((setSeg [(.int .i64 0), (.int .i64 0), (.slice none 0 0)] 0 c1)).length)) (
  binV (.int .i64) .leq (mkV false (seg (setSeg [(.int .i64 0), (.int .i64 0), (.slice none 0 0)] 0 c1) 0 1)) (sv s21 0) fun t27 =>
  asB t27 fun b28 =>
  ifB b28 (
  K29 [[(.bool true)]] H) (
  ifB (decide (0 + 3 ≤ ((setSeg [(.int .i64 0), (.int .i64 0), (.slice none 0 0)] 0 c1)).length)) (
  callV Try.prog (fnV fn_slot_Check) [(.agg #[x0_0, x0_1, x0_2, x0_3]), (.agg (seg (setSeg [(.int .i64 0), (.int .i64 0), (.slice none 0 0)] 0 c1) 0 3).toArray)] H fun t31 H =>
  binV (.int .i64) .neq t31 (.int .i64 0) fun t32 =>
  K29 [[t32]] H) False)) False) fun s29 H =>
  asB (sv s29 0) fun b33 =>
  ifB b33 (
  Q (.int .i64 8) H) (
  ifB (decide (0 + 1 ≤ ((setSeg [(.int .i64 0), (.int .i64 0), (.slice none 0 0)] 0 c1)).length)) (
  binV (.int .i64) .add (sv s21 1) (.int .i64 1) fun t36 =>
  K21 [[(mkV false (seg (setSeg [(.int .i64 0), (.int .i64 0), (.slice none 0 0)] 0 c1) 0 1))], [t36]] H) False)) (
  Q (.int .i64 0) H)) [[(.int .i64 (-1))], [(.int .i64 0)]] H)
theorem S_stash_Check_of {x0_0 : Value} {x0_1 : Value} {x0_2 : Value} {x0_3 : Value} {x1 : Value} {H : Heap} {Q : Value → Heap → Prop} (h : S_stash_Check x0_0 x0_1 x0_2 x0_3 x1 H Q) : callV Try.prog (fnV fn_stash_Check) [(.agg #[x0_0, x0_1, x0_2, x0_3]), x1] H Q :=
  callV_fn (hcalls_of (pv := [2, 9]) (ann := [(21, [14, 40]), (29, [66])]) Try.func12 (by kernel_rfl) (Eq.mpr (by kernel_rfl) h))

/-- thimblerig/stash.Put -/
def S_stash_Put (x0_0 : Value) (x0_1 : Value) (x0_2 : Value) (x0_3 : Value) (x1 : Value) (x2_0 : Value) (x2_1 : Value) (x2_2 : Value) (H : Heap) (Q : Value → Heap → Prop) : Prop :=
  newT H fun H =>
  newT H fun H =>
  JoinPT (fun K8 =>
  callV Try.prog (fnV fn_stash_Check) [(.agg #[x0_0, x0_1, x0_2, x0_3]), x1] H fun t10 H =>
  binV (.int .i64) .neq t10 (.int .i64 0) fun t11 =>
  asB t11 fun b12 =>
  ifB b12 (
  K8 [[(.bool true)]] H) (
  callV Try.prog (fnV fn_slot_Check) [(.agg #[x0_0, x0_1, x0_2, x0_3]), (.agg #[x2_0, x2_1, x2_2])] H fun t15 H =>
  binV (.int .i64) .neq t15 (.int .i64 0) fun t16 =>
  K8 [[t16]] H)) fun s8 H =>
  asB (sv s8 0) fun b17 =>
  ifB b17 (
  Q (.tuple #[(.slice none 0 0), (.int .i64 8)]) H) (
  callV Try.prog (fnV fn_stash_Twin) [x1] H fun t19 H =>
  callV Try.prog (fnV fn_stash_put) [t19, (.agg #[x2_0, x2_1, x2_2])] H fun t21 H =>
  Q (.tuple #[t21, (.int .i64 0)]) H)
theorem S_stash_Put_of {x0_0 : Value} {x0_1 : Value} {x0_2 : Value} {x0_3 : Value} {x1 : Value} {x2_0 : Value} {x2_1 : Value} {x2_2 : Value} {H : Heap} {Q : Value → Heap → Prop} (h : S_stash_Put x0_0 x0_1 x0_2 x0_3 x1 x2_0 x2_1 x2_2 H Q) : callV Try.prog (fnV fn_stash_Put) [(.agg #[x0_0, x0_1, x0_2, x0_3]), x1, (.agg #[x2_0, x2_1, x2_2])] H Q :=
  callV_fn (hcalls_of (pv := [3, 5]) (ann := [(8, [34])]) Try.func13 (by kernel_rfl) (Eq.mpr (by kernel_rfl) h))

/-- thimblerig/stash.Find -/
def S_stash_Find (x0_0 : Value) (x0_1 : Value) (x0_2 : Value) (x0_3 : Value) (x1 : Value) (x2 : Value) (H : Heap) (Q : Value → Heap → Prop) : Prop :=
  newT H fun H =>
  newT H fun H =>
  callV Try.prog (fnV fn_stash_Check) [(.agg #[x0_0, x0_1, x0_2, x0_3]), x1] H fun t12 H =>
  binV (.int .i64) .neq t12 (.int .i64 0) fun t13 =>
  asB t13 fun b13 =>
  ifB b13 (
  Q (.tuple #[(.agg #[(.int .i64 0), (.int .i64 0), (.slice none 0 0)]), (.bool false)]) H) (
  callV Try.prog (fnV fn_stash_ids) [x1] H fun t17 H =>
  callV Try.prog (fnV fn_stash_order_api_Block_find) [t17, x2] H fun t19 H =>
  extractV 0 t19 fun t20 =>
  extractV 1 t19 fun t21 =>
  unV .not t21 fun t23 =>
  asB t23 fun b23 =>
  ifB b23 (
  Q (.tuple #[(.agg #[(.int .i64 0), (.int .i64 0), (.slice none 0 0)]), (.bool false)]) H) (
  idxS 3 x1 t20 fun t27 =>
  loadP true 3 t27 H fun t28 =>
  callV Try.prog (fnV fn_slot_Twin) [t28] H fun t29 H =>
  cellsV true 3 t29 fun c1 =>
  ifB (decide (0 + 3 ≤ ((setSeg [(.int .i64 0), (.int .i64 0), (.slice none 0 0)] 0 c1)).length)) (
  Q (.tuple #[(.agg (seg (setSeg [(.int .i64 0), (.int .i64 0), (.slice none 0 0)] 0 c1) 0 3).toArray), (.bool true)]) H) False))
theorem S_stash_Find_of {x0_0 : Value} {x0_1 : Value} {x0_2 : Value} {x0_3 : Value} {x1 : Value} {x2 : Value} {H : Heap} {Q : Value → Heap → Prop} (h : S_stash_Find x0_0 x0_1 x0_2 x0_3 x1 x2 H Q) : callV Try.prog (fnV fn_stash_Find) [(.agg #[x0_0, x0_1, x0_2, x0_3]), x1, x2] H Q :=
  callV_fn (hcalls_of (pv := [3, 6]) (ann := []) Try.func14 (by kernel_rfl) (Eq.mpr (by kernel_rfl) h))

/-- thimblerig/stash.Drop -/
def S_stash_Drop (x0_0 : Value) (x0_1 : Value) (x0_2 : Value) (x0_3 : Value) (x1 : Value) (x2 : Value) (H : Heap) (Q : Value → Heap → Prop) : Prop :=
  newT H fun H =>
  callV Try.prog (fnV fn_stash_Check) [(.agg #[x0_0, x0_1, x0_2, x0_3]), x1] H fun t13 H =>
  binV (.int .i64) .neq t13 (.int .i64 0) fun t15 =>
  asB t15 fun b15 =>
  ifB b15 (
  Q (.tuple #[(.slice none 0 0), t13]) H) (
  callV Try.prog (fnV fn_stash_ids) [x1] H fun t19 H =>
  callV Try.prog (fnV fn_stash_order_api_Block_find) [t19, x2] H fun t21 H =>
  extractV 0 t21 fun t22 =>
  extractV 1 t21 fun t23 =>
  unV .not t23 fun t25 =>
  asB t25 fun b25 =>
  ifB b25 (
  Q (.tuple #[(.slice none 0 0), (.int .i64 6)]) H) (
  callV Try.prog (fnV fn_stash_Twin) [x1] H fun t27 H =>
  binV (.int .i64) .add t22 (.int .i64 1) fun t30 =>
  callV Try.prog (fnV fn_slices_Delete_api_Block_api_Block) [t27, t22, t30] H fun t31 H =>
  Q (.tuple #[t31, (.int .i64 0)]) H))
theorem S_stash_Drop_of {x0_0 : Value} {x0_1 : Value} {x0_2 : Value} {x0_3 : Value} {x1 : Value} {x2 : Value} {H : Heap} {Q : Value → Heap → Prop} (h : S_stash_Drop x0_0 x0_1 x0_2 x0_3 x1 x2 H Q) : callV Try.prog (fnV fn_stash_Drop) [(.agg #[x0_0, x0_1, x0_2, x0_3]), x1, x2] H Q :=
  callV_fn (hcalls_of (pv := [3]) (ann := []) Try.func15 (by kernel_rfl) (Eq.mpr (by kernel_rfl) h))

/-- thimblerig/thimblerigref09.Same -/
def S_ref09_Same (x0_0 : Value) (x0_1 : Value) (x0_2 : Value) (x1_0 : Value) (x1_1 : Value) (x1_2 : Value) (H : Heap) (Q : Value → Heap → Prop) : Prop :=
  newT H fun H =>
  newT H fun H =>
  JoinPT (fun K8 =>
  binV (.int .i64) .eql x0_0 x1_0 fun t9 =>
  asB t9 fun b10 =>
  ifB b10 (
  binV (.int .i64) .eql x0_1 x1_1 fun t15 =>
  asB t15 fun b17 =>
  ifB b17 (
  callV Try.prog (fnV fn_ref01_Same) [x0_2, x1_2] H fun t22 H =>
  K8 [[t22]] H) (
  K8 [[(.bool false)]] H)) (
  K8 [[(.bool false)]] H)) fun s8 H =>
  Q (sv s8 0) H
theorem S_ref09_Same_of {x0_0 : Value} {x0_1 : Value} {x0_2 : Value} {x1_0 : Value} {x1_1 : Value} {x1_2 : Value} {H : Heap} {Q : Value → Heap → Prop} (h : S_ref09_Same x0_0 x0_1 x0_2 x1_0 x1_1 x1_2 H Q) : callV Try.prog (fnV fn_ref09_Same) [(.agg #[x0_0, x0_1, x0_2]), (.agg #[x1_0, x1_1, x1_2])] H Q :=
  callV_fn (hcalls_of (pv := [2, 3]) (ann := [(8, [8])]) Try.func16 (by kernel_rfl) (Eq.mpr (by kernel_rfl) h))

/-- thimblerig/thimblerigref09.TwinAll -/
def S_ref09_TwinAll (x0 : Value) (H : Heap) (Q : Value → Heap → Prop) : Prop :=
  LoopPT (fun s12 H K12 =>
  lenSl x0 H fun t7 =>
  binV (.int .i64) .lss (sv s12 1) t7 fun t8 =>
  asB t8 fun b8 =>
  ifB b8 (
  idxS 3 x0 (sv s12 1) fun t14 =>
  loadP true 3 t14 H fun t15 =>
  callV Try.prog (fnV fn_ref09_Twin) [t15] H fun t16 H =>
  bldS 27 3 true (zeroL Try.prog 27) 1 [(0, t16)] H fun t17 H =>
  appS 27 3 40 (zeroL Try.prog 27) (sv s12 0) t17 H fun t18 H =>
  binV (.int .i64) .add (sv s12 1) (.int .i64 1) fun t10 =>
  K12 [[t18], [t10]] H) (
  Q (sv s12 0) H)) [[(.slice none 0 0)], [(.int .i64 0)]] H
theorem S_ref09_TwinAll_of {x0 : Value} {H : Heap} {Q : Value → Heap → Prop} (h : S_ref09_TwinAll x0 H Q) : callV Try.prog (fnV fn_ref09_TwinAll) [x0] H Q :=
  callV_fn (hcalls_of (pv := []) (ann := [(12, [6, 8])]) Try.func20 (by kernel_rfl) (Eq.mpr (by kernel_rfl) h))

/-- thimblerig/thimblerigref16.Find -/
def S_ref16_Find (x0_0 : Value) (x0_1 : Value) (x0_2 : Value) (x0_3 : Value) (x1 : Value) (x2 : Value) (H : Heap) (Q : Value → Heap → Prop) : Prop :=
  newT H fun H =>
  newT H fun H =>
  JoinPT (fun K8 =>
  callV Try.prog (fnV fn_ref16_Check) [(.agg #[x0_0, x0_1, x0_2, x0_3]), x1] H fun t10 H =>
  binV (.int .i64) .neq t10 (.int .i64 0) fun t11 =>
  asB t11 fun b12 =>
  ifB b12 (
  K8 [[(.bool true)]] H) (
  callV Try.prog (fnV fn_ref16_At) [x1, x2] H fun t15 H =>
  binV (.int .i64) .lss t15 (.int .i64 0) fun t16 =>
  K8 [[t16]] H)) fun s8 H =>
  asB (sv s8 0) fun b17 =>
  ifB b17 (
  Q (.tuple #[(.agg #[(.int .i64 0), (.int .i64 0), (.slice none 0 0)]), (.bool false)]) H) (
  callV Try.prog (fnV fn_ref16_At) [x1, x2] H fun t22 H =>
  idxS 3 x1 t22 fun t23 =>
  loadP true 3 t23 H fun t24 =>
  callV Try.prog (fnV fn_ref09_Twin) [t24] H fun t25 H =>
  cellsV true 3 t25 fun c1 =>
  ifB (decide (0 + 3 ≤ ((setSeg [(.int .i64 0), (.int .i64 0), (.slice none 0 0)] 0 c1)).length)) (
  Q (.tuple #[(.agg (seg (setSeg [(.int .i64 0), (.int .i64 0), (.slice none 0 0)] 0 c1) 0 3).toArray), (.bool true)]) H) False)
theorem S_ref16_Find_of {x0_0 : Value} {x0_1 : Value} {x0_2 : Value} {x0_3 : Value} {x1 : Value} {x2 : Value} {H : Heap} {Q : Value → Heap → Prop} (h : S_ref16_Find x0_0 x0_1 x0_2 x0_3 x1 x2 H Q) : callV Try.prog (fnV fn_ref16_Find) [(.agg #[x0_0, x0_1, x0_2, x0_3]), x1, x2] H Q :=
  callV_fn (hcalls_of (pv := [3, 6]) (ann := [(8, [34])]) Try.func21 (by kernel_rfl) (Eq.mpr (by kernel_rfl) h))

/-- thimblerig/thimblerigref16.Put -/
def S_ref16_Put (x0_0 : Value) (x0_1 : Value) (x0_2 : Value) (x0_3 : Value) (x1 : Value) (x2_0 : Value) (x2_1 : Value) (x2_2 : Value) (H : Heap) (Q : Value → Heap → Prop) : Prop :=
  newT H fun H =>
  newT H fun H =>
  JoinPT (fun K8 =>
  callV Try.prog (fnV fn_ref16_Check) [(.agg #[x0_0, x0_1, x0_2, x0_3]), x1] H fun t10 H =>
  binV (.int .i64) .neq t10 (.int .i64 0) fun t11 =>
  asB t11 fun b12 =>
  ifB b12 (
  K8 [[(.bool true)]] H) (
  callV Try.prog (fnV fn_ref09_May) [(.agg #[x0_0, x0_1, x0_2, x0_3]), (.agg #[x2_0, x2_1, x2_2])] H fun t15 H =>
  unV .not t15 fun t16 =>
  K8 [[t16]] H)) fun s8 H =>
  asB (sv s8 0) fun b17 =>
  ifB b17 (
  Q (.tuple #[(.slice none 0 0), (.int .i64 8)]) H) (
  callV Try.prog (fnV fn_ref16_With) [x1, (.agg #[x2_0, x2_1, x2_2])] H fun t20 H =>
  Q (.tuple #[t20, (.int .i64 0)]) H)
theorem S_ref16_Put_of {x0_0 : Value} {x0_1 : Value} {x0_2 : Value} {x0_3 : Value} {x1 : Value} {x2_0 : Value} {x2_1 : Value} {x2_2 : Value} {H : Heap} {Q : Value → Heap → Prop} (h : S_ref16_Put x0_0 x0_1 x0_2 x0_3 x1 x2_0 x2_1 x2_2 H Q) : callV Try.prog (fnV fn_ref16_Put) [(.agg #[x0_0, x0_1, x0_2, x0_3]), x1, (.agg #[x2_0, x2_1, x2_2])] H Q :=
  callV_fn (hcalls_of (pv := [3, 5]) (ann := [(8, [34])]) Try.func22 (by kernel_rfl) (Eq.mpr (by kernel_rfl) h))

/-- thimblerig/thimblerigref16.Drop -/
def S_ref16_Drop (x0_0 : Value) (x0_1 : Value) (x0_2 : Value) (x0_3 : Value) (x1 : Value) (x2 : Value) (H : Heap) (Q : Value → Heap → Prop) : Prop :=
  newT H fun H =>
  callV Try.prog (fnV fn_ref16_Check) [(.agg #[x0_0, x0_1, x0_2, x0_3]), x1] H fun t10 H =>
  binV (.int .i64) .neq t10 (.int .i64 0) fun t11 =>
  asB t11 fun b11 =>
  ifB b11 (
  Q (.tuple #[(.slice none 0 0), (.int .i64 8)]) H) (
  callV Try.prog (fnV fn_ref16_At) [x1, x2] H fun t14 H =>
  binV (.int .i64) .lss t14 (.int .i64 0) fun t15 =>
  asB t15 fun b15 =>
  ifB b15 (
  Q (.tuple #[(.slice none 0 0), (.int .i64 6)]) H) (
  callV Try.prog (fnV fn_ref16_Without) [x1, x2] H fun t18 H =>
  Q (.tuple #[t18, (.int .i64 0)]) H))
theorem S_ref16_Drop_of {x0_0 : Value} {x0_1 : Value} {x0_2 : Value} {x0_3 : Value} {x1 : Value} {x2 : Value} {H : Heap} {Q : Value → Heap → Prop} (h : S_ref16_Drop x0_0 x0_1 x0_2 x0_3 x1 x2 H Q) : callV Try.prog (fnV fn_ref16_Drop) [(.agg #[x0_0, x0_1, x0_2, x0_3]), x1, x2] H Q :=
  callV_fn (hcalls_of (pv := [3]) (ann := []) Try.func23 (by kernel_rfl) (Eq.mpr (by kernel_rfl) h))

/-- thimblerig/thimblerigref16.Add -/
def S_ref16_Add (x0_0 : Value) (x0_1 : Value) (x0_2 : Value) (x0_3 : Value) (x1 : Value) (x2 : Value) (H : Heap) (Q : Value → Heap → Prop) : Prop :=
  newT H fun H =>
  callV Try.prog (fnV fn_ref16_Check) [(.agg #[x0_0, x0_1, x0_2, x0_3]), x1] H fun t13 H =>
  binV (.int .i64) .neq t13 (.int .i64 0) fun t14 =>
  asB t14 fun b14 =>
  ifB b14 (
  Q (.tuple #[(.slice none 0 0), (.int .i64 8)]) H) (
  LoopPT (fun s15 H K15 =>
  lenSl x2 H fun t17 =>
  binV (.int .i64) .lss (sv s15 0) t17 fun t18 =>
  asB t18 fun b18 =>
  ifB b18 (
  idxS 3 x2 (sv s15 0) fun t24 =>
  loadP true 3 t24 H fun t25 =>
  callV Try.prog (fnV fn_ref09_May) [(.agg #[x0_0, x0_1, x0_2, x0_3]), t25] H fun t26 H =>
  unV .not t26 fun t27 =>
  asB t27 fun b27 =>
  ifB b27 (
  Q (.tuple #[(.slice none 0 0), (.int .i64 8)]) H) (
  binV (.int .i64) .add (sv s15 0) (.int .i64 1) fun t20 =>
  K15 [[t20]] H)) (
  callV Try.prog (fnV fn_ref16_More) [x1, x2] H fun t31 H =>
  extractV 0 t31 fun t32 =>
  extractV 1 t31 fun t33 =>
  unV .not t33 fun t35 =>
  asB t35 fun b35 =>
  ifB b35 (
  Q (.tuple #[(.slice none 0 0), (.int .i64 8)]) H) (
  Q (.tuple #[t32, (.int .i64 0)]) H))) [[(.int .i64 0)]] H)
theorem S_ref16_Add_of {x0_0 : Value} {x0_1 : Value} {x0_2 : Value} {x0_3 : Value} {x1 : Value} {x2 : Value} {H : Heap} {Q : Value → Heap → Prop} (h : S_ref16_Add x0_0 x0_1 x0_2 x0_3 x1 x2 H Q) : callV Try.prog (fnV fn_ref16_Add) [(.agg #[x0_0, x0_1, x0_2, x0_3]), x1, x2] H Q :=
  callV_fn (hcalls_of (pv := [3]) (ann := [(15, [16])]) Try.func24 (by kernel_rfl) (Eq.mpr (by kernel_rfl) h))

/-- thimblerig/stash.Twin -/
def S_stash_Twin (x0 : Value) (H : Heap) (Q : Value → Heap → Prop) : Prop :=
  callV Try.prog (fnV fn_slices_Clone_api_Block_api_Block) [x0] H fun t7 H =>
  lenSl t7 H fun t9 =>
  LoopPT (fun s12 H K12 =>
  binV (.int .i64) .lss (sv s12 0) t9 fun t11 =>
  asB t11 fun b11 =>
  ifB b11 (
  idxS 3 t7 (sv s12 0) fun t13 =>
  loadP true 3 t13 H fun t14 =>
  newT H fun H =>
  cellsV true 3 t14 fun c1 =>
  ifB (decide (0 + 3 ≤ ((setSeg [(.int .i64 0), (.int .i64 0), (.slice none 0 0)] 0 c1)).length)) (
  callV Try.prog (fnV fn_slot_Twin) [(.agg (seg (setSeg [(.int .i64 0), (.int .i64 0), (.slice none 0 0)] 0 c1) 0 3).toArray)] H fun t18 H =>
  idxS 3 t7 (sv s12 0) fun t19 =>
  storeP true 3 t19 t18 H fun H =>
  binV (.int .i64) .add (sv s12 0) (.int .i64 1) fun t20 =>
  K12 [[t20]] H) False) (
  Q t7 H)) [[(.int .i64 0)]] H
theorem S_stash_Twin_of {x0 : Value} {H : Heap} {Q : Value → Heap → Prop} (h : S_stash_Twin x0 H Q) : callV Try.prog (fnV fn_stash_Twin) [x0] H Q :=
  callV_fn (hcalls_of (pv := [5]) (ann := [(12, [20])]) Try.func25 (by kernel_rfl) (Eq.mpr (by kernel_rfl) h))

/-- thimblerig/thimblerigref16.Check -/
def S_ref16_Check (x0_0 : Value) (x0_1 : Value) (x0_2 : Value) (x0_3 : Value) (x1 : Value) (H : Heap) (Q : Value → Heap → Prop) : Prop :=
  newT H fun H =>
  JoinPT (fun K8 =>
  callV Try.prog (fnV fn_ref09_Many) [(.agg #[x0_0, x0_1, x0_2, x0_3])] H fun t6 H =>
  binV (.int .i64) .lss t6 (.int .i64 1) fun t7 =>
  asB t7 fun b8 =>
  ifB b8 (
  K8 [[(.bool true)]] H) (
  callV Try.prog (fnV fn_ref16_May) [(.agg #[x0_0, x0_1, x0_2, x0_3]), x1] H fun t11 H =>
  unV .not t11 fun t12 =>
  K8 [[t12]] H)) fun s8 H =>
  asB (sv s8 0) fun b13 =>
  ifB b13 (
  Q (.int .i64 8) H) (
  Q (.int .i64 0) H)
theorem S_ref16_Check_of {x0_0 : Value} {x0_1 : Value} {x0_2 : Value} {x0_3 : Value} {x1 : Value} {H : Heap} {Q : Value → Heap → Prop} (h : S_ref16_Check x0_0 x0_1 x0_2 x0_3 x1 H Q) : callV Try.prog (fnV fn_ref16_Check) [(.agg #[x0_0, x0_1, x0_2, x0_3]), x1] H Q :=
  callV_fn (hcalls_of (pv := [2]) (ann := [(8, [26])]) Try.func26 (by kernel_rfl) (Eq.mpr (by kernel_rfl) h))

/-- thimblerig/stash.Same -/
def S_stash_Same (x0 : Value) (x1 : Value) (H : Heap) (Q : Value → Heap → Prop) : Prop :=
  callV Try.prog (fnV fn_slices_EqualFunc_api_Block_api_Block_api_Block_api_Block) [x0, x1, (fnV fn_slot_Same)] H fun t7 H =>
  Q t7 H
theorem S_stash_Same_of {x0 : Value} {x1 : Value} {H : Heap} {Q : Value → Heap → Prop} (h : S_stash_Same x0 x1 H Q) : callV Try.prog (fnV fn_stash_Same) [x0, x1] H Q :=
  callV_fn (hcalls_of (pv := []) (ann := []) Try.func27 (by kernel_rfl) (Eq.mpr (by kernel_rfl) h))

/-- thimblerig/stash.Add$1 -/
def S_stash_Add_1 (x0 : Value) (y0 : Value) (H : Heap) (Q : Value → Heap → Prop) : Prop :=
  loadP false 1 y0 H fun t7 =>
  callV Try.prog (fnV fn_stash_ids) [t7] H fun t8 H =>
  callV Try.prog (fnV fn_stash_order_api_Block_find) [t8, x0] H fun t10 H =>
  extractV 0 t10 fun t11 =>
  extractV 1 t10 fun t12 =>
  Q t12 H
theorem S_stash_Add_1_of {x0 : Value} {y0 : Value} {H : Heap} {Q : Value → Heap → Prop} (h : S_stash_Add_1 x0 y0 H Q) : callV Try.prog (fnV fn_stash_Add_1) [x0, y0] H Q :=
  callV_fn (hcalls_of (pv := []) (ann := []) Try.func42 (by kernel_rfl) (Eq.mpr (by kernel_rfl) h))
theorem C_stash_Add_1_of {x0 : Value} {y0 : Value} {H : Heap} {Q : Value → Heap → Prop} (h : S_stash_Add_1 x0 y0 H Q) : callV Try.prog (.func (.func fn_stash_Add_1) #[] #[y0]) [x0] H Q :=
  callV_cl (S_stash_Add_1_of h)

/-- thimblerig/stash.ids -/
def S_stash_ids (x0 : Value) (H : Heap) (Q : Value → Heap → Prop) : Prop :=
  newT H fun H =>
  ifB (okc x0) (
  ifB ([x0, (fnV fn_stash_ids_1)].all okc) (
  Q (.agg #[x0, (fnV fn_stash_ids_1)]) H) False) False
theorem S_stash_ids_of {x0 : Value} {H : Heap} {Q : Value → Heap → Prop} (h : S_stash_ids x0 H Q) : callV Try.prog (fnV fn_stash_ids) [x0] H Q :=
  callV_fn (hcalls_of (pv := [2]) (ann := []) Try.func43 (by kernel_rfl) (Eq.mpr (by kernel_rfl) h))

/-- (thimblerig/stash.order[thimblerig/api.Block]).find -/
def S_stash_order_api_Block_find (x0_0 : Value) (x0_1 : Value) (x1 : Value) (H : Heap) (Q : Value → Heap → Prop) : Prop :=
  newT H fun H =>
  lenSl x0_0 H fun t11 =>
  LoopPT (fun s9 H K9 =>
  binV (.int .i64) .lss (sv s9 0) (sv s9 1) fun t14 =>
  asB t14 fun b14 =>
  ifB b14 (
  binV (.int .i64) .add (sv s9 0) (sv s9 1) fun t17 =>
  binV (.int .i64) .quo t17 (.int .i64 2) fun t18 =>
  idxS 3 x0_0 t18 fun t24 =>
  loadP true 3 t24 H fun t25 =>
  callV Try.prog x0_1 [t25] H fun t26 H =>
  binV (.int .i64) .lss t26 x1 fun t28 =>
  asB t28 fun b28 =>
  JoinPT (fun K18 =>
  ifB b28 (
  binV (.int .i64) .add t18 (.int .i64 1) fun t30 =>
  K18 [[t30], [(sv s9 1)]] H) (
  K18 [[(sv s9 0)], [t18]] H)) fun s18 H =>
  K9 [[(sv s18 0)], [(sv s18 1)]] H) (
  JoinPT (fun K26 =>
  lenSl x0_0 H fun t36 =>
  binV (.int .i64) .lss (sv s9 0) t36 fun t37 =>
  asB t37 fun b38 =>
  ifB b38 (
  idxS 3 x0_0 (sv s9 0) fun t44 =>
  loadP true 3 t44 H fun t45 =>
  callV Try.prog x0_1 [t45] H fun t46 H =>
  (lenSl x0_0 H fun u36 =>
  u36 = t36) ∧
  (binV (.int .i64) .eql t46 x1 fun t48 =>
  K26 [[(sv s9 0)], [t48]] H)) (
  (lenSl x0_0 H fun u36 =>
  u36 = t36) ∧
  (K26 [[(sv s9 0)], [(.bool false)]] H))) fun s26 H =>
  Q (.tuple #[(sv s26 0), (sv s26 1)]) H)) [[(.int .i64 0)], [t11]] H
theorem S_stash_order_api_Block_find_of {x0_0 : Value} {x0_1 : Value} {x1 : Value} {H : Heap} {Q : Value → Heap → Prop} (h : S_stash_order_api_Block_find x0_0 x0_1 x1 H Q) : callV Try.prog (fnV fn_stash_order_api_Block_find) [(.agg #[x0_0, x0_1]), x1] H Q :=
  callV_fn (hcalls_of (pv := [2]) (ann := [(9, [12, 14]), (18, [12, 14]), (26, [8, 10])]) Try.func44 (by kernel_rfl) (Eq.mpr (by kernel_rfl) h))

/-- thimblerig/slot.Check -/
def S_slot_Check (x0_0 : Value) (x0_1 : Value) (x0_2 : Value) (x0_3 : Value) (x1_0 : Value) (x1_1 : Value) (x1_2 : Value) (H : Heap) (Q : Value → Heap → Prop) : Prop :=
  newT H fun H =>
  newT H fun H =>
  callV Try.prog (fnV fn_slot_Slots) [(.agg #[x0_0, x0_1, x0_2, x0_3])] H fun t11 H =>
  extractV 0 t11 fun t12 =>
  extractV 1 t11 fun t13 =>
  binV (.int .i64) .neq t13 (.int .i64 0) fun t15 =>
  asB t15 fun b15 =>
  ifB b15 (
  Q t13 H) (
  callV Try.prog (fnV fn_geo_Leaves) [x0_2] H fun t20 H =>
  extractV 0 t20 fun t21 =>
  extractV 1 t20 fun t22 =>
  JoinPT (fun K20 =>
  binV (.int .i64) .lss x1_0 (.int .i64 0) fun t25 =>
  asB t25 fun b26 =>
  ifB b26 (
  K20 [[(.bool true)]] H) (
  binV (.int .i64) .geq x1_0 x0_0 fun t31 =>
  asB t31 fun b33 =>
  ifB b33 (
  K20 [[(.bool true)]] H) (
  binV (.int .i64) .lss x1_1 (.int .i64 0) fun t36 =>
  asB t36 fun b38 =>
  ifB b38 (
  K20 [[(.bool true)]] H) (
  binV (.int .i64) .geq x1_1 t21 fun t42 =>
  asB t42 fun b44 =>
  ifB b44 (
  K20 [[(.bool true)]] H) (
  lenSl x1_2 H fun t47 =>
  binV (.int .i64) .neq t47 x0_1 fun t50 =>
  K20 [[t50]] H))))) fun s20 H =>
  asB (sv s20 0) fun b51 =>
  ifB b51 (
  Q (.int .i64 8) H) (
  Q (.int .i64 0) H))
theorem S_slot_Check_of {x0_0 : Value} {x0_1 : Value} {x0_2 : Value} {x0_3 : Value} {x1_0 : Value} {x1_1 : Value} {x1_2 : Value} {H : Heap} {Q : Value → Heap → Prop} (h : S_slot_Check x0_0 x0_1 x0_2 x0_3 x1_0 x1_1 x1_2 H Q) : callV Try.prog (fnV fn_slot_Check) [(.agg #[x0_0, x0_1, x0_2, x0_3]), (.agg #[x1_0, x1_1, x1_2])] H Q :=
  callV_fn (hcalls_of (pv := [2, 3]) (ann := [(20, [102])]) Try.func45 (by kernel_rfl) (Eq.mpr (by kernel_rfl) h))

/-- thimblerig/stash.put -/
def S_stash_put (x0 : Value) (x1_0 : Value) (x1_1 : Value) (x1_2 : Value) (H : Heap) (Q : Value → Heap → Prop) : Prop :=
  newT H fun H =>
  callV Try.prog (fnV fn_stash_ids) [x0] H fun t9 H =>
  callV Try.prog (fnV fn_stash_order_api_Block_find) [t9, x1_0] H fun t12 H =>
  extractV 0 t12 fun t13 =>
  extractV 1 t12 fun t14 =>
  asB t14 fun b15 =>
  ifB b15 (
  callV Try.prog (fnV fn_slot_Twin) [(.agg #[x1_0, x1_1, x1_2])] H fun t19 H =>
  idxS 3 x0 t13 fun t20 =>
  storeP true 3 t20 t19 H fun H =>
  Q x0 H) (
  callV Try.prog (fnV fn_slot_Twin) [(.agg #[x1_0, x1_1, x1_2])] H fun t25 H =>
  bldS 27 3 true (zeroL Try.prog 27) 1 [(0, t25)] H fun t26 H =>
  callV Try.prog (fnV fn_slices_Insert_api_Block_api_Block) [x0, t13, t26] H fun t27 H =>
  Q t27 H)
theorem S_stash_put_of {x0 : Value} {x1_0 : Value} {x1_1 : Value} {x1_2 : Value} {H : Heap} {Q : Value → Heap → Prop} (h : S_stash_put x0 x1_0 x1_1 x1_2 H Q) : callV Try.prog (fnV fn_stash_put) [x0, (.agg #[x1_0, x1_1, x1_2])] H Q :=
  callV_fn (hcalls_of (pv := [3]) (ann := []) Try.func46 (by kernel_rfl) (Eq.mpr (by kernel_rfl) h))

/-- thimblerig/slot.Slots -/
def S_slot_Slots (x0_0 : Value) (x0_1 : Value) (x0_2 : Value) (x0_3 : Value) (H : Heap) (Q : Value → Heap → Prop) : Prop :=
  newT H fun H =>
  callV Try.prog (fnV fn_geo_Leaves) [x0_2] H fun t11 H =>
  extractV 0 t11 fun t12 =>
  extractV 1 t11 fun t13 =>
  JoinPT (fun K11 =>
  binV (.int .i64) .neq t13 (.int .i64 0) fun t15 =>
  asB t15 fun b16 =>
  ifB b16 (
  K11 [[(.bool true)]] H) (
  binV (.int .i64) .lss x0_0 (.int .i64 1) fun t19 =>
  asB t19 fun b21 =>
  ifB b21 (
  K11 [[(.bool true)]] H) (
  minV (.int .i64 64) t12 fun t25 =>
  binV (.int .i64) .gtr x0_0 t25 fun t26 =>
  asB t26 fun b28 =>
  ifB b28 (
  K11 [[(.bool true)]] H) (
  binV (.int .i64) .lss x0_1 (.int .i64 1) fun t31 =>
  asB t31 fun b33 =>
  ifB b33 (
  K11 [[(.bool true)]] H) (
  binV (.int .i64) .gtr x0_1 (.int .i64 32) fun t36 =>
  K11 [[t36]] H))))) fun s11 H =>
  asB (sv s11 0) fun b37 =>
  ifB b37 (
  Q (.tuple #[(.int .i64 0), (.int .i64 8)]) H) (
  binV (.int .i64) .add (.int .i64 8) x0_1 fun t40 =>
  binV (.int .i64) .sub x0_3 (.int .i64 64) fun t43 =>
  JoinPT (fun K20 =>
  binV (.int .i64) .lss t43 t40 fun t46 =>
  asB t46 fun b47 =>
  ifB b47 (
  K20 [[(.bool true)]] H) (
  binV (.int .i64) .mul (.int .i64 4) t40 fun t50 =>
  binV (.int .i64) .gtr t43 t50 fun t51 =>
  asB t51 fun b53 =>
  ifB b53 (
  K20 [[(.bool true)]] H) (
  binV (.int .i64) .rem t43 t40 fun t56 =>
  binV (.int .i64) .gtr t56 (.int .i64 0) fun t57 =>
  K20 [[t57]] H))) fun s20 H =>
  asB (sv s20 0) fun b58 =>
  ifB b58 (
  Q (.tuple #[(.int .i64 0), (.int .i64 8)]) H) (
  binV (.int .i64) .quo t43 t40 fun t61 =>
  Q (.tuple #[t61, (.int .i64 0)]) H))
theorem S_slot_Slots_of {x0_0 : Value} {x0_1 : Value} {x0_2 : Value} {x0_3 : Value} {H : Heap} {Q : Value → Heap → Prop} (h : S_slot_Slots x0_0 x0_1 x0_2 x0_3 H Q) : callV Try.prog (fnV fn_slot_Slots) [(.agg #[x0_0, x0_1, x0_2, x0_3])] H Q :=
  callV_fn (hcalls_of (pv := [1]) (ann := [(11, [74]), (20, [116])]) Try.func47 (by kernel_rfl) (Eq.mpr (by kernel_rfl) h))

/-- thimblerig/slot.Twin -/
def S_slot_Twin (x0_0 : Value) (x0_1 : Value) (x0_2 : Value) (H : Heap) (Q : Value → Heap → Prop) : Prop :=
  newT H fun H =>
  newT H fun H =>
  callV Try.prog (fnV fn_slices_Clone_byte_byte) [x0_2] H fun t5 H =>
  ifB (okc t5) (
  ifB ([x0_0, x0_1, t5].all okc) (
  Q (.agg #[x0_0, x0_1, t5]) H) False) False
theorem S_slot_Twin_of {x0_0 : Value} {x0_1 : Value} {x0_2 : Value} {H : Heap} {Q : Value → Heap → Prop} (h : S_slot_Twin x0_0 x0_1 x0_2 H Q) : callV Try.prog (fnV fn_slot_Twin) [(.agg #[x0_0, x0_1, x0_2])] H Q :=
  callV_fn (hcalls_of (pv := [1, 2]) (ann := []) Try.func48 (by kernel_rfl) (Eq.mpr (by kernel_rfl) h))

/-- thimblerig/thimblerigref09.Twin -/
def S_ref09_Twin (x0_0 : Value) (x0_1 : Value) (x0_2 : Value) (H : Heap) (Q : Value → Heap → Prop) : Prop :=
  newT H fun H =>
  newT H fun H =>
  bldS 5 1 false (zeroL Try.prog 5) 0 [] H fun t3 H =>
  appS 5 1 1 (zeroL Try.prog 5) t3 x0_2 H fun t6 H =>
  ifB (okc t6) (
  ifB ([x0_0, x0_1, t6].all okc) (
  Q (.agg #[x0_0, x0_1, t6]) H) False) False
theorem S_ref09_Twin_of {x0_0 : Value} {x0_1 : Value} {x0_2 : Value} {H : Heap} {Q : Value → Heap → Prop} (h : S_ref09_Twin x0_0 x0_1 x0_2 H Q) : callV Try.prog (fnV fn_ref09_Twin) [(.agg #[x0_0, x0_1, x0_2])] H Q :=
  callV_fn (hcalls_of (pv := [1, 2]) (ann := []) Try.func51 (by kernel_rfl) (Eq.mpr (by kernel_rfl) h))

/-- thimblerig/thimblerigref16.At -/
def S_ref16_At (x0 : Value) (x1 : Value) (H : Heap) (Q : Value → Heap → Prop) : Prop :=
  LoopPT (fun s9 H K9 =>
  lenSl x0 H fun t8 =>
  binV (.int .i64) .lss (sv s9 0) t8 fun t9 =>
  asB t9 fun b9 =>
  ifB b9 (
  idxS 3 x0 (sv s9 0) fun t14 =>
  fldP 0 t14 fun t15 =>
  loadP false 1 t15 H fun t16 =>
  binV (.int .i64) .eql t16 x1 fun t18 =>
  asB t18 fun b18 =>
  ifB b18 (
  Q (sv s9 0) H) (
  binV (.int .i64) .add (sv s9 0) (.int .i64 1) fun t11 =>
  K9 [[t11]] H)) (
  Q (.int .i64 (-1)) H)) [[(.int .i64 0)]] H
theorem S_ref16_At_of {x0 : Value} {x1 : Value} {H : Heap} {Q : Value → Heap → Prop} (h : S_ref16_At x0 x1 H Q) : callV Try.prog (fnV fn_ref16_At) [x0, x1] H Q :=
  callV_fn (hcalls_of (pv := []) (ann := [(9, [10])]) Try.func52 (by kernel_rfl) (Eq.mpr (by kernel_rfl) h))

/-- thimblerig/thimblerigref09.May -/
def S_ref09_May (x0_0 : Value) (x0_1 : Value) (x0_2 : Value) (x0_3 : Value) (x1_0 : Value) (x1_1 : Value) (x1_2 : Value) (H : Heap) (Q : Value → Heap → Prop) : Prop :=
  newT H fun H =>
  newT H fun H =>
  JoinPT (fun K8 =>
  binV (.int .i64) .geq x1_0 (.int .i64 0) fun t7 =>
  asB t7 fun b8 =>
  ifB b8 (
  binV (.int .i64) .lss x1_0 x0_0 fun t13 =>
  asB t13 fun b15 =>
  ifB b15 (
  binV (.int .i64) .geq x1_1 (.int .i64 0) fun t18 =>
  asB t18 fun b20 =>
  ifB b20 (
  callV Try.prog (fnV fn_ref07_Many) [x0_2] H fun t25 H =>
  binV (.int .i64) .lss x1_1 t25 fun t26 =>
  asB t26 fun b28 =>
  ifB b28 (
  lenSl x1_2 H fun t31 =>
  binV (.int .i64) .eql t31 x0_1 fun t34 =>
  K8 [[t34]] H) (
  K8 [[(.bool false)]] H)) (
  K8 [[(.bool false)]] H)) (
  K8 [[(.bool false)]] H)) (
  K8 [[(.bool false)]] H)) fun s8 H =>
  Q (sv s8 0) H
theorem S_ref09_May_of {x0_0 : Value} {x0_1 : Value} {x0_2 : Value} {x0_3 : Value} {x1_0 : Value} {x1_1 : Value} {x1_2 : Value} {H : Heap} {Q : Value → Heap → Prop} (h : S_ref09_May x0_0 x0_1 x0_2 x0_3 x1_0 x1_1 x1_2 H Q) : callV Try.prog (fnV fn_ref09_May) [(.agg #[x0_0, x0_1, x0_2, x0_3]), (.agg #[x1_0, x1_1, x1_2])] H Q :=
  callV_fn (hcalls_of (pv := [2, 3]) (ann := [(8, [8])]) Try.func53 (by kernel_rfl) (Eq.mpr (by kernel_rfl) h))

/-- thimblerig/thimblerigref16.With -/
def S_ref16_With (x0 : Value) (x1_0 : Value) (x1_1 : Value) (x1_2 : Value) (H : Heap) (Q : Value → Heap → Prop) : Prop :=
  newT H fun H =>
  LoopPT (fun s15 H K15 =>
  lenSl x0 H fun t10 =>
  binV (.int .i64) .lss (sv s15 2) t10 fun t11 =>
  asB t11 fun b11 =>
  ifB b11 (
  JoinPT (fun K23 =>
  unV .not (sv s15 1) fun t15 =>
  asB t15 fun b16 =>
  ifB b16 (
  idxS 3 x0 (sv s15 2) fun t19 =>
  fldP 0 t19 fun t20 =>
  loadP false 1 t20 H fun t21 =>
  binV (.int .i64) .geq t21 x1_0 fun t24 =>
  K23 [[t24]] H) (
  K23 [[(.bool false)]] H)) fun s23 H =>
  asB (sv s23 0) fun b25 =>
  JoinPT (fun K24 =>
  ifB b25 (
  callV Try.prog (fnV fn_ref09_Twin) [(.agg #[x1_0, x1_1, x1_2])] H fun t28 H =>
  bldS 27 3 true (zeroL Try.prog 27) 1 [(0, t28)] H fun t29 H =>
  appS 27 3 40 (zeroL Try.prog 27) (sv s15 0) t29 H fun t30 H =>
  K24 [[t30], [(.bool true)]] H) (
  K24 [[(sv s15 0)], [(sv s15 1)]] H)) fun s24 H =>
  idxS 3 x0 (sv s15 2) fun t33 =>
  fldP 0 t33 fun t34 =>
  loadP false 1 t34 H fun t35 =>
  binV (.int .i64) .neq t35 x1_0 fun t38 =>
  asB t38 fun b38 =>
  JoinPT (fun K33 =>
  ifB b38 (
  idxS 3 x0 (sv s15 2) fun t42 =>
  loadP true 3 t42 H fun t43 =>
  callV Try.prog (fnV fn_ref09_Twin) [t43] H fun t44 H =>
  bldS 27 3 true (zeroL Try.prog 27) 1 [(0, t44)] H fun t45 H =>
  appS 27 3 40 (zeroL Try.prog 27) (sv s24 0) t45 H fun t46 H =>
  K33 [[t46]] H) (
  K33 [[(sv s24 0)]] H)) fun s33 H =>
  binV (.int .i64) .add (sv s15 2) (.int .i64 1) fun t13 =>
  K15 [[(sv s33 0)], [(sv s24 1)], [t13]] H) (
  unV .not (sv s15 1) fun t48 =>
  asB t48 fun b48 =>
  JoinPT (fun K39 =>
  ifB b48 (
  callV Try.prog (fnV fn_ref09_Twin) [(.agg #[x1_0, x1_1, x1_2])] H fun t51 H =>
  bldS 27 3 true (zeroL Try.prog 27) 1 [(0, t51)] H fun t52 H =>
  appS 27 3 40 (zeroL Try.prog 27) (sv s15 0) t52 H fun t53 H =>
  K39 [[t53]] H) (
  K39 [[(sv s15 0)]] H)) fun s39 H =>
  Q (sv s39 0) H)) [[(.slice none 0 0)], [(.bool false)], [(.int .i64 0)]] H
theorem S_ref16_With_of {x0 : Value} {x1_0 : Value} {x1_1 : Value} {x1_2 : Value} {H : Heap} {Q : Value → Heap → Prop} (h : S_ref16_With x0 x1_0 x1_1 x1_2 H Q) : callV Try.prog (fnV fn_ref16_With) [x0, (.agg #[x1_0, x1_1, x1_2])] H Q :=
  callV_fn (hcalls_of (pv := [3]) (ann := [(15, [10, 12, 14]), (23, [50]), (24, [10, 12]), (33, [10]), (39, [10])]) Try.func54 (by kernel_rfl) (Eq.mpr (by kernel_rfl) h))

/-- thimblerig/thimblerigref16.Without -/
def S_ref16_Without (x0 : Value) (x1 : Value) (H : Heap) (Q : Value → Heap → Prop) : Prop :=
  LoopPT (fun s12 H K12 =>
  lenSl x0 H fun t9 =>
  binV (.int .i64) .lss (sv s12 1) t9 fun t10 =>
  asB t10 fun b10 =>
  ifB b10 (
  idxS 3 x0 (sv s12 1) fun t15 =>
  fldP 0 t15 fun t16 =>
  loadP false 1 t16 H fun t17 =>
  binV (.int .i64) .neq t17 x1 fun t19 =>
  asB t19 fun b19 =>
  JoinPT (fun K21 =>
  ifB b19 (
  idxS 3 x0 (sv s12 1) fun t23 =>
  loadP true 3 t23 H fun t24 =>
  callV Try.prog (fnV fn_ref09_Twin) [t24] H fun t25 H =>
  bldS 27 3 true (zeroL Try.prog 27) 1 [(0, t25)] H fun t26 H =>
  appS 27 3 40 (zeroL Try.prog 27) (sv s12 0) t26 H fun t27 H =>
  K21 [[t27]] H) (
  K21 [[(sv s12 0)]] H)) fun s21 H =>
  binV (.int .i64) .add (sv s12 1) (.int .i64 1) fun t12 =>
  K12 [[(sv s21 0)], [t12]] H) (
  Q (sv s12 0) H)) [[(.slice none 0 0)], [(.int .i64 0)]] H
theorem S_ref16_Without_of {x0 : Value} {x1 : Value} {H : Heap} {Q : Value → Heap → Prop} (h : S_ref16_Without x0 x1 H Q) : callV Try.prog (fnV fn_ref16_Without) [x0, x1] H Q :=
  callV_fn (hcalls_of (pv := []) (ann := [(12, [10, 12]), (21, [10])]) Try.func55 (by kernel_rfl) (Eq.mpr (by kernel_rfl) h))

/-- thimblerig/thimblerigref16.More -/
def S_ref16_More (x0 : Value) (x1 : Value) (H : Heap) (Q : Value → Heap → Prop) : Prop :=
  callV Try.prog (fnV fn_ref09_TwinAll) [x0] H fun t9 H =>
  LoopPT (fun s12 H K12 =>
  lenSl x1 H fun t12 =>
  binV (.int .i64) .lss (sv s12 1) t12 fun t13 =>
  asB t13 fun b13 =>
  ifB b13 (
  idxS 3 x1 (sv s12 1) fun t19 =>
  fldP 0 t19 fun t20 =>
  loadP false 1 t20 H fun t21 =>
  callV Try.prog (fnV fn_ref16_At) [(sv s12 0), t21] H fun t22 H =>
  binV (.int .i64) .geq t22 (.int .i64 0) fun t23 =>
  asB t23 fun b23 =>
  ifB b23 (
  Q (.tuple #[(.slice none 0 0), (.bool false)]) H) (
  idxS 3 x1 (sv s12 1) fun t27 =>
  loadP true 3 t27 H fun t28 =>
  callV Try.prog (fnV fn_ref16_With) [(sv s12 0), t28] H fun t29 H =>
  binV (.int .i64) .add (sv s12 1) (.int .i64 1) fun t15 =>
  K12 [[t29], [t15]] H)) (
  Q (.tuple #[(sv s12 0), (.bool true)]) H)) [[t9], [(.int .i64 0)]] H
theorem S_ref16_More_of {x0 : Value} {x1 : Value} {H : Heap} {Q : Value → Heap → Prop} (h : S_ref16_More x0 x1 H Q) : callV Try.prog (fnV fn_ref16_More) [x0, x1] H Q :=
  callV_fn (hcalls_of (pv := []) (ann := [(12, [12, 14])]) Try.func56 (by kernel_rfl) (Eq.mpr (by kernel_rfl) h))

/-- thimblerig/thimblerigref09.Many -/
def S_ref09_Many (x0_0 : Value) (x0_1 : Value) (x0_2 : Value) (x0_3 : Value) (H : Heap) (Q : Value → Heap → Prop) : Prop :=
  newT H fun H =>
  JoinPT (fun K8 =>
  binV (.int .i64) .lss x0_0 (.int .i64 1) fun t6 =>
  asB t6 fun b7 =>
  ifB b7 (
  K8 [[(.bool true)]] H) (
  binV (.int .i64) .gtr x0_0 (.int .i64 64) fun t10 =>
  asB t10 fun b12 =>
  ifB b12 (
  K8 [[(.bool true)]] H) (
  binV (.int .i64) .lss x0_1 (.int .i64 1) fun t15 =>
  asB t15 fun b17 =>
  ifB b17 (
  K8 [[(.bool true)]] H) (
  binV (.int .i64) .gtr x0_1 (.int .i64 32) fun t20 =>
  asB t20 fun b22 =>
  ifB b22 (
  K8 [[(.bool true)]] H) (
  callV Try.prog (fnV fn_ref07_May) [x0_2] H fun t25 H =>
  unV .not t25 fun t26 =>
  asB t26 fun b28 =>
  ifB b28 (
  K8 [[(.bool true)]] H) (
  callV Try.prog (fnV fn_ref07_Many) [x0_2] H fun t31 H =>
  binV (.int .i64) .lss t31 x0_0 fun t34 =>
  K8 [[t34]] H)))))) fun s8 H =>
  asB (sv s8 0) fun b35 =>
  ifB b35 (
  Q (.int .i64 0) H) (
  LoopPT (fun s15 H K15 =>
  binV (.int .i64) .leq (sv s15 0) (.int .i64 4) fun t37 =>
  asB t37 fun b37 =>
  ifB b37 (
  binV (.int .i64) .add (.int .i64 8) x0_1 fun t45 =>
  binV (.int .i64) .mul (sv s15 0) t45 fun t46 =>
  binV (.int .i64) .add t46 (.int .i64 64) fun t47 =>
  binV (.int .i64) .eql x0_3 t47 fun t48 =>
  asB t48 fun b48 =>
  ifB b48 (
  Q (sv s15 0) H) (
  binV (.int .i64) .add (sv s15 0) (.int .i64 1) fun t39 =>
  K15 [[t39]] H)) (
  Q (.int .i64 0) H)) [[(.int .i64 1)]] H)
theorem S_ref09_Many_of {x0_0 : Value} {x0_1 : Value} {x0_2 : Value} {x0_3 : Value} {H : Heap} {Q : Value → Heap → Prop} (h : S_ref09_Many x0_0 x0_1 x0_2 x0_3 H Q) : callV Try.prog (fnV fn_ref09_Many) [(.agg #[x0_0, x0_1, x0_2, x0_3])] H Q :=
  callV_fn (hcalls_of (pv := [1]) (ann := [(8, [70]), (15, [6])]) Try.func58 (by kernel_rfl) (Eq.mpr (by kernel_rfl) h))

/-- thimblerig/thimblerigref16.May -/
def S_ref16_May (x0_0 : Value) (x0_1 : Value) (x0_2 : Value) (x0_3 : Value) (x1 : Value) (H : Heap) (Q : Value → Heap → Prop) : Prop :=
  newT H fun H =>
  LoopPT (fun s9 H K9 =>
  lenSl x1 H fun t8 =>
  binV (.int .i64) .lss (sv s9 0) t8 fun t9 =>
  asB t9 fun b9 =>
  ifB b9 (
  JoinPT (fun K17 =>
  idxS 3 x1 (sv s9 0) fun t15 =>
  loadP true 3 t15 H fun t16 =>
  callV Try.prog (fnV fn_ref09_May) [(.agg #[x0_0, x0_1, x0_2, x0_3]), t16] H fun t17 H =>
  unV .not t17 fun t18 =>
  asB t18 fun b19 =>
  ifB b19 (
  undef = undef ∧ (
  undef = undef ∧ (
  undef = undef ∧ (
  undef = undef ∧ (
  undef = undef ∧ (
  undef = undef ∧ (
  undef = undef ∧ (
  undef = undef ∧ (
  undef = undef ∧ (
  undef = undef ∧ (
  undef = undef ∧ (
  undef = undef ∧ (
  K17 [[(.bool true)]] H))))))))))))) (
  binV (.int .i64) .gtr (sv s9 0) (.int .i64 0) fun t21 =>
  asB t21 fun b22 =>
  ifB b22 (
  idxS 3 x1 (sv s9 0) fun t25 =>
  fldP 0 t25 fun t26 =>
  loadP false 1 t26 H fun t27 =>
  binV (.int .i64) .sub (sv s9 0) (.int .i64 1) fun t30 =>
  idxS 3 x1 t30 fun t31 =>
  fldP 0 t31 fun t32 =>
  loadP false 1 t32 H fun t33 =>
  binV (.int .i64) .leq t27 t33 fun t34 =>
  K17 [[t34]] H) (
  K17 [[(.bool false)]] H))) fun s17 H =>
  asB (sv s17 0) fun b36 =>
  ifB b36 (
  Q (.bool false) H) (
  binV (.int .i64) .add (sv s9 0) (.int .i64 1) fun t11 =>
  K9 [[t11]] H)) (
  Q (.bool true) H)) [[(.int .i64 0)]] H
theorem S_ref16_May_of {x0_0 : Value} {x0_1 : Value} {x0_2 : Value} {x0_3 : Value} {x1 : Value} {H : Heap} {Q : Value → Heap → Prop} (h : S_ref16_May x0_0 x0_1 x0_2 x0_3 x1 H Q) : callV Try.prog (fnV fn_ref16_May) [(.agg #[x0_0, x0_1, x0_2, x0_3]), x1] H Q :=
  callV_fn (hcalls_of (pv := [2]) (ann := [(9, [10]), (17, [72])]) Try.func59 (by kernel_rfl) (Eq.mpr (by kernel_rfl) h))

/-- thimblerig/slot.Same -/
def S_slot_Same (x0_0 : Value) (x0_1 : Value) (x0_2 : Value) (x1_0 : Value) (x1_1 : Value) (x1_2 : Value) (H : Heap) (Q : Value → Heap → Prop) : Prop :=
  newT H fun H =>
  newT H fun H =>
  JoinPT (fun K8 =>
  binV (.int .i64) .eql x0_0 x1_0 fun t9 =>
  asB t9 fun b10 =>
  ifB b10 (
  binV (.int .i64) .eql x0_1 x1_1 fun t15 =>
  asB t15 fun b17 =>
  ifB b17 (
  callV Try.prog (fnV fn_slices_Equal_byte_byte) [x0_2, x1_2] H fun t22 H =>
  K8 [[t22]] H) (
  K8 [[(.bool false)]] H)) (
  K8 [[(.bool false)]] H)) fun s8 H =>
  Q (sv s8 0) H
theorem S_slot_Same_of {x0_0 : Value} {x0_1 : Value} {x0_2 : Value} {x1_0 : Value} {x1_1 : Value} {x1_2 : Value} {H : Heap} {Q : Value → Heap → Prop} (h : S_slot_Same x0_0 x0_1 x0_2 x1_0 x1_1 x1_2 H Q) : callV Try.prog (fnV fn_slot_Same) [(.agg #[x0_0, x0_1, x0_2]), (.agg #[x1_0, x1_1, x1_2])] H Q :=
  callV_fn (hcalls_of (pv := [2, 3]) (ann := [(8, [8])]) Try.func61 (by kernel_rfl) (Eq.mpr (by kernel_rfl) h))

/-- thimblerig/stash.ids$1 -/
def S_stash_ids_1 (x0_0 : Value) (x0_1 : Value) (x0_2 : Value) (H : Heap) (Q : Value → Heap → Prop) : Prop :=
  newT H fun H =>
  Q x0_0 H
theorem S_stash_ids_1_of {x0_0 : Value} {x0_1 : Value} {x0_2 : Value} {H : Heap} {Q : Value → Heap → Prop} (h : S_stash_ids_1 x0_0 x0_1 x0_2 H Q) : callV Try.prog (fnV fn_stash_ids_1) [(.agg #[x0_0, x0_1, x0_2])] H Q :=
  callV_fn (hcalls_of (pv := [1]) (ann := []) Try.func73 (by kernel_rfl) (Eq.mpr (by kernel_rfl) h))

/-- thimblerig/thimblerigref15.Many -/
def S_ref15_Many (x0_0 : Value) (x0_1 : Value) (x0_2 : Value) (x0_3 : Value) (H : Heap) (Q : Value → Heap → Prop) : Prop :=
  newT H fun H =>
  callV Try.prog (fnV fn_ref07_Many) [x0_2] H fun t5 H =>
  binV (.int .i64) .mul (.int .i64 2) t5 fun t6 =>
  binV (.int .i64) .sub t6 (.int .i64 1) fun t7 =>
  Q t7 H
theorem S_ref15_Many_of {x0_0 : Value} {x0_1 : Value} {x0_2 : Value} {x0_3 : Value} {H : Heap} {Q : Value → Heap → Prop} (h : S_ref15_Many x0_0 x0_1 x0_2 x0_3 H Q) : callV Try.prog (fnV fn_ref15_Many) [(.agg #[x0_0, x0_1, x0_2, x0_3])] H Q :=
  callV_fn (hcalls_of (pv := [1]) (ann := []) Try.func121 (by kernel_rfl) (Eq.mpr (by kernel_rfl) h))

end Go.Proofs.Ytccdoecccaocjaa
