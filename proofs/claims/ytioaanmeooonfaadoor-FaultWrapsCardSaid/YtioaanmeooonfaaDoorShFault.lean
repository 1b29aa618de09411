/- Written by sh.py: what functions do, out of the deep reading; each is joined to the program by the kernel. -/
import Derived.Test.YtioaanmeooonfaaDoorShNames
namespace Go.Proofs.YtioaanmeooonfaaDoor
open Go.Ab
set_option linter.unusedVariables false
set_option linter.unusedSimpArgs false
set_option maxRecDepth 100000

/-- thimblerig/thimbleriglaw06.FaultWraps -/
def S_law06_FaultWraps (x0_0 : Value) (x0_1 : Value) (x1_0 : Value) (x1_1 : Value) (H : Heap) (Q : Value → Heap → Prop) : Prop :=
  newT H fun H =>
  newT H fun H =>
  lenSl x0_1 H fun t21 =>
  binV (.int .i64) .gtr t21 (.int .i64 20) fun t22 =>
  asB t22 fun b22 =>
  ifB b22 (
  Q (.bool true) H) (
  callV Tryd.prog (fnV fn_ref06_Twin) [(.agg #[x0_0, x0_1])] H fun t24 H =>
  newT H fun H =>
  cellsV true 2 t24 fun c1 =>
  ifB (decide (0 + 2 ≤ ((setSeg [(.int .i64 0), (.slice none 0 0)] 0 c1)).length)) (
  callV Tryd.prog (fnV fn_fault_Wrap) [(.agg (seg (setSeg [(.int .i64 0), (.slice none 0 0)] 0 c1) 0 2).toArray), (.agg #[x1_0, x1_1])] H fun t28 H =>
  extractV 0 t28 fun t29 =>
  extractV 1 t28 fun t30 =>
  newT H fun H =>
  cellsV true 2 t29 fun c2 =>
  callV Tryd.prog (fnV fn_ref06_Wrap) [(.agg #[x0_0, x0_1]), (.agg #[x1_0, x1_1])] H fun t34 H =>
  extractV 0 t34 fun t35 =>
  extractV 1 t34 fun t36 =>
  newT H fun H =>
  cellsV true 2 t35 fun c3 =>
  ifB (decide (0 + 2 ≤ ((setSeg [(.int .i64 0), (.slice none 0 0)] 0 c1)).length)) (
  callV Tryd.prog (fnV fn_fault_Open) [(.agg (seg (setSeg [(.int .i64 0), (.slice none 0 0)] 0 c1) 0 2).toArray)] H fun t39 H =>
  extractV 0 t39 fun t40 =>
  extractV 1 t39 fun t41 =>
  extractV 2 t39 fun t42 =>
  newT H fun H =>
  newT H fun H =>
  cellsV true 2 t40 fun c4 =>
  cellsV true 2 t41 fun c5 =>
  callV Tryd.prog (fnV fn_ref06_Open) [(.agg #[x0_0, x0_1])] H fun t45 H =>
  extractV 0 t45 fun t46 =>
  extractV 1 t45 fun t47 =>
  extractV 2 t45 fun t48 =>
  newT H fun H =>
  newT H fun H =>
  cellsV true 2 t46 fun c6 =>
  cellsV true 2 t47 fun c7 =>
  JoinPT (fun K29 =>
  ifB (decide (0 + 2 ≤ ((setSeg [(.int .i64 0), (.slice none 0 0)] 0 c2)).length)) (
  ifB (decide (0 + 2 ≤ ((setSeg [(.int .i64 0), (.slice none 0 0)] 0 c3)).length)) (
  callV Tryd.prog (fnV fn_ref06_Same) [(.agg (seg (setSeg [(.int .i64 0), (.slice none 0 0)] 0 c2) 0 2).toArray), (.agg (seg (setSeg [(.int .i64 0), (.slice none 0 0)] 0 c3) 0 2).toArray)] H fun t51 H =>
  asB t51 fun b52 =>
  ifB b52 (
  binV (.int .i64) .eql t30 t36 fun t55 =>
  asB t55 fun b57 =>
  ifB b57 (
  ifB (decide (0 + 2 ≤ ((setSeg [(.int .i64 0), (.slice none 0 0)] 0 c4)).length)) (
  ifB (decide (0 + 2 ≤ ((setSeg [(.int .i64 0), (.slice none 0 0)] 0 c6)).length)) (
  callV Tryd.prog (fnV fn_ref06_Same) [(.agg (seg (setSeg [(.int .i64 0), (.slice none 0 0)] 0 c4) 0 2).toArray), (.agg (seg (setSeg [(.int .i64 0), (.slice none 0 0)] 0 c6) 0 2).toArray)] H fun t60 H =>
  asB t60 fun b62 =>
  ifB b62 (
  ifB (decide (0 + 2 ≤ ((setSeg [(.int .i64 0), (.int .i64 0)] 0 c5)).length)) (
  ifB (decide (0 + 2 ≤ ((setSeg [(.int .i64 0), (.int .i64 0)] 0 c7)).length)) (
  eqV Tryd.prog ty_api_Mark .eql (.agg (seg (setSeg [(.int .i64 0), (.int .i64 0)] 0 c5) 0 2).toArray) (.agg (seg (setSeg [(.int .i64 0), (.int .i64 0)] 0 c7) 0 2).toArray) fun t65 =>
  asB t65 fun b67 =>
  ifB b67 (
  binV (.int .i64) .eql t42 t48 fun t70 =>
  asB t70 fun b72 =>
  ifB b72 (
  ifB (decide (0 + 2 ≤ ((setSeg [(.int .i64 0), (.slice none 0 0)] 0 c1)).length)) (
  callV Tryd.prog (fnV fn_fault_Check) [(.agg (seg (setSeg [(.int .i64 0), (.slice none 0 0)] 0 c1) 0 2).toArray)] H fun t74 H =>
  callV Tryd.prog (fnV fn_ref06_Check) [(.agg #[x0_0, x0_1])] H fun t76 H =>
  binV (.int .i64) .eql t74 t76 fun t77 =>
  K29 [[t77]] H) False) (
  K29 [[(.bool false)]] H)) (
  K29 [[(.bool false)]] H)) False) False) (
  K29 [[(.bool false)]] H)) False) False) (
  K29 [[(.bool false)]] H)) (
  K29 [[(.bool false)]] H)) False) False) fun s29 H =>
  LoopPT (fun s33 H K33 =>
  ifB (decide (1 + 1 ≤ ((setSeg [(.int .i64 0), (.slice none 0 0)] 0 c2)).length)) (
  lenSl (mkV false (seg (setSeg [(.int .i64 0), (.slice none 0 0)] 0 c2) 1 1)) H fun t82 =>
  binV (.int .i64) .lss (sv s33 0) t82 fun t83 =>
  asB t83 fun b83 =>
  ifB b83 (
  ifB (decide (1 + 1 ≤ ((setSeg [(.int .i64 0), (.slice none 0 0)] 0 c2)).length)) (
  idxS 2 (mkV false (seg (setSeg [(.int .i64 0), (.slice none 0 0)] 0 c2) 1 1)) (sv s33 0) fun t89 =>
  fldP 1 t89 fun t90 =>
  storeP false 1 t90 (.int .i64 (-7)) H fun H =>
  binV (.int .i64) .add (sv s33 0) (.int .i64 1) fun t85 =>
  K33 [[t85]] H) False) (
  LoopPT (fun s45 H K45 =>
  ifB (decide (1 + 1 ≤ ((setSeg [(.int .i64 0), (.slice none 0 0)] 0 c4)).length)) (
  lenSl (mkV false (seg (setSeg [(.int .i64 0), (.slice none 0 0)] 0 c4) 1 1)) H fun t94 =>
  binV (.int .i64) .lss (sv s45 0) t94 fun t95 =>
  asB t95 fun b95 =>
  ifB b95 (
  ifB (decide (1 + 1 ≤ ((setSeg [(.int .i64 0), (.slice none 0 0)] 0 c4)).length)) (
  idxS 2 (mkV false (seg (setSeg [(.int .i64 0), (.slice none 0 0)] 0 c4) 1 1)) (sv s45 0) fun t101 =>
  fldP 1 t101 fun t102 =>
  storeP false 1 t102 (.int .i64 (-7)) H fun H =>
  binV (.int .i64) .add (sv s45 0) (.int .i64 1) fun t97 =>
  K45 [[t97]] H) False) (
  JoinPT (fun K56 =>
  asB (sv s29 0) fun b104 =>
  ifB b104 (
  ifB (decide (0 + 2 ≤ ((setSeg [(.int .i64 0), (.slice none 0 0)] 0 c1)).length)) (
  callV Tryd.prog (fnV fn_ref06_Same) [(.agg (seg (setSeg [(.int .i64 0), (.slice none 0 0)] 0 c1) 0 2).toArray), (.agg #[x0_0, x0_1])] H fun t107 H =>
  K56 [[t107]] H) False) (
  K56 [[(.bool false)]] H)) fun s56 H =>
  Q (sv s56 0) H)) False) [[(.int .i64 0)]] H)) False) [[(.int .i64 0)]] H) False) False)
theorem S_law06_FaultWraps_of {x0_0 : Value} {x0_1 : Value} {x1_0 : Value} {x1_1 : Value} {H : Heap} {Q : Value → Heap → Prop} (h : S_law06_FaultWraps x0_0 x0_1 x1_0 x1_1 H Q) : callV Tryd.prog (fnV fn_law06_FaultWraps) [(.agg #[x0_0, x0_1]), (.agg #[x1_0, x1_1])] H Q :=
  callV_fn (hcalls_of (pv := [2, 3, 5, 6, 8, 10, 11, 13, 14]) (ann := [(29, [32]), (33, [34]), (45, [36]), (56, [8])]) Tryd.func3 (by kernel_rfl) (Eq.mpr (by kernel_rfl) h))

/-- thimblerig/thimblerigref06.Twin -/
def S_ref06_Twin (x0_0 : Value) (x0_1 : Value) (H : Heap) (Q : Value → Heap → Prop) : Prop :=
  newT H fun H =>
  newT H fun H =>
  bldS 27 2 true (zeroL Tryd.prog 27) 0 [] H fun t5 H =>
  appS 27 2 16 (zeroL Tryd.prog 27) t5 x0_1 H fun t8 H =>
  ifB (okc x0_0) (
  ifB (okc t8) (
  ifB ([x0_0, t8].all okc) (
  Q (.agg #[x0_0, t8]) H) False) False) False
theorem S_ref06_Twin_of {x0_0 : Value} {x0_1 : Value} {H : Heap} {Q : Value → Heap → Prop} (h : S_ref06_Twin x0_0 x0_1 H Q) : callV Tryd.prog (fnV fn_ref06_Twin) [(.agg #[x0_0, x0_1])] H Q :=
  callV_fn (hcalls_of (pv := [1, 2]) (ann := []) Tryd.func4 (by kernel_rfl) (Eq.mpr (by kernel_rfl) h))

/-- thimblerig/fault.Wrap -/
def S_fault_Wrap (x0_0 : Value) (x0_1 : Value) (x1_0 : Value) (x1_1 : Value) (H : Heap) (Q : Value → Heap → Prop) : Prop :=
  newT H fun H =>
  newT H fun H =>
  newT H fun H =>
  JoinPT (fun K8 =>
  callV Tryd.prog (fnV fn_fault_Check) [(.agg #[x0_0, x0_1])] H fun t8 H =>
  binV (.int .i64) .neq t8 (.int .i64 0) fun t9 =>
  asB t9 fun b10 =>
  ifB b10 (
  K8 [[(.bool true)]] H) (
  callV Tryd.prog (fnV fn_fault_mark) [(.agg #[x1_0, x1_1])] H fun t12 H =>
  unV .not t12 fun t13 =>
  K8 [[t13]] H)) fun s8 H =>
  asB (sv s8 0) fun b6 =>
  ifB b6 (
  Q (.tuple #[(.agg #[(.int .i64 0), (.slice none 0 0)]), (.int .i64 8)]) H) (
  lenSl x0_1 H fun t19 =>
  binV (.int .i64) .eql t19 (.int .i64 8) fun t20 =>
  asB t20 fun b16 =>
  ifB b16 (
  Q (.tuple #[(.agg #[(.int .i64 0), (.slice none 0 0)]), (.int .i64 4)]) H) (
  JoinPT (fun K20 =>
  (callV Tryd.prog (fnV fn_slices_Clone_api_Mark_api_Mark) [x0_1] H fun t26 H =>
  bldS 27 2 true (zeroL Tryd.prog 27) 1 [(0, (.agg #[x1_0, x1_1]))] H fun t28 H =>
  callV Tryd.prog (fnV fn_slices_Insert_api_Mark_api_Mark) [t26, (.int .i64 0), t28] H fun t29 H =>
  ifB (okc x0_0) (
  ifB (okc t29) (
  ifB ([x0_0, t29].all okc) (
  K20 [[x0_0, t29], [(.int .i64 0)]] H) False) False) False) ∧
  (bldS 27 2 true (zeroL Tryd.prog 27) 1 [(0, (.agg #[x1_0, x1_1]))] H fun t28 H =>
  callV Tryd.prog (fnV fn_slices_Clone_api_Mark_api_Mark) [x0_1] H fun t26 H =>
  callV Tryd.prog (fnV fn_slices_Insert_api_Mark_api_Mark) [t26, (.int .i64 0), t28] H fun t29 H =>
  ifB (okc x0_0) (
  ifB (okc t29) (
  ifB ([x0_0, t29].all okc) (
  K20 [[x0_0, t29], [(.int .i64 0)]] H) False) False) False)) fun s20 H =>
  ifB (decide (0 + 2 ≤ ((sc s20 0)).length)) (
  Q (.tuple #[(.agg (seg (sc s20 0) 0 2).toArray), (sv s20 1)]) H) False))
theorem S_fault_Wrap_of {x0_0 : Value} {x0_1 : Value} {x1_0 : Value} {x1_1 : Value} {H : Heap} {Q : Value → Heap → Prop} (h : S_fault_Wrap x0_0 x0_1 x1_0 x1_1 H Q) : callV Tryd.prog (fnV fn_fault_Wrap) [(.agg #[x0_0, x0_1]), (.agg #[x1_0, x1_1])] H Q :=
  callV_fn (hcalls_of (pv := [2, 3, 4]) (ann := [(8, [12]), (20, [9, 10])]) Tryd.func5 (by kernel_rfl) (Eq.mpr (by kernel_rfl) h))

/-- thimblerig/thimblerigref06.Wrap -/
def S_ref06_Wrap (x0_0 : Value) (x0_1 : Value) (x1_0 : Value) (x1_1 : Value) (H : Heap) (Q : Value → Heap → Prop) : Prop :=
  newT H fun H =>
  newT H fun H =>
  newT H fun H =>
  JoinPT (fun K8 =>
  callV Tryd.prog (fnV fn_ref06_May) [(.agg #[x0_0, x0_1])] H fun t7 H =>
  unV .not t7 fun t8 =>
  asB t8 fun b9 =>
  ifB b9 (
  K8 [[(.bool true)]] H) (
  callV Tryd.prog (fnV fn_ref06_mark) [(.agg #[x1_0, x1_1])] H fun t11 H =>
  unV .not t11 fun t12 =>
  K8 [[t12]] H)) fun s8 H =>
  asB (sv s8 0) fun b13 =>
  ifB b13 (
  Q (.tuple #[(.agg #[(.int .i64 0), (.slice none 0 0)]), (.int .i64 8)]) H) (
  lenSl x0_1 H fun t17 =>
  binV (.int .i64) .geq t17 (.int .i64 8) fun t18 =>
  asB t18 fun b18 =>
  ifB b18 (
  Q (.tuple #[(.agg #[(.int .i64 0), (.slice none 0 0)]), (.int .i64 4)]) H) (
  bldS 27 2 true (zeroL Tryd.prog 27) 1 [(0, (.agg #[x1_0, x1_1]))] H fun t23 H =>
  appS 27 2 16 (zeroL Tryd.prog 27) t23 x0_1 H fun t26 H =>
  ifB (okc x0_0) (
  ifB (okc t26) (
  ifB ([x0_0, t26].all okc) (
  Q (.tuple #[(.agg #[x0_0, t26]), (.int .i64 0)]) H) False) False) False))
theorem S_ref06_Wrap_of {x0_0 : Value} {x0_1 : Value} {x1_0 : Value} {x1_1 : Value} {H : Heap} {Q : Value → Heap → Prop} (h : S_ref06_Wrap x0_0 x0_1 x1_0 x1_1 H Q) : callV Tryd.prog (fnV fn_ref06_Wrap) [(.agg #[x0_0, x0_1]), (.agg #[x1_0, x1_1])] H Q :=
  callV_fn (hcalls_of (pv := [2, 3, 4]) (ann := [(8, [26])]) Tryd.func6 (by kernel_rfl) (Eq.mpr (by kernel_rfl) h))

/-- thimblerig/fault.Open -/
def S_fault_Open (x0_0 : Value) (x0_1 : Value) (H : Heap) (Q : Value → Heap → Prop) : Prop :=
  newT H fun H =>
  newT H fun H =>
  newT H fun H =>
  callV Tryd.prog (fnV fn_fault_Check) [(.agg #[x0_0, x0_1])] H fun t8 H =>
  binV (.int .i64) .neq t8 (.int .i64 0) fun t10 =>
  asB t10 fun b10 =>
  ifB b10 (
  Q (.tuple #[(.agg #[(.int .i64 0), (.slice none 0 0)]), (.agg #[(.int .i64 0), (.int .i64 0)]), t8]) H) (
  newC 45 [(.pointer none)] H fun a6 H =>
  callV Tryd.prog (fnV fn_fault_chain) [(.agg #[x0_0, x0_1])] H fun t15 H =>
  callV Tryd.prog (fnV fn_errors_As) [t15, (.iface ty_p_p_fault_met (.pointer (some ⟨a6, 0, none⟩)))] H fun t17 H =>
  unV .not t17 fun t18 =>
  asB t18 fun b18 =>
  ifB b18 (
  Q (.tuple #[(.agg #[(.int .i64 0), (.slice none 0 0)]), (.agg #[(.int .i64 0), (.int .i64 0)]), (.int .i64 6)]) H) (
  slS 2 x0_1 (some (.int .i64 1)) none none fun t25 =>
  loadP false 1 (.pointer (some ⟨a6, 0, none⟩)) H fun t28 =>
  nilV t28 fun t29 =>
  fldP 0 t29 fun t30 =>
  loadP true 2 t30 H fun t31 =>
  callV Tryd.prog (fnV fn_slices_Clone_api_Mark_api_Mark) [t25] H fun t26 H =>
  (loadP true 2 t30 H fun u31 =>
  u31 = t31) ∧
  (loadP false 1 (.pointer (some ⟨a6, 0, none⟩)) H fun u28 =>
  u28 = t28) ∧
  (ifB (okc x0_0) (
  ifB (okc t26) (
  ifB ([x0_0, t26].all okc) (
  (loadP true 2 t30 H fun u31 =>
  u31 = t31) ∧
  (loadP false 1 (.pointer (some ⟨a6, 0, none⟩)) H fun u28 =>
  u28 = t28) ∧
  (cellsV true 2 t31 fun c1 =>
  ifB (decide (0 + 2 ≤ ((setSeg [(.int .i64 0), (.int .i64 0)] 0 c1)).length)) (
  Q (.tuple #[(.agg #[x0_0, t26]), (.agg (seg (setSeg [(.int .i64 0), (.int .i64 0)] 0 c1) 0 2).toArray), (.int .i64 0)]) H) False)) False) False) False)))
theorem S_fault_Open_of {x0_0 : Value} {x0_1 : Value} {H : Heap} {Q : Value → Heap → Prop} (h : S_fault_Open x0_0 x0_1 H Q) : callV Tryd.prog (fnV fn_fault_Open) [(.agg #[x0_0, x0_1])] H Q :=
  callV_fn (hcalls_of (pv := [1, 2, 3]) (ann := []) Tryd.func7 (by kernel_rfl) (Eq.mpr (by kernel_rfl) h))

/-- thimblerig/thimblerigref06.Open -/
def S_ref06_Open (x0_0 : Value) (x0_1 : Value) (H : Heap) (Q : Value → Heap → Prop) : Prop :=
  newT H fun H =>
  newT H fun H =>
  newT H fun H =>
  callV Tryd.prog (fnV fn_ref06_May) [(.agg #[x0_0, x0_1])] H fun t6 H =>
  unV .not t6 fun t7 =>
  asB t7 fun b7 =>
  ifB b7 (
  Q (.tuple #[(.agg #[(.int .i64 0), (.slice none 0 0)]), (.agg #[(.int .i64 0), (.int .i64 0)]), (.int .i64 8)]) H) (
  lenSl x0_1 H fun t12 =>
  binV (.int .i64) .eql t12 (.int .i64 0) fun t13 =>
  asB t13 fun b13 =>
  ifB b13 (
  Q (.tuple #[(.agg #[(.int .i64 0), (.slice none 0 0)]), (.agg #[(.int .i64 0), (.int .i64 0)]), (.int .i64 6)]) H) (
  slS 2 x0_1 (some (.int .i64 1)) none none fun t21 =>
  idxS 2 x0_1 (.int .i64 0) fun t26 =>
  loadP true 2 t26 H fun t27 =>
  bldS 27 2 true (zeroL Tryd.prog 27) 0 [] H fun t18 H =>
  (loadP true 2 t26 H fun u27 =>
  u27 = t27) ∧
  (appS 27 2 16 (zeroL Tryd.prog 27) t18 t21 H fun t22 H =>
  (loadP true 2 t26 H fun u27 =>
  u27 = t27) ∧
  (ifB (okc x0_0) (
  ifB (okc t22) (
  ifB ([x0_0, t22].all okc) (
  (loadP true 2 t26 H fun u27 =>
  u27 = t27) ∧
  (cellsV true 2 t27 fun c1 =>
  ifB (decide (0 + 2 ≤ ((setSeg [(.int .i64 0), (.int .i64 0)] 0 c1)).length)) (
  Q (.tuple #[(.agg #[x0_0, t22]), (.agg (seg (setSeg [(.int .i64 0), (.int .i64 0)] 0 c1) 0 2).toArray), (.int .i64 0)]) H) False)) False) False) False))))
theorem S_ref06_Open_of {x0_0 : Value} {x0_1 : Value} {H : Heap} {Q : Value → Heap → Prop} (h : S_ref06_Open x0_0 x0_1 H Q) : callV Tryd.prog (fnV fn_ref06_Open) [(.agg #[x0_0, x0_1])] H Q :=
  callV_fn (hcalls_of (pv := [1, 2, 3]) (ann := []) Tryd.func8 (by kernel_rfl) (Eq.mpr (by kernel_rfl) h))

/-- thimblerig/thimblerigref06.Same -/
def S_ref06_Same (x0_0 : Value) (x0_1 : Value) (x1_0 : Value) (x1_1 : Value) (H : Heap) (Q : Value → Heap → Prop) : Prop :=
  newT H fun H =>
  newT H fun H =>
  lenSl x0_1 H fun t8 =>
  lenSl x1_1 H fun t11 =>
  binV (.int .i64) .neq t8 t11 fun t12 =>
  asB t12 fun b12 =>
  ifB b12 (
  Q (.bool false) H) (
  LoopPT (fun s15 H K15 =>
  lenSl x0_1 H fun t16 =>
  binV (.int .i64) .lss (sv s15 0) t16 fun t17 =>
  asB t17 fun b17 =>
  ifB b17 (
  idxS 2 x0_1 (sv s15 0) fun t23 =>
  loadP true 2 t23 H fun t24 =>
  idxS 2 x1_1 (sv s15 0) fun t28 =>
  loadP true 2 t28 H fun t29 =>
  eqV Tryd.prog ty_api_Mark .neq t24 t29 fun t30 =>
  asB t30 fun b30 =>
  ifB b30 (
  Q (.bool false) H) (
  binV (.int .i64) .add (sv s15 0) (.int .i64 1) fun t19 =>
  K15 [[t19]] H)) (
  binV (.int .i64) .eql x0_0 x1_0 fun t35 =>
  Q t35 H)) [[(.int .i64 0)]] H)
theorem S_ref06_Same_of {x0_0 : Value} {x0_1 : Value} {x1_0 : Value} {x1_1 : Value} {H : Heap} {Q : Value → Heap → Prop} (h : S_ref06_Same x0_0 x0_1 x1_0 x1_1 H Q) : callV Tryd.prog (fnV fn_ref06_Same) [(.agg #[x0_0, x0_1]), (.agg #[x1_0, x1_1])] H Q :=
  callV_fn (hcalls_of (pv := [2, 3]) (ann := [(15, [10])]) Tryd.func9 (by kernel_rfl) (Eq.mpr (by kernel_rfl) h))

/-- thimblerig/fault.Check -/
def S_fault_Check (x0_0 : Value) (x0_1 : Value) (H : Heap) (Q : Value → Heap → Prop) : Prop :=
  newT H fun H =>
  bldS 22 1 false (zeroL Tryd.prog 22) 13 [(0, (.int .i64 2)), (1, (.int .i64 4)), (2, (.int .i64 6)), (3, (.int .i64 8)), (4, (.int .i64 9)), (5, (.int .i64 10)), (6, (.int .i64 50)), (7, (.int .i64 110)), (8, (.int .i64 180)), (9, (.int .i64 230)), (10, (.int .i64 250)), (11, (.int .i64 260)), (12, (.int .i64 261))] H fun t5 H =>
  callV Tryd.prog (fnV fn_slices_ContainsFunc_api_Mark_api_Mark) [x0_1, (fnV fn_fault_Check_1)] H fun t8 H =>
  JoinPT (fun K14 =>
  callV Tryd.prog (fnV fn_slices_Contains_api_Errno_api_Errno) [t5, x0_0] H fun t12 H =>
  unV .not t12 fun t13 =>
  asB t13 fun b14 =>
  ifB b14 (
  K14 [[(.bool true)]] H) (
  lenSl x0_1 H fun t17 =>
  binV (.int .i64) .gtr t17 (.int .i64 8) fun t18 =>
  asB t18 fun b20 =>
  ifB b20 (
  K14 [[(.bool true)]] H) (
  K14 [[t8]] H))) fun s14 H =>
  asB (sv s14 0) fun b22 =>
  ifB b22 (
  Q (.int .i64 8) H) (
  Q (.int .i64 0) H)
theorem S_fault_Check_of {x0_0 : Value} {x0_1 : Value} {H : Heap} {Q : Value → Heap → Prop} (h : S_fault_Check x0_0 x0_1 H Q) : callV Tryd.prog (fnV fn_fault_Check) [(.agg #[x0_0, x0_1])] H Q :=
  callV_fn (hcalls_of (pv := [1]) (ann := [(14, [44])]) Tryd.func10 (by kernel_rfl) (Eq.mpr (by kernel_rfl) h))

/-- thimblerig/thimblerigref06.Check -/
def S_ref06_Check (x0_0 : Value) (x0_1 : Value) (H : Heap) (Q : Value → Heap → Prop) : Prop :=
  newT H fun H =>
  callV Tryd.prog (fnV fn_ref06_May) [(.agg #[x0_0, x0_1])] H fun t4 H =>
  unV .not t4 fun t5 =>
  asB t5 fun b5 =>
  ifB b5 (
  Q (.int .i64 8) H) (
  Q (.int .i64 0) H)
theorem S_ref06_Check_of {x0_0 : Value} {x0_1 : Value} {H : Heap} {Q : Value → Heap → Prop} (h : S_ref06_Check x0_0 x0_1 H Q) : callV Tryd.prog (fnV fn_ref06_Check) [(.agg #[x0_0, x0_1])] H Q :=
  callV_fn (hcalls_of (pv := [1]) (ann := []) Tryd.func11 (by kernel_rfl) (Eq.mpr (by kernel_rfl) h))

/-- thimblerig/fault.mark -/
def S_fault_mark (x0_0 : Value) (x0_1 : Value) (H : Heap) (Q : Value → Heap → Prop) : Prop :=
  newT H fun H =>
  JoinPT (fun K8 =>
  minV x0_0 x0_1 fun t7 =>
  binV (.int .i64) .geq t7 (.int .i64 0) fun t8 =>
  asB t8 fun b9 =>
  ifB b9 (
  maxV x0_0 x0_1 fun t14 =>
  binV (.int .i64) .leq t14 (.int .i64 1048576) fun t15 =>
  K8 [[t15]] H) (
  K8 [[(.bool false)]] H)) fun s8 H =>
  Q (sv s8 0) H
theorem S_fault_mark_of {x0_0 : Value} {x0_1 : Value} {H : Heap} {Q : Value → Heap → Prop} (h : S_fault_mark x0_0 x0_1 H Q) : callV Tryd.prog (fnV fn_fault_mark) [(.agg #[x0_0, x0_1])] H Q :=
  callV_fn (hcalls_of (pv := [1]) (ann := [(8, [4])]) Tryd.func12 (by kernel_rfl) (Eq.mpr (by kernel_rfl) h))

/-- thimblerig/thimblerigref06.May -/
def S_ref06_May (x0_0 : Value) (x0_1 : Value) (H : Heap) (Q : Value → Heap → Prop) : Prop :=
  newT H fun H =>
  callV Tryd.prog (fnV fn_ref06_codes) [] H fun t7 H =>
  LoopPT (fun s15 H K15 =>
  lenSl t7 H fun t10 =>
  binV (.int .i64) .lss (sv s15 1) t10 fun t11 =>
  asB t11 fun b11 =>
  ifB b11 (
  JoinPT (fun K23 =>
  asB (sv s15 0) fun b15 =>
  ifB b15 (
  K23 [[(.bool true)]] H) (
  idxS 1 t7 (sv s15 1) fun t20 =>
  loadP false 1 t20 H fun t21 =>
  binV (.int .i64) .eql x0_0 t21 fun t22 =>
  K23 [[t22]] H)) fun s23 H =>
  binV (.int .i64) .add (sv s15 1) (.int .i64 1) fun t13 =>
  K15 [[(sv s23 0)], [t13]] H) (
  JoinPT (fun K26 =>
  unV .not (sv s15 0) fun t25 =>
  asB t25 fun b26 =>
  ifB b26 (
  K26 [[(.bool true)]] H) (
  lenSl x0_1 H fun t29 =>
  binV (.int .i64) .gtr t29 (.int .i64 8) fun t30 =>
  K26 [[t30]] H)) fun s26 H =>
  asB (sv s26 0) fun b31 =>
  ifB b31 (
  Q (.bool false) H) (
  LoopPT (fun s33 H K33 =>
  lenSl x0_1 H fun t35 =>
  binV (.int .i64) .lss (sv s33 0) t35 fun t36 =>
  asB t36 fun b36 =>
  ifB b36 (
  idxS 2 x0_1 (sv s33 0) fun t42 =>
  loadP true 2 t42 H fun t43 =>
  callV Tryd.prog (fnV fn_ref06_mark) [t43] H fun t44 H =>
  unV .not t44 fun t45 =>
  asB t45 fun b45 =>
  ifB b45 (
  Q (.bool false) H) (
  binV (.int .i64) .add (sv s33 0) (.int .i64 1) fun t38 =>
  K33 [[t38]] H)) (
  Q (.bool true) H)) [[(.int .i64 0)]] H))) [[(.bool false)], [(.int .i64 0)]] H
theorem S_ref06_May_of {x0_0 : Value} {x0_1 : Value} {H : Heap} {Q : Value → Heap → Prop} (h : S_ref06_May x0_0 x0_1 H Q) : callV Tryd.prog (fnV fn_ref06_May) [(.agg #[x0_0, x0_1])] H Q :=
  callV_fn (hcalls_of (pv := [1]) (ann := [(15, [6, 10]), (23, [6]), (26, [62]), (33, [12])]) Tryd.func15 (by kernel_rfl) (Eq.mpr (by kernel_rfl) h))

/-- thimblerig/thimblerigref06.mark -/
def S_ref06_mark (x0_0 : Value) (x0_1 : Value) (H : Heap) (Q : Value → Heap → Prop) : Prop :=
  newT H fun H =>
  JoinPT (fun K8 =>
  binV (.int .i64) .geq x0_0 (.int .i64 0) fun t5 =>
  asB t5 fun b6 =>
  ifB b6 (
  binV (.int .i64) .leq x0_0 (.int .i64 1048576) fun t9 =>
  asB t9 fun b11 =>
  ifB b11 (
  binV (.int .i64) .geq x0_1 (.int .i64 0) fun t14 =>
  asB t14 fun b16 =>
  ifB b16 (
  binV (.int .i64) .leq x0_1 (.int .i64 1048576) fun t19 =>
  K8 [[t19]] H) (
  K8 [[(.bool false)]] H)) (
  K8 [[(.bool false)]] H)) (
  K8 [[(.bool false)]] H)) fun s8 H =>
  Q (sv s8 0) H
theorem S_ref06_mark_of {x0_0 : Value} {x0_1 : Value} {H : Heap} {Q : Value → Heap → Prop} (h : S_ref06_mark x0_0 x0_1 H Q) : callV Tryd.prog (fnV fn_ref06_mark) [(.agg #[x0_0, x0_1])] H Q :=
  callV_fn (hcalls_of (pv := [1]) (ann := [(8, [4])]) Tryd.func16 (by kernel_rfl) (Eq.mpr (by kernel_rfl) h))

/-- thimblerig/fault.chain -/
def S_fault_chain (x0_0 : Value) (x0_1 : Value) (H : Heap) (Q : Value → Heap → Prop) : Prop :=
  newC 25 [x0_0, x0_1] H fun a1 H =>
  newC 48 [.nilIface] H fun a2 H =>
  fldP 0 (.pointer (some ⟨a1, 0, none⟩)) fun t5 =>
  loadP false 1 t5 H fun t6 =>
  ifB (okc t6) (
  storeP false 1 (.pointer (some ⟨a2, 0, none⟩)) (.iface ty_fault_bare (.agg #[t6])) H fun H =>
  fldP 1 (.pointer (some ⟨a1, 0, none⟩)) fun t9 =>
  loadP false 1 t9 H fun t10 =>
  callV Tryd.prog (fnV fn_slices_Backward_api_Mark_api_Mark) [t10] H fun t11 H =>
  RangePT Tryd.prog t11 H (fun qs H R1 =>
  arg2 qs fun q1_0 q1_1 =>
  newC 27 [(.int .i64 0), (.int .i64 0)] H fun a4 H =>
  storeP true 2 (.pointer (some ⟨a4, 0, none⟩)) q1_1 H fun H =>
  loadP true 2 (.pointer (some ⟨a4, 0, none⟩)) H fun t14 =>
  loadP false 1 (.pointer (some ⟨a2, 0, none⟩)) H fun t15 =>
  cellsV true 2 t14 fun c1 =>
  ifB (okc t15) (
  ifB (decide (2 + 1 ≤ ((setSeg [(.int .i64 0), (.int .i64 0), .nilIface] 0 c1)).length)) (
  cellsU true 3 (.agg (setSeg (setSeg [(.int .i64 0), (.int .i64 0), .nilIface] 0 c1) 2 [t15]).toArray) fun c2 =>
  newC 52 c2 H fun a17 H =>
  storeP false 1 (.pointer (some ⟨a2, 0, none⟩)) (.iface ty_p_fault_met (.pointer (some ⟨a17, 0, none⟩))) H fun H =>
  R1 none H) False) False) (fun H =>
  loadP false 1 (.pointer (some ⟨a2, 0, none⟩)) H fun t19 =>
  storeP false 1 (.pointer (some ⟨a2, 0, none⟩)) t19 H fun H =>
  loadP false 1 (.pointer (some ⟨a2, 0, none⟩)) H fun r2 =>
  Q r2 H) []) False
theorem S_fault_chain_of {x0_0 : Value} {x0_1 : Value} {H : Heap} {Q : Value → Heap → Prop} (h : S_fault_chain x0_0 x0_1 H Q) : callV Tryd.prog (fnV fn_fault_chain) [(.agg #[x0_0, x0_1])] H Q :=
  callV_fn (hcalls_of (pv := []) (ann := []) Tryd.func18 (by kernel_rfl) (Eq.mpr (by kernel_rfl) h))

/-- thimblerig/fault.Check$1 -/
def S_fault_Check_1 (x0_0 : Value) (x0_1 : Value) (H : Heap) (Q : Value → Heap → Prop) : Prop :=
  newT H fun H =>
  callV Tryd.prog (fnV fn_fault_mark) [(.agg #[x0_0, x0_1])] H fun t4 H =>
  unV .not t4 fun t5 =>
  Q t5 H
theorem S_fault_Check_1_of {x0_0 : Value} {x0_1 : Value} {H : Heap} {Q : Value → Heap → Prop} (h : S_fault_Check_1 x0_0 x0_1 H Q) : callV Tryd.prog (fnV fn_fault_Check_1) [(.agg #[x0_0, x0_1])] H Q :=
  callV_fn (hcalls_of (pv := [1]) (ann := []) Tryd.func20 (by kernel_rfl) (Eq.mpr (by kernel_rfl) h))

/-- thimblerig/thimblerigref06.codes -/
def S_ref06_codes  (H : Heap) (Q : Value → Heap → Prop) : Prop :=
  bldS 3 1 false (zeroL Tryd.prog 3) 13 [(0, (.int .i64 2)), (1, (.int .i64 4)), (2, (.int .i64 6)), (3, (.int .i64 8)), (4, (.int .i64 9)), (5, (.int .i64 10)), (6, (.int .i64 50)), (7, (.int .i64 110)), (8, (.int .i64 180)), (9, (.int .i64 230)), (10, (.int .i64 250)), (11, (.int .i64 260)), (12, (.int .i64 261))] H fun t1 H =>
  Q t1 H
theorem S_ref06_codes_of  {H : Heap} {Q : Value → Heap → Prop} (h : S_ref06_codes H Q) : callV Tryd.prog (fnV fn_ref06_codes) [] H Q :=
  callV_fn (hcalls_of (pv := []) (ann := []) Tryd.func24 (by kernel_rfl) (Eq.mpr (by kernel_rfl) h))

/-- (*thimblerig/fault.met).Unwrap -/
def S_fault_met_Unwrap (x0 : Value) (H : Heap) (Q : Value → Heap → Prop) : Prop :=
  nilV x0 fun t4 =>
  fldP 2 t4 fun t5 =>
  loadP false 1 t5 H fun t6 =>
  Q t6 H
theorem S_fault_met_Unwrap_of {x0 : Value} {H : Heap} {Q : Value → Heap → Prop} (h : S_fault_met_Unwrap x0 H Q) : callV Tryd.prog (fnV fn_fault_met_Unwrap) [x0] H Q :=
  callV_fn (hcalls_of (pv := []) (ann := []) Tryd.func57 (by kernel_rfl) (Eq.mpr (by kernel_rfl) h))

/-- (thimblerig/fault.bare).Unwrap -/
def S_fault_bare_Unwrap (x0_0 : Value) (H : Heap) (Q : Value → Heap → Prop) : Prop :=
  newT H fun H =>
  Q (.iface ty_api_Errno x0_0) H
theorem S_fault_bare_Unwrap_of {x0_0 : Value} {H : Heap} {Q : Value → Heap → Prop} (h : S_fault_bare_Unwrap x0_0 H Q) : callV Tryd.prog (fnV fn_fault_bare_Unwrap) [(.agg #[x0_0])] H Q :=
  callV_fn (hcalls_of (pv := [1]) (ann := []) Tryd.func62 (by kernel_rfl) (Eq.mpr (by kernel_rfl) h))

end Go.Proofs.YtioaanmeooonfaaDoor
