/- Written by sh.py: what functions do, out of the deep reading; each is joined to the program by the kernel. -/
import Derived.Test.YtioaanmeooonfaaDoorShNames
namespace Go.Proofs.YtioaanmeooonfaaDoor
open Go.Ab
set_option linter.unusedVariables false
set_option linter.unusedSimpArgs false
set_option maxRecDepth 100000

/-- errors.As -/
def S_errors_As (x0 : Value) (x1 : Value) (H : Heap) (Q : Value → Heap → Prop) : Prop :=
  nilEq .eql x0 fun t9 =>
  asB t9 fun b9 =>
  ifB b9 (
  Q (.bool false) H) (
  nilEq .eql x1 fun t11 =>
  asB t11 fun b11 =>
  JoinPT (fun K15 =>
  ifB b11 (
  False) (
  K15 [] H)) fun s15 H =>
  xcV Tryd.prog fn_internal_reflectlite_ValueOf [x1] H fun t14 H =>
  newT H fun H =>
  cellsV true 3 t14 fun c1 =>
  ifB (decide (0 + 3 ≤ ((setSeg [(.pointer none), (.pointer none), (.int .u64 0)] 0 c1)).length)) (
  xcV Tryd.prog fn_internal_reflectlite_Value_Type [(.agg (seg (setSeg [(.pointer none), (.pointer none), (.int .u64 0)] 0 c1) 0 3).toArray)] H fun t16 H =>
  JoinPT (fun K26 =>
  invV Tryd.prog t16 "Kind" [] H fun t18 H =>
  binV (.int .u8) .neq t18 (.int .u8 22) fun t19 =>
  asB t19 fun b20 =>
  ifB b20 (
  K26 [[(.bool true)]] H) (
  ifB (decide (0 + 3 ≤ ((setSeg [(.pointer none), (.pointer none), (.int .u64 0)] 0 c1)).length)) (
  xcV Tryd.prog fn_internal_reflectlite_Value_IsNil [(.agg (seg (setSeg [(.pointer none), (.pointer none), (.int .u64 0)] 0 c1) 0 3).toArray)] H fun t22 H =>
  K26 [[t22]] H) False)) fun s26 H =>
  asB (sv s26 0) fun b23 =>
  JoinPT (fun K27 =>
  ifB b23 (
  False) (
  K27 [] H)) fun s27 H =>
  invV Tryd.prog t16 "Elem" [] H fun t26 H =>
  JoinPT (fun K35 =>
  invV Tryd.prog t26 "Kind" [] H fun t28 H =>
  binV (.int .u8) .neq t28 (.int .u8 20) fun t29 =>
  asB t29 fun b30 =>
  ifB b30 (
  loadP false 1 (.pointer (some ⟨0, 0, none⟩)) H fun t32 =>
  invV Tryd.prog t26 "Implements" [t32] H fun t33 H =>
  unV .not t33 fun t34 =>
  K35 [[t34]] H) (
  K35 [[(.bool false)]] H)) fun s35 H =>
  asB (sv s35 0) fun b35 =>
  JoinPT (fun K36 =>
  ifB b35 (
  False) (
  K36 [] H)) fun s36 H =>
  ifB (decide (0 + 3 ≤ ((setSeg [(.pointer none), (.pointer none), (.int .u64 0)] 0 c1)).length)) (
  callV Tryd.prog (fnV fn_errors_as) [x0, x1, (.agg (seg (setSeg [(.pointer none), (.pointer none), (.int .u64 0)] 0 c1) 0 3).toArray), t26] H fun t41 H =>
  Q t41 H) False) False)
theorem S_errors_As_of {x0 : Value} {x1 : Value} {H : Heap} {Q : Value → Heap → Prop} (h : S_errors_As x0 x1 H Q) : callV Tryd.prog (fnV fn_errors_As) [x0, x1] H Q :=
  callV_fn (hcalls_of (pv := [5]) (ann := [(15, []), (26, [46]), (27, []), (35, [70]), (36, [])]) Tryd.func17 (by kernel_rfl) (Eq.mpr (by kernel_rfl) h))

/-- errors.as -/
def S_errors_as (x0 : Value) (x1 : Value) (x2_0 : Value) (x2_1 : Value) (x2_2 : Value) (x3 : Value) (H : Heap) (Q : Value → Heap → Prop) : Prop :=
  newT H fun H =>
  LoopPT (fun s6 H K6 =>
  xcV Tryd.prog fn_internal_reflectlite_TypeOf [(sv s6 0)] H fun t17 H =>
  invV Tryd.prog t17 "AssignableTo" [x3] H fun t19 H =>
  asB t19 fun b19 =>
  ifB b19 (
  xcV Tryd.prog fn_internal_reflectlite_Value_Elem [(.agg #[x2_0, x2_1, x2_2])] H fun t21 H =>
  xcV Tryd.prog fn_internal_reflectlite_ValueOf [(sv s6 0)] H fun t23 H =>
  xcV Tryd.prog fn_internal_reflectlite_Value_Set [t21, t23] H fun t24 H =>
  Q (.bool true) H) (
  taV Tryd.prog 86 true (sv s6 0) fun t27 =>
  extractV 0 t27 fun t28 =>
  extractV 1 t27 fun t29 =>
  JoinPT (fun K20 =>
  asB t29 fun b31 =>
  ifB b31 (
  invV Tryd.prog t28 "As" [x1] H fun t34 H =>
  K20 [[t34]] H) (
  K20 [[(.bool false)]] H)) fun s20 H =>
  asB (sv s20 0) fun b35 =>
  ifB b35 (
  Q (.bool true) H) (
  taV Tryd.prog 89 true (sv s6 0) fun t37 =>
  extractV 1 t37 fun t38 =>
  extractV 0 t37 fun t39 =>
  asB t38 fun b38 =>
  ifB b38 (
  invV Tryd.prog t39 "Unwrap" [] H fun t41 H =>
  nilEq .eql t41 fun t43 =>
  asB t43 fun b43 =>
  ifB b43 (
  Q (.bool false) H) (
  K6 [[t41]] H)) (
  taV Tryd.prog 91 true (sv s6 0) fun t44 =>
  extractV 1 t44 fun t45 =>
  extractV 0 t44 fun t46 =>
  asB t45 fun b45 =>
  ifB b45 (
  invV Tryd.prog t46 "Unwrap" [] H fun t48 H =>
  lenSl t48 H fun t49 =>
  LoopPT (fun s57 H K57 =>
  binV (.int .i64) .lss (sv s57 0) t49 fun t51 =>
  asB t51 fun b51 =>
  ifB b51 (
  JoinPT (fun K500004 =>
  idxS 1 t48 (sv s57 0) fun t52 =>
  loadP false 1 t52 H fun t53 =>
  nilEq .eql t53 fun t55 =>
  asB t55 fun b55 =>
  ifB b55 (
  K500004 [] H) (
  callV Tryd.prog (fnV fn_errors_as) [t53, x1, (.agg #[x2_0, x2_1, x2_2]), x3] H fun t60 H =>
  asB t60 fun b60 =>
  ifB b60 (
  Q (.bool true) H) (
  K500004 [] H))) fun s500004 H =>
  binV (.int .i64) .add (sv s57 0) (.int .i64 1) fun t61 =>
  K57 [[t61]] H) (
  Q (.bool false) H)) [[(.int .i64 0)]] H) (
  Q (.bool false) H))))) [[x0]] H
theorem S_errors_as_of {x0 : Value} {x1 : Value} {x2_0 : Value} {x2_1 : Value} {x2_2 : Value} {x3 : Value} {H : Heap} {Q : Value → Heap → Prop} (h : S_errors_as x0 x1 x2_0 x2_1 x2_2 x3 H Q) : callV Tryd.prog (fnV fn_errors_as) [x0, x1, (.agg #[x2_0, x2_1, x2_2]), x3] H Q :=
  callV_fn (hcalls_of (pv := [6]) (ann := [(6, [0]), (20, [70]), (57, [100]), (500004, [])]) Tryd.func28 (by kernel_rfl) (Eq.mpr (by kernel_rfl) h))

end Go.Proofs.YtioaanmeooonfaaDoor
