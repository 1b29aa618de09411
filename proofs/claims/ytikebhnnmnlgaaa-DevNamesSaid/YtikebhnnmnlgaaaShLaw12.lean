/- Written by sh.py: what functions do, out of the deep reading; each is joined to the program by the kernel. -/
import Derived.Test.YtikebhnnmnlgaaaShNames
namespace Go.Proofs.Ytikebhnnmnlgaaa
open Go.Ab
set_option linter.unusedVariables false
set_option linter.unusedSimpArgs false
set_option maxRecDepth 100000

/-- thimblerig/thimbleriglaw12.DevReplays -/
def S_law12_DevReplays (x0_0 : Value) (x0_1 : Value) (x0_2 : Value) (x0_3 : Value) (x0_4 : Value) (x0_5 : Value) (x0_6 : Value) (x0_7 : Value) (x0_8 : Value) (x1_0 : Value) (x2 : Value) (H : Heap) (Q : Value → Heap → Prop) : Prop :=
  newT H fun H =>
  newT H fun H =>
  JoinPT (fun K8 =>
  callV Try.prog (fnV fn_ref12_Great) [(.agg #[x1_0])] H fun t15 H =>
  asB t15 fun b16 =>
  ifB b16 (
  K8 [[(.bool true)]] H) (
  callV Try.prog (fnV fn_ref12_GreatSees) [x2] H fun t18 H =>
  K8 [[t18]] H)) fun s8 H =>
  asB (sv s8 0) fun b19 =>
  ifB b19 (
  Q (.bool true) H) (
  callV Try.prog (fnV fn_ref12_Twin) [(.agg #[x1_0])] H fun t21 H =>
  callV Try.prog (fnV fn_ref12_TwinSees) [x2] H fun t23 H =>
  newT H fun H =>
  cellsV true 1 t21 fun c1 =>
  ifB (decide (0 + 1 ≤ ((setSeg [(.slice none 0 0)] 0 c1)).length)) (
  callV Try.prog (fnV fn_dev_Replay) [(.agg #[x0_0, x0_1, x0_2, x0_3, x0_4, x0_5, x0_6, x0_7, x0_8]), (.agg (seg (setSeg [(.slice none 0 0)] 0 c1) 0 1).toArray), t23] H fun t28 H =>
  extractV 0 t28 fun t29 =>
  extractV 1 t28 fun t30 =>
  newT H fun H =>
  cellsV true 1 t29 fun c2 =>
  callV Try.prog (fnV fn_ref12_Replay) [(.agg #[x0_0, x0_1, x0_2, x0_3, x0_4, x0_5, x0_6, x0_7, x0_8]), (.agg #[x1_0]), x2] H fun t35 H =>
  extractV 0 t35 fun t36 =>
  extractV 1 t35 fun t37 =>
  newT H fun H =>
  cellsV true 1 t36 fun c3 =>
  JoinPT (fun K23 =>
  ifB (decide (0 + 1 ≤ ((setSeg [(.slice none 0 0)] 0 c2)).length)) (
  ifB (decide (0 + 1 ≤ ((setSeg [(.slice none 0 0)] 0 c3)).length)) (
  callV Try.prog (fnV fn_ref12_Same) [(.agg (seg (setSeg [(.slice none 0 0)] 0 c2) 0 1).toArray), (.agg (seg (setSeg [(.slice none 0 0)] 0 c3) 0 1).toArray)] H fun t40 H =>
  asB t40 fun b41 =>
  ifB b41 (
  binV (.int .i64) .eql t30 t37 fun t44 =>
  K23 [[t44]] H) (
  K23 [[(.bool false)]] H)) False) False) fun s23 H =>
  ifB (decide (0 + 1 ≤ ((setSeg [(.slice none 0 0)] 0 c2)).length)) (
  callV Try.prog (fnV fn_law12_spoil) [(.agg (seg (setSeg [(.slice none 0 0)] 0 c2) 0 1).toArray)] H fun t47 H =>
  JoinPT (fun K29 =>
  asB (sv s23 0) fun b49 =>
  ifB b49 (
  ifB (decide (0 + 1 ≤ ((setSeg [(.slice none 0 0)] 0 c1)).length)) (
  callV Try.prog (fnV fn_ref12_Same) [(.agg (seg (setSeg [(.slice none 0 0)] 0 c1) 0 1).toArray), (.agg #[x1_0])] H fun t52 H =>
  asB t52 fun b54 =>
  ifB b54 (
  callV Try.prog (fnV fn_ref12_SameSees) [t23, x2] H fun t57 H =>
  K29 [[t57]] H) (
  K29 [[(.bool false)]] H)) False) (
  K29 [[(.bool false)]] H)) fun s29 H =>
  Q (sv s29 0) H) False) False)
theorem S_law12_DevReplays_of {x0_0 : Value} {x0_1 : Value} {x0_2 : Value} {x0_3 : Value} {x0_4 : Value} {x0_5 : Value} {x0_6 : Value} {x0_7 : Value} {x0_8 : Value} {x1_0 : Value} {x2 : Value} {H : Heap} {Q : Value → Heap → Prop} (h : S_law12_DevReplays x0_0 x0_1 x0_2 x0_3 x0_4 x0_5 x0_6 x0_7 x0_8 x1_0 x2 H Q) : callV Try.prog (fnV fn_law12_DevReplays) [(.agg #[x0_0, x0_1, x0_2, x0_3, x0_4, x0_5, x0_6, x0_7, x0_8]), (.agg #[x1_0]), x2] H Q :=
  callV_fn (hcalls_of (pv := [3, 4, 7, 9, 11]) (ann := [(8, [38]), (23, [26]), (29, [12])]) Try.func4 (by kernel_rfl) (Eq.mpr (by kernel_rfl) h))

/-- thimblerig/thimbleriglaw12.DevTells -/
def S_law12_DevTells (x0_0 : Value) (x0_1 : Value) (x0_2 : Value) (x0_3 : Value) (x0_4 : Value) (x0_5 : Value) (x0_6 : Value) (x0_7 : Value) (x0_8 : Value) (x1_0 : Value) (x2_0 : Value) (H : Heap) (Q : Value → Heap → Prop) : Prop :=
  newT H fun H =>
  newT H fun H =>
  newT H fun H =>
  JoinPT (fun K8 =>
  callV Try.prog (fnV fn_ref12_Great) [(.agg #[x1_0])] H fun t16 H =>
  asB t16 fun b17 =>
  ifB b17 (
  K8 [[(.bool true)]] H) (
  callV Try.prog (fnV fn_ref12_Great) [(.agg #[x2_0])] H fun t19 H =>
  K8 [[t19]] H)) fun s8 H =>
  asB (sv s8 0) fun b20 =>
  ifB b20 (
  Q (.bool true) H) (
  callV Try.prog (fnV fn_ref12_Twin) [(.agg #[x1_0])] H fun t22 H =>
  newT H fun H =>
  cellsV true 1 t22 fun c1 =>
  callV Try.prog (fnV fn_dev_New) [(.agg #[x0_0, x0_1, x0_2, x0_3, x0_4, x0_5, x0_6, x0_7, x0_8])] H fun t25 H =>
  extractV 0 t25 fun t26 =>
  extractV 1 t25 fun t27 =>
  newT H fun H =>
  cellsV true 1 t26 fun c2 =>
  callV Try.prog (fnV fn_ref12_New) [(.agg #[x0_0, x0_1, x0_2, x0_3, x0_4, x0_5, x0_6, x0_7, x0_8])] H fun t30 H =>
  extractV 0 t30 fun t31 =>
  extractV 1 t30 fun t32 =>
  newT H fun H =>
  cellsV true 1 t31 fun c3 =>
  ifB (decide (0 + 1 ≤ ((setSeg [(.slice none 0 0)] 0 c1)).length)) (
  callV Try.prog (fnV fn_dev_Twin) [(.agg (seg (setSeg [(.slice none 0 0)] 0 c1) 0 1).toArray)] H fun t34 H =>
  newT H fun H =>
  cellsV true 1 t34 fun c4 =>
  JoinPT (fun K26 =>
  ifB (decide (0 + 1 ≤ ((setSeg [(.slice none 0 0)] 0 c2)).length)) (
  ifB (decide (0 + 1 ≤ ((setSeg [(.slice none 0 0)] 0 c3)).length)) (
  callV Try.prog (fnV fn_ref12_Same) [(.agg (seg (setSeg [(.slice none 0 0)] 0 c2) 0 1).toArray), (.agg (seg (setSeg [(.slice none 0 0)] 0 c3) 0 1).toArray)] H fun t37 H =>
  asB t37 fun b38 =>
  ifB b38 (
  binV (.int .i64) .eql t27 t32 fun t41 =>
  asB t41 fun b43 =>
  ifB b43 (
  ifB (decide (0 + 1 ≤ ((setSeg [(.slice none 0 0)] 0 c1)).length)) (
  callV Try.prog (fnV fn_dev_Check) [(.agg #[x0_0, x0_1, x0_2, x0_3, x0_4, x0_5, x0_6, x0_7, x0_8]), (.agg (seg (setSeg [(.slice none 0 0)] 0 c1) 0 1).toArray)] H fun t46 H =>
  callV Try.prog (fnV fn_ref12_Check) [(.agg #[x0_0, x0_1, x0_2, x0_3, x0_4, x0_5, x0_6, x0_7, x0_8]), (.agg #[x1_0])] H fun t49 H =>
  binV (.int .i64) .eql t46 t49 fun t50 =>
  K26 [[t50]] H) False) (
  K26 [[(.bool false)]] H)) (
  K26 [[(.bool false)]] H)) False) False) fun s26 H =>
  JoinPT (fun K29 =>
  ifB (decide (0 + 1 ≤ ((setSeg [(.slice none 0 0)] 0 c1)).length)) (
  callV Try.prog (fnV fn_dev_Same) [(.agg (seg (setSeg [(.slice none 0 0)] 0 c1) 0 1).toArray), (.agg #[x2_0])] H fun t54 H =>
  callV Try.prog (fnV fn_ref12_Same) [(.agg #[x1_0]), (.agg #[x2_0])] H fun t57 H =>
  binV .bool .eql t54 t57 fun t58 =>
  asB t58 fun b59 =>
  ifB b59 (
  ifB (decide (0 + 1 ≤ ((setSeg [(.slice none 0 0)] 0 c1)).length)) (
  callV Try.prog (fnV fn_dev_Same) [(.agg (seg (setSeg [(.slice none 0 0)] 0 c1) 0 1).toArray), (.agg #[x1_0])] H fun t62 H =>
  asB t62 fun b64 =>
  ifB b64 (
  ifB (decide (0 + 1 ≤ ((setSeg [(.slice none 0 0)] 0 c4)).length)) (
  callV Try.prog (fnV fn_ref12_Same) [(.agg (seg (setSeg [(.slice none 0 0)] 0 c4) 0 1).toArray), (.agg #[x1_0])] H fun t67 H =>
  K29 [[t67]] H) False) (
  K29 [[(.bool false)]] H)) False) (
  K29 [[(.bool false)]] H)) False) fun s29 H =>
  ifB (decide (0 + 1 ≤ ((setSeg [(.slice none 0 0)] 0 c4)).length)) (
  callV Try.prog (fnV fn_law12_spoil) [(.agg (seg (setSeg [(.slice none 0 0)] 0 c4) 0 1).toArray)] H fun t70 H =>
  JoinPT (fun K35 =>
  asB (sv s26 0) fun b72 =>
  ifB b72 (
  asB (sv s29 0) fun b75 =>
  ifB b75 (
  ifB (decide (0 + 1 ≤ ((setSeg [(.slice none 0 0)] 0 c1)).length)) (
  callV Try.prog (fnV fn_ref12_Same) [(.agg (seg (setSeg [(.slice none 0 0)] 0 c1) 0 1).toArray), (.agg #[x1_0])] H fun t78 H =>
  K35 [[t78]] H) False) (
  K35 [[(.bool false)]] H)) (
  K35 [[(.bool false)]] H)) fun s35 H =>
  Q (sv s35 0) H) False) False)
theorem S_law12_DevTells_of {x0_0 : Value} {x0_1 : Value} {x0_2 : Value} {x0_3 : Value} {x0_4 : Value} {x0_5 : Value} {x0_6 : Value} {x0_7 : Value} {x0_8 : Value} {x1_0 : Value} {x2_0 : Value} {H : Heap} {Q : Value → Heap → Prop} (h : S_law12_DevTells x0_0 x0_1 x0_2 x0_3 x0_4 x0_5 x0_6 x0_7 x0_8 x1_0 x2_0 H Q) : callV Try.prog (fnV fn_law12_DevTells) [(.agg #[x0_0, x0_1, x0_2, x0_3, x0_4, x0_5, x0_6, x0_7, x0_8]), (.agg #[x1_0]), (.agg #[x2_0])] H Q :=
  callV_fn (hcalls_of (pv := [3, 4, 5, 7, 8, 10, 12]) (ann := [(8, [40]), (26, [26]), (29, [28]), (35, [12])]) Try.func5 (by kernel_rfl) (Eq.mpr (by kernel_rfl) h))

/-- thimblerig/thimbleriglaw12.DevDoes -/
def S_law12_DevDoes (x0_0 : Value) (x0_1 : Value) (x0_2 : Value) (x0_3 : Value) (x0_4 : Value) (x0_5 : Value) (x0_6 : Value) (x0_7 : Value) (x0_8 : Value) (x1_0 : Value) (x2 : Value) (x3 : Value) (x4 : Value) (H : Heap) (Q : Value → Heap → Prop) : Prop :=
  newT H fun H =>
  newT H fun H =>
  JoinPT (fun K8 =>
  callV Try.prog (fnV fn_ref12_Great) [(.agg #[x1_0])] H fun t30 H =>
  asB t30 fun b31 =>
  ifB b31 (
  K8 [[(.bool true)]] H) (
  lenSl x3 H fun t33 =>
  binV (.int .i64) .gtr t33 (.int .i64 20) fun t34 =>
  asB t34 fun b36 =>
  ifB b36 (
  K8 [[(.bool true)]] H) (
  callV Try.prog (fnV fn_law12_great) [x4] H fun t38 H =>
  K8 [[t38]] H))) fun s8 H =>
  asB (sv s8 0) fun b39 =>
  ifB b39 (
  Q (.bool true) H) (
  callV Try.prog (fnV fn_ref12_Twin) [(.agg #[x1_0])] H fun t41 H =>
  callV Try.prog (fnV fn_ref12_TwinAll) [x4] H fun t43 H =>
  newT H fun H =>
  cellsV true 1 t41 fun c1 =>
  ifB (decide (0 + 1 ≤ ((setSeg [(.slice none 0 0)] 0 c1)).length)) (
  callV Try.prog (fnV fn_dev_Read) [(.agg #[x0_0, x0_1, x0_2, x0_3, x0_4, x0_5, x0_6, x0_7, x0_8]), (.agg (seg (setSeg [(.slice none 0 0)] 0 c1) 0 1).toArray), x2, x3] H fun t49 H =>
  extractV 0 t49 fun t50 =>
  extractV 1 t49 fun t51 =>
  extractV 2 t49 fun t52 =>
  callV Try.prog (fnV fn_ref12_Read) [(.agg #[x0_0, x0_1, x0_2, x0_3, x0_4, x0_5, x0_6, x0_7, x0_8]), (.agg #[x1_0]), x2, x3] H fun t58 H =>
  extractV 0 t58 fun t59 =>
  extractV 1 t58 fun t60 =>
  extractV 2 t58 fun t61 =>
  ifB (decide (0 + 1 ≤ ((setSeg [(.slice none 0 0)] 0 c1)).length)) (
  callV Try.prog (fnV fn_dev_Write) [(.agg #[x0_0, x0_1, x0_2, x0_3, x0_4, x0_5, x0_6, x0_7, x0_8]), (.agg (seg (setSeg [(.slice none 0 0)] 0 c1) 0 1).toArray), x2, x3, t43] H fun t68 H =>
  extractV 0 t68 fun t69 =>
  extractV 1 t68 fun t70 =>
  extractV 2 t68 fun t71 =>
  newT H fun H =>
  cellsV true 1 t69 fun c2 =>
  callV Try.prog (fnV fn_ref12_Write) [(.agg #[x0_0, x0_1, x0_2, x0_3, x0_4, x0_5, x0_6, x0_7, x0_8]), (.agg #[x1_0]), x2, x3, x4] H fun t78 H =>
  extractV 0 t78 fun t79 =>
  extractV 1 t78 fun t80 =>
  extractV 2 t78 fun t81 =>
  newT H fun H =>
  cellsV true 1 t79 fun c3 =>
  JoinPT (fun K29 =>
  callV Try.prog (fnV fn_ref01_SameAll) [t50, t59] H fun t84 H =>
  asB t84 fun b85 =>
  ifB b85 (
  callV Try.prog (fnV fn_ref12_SameSees) [t51, t60] H fun t88 H =>
  asB t88 fun b90 =>
  ifB b90 (
  binV (.int .i64) .eql t52 t61 fun t93 =>
  K29 [[t93]] H) (
  K29 [[(.bool false)]] H)) (
  K29 [[(.bool false)]] H)) fun s29 H =>
  JoinPT (fun K32 =>
  ifB (decide (0 + 1 ≤ ((setSeg [(.slice none 0 0)] 0 c2)).length)) (
  ifB (decide (0 + 1 ≤ ((setSeg [(.slice none 0 0)] 0 c3)).length)) (
  callV Try.prog (fnV fn_ref12_Same) [(.agg (seg (setSeg [(.slice none 0 0)] 0 c2) 0 1).toArray), (.agg (seg (setSeg [(.slice none 0 0)] 0 c3) 0 1).toArray)] H fun t97 H =>
  asB t97 fun b98 =>
  ifB b98 (
  callV Try.prog (fnV fn_ref12_SameSees) [t70, t80] H fun t101 H =>
  asB t101 fun b103 =>
  ifB b103 (
  binV (.int .i64) .eql t71 t81 fun t106 =>
  K32 [[t106]] H) (
  K32 [[(.bool false)]] H)) (
  K32 [[(.bool false)]] H)) False) False) fun s32 H =>
  ifB (decide (0 + 1 ≤ ((setSeg [(.slice none 0 0)] 0 c2)).length)) (
  callV Try.prog (fnV fn_law12_spoil) [(.agg (seg (setSeg [(.slice none 0 0)] 0 c2) 0 1).toArray)] H fun t109 H =>
  LoopPT (fun s39 H K39 =>
  lenSl t50 H fun t112 =>
  binV (.int .i64) .lss (sv s39 0) t112 fun t113 =>
  asB t113 fun b113 =>
  ifB b113 (
  LoopPT (fun s48 H K48 =>
  idxS 1 t50 (sv s39 0) fun t119 =>
  loadP false 1 t119 H fun t120 =>
  lenSl t120 H fun t121 =>
  binV (.int .i64) .lss (sv s48 0) t121 fun t122 =>
  asB t122 fun b122 =>
  ifB b122 (
  idxS 1 t50 (sv s39 0) fun t127 =>
  loadP false 1 t127 H fun t128 =>
  idxS 1 t50 (sv s39 0) fun t132 =>
  loadP false 1 t132 H fun t133 =>
  idxS 1 t133 (sv s48 0) fun t135 =>
  loadP false 1 t135 H fun t136 =>
  binV (.int .u8) .add t136 (.int .u8 1) fun t137 =>
  idxS 1 t128 (sv s48 0) fun t138 =>
  storeP false 1 t138 t137 H fun H =>
  binV (.int .i64) .add (sv s48 0) (.int .i64 1) fun t124 =>
  K48 [[t124]] H) (
  binV (.int .i64) .add (sv s39 0) (.int .i64 1) fun t115 =>
  K39 [[t115]] H)) [[(.int .i64 0)]] H) (
  JoinPT (fun K59 =>
  asB (sv s29 0) fun b140 =>
  ifB b140 (
  asB (sv s32 0) fun b143 =>
  ifB b143 (
  ifB (decide (0 + 1 ≤ ((setSeg [(.slice none 0 0)] 0 c1)).length)) (
  callV Try.prog (fnV fn_ref12_Same) [(.agg (seg (setSeg [(.slice none 0 0)] 0 c1) 0 1).toArray), (.agg #[x1_0])] H fun t146 H =>
  asB t146 fun b148 =>
  ifB b148 (
  callV Try.prog (fnV fn_ref01_SameAll) [t43, x4] H fun t151 H =>
  asB t151 fun b153 =>
  ifB b153 (
  callV Try.prog (fnV fn_ref12_SameSees) [t51, t60] H fun t156 H =>
  asB t156 fun b158 =>
  ifB b158 (
  callV Try.prog (fnV fn_ref12_SameSees) [t70, t80] H fun t161 H =>
  K59 [[t161]] H) (
  K59 [[(.bool false)]] H)) (
  K59 [[(.bool false)]] H)) (
  K59 [[(.bool false)]] H)) False) (
  K59 [[(.bool false)]] H)) (
  K59 [[(.bool false)]] H)) fun s59 H =>
  Q (sv s59 0) H)) [[(.int .i64 0)]] H) False) False) False)
theorem S_law12_DevDoes_of {x0_0 : Value} {x0_1 : Value} {x0_2 : Value} {x0_3 : Value} {x0_4 : Value} {x0_5 : Value} {x0_6 : Value} {x0_7 : Value} {x0_8 : Value} {x1_0 : Value} {x2 : Value} {x3 : Value} {x4 : Value} {H : Heap} {Q : Value → Heap → Prop} (h : S_law12_DevDoes x0_0 x0_1 x0_2 x0_3 x0_4 x0_5 x0_6 x0_7 x0_8 x1_0 x2 x3 x4 H Q) : callV Try.prog (fnV fn_law12_DevDoes) [(.agg #[x0_0, x0_1, x0_2, x0_3, x0_4, x0_5, x0_6, x0_7, x0_8]), (.agg #[x1_0]), x2, x3, x4] H Q :=
  callV_fn (hcalls_of (pv := [5, 6, 11, 19, 22]) (ann := [(8, [78]), (29, [50]), (32, [52]), (39, [54]), (48, [56]), (59, [20])]) Try.func7 (by kernel_rfl) (Eq.mpr (by kernel_rfl) h))

/-- thimblerig/thimbleriglaw12.DevBack -/
def S_law12_DevBack (x0_0 : Value) (x0_1 : Value) (x0_2 : Value) (x0_3 : Value) (x0_4 : Value) (x0_5 : Value) (x0_6 : Value) (x0_7 : Value) (x0_8 : Value) (x1_0 : Value) (x2 : Value) (x3 : Value) (x4 : Value) (x5 : Value) (x6 : Value) (H : Heap) (Q : Value → Heap → Prop) : Prop :=
  newT H fun H =>
  newT H fun H =>
  callV Try.prog (fnV fn_law12_alive) [] H fun t27 H =>
  JoinPT (fun K11 =>
  callV Try.prog (fnV fn_ref12_Great) [(.agg #[x1_0])] H fun t29 H =>
  asB t29 fun b30 =>
  ifB b30 (
  K11 [[(.bool true)]] H) (
  lenSl x3 H fun t32 =>
  binV (.int .i64) .gtr t32 (.int .i64 20) fun t33 =>
  asB t33 fun b35 =>
  ifB b35 (
  K11 [[(.bool true)]] H) (
  callV Try.prog (fnV fn_law12_great) [x4] H fun t37 H =>
  asB t37 fun b39 =>
  ifB b39 (
  K11 [[(.bool true)]] H) (
  unV .not t27 fun t41 =>
  K11 [[t41]] H)))) fun s11 H =>
  asB (sv s11 0) fun b42 =>
  ifB b42 (
  Q t27 H) (
  callV Try.prog (fnV fn_dev_Write) [(.agg #[x0_0, x0_1, x0_2, x0_3, x0_4, x0_5, x0_6, x0_7, x0_8]), (.agg #[x1_0]), x2, x3, x4] H fun t50 H =>
  extractV 0 t50 fun t51 =>
  extractV 1 t50 fun t52 =>
  extractV 2 t50 fun t53 =>
  newT H fun H =>
  cellsV true 1 t51 fun c1 =>
  binV (.int .i64) .neq t53 (.int .i64 0) fun t55 =>
  asB t55 fun b55 =>
  ifB b55 (
  JoinPT (fun K23 =>
  asB t27 fun b57 =>
  ifB b57 (
  ifB (decide (0 + 1 ≤ ((setSeg [(.slice none 0 0)] 0 c1)).length)) (
  lenSl (mkV false (seg (setSeg [(.slice none 0 0)] 0 c1) 0 1)) H fun t60 =>
  binV (.int .i64) .eql t60 (.int .i64 0) fun t61 =>
  asB t61 fun b63 =>
  ifB b63 (
  lenSl t52 H fun t65 =>
  binV (.int .i64) .eql t65 (.int .i64 0) fun t66 =>
  K23 [[t66]] H) (
  K23 [[(.bool false)]] H)) False) (
  K23 [[(.bool false)]] H)) fun s23 H =>
  Q (sv s23 0) H) (
  ifB (decide (0 + 1 ≤ ((setSeg [(.slice none 0 0)] 0 c1)).length)) (
  bldS 3 1 false (zeroL Try.prog 3) 1 [(0, x6)] H fun t73 H =>
  callV Try.prog (fnV fn_dev_Read) [(.agg #[x0_0, x0_1, x0_2, x0_3, x0_4, x0_5, x0_6, x0_7, x0_8]), (.agg (seg (setSeg [(.slice none 0 0)] 0 c1) 0 1).toArray), x5, t73] H fun t74 H =>
  extractV 0 t74 fun t75 =>
  extractV 1 t74 fun t76 =>
  extractV 2 t74 fun t77 =>
  bldS 3 1 false (zeroL Try.prog 3) 1 [(0, x6)] H fun t83 H =>
  callV Try.prog (fnV fn_dev_Read) [(.agg #[x0_0, x0_1, x0_2, x0_3, x0_4, x0_5, x0_6, x0_7, x0_8]), (.agg #[x1_0]), x5, t83] H fun t84 H =>
  extractV 0 t84 fun t85 =>
  extractV 1 t84 fun t86 =>
  extractV 2 t84 fun t87 =>
  JoinPT (fun K32 =>
  binV (.int .i64) .neq t77 t87 fun t90 =>
  asB t90 fun b91 =>
  ifB b91 (
  K32 [[(.bool true)]] H) (
  ifB (decide (0 + 1 ≤ ((setSeg [(.slice none 0 0)] 0 c1)).length)) (
  callV Try.prog (fnV fn_dev_Check) [(.agg #[x0_0, x0_1, x0_2, x0_3, x0_4, x0_5, x0_6, x0_7, x0_8]), (.agg (seg (setSeg [(.slice none 0 0)] 0 c1) 0 1).toArray)] H fun t94 H =>
  binV (.int .i64) .neq t94 (.int .i64 0) fun t95 =>
  asB t95 fun b97 =>
  ifB b97 (
  K32 [[(.bool true)]] H) (
  lenSl t52 H fun t99 =>
  lenSl x3 H fun t101 =>
  binV (.int .i64) .neq t99 t101 fun t102 =>
  K32 [[t102]] H)) False)) fun s32 H =>
  asB (sv s32 0) fun b103 =>
  ifB b103 (
  Q (.bool false) H) (
  LoopPT (fun s42 H K42 =>
  lenSl x3 H fun t107 =>
  binV (.int .i64) .lss (sv s42 1) t107 fun t108 =>
  asB t108 fun b108 =>
  ifB b108 (
  JoinPT (fun K50 =>
  binV (.int .i64) .eql x2 x5 fun t113 =>
  asB t113 fun b114 =>
  ifB b114 (
  idxS 1 x3 (sv s42 1) fun t117 =>
  loadP false 1 t117 H fun t118 =>
  binV (.int .i64) .eql t118 x6 fun t120 =>
  K50 [[t120]] H) (
  K50 [[(.bool false)]] H)) fun s50 H =>
  asB (sv s50 0) fun b121 =>
  JoinPT (fun K51 =>
  ifB b121 (
  idxS 1 x4 (sv s42 1) fun t124 =>
  loadP false 1 t124 H fun t125 =>
  bldS 77 1 false (zeroL Try.prog 77) 1 [(0, t125)] H fun t126 H =>
  K51 [[t126]] H) (
  K51 [[(sv s42 0)]] H)) fun s51 H =>
  binV (.int .i64) .add (sv s42 1) (.int .i64 1) fun t110 =>
  K42 [[(sv s51 0)], [t110]] H) (
  JoinPT (fun K56 =>
  asB t27 fun b128 =>
  ifB b128 (
  callV Try.prog (fnV fn_ref01_SameAll) [t75, (sv s42 0)] H fun t131 H =>
  K56 [[t131]] H) (
  K56 [[(.bool false)]] H)) fun s56 H =>
  Q (sv s56 0) H)) [[t85], [(.int .i64 0)]] H)) False))
theorem S_law12_DevBack_of {x0_0 : Value} {x0_1 : Value} {x0_2 : Value} {x0_3 : Value} {x0_4 : Value} {x0_5 : Value} {x0_6 : Value} {x0_7 : Value} {x0_8 : Value} {x1_0 : Value} {x2 : Value} {x3 : Value} {x4 : Value} {x5 : Value} {x6 : Value} {H : Heap} {Q : Value → Heap → Prop} (h : S_law12_DevBack x0_0 x0_1 x0_2 x0_3 x0_4 x0_5 x0_6 x0_7 x0_8 x1_0 x2 x3 x4 x5 x6 H Q) : callV Try.prog (fnV fn_law12_DevBack) [(.agg #[x0_0, x0_1, x0_2, x0_3, x0_4, x0_5, x0_6, x0_7, x0_8]), (.agg #[x1_0]), x2, x3, x4, x5, x6] H Q :=
  callV_fn (hcalls_of (pv := [7, 8, 16]) (ann := [(11, [84]), (23, [28]), (32, [206]), (42, [50, 52]), (50, [242]), (51, [50]), (56, [28])]) Try.func8 (by kernel_rfl) (Eq.mpr (by kernel_rfl) h))

/-- thimblerig/thimbleriglaw12.DevNames -/
def S_law12_DevNames  (H : Heap) (Q : Value → Heap → Prop) : Prop :=
  callV Try.prog (fnV fn_law12_eight) [] H fun t17 H =>
  callV Try.prog (fnV fn_dev_New) [t17] H fun t18 H =>
  extractV 0 t18 fun t19 =>
  extractV 1 t18 fun t20 =>
  newT H fun H =>
  cellsV true 1 t19 fun c1 =>
  ifB (decide (0 + 1 ≤ ((setSeg [(.slice none 0 0)] 0 c1)).length)) (
  callV Try.prog (fnV fn_law12_eight) [] H fun t22 H =>
  callV Try.prog (fnV fn_dev_Read) [t22, (.agg (seg (setSeg [(.slice none 0 0)] 0 c1) 0 1).toArray), (.int .i64 3), (.slice none 0 0)] H fun t24 H =>
  extractV 0 t24 fun t25 =>
  extractV 1 t24 fun t26 =>
  extractV 2 t24 fun t27 =>
  JoinPT (fun K14 =>
  ifB (decide (0 + 1 ≤ ((setSeg [(.slice none 0 0)] 0 c1)).length)) (
  (callV Try.prog (fnV fn_law12_eight) [] H fun t29 H =>
  bldS 3 1 false (zeroL Try.prog 3) 1 [(0, (.int .i64 4))] H fun t31 H =>
  callV Try.prog (fnV fn_dev_Read) [t29, (.agg (seg (setSeg [(.slice none 0 0)] 0 c1) 0 1).toArray), (.int .i64 2), t31] H fun t32 H =>
  extractV 0 t32 fun t33 =>
  extractV 1 t32 fun t34 =>
  extractV 2 t32 fun t35 =>
  K14 [[t35]] H) ∧
  (bldS 3 1 false (zeroL Try.prog 3) 1 [(0, (.int .i64 4))] H fun t31 H =>
  callV Try.prog (fnV fn_law12_eight) [] H fun t29 H =>
  callV Try.prog (fnV fn_dev_Read) [t29, (.agg (seg (setSeg [(.slice none 0 0)] 0 c1) 0 1).toArray), (.int .i64 2), t31] H fun t32 H =>
  extractV 0 t32 fun t33 =>
  extractV 1 t32 fun t34 =>
  extractV 2 t32 fun t35 =>
  K14 [[t35]] H)) False) fun s14 H =>
  JoinPT (fun K17 =>
  ifB (decide (0 + 1 ≤ ((setSeg [(.slice none 0 0)] 0 c1)).length)) (
  (callV Try.prog (fnV fn_law12_eight) [] H fun t37 H =>
  (bldS 3 1 false (zeroL Try.prog 3) 1 [(0, (.int .i64 1))] H fun t39 H =>
  (callV Try.prog (fnV fn_law12_text) [(.int .u8 1)] H fun t40 H =>
  slS 1 t40 (some (.int .i64 1)) none none fun t41 =>
  (bldS 77 1 false (zeroL Try.prog 77) 1 [(0, t41)] H fun t42 H =>
  (callV Try.prog (fnV fn_dev_Write) [t37, (.agg (seg (setSeg [(.slice none 0 0)] 0 c1) 0 1).toArray), (.int .i64 2), t39, t42] H fun t43 H =>
  extractV 0 t43 fun t44 =>
  extractV 1 t43 fun t45 =>
  extractV 2 t43 fun t46 =>
  newT H fun H =>
  cellsV true 1 t44 fun c2 =>
  K17 [[t46]] H) ∧
  (newT H fun H =>
  callV Try.prog (fnV fn_dev_Write) [t37, (.agg (seg (setSeg [(.slice none 0 0)] 0 c1) 0 1).toArray), (.int .i64 2), t39, t42] H fun t43 H =>
  extractV 0 t43 fun t44 =>
  extractV 1 t43 fun t45 =>
  extractV 2 t43 fun t46 =>
  cellsV true 1 t44 fun c3 =>
  K17 [[t46]] H)) ∧
  (newT H fun H =>
  bldS 77 1 false (zeroL Try.prog 77) 1 [(0, t41)] H fun t42 H =>
  callV Try.prog (fnV fn_dev_Write) [t37, (.agg (seg (setSeg [(.slice none 0 0)] 0 c1) 0 1).toArray), (.int .i64 2), t39, t42] H fun t43 H =>
  extractV 0 t43 fun t44 =>
  extractV 1 t43 fun t45 =>
  extractV 2 t43 fun t46 =>
  cellsV true 1 t44 fun c4 =>
  K17 [[t46]] H)) ∧
  (newT H fun H =>
  callV Try.prog (fnV fn_law12_text) [(.int .u8 1)] H fun t40 H =>
  slS 1 t40 (some (.int .i64 1)) none none fun t41 =>
  bldS 77 1 false (zeroL Try.prog 77) 1 [(0, t41)] H fun t42 H =>
  callV Try.prog (fnV fn_dev_Write) [t37, (.agg (seg (setSeg [(.slice none 0 0)] 0 c1) 0 1).toArray), (.int .i64 2), t39, t42] H fun t43 H =>
  extractV 0 t43 fun t44 =>
  extractV 1 t43 fun t45 =>
  extractV 2 t43 fun t46 =>
  cellsV true 1 t44 fun c5 =>
  K17 [[t46]] H)) ∧
  (callV Try.prog (fnV fn_law12_text) [(.int .u8 1)] H fun t40 H =>
  slS 1 t40 (some (.int .i64 1)) none none fun t41 =>
  (bldS 3 1 false (zeroL Try.prog 3) 1 [(0, (.int .i64 1))] H fun t39 H =>
  (bldS 77 1 false (zeroL Try.prog 77) 1 [(0, t41)] H fun t42 H =>
  (callV Try.prog (fnV fn_dev_Write) [t37, (.agg (seg (setSeg [(.slice none 0 0)] 0 c1) 0 1).toArray), (.int .i64 2), t39, t42] H fun t43 H =>
  extractV 0 t43 fun t44 =>
  extractV 1 t43 fun t45 =>
  extractV 2 t43 fun t46 =>
  newT H fun H =>
  cellsV true 1 t44 fun c6 =>
  K17 [[t46]] H) ∧
  (newT H fun H =>
  callV Try.prog (fnV fn_dev_Write) [t37, (.agg (seg (setSeg [(.slice none 0 0)] 0 c1) 0 1).toArray), (.int .i64 2), t39, t42] H fun t43 H =>
  extractV 0 t43 fun t44 =>
  extractV 1 t43 fun t45 =>
  extractV 2 t43 fun t46 =>
  cellsV true 1 t44 fun c7 =>
  K17 [[t46]] H)) ∧
  (newT H fun H =>
  bldS 77 1 false (zeroL Try.prog 77) 1 [(0, t41)] H fun t42 H =>
  callV Try.prog (fnV fn_dev_Write) [t37, (.agg (seg (setSeg [(.slice none 0 0)] 0 c1) 0 1).toArray), (.int .i64 2), t39, t42] H fun t43 H =>
  extractV 0 t43 fun t44 =>
  extractV 1 t43 fun t45 =>
  extractV 2 t43 fun t46 =>
  cellsV true 1 t44 fun c8 =>
  K17 [[t46]] H)) ∧
  (bldS 77 1 false (zeroL Try.prog 77) 1 [(0, t41)] H fun t42 H =>
  (bldS 3 1 false (zeroL Try.prog 3) 1 [(0, (.int .i64 1))] H fun t39 H =>
  (callV Try.prog (fnV fn_dev_Write) [t37, (.agg (seg (setSeg [(.slice none 0 0)] 0 c1) 0 1).toArray), (.int .i64 2), t39, t42] H fun t43 H =>
  extractV 0 t43 fun t44 =>
  extractV 1 t43 fun t45 =>
  extractV 2 t43 fun t46 =>
  newT H fun H =>
  cellsV true 1 t44 fun c9 =>
  K17 [[t46]] H) ∧
  (newT H fun H =>
  callV Try.prog (fnV fn_dev_Write) [t37, (.agg (seg (setSeg [(.slice none 0 0)] 0 c1) 0 1).toArray), (.int .i64 2), t39, t42] H fun t43 H =>
  extractV 0 t43 fun t44 =>
  extractV 1 t43 fun t45 =>
  extractV 2 t43 fun t46 =>
  cellsV true 1 t44 fun c10 =>
  K17 [[t46]] H)) ∧
  (newT H fun H =>
  bldS 3 1 false (zeroL Try.prog 3) 1 [(0, (.int .i64 1))] H fun t39 H =>
  callV Try.prog (fnV fn_dev_Write) [t37, (.agg (seg (setSeg [(.slice none 0 0)] 0 c1) 0 1).toArray), (.int .i64 2), t39, t42] H fun t43 H =>
  extractV 0 t43 fun t44 =>
  extractV 1 t43 fun t45 =>
  extractV 2 t43 fun t46 =>
  cellsV true 1 t44 fun c11 =>
  K17 [[t46]] H)) ∧
  (newT H fun H =>
  (bldS 3 1 false (zeroL Try.prog 3) 1 [(0, (.int .i64 1))] H fun t39 H =>
  bldS 77 1 false (zeroL Try.prog 77) 1 [(0, t41)] H fun t42 H =>
  callV Try.prog (fnV fn_dev_Write) [t37, (.agg (seg (setSeg [(.slice none 0 0)] 0 c1) 0 1).toArray), (.int .i64 2), t39, t42] H fun t43 H =>
  extractV 0 t43 fun t44 =>
  extractV 1 t43 fun t45 =>
  extractV 2 t43 fun t46 =>
  cellsV true 1 t44 fun c12 =>
  K17 [[t46]] H) ∧
  (bldS 77 1 false (zeroL Try.prog 77) 1 [(0, t41)] H fun t42 H =>
  bldS 3 1 false (zeroL Try.prog 3) 1 [(0, (.int .i64 1))] H fun t39 H =>
  callV Try.prog (fnV fn_dev_Write) [t37, (.agg (seg (setSeg [(.slice none 0 0)] 0 c1) 0 1).toArray), (.int .i64 2), t39, t42] H fun t43 H =>
  extractV 0 t43 fun t44 =>
  extractV 1 t43 fun t45 =>
  extractV 2 t43 fun t46 =>
  cellsV true 1 t44 fun c13 =>
  K17 [[t46]] H))) ∧
  (newT H fun H =>
  (bldS 3 1 false (zeroL Try.prog 3) 1 [(0, (.int .i64 1))] H fun t39 H =>
  callV Try.prog (fnV fn_law12_text) [(.int .u8 1)] H fun t40 H =>
  slS 1 t40 (some (.int .i64 1)) none none fun t41 =>
  bldS 77 1 false (zeroL Try.prog 77) 1 [(0, t41)] H fun t42 H =>
  callV Try.prog (fnV fn_dev_Write) [t37, (.agg (seg (setSeg [(.slice none 0 0)] 0 c1) 0 1).toArray), (.int .i64 2), t39, t42] H fun t43 H =>
  extractV 0 t43 fun t44 =>
  extractV 1 t43 fun t45 =>
  extractV 2 t43 fun t46 =>
  cellsV true 1 t44 fun c14 =>
  K17 [[t46]] H) ∧
  (callV Try.prog (fnV fn_law12_text) [(.int .u8 1)] H fun t40 H =>
  slS 1 t40 (some (.int .i64 1)) none none fun t41 =>
  (bldS 3 1 false (zeroL Try.prog 3) 1 [(0, (.int .i64 1))] H fun t39 H =>
  bldS 77 1 false (zeroL Try.prog 77) 1 [(0, t41)] H fun t42 H =>
  callV Try.prog (fnV fn_dev_Write) [t37, (.agg (seg (setSeg [(.slice none 0 0)] 0 c1) 0 1).toArray), (.int .i64 2), t39, t42] H fun t43 H =>
  extractV 0 t43 fun t44 =>
  extractV 1 t43 fun t45 =>
  extractV 2 t43 fun t46 =>
  cellsV true 1 t44 fun c15 =>
  K17 [[t46]] H) ∧
  (bldS 77 1 false (zeroL Try.prog 77) 1 [(0, t41)] H fun t42 H =>
  bldS 3 1 false (zeroL Try.prog 3) 1 [(0, (.int .i64 1))] H fun t39 H =>
  callV Try.prog (fnV fn_dev_Write) [t37, (.agg (seg (setSeg [(.slice none 0 0)] 0 c1) 0 1).toArray), (.int .i64 2), t39, t42] H fun t43 H =>
  extractV 0 t43 fun t44 =>
  extractV 1 t43 fun t45 =>
  extractV 2 t43 fun t46 =>
  cellsV true 1 t44 fun c16 =>
  K17 [[t46]] H)))) ∧
  (bldS 3 1 false (zeroL Try.prog 3) 1 [(0, (.int .i64 1))] H fun t39 H =>
  (callV Try.prog (fnV fn_law12_eight) [] H fun t37 H =>
  (callV Try.prog (fnV fn_law12_text) [(.int .u8 1)] H fun t40 H =>
  slS 1 t40 (some (.int .i64 1)) none none fun t41 =>
  (bldS 77 1 false (zeroL Try.prog 77) 1 [(0, t41)] H fun t42 H =>
  (callV Try.prog (fnV fn_dev_Write) [t37, (.agg (seg (setSeg [(.slice none 0 0)] 0 c1) 0 1).toArray), (.int .i64 2), t39, t42] H fun t43 H =>
  extractV 0 t43 fun t44 =>
  extractV 1 t43 fun t45 =>
  extractV 2 t43 fun t46 =>
  newT H fun H =>
  cellsV true 1 t44 fun c17 =>
  K17 [[t46]] H) ∧
  (newT H fun H =>
  callV Try.prog (fnV fn_dev_Write) [t37, (.agg (seg (setSeg [(.slice none 0 0)] 0 c1) 0 1).toArray), (.int .i64 2), t39, t42] H fun t43 H =>
  extractV 0 t43 fun t44 =>
  extractV 1 t43 fun t45 =>
  extractV 2 t43 fun t46 =>
  cellsV true 1 t44 fun c18 =>
  K17 [[t46]] H)) ∧
  (newT H fun H =>
  bldS 77 1 false (zeroL Try.prog 77) 1 [(0, t41)] H fun t42 H =>
  callV Try.prog (fnV fn_dev_Write) [t37, (.agg (seg (setSeg [(.slice none 0 0)] 0 c1) 0 1).toArray), (.int .i64 2), t39, t42] H fun t43 H =>
  extractV 0 t43 fun t44 =>
  extractV 1 t43 fun t45 =>
  extractV 2 t43 fun t46 =>
  cellsV true 1 t44 fun c19 =>
  K17 [[t46]] H)) ∧
  (newT H fun H =>
  callV Try.prog (fnV fn_law12_text) [(.int .u8 1)] H fun t40 H =>
  slS 1 t40 (some (.int .i64 1)) none none fun t41 =>
  bldS 77 1 false (zeroL Try.prog 77) 1 [(0, t41)] H fun t42 H =>
  callV Try.prog (fnV fn_dev_Write) [t37, (.agg (seg (setSeg [(.slice none 0 0)] 0 c1) 0 1).toArray), (.int .i64 2), t39, t42] H fun t43 H =>
  extractV 0 t43 fun t44 =>
  extractV 1 t43 fun t45 =>
  extractV 2 t43 fun t46 =>
  cellsV true 1 t44 fun c20 =>
  K17 [[t46]] H)) ∧
  (newT H fun H =>
  callV Try.prog (fnV fn_law12_eight) [] H fun t37 H =>
  callV Try.prog (fnV fn_law12_text) [(.int .u8 1)] H fun t40 H =>
  slS 1 t40 (some (.int .i64 1)) none none fun t41 =>
  bldS 77 1 false (zeroL Try.prog 77) 1 [(0, t41)] H fun t42 H =>
  callV Try.prog (fnV fn_dev_Write) [t37, (.agg (seg (setSeg [(.slice none 0 0)] 0 c1) 0 1).toArray), (.int .i64 2), t39, t42] H fun t43 H =>
  extractV 0 t43 fun t44 =>
  extractV 1 t43 fun t45 =>
  extractV 2 t43 fun t46 =>
  cellsV true 1 t44 fun c21 =>
  K17 [[t46]] H)) ∧
  (newT H fun H =>
  (callV Try.prog (fnV fn_law12_eight) [] H fun t37 H =>
  (bldS 3 1 false (zeroL Try.prog 3) 1 [(0, (.int .i64 1))] H fun t39 H =>
  callV Try.prog (fnV fn_law12_text) [(.int .u8 1)] H fun t40 H =>
  slS 1 t40 (some (.int .i64 1)) none none fun t41 =>
  bldS 77 1 false (zeroL Try.prog 77) 1 [(0, t41)] H fun t42 H =>
  callV Try.prog (fnV fn_dev_Write) [t37, (.agg (seg (setSeg [(.slice none 0 0)] 0 c1) 0 1).toArray), (.int .i64 2), t39, t42] H fun t43 H =>
  extractV 0 t43 fun t44 =>
  extractV 1 t43 fun t45 =>
  extractV 2 t43 fun t46 =>
  cellsV true 1 t44 fun c22 =>
  K17 [[t46]] H) ∧
  (callV Try.prog (fnV fn_law12_text) [(.int .u8 1)] H fun t40 H =>
  slS 1 t40 (some (.int .i64 1)) none none fun t41 =>
  (bldS 3 1 false (zeroL Try.prog 3) 1 [(0, (.int .i64 1))] H fun t39 H =>
  bldS 77 1 false (zeroL Try.prog 77) 1 [(0, t41)] H fun t42 H =>
  callV Try.prog (fnV fn_dev_Write) [t37, (.agg (seg (setSeg [(.slice none 0 0)] 0 c1) 0 1).toArray), (.int .i64 2), t39, t42] H fun t43 H =>
  extractV 0 t43 fun t44 =>
  extractV 1 t43 fun t45 =>
  extractV 2 t43 fun t46 =>
  cellsV true 1 t44 fun c23 =>
  K17 [[t46]] H) ∧
  (bldS 77 1 false (zeroL Try.prog 77) 1 [(0, t41)] H fun t42 H =>
  bldS 3 1 false (zeroL Try.prog 3) 1 [(0, (.int .i64 1))] H fun t39 H =>
  callV Try.prog (fnV fn_dev_Write) [t37, (.agg (seg (setSeg [(.slice none 0 0)] 0 c1) 0 1).toArray), (.int .i64 2), t39, t42] H fun t43 H =>
  extractV 0 t43 fun t44 =>
  extractV 1 t43 fun t45 =>
  extractV 2 t43 fun t46 =>
  cellsV true 1 t44 fun c24 =>
  K17 [[t46]] H))) ∧
  (bldS 3 1 false (zeroL Try.prog 3) 1 [(0, (.int .i64 1))] H fun t39 H =>
  callV Try.prog (fnV fn_law12_eight) [] H fun t37 H =>
  callV Try.prog (fnV fn_law12_text) [(.int .u8 1)] H fun t40 H =>
  slS 1 t40 (some (.int .i64 1)) none none fun t41 =>
  bldS 77 1 false (zeroL Try.prog 77) 1 [(0, t41)] H fun t42 H =>
  callV Try.prog (fnV fn_dev_Write) [t37, (.agg (seg (setSeg [(.slice none 0 0)] 0 c1) 0 1).toArray), (.int .i64 2), t39, t42] H fun t43 H =>
  extractV 0 t43 fun t44 =>
  extractV 1 t43 fun t45 =>
  extractV 2 t43 fun t46 =>
  cellsV true 1 t44 fun c25 =>
  K17 [[t46]] H))) False) fun s17 H =>
  JoinPT (fun K20 =>
  ifB (decide (0 + 1 ≤ ((setSeg [(.slice none 0 0)] 0 c1)).length)) (
  (callV Try.prog (fnV fn_law12_eight) [] H fun t48 H =>
  (mkS 5 1 1 (zeroL Try.prog 5) (.int .i64 96) (.int .i64 96) H fun t50 H =>
  ifB (okc t50) (
  (bldS 87 4 true (zeroL Try.prog 87) 1 [(0, (.agg #[(.int .u8 3), (.int .i64 0), (.int .i64 1), t50]))] H fun t52 H =>
  (callV Try.prog (fnV fn_dev_Replay) [t48, (.agg (seg (setSeg [(.slice none 0 0)] 0 c1) 0 1).toArray), t52] H fun t53 H =>
  extractV 0 t53 fun t54 =>
  extractV 1 t53 fun t55 =>
  newT H fun H =>
  cellsV true 1 t54 fun c26 =>
  K20 [[t55]] H) ∧
  (newT H fun H =>
  callV Try.prog (fnV fn_dev_Replay) [t48, (.agg (seg (setSeg [(.slice none 0 0)] 0 c1) 0 1).toArray), t52] H fun t53 H =>
  extractV 0 t53 fun t54 =>
  extractV 1 t53 fun t55 =>
  cellsV true 1 t54 fun c27 =>
  K20 [[t55]] H)) ∧
  (newT H fun H =>
  bldS 87 4 true (zeroL Try.prog 87) 1 [(0, (.agg #[(.int .u8 3), (.int .i64 0), (.int .i64 1), t50]))] H fun t52 H =>
  callV Try.prog (fnV fn_dev_Replay) [t48, (.agg (seg (setSeg [(.slice none 0 0)] 0 c1) 0 1).toArray), t52] H fun t53 H =>
  extractV 0 t53 fun t54 =>
  extractV 1 t53 fun t55 =>
  cellsV true 1 t54 fun c28 =>
  K20 [[t55]] H)) False) ∧
  (newT H fun H =>
  mkS 5 1 1 (zeroL Try.prog 5) (.int .i64 96) (.int .i64 96) H fun t50 H =>
  ifB (okc t50) (
  bldS 87 4 true (zeroL Try.prog 87) 1 [(0, (.agg #[(.int .u8 3), (.int .i64 0), (.int .i64 1), t50]))] H fun t52 H =>
  callV Try.prog (fnV fn_dev_Replay) [t48, (.agg (seg (setSeg [(.slice none 0 0)] 0 c1) 0 1).toArray), t52] H fun t53 H =>
  extractV 0 t53 fun t54 =>
  extractV 1 t53 fun t55 =>
  cellsV true 1 t54 fun c29 =>
  K20 [[t55]] H) False)) ∧
  (mkS 5 1 1 (zeroL Try.prog 5) (.int .i64 96) (.int .i64 96) H fun t50 H =>
  ifB (okc t50) (
  (callV Try.prog (fnV fn_law12_eight) [] H fun t48 H =>
  (bldS 87 4 true (zeroL Try.prog 87) 1 [(0, (.agg #[(.int .u8 3), (.int .i64 0), (.int .i64 1), t50]))] H fun t52 H =>
  (callV Try.prog (fnV fn_dev_Replay) [t48, (.agg (seg (setSeg [(.slice none 0 0)] 0 c1) 0 1).toArray), t52] H fun t53 H =>
  extractV 0 t53 fun t54 =>
  extractV 1 t53 fun t55 =>
  newT H fun H =>
  cellsV true 1 t54 fun c30 =>
  K20 [[t55]] H) ∧
  (newT H fun H =>
  callV Try.prog (fnV fn_dev_Replay) [t48, (.agg (seg (setSeg [(.slice none 0 0)] 0 c1) 0 1).toArray), t52] H fun t53 H =>
  extractV 0 t53 fun t54 =>
  extractV 1 t53 fun t55 =>
  cellsV true 1 t54 fun c31 =>
  K20 [[t55]] H)) ∧
  (newT H fun H =>
  bldS 87 4 true (zeroL Try.prog 87) 1 [(0, (.agg #[(.int .u8 3), (.int .i64 0), (.int .i64 1), t50]))] H fun t52 H =>
  callV Try.prog (fnV fn_dev_Replay) [t48, (.agg (seg (setSeg [(.slice none 0 0)] 0 c1) 0 1).toArray), t52] H fun t53 H =>
  extractV 0 t53 fun t54 =>
  extractV 1 t53 fun t55 =>
  cellsV true 1 t54 fun c32 =>
  K20 [[t55]] H)) ∧
  (bldS 87 4 true (zeroL Try.prog 87) 1 [(0, (.agg #[(.int .u8 3), (.int .i64 0), (.int .i64 1), t50]))] H fun t52 H =>
  (callV Try.prog (fnV fn_law12_eight) [] H fun t48 H =>
  (callV Try.prog (fnV fn_dev_Replay) [t48, (.agg (seg (setSeg [(.slice none 0 0)] 0 c1) 0 1).toArray), t52] H fun t53 H =>
  extractV 0 t53 fun t54 =>
  extractV 1 t53 fun t55 =>
  newT H fun H =>
  cellsV true 1 t54 fun c33 =>
  K20 [[t55]] H) ∧
  (newT H fun H =>
  callV Try.prog (fnV fn_dev_Replay) [t48, (.agg (seg (setSeg [(.slice none 0 0)] 0 c1) 0 1).toArray), t52] H fun t53 H =>
  extractV 0 t53 fun t54 =>
  extractV 1 t53 fun t55 =>
  cellsV true 1 t54 fun c34 =>
  K20 [[t55]] H)) ∧
  (newT H fun H =>
  callV Try.prog (fnV fn_law12_eight) [] H fun t48 H =>
  callV Try.prog (fnV fn_dev_Replay) [t48, (.agg (seg (setSeg [(.slice none 0 0)] 0 c1) 0 1).toArray), t52] H fun t53 H =>
  extractV 0 t53 fun t54 =>
  extractV 1 t53 fun t55 =>
  cellsV true 1 t54 fun c35 =>
  K20 [[t55]] H)) ∧
  (newT H fun H =>
  (callV Try.prog (fnV fn_law12_eight) [] H fun t48 H =>
  bldS 87 4 true (zeroL Try.prog 87) 1 [(0, (.agg #[(.int .u8 3), (.int .i64 0), (.int .i64 1), t50]))] H fun t52 H =>
  callV Try.prog (fnV fn_dev_Replay) [t48, (.agg (seg (setSeg [(.slice none 0 0)] 0 c1) 0 1).toArray), t52] H fun t53 H =>
  extractV 0 t53 fun t54 =>
  extractV 1 t53 fun t55 =>
  cellsV true 1 t54 fun c36 =>
  K20 [[t55]] H) ∧
  (bldS 87 4 true (zeroL Try.prog 87) 1 [(0, (.agg #[(.int .u8 3), (.int .i64 0), (.int .i64 1), t50]))] H fun t52 H =>
  callV Try.prog (fnV fn_law12_eight) [] H fun t48 H =>
  callV Try.prog (fnV fn_dev_Replay) [t48, (.agg (seg (setSeg [(.slice none 0 0)] 0 c1) 0 1).toArray), t52] H fun t53 H =>
  extractV 0 t53 fun t54 =>
  extractV 1 t53 fun t55 =>
  cellsV true 1 t54 fun c37 =>
  K20 [[t55]] H))) False) ∧
  (newT H fun H =>
  (callV Try.prog (fnV fn_law12_eight) [] H fun t48 H =>
  mkS 5 1 1 (zeroL Try.prog 5) (.int .i64 96) (.int .i64 96) H fun t50 H =>
  ifB (okc t50) (
  bldS 87 4 true (zeroL Try.prog 87) 1 [(0, (.agg #[(.int .u8 3), (.int .i64 0), (.int .i64 1), t50]))] H fun t52 H =>
  callV Try.prog (fnV fn_dev_Replay) [t48, (.agg (seg (setSeg [(.slice none 0 0)] 0 c1) 0 1).toArray), t52] H fun t53 H =>
  extractV 0 t53 fun t54 =>
  extractV 1 t53 fun t55 =>
  cellsV true 1 t54 fun c38 =>
  K20 [[t55]] H) False) ∧
  (mkS 5 1 1 (zeroL Try.prog 5) (.int .i64 96) (.int .i64 96) H fun t50 H =>
  ifB (okc t50) (
  (callV Try.prog (fnV fn_law12_eight) [] H fun t48 H =>
  bldS 87 4 true (zeroL Try.prog 87) 1 [(0, (.agg #[(.int .u8 3), (.int .i64 0), (.int .i64 1), t50]))] H fun t52 H =>
  callV Try.prog (fnV fn_dev_Replay) [t48, (.agg (seg (setSeg [(.slice none 0 0)] 0 c1) 0 1).toArray), t52] H fun t53 H =>
  extractV 0 t53 fun t54 =>
  extractV 1 t53 fun t55 =>
  cellsV true 1 t54 fun c39 =>
  K20 [[t55]] H) ∧
  (bldS 87 4 true (zeroL Try.prog 87) 1 [(0, (.agg #[(.int .u8 3), (.int .i64 0), (.int .i64 1), t50]))] H fun t52 H =>
  callV Try.prog (fnV fn_law12_eight) [] H fun t48 H =>
  callV Try.prog (fnV fn_dev_Replay) [t48, (.agg (seg (setSeg [(.slice none 0 0)] 0 c1) 0 1).toArray), t52] H fun t53 H =>
  extractV 0 t53 fun t54 =>
  extractV 1 t53 fun t55 =>
  cellsV true 1 t54 fun c40 =>
  K20 [[t55]] H)) False))) False) fun s20 H =>
  callV Try.prog (fnV fn_dev_New) [(.agg #[(.int .i64 0), (.int .i64 0), (.int .i64 0), (.int .i64 0), (.int .i64 0), (.int .i64 0), (.int .i64 0), (.int .i64 0), (.int .i64 0)])] H fun t58 H =>
  extractV 0 t58 fun t59 =>
  extractV 1 t58 fun t60 =>
  newT H fun H =>
  cellsV true 1 t59 fun c41 =>
  JoinPT (fun K26 =>
  callV Try.prog (fnV fn_law12_alive) [] H fun t62 H =>
  asB t62 fun b64 =>
  ifB b64 (
  binV (.int .i64) .eql t27 (.int .i64 2) fun t66 =>
  asB t66 fun b68 =>
  ifB b68 (
  binV (.int .i64) .eql (sv s14 0) (.int .i64 2) fun t70 =>
  asB t70 fun b72 =>
  ifB b72 (
  binV (.int .i64) .eql (sv s17 0) (.int .i64 2) fun t74 =>
  asB t74 fun b76 =>
  ifB b76 (
  binV (.int .i64) .eql (sv s20 0) (.int .i64 2) fun t78 =>
  asB t78 fun b80 =>
  ifB b80 (
  binV (.int .i64) .eql t60 (.int .i64 8) fun t82 =>
  asB t82 fun b84 =>
  ifB b84 (
  callV Try.prog (fnV fn_law12_eight) [] H fun t85 H =>
  callV Try.prog (fnV fn_dev_Check) [t85, (.agg #[(.slice none 0 0)])] H fun t87 H =>
  binV (.int .i64) .eql t87 (.int .i64 8) fun t88 =>
  K26 [[t88]] H) (
  K26 [[(.bool false)]] H)) (
  K26 [[(.bool false)]] H)) (
  K26 [[(.bool false)]] H)) (
  K26 [[(.bool false)]] H)) (
  K26 [[(.bool false)]] H)) (
  K26 [[(.bool false)]] H)) fun s26 H =>
  Q (sv s26 0) H) False
theorem S_law12_DevNames_of  {H : Heap} {Q : Value → Heap → Prop} (h : S_law12_DevNames H Q) : callV Try.prog (fnV fn_law12_DevNames) [] H Q :=
  callV_fn (hcalls_of (pv := [1, 9, 12, 14]) (ann := [(14, [16]), (17, [22]), (20, [26]), (26, [0])]) Try.func10 (by kernel_rfl) (Eq.mpr (by kernel_rfl) h))

/-- thimblerig/thimbleriglaw12.DevSeen -/
def S_law12_DevSeen (x0_0 : Value) (x0_1 : Value) (x0_2 : Value) (x0_3 : Value) (x0_4 : Value) (x0_5 : Value) (x0_6 : Value) (x0_7 : Value) (x0_8 : Value) (x1_0 : Value) (x2 : Value) (x3 : Value) (x4 : Value) (H : Heap) (Q : Value → Heap → Prop) : Prop :=
  newT H fun H =>
  newT H fun H =>
  callV Try.prog (fnV fn_law12_alive) [] H fun t21 H =>
  JoinPT (fun K11 =>
  callV Try.prog (fnV fn_ref12_Great) [(.agg #[x1_0])] H fun t23 H =>
  asB t23 fun b24 =>
  ifB b24 (
  K11 [[(.bool true)]] H) (
  lenSl x3 H fun t26 =>
  binV (.int .i64) .gtr t26 (.int .i64 20) fun t27 =>
  asB t27 fun b29 =>
  ifB b29 (
  K11 [[(.bool true)]] H) (
  callV Try.prog (fnV fn_law12_great) [x4] H fun t31 H =>
  asB t31 fun b33 =>
  ifB b33 (
  K11 [[(.bool true)]] H) (
  unV .not t21 fun t35 =>
  K11 [[t35]] H)))) fun s11 H =>
  asB (sv s11 0) fun b36 =>
  ifB b36 (
  Q t21 H) (
  callV Try.prog (fnV fn_dev_Write) [(.agg #[x0_0, x0_1, x0_2, x0_3, x0_4, x0_5, x0_6, x0_7, x0_8]), (.agg #[x1_0]), x2, x3, x4] H fun t44 H =>
  extractV 0 t44 fun t45 =>
  extractV 1 t44 fun t46 =>
  extractV 2 t44 fun t47 =>
  newT H fun H =>
  cellsV true 1 t45 fun c1 =>
  callV Try.prog (fnV fn_dev_Read) [(.agg #[x0_0, x0_1, x0_2, x0_3, x0_4, x0_5, x0_6, x0_7, x0_8]), (.agg #[x1_0]), x2, x3] H fun t53 H =>
  extractV 0 t53 fun t54 =>
  extractV 1 t53 fun t55 =>
  extractV 2 t53 fun t56 =>
  JoinPT (fun K23 =>
  binV (.int .i64) .neq t47 (.int .i64 0) fun t58 =>
  asB t58 fun b59 =>
  ifB b59 (
  K23 [[(.bool true)]] H) (
  binV (.int .i64) .neq t56 (.int .i64 0) fun t61 =>
  K23 [[t61]] H)) fun s23 H =>
  asB (sv s23 0) fun b62 =>
  ifB b62 (
  JoinPT (fun K26 =>
  asB t21 fun b64 =>
  ifB b64 (
  binV (.int .i64) .neq t47 (.int .i64 0) fun t66 =>
  asB t66 fun b67 =>
  ifB b67 (
  K26 [[(.bool true)]] H) (
  binV (.int .i64) .eql t56 (.int .i64 0) fun t69 =>
  K26 [[t69]] H)) (
  asB undef fun b67 =>
  ifB b67 (
  K26 [[(.bool false)]] H) (
  binV (.int .i64) .eql t56 (.int .i64 0) fun t69 =>
  K26 [[(.bool false)]] H))) fun s26 H =>
  Q (sv s26 0) H) (
  JoinPT (fun K29 =>
  (bldS 87 4 true (zeroL Try.prog 87) 0 [] H fun t75 H =>
  (appS 87 4 48 (zeroL Try.prog 87) t75 t55 H fun t77 H =>
  (appS 87 4 48 (zeroL Try.prog 87) t77 t46 H fun t79 H =>
  (callV Try.prog (fnV fn_dev_Replay) [(.agg #[x0_0, x0_1, x0_2, x0_3, x0_4, x0_5, x0_6, x0_7, x0_8]), (.agg #[x1_0]), t79] H fun t80 H =>
  extractV 0 t80 fun t81 =>
  extractV 1 t80 fun t82 =>
  newT H fun H =>
  cellsV true 1 t81 fun c2 =>
  K29 [(setSeg [(.slice none 0 0)] 0 c2), [t82]] H) ∧
  (newT H fun H =>
  callV Try.prog (fnV fn_dev_Replay) [(.agg #[x0_0, x0_1, x0_2, x0_3, x0_4, x0_5, x0_6, x0_7, x0_8]), (.agg #[x1_0]), t79] H fun t80 H =>
  extractV 0 t80 fun t81 =>
  extractV 1 t80 fun t82 =>
  cellsV true 1 t81 fun c3 =>
  K29 [(setSeg [(.slice none 0 0)] 0 c3), [t82]] H)) ∧
  (newT H fun H =>
  appS 87 4 48 (zeroL Try.prog 87) t77 t46 H fun t79 H =>
  callV Try.prog (fnV fn_dev_Replay) [(.agg #[x0_0, x0_1, x0_2, x0_3, x0_4, x0_5, x0_6, x0_7, x0_8]), (.agg #[x1_0]), t79] H fun t80 H =>
  extractV 0 t80 fun t81 =>
  extractV 1 t80 fun t82 =>
  cellsV true 1 t81 fun c4 =>
  K29 [(setSeg [(.slice none 0 0)] 0 c4), [t82]] H)) ∧
  (newT H fun H =>
  appS 87 4 48 (zeroL Try.prog 87) t75 t55 H fun t77 H =>
  appS 87 4 48 (zeroL Try.prog 87) t77 t46 H fun t79 H =>
  callV Try.prog (fnV fn_dev_Replay) [(.agg #[x0_0, x0_1, x0_2, x0_3, x0_4, x0_5, x0_6, x0_7, x0_8]), (.agg #[x1_0]), t79] H fun t80 H =>
  extractV 0 t80 fun t81 =>
  extractV 1 t80 fun t82 =>
  cellsV true 1 t81 fun c5 =>
  K29 [(setSeg [(.slice none 0 0)] 0 c5), [t82]] H)) ∧
  (newT H fun H =>
  bldS 87 4 true (zeroL Try.prog 87) 0 [] H fun t75 H =>
  appS 87 4 48 (zeroL Try.prog 87) t75 t55 H fun t77 H =>
  appS 87 4 48 (zeroL Try.prog 87) t77 t46 H fun t79 H =>
  callV Try.prog (fnV fn_dev_Replay) [(.agg #[x0_0, x0_1, x0_2, x0_3, x0_4, x0_5, x0_6, x0_7, x0_8]), (.agg #[x1_0]), t79] H fun t80 H =>
  extractV 0 t80 fun t81 =>
  extractV 1 t80 fun t82 =>
  cellsV true 1 t81 fun c6 =>
  K29 [(setSeg [(.slice none 0 0)] 0 c6), [t82]] H)) fun s29 H =>
  JoinPT (fun K32 =>
  lenSl t54 H fun t84 =>
  lenSl x3 H fun t86 =>
  binV (.int .i64) .neq t84 t86 fun t87 =>
  asB t87 fun b88 =>
  ifB b88 (
  K32 [[(.bool true)]] H) (
  lenSl t55 H fun t90 =>
  lenSl x3 H fun t92 =>
  binV (.int .i64) .neq t90 t92 fun t93 =>
  asB t93 fun b95 =>
  ifB b95 (
  K32 [[(.bool true)]] H) (
  lenSl t46 H fun t97 =>
  lenSl x3 H fun t99 =>
  binV (.int .i64) .neq t97 t99 fun t100 =>
  K32 [[t100]] H))) fun s32 H =>
  asB (sv s32 0) fun b101 =>
  ifB b101 (
  Q (.bool false) H) (
  LoopPT (fun s39 H K39 =>
  lenSl x3 H fun t104 =>
  binV (.int .i64) .lss (sv s39 0) t104 fun t105 =>
  asB t105 fun b105 =>
  ifB b105 (
  JoinPT (fun K47 =>
  idxS 4 t55 (sv s39 0) fun t110 =>
  fldP 0 t110 fun t111 =>
  loadP false 1 t111 H fun t112 =>
  binV (.int .u8) .neq t112 (.int .u8 1) fun t113 =>
  asB t113 fun b114 =>
  ifB b114 (
  (loadP false 1 t111 H fun u112 =>
  u112 = t112) ∧
  ((loadP false 1 t111 H fun u112 =>
  u112 = t112) ∧
  (K47 [[(.bool true)]] H))) (
  idxS 4 t46 (sv s39 0) fun t117 =>
  fldP 0 t117 fun t118 =>
  loadP false 1 t118 H fun t119 =>
  binV (.int .u8) .neq t119 (.int .u8 2) fun t120 =>
  asB t120 fun b122 =>
  ifB b122 (
  (loadP false 1 t118 H fun u119 =>
  u119 = t119) ∧
  (loadP false 1 t111 H fun u112 =>
  u112 = t112) ∧
  ((loadP false 1 t118 H fun u119 =>
  u119 = t119) ∧
  (loadP false 1 t111 H fun u112 =>
  u112 = t112) ∧
  (K47 [[(.bool true)]] H))) (
  idxS 4 t55 (sv s39 0) fun t125 =>
  fldP 1 t125 fun t126 =>
  loadP false 1 t126 H fun t127 =>
  binV (.int .i64) .neq t127 x2 fun t129 =>
  asB t129 fun b131 =>
  ifB b131 (
  (loadP false 1 t126 H fun u127 =>
  u127 = t127) ∧
  (loadP false 1 t118 H fun u119 =>
  u119 = t119) ∧
  (loadP false 1 t111 H fun u112 =>
  u112 = t112) ∧
  ((loadP false 1 t126 H fun u127 =>
  u127 = t127) ∧
  (loadP false 1 t118 H fun u119 =>
  u119 = t119) ∧
  (loadP false 1 t111 H fun u112 =>
  u112 = t112) ∧
  (K47 [[(.bool true)]] H))) (
  idxS 4 t55 (sv s39 0) fun t134 =>
  fldP 2 t134 fun t135 =>
  loadP false 1 t135 H fun t136 =>
  idxS 1 x3 (sv s39 0) fun t139 =>
  loadP false 1 t139 H fun t140 =>
  binV (.int .i64) .neq t136 t140 fun t141 =>
  asB t141 fun b143 =>
  ifB b143 (
  (loadP false 1 t139 H fun u140 =>
  u140 = t140) ∧
  (loadP false 1 t135 H fun u136 =>
  u136 = t136) ∧
  (loadP false 1 t126 H fun u127 =>
  u127 = t127) ∧
  (loadP false 1 t118 H fun u119 =>
  u119 = t119) ∧
  (loadP false 1 t111 H fun u112 =>
  u112 = t112) ∧
  ((loadP false 1 t139 H fun u140 =>
  u140 = t140) ∧
  (loadP false 1 t135 H fun u136 =>
  u136 = t136) ∧
  (loadP false 1 t126 H fun u127 =>
  u127 = t127) ∧
  (loadP false 1 t118 H fun u119 =>
  u119 = t119) ∧
  (loadP false 1 t111 H fun u112 =>
  u112 = t112) ∧
  (K47 [[(.bool true)]] H))) (
  idxS 4 t55 (sv s39 0) fun t146 =>
  fldP 3 t146 fun t147 =>
  loadP false 1 t147 H fun t148 =>
  idxS 1 t54 (sv s39 0) fun t151 =>
  loadP false 1 t151 H fun t152 =>
  callV Try.prog (fnV fn_ref01_Same) [t148, t152] H fun t153 H =>
  (loadP false 1 t139 H fun u140 =>
  u140 = t140) ∧
  (loadP false 1 t135 H fun u136 =>
  u136 = t136) ∧
  (loadP false 1 t126 H fun u127 =>
  u127 = t127) ∧
  (loadP false 1 t118 H fun u119 =>
  u119 = t119) ∧
  (loadP false 1 t111 H fun u112 =>
  u112 = t112) ∧
  (unV .not t153 fun t154 =>
  asB t154 fun b156 =>
  ifB b156 (
  (loadP false 1 t139 H fun u140 =>
  u140 = t140) ∧
  (loadP false 1 t135 H fun u136 =>
  u136 = t136) ∧
  (loadP false 1 t126 H fun u127 =>
  u127 = t127) ∧
  (loadP false 1 t118 H fun u119 =>
  u119 = t119) ∧
  (loadP false 1 t111 H fun u112 =>
  u112 = t112) ∧
  (K47 [[(.bool true)]] H)) (
  idxS 4 t46 (sv s39 0) fun t159 =>
  fldP 3 t159 fun t160 =>
  loadP false 1 t160 H fun t161 =>
  idxS 1 x4 (sv s39 0) fun t164 =>
  loadP false 1 t164 H fun t165 =>
  callV Try.prog (fnV fn_ref01_Same) [t161, t165] H fun t166 H =>
  (loadP false 1 t139 H fun u140 =>
  u140 = t140) ∧
  (loadP false 1 t135 H fun u136 =>
  u136 = t136) ∧
  (loadP false 1 t126 H fun u127 =>
  u127 = t127) ∧
  (loadP false 1 t118 H fun u119 =>
  u119 = t119) ∧
  (loadP false 1 t111 H fun u112 =>
  u112 = t112) ∧
  (unV .not t166 fun t167 =>
  K47 [[t167]] H)))))))) fun s47 H =>
  asB (sv s47 0) fun b168 =>
  ifB b168 (
  Q (.bool false) H) (
  binV (.int .i64) .add (sv s39 0) (.int .i64 1) fun t107 =>
  K39 [[t107]] H)) (
  JoinPT (fun K53 =>
  asB t21 fun b170 =>
  ifB b170 (
  binV (.int .i64) .eql (sv s29 1) (.int .i64 0) fun t172 =>
  asB t172 fun b174 =>
  ifB b174 (
  ifB (decide (0 + 1 ≤ ((setSeg [(.slice none 0 0)] 0 c1)).length)) (
  ifB (decide (0 + 1 ≤ ((sc s29 0)).length)) (
  callV Try.prog (fnV fn_ref12_Same) [(.agg (seg (setSeg [(.slice none 0 0)] 0 c1) 0 1).toArray), (.agg (seg (sc s29 0) 0 1).toArray)] H fun t177 H =>
  K53 [[t177]] H) False) False) (
  K53 [[(.bool false)]] H)) (
  K53 [[(.bool false)]] H)) fun s53 H =>
  Q (sv s53 0) H)) [[(.int .i64 0)]] H)))
theorem S_law12_DevSeen_of {x0_0 : Value} {x0_1 : Value} {x0_2 : Value} {x0_3 : Value} {x0_4 : Value} {x0_5 : Value} {x0_6 : Value} {x0_7 : Value} {x0_8 : Value} {x1_0 : Value} {x2 : Value} {x3 : Value} {x4 : Value} {H : Heap} {Q : Value → Heap → Prop} (h : S_law12_DevSeen x0_0 x0_1 x0_2 x0_3 x0_4 x0_5 x0_6 x0_7 x0_8 x1_0 x2 x3 x4 H Q) : callV Try.prog (fnV fn_law12_DevSeen) [(.agg #[x0_0, x0_1, x0_2, x0_3, x0_4, x0_5, x0_6, x0_7, x0_8]), (.agg #[x1_0]), x2, x3, x4] H Q :=
  callV_fn (hcalls_of (pv := [5, 6, 12, 18]) (ann := [(11, [72]), (23, [124]), (26, [20]), (29, [37, 38]), (32, [202]), (39, [40]), (47, [336]), (53, [20])]) Try.func11 (by kernel_rfl) (Eq.mpr (by kernel_rfl) h))

/-- thimblerig/thimbleriglaw12.spoil -/
def S_law12_spoil (x0_0 : Value) (H : Heap) (Q : Value → Heap → Prop) : Prop :=
  newT H fun H =>
  LoopPT (fun s9 H K9 =>
  lenSl x0_0 H fun t8 =>
  binV (.int .i64) .lss (sv s9 0) t8 fun t9 =>
  asB t9 fun b9 =>
  ifB b9 (
  LoopPT (fun s18 H K18 =>
  idxS 1 x0_0 (sv s9 0) fun t16 =>
  loadP false 1 t16 H fun t17 =>
  lenSl t17 H fun t18 =>
  binV (.int .i64) .lss (sv s18 0) t18 fun t19 =>
  asB t19 fun b19 =>
  ifB b19 (
  LoopPT (fun s27 H K27 =>
  idxS 1 x0_0 (sv s9 0) fun t26 =>
  loadP false 1 t26 H fun t27 =>
  idxS 1 t27 (sv s18 0) fun t29 =>
  loadP false 1 t29 H fun t30 =>
  lenSl t30 H fun t31 =>
  binV (.int .i64) .lss (sv s27 0) t31 fun t32 =>
  asB t32 fun b32 =>
  ifB b32 (
  idxS 1 x0_0 (sv s9 0) fun t38 =>
  loadP false 1 t38 H fun t39 =>
  idxS 1 t39 (sv s18 0) fun t41 =>
  loadP false 1 t41 H fun t42 =>
  idxS 1 x0_0 (sv s9 0) fun t47 =>
  loadP false 1 t47 H fun t48 =>
  idxS 1 t48 (sv s18 0) fun t50 =>
  loadP false 1 t50 H fun t51 =>
  idxS 1 t51 (sv s27 0) fun t53 =>
  loadP false 1 t53 H fun t54 =>
  binV (.int .u8) .add t54 (.int .u8 1) fun t55 =>
  idxS 1 t42 (sv s27 0) fun t56 =>
  storeP false 1 t56 t55 H fun H =>
  binV (.int .i64) .add (sv s27 0) (.int .i64 1) fun t34 =>
  K27 [[t34]] H) (
  binV (.int .i64) .add (sv s18 0) (.int .i64 1) fun t21 =>
  K18 [[t21]] H)) [[(.int .i64 0)]] H) (
  binV (.int .i64) .add (sv s9 0) (.int .i64 1) fun t11 =>
  K9 [[t11]] H)) [[(.int .i64 0)]] H) (
  Q (.tuple #[]) H)) [[(.int .i64 0)]] H
theorem S_law12_spoil_of {x0_0 : Value} {H : Heap} {Q : Value → Heap → Prop} (h : S_law12_spoil x0_0 H Q) : callV Try.prog (fnV fn_law12_spoil) [(.agg #[x0_0])] H Q :=
  callV_fn (hcalls_of (pv := [1]) (ann := [(9, [4]), (18, [6]), (27, [8])]) Try.func27 (by kernel_rfl) (Eq.mpr (by kernel_rfl) h))

/-- thimblerig/thimbleriglaw12.great -/
def S_law12_great (x0 : Value) (H : Heap) (Q : Value → Heap → Prop) : Prop :=
  LoopPT (fun s9 H K9 =>
  JoinPT (fun K11 =>
  lenSl x0 H fun t6 =>
  binV (.int .i64) .lss (sv s9 0) t6 fun t7 =>
  asB t7 fun b8 =>
  ifB b8 (
  binV (.int .i64) .lss (sv s9 0) (.int .i64 20) fun t10 =>
  K11 [[t10]] H) (
  K11 [[(.bool false)]] H)) fun s11 H =>
  asB (sv s11 0) fun b11 =>
  ifB b11 (
  idxS 1 x0 (sv s9 0) fun t16 =>
  loadP false 1 t16 H fun t17 =>
  lenSl t17 H fun t18 =>
  binV (.int .i64) .gtr t18 (.int .i64 1000) fun t19 =>
  asB t19 fun b19 =>
  ifB b19 (
  Q (.bool true) H) (
  binV (.int .i64) .add (sv s9 0) (.int .i64 1) fun t13 =>
  K9 [[t13]] H)) (
  lenSl x0 H fun t21 =>
  binV (.int .i64) .gtr t21 (.int .i64 20) fun t22 =>
  Q t22 H)) [[(.int .i64 0)]] H
theorem S_law12_great_of {x0 : Value} {H : Heap} {Q : Value → Heap → Prop} (h : S_law12_great x0 H Q) : callV Try.prog (fnV fn_law12_great) [x0] H Q :=
  callV_fn (hcalls_of (pv := []) (ann := [(9, [6]), (11, [22])]) Try.func41 (by kernel_rfl) (Eq.mpr (by kernel_rfl) h))

/-- thimblerig/thimbleriglaw12.alive -/
def S_law12_alive  (H : Heap) (Q : Value → Heap → Prop) : Prop :=
  callV Try.prog (fnV fn_law12_eight) [] H fun t10 H =>
  callV Try.prog (fnV fn_dev_New) [t10] H fun t11 H =>
  extractV 0 t11 fun t12 =>
  extractV 1 t11 fun t13 =>
  newT H fun H =>
  cellsV true 1 t12 fun c1 =>
  JoinPT (fun K11 =>
  ifB (decide (0 + 1 ≤ ((setSeg [(.slice none 0 0)] 0 c1)).length)) (
  (callV Try.prog (fnV fn_law12_eight) [] H fun t15 H =>
  (bldS 3 1 false (zeroL Try.prog 3) 2 [(0, (.int .i64 3)), (1, (.int .i64 1))] H fun t17 H =>
  (callV Try.prog (fnV fn_law12_text) [(.int .u8 3)] H fun t18 H =>
  (callV Try.prog (fnV fn_law12_text) [(.int .u8 1)] H fun t19 H =>
  (bldS 77 1 false (zeroL Try.prog 77) 2 [(0, t18), (1, t19)] H fun t20 H =>
  (callV Try.prog (fnV fn_dev_Write) [t15, (.agg (seg (setSeg [(.slice none 0 0)] 0 c1) 0 1).toArray), (.int .i64 2), t17, t20] H fun t21 H =>
  extractV 0 t21 fun t22 =>
  extractV 1 t21 fun t23 =>
  extractV 2 t21 fun t24 =>
  newT H fun H =>
  cellsV true 1 t22 fun c2 =>
  K11 [(setSeg [(.slice none 0 0)] 0 c2), [t23], [t24]] H) ∧
  (newT H fun H =>
  callV Try.prog (fnV fn_dev_Write) [t15, (.agg (seg (setSeg [(.slice none 0 0)] 0 c1) 0 1).toArray), (.int .i64 2), t17, t20] H fun t21 H =>
  extractV 0 t21 fun t22 =>
  extractV 1 t21 fun t23 =>
  extractV 2 t21 fun t24 =>
  cellsV true 1 t22 fun c3 =>
  K11 [(setSeg [(.slice none 0 0)] 0 c3), [t23], [t24]] H)) ∧
  (newT H fun H =>
  bldS 77 1 false (zeroL Try.prog 77) 2 [(0, t18), (1, t19)] H fun t20 H =>
  callV Try.prog (fnV fn_dev_Write) [t15, (.agg (seg (setSeg [(.slice none 0 0)] 0 c1) 0 1).toArray), (.int .i64 2), t17, t20] H fun t21 H =>
  extractV 0 t21 fun t22 =>
  extractV 1 t21 fun t23 =>
  extractV 2 t21 fun t24 =>
  cellsV true 1 t22 fun c4 =>
  K11 [(setSeg [(.slice none 0 0)] 0 c4), [t23], [t24]] H)) ∧
  (newT H fun H =>
  callV Try.prog (fnV fn_law12_text) [(.int .u8 1)] H fun t19 H =>
  bldS 77 1 false (zeroL Try.prog 77) 2 [(0, t18), (1, t19)] H fun t20 H =>
  callV Try.prog (fnV fn_dev_Write) [t15, (.agg (seg (setSeg [(.slice none 0 0)] 0 c1) 0 1).toArray), (.int .i64 2), t17, t20] H fun t21 H =>
  extractV 0 t21 fun t22 =>
  extractV 1 t21 fun t23 =>
  extractV 2 t21 fun t24 =>
  cellsV true 1 t22 fun c5 =>
  K11 [(setSeg [(.slice none 0 0)] 0 c5), [t23], [t24]] H)) ∧
  (newT H fun H =>
  callV Try.prog (fnV fn_law12_text) [(.int .u8 3)] H fun t18 H =>
  callV Try.prog (fnV fn_law12_text) [(.int .u8 1)] H fun t19 H =>
  bldS 77 1 false (zeroL Try.prog 77) 2 [(0, t18), (1, t19)] H fun t20 H =>
  callV Try.prog (fnV fn_dev_Write) [t15, (.agg (seg (setSeg [(.slice none 0 0)] 0 c1) 0 1).toArray), (.int .i64 2), t17, t20] H fun t21 H =>
  extractV 0 t21 fun t22 =>
  extractV 1 t21 fun t23 =>
  extractV 2 t21 fun t24 =>
  cellsV true 1 t22 fun c6 =>
  K11 [(setSeg [(.slice none 0 0)] 0 c6), [t23], [t24]] H)) ∧
  (callV Try.prog (fnV fn_law12_text) [(.int .u8 3)] H fun t18 H =>
  (bldS 3 1 false (zeroL Try.prog 3) 2 [(0, (.int .i64 3)), (1, (.int .i64 1))] H fun t17 H =>
  (callV Try.prog (fnV fn_law12_text) [(.int .u8 1)] H fun t19 H =>
  (bldS 77 1 false (zeroL Try.prog 77) 2 [(0, t18), (1, t19)] H fun t20 H =>
  (callV Try.prog (fnV fn_dev_Write) [t15, (.agg (seg (setSeg [(.slice none 0 0)] 0 c1) 0 1).toArray), (.int .i64 2), t17, t20] H fun t21 H =>
  extractV 0 t21 fun t22 =>
  extractV 1 t21 fun t23 =>
  extractV 2 t21 fun t24 =>
  newT H fun H =>
  cellsV true 1 t22 fun c7 =>
  K11 [(setSeg [(.slice none 0 0)] 0 c7), [t23], [t24]] H) ∧
  (newT H fun H =>
  callV Try.prog (fnV fn_dev_Write) [t15, (.agg (seg (setSeg [(.slice none 0 0)] 0 c1) 0 1).toArray), (.int .i64 2), t17, t20] H fun t21 H =>
  extractV 0 t21 fun t22 =>
  extractV 1 t21 fun t23 =>
  extractV 2 t21 fun t24 =>
  cellsV true 1 t22 fun c8 =>
  K11 [(setSeg [(.slice none 0 0)] 0 c8), [t23], [t24]] H)) ∧
  (newT H fun H =>
  bldS 77 1 false (zeroL Try.prog 77) 2 [(0, t18), (1, t19)] H fun t20 H =>
  callV Try.prog (fnV fn_dev_Write) [t15, (.agg (seg (setSeg [(.slice none 0 0)] 0 c1) 0 1).toArray), (.int .i64 2), t17, t20] H fun t21 H =>
  extractV 0 t21 fun t22 =>
  extractV 1 t21 fun t23 =>
  extractV 2 t21 fun t24 =>
  cellsV true 1 t22 fun c9 =>
  K11 [(setSeg [(.slice none 0 0)] 0 c9), [t23], [t24]] H)) ∧
  (newT H fun H =>
  callV Try.prog (fnV fn_law12_text) [(.int .u8 1)] H fun t19 H =>
  bldS 77 1 false (zeroL Try.prog 77) 2 [(0, t18), (1, t19)] H fun t20 H =>
  callV Try.prog (fnV fn_dev_Write) [t15, (.agg (seg (setSeg [(.slice none 0 0)] 0 c1) 0 1).toArray), (.int .i64 2), t17, t20] H fun t21 H =>
  extractV 0 t21 fun t22 =>
  extractV 1 t21 fun t23 =>
  extractV 2 t21 fun t24 =>
  cellsV true 1 t22 fun c10 =>
  K11 [(setSeg [(.slice none 0 0)] 0 c10), [t23], [t24]] H)) ∧
  (callV Try.prog (fnV fn_law12_text) [(.int .u8 1)] H fun t19 H =>
  (bldS 3 1 false (zeroL Try.prog 3) 2 [(0, (.int .i64 3)), (1, (.int .i64 1))] H fun t17 H =>
  (bldS 77 1 false (zeroL Try.prog 77) 2 [(0, t18), (1, t19)] H fun t20 H =>
  (callV Try.prog (fnV fn_dev_Write) [t15, (.agg (seg (setSeg [(.slice none 0 0)] 0 c1) 0 1).toArray), (.int .i64 2), t17, t20] H fun t21 H =>
  extractV 0 t21 fun t22 =>
  extractV 1 t21 fun t23 =>
  extractV 2 t21 fun t24 =>
  newT H fun H =>
  cellsV true 1 t22 fun c11 =>
  K11 [(setSeg [(.slice none 0 0)] 0 c11), [t23], [t24]] H) ∧
  (newT H fun H =>
  callV Try.prog (fnV fn_dev_Write) [t15, (.agg (seg (setSeg [(.slice none 0 0)] 0 c1) 0 1).toArray), (.int .i64 2), t17, t20] H fun t21 H =>
  extractV 0 t21 fun t22 =>
  extractV 1 t21 fun t23 =>
  extractV 2 t21 fun t24 =>
  cellsV true 1 t22 fun c12 =>
  K11 [(setSeg [(.slice none 0 0)] 0 c12), [t23], [t24]] H)) ∧
  (newT H fun H =>
  bldS 77 1 false (zeroL Try.prog 77) 2 [(0, t18), (1, t19)] H fun t20 H =>
  callV Try.prog (fnV fn_dev_Write) [t15, (.agg (seg (setSeg [(.slice none 0 0)] 0 c1) 0 1).toArray), (.int .i64 2), t17, t20] H fun t21 H =>
  extractV 0 t21 fun t22 =>
  extractV 1 t21 fun t23 =>
  extractV 2 t21 fun t24 =>
  cellsV true 1 t22 fun c13 =>
  K11 [(setSeg [(.slice none 0 0)] 0 c13), [t23], [t24]] H)) ∧
  (bldS 77 1 false (zeroL Try.prog 77) 2 [(0, t18), (1, t19)] H fun t20 H =>
  (bldS 3 1 false (zeroL Try.prog 3) 2 [(0, (.int .i64 3)), (1, (.int .i64 1))] H fun t17 H =>
  (callV Try.prog (fnV fn_dev_Write) [t15, (.agg (seg (setSeg [(.slice none 0 0)] 0 c1) 0 1).toArray), (.int .i64 2), t17, t20] H fun t21 H =>
  extractV 0 t21 fun t22 =>
  extractV 1 t21 fun t23 =>
  extractV 2 t21 fun t24 =>
  newT H fun H =>
  cellsV true 1 t22 fun c14 =>
  K11 [(setSeg [(.slice none 0 0)] 0 c14), [t23], [t24]] H) ∧
  (newT H fun H =>
  callV Try.prog (fnV fn_dev_Write) [t15, (.agg (seg (setSeg [(.slice none 0 0)] 0 c1) 0 1).toArray), (.int .i64 2), t17, t20] H fun t21 H =>
  extractV 0 t21 fun t22 =>
  extractV 1 t21 fun t23 =>
  extractV 2 t21 fun t24 =>
  cellsV true 1 t22 fun c15 =>
  K11 [(setSeg [(.slice none 0 0)] 0 c15), [t23], [t24]] H)) ∧
  (newT H fun H =>
  bldS 3 1 false (zeroL Try.prog 3) 2 [(0, (.int .i64 3)), (1, (.int .i64 1))] H fun t17 H =>
  callV Try.prog (fnV fn_dev_Write) [t15, (.agg (seg (setSeg [(.slice none 0 0)] 0 c1) 0 1).toArray), (.int .i64 2), t17, t20] H fun t21 H =>
  extractV 0 t21 fun t22 =>
  extractV 1 t21 fun t23 =>
  extractV 2 t21 fun t24 =>
  cellsV true 1 t22 fun c16 =>
  K11 [(setSeg [(.slice none 0 0)] 0 c16), [t23], [t24]] H)) ∧
  (newT H fun H =>
  (bldS 3 1 false (zeroL Try.prog 3) 2 [(0, (.int .i64 3)), (1, (.int .i64 1))] H fun t17 H =>
  bldS 77 1 false (zeroL Try.prog 77) 2 [(0, t18), (1, t19)] H fun t20 H =>
  callV Try.prog (fnV fn_dev_Write) [t15, (.agg (seg (setSeg [(.slice none 0 0)] 0 c1) 0 1).toArray), (.int .i64 2), t17, t20] H fun t21 H =>
  extractV 0 t21 fun t22 =>
  extractV 1 t21 fun t23 =>
  extractV 2 t21 fun t24 =>
  cellsV true 1 t22 fun c17 =>
  K11 [(setSeg [(.slice none 0 0)] 0 c17), [t23], [t24]] H) ∧
  (bldS 77 1 false (zeroL Try.prog 77) 2 [(0, t18), (1, t19)] H fun t20 H =>
  bldS 3 1 false (zeroL Try.prog 3) 2 [(0, (.int .i64 3)), (1, (.int .i64 1))] H fun t17 H =>
  callV Try.prog (fnV fn_dev_Write) [t15, (.agg (seg (setSeg [(.slice none 0 0)] 0 c1) 0 1).toArray), (.int .i64 2), t17, t20] H fun t21 H =>
  extractV 0 t21 fun t22 =>
  extractV 1 t21 fun t23 =>
  extractV 2 t21 fun t24 =>
  cellsV true 1 t22 fun c18 =>
  K11 [(setSeg [(.slice none 0 0)] 0 c18), [t23], [t24]] H))) ∧
  (newT H fun H =>
  (bldS 3 1 false (zeroL Try.prog 3) 2 [(0, (.int .i64 3)), (1, (.int .i64 1))] H fun t17 H =>
  callV Try.prog (fnV fn_law12_text) [(.int .u8 1)] H fun t19 H =>
  bldS 77 1 false (zeroL Try.prog 77) 2 [(0, t18), (1, t19)] H fun t20 H =>
  callV Try.prog (fnV fn_dev_Write) [t15, (.agg (seg (setSeg [(.slice none 0 0)] 0 c1) 0 1).toArray), (.int .i64 2), t17, t20] H fun t21 H =>
  extractV 0 t21 fun t22 =>
  extractV 1 t21 fun t23 =>
  extractV 2 t21 fun t24 =>
  cellsV true 1 t22 fun c19 =>
  K11 [(setSeg [(.slice none 0 0)] 0 c19), [t23], [t24]] H) ∧
  (callV Try.prog (fnV fn_law12_text) [(.int .u8 1)] H fun t19 H =>
  (bldS 3 1 false (zeroL Try.prog 3) 2 [(0, (.int .i64 3)), (1, (.int .i64 1))] H fun t17 H =>
  bldS 77 1 false (zeroL Try.prog 77) 2 [(0, t18), (1, t19)] H fun t20 H =>
  callV Try.prog (fnV fn_dev_Write) [t15, (.agg (seg (setSeg [(.slice none 0 0)] 0 c1) 0 1).toArray), (.int .i64 2), t17, t20] H fun t21 H =>
  extractV 0 t21 fun t22 =>
  extractV 1 t21 fun t23 =>
  extractV 2 t21 fun t24 =>
  cellsV true 1 t22 fun c20 =>
  K11 [(setSeg [(.slice none 0 0)] 0 c20), [t23], [t24]] H) ∧
  (bldS 77 1 false (zeroL Try.prog 77) 2 [(0, t18), (1, t19)] H fun t20 H =>
  bldS 3 1 false (zeroL Try.prog 3) 2 [(0, (.int .i64 3)), (1, (.int .i64 1))] H fun t17 H =>
  callV Try.prog (fnV fn_dev_Write) [t15, (.agg (seg (setSeg [(.slice none 0 0)] 0 c1) 0 1).toArray), (.int .i64 2), t17, t20] H fun t21 H =>
  extractV 0 t21 fun t22 =>
  extractV 1 t21 fun t23 =>
  extractV 2 t21 fun t24 =>
  cellsV true 1 t22 fun c21 =>
  K11 [(setSeg [(.slice none 0 0)] 0 c21), [t23], [t24]] H)))) ∧
  (newT H fun H =>
  (bldS 3 1 false (zeroL Try.prog 3) 2 [(0, (.int .i64 3)), (1, (.int .i64 1))] H fun t17 H =>
  callV Try.prog (fnV fn_law12_text) [(.int .u8 3)] H fun t18 H =>
  callV Try.prog (fnV fn_law12_text) [(.int .u8 1)] H fun t19 H =>
  bldS 77 1 false (zeroL Try.prog 77) 2 [(0, t18), (1, t19)] H fun t20 H =>
  callV Try.prog (fnV fn_dev_Write) [t15, (.agg (seg (setSeg [(.slice none 0 0)] 0 c1) 0 1).toArray), (.int .i64 2), t17, t20] H fun t21 H =>
  extractV 0 t21 fun t22 =>
  extractV 1 t21 fun t23 =>
  extractV 2 t21 fun t24 =>
  cellsV true 1 t22 fun c22 =>
  K11 [(setSeg [(.slice none 0 0)] 0 c22), [t23], [t24]] H) ∧
  (callV Try.prog (fnV fn_law12_text) [(.int .u8 3)] H fun t18 H =>
  (bldS 3 1 false (zeroL Try.prog 3) 2 [(0, (.int .i64 3)), (1, (.int .i64 1))] H fun t17 H =>
  callV Try.prog (fnV fn_law12_text) [(.int .u8 1)] H fun t19 H =>
  bldS 77 1 false (zeroL Try.prog 77) 2 [(0, t18), (1, t19)] H fun t20 H =>
  callV Try.prog (fnV fn_dev_Write) [t15, (.agg (seg (setSeg [(.slice none 0 0)] 0 c1) 0 1).toArray), (.int .i64 2), t17, t20] H fun t21 H =>
  extractV 0 t21 fun t22 =>
  extractV 1 t21 fun t23 =>
  extractV 2 t21 fun t24 =>
  cellsV true 1 t22 fun c23 =>
  K11 [(setSeg [(.slice none 0 0)] 0 c23), [t23], [t24]] H) ∧
  (callV Try.prog (fnV fn_law12_text) [(.int .u8 1)] H fun t19 H =>
  (bldS 3 1 false (zeroL Try.prog 3) 2 [(0, (.int .i64 3)), (1, (.int .i64 1))] H fun t17 H =>
  bldS 77 1 false (zeroL Try.prog 77) 2 [(0, t18), (1, t19)] H fun t20 H =>
  callV Try.prog (fnV fn_dev_Write) [t15, (.agg (seg (setSeg [(.slice none 0 0)] 0 c1) 0 1).toArray), (.int .i64 2), t17, t20] H fun t21 H =>
  extractV 0 t21 fun t22 =>
  extractV 1 t21 fun t23 =>
  extractV 2 t21 fun t24 =>
  cellsV true 1 t22 fun c24 =>
  K11 [(setSeg [(.slice none 0 0)] 0 c24), [t23], [t24]] H) ∧
  (bldS 77 1 false (zeroL Try.prog 77) 2 [(0, t18), (1, t19)] H fun t20 H =>
  bldS 3 1 false (zeroL Try.prog 3) 2 [(0, (.int .i64 3)), (1, (.int .i64 1))] H fun t17 H =>
  callV Try.prog (fnV fn_dev_Write) [t15, (.agg (seg (setSeg [(.slice none 0 0)] 0 c1) 0 1).toArray), (.int .i64 2), t17, t20] H fun t21 H =>
  extractV 0 t21 fun t22 =>
  extractV 1 t21 fun t23 =>
  extractV 2 t21 fun t24 =>
  cellsV true 1 t22 fun c25 =>
  K11 [(setSeg [(.slice none 0 0)] 0 c25), [t23], [t24]] H))))) ∧
  (bldS 3 1 false (zeroL Try.prog 3) 2 [(0, (.int .i64 3)), (1, (.int .i64 1))] H fun t17 H =>
  (callV Try.prog (fnV fn_law12_eight) [] H fun t15 H =>
  (callV Try.prog (fnV fn_law12_text) [(.int .u8 3)] H fun t18 H =>
  (callV Try.prog (fnV fn_law12_text) [(.int .u8 1)] H fun t19 H =>
  (bldS 77 1 false (zeroL Try.prog 77) 2 [(0, t18), (1, t19)] H fun t20 H =>
  (callV Try.prog (fnV fn_dev_Write) [t15, (.agg (seg (setSeg [(.slice none 0 0)] 0 c1) 0 1).toArray), (.int .i64 2), t17, t20] H fun t21 H =>
  extractV 0 t21 fun t22 =>
  extractV 1 t21 fun t23 =>
  extractV 2 t21 fun t24 =>
  newT H fun H =>
  cellsV true 1 t22 fun c26 =>
  K11 [(setSeg [(.slice none 0 0)] 0 c26), [t23], [t24]] H) ∧
  (newT H fun H =>
  callV Try.prog (fnV fn_dev_Write) [t15, (.agg (seg (setSeg [(.slice none 0 0)] 0 c1) 0 1).toArray), (.int .i64 2), t17, t20] H fun t21 H =>
  extractV 0 t21 fun t22 =>
  extractV 1 t21 fun t23 =>
  extractV 2 t21 fun t24 =>
  cellsV true 1 t22 fun c27 =>
  K11 [(setSeg [(.slice none 0 0)] 0 c27), [t23], [t24]] H)) ∧
  (newT H fun H =>
  bldS 77 1 false (zeroL Try.prog 77) 2 [(0, t18), (1, t19)] H fun t20 H =>
  callV Try.prog (fnV fn_dev_Write) [t15, (.agg (seg (setSeg [(.slice none 0 0)] 0 c1) 0 1).toArray), (.int .i64 2), t17, t20] H fun t21 H =>
  extractV 0 t21 fun t22 =>
  extractV 1 t21 fun t23 =>
  extractV 2 t21 fun t24 =>
  cellsV true 1 t22 fun c28 =>
  K11 [(setSeg [(.slice none 0 0)] 0 c28), [t23], [t24]] H)) ∧
  (newT H fun H =>
  callV Try.prog (fnV fn_law12_text) [(.int .u8 1)] H fun t19 H =>
  bldS 77 1 false (zeroL Try.prog 77) 2 [(0, t18), (1, t19)] H fun t20 H =>
  callV Try.prog (fnV fn_dev_Write) [t15, (.agg (seg (setSeg [(.slice none 0 0)] 0 c1) 0 1).toArray), (.int .i64 2), t17, t20] H fun t21 H =>
  extractV 0 t21 fun t22 =>
  extractV 1 t21 fun t23 =>
  extractV 2 t21 fun t24 =>
  cellsV true 1 t22 fun c29 =>
  K11 [(setSeg [(.slice none 0 0)] 0 c29), [t23], [t24]] H)) ∧
  (newT H fun H =>
  callV Try.prog (fnV fn_law12_text) [(.int .u8 3)] H fun t18 H =>
  callV Try.prog (fnV fn_law12_text) [(.int .u8 1)] H fun t19 H =>
  bldS 77 1 false (zeroL Try.prog 77) 2 [(0, t18), (1, t19)] H fun t20 H =>
  callV Try.prog (fnV fn_dev_Write) [t15, (.agg (seg (setSeg [(.slice none 0 0)] 0 c1) 0 1).toArray), (.int .i64 2), t17, t20] H fun t21 H =>
  extractV 0 t21 fun t22 =>
  extractV 1 t21 fun t23 =>
  extractV 2 t21 fun t24 =>
  cellsV true 1 t22 fun c30 =>
  K11 [(setSeg [(.slice none 0 0)] 0 c30), [t23], [t24]] H)) ∧
  (newT H fun H =>
  callV Try.prog (fnV fn_law12_eight) [] H fun t15 H =>
  callV Try.prog (fnV fn_law12_text) [(.int .u8 3)] H fun t18 H =>
  callV Try.prog (fnV fn_law12_text) [(.int .u8 1)] H fun t19 H =>
  bldS 77 1 false (zeroL Try.prog 77) 2 [(0, t18), (1, t19)] H fun t20 H =>
  callV Try.prog (fnV fn_dev_Write) [t15, (.agg (seg (setSeg [(.slice none 0 0)] 0 c1) 0 1).toArray), (.int .i64 2), t17, t20] H fun t21 H =>
  extractV 0 t21 fun t22 =>
  extractV 1 t21 fun t23 =>
  extractV 2 t21 fun t24 =>
  cellsV true 1 t22 fun c31 =>
  K11 [(setSeg [(.slice none 0 0)] 0 c31), [t23], [t24]] H)) ∧
  (newT H fun H =>
  (callV Try.prog (fnV fn_law12_eight) [] H fun t15 H =>
  (bldS 3 1 false (zeroL Try.prog 3) 2 [(0, (.int .i64 3)), (1, (.int .i64 1))] H fun t17 H =>
  callV Try.prog (fnV fn_law12_text) [(.int .u8 3)] H fun t18 H =>
  callV Try.prog (fnV fn_law12_text) [(.int .u8 1)] H fun t19 H =>
  bldS 77 1 false (zeroL Try.prog 77) 2 [(0, t18), (1, t19)] H fun t20 H =>
  callV Try.prog (fnV fn_dev_Write) [t15, (.agg (seg (setSeg [(.slice none 0 0)] 0 c1) 0 1).toArray), (.int .i64 2), t17, t20] H fun t21 H =>
  extractV 0 t21 fun t22 =>
  extractV 1 t21 fun t23 =>
  extractV 2 t21 fun t24 =>
  cellsV true 1 t22 fun c32 =>
  K11 [(setSeg [(.slice none 0 0)] 0 c32), [t23], [t24]] H) ∧
  (callV Try.prog (fnV fn_law12_text) [(.int .u8 3)] H fun t18 H =>
  (bldS 3 1 false (zeroL Try.prog 3) 2 [(0, (.int .i64 3)), (1, (.int .i64 1))] H fun t17 H =>
  callV Try.prog (fnV fn_law12_text) [(.int .u8 1)] H fun t19 H =>
  bldS 77 1 false (zeroL Try.prog 77) 2 [(0, t18), (1, t19)] H fun t20 H =>
  callV Try.prog (fnV fn_dev_Write) [t15, (.agg (seg (setSeg [(.slice none 0 0)] 0 c1) 0 1).toArray), (.int .i64 2), t17, t20] H fun t21 H =>
  extractV 0 t21 fun t22 =>
  extractV 1 t21 fun t23 =>
  extractV 2 t21 fun t24 =>
  cellsV true 1 t22 fun c33 =>
  K11 [(setSeg [(.slice none 0 0)] 0 c33), [t23], [t24]] H) ∧
  (callV Try.prog (fnV fn_law12_text) [(.int .u8 1)] H fun t19 H =>
  (bldS 3 1 false (zeroL Try.prog 3) 2 [(0, (.int .i64 3)), (1, (.int .i64 1))] H fun t17 H =>
  bldS 77 1 false (zeroL Try.prog 77) 2 [(0, t18), (1, t19)] H fun t20 H =>
  callV Try.prog (fnV fn_dev_Write) [t15, (.agg (seg (setSeg [(.slice none 0 0)] 0 c1) 0 1).toArray), (.int .i64 2), t17, t20] H fun t21 H =>
  extractV 0 t21 fun t22 =>
  extractV 1 t21 fun t23 =>
  extractV 2 t21 fun t24 =>
  cellsV true 1 t22 fun c34 =>
  K11 [(setSeg [(.slice none 0 0)] 0 c34), [t23], [t24]] H) ∧
  (bldS 77 1 false (zeroL Try.prog 77) 2 [(0, t18), (1, t19)] H fun t20 H =>
  bldS 3 1 false (zeroL Try.prog 3) 2 [(0, (.int .i64 3)), (1, (.int .i64 1))] H fun t17 H =>
  callV Try.prog (fnV fn_dev_Write) [t15, (.agg (seg (setSeg [(.slice none 0 0)] 0 c1) 0 1).toArray), (.int .i64 2), t17, t20] H fun t21 H =>
  extractV 0 t21 fun t22 =>
  extractV 1 t21 fun t23 =>
  extractV 2 t21 fun t24 =>
  cellsV true 1 t22 fun c35 =>
  K11 [(setSeg [(.slice none 0 0)] 0 c35), [t23], [t24]] H)))) ∧
  (bldS 3 1 false (zeroL Try.prog 3) 2 [(0, (.int .i64 3)), (1, (.int .i64 1))] H fun t17 H =>
  callV Try.prog (fnV fn_law12_eight) [] H fun t15 H =>
  callV Try.prog (fnV fn_law12_text) [(.int .u8 3)] H fun t18 H =>
  callV Try.prog (fnV fn_law12_text) [(.int .u8 1)] H fun t19 H =>
  bldS 77 1 false (zeroL Try.prog 77) 2 [(0, t18), (1, t19)] H fun t20 H =>
  callV Try.prog (fnV fn_dev_Write) [t15, (.agg (seg (setSeg [(.slice none 0 0)] 0 c1) 0 1).toArray), (.int .i64 2), t17, t20] H fun t21 H =>
  extractV 0 t21 fun t22 =>
  extractV 1 t21 fun t23 =>
  extractV 2 t21 fun t24 =>
  cellsV true 1 t22 fun c36 =>
  K11 [(setSeg [(.slice none 0 0)] 0 c36), [t23], [t24]] H))) False) fun s11 H =>
  JoinPT (fun K14 =>
  ifB (decide (0 + 1 ≤ ((sc s11 0)).length)) (
  (callV Try.prog (fnV fn_law12_eight) [] H fun t26 H =>
  bldS 3 1 false (zeroL Try.prog 3) 2 [(0, (.int .i64 1)), (1, (.int .i64 2))] H fun t28 H =>
  callV Try.prog (fnV fn_dev_Read) [t26, (.agg (seg (sc s11 0) 0 1).toArray), (.int .i64 2), t28] H fun t29 H =>
  extractV 0 t29 fun t30 =>
  extractV 1 t29 fun t31 =>
  extractV 2 t29 fun t32 =>
  K14 [[t30], [t31], [t32]] H) ∧
  (bldS 3 1 false (zeroL Try.prog 3) 2 [(0, (.int .i64 1)), (1, (.int .i64 2))] H fun t28 H =>
  callV Try.prog (fnV fn_law12_eight) [] H fun t26 H =>
  callV Try.prog (fnV fn_dev_Read) [t26, (.agg (seg (sc s11 0) 0 1).toArray), (.int .i64 2), t28] H fun t29 H =>
  extractV 0 t29 fun t30 =>
  extractV 1 t29 fun t31 =>
  extractV 2 t29 fun t32 =>
  K14 [[t30], [t31], [t32]] H)) False) fun s14 H =>
  JoinPT (fun K17 =>
  binV (.int .i64) .eql t13 (.int .i64 0) fun t34 =>
  asB t34 fun b35 =>
  ifB b35 (
  ifB (decide (0 + 1 ≤ ((setSeg [(.slice none 0 0)] 0 c1)).length)) (
  lenSl (mkV false (seg (setSeg [(.slice none 0 0)] 0 c1) 0 1)) H fun t38 =>
  binV (.int .i64) .eql t38 (.int .i64 3) fun t39 =>
  asB t39 fun b41 =>
  ifB b41 (
  ifB (decide (0 + 1 ≤ ((setSeg [(.slice none 0 0)] 0 c1)).length)) (
  idxS 1 (mkV false (seg (setSeg [(.slice none 0 0)] 0 c1) 0 1)) (.int .i64 0) fun t44 =>
  loadP false 1 t44 H fun t45 =>
  lenSl t45 H fun t46 =>
  binV (.int .i64) .eql t46 (.int .i64 15) fun t47 =>
  asB t47 fun b49 =>
  ifB b49 (
  ifB (decide (0 + 1 ≤ ((setSeg [(.slice none 0 0)] 0 c1)).length)) (
  idxS 1 (mkV false (seg (setSeg [(.slice none 0 0)] 0 c1) 0 1)) (.int .i64 0) fun t52 =>
  loadP false 1 t52 H fun t53 =>
  idxS 1 t53 (.int .i64 0) fun t54 =>
  loadP false 1 t54 H fun t55 =>
  lenSl t55 H fun t56 =>
  binV (.int .i64) .eql t56 (.int .i64 96) fun t57 =>
  asB t57 fun b59 =>
  ifB b59 (
  binV (.int .i64) .eql (sv s11 2) (.int .i64 0) fun t61 =>
  asB t61 fun b63 =>
  ifB b63 (
  lenSl (sv s11 1) H fun t65 =>
  binV (.int .i64) .eql t65 (.int .i64 2) fun t66 =>
  asB t66 fun b68 =>
  ifB b68 (
  binV (.int .i64) .eql (sv s14 2) (.int .i64 0) fun t70 =>
  asB t70 fun b72 =>
  ifB b72 (
  lenSl (sv s14 1) H fun t74 =>
  binV (.int .i64) .eql t74 (.int .i64 2) fun t75 =>
  asB t75 fun b77 =>
  ifB b77 (
  (callV Try.prog (fnV fn_law12_text) [(.int .u8 1)] H fun t79 H =>
  (lenSl (sv s14 1) H fun u74 =>
  u74 = t74) ∧
  (lenSl (sv s11 1) H fun u65 =>
  u65 = t65) ∧
  (lenSl t55 H fun u56 =>
  u56 = t56) ∧
  (loadP false 1 t54 H fun u55 =>
  u55 = t55) ∧
  (loadP false 1 t52 H fun u53 =>
  u53 = t53) ∧
  (lenSl t45 H fun u46 =>
  u46 = t46) ∧
  (loadP false 1 t44 H fun u45 =>
  u45 = t45) ∧
  (lenSl (mkV false (seg (setSeg [(.slice none 0 0)] 0 c1) 0 1)) H fun u38 =>
  u38 = t38) ∧
  (mkS 5 1 1 (zeroL Try.prog 5) (.int .i64 104) (.int .i64 104) H fun t80 H =>
  (lenSl (sv s14 1) H fun u74 =>
  u74 = t74) ∧
  (lenSl (sv s11 1) H fun u65 =>
  u65 = t65) ∧
  (lenSl t55 H fun u56 =>
  u56 = t56) ∧
  (loadP false 1 t54 H fun u55 =>
  u55 = t55) ∧
  (loadP false 1 t52 H fun u53 =>
  u53 = t53) ∧
  (lenSl t45 H fun u46 =>
  u46 = t46) ∧
  (loadP false 1 t44 H fun u45 =>
  u45 = t45) ∧
  (lenSl (mkV false (seg (setSeg [(.slice none 0 0)] 0 c1) 0 1)) H fun u38 =>
  u38 = t38) ∧
  (bldS 77 1 false (zeroL Try.prog 77) 2 [(0, t79), (1, t80)] H fun t81 H =>
  (lenSl (sv s14 1) H fun u74 =>
  u74 = t74) ∧
  (lenSl (sv s11 1) H fun u65 =>
  u65 = t65) ∧
  (lenSl t55 H fun u56 =>
  u56 = t56) ∧
  (loadP false 1 t54 H fun u55 =>
  u55 = t55) ∧
  (loadP false 1 t52 H fun u53 =>
  u53 = t53) ∧
  (lenSl t45 H fun u46 =>
  u46 = t46) ∧
  (loadP false 1 t44 H fun u45 =>
  u45 = t45) ∧
  (lenSl (mkV false (seg (setSeg [(.slice none 0 0)] 0 c1) 0 1)) H fun u38 =>
  u38 = t38) ∧
  (callV Try.prog (fnV fn_ref01_SameAll) [(sv s14 0), t81] H fun t82 H =>
  (lenSl (sv s14 1) H fun u74 =>
  u74 = t74) ∧
  (lenSl (sv s11 1) H fun u65 =>
  u65 = t65) ∧
  (lenSl t55 H fun u56 =>
  u56 = t56) ∧
  (loadP false 1 t54 H fun u55 =>
  u55 = t55) ∧
  (loadP false 1 t52 H fun u53 =>
  u53 = t53) ∧
  (lenSl t45 H fun u46 =>
  u46 = t46) ∧
  (loadP false 1 t44 H fun u45 =>
  u45 = t45) ∧
  (lenSl (mkV false (seg (setSeg [(.slice none 0 0)] 0 c1) 0 1)) H fun u38 =>
  u38 = t38) ∧
  (K17 [[t82]] H))))) ∧
  (mkS 5 1 1 (zeroL Try.prog 5) (.int .i64 104) (.int .i64 104) H fun t80 H =>
  (lenSl (sv s14 1) H fun u74 =>
  u74 = t74) ∧
  (lenSl (sv s11 1) H fun u65 =>
  u65 = t65) ∧
  (lenSl t55 H fun u56 =>
  u56 = t56) ∧
  (loadP false 1 t54 H fun u55 =>
  u55 = t55) ∧
  (loadP false 1 t52 H fun u53 =>
  u53 = t53) ∧
  (lenSl t45 H fun u46 =>
  u46 = t46) ∧
  (loadP false 1 t44 H fun u45 =>
  u45 = t45) ∧
  (lenSl (mkV false (seg (setSeg [(.slice none 0 0)] 0 c1) 0 1)) H fun u38 =>
  u38 = t38) ∧
  (callV Try.prog (fnV fn_law12_text) [(.int .u8 1)] H fun t79 H =>
  (lenSl (sv s14 1) H fun u74 =>
  u74 = t74) ∧
  (lenSl (sv s11 1) H fun u65 =>
  u65 = t65) ∧
  (lenSl t55 H fun u56 =>
  u56 = t56) ∧
  (loadP false 1 t54 H fun u55 =>
  u55 = t55) ∧
  (loadP false 1 t52 H fun u53 =>
  u53 = t53) ∧
  (lenSl t45 H fun u46 =>
  u46 = t46) ∧
  (loadP false 1 t44 H fun u45 =>
  u45 = t45) ∧
  (lenSl (mkV false (seg (setSeg [(.slice none 0 0)] 0 c1) 0 1)) H fun u38 =>
  u38 = t38) ∧
  (bldS 77 1 false (zeroL Try.prog 77) 2 [(0, t79), (1, t80)] H fun t81 H =>
  (lenSl (sv s14 1) H fun u74 =>
  u74 = t74) ∧
  (lenSl (sv s11 1) H fun u65 =>
  u65 = t65) ∧
  (lenSl t55 H fun u56 =>
  u56 = t56) ∧
  (loadP false 1 t54 H fun u55 =>
  u55 = t55) ∧
  (loadP false 1 t52 H fun u53 =>
  u53 = t53) ∧
  (lenSl t45 H fun u46 =>
  u46 = t46) ∧
  (loadP false 1 t44 H fun u45 =>
  u45 = t45) ∧
  (lenSl (mkV false (seg (setSeg [(.slice none 0 0)] 0 c1) 0 1)) H fun u38 =>
  u38 = t38) ∧
  (callV Try.prog (fnV fn_ref01_SameAll) [(sv s14 0), t81] H fun t82 H =>
  (lenSl (sv s14 1) H fun u74 =>
  u74 = t74) ∧
  (lenSl (sv s11 1) H fun u65 =>
  u65 = t65) ∧
  (lenSl t55 H fun u56 =>
  u56 = t56) ∧
  (loadP false 1 t54 H fun u55 =>
  u55 = t55) ∧
  (loadP false 1 t52 H fun u53 =>
  u53 = t53) ∧
  (lenSl t45 H fun u46 =>
  u46 = t46) ∧
  (loadP false 1 t44 H fun u45 =>
  u45 = t45) ∧
  (lenSl (mkV false (seg (setSeg [(.slice none 0 0)] 0 c1) 0 1)) H fun u38 =>
  u38 = t38) ∧
  (K17 [[t82]] H)))))) (
  ((lenSl (sv s14 1) H fun u74 =>
  u74 = t74) ∧
  (lenSl (sv s11 1) H fun u65 =>
  u65 = t65) ∧
  (lenSl t55 H fun u56 =>
  u56 = t56) ∧
  (loadP false 1 t54 H fun u55 =>
  u55 = t55) ∧
  (loadP false 1 t52 H fun u53 =>
  u53 = t53) ∧
  (lenSl t45 H fun u46 =>
  u46 = t46) ∧
  (loadP false 1 t44 H fun u45 =>
  u45 = t45) ∧
  (lenSl (mkV false (seg (setSeg [(.slice none 0 0)] 0 c1) 0 1)) H fun u38 =>
  u38 = t38) ∧
  ((lenSl (sv s14 1) H fun u74 =>
  u74 = t74) ∧
  (lenSl (sv s11 1) H fun u65 =>
  u65 = t65) ∧
  (lenSl t55 H fun u56 =>
  u56 = t56) ∧
  (loadP false 1 t54 H fun u55 =>
  u55 = t55) ∧
  (loadP false 1 t52 H fun u53 =>
  u53 = t53) ∧
  (lenSl t45 H fun u46 =>
  u46 = t46) ∧
  (loadP false 1 t44 H fun u45 =>
  u45 = t45) ∧
  (lenSl (mkV false (seg (setSeg [(.slice none 0 0)] 0 c1) 0 1)) H fun u38 =>
  u38 = t38) ∧
  ((lenSl (sv s14 1) H fun u74 =>
  u74 = t74) ∧
  (lenSl (sv s11 1) H fun u65 =>
  u65 = t65) ∧
  (lenSl t55 H fun u56 =>
  u56 = t56) ∧
  (loadP false 1 t54 H fun u55 =>
  u55 = t55) ∧
  (loadP false 1 t52 H fun u53 =>
  u53 = t53) ∧
  (lenSl t45 H fun u46 =>
  u46 = t46) ∧
  (loadP false 1 t44 H fun u45 =>
  u45 = t45) ∧
  (lenSl (mkV false (seg (setSeg [(.slice none 0 0)] 0 c1) 0 1)) H fun u38 =>
  u38 = t38) ∧
  ((lenSl (sv s14 1) H fun u74 =>
  u74 = t74) ∧
  (lenSl (sv s11 1) H fun u65 =>
  u65 = t65) ∧
  (lenSl t55 H fun u56 =>
  u56 = t56) ∧
  (loadP false 1 t54 H fun u55 =>
  u55 = t55) ∧
  (loadP false 1 t52 H fun u53 =>
  u53 = t53) ∧
  (lenSl t45 H fun u46 =>
  u46 = t46) ∧
  (loadP false 1 t44 H fun u45 =>
  u45 = t45) ∧
  (lenSl (mkV false (seg (setSeg [(.slice none 0 0)] 0 c1) 0 1)) H fun u38 =>
  u38 = t38) ∧
  (K17 [[(.bool false)]] H))))) ∧
  ((lenSl (sv s14 1) H fun u74 =>
  u74 = t74) ∧
  (lenSl (sv s11 1) H fun u65 =>
  u65 = t65) ∧
  (lenSl t55 H fun u56 =>
  u56 = t56) ∧
  (loadP false 1 t54 H fun u55 =>
  u55 = t55) ∧
  (loadP false 1 t52 H fun u53 =>
  u53 = t53) ∧
  (lenSl t45 H fun u46 =>
  u46 = t46) ∧
  (loadP false 1 t44 H fun u45 =>
  u45 = t45) ∧
  (lenSl (mkV false (seg (setSeg [(.slice none 0 0)] 0 c1) 0 1)) H fun u38 =>
  u38 = t38) ∧
  ((lenSl (sv s14 1) H fun u74 =>
  u74 = t74) ∧
  (lenSl (sv s11 1) H fun u65 =>
  u65 = t65) ∧
  (lenSl t55 H fun u56 =>
  u56 = t56) ∧
  (loadP false 1 t54 H fun u55 =>
  u55 = t55) ∧
  (loadP false 1 t52 H fun u53 =>
  u53 = t53) ∧
  (lenSl t45 H fun u46 =>
  u46 = t46) ∧
  (loadP false 1 t44 H fun u45 =>
  u45 = t45) ∧
  (lenSl (mkV false (seg (setSeg [(.slice none 0 0)] 0 c1) 0 1)) H fun u38 =>
  u38 = t38) ∧
  ((lenSl (sv s14 1) H fun u74 =>
  u74 = t74) ∧
  (lenSl (sv s11 1) H fun u65 =>
  u65 = t65) ∧
  (lenSl t55 H fun u56 =>
  u56 = t56) ∧
  (loadP false 1 t54 H fun u55 =>
  u55 = t55) ∧
  (loadP false 1 t52 H fun u53 =>
  u53 = t53) ∧
  (lenSl t45 H fun u46 =>
  u46 = t46) ∧
  (loadP false 1 t44 H fun u45 =>
  u45 = t45) ∧
  (lenSl (mkV false (seg (setSeg [(.slice none 0 0)] 0 c1) 0 1)) H fun u38 =>
  u38 = t38) ∧
  ((lenSl (sv s14 1) H fun u74 =>
  u74 = t74) ∧
  (lenSl (sv s11 1) H fun u65 =>
  u65 = t65) ∧
  (lenSl t55 H fun u56 =>
  u56 = t56) ∧
  (loadP false 1 t54 H fun u55 =>
  u55 = t55) ∧
  (loadP false 1 t52 H fun u53 =>
  u53 = t53) ∧
  (lenSl t45 H fun u46 =>
  u46 = t46) ∧
  (loadP false 1 t44 H fun u45 =>
  u45 = t45) ∧
  (lenSl (mkV false (seg (setSeg [(.slice none 0 0)] 0 c1) 0 1)) H fun u38 =>
  u38 = t38) ∧
  (K17 [[(.bool false)]] H))))))) (
  ((lenSl (sv s11 1) H fun u65 =>
  u65 = t65) ∧
  (lenSl t55 H fun u56 =>
  u56 = t56) ∧
  (loadP false 1 t54 H fun u55 =>
  u55 = t55) ∧
  (loadP false 1 t52 H fun u53 =>
  u53 = t53) ∧
  (lenSl t45 H fun u46 =>
  u46 = t46) ∧
  (loadP false 1 t44 H fun u45 =>
  u45 = t45) ∧
  (lenSl (mkV false (seg (setSeg [(.slice none 0 0)] 0 c1) 0 1)) H fun u38 =>
  u38 = t38) ∧
  ((lenSl (sv s11 1) H fun u65 =>
  u65 = t65) ∧
  (lenSl t55 H fun u56 =>
  u56 = t56) ∧
  (loadP false 1 t54 H fun u55 =>
  u55 = t55) ∧
  (loadP false 1 t52 H fun u53 =>
  u53 = t53) ∧
  (lenSl t45 H fun u46 =>
  u46 = t46) ∧
  (loadP false 1 t44 H fun u45 =>
  u45 = t45) ∧
  (lenSl (mkV false (seg (setSeg [(.slice none 0 0)] 0 c1) 0 1)) H fun u38 =>
  u38 = t38) ∧
  ((lenSl (sv s11 1) H fun u65 =>
  u65 = t65) ∧
  (lenSl t55 H fun u56 =>
  u56 = t56) ∧
  (loadP false 1 t54 H fun u55 =>
  u55 = t55) ∧
  (loadP false 1 t52 H fun u53 =>
  u53 = t53) ∧
  (lenSl t45 H fun u46 =>
  u46 = t46) ∧
  (loadP false 1 t44 H fun u45 =>
  u45 = t45) ∧
  (lenSl (mkV false (seg (setSeg [(.slice none 0 0)] 0 c1) 0 1)) H fun u38 =>
  u38 = t38) ∧
  ((lenSl (sv s11 1) H fun u65 =>
  u65 = t65) ∧
  (lenSl t55 H fun u56 =>
  u56 = t56) ∧
  (loadP false 1 t54 H fun u55 =>
  u55 = t55) ∧
  (loadP false 1 t52 H fun u53 =>
  u53 = t53) ∧
  (lenSl t45 H fun u46 =>
  u46 = t46) ∧
  (loadP false 1 t44 H fun u45 =>
  u45 = t45) ∧
  (lenSl (mkV false (seg (setSeg [(.slice none 0 0)] 0 c1) 0 1)) H fun u38 =>
  u38 = t38) ∧
  (K17 [[(.bool false)]] H))))) ∧
  ((lenSl (sv s11 1) H fun u65 =>
  u65 = t65) ∧
  (lenSl t55 H fun u56 =>
  u56 = t56) ∧
  (loadP false 1 t54 H fun u55 =>
  u55 = t55) ∧
  (loadP false 1 t52 H fun u53 =>
  u53 = t53) ∧
  (lenSl t45 H fun u46 =>
  u46 = t46) ∧
  (loadP false 1 t44 H fun u45 =>
  u45 = t45) ∧
  (lenSl (mkV false (seg (setSeg [(.slice none 0 0)] 0 c1) 0 1)) H fun u38 =>
  u38 = t38) ∧
  ((lenSl (sv s11 1) H fun u65 =>
  u65 = t65) ∧
  (lenSl t55 H fun u56 =>
  u56 = t56) ∧
  (loadP false 1 t54 H fun u55 =>
  u55 = t55) ∧
  (loadP false 1 t52 H fun u53 =>
  u53 = t53) ∧
  (lenSl t45 H fun u46 =>
  u46 = t46) ∧
  (loadP false 1 t44 H fun u45 =>
  u45 = t45) ∧
  (lenSl (mkV false (seg (setSeg [(.slice none 0 0)] 0 c1) 0 1)) H fun u38 =>
  u38 = t38) ∧
  ((lenSl (sv s11 1) H fun u65 =>
  u65 = t65) ∧
  (lenSl t55 H fun u56 =>
  u56 = t56) ∧
  (loadP false 1 t54 H fun u55 =>
  u55 = t55) ∧
  (loadP false 1 t52 H fun u53 =>
  u53 = t53) ∧
  (lenSl t45 H fun u46 =>
  u46 = t46) ∧
  (loadP false 1 t44 H fun u45 =>
  u45 = t45) ∧
  (lenSl (mkV false (seg (setSeg [(.slice none 0 0)] 0 c1) 0 1)) H fun u38 =>
  u38 = t38) ∧
  ((lenSl (sv s11 1) H fun u65 =>
  u65 = t65) ∧
  (lenSl t55 H fun u56 =>
  u56 = t56) ∧
  (loadP false 1 t54 H fun u55 =>
  u55 = t55) ∧
  (loadP false 1 t52 H fun u53 =>
  u53 = t53) ∧
  (lenSl t45 H fun u46 =>
  u46 = t46) ∧
  (loadP false 1 t44 H fun u45 =>
  u45 = t45) ∧
  (lenSl (mkV false (seg (setSeg [(.slice none 0 0)] 0 c1) 0 1)) H fun u38 =>
  u38 = t38) ∧
  (K17 [[(.bool false)]] H))))))) (
  ((lenSl (sv s11 1) H fun u65 =>
  u65 = t65) ∧
  (lenSl t55 H fun u56 =>
  u56 = t56) ∧
  (loadP false 1 t54 H fun u55 =>
  u55 = t55) ∧
  (loadP false 1 t52 H fun u53 =>
  u53 = t53) ∧
  (lenSl t45 H fun u46 =>
  u46 = t46) ∧
  (loadP false 1 t44 H fun u45 =>
  u45 = t45) ∧
  (lenSl (mkV false (seg (setSeg [(.slice none 0 0)] 0 c1) 0 1)) H fun u38 =>
  u38 = t38) ∧
  ((lenSl (sv s11 1) H fun u65 =>
  u65 = t65) ∧
  (lenSl t55 H fun u56 =>
  u56 = t56) ∧
  (loadP false 1 t54 H fun u55 =>
  u55 = t55) ∧
  (loadP false 1 t52 H fun u53 =>
  u53 = t53) ∧
  (lenSl t45 H fun u46 =>
  u46 = t46) ∧
  (loadP false 1 t44 H fun u45 =>
  u45 = t45) ∧
  (lenSl (mkV false (seg (setSeg [(.slice none 0 0)] 0 c1) 0 1)) H fun u38 =>
  u38 = t38) ∧
  ((lenSl (sv s11 1) H fun u65 =>
  u65 = t65) ∧
  (lenSl t55 H fun u56 =>
  u56 = t56) ∧
  (loadP false 1 t54 H fun u55 =>
  u55 = t55) ∧
  (loadP false 1 t52 H fun u53 =>
  u53 = t53) ∧
  (lenSl t45 H fun u46 =>
  u46 = t46) ∧
  (loadP false 1 t44 H fun u45 =>
  u45 = t45) ∧
  (lenSl (mkV false (seg (setSeg [(.slice none 0 0)] 0 c1) 0 1)) H fun u38 =>
  u38 = t38) ∧
  ((lenSl (sv s11 1) H fun u65 =>
  u65 = t65) ∧
  (lenSl t55 H fun u56 =>
  u56 = t56) ∧
  (loadP false 1 t54 H fun u55 =>
  u55 = t55) ∧
  (loadP false 1 t52 H fun u53 =>
  u53 = t53) ∧
  (lenSl t45 H fun u46 =>
  u46 = t46) ∧
  (loadP false 1 t44 H fun u45 =>
  u45 = t45) ∧
  (lenSl (mkV false (seg (setSeg [(.slice none 0 0)] 0 c1) 0 1)) H fun u38 =>
  u38 = t38) ∧
  (K17 [[(.bool false)]] H))))) ∧
  ((lenSl (sv s11 1) H fun u65 =>
  u65 = t65) ∧
  (lenSl t55 H fun u56 =>
  u56 = t56) ∧
  (loadP false 1 t54 H fun u55 =>
  u55 = t55) ∧
  (loadP false 1 t52 H fun u53 =>
  u53 = t53) ∧
  (lenSl t45 H fun u46 =>
  u46 = t46) ∧
  (loadP false 1 t44 H fun u45 =>
  u45 = t45) ∧
  (lenSl (mkV false (seg (setSeg [(.slice none 0 0)] 0 c1) 0 1)) H fun u38 =>
  u38 = t38) ∧
  ((lenSl (sv s11 1) H fun u65 =>
  u65 = t65) ∧
  (lenSl t55 H fun u56 =>
  u56 = t56) ∧
  (loadP false 1 t54 H fun u55 =>
  u55 = t55) ∧
  (loadP false 1 t52 H fun u53 =>
  u53 = t53) ∧
  (lenSl t45 H fun u46 =>
  u46 = t46) ∧
  (loadP false 1 t44 H fun u45 =>
  u45 = t45) ∧
  (lenSl (mkV false (seg (setSeg [(.slice none 0 0)] 0 c1) 0 1)) H fun u38 =>
  u38 = t38) ∧
  ((lenSl (sv s11 1) H fun u65 =>
  u65 = t65) ∧
  (lenSl t55 H fun u56 =>
  u56 = t56) ∧
  (loadP false 1 t54 H fun u55 =>
  u55 = t55) ∧
  (loadP false 1 t52 H fun u53 =>
  u53 = t53) ∧
  (lenSl t45 H fun u46 =>
  u46 = t46) ∧
  (loadP false 1 t44 H fun u45 =>
  u45 = t45) ∧
  (lenSl (mkV false (seg (setSeg [(.slice none 0 0)] 0 c1) 0 1)) H fun u38 =>
  u38 = t38) ∧
  ((lenSl (sv s11 1) H fun u65 =>
  u65 = t65) ∧
  (lenSl t55 H fun u56 =>
  u56 = t56) ∧
  (loadP false 1 t54 H fun u55 =>
  u55 = t55) ∧
  (loadP false 1 t52 H fun u53 =>
  u53 = t53) ∧
  (lenSl t45 H fun u46 =>
  u46 = t46) ∧
  (loadP false 1 t44 H fun u45 =>
  u45 = t45) ∧
  (lenSl (mkV false (seg (setSeg [(.slice none 0 0)] 0 c1) 0 1)) H fun u38 =>
  u38 = t38) ∧
  (K17 [[(.bool false)]] H))))))) (
  ((lenSl t55 H fun u56 =>
  u56 = t56) ∧
  (loadP false 1 t54 H fun u55 =>
  u55 = t55) ∧
  (loadP false 1 t52 H fun u53 =>
  u53 = t53) ∧
  (lenSl t45 H fun u46 =>
  u46 = t46) ∧
  (loadP false 1 t44 H fun u45 =>
  u45 = t45) ∧
  (lenSl (mkV false (seg (setSeg [(.slice none 0 0)] 0 c1) 0 1)) H fun u38 =>
  u38 = t38) ∧
  ((lenSl t55 H fun u56 =>
  u56 = t56) ∧
  (loadP false 1 t54 H fun u55 =>
  u55 = t55) ∧
  (loadP false 1 t52 H fun u53 =>
  u53 = t53) ∧
  (lenSl t45 H fun u46 =>
  u46 = t46) ∧
  (loadP false 1 t44 H fun u45 =>
  u45 = t45) ∧
  (lenSl (mkV false (seg (setSeg [(.slice none 0 0)] 0 c1) 0 1)) H fun u38 =>
  u38 = t38) ∧
  ((lenSl t55 H fun u56 =>
  u56 = t56) ∧
  (loadP false 1 t54 H fun u55 =>
  u55 = t55) ∧
  (loadP false 1 t52 H fun u53 =>
  u53 = t53) ∧
  (lenSl t45 H fun u46 =>
  u46 = t46) ∧
  (loadP false 1 t44 H fun u45 =>
  u45 = t45) ∧
  (lenSl (mkV false (seg (setSeg [(.slice none 0 0)] 0 c1) 0 1)) H fun u38 =>
  u38 = t38) ∧
  ((lenSl t55 H fun u56 =>
  u56 = t56) ∧
  (loadP false 1 t54 H fun u55 =>
  u55 = t55) ∧
  (loadP false 1 t52 H fun u53 =>
  u53 = t53) ∧
  (lenSl t45 H fun u46 =>
  u46 = t46) ∧
  (loadP false 1 t44 H fun u45 =>
  u45 = t45) ∧
  (lenSl (mkV false (seg (setSeg [(.slice none 0 0)] 0 c1) 0 1)) H fun u38 =>
  u38 = t38) ∧
  (K17 [[(.bool false)]] H))))) ∧
  ((lenSl t55 H fun u56 =>
  u56 = t56) ∧
  (loadP false 1 t54 H fun u55 =>
  u55 = t55) ∧
  (loadP false 1 t52 H fun u53 =>
  u53 = t53) ∧
  (lenSl t45 H fun u46 =>
  u46 = t46) ∧
  (loadP false 1 t44 H fun u45 =>
  u45 = t45) ∧
  (lenSl (mkV false (seg (setSeg [(.slice none 0 0)] 0 c1) 0 1)) H fun u38 =>
  u38 = t38) ∧
  ((lenSl t55 H fun u56 =>
  u56 = t56) ∧
  (loadP false 1 t54 H fun u55 =>
  u55 = t55) ∧
  (loadP false 1 t52 H fun u53 =>
  u53 = t53) ∧
  (lenSl t45 H fun u46 =>
  u46 = t46) ∧
  (loadP false 1 t44 H fun u45 =>
  u45 = t45) ∧
  (lenSl (mkV false (seg (setSeg [(.slice none 0 0)] 0 c1) 0 1)) H fun u38 =>
  u38 = t38) ∧
  ((lenSl t55 H fun u56 =>
  u56 = t56) ∧
  (loadP false 1 t54 H fun u55 =>
  u55 = t55) ∧
  (loadP false 1 t52 H fun u53 =>
  u53 = t53) ∧
  (lenSl t45 H fun u46 =>
  u46 = t46) ∧
  (loadP false 1 t44 H fun u45 =>
  u45 = t45) ∧
  (lenSl (mkV false (seg (setSeg [(.slice none 0 0)] 0 c1) 0 1)) H fun u38 =>
  u38 = t38) ∧
  ((lenSl t55 H fun u56 =>
  u56 = t56) ∧
  (loadP false 1 t54 H fun u55 =>
  u55 = t55) ∧
  (loadP false 1 t52 H fun u53 =>
  u53 = t53) ∧
  (lenSl t45 H fun u46 =>
  u46 = t46) ∧
  (loadP false 1 t44 H fun u45 =>
  u45 = t45) ∧
  (lenSl (mkV false (seg (setSeg [(.slice none 0 0)] 0 c1) 0 1)) H fun u38 =>
  u38 = t38) ∧
  (K17 [[(.bool false)]] H))))))) (
  ((lenSl t55 H fun u56 =>
  u56 = t56) ∧
  (loadP false 1 t54 H fun u55 =>
  u55 = t55) ∧
  (loadP false 1 t52 H fun u53 =>
  u53 = t53) ∧
  (lenSl t45 H fun u46 =>
  u46 = t46) ∧
  (loadP false 1 t44 H fun u45 =>
  u45 = t45) ∧
  (lenSl (mkV false (seg (setSeg [(.slice none 0 0)] 0 c1) 0 1)) H fun u38 =>
  u38 = t38) ∧
  ((lenSl t55 H fun u56 =>
  u56 = t56) ∧
  (loadP false 1 t54 H fun u55 =>
  u55 = t55) ∧
  (loadP false 1 t52 H fun u53 =>
  u53 = t53) ∧
  (lenSl t45 H fun u46 =>
  u46 = t46) ∧
  (loadP false 1 t44 H fun u45 =>
  u45 = t45) ∧
  (lenSl (mkV false (seg (setSeg [(.slice none 0 0)] 0 c1) 0 1)) H fun u38 =>
  u38 = t38) ∧
  ((lenSl t55 H fun u56 =>
  u56 = t56) ∧
  (loadP false 1 t54 H fun u55 =>
  u55 = t55) ∧
  (loadP false 1 t52 H fun u53 =>
  u53 = t53) ∧
  (lenSl t45 H fun u46 =>
  u46 = t46) ∧
  (loadP false 1 t44 H fun u45 =>
  u45 = t45) ∧
  (lenSl (mkV false (seg (setSeg [(.slice none 0 0)] 0 c1) 0 1)) H fun u38 =>
  u38 = t38) ∧
  ((lenSl t55 H fun u56 =>
  u56 = t56) ∧
  (loadP false 1 t54 H fun u55 =>
  u55 = t55) ∧
  (loadP false 1 t52 H fun u53 =>
  u53 = t53) ∧
  (lenSl t45 H fun u46 =>
  u46 = t46) ∧
  (loadP false 1 t44 H fun u45 =>
  u45 = t45) ∧
  (lenSl (mkV false (seg (setSeg [(.slice none 0 0)] 0 c1) 0 1)) H fun u38 =>
  u38 = t38) ∧
  (K17 [[(.bool false)]] H))))) ∧
  ((lenSl t55 H fun u56 =>
  u56 = t56) ∧
  (loadP false 1 t54 H fun u55 =>
  u55 = t55) ∧
  (loadP false 1 t52 H fun u53 =>
  u53 = t53) ∧
  (lenSl t45 H fun u46 =>
  u46 = t46) ∧
  (loadP false 1 t44 H fun u45 =>
  u45 = t45) ∧
  (lenSl (mkV false (seg (setSeg [(.slice none 0 0)] 0 c1) 0 1)) H fun u38 =>
  u38 = t38) ∧
  ((lenSl t55 H fun u56 =>
  u56 = t56) ∧
  (loadP false 1 t54 H fun u55 =>
  u55 = t55) ∧
  (loadP false 1 t52 H fun u53 =>
  u53 = t53) ∧
  (lenSl t45 H fun u46 =>
  u46 = t46) ∧
  (loadP false 1 t44 H fun u45 =>
  u45 = t45) ∧
  (lenSl (mkV false (seg (setSeg [(.slice none 0 0)] 0 c1) 0 1)) H fun u38 =>
  u38 = t38) ∧
  ((lenSl t55 H fun u56 =>
  u56 = t56) ∧
  (loadP false 1 t54 H fun u55 =>
  u55 = t55) ∧
  (loadP false 1 t52 H fun u53 =>
  u53 = t53) ∧
  (lenSl t45 H fun u46 =>
  u46 = t46) ∧
  (loadP false 1 t44 H fun u45 =>
  u45 = t45) ∧
  (lenSl (mkV false (seg (setSeg [(.slice none 0 0)] 0 c1) 0 1)) H fun u38 =>
  u38 = t38) ∧
  ((lenSl t55 H fun u56 =>
  u56 = t56) ∧
  (loadP false 1 t54 H fun u55 =>
  u55 = t55) ∧
  (loadP false 1 t52 H fun u53 =>
  u53 = t53) ∧
  (lenSl t45 H fun u46 =>
  u46 = t46) ∧
  (loadP false 1 t44 H fun u45 =>
  u45 = t45) ∧
  (lenSl (mkV false (seg (setSeg [(.slice none 0 0)] 0 c1) 0 1)) H fun u38 =>
  u38 = t38) ∧
  (K17 [[(.bool false)]] H))))))) False) (
  ((lenSl t45 H fun u46 =>
  u46 = t46) ∧
  (loadP false 1 t44 H fun u45 =>
  u45 = t45) ∧
  (lenSl (mkV false (seg (setSeg [(.slice none 0 0)] 0 c1) 0 1)) H fun u38 =>
  u38 = t38) ∧
  ((lenSl t45 H fun u46 =>
  u46 = t46) ∧
  (loadP false 1 t44 H fun u45 =>
  u45 = t45) ∧
  (lenSl (mkV false (seg (setSeg [(.slice none 0 0)] 0 c1) 0 1)) H fun u38 =>
  u38 = t38) ∧
  ((lenSl t45 H fun u46 =>
  u46 = t46) ∧
  (loadP false 1 t44 H fun u45 =>
  u45 = t45) ∧
  (lenSl (mkV false (seg (setSeg [(.slice none 0 0)] 0 c1) 0 1)) H fun u38 =>
  u38 = t38) ∧
  ((lenSl t45 H fun u46 =>
  u46 = t46) ∧
  (loadP false 1 t44 H fun u45 =>
  u45 = t45) ∧
  (lenSl (mkV false (seg (setSeg [(.slice none 0 0)] 0 c1) 0 1)) H fun u38 =>
  u38 = t38) ∧
  (K17 [[(.bool false)]] H))))) ∧
  ((lenSl t45 H fun u46 =>
  u46 = t46) ∧
  (loadP false 1 t44 H fun u45 =>
  u45 = t45) ∧
  (lenSl (mkV false (seg (setSeg [(.slice none 0 0)] 0 c1) 0 1)) H fun u38 =>
  u38 = t38) ∧
  ((lenSl t45 H fun u46 =>
  u46 = t46) ∧
  (loadP false 1 t44 H fun u45 =>
  u45 = t45) ∧
  (lenSl (mkV false (seg (setSeg [(.slice none 0 0)] 0 c1) 0 1)) H fun u38 =>
  u38 = t38) ∧
  ((lenSl t45 H fun u46 =>
  u46 = t46) ∧
  (loadP false 1 t44 H fun u45 =>
  u45 = t45) ∧
  (lenSl (mkV false (seg (setSeg [(.slice none 0 0)] 0 c1) 0 1)) H fun u38 =>
  u38 = t38) ∧
  ((lenSl t45 H fun u46 =>
  u46 = t46) ∧
  (loadP false 1 t44 H fun u45 =>
  u45 = t45) ∧
  (lenSl (mkV false (seg (setSeg [(.slice none 0 0)] 0 c1) 0 1)) H fun u38 =>
  u38 = t38) ∧
  (K17 [[(.bool false)]] H))))))) False) (
  ((lenSl (mkV false (seg (setSeg [(.slice none 0 0)] 0 c1) 0 1)) H fun u38 =>
  u38 = t38) ∧
  ((lenSl (mkV false (seg (setSeg [(.slice none 0 0)] 0 c1) 0 1)) H fun u38 =>
  u38 = t38) ∧
  ((lenSl (mkV false (seg (setSeg [(.slice none 0 0)] 0 c1) 0 1)) H fun u38 =>
  u38 = t38) ∧
  ((lenSl (mkV false (seg (setSeg [(.slice none 0 0)] 0 c1) 0 1)) H fun u38 =>
  u38 = t38) ∧
  (K17 [[(.bool false)]] H))))) ∧
  ((lenSl (mkV false (seg (setSeg [(.slice none 0 0)] 0 c1) 0 1)) H fun u38 =>
  u38 = t38) ∧
  ((lenSl (mkV false (seg (setSeg [(.slice none 0 0)] 0 c1) 0 1)) H fun u38 =>
  u38 = t38) ∧
  ((lenSl (mkV false (seg (setSeg [(.slice none 0 0)] 0 c1) 0 1)) H fun u38 =>
  u38 = t38) ∧
  ((lenSl (mkV false (seg (setSeg [(.slice none 0 0)] 0 c1) 0 1)) H fun u38 =>
  u38 = t38) ∧
  (K17 [[(.bool false)]] H))))))) False) (
  (K17 [[(.bool false)]] H) ∧
  (K17 [[(.bool false)]] H))) fun s17 H =>
  Q (sv s17 0) H
theorem S_law12_alive_of  {H : Heap} {Q : Value → Heap → Prop} (h : S_law12_alive H Q) : callV Try.prog (fnV fn_law12_alive) [] H Q :=
  callV_fn (hcalls_of (pv := [1, 3]) (ann := [(11, [7, 8, 10]), (14, [12, 14, 16]), (17, [0])]) Try.func48 (by kernel_rfl) (Eq.mpr (by kernel_rfl) h))

/-- thimblerig/thimbleriglaw12.eight -/
def S_law12_eight  (H : Heap) (Q : Value → Heap → Prop) : Prop :=
  newT H fun H =>
  Q (.agg #[(.int .i64 8), (.int .i64 4), (.int .i64 2), (.int .i64 2), (.int .i64 8), (.int .i64 2), (.int .i64 2), (.int .i64 4), (.int .i64 2)]) H
theorem S_law12_eight_of  {H : Heap} {Q : Value → Heap → Prop} (h : S_law12_eight H Q) : callV Try.prog (fnV fn_law12_eight) [] H Q :=
  callV_fn (hcalls_of (pv := [0]) (ann := []) Try.func51 (by kernel_rfl) (Eq.mpr (by kernel_rfl) h))

/-- thimblerig/thimbleriglaw12.text -/
def S_law12_text (x0 : Value) (H : Heap) (Q : Value → Heap → Prop) : Prop :=
  mkS 5 1 1 (zeroL Try.prog 5) (.int .i64 104) (.int .i64 104) H fun t5 H =>
  LoopPT (fun s12 H K12 =>
  lenSl t5 H fun t8 =>
  binV (.int .i64) .lss (sv s12 0) t8 fun t9 =>
  asB t9 fun b9 =>
  ifB b9 (
  idxS 1 t5 (sv s12 0) fun t15 =>
  storeP false 1 t15 x0 H fun H =>
  binV (.int .i64) .add (sv s12 0) (.int .i64 1) fun t11 =>
  K12 [[t11]] H) (
  Q t5 H)) [[(.int .i64 0)]] H
theorem S_law12_text_of {x0 : Value} {H : Heap} {Q : Value → Heap → Prop} (h : S_law12_text x0 H Q) : callV Try.prog (fnV fn_law12_text) [x0] H Q :=
  callV_fn (hcalls_of (pv := []) (ann := [(12, [8])]) Try.func52 (by kernel_rfl) (Eq.mpr (by kernel_rfl) h))

end Go.Proofs.Ytikebhnnmnlgaaa
