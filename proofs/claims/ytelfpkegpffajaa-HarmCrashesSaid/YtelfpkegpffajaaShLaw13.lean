/- Written by sh.py: what functions do, out of the deep reading; each is joined to the program by the kernel. -/
import Derived.Test.YtelfpkegpffajaaShNames
namespace Go.Proofs.Ytelfpkegpffajaa
open Go.Ab
set_option linter.unusedVariables false
set_option linter.unusedSimpArgs false
set_option maxRecDepth 100000

/-- thimblerig/thimbleriglaw13.HarmDoes -/
def S_law13_HarmDoes (x0_0 : Value) (x0_1 : Value) (x0_2 : Value) (x0_3 : Value) (x0_4 : Value) (x0_5 : Value) (x0_6 : Value) (x0_7 : Value) (x0_8 : Value) (x1_0 : Value) (x2 : Value) (x3_0 : Value) (x3_1 : Value) (x3_2 : Value) (x3_3 : Value) (x3_4 : Value) (x3_5 : Value) (H : Heap) (Q : Value → Heap → Prop) : Prop :=
  newT H fun H =>
  newT H fun H =>
  newT H fun H =>
  JoinPT (fun K8 =>
  callV Try.prog (fnV fn_ref12_Great) [(.agg #[x1_0])] H fun t20 H =>
  asB t20 fun b21 =>
  ifB b21 (
  K8 [[(.bool true)]] H) (
  callV Try.prog (fnV fn_ref12_GreatSees) [x2] H fun t23 H =>
  K8 [[t23]] H)) fun s8 H =>
  asB (sv s8 0) fun b24 =>
  ifB b24 (
  Q (.bool true) H) (
  callV Try.prog (fnV fn_ref12_Twin) [(.agg #[x1_0])] H fun t26 H =>
  callV Try.prog (fnV fn_ref12_TwinSees) [x2] H fun t28 H =>
  newT H fun H =>
  cellsV true 1 t26 fun c1 =>
  ifB (decide (0 + 1 ≤ ((setSeg [(.slice none 0 0)] 0 c1)).length)) (
  callV Try.prog (fnV fn_harm_Do) [(.agg #[x0_0, x0_1, x0_2, x0_3, x0_4, x0_5, x0_6, x0_7, x0_8]), (.agg (seg (setSeg [(.slice none 0 0)] 0 c1) 0 1).toArray), t28, (.agg #[x3_0, x3_1, x3_2, x3_3, x3_4, x3_5])] H fun t34 H =>
  extractV 0 t34 fun t35 =>
  extractV 1 t34 fun t36 =>
  newT H fun H =>
  cellsV true 1 t35 fun c2 =>
  callV Try.prog (fnV fn_ref13_Do) [(.agg #[x0_0, x0_1, x0_2, x0_3, x0_4, x0_5, x0_6, x0_7, x0_8]), (.agg #[x1_0]), x2, (.agg #[x3_0, x3_1, x3_2, x3_3, x3_4, x3_5])] H fun t42 H =>
  extractV 0 t42 fun t43 =>
  extractV 1 t42 fun t44 =>
  newT H fun H =>
  cellsV true 1 t43 fun c3 =>
  callV Try.prog (fnV fn_harm_Versions) [t28, x3_1, x3_2] H fun t50 H =>
  JoinPT (fun K26 =>
  ifB (decide (0 + 1 ≤ ((setSeg [(.slice none 0 0)] 0 c2)).length)) (
  ifB (decide (0 + 1 ≤ ((setSeg [(.slice none 0 0)] 0 c3)).length)) (
  callV Try.prog (fnV fn_ref12_Same) [(.agg (seg (setSeg [(.slice none 0 0)] 0 c2) 0 1).toArray), (.agg (seg (setSeg [(.slice none 0 0)] 0 c3) 0 1).toArray)] H fun t53 H =>
  asB t53 fun b54 =>
  ifB b54 (
  binV (.int .i64) .eql t36 t44 fun t57 =>
  asB t57 fun b59 =>
  ifB b59 (
  callV Try.prog (fnV fn_ref13_Versions) [x2, x3_1, x3_2] H fun t66 H =>
  callV Try.prog (fnV fn_ref01_SameAll) [t50, t66] H fun t67 H =>
  K26 [[t67]] H) (
  K26 [[(.bool false)]] H)) (
  K26 [[(.bool false)]] H)) False) False) fun s26 H =>
  ifB (decide (0 + 1 ≤ ((setSeg [(.slice none 0 0)] 0 c2)).length)) (
  callV Try.prog (fnV fn_law13_spoil) [(.agg (seg (setSeg [(.slice none 0 0)] 0 c2) 0 1).toArray)] H fun t70 H =>
  LoopPT (fun s33 H K33 =>
  lenSl t50 H fun t73 =>
  binV (.int .i64) .lss (sv s33 0) t73 fun t74 =>
  asB t74 fun b74 =>
  ifB b74 (
  LoopPT (fun s42 H K42 =>
  idxS 1 t50 (sv s33 0) fun t80 =>
  loadP false 1 t80 H fun t81 =>
  lenSl t81 H fun t82 =>
  binV (.int .i64) .lss (sv s42 0) t82 fun t83 =>
  asB t83 fun b83 =>
  ifB b83 (
  idxS 1 t50 (sv s33 0) fun t88 =>
  loadP false 1 t88 H fun t89 =>
  idxS 1 t50 (sv s33 0) fun t93 =>
  loadP false 1 t93 H fun t94 =>
  idxS 1 t94 (sv s42 0) fun t96 =>
  loadP false 1 t96 H fun t97 =>
  binV (.int .u8) .add t97 (.int .u8 1) fun t98 =>
  idxS 1 t89 (sv s42 0) fun t99 =>
  storeP false 1 t99 t98 H fun H =>
  binV (.int .i64) .add (sv s42 0) (.int .i64 1) fun t85 =>
  K42 [[t85]] H) (
  binV (.int .i64) .add (sv s33 0) (.int .i64 1) fun t76 =>
  K33 [[t76]] H)) [[(.int .i64 0)]] H) (
  JoinPT (fun K53 =>
  asB (sv s26 0) fun b101 =>
  ifB b101 (
  ifB (decide (0 + 1 ≤ ((setSeg [(.slice none 0 0)] 0 c1)).length)) (
  callV Try.prog (fnV fn_ref12_Same) [(.agg (seg (setSeg [(.slice none 0 0)] 0 c1) 0 1).toArray), (.agg #[x1_0])] H fun t104 H =>
  asB t104 fun b106 =>
  ifB b106 (
  callV Try.prog (fnV fn_ref12_SameSees) [t28, x2] H fun t109 H =>
  K53 [[t109]] H) (
  K53 [[(.bool false)]] H)) False) (
  K53 [[(.bool false)]] H)) fun s53 H =>
  Q (sv s53 0) H)) [[(.int .i64 0)]] H) False) False)
theorem S_law13_HarmDoes_of {x0_0 : Value} {x0_1 : Value} {x0_2 : Value} {x0_3 : Value} {x0_4 : Value} {x0_5 : Value} {x0_6 : Value} {x0_7 : Value} {x0_8 : Value} {x1_0 : Value} {x2 : Value} {x3_0 : Value} {x3_1 : Value} {x3_2 : Value} {x3_3 : Value} {x3_4 : Value} {x3_5 : Value} {H : Heap} {Q : Value → Heap → Prop} (h : S_law13_HarmDoes x0_0 x0_1 x0_2 x0_3 x0_4 x0_5 x0_6 x0_7 x0_8 x1_0 x2 x3_0 x3_1 x3_2 x3_3 x3_4 x3_5 H Q) : callV Try.prog (fnV fn_law13_HarmDoes) [(.agg #[x0_0, x0_1, x0_2, x0_3, x0_4, x0_5, x0_6, x0_7, x0_8]), (.agg #[x1_0]), x2, (.agg #[x3_0, x3_1, x3_2, x3_3, x3_4, x3_5])] H Q :=
  callV_fn (hcalls_of (pv := [4, 5, 7, 9, 11, 13]) (ann := [(8, [48]), (26, [32]), (33, [34]), (42, [36]), (53, [16])]) Try.func3 (by kernel_rfl) (Eq.mpr (by kernel_rfl) h))

/-- thimblerig/thimbleriglaw13.HarmNames -/
def S_law13_HarmNames  (H : Heap) (Q : Value → Heap → Prop) : Prop :=
  callV Try.prog (fnV fn_law13_first) [(.agg #[(.int .u8 3), (.int .i64 0), (.int .i64 1), (.int .i64 0), (.int .i64 2), (.int .u8 0)])] H fun t17 H =>
  extractV 0 t17 fun t18 =>
  extractV 1 t17 fun t19 =>
  callV Try.prog (fnV fn_law13_first) [(.agg #[(.int .u8 5), (.int .i64 0), (.int .i64 0), (.int .i64 0), (.int .i64 3), (.int .u8 0)])] H fun t22 H =>
  extractV 0 t22 fun t23 =>
  extractV 1 t22 fun t24 =>
  callV Try.prog (fnV fn_law13_first) [(.agg #[(.int .u8 1), (.int .i64 0), (.int .i64 1), (.int .i64 0), (.int .i64 0), (.int .u8 0)])] H fun t27 H =>
  extractV 0 t27 fun t28 =>
  extractV 1 t27 fun t29 =>
  callV Try.prog (fnV fn_law13_first) [(.agg #[(.int .u8 4), (.int .i64 0), (.int .i64 2), (.int .i64 0), (.int .i64 0), (.int .u8 0)])] H fun t32 H =>
  extractV 0 t32 fun t33 =>
  extractV 1 t32 fun t34 =>
  callV Try.prog (fnV fn_law13_first) [(.agg #[(.int .u8 6), (.int .i64 0), (.int .i64 1), (.int .i64 0), (.int .i64 0), (.int .u8 0)])] H fun t37 H =>
  extractV 0 t37 fun t38 =>
  extractV 1 t37 fun t39 =>
  callV Try.prog (fnV fn_law13_first) [(.agg #[(.int .u8 2), (.int .i64 0), (.int .i64 1), (.int .i64 4), (.int .i64 0), (.int .u8 0)])] H fun t42 H =>
  extractV 0 t42 fun t43 =>
  extractV 1 t42 fun t44 =>
  callV Try.prog (fnV fn_law13_text) [(.int .u8 121)] H fun t45 H =>
  idxS 1 t45 (.int .i64 80) fun t48 =>
  loadP false 1 t48 H fun t49 =>
  binV (.int .u8) .xor t49 (.int .u8 3) fun t50 =>
  idxS 1 t45 (.int .i64 80) fun t51 =>
  storeP false 1 t51 t50 H fun H =>
  JoinPT (fun K32 =>
  callV Try.prog (fnV fn_law13_text) [(.int .u8 0)] H fun t53 H =>
  callV Try.prog (fnV fn_law13_leaves) [(.agg #[(.int .u8 5), (.int .i64 0), (.int .i64 0), (.int .i64 0), (.int .i64 0), (.int .u8 0)]), t53] H fun t54 H =>
  asB t54 fun b55 =>
  ifB b55 (
  callV Try.prog (fnV fn_law13_text) [(.int .u8 0)] H fun t57 H =>
  callV Try.prog (fnV fn_law13_leaves) [(.agg #[(.int .u8 2), (.int .i64 0), (.int .i64 1), (.int .i64 3), (.int .i64 0), (.int .u8 0)]), t57] H fun t58 H =>
  asB t58 fun b60 =>
  ifB b60 (
  callV Try.prog (fnV fn_law13_leaves) [(.agg #[(.int .u8 1), (.int .i64 0), (.int .i64 1), (.int .i64 0), (.int .i64 80), (.int .u8 3)]), t45] H fun t63 H =>
  K32 [[t63]] H) (
  K32 [[(.bool false)]] H)) (
  K32 [[(.bool false)]] H)) fun s32 H =>
  JoinPT (fun K35 =>
  callV Try.prog (fnV fn_law13_alive) [] H fun t66 H =>
  asB t66 fun b68 =>
  ifB b68 (
  binV (.int .i64) .eql t19 (.int .i64 2) fun t70 =>
  asB t70 fun b72 =>
  ifB b72 (
  binV (.int .i64) .eql t24 (.int .i64 2) fun t74 =>
  asB t74 fun b76 =>
  ifB b76 (
  binV (.int .i64) .eql t29 (.int .i64 2) fun t78 =>
  asB t78 fun b80 =>
  ifB b80 (
  binV (.int .i64) .eql t34 (.int .i64 2) fun t82 =>
  asB t82 fun b84 =>
  ifB b84 (
  binV (.int .i64) .eql t39 (.int .i64 2) fun t86 =>
  asB t86 fun b88 =>
  ifB b88 (
  binV (.int .i64) .eql t44 (.int .i64 2) fun t90 =>
  asB t90 fun b92 =>
  ifB b92 (
  K35 [[(sv s32 0)]] H) (
  K35 [[(.bool false)]] H)) (
  K35 [[(.bool false)]] H)) (
  K35 [[(.bool false)]] H)) (
  K35 [[(.bool false)]] H)) (
  K35 [[(.bool false)]] H)) (
  K35 [[(.bool false)]] H)) (
  K35 [[(.bool false)]] H)) fun s35 H =>
  Q (sv s35 0) H
theorem S_law13_HarmNames_of  {H : Heap} {Q : Value → Heap → Prop} (h : S_law13_HarmNames H Q) : callV Try.prog (fnV fn_law13_HarmNames) [] H Q :=
  callV_fn (hcalls_of (pv := []) (ann := [(32, [28]), (35, [0])]) Try.func4 (by kernel_rfl) (Eq.mpr (by kernel_rfl) h))

/-- thimblerig/thimbleriglaw13.HarmTwice -/
def S_law13_HarmTwice (x0_0 : Value) (x0_1 : Value) (x0_2 : Value) (x0_3 : Value) (x0_4 : Value) (x0_5 : Value) (x0_6 : Value) (x0_7 : Value) (x0_8 : Value) (x1_0 : Value) (x2 : Value) (x3_0 : Value) (x3_1 : Value) (x3_2 : Value) (x3_3 : Value) (x3_4 : Value) (x3_5 : Value) (H : Heap) (Q : Value → Heap → Prop) : Prop :=
  newT H fun H =>
  newT H fun H =>
  newT H fun H =>
  callV Try.prog (fnV fn_law13_alive) [] H fun t17 H =>
  JoinPT (fun K11 =>
  callV Try.prog (fnV fn_ref12_Great) [(.agg #[x1_0])] H fun t19 H =>
  asB t19 fun b20 =>
  ifB b20 (
  K11 [[(.bool true)]] H) (
  callV Try.prog (fnV fn_ref12_GreatSees) [x2] H fun t22 H =>
  asB t22 fun b24 =>
  ifB b24 (
  K11 [[(.bool true)]] H) (
  unV .not t17 fun t26 =>
  K11 [[t26]] H))) fun s11 H =>
  asB (sv s11 0) fun b27 =>
  ifB b27 (
  Q t17 H) (
  callV Try.prog (fnV fn_harm_Do) [(.agg #[x0_0, x0_1, x0_2, x0_3, x0_4, x0_5, x0_6, x0_7, x0_8]), (.agg #[x1_0]), x2, (.agg #[x3_0, x3_1, x3_2, x3_3, x3_4, x3_5])] H fun t34 H =>
  extractV 0 t34 fun t35 =>
  extractV 1 t34 fun t36 =>
  newT H fun H =>
  cellsV true 1 t35 fun c1 =>
  binV (.int .i64) .neq t36 (.int .i64 0) fun t38 =>
  asB t38 fun b38 =>
  ifB b38 (
  JoinPT (fun K23 =>
  asB t17 fun b40 =>
  ifB b40 (
  ifB (decide (0 + 1 ≤ ((setSeg [(.slice none 0 0)] 0 c1)).length)) (
  lenSl (mkV false (seg (setSeg [(.slice none 0 0)] 0 c1) 0 1)) H fun t43 =>
  binV (.int .i64) .eql t43 (.int .i64 0) fun t44 =>
  K23 [[t44]] H) False) (
  K23 [[(.bool false)]] H)) fun s23 H =>
  Q (sv s23 0) H) (
  JoinPT (fun K26 =>
  ifB (decide (0 + 1 ≤ ((setSeg [(.slice none 0 0)] 0 c1)).length)) (
  callV Try.prog (fnV fn_dev_Check) [(.agg #[x0_0, x0_1, x0_2, x0_3, x0_4, x0_5, x0_6, x0_7, x0_8]), (.agg (seg (setSeg [(.slice none 0 0)] 0 c1) 0 1).toArray)] H fun t48 H =>
  binV (.int .i64) .neq t48 (.int .i64 0) fun t49 =>
  asB t49 fun b50 =>
  ifB b50 (
  K26 [[(.bool true)]] H) (
  ifB (decide (0 + 1 ≤ ((setSeg [(.slice none 0 0)] 0 c1)).length)) (
  lenSl (mkV false (seg (setSeg [(.slice none 0 0)] 0 c1) 0 1)) H fun t53 =>
  lenSl x1_0 H fun t56 =>
  binV (.int .i64) .neq t53 t56 fun t57 =>
  K26 [[t57]] H) False)) False) fun s26 H =>
  asB (sv s26 0) fun b58 =>
  ifB b58 (
  Q (.bool false) H) (
  JoinPT (fun K32 =>
  binV (.int .u8) .eql x3_0 (.int .u8 1) fun t61 =>
  asB t61 fun b62 =>
  ifB b62 (
  K32 [[(.bool true)]] H) (
  binV (.int .u8) .eql x3_0 (.int .u8 2) fun t65 =>
  K32 [[t65]] H)) fun s32 H =>
  asB (sv s32 0) fun b66 =>
  JoinPT (fun K33 =>
  ifB b66 (
  ifB (decide (0 + 1 ≤ ((setSeg [(.slice none 0 0)] 0 c1)).length)) (
  callV Try.prog (fnV fn_harm_Do) [(.agg #[x0_0, x0_1, x0_2, x0_3, x0_4, x0_5, x0_6, x0_7, x0_8]), (.agg (seg (setSeg [(.slice none 0 0)] 0 c1) 0 1).toArray), x2, (.agg #[x3_0, x3_1, x3_2, x3_3, x3_4, x3_5])] H fun t72 H =>
  extractV 0 t72 fun t73 =>
  extractV 1 t72 fun t74 =>
  newT H fun H =>
  cellsV true 1 t73 fun c2 =>
  JoinPT (fun K38 =>
  binV (.int .i64) .neq t74 (.int .i64 0) fun t76 =>
  asB t76 fun b77 =>
  ifB b77 (
  K38 [[(.bool true)]] H) (
  ifB (decide (0 + 1 ≤ ((setSeg [(.slice none 0 0)] 0 c2)).length)) (
  callV Try.prog (fnV fn_ref12_Same) [(.agg (seg (setSeg [(.slice none 0 0)] 0 c2) 0 1).toArray), (.agg #[x1_0])] H fun t80 H =>
  unV .not t80 fun t81 =>
  K38 [[t81]] H) False)) fun s38 H =>
  asB (sv s38 0) fun b82 =>
  ifB b82 (
  Q (.bool false) H) (
  K33 [] H)) False) (
  K33 [] H)) fun s33 H =>
  LoopPT (fun s45 H K45 =>
  JoinPT (fun K47 =>
  lenSl x1_0 H fun t86 =>
  binV (.int .i64) .lss (sv s45 0) t86 fun t87 =>
  asB t87 fun b88 =>
  ifB b88 (
  binV (.int .u8) .neq x3_0 (.int .u8 5) fun t91 =>
  K47 [[t91]] H) (
  K47 [[(.bool false)]] H)) fun s47 H =>
  asB (sv s47 0) fun b92 =>
  ifB b92 (
  LoopPT (fun s54 H K54 =>
  JoinPT (fun K56 =>
  idxS 1 x1_0 (sv s45 0) fun t99 =>
  loadP false 1 t99 H fun t100 =>
  lenSl t100 H fun t101 =>
  binV (.int .i64) .lss (sv s54 0) t101 fun t102 =>
  asB t102 fun b103 =>
  ifB b103 (
  ifB (decide (0 + 1 ≤ ((setSeg [(.slice none 0 0)] 0 c1)).length)) (
  idxS 1 (mkV false (seg (setSeg [(.slice none 0 0)] 0 c1) 0 1)) (sv s45 0) fun t108 =>
  loadP false 1 t108 H fun t109 =>
  lenSl t109 H fun t110 =>
  binV (.int .i64) .lss (sv s54 0) t110 fun t111 =>
  K56 [[t111]] H) False) (
  K56 [[(.bool false)]] H)) fun s56 H =>
  asB (sv s56 0) fun b112 =>
  ifB b112 (
  JoinPT (fun K62 =>
  binV (.int .i64) .eql (sv s45 0) x3_1 fun t118 =>
  asB t118 fun b119 =>
  ifB b119 (
  binV (.int .i64) .add (sv s54 0) (.int .i64 1) fun t121 =>
  binV (.int .i64) .eql t121 x3_2 fun t124 =>
  asB t124 fun b125 =>
  ifB b125 (
  undef = undef ∧ (
  undef = undef ∧ (
  undef = undef ∧ (
  undef = undef ∧ (
  undef = undef ∧ (
  K62 [[(.bool true)]] H)))))) (
  binV (.int .u8) .eql x3_0 (.int .u8 2) fun t128 =>
  asB t128 fun b129 =>
  ifB b129 (
  binV (.int .i64) .add (sv s54 0) (.int .i64 1) fun t131 =>
  binV (.int .i64) .eql t131 x3_3 fun t134 =>
  K62 [[t134]] H) (
  K62 [[(.bool false)]] H))) (
  undef = undef ∧ (
  undef = undef ∧ (
  undef = undef ∧ (
  undef = undef ∧ (
  undef = undef ∧ (
  undef = undef ∧ (
  undef = undef ∧ (
  undef = undef ∧ (
  undef = undef ∧ (
  undef = undef ∧ (
  K62 [[(.bool false)]] H)))))))))))) fun s62 H =>
  JoinPT (fun K65 =>
  unV .not (sv s62 0) fun t139 =>
  asB t139 fun b140 =>
  ifB b140 (
  ifB (decide (0 + 1 ≤ ((setSeg [(.slice none 0 0)] 0 c1)).length)) (
  idxS 1 (mkV false (seg (setSeg [(.slice none 0 0)] 0 c1) 0 1)) (sv s45 0) fun t144 =>
  loadP false 1 t144 H fun t145 =>
  idxS 1 t145 (sv s54 0) fun t147 =>
  loadP false 1 t147 H fun t148 =>
  idxS 1 x1_0 (sv s45 0) fun t152 =>
  loadP false 1 t152 H fun t153 =>
  idxS 1 t153 (sv s54 0) fun t155 =>
  loadP false 1 t155 H fun t156 =>
  callV Try.prog (fnV fn_ref01_Same) [t148, t156] H fun t157 H =>
  (loadP false 1 t152 H fun u153 =>
  u153 = t153) ∧
  (loadP false 1 t144 H fun u145 =>
  u145 = t145) ∧
  (unV .not t157 fun t158 =>
  K65 [[t158]] H)) False) (
  K65 [[(.bool false)]] H)) fun s65 H =>
  asB (sv s65 0) fun b159 =>
  ifB b159 (
  Q (.bool false) H) (
  binV (.int .i64) .add (sv s54 0) (.int .i64 1) fun t114 =>
  K54 [[t114]] H)) (
  binV (.int .i64) .add (sv s45 0) (.int .i64 1) fun t94 =>
  K45 [[t94]] H)) [[(.int .i64 0)]] H) (
  Q t17 H)) [[(.int .i64 0)]] H)))
theorem S_law13_HarmTwice_of {x0_0 : Value} {x0_1 : Value} {x0_2 : Value} {x0_3 : Value} {x0_4 : Value} {x0_5 : Value} {x0_6 : Value} {x0_7 : Value} {x0_8 : Value} {x1_0 : Value} {x2 : Value} {x3_0 : Value} {x3_1 : Value} {x3_2 : Value} {x3_3 : Value} {x3_4 : Value} {x3_5 : Value} {H : Heap} {Q : Value → Heap → Prop} (h : S_law13_HarmTwice x0_0 x0_1 x0_2 x0_3 x0_4 x0_5 x0_6 x0_7 x0_8 x1_0 x2 x3_0 x3_1 x3_2 x3_3 x3_4 x3_5 H Q) : callV Try.prog (fnV fn_law13_HarmTwice) [(.agg #[x0_0, x0_1, x0_2, x0_3, x0_4, x0_5, x0_6, x0_7, x0_8]), (.agg #[x1_0]), x2, (.agg #[x3_0, x3_1, x3_2, x3_3, x3_4, x3_5])] H Q :=
  callV_fn (hcalls_of (pv := [4, 5, 7, 10, 12]) (ann := [(11, [54]), (23, [16]), (26, [116]), (32, [132]), (33, []), (38, [164]), (45, [28]), (47, [184]), (54, [30]), (56, [224]), (62, [32]), (65, [318])]) Try.func5 (by kernel_rfl) (Eq.mpr (by kernel_rfl) h))

/-- thimblerig/thimbleriglaw13.HarmCrashes -/
def S_law13_HarmCrashes (x0_0 : Value) (x0_1 : Value) (x0_2 : Value) (x0_3 : Value) (x0_4 : Value) (x0_5 : Value) (x0_6 : Value) (x0_7 : Value) (x0_8 : Value) (x1_0 : Value) (x2 : Value) (x3 : Value) (H : Heap) (Q : Value → Heap → Prop) : Prop :=
  newT H fun H =>
  newT H fun H =>
  callV Try.prog (fnV fn_law13_alive) [] H fun t25 H =>
  JoinPT (fun K11 =>
  callV Try.prog (fnV fn_ref12_Great) [(.agg #[x1_0])] H fun t27 H =>
  asB t27 fun b28 =>
  ifB b28 (
  K11 [[(.bool true)]] H) (
  callV Try.prog (fnV fn_ref12_GreatSees) [x2] H fun t30 H =>
  asB t30 fun b32 =>
  ifB b32 (
  K11 [[(.bool true)]] H) (
  unV .not t25 fun t34 =>
  K11 [[t34]] H))) fun s11 H =>
  asB (sv s11 0) fun b35 =>
  ifB b35 (
  Q t25 H) (
  callV Try.prog (fnV fn_dev_New) [(.agg #[x0_0, x0_1, x0_2, x0_3, x0_4, x0_5, x0_6, x0_7, x0_8])] H fun t39 H =>
  extractV 0 t39 fun t40 =>
  extractV 1 t39 fun t41 =>
  newT H fun H =>
  cellsV true 1 t40 fun c1 =>
  ifB (decide (0 + 1 ≤ ((setSeg [(.slice none 0 0)] 0 c1)).length)) (
  callV Try.prog (fnV fn_dev_Replay) [(.agg #[x0_0, x0_1, x0_2, x0_3, x0_4, x0_5, x0_6, x0_7, x0_8]), (.agg (seg (setSeg [(.slice none 0 0)] 0 c1) 0 1).toArray), x2] H fun t46 H =>
  extractV 0 t46 fun t47 =>
  extractV 1 t46 fun t48 =>
  newT H fun H =>
  cellsV true 1 t47 fun c2 =>
  callV Try.prog (fnV fn_ref13_Writes) [x2] H fun t50 H =>
  ifB (okc t50) (
  callV Try.prog (fnV fn_harm_Do) [(.agg #[x0_0, x0_1, x0_2, x0_3, x0_4, x0_5, x0_6, x0_7, x0_8]), (.agg #[x1_0]), x2, (.agg #[(.int .u8 5), (.int .i64 0), (.int .i64 0), (.int .i64 0), t50, (.int .u8 0)])] H fun t57 H =>
  extractV 0 t57 fun t58 =>
  extractV 1 t57 fun t59 =>
  newT H fun H =>
  cellsV true 1 t58 fun c3 =>
  ifB (okc x3) (
  callV Try.prog (fnV fn_harm_Do) [(.agg #[x0_0, x0_1, x0_2, x0_3, x0_4, x0_5, x0_6, x0_7, x0_8]), (.agg #[x1_0]), x2, (.agg #[(.int .u8 5), (.int .i64 0), (.int .i64 0), (.int .i64 0), x3, (.int .u8 0)])] H fun t66 H =>
  extractV 0 t66 fun t67 =>
  extractV 1 t66 fun t68 =>
  newT H fun H =>
  cellsV true 1 t67 fun c4 =>
  JoinPT (fun K32 =>
  binV (.int .i64) .neq t41 (.int .i64 0) fun t70 =>
  asB t70 fun b71 =>
  ifB b71 (
  K32 [[(.bool true)]] H) (
  binV (.int .i64) .neq t48 (.int .i64 0) fun t73 =>
  asB t73 fun b75 =>
  ifB b75 (
  K32 [[(.bool true)]] H) (
  callV Try.prog (fnV fn_dev_Check) [(.agg #[x0_0, x0_1, x0_2, x0_3, x0_4, x0_5, x0_6, x0_7, x0_8]), (.agg #[x1_0])] H fun t78 H =>
  binV (.int .i64) .neq t78 (.int .i64 0) fun t79 =>
  K32 [[t79]] H))) fun s32 H =>
  asB (sv s32 0) fun b80 =>
  ifB b80 (
  JoinPT (fun K35 =>
  asB t25 fun b82 =>
  ifB b82 (
  binV (.int .i64) .neq t59 (.int .i64 0) fun t84 =>
  K35 [[t84]] H) (
  K35 [[(.bool false)]] H)) fun s35 H =>
  Q (sv s35 0) H) (
  JoinPT (fun K38 =>
  binV (.int .i64) .neq t59 (.int .i64 0) fun t87 =>
  asB t87 fun b88 =>
  ifB b88 (
  undef = undef ∧ (
  undef = undef ∧ (
  undef = undef ∧ (
  K38 [[(.bool true)]] H)))) (
  ifB (decide (0 + 1 ≤ ((setSeg [(.slice none 0 0)] 0 c3)).length)) (
  ifB (decide (0 + 1 ≤ ((setSeg [(.slice none 0 0)] 0 c2)).length)) (
  callV Try.prog (fnV fn_ref12_Same) [(.agg (seg (setSeg [(.slice none 0 0)] 0 c3) 0 1).toArray), (.agg (seg (setSeg [(.slice none 0 0)] 0 c2) 0 1).toArray)] H fun t91 H =>
  unV .not t91 fun t92 =>
  asB t92 fun b94 =>
  ifB b94 (
  undef = undef ∧ (
  undef = undef ∧ (
  undef = undef ∧ (
  K38 [[(.bool true)]] H)))) (
  binV (.int .i64) .eql t68 (.int .i64 0) fun t96 =>
  binV (.int .i64) .geq x3 (.int .i64 0) fun t98 =>
  asB t98 fun b99 =>
  ifB b99 (
  binV (.int .i64) .leq x3 t50 fun t102 =>
  binV .bool .neq t96 t102 fun t104 =>
  K38 [[t104]] H) (
  binV .bool .neq t96 (.bool false) fun t104 =>
  K38 [[t104]] H))) False) False)) fun s38 H =>
  asB (sv s38 0) fun b105 =>
  ifB b105 (
  Q (.bool false) H) (
  LoopPT (fun s48 H K48 =>
  ifB (decide (0 + 1 ≤ ((setSeg [(.slice none 0 0)] 0 c4)).length)) (
  lenSl (mkV false (seg (setSeg [(.slice none 0 0)] 0 c4) 0 1)) H fun t109 =>
  binV (.int .i64) .lss (sv s48 1) t109 fun t110 =>
  asB t110 fun b110 =>
  ifB b110 (
  LoopPT (fun s57 H K57 =>
  ifB (decide (0 + 1 ≤ ((setSeg [(.slice none 0 0)] 0 c4)).length)) (
  idxS 1 (mkV false (seg (setSeg [(.slice none 0 0)] 0 c4) 0 1)) (sv s48 1) fun t117 =>
  loadP false 1 t117 H fun t118 =>
  lenSl t118 H fun t119 =>
  binV (.int .i64) .lss (sv s57 1) t119 fun t120 =>
  asB t120 fun b120 =>
  ifB b120 (
  binV (.int .i64) .add (sv s57 1) (.int .i64 1) fun t126 =>
  callV Try.prog (fnV fn_harm_Versions) [x2, (sv s48 1), t126] H fun t127 H =>
  lenSl t127 H fun t130 =>
  binV (.int .i64) .add (sv s57 0) t130 fun t131 =>
  ifB (decide (0 + 1 ≤ ((setSeg [(.slice none 0 0)] 0 c4)).length)) (
  idxS 1 (mkV false (seg (setSeg [(.slice none 0 0)] 0 c4) 0 1)) (sv s48 1) fun t135 =>
  loadP false 1 t135 H fun t136 =>
  idxS 1 t136 (sv s57 1) fun t138 =>
  loadP false 1 t138 H fun t139 =>
  ifB (decide (0 + 1 ≤ ((setSeg [(.slice none 0 0)] 0 c4)).length)) (
  idxS 1 (mkV false (seg (setSeg [(.slice none 0 0)] 0 c4) 0 1)) (sv s48 1) fun t143 =>
  loadP false 1 t143 H fun t144 =>
  idxS 1 t144 (sv s57 1) fun t146 =>
  loadP false 1 t146 H fun t147 =>
  lenSl t147 H fun t148 =>
  mkS 5 1 1 (zeroL Try.prog 5) t148 t148 H fun t149 H =>
  (loadP false 1 t146 H fun u147 =>
  u147 = t147) ∧
  (loadP false 1 t143 H fun u144 =>
  u144 = t144) ∧
  (loadP false 1 t138 H fun u139 =>
  u139 = t139) ∧
  (loadP false 1 t135 H fun u136 =>
  u136 = t136) ∧
  (callV Try.prog (fnV fn_ref01_Same) [t139, t149] H fun t150 H =>
  (loadP false 1 t146 H fun u147 =>
  u147 = t147) ∧
  (loadP false 1 t143 H fun u144 =>
  u144 = t144) ∧
  (loadP false 1 t135 H fun u136 =>
  u136 = t136) ∧
  (LoopPT (fun s75 H K75 =>
  lenSl t127 H fun t153 =>
  binV (.int .i64) .lss (sv s75 1) t153 fun t154 =>
  asB t154 fun b154 =>
  ifB b154 (
  JoinPT (fun K83 =>
  asB (sv s75 0) fun b158 =>
  ifB b158 (
  K83 [[(.bool true)]] H) (
  ifB (decide (0 + 1 ≤ ((setSeg [(.slice none 0 0)] 0 c4)).length)) (
  idxS 1 (mkV false (seg (setSeg [(.slice none 0 0)] 0 c4) 0 1)) (sv s48 1) fun t162 =>
  loadP false 1 t162 H fun t163 =>
  idxS 1 t163 (sv s57 1) fun t165 =>
  loadP false 1 t165 H fun t166 =>
  idxS 1 t127 (sv s75 1) fun t169 =>
  loadP false 1 t169 H fun t170 =>
  callV Try.prog (fnV fn_ref01_Same) [t166, t170] H fun t171 H =>
  (loadP false 1 t162 H fun u163 =>
  u163 = t163) ∧
  (K83 [[t171]] H)) False)) fun s83 H =>
  binV (.int .i64) .add (sv s75 1) (.int .i64 1) fun t156 =>
  K75 [[(sv s83 0)], [t156]] H) (
  unV .not (sv s75 0) fun t174 =>
  asB t174 fun b174 =>
  ifB b174 (
  Q (.bool false) H) (
  binV (.int .i64) .add (sv s57 1) (.int .i64 1) fun t122 =>
  K57 [[t131], [t122]] H))) [[t150], [(.int .i64 0)]] H))) False) False) (
  binV (.int .i64) .add (sv s48 1) (.int .i64 1) fun t112 =>
  K48 [[(sv s57 0)], [t112]] H)) False) [[(sv s48 0)], [(.int .i64 0)]] H) (
  JoinPT (fun K92 =>
  asB t25 fun b176 =>
  ifB b176 (
  binV (.int .i64) .neq t68 (.int .i64 0) fun t178 =>
  asB t178 fun b179 =>
  ifB b179 (
  K92 [[(.bool true)]] H) (
  binV (.int .i64) .eql (sv s48 0) t50 fun t182 =>
  K92 [[t182]] H)) (
  undef = undef ∧ (
  undef = undef ∧ (
  undef = undef ∧ (
  K92 [[(.bool false)]] H))))) fun s92 H =>
  Q (sv s92 0) H)) False) [[(.int .i64 0)], [(.int .i64 0)]] H))) False) False) False)
theorem S_law13_HarmCrashes_of {x0_0 : Value} {x0_1 : Value} {x0_2 : Value} {x0_3 : Value} {x0_4 : Value} {x0_5 : Value} {x0_6 : Value} {x0_7 : Value} {x0_8 : Value} {x1_0 : Value} {x2 : Value} {x3 : Value} {H : Heap} {Q : Value → Heap → Prop} (h : S_law13_HarmCrashes x0_0 x0_1 x0_2 x0_3 x0_4 x0_5 x0_6 x0_7 x0_8 x1_0 x2 x3 H Q) : callV Try.prog (fnV fn_law13_HarmCrashes) [(.agg #[x0_0, x0_1, x0_2, x0_3, x0_4, x0_5, x0_6, x0_7, x0_8]), (.agg #[x1_0]), x2, x3] H Q :=
  callV_fn (hcalls_of (pv := [4, 5, 10, 12, 15, 17]) (ann := [(11, [70]), (32, [160]), (35, [16]), (38, [210]), (48, [38, 40]), (57, [38, 42]), (75, [46, 48]), (83, [46]), (92, [16])]) Try.func6 (by kernel_rfl) (Eq.mpr (by kernel_rfl) h))

/-- thimblerig/thimbleriglaw13.spoil -/
def S_law13_spoil (x0_0 : Value) (H : Heap) (Q : Value → Heap → Prop) : Prop :=
  newT H fun H =>
  LoopPT (fun s9 H K9 =>
  lenSl x0_0 H fun t8 =>
  binV (.int .i64) .lss (sv s9 0) t8 fun t9 =>
  asB t9 fun b9 =>
  ifB b9 (
  LoopPT (fun s18 H K18 =>
  idxS 1 x0_0 (sv s9 0) fun t16 =>
  loadP false 1 t16 H fun t17 =>
  lenSl t17 H fun t18 =>
  binV (.int .i64) .lss (sv s18 0) t18 fun t19 =>
  asB t19 fun b19 =>
  ifB b19 (
  LoopPT (fun s27 H K27 =>
  idxS 1 x0_0 (sv s9 0) fun t26 =>
  loadP false 1 t26 H fun t27 =>
  idxS 1 t27 (sv s18 0) fun t29 =>
  loadP false 1 t29 H fun t30 =>
  lenSl t30 H fun t31 =>
  binV (.int .i64) .lss (sv s27 0) t31 fun t32 =>
  asB t32 fun b32 =>
  ifB b32 (
  idxS 1 x0_0 (sv s9 0) fun t38 =>
  loadP false 1 t38 H fun t39 =>
  idxS 1 t39 (sv s18 0) fun t41 =>
  loadP false 1 t41 H fun t42 =>
  idxS 1 x0_0 (sv s9 0) fun t47 =>
  loadP false 1 t47 H fun t48 =>
  idxS 1 t48 (sv s18 0) fun t50 =>
  loadP false 1 t50 H fun t51 =>
  idxS 1 t51 (sv s27 0) fun t53 =>
  loadP false 1 t53 H fun t54 =>
  binV (.int .u8) .add t54 (.int .u8 1) fun t55 =>
  idxS 1 t42 (sv s27 0) fun t56 =>
  storeP false 1 t56 t55 H fun H =>
  binV (.int .i64) .add (sv s27 0) (.int .i64 1) fun t34 =>
  K27 [[t34]] H) (
  binV (.int .i64) .add (sv s18 0) (.int .i64 1) fun t21 =>
  K18 [[t21]] H)) [[(.int .i64 0)]] H) (
  binV (.int .i64) .add (sv s9 0) (.int .i64 1) fun t11 =>
  K9 [[t11]] H)) [[(.int .i64 0)]] H) (
  Q (.tuple #[]) H)) [[(.int .i64 0)]] H
theorem S_law13_spoil_of {x0_0 : Value} {H : Heap} {Q : Value → Heap → Prop} (h : S_law13_spoil x0_0 H Q) : callV Try.prog (fnV fn_law13_spoil) [(.agg #[x0_0])] H Q :=
  callV_fn (hcalls_of (pv := [1]) (ann := [(9, [4]), (18, [6]), (27, [8])]) Try.func17 (by kernel_rfl) (Eq.mpr (by kernel_rfl) h))

/-- thimblerig/thimbleriglaw13.first -/
def S_law13_first (x0_0 : Value) (x0_1 : Value) (x0_2 : Value) (x0_3 : Value) (x0_4 : Value) (x0_5 : Value) (H : Heap) (Q : Value → Heap → Prop) : Prop :=
  newT H fun H =>
  callV Try.prog (fnV fn_law13_one) [] H fun t12 H =>
  callV Try.prog (fnV fn_dev_New) [t12] H fun t13 H =>
  extractV 0 t13 fun t14 =>
  extractV 1 t13 fun t15 =>
  newT H fun H =>
  cellsV true 1 t14 fun c1 =>
  JoinPT (fun K11 =>
  ifB (decide (0 + 1 ≤ ((setSeg [(.slice none 0 0)] 0 c1)).length)) (
  (callV Try.prog (fnV fn_law13_one) [] H fun t17 H =>
  (bldS 3 1 false (zeroL Try.prog 3) 2 [(0, (.int .i64 1)), (1, (.int .i64 1))] H fun t19 H =>
  (callV Try.prog (fnV fn_law13_text) [(.int .u8 120)] H fun t20 H =>
  (callV Try.prog (fnV fn_law13_text) [(.int .u8 121)] H fun t21 H =>
  (bldS 44 1 false (zeroL Try.prog 44) 2 [(0, t20), (1, t21)] H fun t22 H =>
  (callV Try.prog (fnV fn_dev_Write) [t17, (.agg (seg (setSeg [(.slice none 0 0)] 0 c1) 0 1).toArray), (.int .i64 0), t19, t22] H fun t23 H =>
  extractV 0 t23 fun t24 =>
  extractV 1 t23 fun t25 =>
  extractV 2 t23 fun t26 =>
  newT H fun H =>
  cellsV true 1 t24 fun c2 =>
  K11 [(setSeg [(.slice none 0 0)] 0 c2), [t25], [t26]] H) ∧
  (newT H fun H =>
  callV Try.prog (fnV fn_dev_Write) [t17, (.agg (seg (setSeg [(.slice none 0 0)] 0 c1) 0 1).toArray), (.int .i64 0), t19, t22] H fun t23 H =>
  extractV 0 t23 fun t24 =>
  extractV 1 t23 fun t25 =>
  extractV 2 t23 fun t26 =>
  cellsV true 1 t24 fun c3 =>
  K11 [(setSeg [(.slice none 0 0)] 0 c3), [t25], [t26]] H)) ∧
  (newT H fun H =>
  bldS 44 1 false (zeroL Try.prog 44) 2 [(0, t20), (1, t21)] H fun t22 H =>
  callV Try.prog (fnV fn_dev_Write) [t17, (.agg (seg (setSeg [(.slice none 0 0)] 0 c1) 0 1).toArray), (.int .i64 0), t19, t22] H fun t23 H =>
  extractV 0 t23 fun t24 =>
  extractV 1 t23 fun t25 =>
  extractV 2 t23 fun t26 =>
  cellsV true 1 t24 fun c4 =>
  K11 [(setSeg [(.slice none 0 0)] 0 c4), [t25], [t26]] H)) ∧
  (newT H fun H =>
  callV Try.prog (fnV fn_law13_text) [(.int .u8 121)] H fun t21 H =>
  bldS 44 1 false (zeroL Try.prog 44) 2 [(0, t20), (1, t21)] H fun t22 H =>
  callV Try.prog (fnV fn_dev_Write) [t17, (.agg (seg (setSeg [(.slice none 0 0)] 0 c1) 0 1).toArray), (.int .i64 0), t19, t22] H fun t23 H =>
  extractV 0 t23 fun t24 =>
  extractV 1 t23 fun t25 =>
  extractV 2 t23 fun t26 =>
  cellsV true 1 t24 fun c5 =>
  K11 [(setSeg [(.slice none 0 0)] 0 c5), [t25], [t26]] H)) ∧
  (newT H fun H =>
  callV Try.prog (fnV fn_law13_text) [(.int .u8 120)] H fun t20 H =>
  callV Try.prog (fnV fn_law13_text) [(.int .u8 121)] H fun t21 H =>
  bldS 44 1 false (zeroL Try.prog 44) 2 [(0, t20), (1, t21)] H fun t22 H =>
  callV Try.prog (fnV fn_dev_Write) [t17, (.agg (seg (setSeg [(.slice none 0 0)] 0 c1) 0 1).toArray), (.int .i64 0), t19, t22] H fun t23 H =>
  extractV 0 t23 fun t24 =>
  extractV 1 t23 fun t25 =>
  extractV 2 t23 fun t26 =>
  cellsV true 1 t24 fun c6 =>
  K11 [(setSeg [(.slice none 0 0)] 0 c6), [t25], [t26]] H)) ∧
  (callV Try.prog (fnV fn_law13_text) [(.int .u8 120)] H fun t20 H =>
  (bldS 3 1 false (zeroL Try.prog 3) 2 [(0, (.int .i64 1)), (1, (.int .i64 1))] H fun t19 H =>
  (callV Try.prog (fnV fn_law13_text) [(.int .u8 121)] H fun t21 H =>
  (bldS 44 1 false (zeroL Try.prog 44) 2 [(0, t20), (1, t21)] H fun t22 H =>
  (callV Try.prog (fnV fn_dev_Write) [t17, (.agg (seg (setSeg [(.slice none 0 0)] 0 c1) 0 1).toArray), (.int .i64 0), t19, t22] H fun t23 H =>
  extractV 0 t23 fun t24 =>
  extractV 1 t23 fun t25 =>
  extractV 2 t23 fun t26 =>
  newT H fun H =>
  cellsV true 1 t24 fun c7 =>
  K11 [(setSeg [(.slice none 0 0)] 0 c7), [t25], [t26]] H) ∧
  (newT H fun H =>
  callV Try.prog (fnV fn_dev_Write) [t17, (.agg (seg (setSeg [(.slice none 0 0)] 0 c1) 0 1).toArray), (.int .i64 0), t19, t22] H fun t23 H =>
  extractV 0 t23 fun t24 =>
  extractV 1 t23 fun t25 =>
  extractV 2 t23 fun t26 =>
  cellsV true 1 t24 fun c8 =>
  K11 [(setSeg [(.slice none 0 0)] 0 c8), [t25], [t26]] H)) ∧
  (newT H fun H =>
  bldS 44 1 false (zeroL Try.prog 44) 2 [(0, t20), (1, t21)] H fun t22 H =>
  callV Try.prog (fnV fn_dev_Write) [t17, (.agg (seg (setSeg [(.slice none 0 0)] 0 c1) 0 1).toArray), (.int .i64 0), t19, t22] H fun t23 H =>
  extractV 0 t23 fun t24 =>
  extractV 1 t23 fun t25 =>
  extractV 2 t23 fun t26 =>
  cellsV true 1 t24 fun c9 =>
  K11 [(setSeg [(.slice none 0 0)] 0 c9), [t25], [t26]] H)) ∧
  (newT H fun H =>
  callV Try.prog (fnV fn_law13_text) [(.int .u8 121)] H fun t21 H =>
  bldS 44 1 false (zeroL Try.prog 44) 2 [(0, t20), (1, t21)] H fun t22 H =>
  callV Try.prog (fnV fn_dev_Write) [t17, (.agg (seg (setSeg [(.slice none 0 0)] 0 c1) 0 1).toArray), (.int .i64 0), t19, t22] H fun t23 H =>
  extractV 0 t23 fun t24 =>
  extractV 1 t23 fun t25 =>
  extractV 2 t23 fun t26 =>
  cellsV true 1 t24 fun c10 =>
  K11 [(setSeg [(.slice none 0 0)] 0 c10), [t25], [t26]] H)) ∧
  (callV Try.prog (fnV fn_law13_text) [(.int .u8 121)] H fun t21 H =>
  (bldS 3 1 false (zeroL Try.prog 3) 2 [(0, (.int .i64 1)), (1, (.int .i64 1))] H fun t19 H =>
  (bldS 44 1 false (zeroL Try.prog 44) 2 [(0, t20), (1, t21)] H fun t22 H =>
  (callV Try.prog (fnV fn_dev_Write) [t17, (.agg (seg (setSeg [(.slice none 0 0)] 0 c1) 0 1).toArray), (.int .i64 0), t19, t22] H fun t23 H =>
  extractV 0 t23 fun t24 =>
  extractV 1 t23 fun t25 =>
  extractV 2 t23 fun t26 =>
  newT H fun H =>
  cellsV true 1 t24 fun c11 =>
  K11 [(setSeg [(.slice none 0 0)] 0 c11), [t25], [t26]] H) ∧
  (newT H fun H =>
  callV Try.prog (fnV fn_dev_Write) [t17, (.agg (seg (setSeg [(.slice none 0 0)] 0 c1) 0 1).toArray), (.int .i64 0), t19, t22] H fun t23 H =>
  extractV 0 t23 fun t24 =>
  extractV 1 t23 fun t25 =>
  extractV 2 t23 fun t26 =>
  cellsV true 1 t24 fun c12 =>
  K11 [(setSeg [(.slice none 0 0)] 0 c12), [t25], [t26]] H)) ∧
  (newT H fun H =>
  bldS 44 1 false (zeroL Try.prog 44) 2 [(0, t20), (1, t21)] H fun t22 H =>
  callV Try.prog (fnV fn_dev_Write) [t17, (.agg (seg (setSeg [(.slice none 0 0)] 0 c1) 0 1).toArray), (.int .i64 0), t19, t22] H fun t23 H =>
  extractV 0 t23 fun t24 =>
  extractV 1 t23 fun t25 =>
  extractV 2 t23 fun t26 =>
  cellsV true 1 t24 fun c13 =>
  K11 [(setSeg [(.slice none 0 0)] 0 c13), [t25], [t26]] H)) ∧
  (bldS 44 1 false (zeroL Try.prog 44) 2 [(0, t20), (1, t21)] H fun t22 H =>
  (bldS 3 1 false (zeroL Try.prog 3) 2 [(0, (.int .i64 1)), (1, (.int .i64 1))] H fun t19 H =>
  (callV Try.prog (fnV fn_dev_Write) [t17, (.agg (seg (setSeg [(.slice none 0 0)] 0 c1) 0 1).toArray), (.int .i64 0), t19, t22] H fun t23 H =>
  extractV 0 t23 fun t24 =>
  extractV 1 t23 fun t25 =>
  extractV 2 t23 fun t26 =>
  newT H fun H =>
  cellsV true 1 t24 fun c14 =>
  K11 [(setSeg [(.slice none 0 0)] 0 c14), [t25], [t26]] H) ∧
  (newT H fun H =>
  callV Try.prog (fnV fn_dev_Write) [t17, (.agg (seg (setSeg [(.slice none 0 0)] 0 c1) 0 1).toArray), (.int .i64 0), t19, t22] H fun t23 H =>
  extractV 0 t23 fun t24 =>
  extractV 1 t23 fun t25 =>
  extractV 2 t23 fun t26 =>
  cellsV true 1 t24 fun c15 =>
  K11 [(setSeg [(.slice none 0 0)] 0 c15), [t25], [t26]] H)) ∧
  (newT H fun H =>
  bldS 3 1 false (zeroL Try.prog 3) 2 [(0, (.int .i64 1)), (1, (.int .i64 1))] H fun t19 H =>
  callV Try.prog (fnV fn_dev_Write) [t17, (.agg (seg (setSeg [(.slice none 0 0)] 0 c1) 0 1).toArray), (.int .i64 0), t19, t22] H fun t23 H =>
  extractV 0 t23 fun t24 =>
  extractV 1 t23 fun t25 =>
  extractV 2 t23 fun t26 =>
  cellsV true 1 t24 fun c16 =>
  K11 [(setSeg [(.slice none 0 0)] 0 c16), [t25], [t26]] H)) ∧
  (newT H fun H =>
  (bldS 3 1 false (zeroL Try.prog 3) 2 [(0, (.int .i64 1)), (1, (.int .i64 1))] H fun t19 H =>
  bldS 44 1 false (zeroL Try.prog 44) 2 [(0, t20), (1, t21)] H fun t22 H =>
  callV Try.prog (fnV fn_dev_Write) [t17, (.agg (seg (setSeg [(.slice none 0 0)] 0 c1) 0 1).toArray), (.int .i64 0), t19, t22] H fun t23 H =>
  extractV 0 t23 fun t24 =>
  extractV 1 t23 fun t25 =>
  extractV 2 t23 fun t26 =>
  cellsV true 1 t24 fun c17 =>
  K11 [(setSeg [(.slice none 0 0)] 0 c17), [t25], [t26]] H) ∧
  (bldS 44 1 false (zeroL Try.prog 44) 2 [(0, t20), (1, t21)] H fun t22 H =>
  bldS 3 1 false (zeroL Try.prog 3) 2 [(0, (.int .i64 1)), (1, (.int .i64 1))] H fun t19 H =>
  callV Try.prog (fnV fn_dev_Write) [t17, (.agg (seg (setSeg [(.slice none 0 0)] 0 c1) 0 1).toArray), (.int .i64 0), t19, t22] H fun t23 H =>
  extractV 0 t23 fun t24 =>
  extractV 1 t23 fun t25 =>
  extractV 2 t23 fun t26 =>
  cellsV true 1 t24 fun c18 =>
  K11 [(setSeg [(.slice none 0 0)] 0 c18), [t25], [t26]] H))) ∧
  (newT H fun H =>
  (bldS 3 1 false (zeroL Try.prog 3) 2 [(0, (.int .i64 1)), (1, (.int .i64 1))] H fun t19 H =>
  callV Try.prog (fnV fn_law13_text) [(.int .u8 121)] H fun t21 H =>
  bldS 44 1 false (zeroL Try.prog 44) 2 [(0, t20), (1, t21)] H fun t22 H =>
  callV Try.prog (fnV fn_dev_Write) [t17, (.agg (seg (setSeg [(.slice none 0 0)] 0 c1) 0 1).toArray), (.int .i64 0), t19, t22] H fun t23 H =>
  extractV 0 t23 fun t24 =>
  extractV 1 t23 fun t25 =>
  extractV 2 t23 fun t26 =>
  cellsV true 1 t24 fun c19 =>
  K11 [(setSeg [(.slice none 0 0)] 0 c19), [t25], [t26]] H) ∧
  (callV Try.prog (fnV fn_law13_text) [(.int .u8 121)] H fun t21 H =>
  (bldS 3 1 false (zeroL Try.prog 3) 2 [(0, (.int .i64 1)), (1, (.int .i64 1))] H fun t19 H =>
  bldS 44 1 false (zeroL Try.prog 44) 2 [(0, t20), (1, t21)] H fun t22 H =>
  callV Try.prog (fnV fn_dev_Write) [t17, (.agg (seg (setSeg [(.slice none 0 0)] 0 c1) 0 1).toArray), (.int .i64 0), t19, t22] H fun t23 H =>
  extractV 0 t23 fun t24 =>
  extractV 1 t23 fun t25 =>
  extractV 2 t23 fun t26 =>
  cellsV true 1 t24 fun c20 =>
  K11 [(setSeg [(.slice none 0 0)] 0 c20), [t25], [t26]] H) ∧
  (bldS 44 1 false (zeroL Try.prog 44) 2 [(0, t20), (1, t21)] H fun t22 H =>
  bldS 3 1 false (zeroL Try.prog 3) 2 [(0, (.int .i64 1)), (1, (.int .i64 1))] H fun t19 H =>
  callV Try.prog (fnV fn_dev_Write) [t17, (.agg (seg (setSeg [(.slice none 0 0)] 0 c1) 0 1).toArray), (.int .i64 0), t19, t22] H fun t23 H =>
  extractV 0 t23 fun t24 =>
  extractV 1 t23 fun t25 =>
  extractV 2 t23 fun t26 =>
  cellsV true 1 t24 fun c21 =>
  K11 [(setSeg [(.slice none 0 0)] 0 c21), [t25], [t26]] H)))) ∧
  (newT H fun H =>
  (bldS 3 1 false (zeroL Try.prog 3) 2 [(0, (.int .i64 1)), (1, (.int .i64 1))] H fun t19 H =>
  callV Try.prog (fnV fn_law13_text) [(.int .u8 120)] H fun t20 H =>
  callV Try.prog (fnV fn_law13_text) [(.int .u8 121)] H fun t21 H =>
  bldS 44 1 false (zeroL Try.prog 44) 2 [(0, t20), (1, t21)] H fun t22 H =>
  callV Try.prog (fnV fn_dev_Write) [t17, (.agg (seg (setSeg [(.slice none 0 0)] 0 c1) 0 1).toArray), (.int .i64 0), t19, t22] H fun t23 H =>
  extractV 0 t23 fun t24 =>
  extractV 1 t23 fun t25 =>
  extractV 2 t23 fun t26 =>
  cellsV true 1 t24 fun c22 =>
  K11 [(setSeg [(.slice none 0 0)] 0 c22), [t25], [t26]] H) ∧
  (callV Try.prog (fnV fn_law13_text) [(.int .u8 120)] H fun t20 H =>
  (bldS 3 1 false (zeroL Try.prog 3) 2 [(0, (.int .i64 1)), (1, (.int .i64 1))] H fun t19 H =>
  callV Try.prog (fnV fn_law13_text) [(.int .u8 121)] H fun t21 H =>
  bldS 44 1 false (zeroL Try.prog 44) 2 [(0, t20), (1, t21)] H fun t22 H =>
  callV Try.prog (fnV fn_dev_Write) [t17, (.agg (seg (setSeg [(.slice none 0 0)] 0 c1) 0 1).toArray), (.int .i64 0), t19, t22] H fun t23 H =>
  extractV 0 t23 fun t24 =>
  extractV 1 t23 fun t25 =>
  extractV 2 t23 fun t26 =>
  cellsV true 1 t24 fun c23 =>
  K11 [(setSeg [(.slice none 0 0)] 0 c23), [t25], [t26]] H) ∧
  (callV Try.prog (fnV fn_law13_text) [(.int .u8 121)] H fun t21 H =>
  (bldS 3 1 false (zeroL Try.prog 3) 2 [(0, (.int .i64 1)), (1, (.int .i64 1))] H fun t19 H =>
  bldS 44 1 false (zeroL Try.prog 44) 2 [(0, t20), (1, t21)] H fun t22 H =>
  callV Try.prog (fnV fn_dev_Write) [t17, (.agg (seg (setSeg [(.slice none 0 0)] 0 c1) 0 1).toArray), (.int .i64 0), t19, t22] H fun t23 H =>
  extractV 0 t23 fun t24 =>
  extractV 1 t23 fun t25 =>
  extractV 2 t23 fun t26 =>
  cellsV true 1 t24 fun c24 =>
  K11 [(setSeg [(.slice none 0 0)] 0 c24), [t25], [t26]] H) ∧
  (bldS 44 1 false (zeroL Try.prog 44) 2 [(0, t20), (1, t21)] H fun t22 H =>
  bldS 3 1 false (zeroL Try.prog 3) 2 [(0, (.int .i64 1)), (1, (.int .i64 1))] H fun t19 H =>
  callV Try.prog (fnV fn_dev_Write) [t17, (.agg (seg (setSeg [(.slice none 0 0)] 0 c1) 0 1).toArray), (.int .i64 0), t19, t22] H fun t23 H =>
  extractV 0 t23 fun t24 =>
  extractV 1 t23 fun t25 =>
  extractV 2 t23 fun t26 =>
  cellsV true 1 t24 fun c25 =>
  K11 [(setSeg [(.slice none 0 0)] 0 c25), [t25], [t26]] H))))) ∧
  (bldS 3 1 false (zeroL Try.prog 3) 2 [(0, (.int .i64 1)), (1, (.int .i64 1))] H fun t19 H =>
  (callV Try.prog (fnV fn_law13_one) [] H fun t17 H =>
  (callV Try.prog (fnV fn_law13_text) [(.int .u8 120)] H fun t20 H =>
  (callV Try.prog (fnV fn_law13_text) [(.int .u8 121)] H fun t21 H =>
  (bldS 44 1 false (zeroL Try.prog 44) 2 [(0, t20), (1, t21)] H fun t22 H =>
  (callV Try.prog (fnV fn_dev_Write) [t17, (.agg (seg (setSeg [(.slice none 0 0)] 0 c1) 0 1).toArray), (.int .i64 0), t19, t22] H fun t23 H =>
  extractV 0 t23 fun t24 =>
  extractV 1 t23 fun t25 =>
  extractV 2 t23 fun t26 =>
  newT H fun H =>
  cellsV true 1 t24 fun c26 =>
  K11 [(setSeg [(.slice none 0 0)] 0 c26), [t25], [t26]] H) ∧
  (newT H fun H =>
  callV Try.prog (fnV fn_dev_Write) [t17, (.agg (seg (setSeg [(.slice none 0 0)] 0 c1) 0 1).toArray), (.int .i64 0), t19, t22] H fun t23 H =>
  extractV 0 t23 fun t24 =>
  extractV 1 t23 fun t25 =>
  extractV 2 t23 fun t26 =>
  cellsV true 1 t24 fun c27 =>
  K11 [(setSeg [(.slice none 0 0)] 0 c27), [t25], [t26]] H)) ∧
  (newT H fun H =>
  bldS 44 1 false (zeroL Try.prog 44) 2 [(0, t20), (1, t21)] H fun t22 H =>
  callV Try.prog (fnV fn_dev_Write) [t17, (.agg (seg (setSeg [(.slice none 0 0)] 0 c1) 0 1).toArray), (.int .i64 0), t19, t22] H fun t23 H =>
  extractV 0 t23 fun t24 =>
  extractV 1 t23 fun t25 =>
  extractV 2 t23 fun t26 =>
  cellsV true 1 t24 fun c28 =>
  K11 [(setSeg [(.slice none 0 0)] 0 c28), [t25], [t26]] H)) ∧
  (newT H fun H =>
  callV Try.prog (fnV fn_law13_text) [(.int .u8 121)] H fun t21 H =>
  bldS 44 1 false (zeroL Try.prog 44) 2 [(0, t20), (1, t21)] H fun t22 H =>
  callV Try.prog (fnV fn_dev_Write) [t17, (.agg (seg (setSeg [(.slice none 0 0)] 0 c1) 0 1).toArray), (.int .i64 0), t19, t22] H fun t23 H =>
  extractV 0 t23 fun t24 =>
  extractV 1 t23 fun t25 =>
  extractV 2 t23 fun t26 =>
  cellsV true 1 t24 fun c29 =>
  K11 [(setSeg [(.slice none 0 0)] 0 c29), [t25], [t26]] H)) ∧
  (newT H fun H =>
  callV Try.prog (fnV fn_law13_text) [(.int .u8 120)] H fun t20 H =>
  callV Try.prog (fnV fn_law13_text) [(.int .u8 121)] H fun t21 H =>
  bldS 44 1 false (zeroL Try.prog 44) 2 [(0, t20), (1, t21)] H fun t22 H =>
  callV Try.prog (fnV fn_dev_Write) [t17, (.agg (seg (setSeg [(.slice none 0 0)] 0 c1) 0 1).toArray), (.int .i64 0), t19, t22] H fun t23 H =>
  extractV 0 t23 fun t24 =>
  extractV 1 t23 fun t25 =>
  extractV 2 t23 fun t26 =>
  cellsV true 1 t24 fun c30 =>
  K11 [(setSeg [(.slice none 0 0)] 0 c30), [t25], [t26]] H)) ∧
  (newT H fun H =>
  callV Try.prog (fnV fn_law13_one) [] H fun t17 H =>
  callV Try.prog (fnV fn_law13_text) [(.int .u8 120)] H fun t20 H =>
  callV Try.prog (fnV fn_law13_text) [(.int .u8 121)] H fun t21 H =>
  bldS 44 1 false (zeroL Try.prog 44) 2 [(0, t20), (1, t21)] H fun t22 H =>
  callV Try.prog (fnV fn_dev_Write) [t17, (.agg (seg (setSeg [(.slice none 0 0)] 0 c1) 0 1).toArray), (.int .i64 0), t19, t22] H fun t23 H =>
  extractV 0 t23 fun t24 =>
  extractV 1 t23 fun t25 =>
  extractV 2 t23 fun t26 =>
  cellsV true 1 t24 fun c31 =>
  K11 [(setSeg [(.slice none 0 0)] 0 c31), [t25], [t26]] H)) ∧
  (newT H fun H =>
  (callV Try.prog (fnV fn_law13_one) [] H fun t17 H =>
  (bldS 3 1 false (zeroL Try.prog 3) 2 [(0, (.int .i64 1)), (1, (.int .i64 1))] H fun t19 H =>
  callV Try.prog (fnV fn_law13_text) [(.int .u8 120)] H fun t20 H =>
  callV Try.prog (fnV fn_law13_text) [(.int .u8 121)] H fun t21 H =>
  bldS 44 1 false (zeroL Try.prog 44) 2 [(0, t20), (1, t21)] H fun t22 H =>
  callV Try.prog (fnV fn_dev_Write) [t17, (.agg (seg (setSeg [(.slice none 0 0)] 0 c1) 0 1).toArray), (.int .i64 0), t19, t22] H fun t23 H =>
  extractV 0 t23 fun t24 =>
  extractV 1 t23 fun t25 =>
  extractV 2 t23 fun t26 =>
  cellsV true 1 t24 fun c32 =>
  K11 [(setSeg [(.slice none 0 0)] 0 c32), [t25], [t26]] H) ∧
  (callV Try.prog (fnV fn_law13_text) [(.int .u8 120)] H fun t20 H =>
  (bldS 3 1 false (zeroL Try.prog 3) 2 [(0, (.int .i64 1)), (1, (.int .i64 1))] H fun t19 H =>
  callV Try.prog (fnV fn_law13_text) [(.int .u8 121)] H fun t21 H =>
  bldS 44 1 false (zeroL Try.prog 44) 2 [(0, t20), (1, t21)] H fun t22 H =>
  callV Try.prog (fnV fn_dev_Write) [t17, (.agg (seg (setSeg [(.slice none 0 0)] 0 c1) 0 1).toArray), (.int .i64 0), t19, t22] H fun t23 H =>
  extractV 0 t23 fun t24 =>
  extractV 1 t23 fun t25 =>
  extractV 2 t23 fun t26 =>
  cellsV true 1 t24 fun c33 =>
  K11 [(setSeg [(.slice none 0 0)] 0 c33), [t25], [t26]] H) ∧
  (callV Try.prog (fnV fn_law13_text) [(.int .u8 121)] H fun t21 H =>
  (bldS 3 1 false (zeroL Try.prog 3) 2 [(0, (.int .i64 1)), (1, (.int .i64 1))] H fun t19 H =>
  bldS 44 1 false (zeroL Try.prog 44) 2 [(0, t20), (1, t21)] H fun t22 H =>
  callV Try.prog (fnV fn_dev_Write) [t17, (.agg (seg (setSeg [(.slice none 0 0)] 0 c1) 0 1).toArray), (.int .i64 0), t19, t22] H fun t23 H =>
  extractV 0 t23 fun t24 =>
  extractV 1 t23 fun t25 =>
  extractV 2 t23 fun t26 =>
  cellsV true 1 t24 fun c34 =>
  K11 [(setSeg [(.slice none 0 0)] 0 c34), [t25], [t26]] H) ∧
  (bldS 44 1 false (zeroL Try.prog 44) 2 [(0, t20), (1, t21)] H fun t22 H =>
  bldS 3 1 false (zeroL Try.prog 3) 2 [(0, (.int .i64 1)), (1, (.int .i64 1))] H fun t19 H =>
  callV Try.prog (fnV fn_dev_Write) [t17, (.agg (seg (setSeg [(.slice none 0 0)] 0 c1) 0 1).toArray), (.int .i64 0), t19, t22] H fun t23 H =>
  extractV 0 t23 fun t24 =>
  extractV 1 t23 fun t25 =>
  extractV 2 t23 fun t26 =>
  cellsV true 1 t24 fun c35 =>
  K11 [(setSeg [(.slice none 0 0)] 0 c35), [t25], [t26]] H)))) ∧
  (bldS 3 1 false (zeroL Try.prog 3) 2 [(0, (.int .i64 1)), (1, (.int .i64 1))] H fun t19 H =>
  callV Try.prog (fnV fn_law13_one) [] H fun t17 H =>
  callV Try.prog (fnV fn_law13_text) [(.int .u8 120)] H fun t20 H =>
  callV Try.prog (fnV fn_law13_text) [(.int .u8 121)] H fun t21 H =>
  bldS 44 1 false (zeroL Try.prog 44) 2 [(0, t20), (1, t21)] H fun t22 H =>
  callV Try.prog (fnV fn_dev_Write) [t17, (.agg (seg (setSeg [(.slice none 0 0)] 0 c1) 0 1).toArray), (.int .i64 0), t19, t22] H fun t23 H =>
  extractV 0 t23 fun t24 =>
  extractV 1 t23 fun t25 =>
  extractV 2 t23 fun t26 =>
  cellsV true 1 t24 fun c36 =>
  K11 [(setSeg [(.slice none 0 0)] 0 c36), [t25], [t26]] H))) False) fun s11 H =>
  JoinPT (fun K14 =>
  ifB (decide (0 + 1 ≤ ((sc s11 0)).length)) (
  (callV Try.prog (fnV fn_law13_one) [] H fun t28 H =>
  (callV Try.prog (fnV fn_harm_Do) [t28, (.agg (seg (sc s11 0) 0 1).toArray), (sv s11 1), (.agg #[x0_0, x0_1, x0_2, x0_3, x0_4, x0_5])] H fun t32 H =>
  extractV 0 t32 fun t33 =>
  extractV 1 t32 fun t34 =>
  newT H fun H =>
  cellsV true 1 t33 fun c37 =>
  K14 [(setSeg [(.slice none 0 0)] 0 c37), [t34]] H) ∧
  (newT H fun H =>
  callV Try.prog (fnV fn_harm_Do) [t28, (.agg (seg (sc s11 0) 0 1).toArray), (sv s11 1), (.agg #[x0_0, x0_1, x0_2, x0_3, x0_4, x0_5])] H fun t32 H =>
  extractV 0 t32 fun t33 =>
  extractV 1 t32 fun t34 =>
  cellsV true 1 t33 fun c38 =>
  K14 [(setSeg [(.slice none 0 0)] 0 c38), [t34]] H)) ∧
  (newT H fun H =>
  callV Try.prog (fnV fn_law13_one) [] H fun t28 H =>
  callV Try.prog (fnV fn_harm_Do) [t28, (.agg (seg (sc s11 0) 0 1).toArray), (sv s11 1), (.agg #[x0_0, x0_1, x0_2, x0_3, x0_4, x0_5])] H fun t32 H =>
  extractV 0 t32 fun t33 =>
  extractV 1 t32 fun t34 =>
  cellsV true 1 t33 fun c39 =>
  K14 [(setSeg [(.slice none 0 0)] 0 c39), [t34]] H)) False) fun s14 H =>
  JoinPT (fun K17 =>
  binV (.int .i64) .neq t15 (.int .i64 0) fun t36 =>
  asB t36 fun b37 =>
  ifB b37 (
  K17 [[(.bool true)]] H) (
  binV (.int .i64) .neq (sv s11 2) (.int .i64 0) fun t39 =>
  asB t39 fun b41 =>
  ifB b41 (
  K17 [[(.bool true)]] H) (
  binV (.int .i64) .neq (sv s14 1) (.int .i64 0) fun t43 =>
  asB t43 fun b45 =>
  ifB b45 (
  K17 [[(.bool true)]] H) (
  ifB (decide (0 + 1 ≤ ((sc s14 0)).length)) (
  lenSl (mkV false (seg (sc s14 0) 0 1)) H fun t48 =>
  binV (.int .i64) .neq t48 (.int .i64 1) fun t49 =>
  asB t49 fun b51 =>
  ifB b51 (
  K17 [[(.bool true)]] H) (
  ifB (decide (0 + 1 ≤ ((sc s14 0)).length)) (
  idxS 1 (mkV false (seg (sc s14 0) 0 1)) (.int .i64 0) fun t54 =>
  loadP false 1 t54 H fun t55 =>
  lenSl t55 H fun t56 =>
  binV (.int .i64) .neq t56 (.int .i64 3) fun t57 =>
  K17 [[t57]] H) False)) False)))) fun s17 H =>
  asB (sv s17 0) fun b58 =>
  ifB b58 (
  Q (.tuple #[(.slice none 0 0), (sv s14 1)]) H) (
  ifB (decide (0 + 1 ≤ ((sc s14 0)).length)) (
  idxS 1 (mkV false (seg (sc s14 0) 0 1)) (.int .i64 0) fun t62 =>
  loadP false 1 t62 H fun t63 =>
  idxS 1 t63 (.int .i64 0) fun t64 =>
  loadP false 1 t64 H fun t65 =>
  Q (.tuple #[t65, (.int .i64 0)]) H) False)
theorem S_law13_first_of {x0_0 : Value} {x0_1 : Value} {x0_2 : Value} {x0_3 : Value} {x0_4 : Value} {x0_5 : Value} {H : Heap} {Q : Value → Heap → Prop} (h : S_law13_first x0_0 x0_1 x0_2 x0_3 x0_4 x0_5 H Q) : callV Try.prog (fnV fn_law13_first) [(.agg #[x0_0, x0_1, x0_2, x0_3, x0_4, x0_5])] H Q :=
  callV_fn (hcalls_of (pv := [1, 4, 6, 9]) (ann := [(11, [13, 14, 16]), (14, [19, 20]), (17, [116])]) Try.func19 (by kernel_rfl) (Eq.mpr (by kernel_rfl) h))

/-- thimblerig/thimbleriglaw13.text -/
def S_law13_text (x0 : Value) (H : Heap) (Q : Value → Heap → Prop) : Prop :=
  mkS 5 1 1 (zeroL Try.prog 5) (.int .i64 81) (.int .i64 81) H fun t5 H =>
  LoopPT (fun s12 H K12 =>
  lenSl t5 H fun t8 =>
  binV (.int .i64) .lss (sv s12 0) t8 fun t9 =>
  asB t9 fun b9 =>
  ifB b9 (
  idxS 1 t5 (sv s12 0) fun t15 =>
  storeP false 1 t15 x0 H fun H =>
  binV (.int .i64) .add (sv s12 0) (.int .i64 1) fun t11 =>
  K12 [[t11]] H) (
  Q t5 H)) [[(.int .i64 0)]] H
theorem S_law13_text_of {x0 : Value} {H : Heap} {Q : Value → Heap → Prop} (h : S_law13_text x0 H Q) : callV Try.prog (fnV fn_law13_text) [x0] H Q :=
  callV_fn (hcalls_of (pv := []) (ann := [(12, [8])]) Try.func20 (by kernel_rfl) (Eq.mpr (by kernel_rfl) h))

/-- thimblerig/thimbleriglaw13.leaves -/
def S_law13_leaves (x0_0 : Value) (x0_1 : Value) (x0_2 : Value) (x0_3 : Value) (x0_4 : Value) (x0_5 : Value) (x1 : Value) (H : Heap) (Q : Value → Heap → Prop) : Prop :=
  newT H fun H =>
  callV Try.prog (fnV fn_law13_first) [(.agg #[x0_0, x0_1, x0_2, x0_3, x0_4, x0_5])] H fun t9 H =>
  extractV 0 t9 fun t10 =>
  extractV 1 t9 fun t11 =>
  JoinPT (fun K11 =>
  binV (.int .i64) .eql t11 (.int .i64 0) fun t13 =>
  asB t13 fun b14 =>
  ifB b14 (
  callV Try.prog (fnV fn_ref01_Same) [t10, x1] H fun t17 H =>
  K11 [[t17]] H) (
  K11 [[(.bool false)]] H)) fun s11 H =>
  Q (sv s11 0) H
theorem S_law13_leaves_of {x0_0 : Value} {x0_1 : Value} {x0_2 : Value} {x0_3 : Value} {x0_4 : Value} {x0_5 : Value} {x1 : Value} {H : Heap} {Q : Value → Heap → Prop} (h : S_law13_leaves x0_0 x0_1 x0_2 x0_3 x0_4 x0_5 x1 H Q) : callV Try.prog (fnV fn_law13_leaves) [(.agg #[x0_0, x0_1, x0_2, x0_3, x0_4, x0_5]), x1] H Q :=
  callV_fn (hcalls_of (pv := [2]) (ann := [(11, [8])]) Try.func21 (by kernel_rfl) (Eq.mpr (by kernel_rfl) h))

/-- thimblerig/thimbleriglaw13.alive -/
def S_law13_alive  (H : Heap) (Q : Value → Heap → Prop) : Prop :=
  JoinPT (fun K8 =>
  callV Try.prog (fnV fn_law13_text) [(.int .u8 120)] H fun t2 H =>
  callV Try.prog (fnV fn_law13_leaves) [(.agg #[(.int .u8 3), (.int .i64 0), (.int .i64 1), (.int .i64 0), (.int .i64 0), (.int .u8 0)]), t2] H fun t3 H =>
  asB t3 fun b4 =>
  ifB b4 (
  callV Try.prog (fnV fn_law13_text) [(.int .u8 120)] H fun t6 H =>
  callV Try.prog (fnV fn_law13_leaves) [(.agg #[(.int .u8 4), (.int .i64 0), (.int .i64 1), (.int .i64 0), (.int .i64 0), (.int .u8 0)]), t6] H fun t7 H =>
  asB t7 fun b9 =>
  ifB b9 (
  callV Try.prog (fnV fn_law13_text) [(.int .u8 120)] H fun t11 H =>
  callV Try.prog (fnV fn_law13_leaves) [(.agg #[(.int .u8 5), (.int .i64 0), (.int .i64 0), (.int .i64 0), (.int .i64 1), (.int .u8 0)]), t11] H fun t12 H =>
  K8 [[t12]] H) (
  K8 [[(.bool false)]] H)) (
  K8 [[(.bool false)]] H)) fun s8 H =>
  Q (sv s8 0) H
theorem S_law13_alive_of  {H : Heap} {Q : Value → Heap → Prop} (h : S_law13_alive H Q) : callV Try.prog (fnV fn_law13_alive) [] H Q :=
  callV_fn (hcalls_of (pv := []) (ann := [(8, [0])]) Try.func22 (by kernel_rfl) (Eq.mpr (by kernel_rfl) h))

/-- thimblerig/thimbleriglaw13.one -/
def S_law13_one  (H : Heap) (Q : Value → Heap → Prop) : Prop :=
  newT H fun H =>
  Q (.agg #[(.int .i64 2), (.int .i64 1), (.int .i64 2), (.int .i64 1), (.int .i64 4), (.int .i64 1), (.int .i64 1), (.int .i64 1), (.int .i64 2)]) H
theorem S_law13_one_of  {H : Heap} {Q : Value → Heap → Prop} (h : S_law13_one H Q) : callV Try.prog (fnV fn_law13_one) [] H Q :=
  callV_fn (hcalls_of (pv := [0]) (ann := []) Try.func40 (by kernel_rfl) (Eq.mpr (by kernel_rfl) h))

end Go.Proofs.Ytelfpkegpffajaa
