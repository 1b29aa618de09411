/- Written by sh.py: what functions do, out of the deep reading; each is joined to the program by the kernel. -/
import Derived.Test.YtccdoecccaocjaaShNames
namespace Go.Proofs.Ytccdoecccaocjaa
open Go.Ab
set_option linter.unusedVariables false
set_option linter.unusedSimpArgs false
set_option maxRecDepth 100000

/-- thimblerig/thimbleriglaw16.StashOrder -/
def S_law16_StashOrder (x0_0 : Value) (x0_1 : Value) (x0_2 : Value) (x0_3 : Value) (x1 : Value) (x2_0 : Value) (x2_1 : Value) (x2_2 : Value) (x3_0 : Value) (x3_1 : Value) (x3_2 : Value) (H : Heap) (Q : Value → Heap → Prop) : Prop :=
  newT H fun H =>
  newT H fun H =>
  newT H fun H =>
  callV Try.prog (fnV fn_law16_alive) [] H fun t18 H =>
  JoinPT (fun K11 =>
  callV Try.prog (fnV fn_ref09_Great) [x1, (.int .i64 40)] H fun t20 H =>
  asB t20 fun b21 =>
  ifB b21 (
  K11 [[(.bool true)]] H) (
  lenSl x2_2 H fun t24 =>
  binV (.int .i64) .gtr t24 (.int .i64 1000) fun t25 =>
  asB t25 fun b27 =>
  ifB b27 (
  K11 [[(.bool true)]] H) (
  lenSl x3_2 H fun t30 =>
  binV (.int .i64) .gtr t30 (.int .i64 1000) fun t31 =>
  asB t31 fun b33 =>
  ifB b33 (
  K11 [[(.bool true)]] H) (
  unV .not t18 fun t35 =>
  K11 [[t35]] H)))) fun s11 H =>
  asB (sv s11 0) fun b36 =>
  ifB b36 (
  Q t18 H) (
  bldS 27 3 true (zeroL Try.prog 27) 2 [(0, (.agg #[x2_0, x2_1, x2_2])), (1, (.agg #[x3_0, x3_1, x3_2]))] H fun t43 H =>
  callV Try.prog (fnV fn_stash_Add) [(.agg #[x0_0, x0_1, x0_2, x0_3]), x1, t43] H fun t44 H =>
  extractV 0 t44 fun t45 =>
  extractV 1 t44 fun t46 =>
  bldS 27 3 true (zeroL Try.prog 27) 2 [(0, (.agg #[x3_0, x3_1, x3_2])), (1, (.agg #[x2_0, x2_1, x2_2]))] H fun t52 H =>
  callV Try.prog (fnV fn_stash_Add) [(.agg #[x0_0, x0_1, x0_2, x0_3]), x1, t52] H fun t53 H =>
  extractV 0 t53 fun t54 =>
  extractV 1 t53 fun t55 =>
  bldS 27 3 true (zeroL Try.prog 27) 1 [(0, (.agg #[x2_0, x2_1, x2_2]))] H fun t60 H =>
  callV Try.prog (fnV fn_stash_Add) [(.agg #[x0_0, x0_1, x0_2, x0_3]), x1, t60] H fun t61 H =>
  extractV 0 t61 fun t62 =>
  extractV 1 t61 fun t63 =>
  bldS 27 3 true (zeroL Try.prog 27) 1 [(0, (.agg #[x3_0, x3_1, x3_2]))] H fun t68 H =>
  callV Try.prog (fnV fn_stash_Add) [(.agg #[x0_0, x0_1, x0_2, x0_3]), t62, t68] H fun t69 H =>
  extractV 0 t69 fun t70 =>
  extractV 1 t69 fun t71 =>
  binV (.int .i64) .neq t46 (.int .i64 0) fun t73 =>
  asB t73 fun b73 =>
  ifB b73 (
  JoinPT (fun K32 =>
  asB t18 fun b75 =>
  ifB b75 (
  binV (.int .i64) .eql t55 t46 fun t78 =>
  asB t78 fun b80 =>
  ifB b80 (
  binV (.int .i64) .neq t63 (.int .i64 0) fun t82 =>
  asB t82 fun b83 =>
  ifB b83 (
  K32 [[(.bool true)]] H) (
  binV (.int .i64) .neq t71 (.int .i64 0) fun t85 =>
  K32 [[t85]] H)) (
  undef = undef ∧ (
  undef = undef ∧ (
  K32 [[(.bool false)]] H)))) (
  undef = undef ∧ (
  undef = undef ∧ (
  K32 [[(.bool false)]] H)))) fun s32 H =>
  Q (sv s32 0) H) (
  JoinPT (fun K35 =>
  asB t18 fun b89 =>
  ifB b89 (
  binV (.int .i64) .eql t55 (.int .i64 0) fun t91 =>
  asB t91 fun b93 =>
  ifB b93 (
  binV (.int .i64) .eql t63 (.int .i64 0) fun t95 =>
  asB t95 fun b97 =>
  ifB b97 (
  binV (.int .i64) .eql t71 (.int .i64 0) fun t99 =>
  asB t99 fun b101 =>
  ifB b101 (
  callV Try.prog (fnV fn_ref09_SameAll) [t45, t54] H fun t104 H =>
  asB t104 fun b106 =>
  ifB b106 (
  callV Try.prog (fnV fn_ref09_SameAll) [t45, t70] H fun t109 H =>
  asB t109 fun b111 =>
  ifB b111 (
  lenSl t45 H fun t113 =>
  lenSl x1 H fun t115 =>
  binV (.int .i64) .add t115 (.int .i64 2) fun t116 =>
  binV (.int .i64) .eql t113 t116 fun t117 =>
  asB t117 fun b119 =>
  ifB b119 (
  callV Try.prog (fnV fn_stash_Check) [(.agg #[x0_0, x0_1, x0_2, x0_3]), t45] H fun t122 H =>
  binV (.int .i64) .eql t122 (.int .i64 0) fun t123 =>
  K35 [[t123]] H) (
  K35 [[(.bool false)]] H)) (
  K35 [[(.bool false)]] H)) (
  K35 [[(.bool false)]] H)) (
  K35 [[(.bool false)]] H)) (
  K35 [[(.bool false)]] H)) (
  K35 [[(.bool false)]] H)) (
  K35 [[(.bool false)]] H)) fun s35 H =>
  Q (sv s35 0) H))
theorem S_law16_StashOrder_of {x0_0 : Value} {x0_1 : Value} {x0_2 : Value} {x0_3 : Value} {x1 : Value} {x2_0 : Value} {x2_1 : Value} {x2_2 : Value} {x3_0 : Value} {x3_1 : Value} {x3_2 : Value} {H : Heap} {Q : Value → Heap → Prop} (h : S_law16_StashOrder x0_0 x0_1 x0_2 x0_3 x1 x2_0 x2_1 x2_2 x3_0 x3_1 x3_2 H Q) : callV Try.prog (fnV fn_law16_StashOrder) [(.agg #[x0_0, x0_1, x0_2, x0_3]), x1, (.agg #[x2_0, x2_1, x2_2]), (.agg #[x3_0, x3_1, x3_2])] H Q :=
  callV_fn (hcalls_of (pv := [4, 6, 7]) (ann := [(11, [72]), (32, [16]), (35, [16])]) Try.func3 (by kernel_rfl) (Eq.mpr (by kernel_rfl) h))

/-- thimblerig/thimbleriglaw16.StashBack -/
def S_law16_StashBack (x0_0 : Value) (x0_1 : Value) (x0_2 : Value) (x0_3 : Value) (x1 : Value) (x2_0 : Value) (x2_1 : Value) (x2_2 : Value) (x3 : Value) (H : Heap) (Q : Value → Heap → Prop) : Prop :=
  newT H fun H =>
  newT H fun H =>
  callV Try.prog (fnV fn_law16_alive) [] H fun t22 H =>
  JoinPT (fun K11 =>
  callV Try.prog (fnV fn_ref09_Great) [x1, (.int .i64 40)] H fun t24 H =>
  asB t24 fun b25 =>
  ifB b25 (
  K11 [[(.bool true)]] H) (
  lenSl x2_2 H fun t28 =>
  binV (.int .i64) .gtr t28 (.int .i64 1000) fun t29 =>
  asB t29 fun b31 =>
  ifB b31 (
  K11 [[(.bool true)]] H) (
  unV .not t22 fun t33 =>
  K11 [[t33]] H))) fun s11 H =>
  asB (sv s11 0) fun b34 =>
  ifB b34 (
  Q t22 H) (
  callV Try.prog (fnV fn_stash_Put) [(.agg #[x0_0, x0_1, x0_2, x0_3]), x1, (.agg #[x2_0, x2_1, x2_2])] H fun t40 H =>
  extractV 0 t40 fun t41 =>
  extractV 1 t40 fun t42 =>
  binV (.int .i64) .neq t42 (.int .i64 0) fun t44 =>
  asB t44 fun b44 =>
  ifB b44 (
  JoinPT (fun K23 =>
  asB t22 fun b46 =>
  ifB b46 (
  lenSl t41 H fun t48 =>
  binV (.int .i64) .eql t48 (.int .i64 0) fun t49 =>
  K23 [[t49]] H) (
  K23 [[(.bool false)]] H)) fun s23 H =>
  Q (sv s23 0) H) (
  callV Try.prog (fnV fn_stash_Find) [(.agg #[x0_0, x0_1, x0_2, x0_3]), t41, x2_0] H fun t56 H =>
  extractV 0 t56 fun t57 =>
  extractV 1 t56 fun t58 =>
  newT H fun H =>
  cellsV true 3 t57 fun c1 =>
  callV Try.prog (fnV fn_stash_Find) [(.agg #[x0_0, x0_1, x0_2, x0_3]), x1, x2_0] H fun t64 H =>
  extractV 0 t64 fun t65 =>
  extractV 1 t64 fun t66 =>
  newT H fun H =>
  cellsV true 3 t65 fun c2 =>
  callV Try.prog (fnV fn_stash_Drop) [(.agg #[x0_0, x0_1, x0_2, x0_3]), t41, x2_0] H fun t72 H =>
  extractV 0 t72 fun t73 =>
  extractV 1 t72 fun t74 =>
  callV Try.prog (fnV fn_stash_Find) [(.agg #[x0_0, x0_1, x0_2, x0_3]), t41, x3] H fun t79 H =>
  extractV 0 t79 fun t80 =>
  extractV 1 t79 fun t81 =>
  newT H fun H =>
  cellsV true 3 t80 fun c3 =>
  callV Try.prog (fnV fn_stash_Find) [(.agg #[x0_0, x0_1, x0_2, x0_3]), x1, x3] H fun t86 H =>
  extractV 0 t86 fun t87 =>
  extractV 1 t86 fun t88 =>
  newT H fun H =>
  cellsV true 3 t87 fun c4 =>
  JoinPT (fun K41 =>
  callV Try.prog (fnV fn_stash_Check) [(.agg #[x0_0, x0_1, x0_2, x0_3]), t41] H fun t91 H =>
  binV (.int .i64) .neq t91 (.int .i64 0) fun t92 =>
  asB t92 fun b93 =>
  ifB b93 (
  undef = undef ∧ (
  undef = undef ∧ (
  undef = undef ∧ (
  undef = undef ∧ (
  K41 [[(.bool true)]] H))))) (
  unV .not t58 fun t95 =>
  asB t95 fun b97 =>
  ifB b97 (
  undef = undef ∧ (
  undef = undef ∧ (
  undef = undef ∧ (
  undef = undef ∧ (
  K41 [[(.bool true)]] H))))) (
  ifB (decide (0 + 3 ≤ ((setSeg [(.int .i64 0), (.int .i64 0), (.slice none 0 0)] 0 c1)).length)) (
  callV Try.prog (fnV fn_ref09_Same) [(.agg (seg (setSeg [(.int .i64 0), (.int .i64 0), (.slice none 0 0)] 0 c1) 0 3).toArray), (.agg #[x2_0, x2_1, x2_2])] H fun t100 H =>
  unV .not t100 fun t101 =>
  asB t101 fun b103 =>
  ifB b103 (
  undef = undef ∧ (
  undef = undef ∧ (
  undef = undef ∧ (
  undef = undef ∧ (
  K41 [[(.bool true)]] H))))) (
  binV (.int .i64) .neq t74 (.int .i64 0) fun t105 =>
  asB t105 fun b107 =>
  ifB b107 (
  undef = undef ∧ (
  undef = undef ∧ (
  undef = undef ∧ (
  undef = undef ∧ (
  K41 [[(.bool true)]] H))))) (
  unV .not t66 fun t109 =>
  asB t109 fun b110 =>
  ifB b110 (
  callV Try.prog (fnV fn_ref09_SameAll) [t73, x1] H fun t113 H =>
  unV .not t113 fun t114 =>
  K41 [[t114]] H) (
  K41 [[(.bool false)]] H)))) False))) fun s41 H =>
  asB (sv s41 0) fun b116 =>
  ifB b116 (
  Q (.bool false) H) (
  JoinPT (fun K47 =>
  asB t22 fun b118 =>
  ifB b118 (
  binV (.int .i64) .eql x3 x2_0 fun t122 =>
  asB t122 fun b123 =>
  ifB b123 (
  undef = undef ∧ (
  undef = undef ∧ (
  undef = undef ∧ (
  asB t66 fun b136 =>
  ifB b136 (
  lenSl t41 H fun t138 =>
  lenSl x1 H fun t140 =>
  binV (.int .i64) .eql t138 t140 fun t141 =>
  asB t141 fun b143 =>
  ifB b143 (
  undef = undef ∧ (
  undef = undef ∧ (
  undef = undef ∧ (
  undef = undef ∧ (
  undef = undef ∧ (
  undef = undef ∧ (
  K47 [[(.bool true)]] H))))))) (
  unV .not t66 fun t145 =>
  asB t145 fun b146 =>
  ifB b146 (
  lenSl t41 H fun t148 =>
  lenSl x1 H fun t150 =>
  binV (.int .i64) .add t150 (.int .i64 1) fun t151 =>
  binV (.int .i64) .eql t148 t151 fun t152 =>
  K47 [[t152]] H) (
  K47 [[(.bool false)]] H))) (
  unV .not t66 fun t145 =>
  asB t145 fun b146 =>
  ifB b146 (
  lenSl t41 H fun t148 =>
  lenSl x1 H fun t150 =>
  binV (.int .i64) .add t150 (.int .i64 1) fun t151 =>
  binV (.int .i64) .eql t148 t151 fun t152 =>
  K47 [[t152]] H) (
  K47 [[(.bool false)]] H)))))) (
  binV .bool .eql t81 t88 fun t126 =>
  asB t126 fun b127 =>
  ifB b127 (
  ifB (decide (0 + 3 ≤ ((setSeg [(.int .i64 0), (.int .i64 0), (.slice none 0 0)] 0 c3)).length)) (
  ifB (decide (0 + 3 ≤ ((setSeg [(.int .i64 0), (.int .i64 0), (.slice none 0 0)] 0 c4)).length)) (
  callV Try.prog (fnV fn_ref09_Same) [(.agg (seg (setSeg [(.int .i64 0), (.int .i64 0), (.slice none 0 0)] 0 c3) 0 3).toArray), (.agg (seg (setSeg [(.int .i64 0), (.int .i64 0), (.slice none 0 0)] 0 c4) 0 3).toArray)] H fun t130 H =>
  asB t130 fun b134 =>
  ifB b134 (
  asB t66 fun b136 =>
  ifB b136 (
  lenSl t41 H fun t138 =>
  lenSl x1 H fun t140 =>
  binV (.int .i64) .eql t138 t140 fun t141 =>
  asB t141 fun b143 =>
  ifB b143 (
  undef = undef ∧ (
  undef = undef ∧ (
  undef = undef ∧ (
  undef = undef ∧ (
  undef = undef ∧ (
  undef = undef ∧ (
  K47 [[(.bool true)]] H))))))) (
  unV .not t66 fun t145 =>
  asB t145 fun b146 =>
  ifB b146 (
  lenSl t41 H fun t148 =>
  lenSl x1 H fun t150 =>
  binV (.int .i64) .add t150 (.int .i64 1) fun t151 =>
  binV (.int .i64) .eql t148 t151 fun t152 =>
  K47 [[t152]] H) (
  K47 [[(.bool false)]] H))) (
  unV .not t66 fun t145 =>
  asB t145 fun b146 =>
  ifB b146 (
  lenSl t41 H fun t148 =>
  lenSl x1 H fun t150 =>
  binV (.int .i64) .add t150 (.int .i64 1) fun t151 =>
  binV (.int .i64) .eql t148 t151 fun t152 =>
  K47 [[t152]] H) (
  K47 [[(.bool false)]] H))) (
  undef = undef ∧ (
  undef = undef ∧ (
  undef = undef ∧ (
  undef = undef ∧ (
  undef = undef ∧ (
  undef = undef ∧ (
  undef = undef ∧ (
  undef = undef ∧ (
  undef = undef ∧ (
  undef = undef ∧ (
  undef = undef ∧ (
  undef = undef ∧ (
  undef = undef ∧ (
  undef = undef ∧ (
  undef = undef ∧ (
  K47 [[(.bool false)]] H))))))))))))))))) False) False) (
  undef = undef ∧ (
  undef = undef ∧ (
  undef = undef ∧ (
  undef = undef ∧ (
  undef = undef ∧ (
  undef = undef ∧ (
  undef = undef ∧ (
  undef = undef ∧ (
  undef = undef ∧ (
  undef = undef ∧ (
  undef = undef ∧ (
  undef = undef ∧ (
  undef = undef ∧ (
  undef = undef ∧ (
  undef = undef ∧ (
  K47 [[(.bool false)]] H)))))))))))))))))) (
  undef = undef ∧ (
  undef = undef ∧ (
  undef = undef ∧ (
  undef = undef ∧ (
  undef = undef ∧ (
  undef = undef ∧ (
  undef = undef ∧ (
  undef = undef ∧ (
  undef = undef ∧ (
  undef = undef ∧ (
  undef = undef ∧ (
  undef = undef ∧ (
  undef = undef ∧ (
  undef = undef ∧ (
  undef = undef ∧ (
  undef = undef ∧ (
  undef = undef ∧ (
  undef = undef ∧ (
  undef = undef ∧ (
  undef = undef ∧ (
  undef = undef ∧ (
  undef = undef ∧ (
  undef = undef ∧ (
  K47 [[(.bool false)]] H))))))))))))))))))))))))) fun s47 H =>
  Q (sv s47 0) H)))
theorem S_law16_StashBack_of {x0_0 : Value} {x0_1 : Value} {x0_2 : Value} {x0_3 : Value} {x1 : Value} {x2_0 : Value} {x2_1 : Value} {x2_2 : Value} {x3 : Value} {H : Heap} {Q : Value → Heap → Prop} (h : S_law16_StashBack x0_0 x0_1 x0_2 x0_3 x1 x2_0 x2_1 x2_2 x3 H Q) : callV Try.prog (fnV fn_law16_StashBack) [(.agg #[x0_0, x0_1, x0_2, x0_3]), x1, (.agg #[x2_0, x2_1, x2_2]), x3] H Q :=
  callV_fn (hcalls_of (pv := [4, 6, 12, 14, 18, 20]) (ann := [(11, [68]), (23, [16]), (41, [232]), (47, [16])]) Try.func4 (by kernel_rfl) (Eq.mpr (by kernel_rfl) h))

/-- thimblerig/thimbleriglaw16.StashNames -/
def S_law16_StashNames  (H : Heap) (Q : Value → Heap → Prop) : Prop :=
  callV Try.prog (fnV fn_law16_level) [] H fun t10 H =>
  callV Try.prog (fnV fn_law16_two) [] H fun t11 H =>
  callV Try.prog (fnV fn_stash_Drop) [t10, t11, (.int .i64 3)] H fun t12 H =>
  extractV 0 t12 fun t13 =>
  extractV 1 t12 fun t14 =>
  callV Try.prog (fnV fn_law16_level) [] H fun t16 H =>
  callV Try.prog (fnV fn_law16_two) [] H fun t17 H =>
  callV Try.prog (fnV fn_law16_one) [(.int .i64 2), (.int .u8 1)] H fun t18 H =>
  bldS 27 3 true (zeroL Try.prog 27) 1 [(0, t18)] H fun t19 H =>
  callV Try.prog (fnV fn_stash_Add) [t16, t17, t19] H fun t20 H =>
  extractV 0 t20 fun t21 =>
  extractV 1 t20 fun t22 =>
  callV Try.prog (fnV fn_law16_level) [] H fun t24 H =>
  callV Try.prog (fnV fn_law16_two) [] H fun t25 H =>
  callV Try.prog (fnV fn_law16_one) [(.int .i64 3), (.int .u8 1)] H fun t26 H =>
  callV Try.prog (fnV fn_law16_one) [(.int .i64 3), (.int .u8 1)] H fun t27 H =>
  bldS 27 3 true (zeroL Try.prog 27) 2 [(0, t26), (1, t27)] H fun t28 H =>
  callV Try.prog (fnV fn_stash_Add) [t24, t25, t28] H fun t29 H =>
  extractV 0 t29 fun t30 =>
  extractV 1 t29 fun t31 =>
  callV Try.prog (fnV fn_law16_level) [] H fun t33 H =>
  callV Try.prog (fnV fn_law16_two) [] H fun t34 H =>
  callV Try.prog (fnV fn_law16_one) [(.int .i64 7), (.int .u8 1)] H fun t35 H =>
  callV Try.prog (fnV fn_law16_one) [(.int .i64 0), (.int .u8 1)] H fun t36 H =>
  bldS 27 3 true (zeroL Try.prog 27) 2 [(0, t35), (1, t36)] H fun t37 H =>
  callV Try.prog (fnV fn_stash_Add) [t33, t34, t37] H fun t38 H =>
  extractV 0 t38 fun t39 =>
  extractV 1 t38 fun t40 =>
  JoinPT (fun K20 =>
  callV Try.prog (fnV fn_law16_alive) [] H fun t42 H =>
  asB t42 fun b44 =>
  ifB b44 (
  binV (.int .i64) .eql t14 (.int .i64 6) fun t46 =>
  asB t46 fun b48 =>
  ifB b48 (
  binV (.int .i64) .eql t22 (.int .i64 8) fun t50 =>
  asB t50 fun b52 =>
  ifB b52 (
  binV (.int .i64) .eql t31 (.int .i64 8) fun t54 =>
  asB t54 fun b56 =>
  ifB b56 (
  binV (.int .i64) .eql t40 (.int .i64 0) fun t58 =>
  asB t58 fun b60 =>
  ifB b60 (
  lenSl t39 H fun t62 =>
  binV (.int .i64) .eql t62 (.int .i64 4) fun t63 =>
  asB t63 fun b65 =>
  ifB b65 (
  idxS 3 t39 (.int .i64 0) fun t67 =>
  fldP 0 t67 fun t68 =>
  loadP false 1 t68 H fun t69 =>
  binV (.int .i64) .eql t69 (.int .i64 0) fun t70 =>
  asB t70 fun b72 =>
  ifB b72 (
  idxS 3 t39 (.int .i64 3) fun t74 =>
  fldP 0 t74 fun t75 =>
  loadP false 1 t75 H fun t76 =>
  binV (.int .i64) .eql t76 (.int .i64 7) fun t77 =>
  asB t77 fun b79 =>
  ifB b79 (
  callV Try.prog (fnV fn_law16_level) [] H fun t80 H =>
  callV Try.prog (fnV fn_law16_one) [(.int .i64 5), (.int .u8 1)] H fun t81 H =>
  callV Try.prog (fnV fn_law16_one) [(.int .i64 2), (.int .u8 1)] H fun t82 H =>
  bldS 27 3 true (zeroL Try.prog 27) 2 [(0, t81), (1, t82)] H fun t83 H =>
  callV Try.prog (fnV fn_stash_Check) [t80, t83] H fun t84 H =>
  binV (.int .i64) .eql t84 (.int .i64 8) fun t85 =>
  K20 [[t85]] H) (
  K20 [[(.bool false)]] H)) (
  K20 [[(.bool false)]] H)) (
  K20 [[(.bool false)]] H)) (
  K20 [[(.bool false)]] H)) (
  K20 [[(.bool false)]] H)) (
  K20 [[(.bool false)]] H)) (
  K20 [[(.bool false)]] H)) (
  K20 [[(.bool false)]] H)) fun s20 H =>
  Q (sv s20 0) H
theorem S_law16_StashNames_of  {H : Heap} {Q : Value → Heap → Prop} (h : S_law16_StashNames H Q) : callV Try.prog (fnV fn_law16_StashNames) [] H Q :=
  callV_fn (hcalls_of (pv := []) (ann := [(20, [0])]) Try.func5 (by kernel_rfl) (Eq.mpr (by kernel_rfl) h))

/-- thimblerig/thimbleriglaw16.StashDoes -/
def S_law16_StashDoes (x0_0 : Value) (x0_1 : Value) (x0_2 : Value) (x0_3 : Value) (x1 : Value) (x2_0 : Value) (x2_1 : Value) (x2_2 : Value) (x3 : Value) (x4 : Value) (H : Heap) (Q : Value → Heap → Prop) : Prop :=
  newT H fun H =>
  newT H fun H =>
  JoinPT (fun K8 =>
  callV Try.prog (fnV fn_ref09_Great) [x1, (.int .i64 40)] H fun t33 H =>
  asB t33 fun b34 =>
  ifB b34 (
  K8 [[(.bool true)]] H) (
  callV Try.prog (fnV fn_ref09_Great) [x4, (.int .i64 20)] H fun t36 H =>
  asB t36 fun b38 =>
  ifB b38 (
  K8 [[(.bool true)]] H) (
  lenSl x2_2 H fun t41 =>
  binV (.int .i64) .gtr t41 (.int .i64 1000) fun t42 =>
  K8 [[t42]] H))) fun s8 H =>
  asB (sv s8 0) fun b43 =>
  ifB b43 (
  Q (.bool true) H) (
  callV Try.prog (fnV fn_ref09_TwinAll) [x1] H fun t45 H =>
  callV Try.prog (fnV fn_ref09_TwinAll) [x4] H fun t47 H =>
  callV Try.prog (fnV fn_stash_Find) [(.agg #[x0_0, x0_1, x0_2, x0_3]), t45, x3] H fun t52 H =>
  extractV 0 t52 fun t53 =>
  extractV 1 t52 fun t54 =>
  newT H fun H =>
  cellsV true 3 t53 fun c1 =>
  callV Try.prog (fnV fn_ref16_Find) [(.agg #[x0_0, x0_1, x0_2, x0_3]), x1, x3] H fun t59 H =>
  extractV 0 t59 fun t60 =>
  extractV 1 t59 fun t61 =>
  newT H fun H =>
  cellsV true 3 t60 fun c2 =>
  callV Try.prog (fnV fn_stash_Put) [(.agg #[x0_0, x0_1, x0_2, x0_3]), t45, (.agg #[x2_0, x2_1, x2_2])] H fun t66 H =>
  extractV 0 t66 fun t67 =>
  extractV 1 t66 fun t68 =>
  callV Try.prog (fnV fn_ref16_Put) [(.agg #[x0_0, x0_1, x0_2, x0_3]), x1, (.agg #[x2_0, x2_1, x2_2])] H fun t73 H =>
  extractV 0 t73 fun t74 =>
  extractV 1 t73 fun t75 =>
  callV Try.prog (fnV fn_stash_Drop) [(.agg #[x0_0, x0_1, x0_2, x0_3]), t45, x3] H fun t80 H =>
  extractV 0 t80 fun t81 =>
  extractV 1 t80 fun t82 =>
  callV Try.prog (fnV fn_ref16_Drop) [(.agg #[x0_0, x0_1, x0_2, x0_3]), x1, x3] H fun t87 H =>
  extractV 0 t87 fun t88 =>
  extractV 1 t87 fun t89 =>
  callV Try.prog (fnV fn_stash_Add) [(.agg #[x0_0, x0_1, x0_2, x0_3]), t45, t47] H fun t94 H =>
  extractV 0 t94 fun t95 =>
  extractV 1 t94 fun t96 =>
  callV Try.prog (fnV fn_ref16_Add) [(.agg #[x0_0, x0_1, x0_2, x0_3]), x1, x4] H fun t101 H =>
  extractV 0 t101 fun t102 =>
  extractV 1 t101 fun t103 =>
  callV Try.prog (fnV fn_stash_Twin) [t45] H fun t105 H =>
  JoinPT (fun K44 =>
  ifB (decide (0 + 3 ≤ ((setSeg [(.int .i64 0), (.int .i64 0), (.slice none 0 0)] 0 c1)).length)) (
  ifB (decide (0 + 3 ≤ ((setSeg [(.int .i64 0), (.int .i64 0), (.slice none 0 0)] 0 c2)).length)) (
  callV Try.prog (fnV fn_ref09_Same) [(.agg (seg (setSeg [(.int .i64 0), (.int .i64 0), (.slice none 0 0)] 0 c1) 0 3).toArray), (.agg (seg (setSeg [(.int .i64 0), (.int .i64 0), (.slice none 0 0)] 0 c2) 0 3).toArray)] H fun t108 H =>
  asB t108 fun b109 =>
  ifB b109 (
  binV .bool .eql t54 t61 fun t112 =>
  asB t112 fun b114 =>
  ifB b114 (
  callV Try.prog (fnV fn_ref09_SameAll) [t67, t74] H fun t117 H =>
  asB t117 fun b119 =>
  ifB b119 (
  binV (.int .i64) .eql t68 t75 fun t122 =>
  asB t122 fun b124 =>
  ifB b124 (
  callV Try.prog (fnV fn_ref09_SameAll) [t81, t88] H fun t127 H =>
  asB t127 fun b129 =>
  ifB b129 (
  binV (.int .i64) .eql t82 t89 fun t132 =>
  K44 [[t132]] H) (
  K44 [[(.bool false)]] H)) (
  K44 [[(.bool false)]] H)) (
  K44 [[(.bool false)]] H)) (
  K44 [[(.bool false)]] H)) (
  K44 [[(.bool false)]] H)) False) False) fun s44 H =>
  JoinPT (fun K47 =>
  callV Try.prog (fnV fn_ref09_SameAll) [t95, t102] H fun t136 H =>
  asB t136 fun b137 =>
  ifB b137 (
  binV (.int .i64) .eql t96 t103 fun t140 =>
  asB t140 fun b142 =>
  ifB b142 (
  callV Try.prog (fnV fn_stash_Check) [(.agg #[x0_0, x0_1, x0_2, x0_3]), t45] H fun t145 H =>
  callV Try.prog (fnV fn_ref16_Check) [(.agg #[x0_0, x0_1, x0_2, x0_3]), x1] H fun t148 H =>
  binV (.int .i64) .eql t145 t148 fun t149 =>
  asB t149 fun b151 =>
  ifB b151 (
  callV Try.prog (fnV fn_stash_Same) [t45, x4] H fun t154 H =>
  callV Try.prog (fnV fn_ref09_SameAll) [x1, x4] H fun t157 H =>
  binV .bool .eql t154 t157 fun t158 =>
  asB t158 fun b160 =>
  ifB b160 (
  callV Try.prog (fnV fn_stash_Same) [t45, x1] H fun t163 H =>
  asB t163 fun b165 =>
  ifB b165 (
  callV Try.prog (fnV fn_ref09_SameAll) [t105, x1] H fun t168 H =>
  K47 [[t168]] H) (
  K47 [[(.bool false)]] H)) (
  K47 [[(.bool false)]] H)) (
  K47 [[(.bool false)]] H)) (
  K47 [[(.bool false)]] H)) (
  K47 [[(.bool false)]] H)) fun s47 H =>
  callV Try.prog (fnV fn_law16_spoil) [t67] H fun t171 H =>
  callV Try.prog (fnV fn_law16_spoil) [t81] H fun t173 H =>
  callV Try.prog (fnV fn_law16_spoil) [t95] H fun t175 H =>
  callV Try.prog (fnV fn_law16_spoil) [t105] H fun t177 H =>
  JoinPT (fun K62 =>
  asB (sv s44 0) fun b179 =>
  ifB b179 (
  asB (sv s47 0) fun b182 =>
  ifB b182 (
  callV Try.prog (fnV fn_ref09_SameAll) [t45, x1] H fun t185 H =>
  asB t185 fun b187 =>
  ifB b187 (
  callV Try.prog (fnV fn_ref09_SameAll) [t47, x4] H fun t190 H =>
  K62 [[t190]] H) (
  K62 [[(.bool false)]] H)) (
  K62 [[(.bool false)]] H)) (
  K62 [[(.bool false)]] H)) fun s62 H =>
  Q (sv s62 0) H)
theorem S_law16_StashDoes_of {x0_0 : Value} {x0_1 : Value} {x0_2 : Value} {x0_3 : Value} {x1 : Value} {x2_0 : Value} {x2_1 : Value} {x2_2 : Value} {x3 : Value} {x4 : Value} {H : Heap} {Q : Value → Heap → Prop} (h : S_law16_StashDoes x0_0 x0_1 x0_2 x0_3 x1 x2_0 x2_1 x2_2 x3 x4 H Q) : callV Try.prog (fnV fn_law16_StashDoes) [(.agg #[x0_0, x0_1, x0_2, x0_3]), x1, (.agg #[x2_0, x2_1, x2_2]), x3, x4] H Q :=
  callV_fn (hcalls_of (pv := [5, 7, 13, 15]) (ann := [(8, [86]), (44, [60]), (47, [62]), (62, [20])]) Try.func6 (by kernel_rfl) (Eq.mpr (by kernel_rfl) h))

/-- thimblerig/thimbleriglaw16.alive -/
def S_law16_alive  (H : Heap) (Q : Value → Heap → Prop) : Prop :=
  callV Try.prog (fnV fn_law16_level) [] H fun t8 H =>
  callV Try.prog (fnV fn_law16_one) [(.int .i64 5), (.int .u8 1)] H fun t9 H =>
  callV Try.prog (fnV fn_stash_Put) [t8, (.slice none 0 0), t9] H fun t10 H =>
  extractV 0 t10 fun t11 =>
  extractV 1 t10 fun t12 =>
  callV Try.prog (fnV fn_law16_level) [] H fun t14 H =>
  callV Try.prog (fnV fn_law16_one) [(.int .i64 2), (.int .u8 1)] H fun t16 H =>
  callV Try.prog (fnV fn_stash_Put) [t14, t11, t16] H fun t17 H =>
  extractV 0 t17 fun t18 =>
  extractV 1 t17 fun t19 =>
  callV Try.prog (fnV fn_law16_level) [] H fun t21 H =>
  callV Try.prog (fnV fn_law16_one) [(.int .i64 5), (.int .u8 9)] H fun t23 H =>
  callV Try.prog (fnV fn_stash_Put) [t21, t18, t23] H fun t24 H =>
  extractV 0 t24 fun t25 =>
  extractV 1 t24 fun t26 =>
  JoinPT (fun K17 =>
  binV (.int .i64) .eql t12 (.int .i64 0) fun t28 =>
  asB t28 fun b29 =>
  ifB b29 (
  binV (.int .i64) .eql t19 (.int .i64 0) fun t31 =>
  asB t31 fun b33 =>
  ifB b33 (
  callV Try.prog (fnV fn_law16_two) [] H fun t35 H =>
  callV Try.prog (fnV fn_ref09_SameAll) [t18, t35] H fun t36 H =>
  asB t36 fun b38 =>
  ifB b38 (
  binV (.int .i64) .eql t26 (.int .i64 0) fun t40 =>
  asB t40 fun b42 =>
  ifB b42 (
  callV Try.prog (fnV fn_law16_one) [(.int .i64 2), (.int .u8 1)] H fun t44 H =>
  callV Try.prog (fnV fn_law16_one) [(.int .i64 5), (.int .u8 9)] H fun t45 H =>
  bldS 27 3 true (zeroL Try.prog 27) 2 [(0, t44), (1, t45)] H fun t46 H =>
  callV Try.prog (fnV fn_ref09_SameAll) [t25, t46] H fun t47 H =>
  K17 [[t47]] H) (
  K17 [[(.bool false)]] H)) (
  K17 [[(.bool false)]] H)) (
  K17 [[(.bool false)]] H)) (
  K17 [[(.bool false)]] H)) fun s17 H =>
  Q (sv s17 0) H
theorem S_law16_alive_of  {H : Heap} {Q : Value → Heap → Prop} (h : S_law16_alive H Q) : callV Try.prog (fnV fn_law16_alive) [] H Q :=
  callV_fn (hcalls_of (pv := []) (ann := [(17, [0])]) Try.func8 (by kernel_rfl) (Eq.mpr (by kernel_rfl) h))

/-- thimblerig/thimbleriglaw16.level -/
def S_law16_level  (H : Heap) (Q : Value → Heap → Prop) : Prop :=
  newT H fun H =>
  Q (.agg #[(.int .i64 8), (.int .i64 1), (.int .i64 3), (.int .i64 73)]) H
theorem S_law16_level_of  {H : Heap} {Q : Value → Heap → Prop} (h : S_law16_level H Q) : callV Try.prog (fnV fn_law16_level) [] H Q :=
  callV_fn (hcalls_of (pv := [0]) (ann := []) Try.func17 (by kernel_rfl) (Eq.mpr (by kernel_rfl) h))

/-- thimblerig/thimbleriglaw16.two -/
def S_law16_two  (H : Heap) (Q : Value → Heap → Prop) : Prop :=
  callV Try.prog (fnV fn_law16_one) [(.int .i64 2), (.int .u8 1)] H fun t1 H =>
  callV Try.prog (fnV fn_law16_one) [(.int .i64 5), (.int .u8 1)] H fun t2 H =>
  bldS 27 3 true (zeroL Try.prog 27) 2 [(0, t1), (1, t2)] H fun t3 H =>
  Q t3 H
theorem S_law16_two_of  {H : Heap} {Q : Value → Heap → Prop} (h : S_law16_two H Q) : callV Try.prog (fnV fn_law16_two) [] H Q :=
  callV_fn (hcalls_of (pv := []) (ann := []) Try.func18 (by kernel_rfl) (Eq.mpr (by kernel_rfl) h))

/-- thimblerig/thimbleriglaw16.one -/
def S_law16_one (x0 : Value) (x1 : Value) (H : Heap) (Q : Value → Heap → Prop) : Prop :=
  newT H fun H =>
  bldS 5 1 false (zeroL Try.prog 5) 1 [(0, x1)] H fun t7 H =>
  ifB (okc x0) (
  ifB (okc t7) (
  ifB ([x0, (.int .i64 0), t7].all okc) (
  Q (.agg #[x0, (.int .i64 0), t7]) H) False) False) False
theorem S_law16_one_of {x0 : Value} {x1 : Value} {H : Heap} {Q : Value → Heap → Prop} (h : S_law16_one x0 x1 H Q) : callV Try.prog (fnV fn_law16_one) [x0, x1] H Q :=
  callV_fn (hcalls_of (pv := [4]) (ann := []) Try.func19 (by kernel_rfl) (Eq.mpr (by kernel_rfl) h))

/-- thimblerig/thimbleriglaw16.spoil -/
def S_law16_spoil (x0 : Value) (H : Heap) (Q : Value → Heap → Prop) : Prop :=
  LoopPT (fun s6 H K6 =>
  lenSl x0 H fun t6 =>
  binV (.int .i64) .lss (sv s6 0) t6 fun t7 =>
  asB t7 fun b7 =>
  ifB b7 (
  idxS 3 x0 (sv s6 0) fun t12 =>
  fldP 0 t12 fun t13 =>
  storeP false 1 t13 (.int .i64 (-7)) H fun H =>
  LoopPT (fun s18 H K18 =>
  idxS 3 x0 (sv s6 0) fun t17 =>
  fldP 2 t17 fun t18 =>
  loadP false 1 t18 H fun t19 =>
  lenSl t19 H fun t20 =>
  binV (.int .i64) .lss (sv s18 0) t20 fun t21 =>
  asB t21 fun b21 =>
  ifB b21 (
  idxS 3 x0 (sv s6 0) fun t26 =>
  fldP 2 t26 fun t27 =>
  loadP false 1 t27 H fun t28 =>
  idxS 3 x0 (sv s6 0) fun t32 =>
  fldP 2 t32 fun t33 =>
  loadP false 1 t33 H fun t34 =>
  idxS 1 t34 (sv s18 0) fun t36 =>
  loadP false 1 t36 H fun t37 =>
  binV (.int .u8) .add t37 (.int .u8 1) fun t38 =>
  idxS 1 t28 (sv s18 0) fun t39 =>
  storeP false 1 t39 t38 H fun H =>
  binV (.int .i64) .add (sv s18 0) (.int .i64 1) fun t23 =>
  K18 [[t23]] H) (
  binV (.int .i64) .add (sv s6 0) (.int .i64 1) fun t9 =>
  K6 [[t9]] H)) [[(.int .i64 0)]] H) (
  Q (.tuple #[]) H)) [[(.int .i64 0)]] H
theorem S_law16_spoil_of {x0 : Value} {H : Heap} {Q : Value → Heap → Prop} (h : S_law16_spoil x0 H Q) : callV Try.prog (fnV fn_law16_spoil) [x0] H Q :=
  callV_fn (hcalls_of (pv := []) (ann := [(6, [4]), (18, [6])]) Try.func28 (by kernel_rfl) (Eq.mpr (by kernel_rfl) h))

end Go.Proofs.Ytccdoecccaocjaa
