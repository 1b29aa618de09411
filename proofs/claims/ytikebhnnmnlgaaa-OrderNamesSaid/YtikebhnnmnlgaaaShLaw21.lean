/- Written by sh.py: what functions do, out of the deep reading; each is joined to the program by the kernel. -/
import Derived.Test.YtikebhnnmnlgaaaShNames
namespace Go.Proofs.Ytikebhnnmnlgaaa
open Go.Ab
set_option linter.unusedVariables false
set_option linter.unusedSimpArgs false
set_option maxRecDepth 100000

/-- thimblerig/thimbleriglaw21.OrderPuts -/
def S_law21_OrderPuts (x0 : Value) (x1 : Value) (H : Heap) (Q : Value → Heap → Prop) : Prop :=
  JoinPT (fun K8 =>
  lenSl x0 H fun t18 =>
  binV (.int .i64) .gtr t18 (.int .i64 100) fun t19 =>
  asB t19 fun b20 =>
  ifB b20 (
  lenSl x0 H fun t22 =>
  binV (.int .i64) .lss t22 (.int .i64 1025) fun t23 =>
  asB t23 fun b25 =>
  ifB b25 (
  K8 [[(.bool true)]] H) (
  lenSl x0 H fun t27 =>
  binV (.int .i64) .gtr t27 (.int .i64 1030) fun t28 =>
  asB t28 fun b30 =>
  ifB b30 (
  K8 [[(.bool true)]] H) (
  lenSl x1 H fun t32 =>
  binV (.int .i64) .gtr t32 (.int .i64 1030) fun t33 =>
  K8 [[t33]] H))) (
  lenSl x0 H fun t27 =>
  binV (.int .i64) .gtr t27 (.int .i64 1030) fun t28 =>
  asB t28 fun b30 =>
  ifB b30 (
  K8 [[(.bool true)]] H) (
  lenSl x1 H fun t32 =>
  binV (.int .i64) .gtr t32 (.int .i64 1030) fun t33 =>
  K8 [[t33]] H))) fun s8 H =>
  asB (sv s8 0) fun b34 =>
  ifB b34 (
  Q (.bool true) H) (
  bldS 3 1 false (zeroL Try.prog 3) 0 [] H fun t35 H =>
  appS 3 1 8 (zeroL Try.prog 3) t35 x0 H fun t37 H =>
  bldS 30 1 false (zeroL Try.prog 30) 0 [] H fun t38 H =>
  appS 30 1 4 (zeroL Try.prog 30) t38 x1 H fun t40 H =>
  callV Try.prog (fnV fn_order_Apply) [t37, t40] H fun t44 H =>
  extractV 0 t44 fun t45 =>
  extractV 1 t44 fun t46 =>
  callV Try.prog (fnV fn_ref21_Apply) [x0, x1] H fun t50 H =>
  extractV 0 t50 fun t51 =>
  extractV 1 t50 fun t52 =>
  callV Try.prog (fnV fn_order_Undo) [t37, t40] H fun t56 H =>
  extractV 0 t56 fun t57 =>
  extractV 1 t56 fun t58 =>
  callV Try.prog (fnV fn_ref21_Undo) [x0, x1] H fun t62 H =>
  extractV 0 t62 fun t63 =>
  extractV 1 t62 fun t64 =>
  JoinPT (fun K29 =>
  callV Try.prog (fnV fn_ref21_SameCells) [t45, t51] H fun t67 H =>
  asB t67 fun b68 =>
  ifB b68 (
  binV (.int .i64) .eql t46 t52 fun t71 =>
  asB t71 fun b73 =>
  ifB b73 (
  callV Try.prog (fnV fn_ref21_SameCells) [t57, t63] H fun t76 H =>
  asB t76 fun b78 =>
  ifB b78 (
  binV (.int .i64) .eql t58 t64 fun t81 =>
  K29 [[t81]] H) (
  K29 [[(.bool false)]] H)) (
  K29 [[(.bool false)]] H)) (
  K29 [[(.bool false)]] H)) fun s29 H =>
  LoopPT (fun s33 H K33 =>
  lenSl t45 H fun t85 =>
  binV (.int .i64) .lss (sv s33 0) t85 fun t86 =>
  asB t86 fun b86 =>
  ifB b86 (
  idxS 1 t45 (sv s33 0) fun t93 =>
  loadP false 1 t93 H fun t94 =>
  binV (.int .u32) .add t94 (.int .u32 1) fun t95 =>
  idxS 1 t45 (sv s33 0) fun t96 =>
  storeP false 1 t96 t95 H fun H =>
  binV (.int .i64) .add (sv s33 0) (.int .i64 1) fun t88 =>
  K33 [[t88]] H) (
  JoinPT (fun K44 =>
  asB (sv s29 0) fun b98 =>
  ifB b98 (
  callV Try.prog (fnV fn_ref01_SameInts) [t37, x0] H fun t101 H =>
  asB t101 fun b103 =>
  ifB b103 (
  callV Try.prog (fnV fn_ref21_SameCells) [t40, x1] H fun t106 H =>
  K44 [[t106]] H) (
  K44 [[(.bool false)]] H)) (
  K44 [[(.bool false)]] H)) fun s44 H =>
  Q (sv s44 0) H)) [[(.int .i64 0)]] H)
theorem S_law21_OrderPuts_of {x0 : Value} {x1 : Value} {H : Heap} {Q : Value → Heap → Prop} (h : S_law21_OrderPuts x0 x1 H Q) : callV Try.prog (fnV fn_law21_OrderPuts) [x0, x1] H Q :=
  callV_fn (hcalls_of (pv := []) (ann := [(8, [68]), (29, [30]), (33, [32]), (44, [8])]) Try.func3 (by kernel_rfl) (Eq.mpr (by kernel_rfl) h))

/-- thimblerig/thimbleriglaw21.OrderTells -/
def S_law21_OrderTells (x0_0 : Value) (x0_1 : Value) (x0_2 : Value) (x0_3 : Value) (x0_4 : Value) (x0_5 : Value) (x0_6 : Value) (x0_7 : Value) (x0_8 : Value) (x1 : Value) (H : Heap) (Q : Value → Heap → Prop) : Prop :=
  newT H fun H =>
  JoinPT (fun K8 =>
  callV Try.prog (fnV fn_ref21_GreatUnits) [x1, (.int .i64 40)] H fun t14 H =>
  asB t14 fun b15 =>
  ifB b15 (
  lenSl x1 H fun t17 =>
  binV (.int .i64) .lss t17 (.int .i64 513) fun t18 =>
  asB t18 fun b19 =>
  ifB b19 (
  K8 [[(.bool true)]] H) (
  callV Try.prog (fnV fn_ref21_GreatUnits) [x1, (.int .i64 520)] H fun t21 H =>
  K8 [[t21]] H)) (
  undef = undef ∧ (
  undef = undef ∧ (
  K8 [[(.bool false)]] H)))) fun s8 H =>
  asB (sv s8 0) fun b23 =>
  ifB b23 (
  Q (.bool true) H) (
  callV Try.prog (fnV fn_order_Cells) [(.agg #[x0_0, x0_1, x0_2, x0_3, x0_4, x0_5, x0_6, x0_7, x0_8]), x1] H fun t27 H =>
  extractV 0 t27 fun t28 =>
  extractV 1 t27 fun t29 =>
  callV Try.prog (fnV fn_ref21_Cells) [(.agg #[x0_0, x0_1, x0_2, x0_3, x0_4, x0_5, x0_6, x0_7, x0_8]), x1] H fun t33 H =>
  extractV 0 t33 fun t34 =>
  extractV 1 t33 fun t35 =>
  callV Try.prog (fnV fn_order_Perm) [(.agg #[x0_0, x0_1, x0_2, x0_3, x0_4, x0_5, x0_6, x0_7, x0_8]), x1] H fun t39 H =>
  extractV 0 t39 fun t40 =>
  extractV 1 t39 fun t41 =>
  callV Try.prog (fnV fn_ref21_Perm) [(.agg #[x0_0, x0_1, x0_2, x0_3, x0_4, x0_5, x0_6, x0_7, x0_8]), x1] H fun t45 H =>
  extractV 0 t45 fun t46 =>
  extractV 1 t45 fun t47 =>
  JoinPT (fun K26 =>
  callV Try.prog (fnV fn_law21_sameAll) [t28, t34] H fun t50 H =>
  asB t50 fun b51 =>
  ifB b51 (
  binV (.int .i64) .eql t29 t35 fun t54 =>
  asB t54 fun b56 =>
  ifB b56 (
  callV Try.prog (fnV fn_law21_sameAll) [t40, t46] H fun t59 H =>
  asB t59 fun b61 =>
  ifB b61 (
  binV (.int .i64) .eql t41 t47 fun t64 =>
  K26 [[t64]] H) (
  K26 [[(.bool false)]] H)) (
  K26 [[(.bool false)]] H)) (
  K26 [[(.bool false)]] H)) fun s26 H =>
  Q (sv s26 0) H)
theorem S_law21_OrderTells_of {x0_0 : Value} {x0_1 : Value} {x0_2 : Value} {x0_3 : Value} {x0_4 : Value} {x0_5 : Value} {x0_6 : Value} {x0_7 : Value} {x0_8 : Value} {x1 : Value} {H : Heap} {Q : Value → Heap → Prop} (h : S_law21_OrderTells x0_0 x0_1 x0_2 x0_3 x0_4 x0_5 x0_6 x0_7 x0_8 x1 H Q) : callV Try.prog (fnV fn_law21_OrderTells) [(.agg #[x0_0, x0_1, x0_2, x0_3, x0_4, x0_5, x0_6, x0_7, x0_8]), x1] H Q :=
  callV_fn (hcalls_of (pv := [2]) (ann := [(8, [46]), (26, [8])]) Try.func6 (by kernel_rfl) (Eq.mpr (by kernel_rfl) h))

/-- thimblerig/thimbleriglaw21.OrderOnce -/
def S_law21_OrderOnce (x0_0 : Value) (x0_1 : Value) (x0_2 : Value) (x0_3 : Value) (x0_4 : Value) (x0_5 : Value) (x0_6 : Value) (x0_7 : Value) (x0_8 : Value) (x1 : Value) (H : Heap) (Q : Value → Heap → Prop) : Prop :=
  newT H fun H =>
  callV Try.prog (fnV fn_law21_alive) [] H fun t17 H =>
  JoinPT (fun K11 =>
  callV Try.prog (fnV fn_ref21_GreatUnits) [x1, (.int .i64 40)] H fun t19 H =>
  asB t19 fun b20 =>
  ifB b20 (
  K11 [[(.bool true)]] H) (
  unV .not t17 fun t22 =>
  K11 [[t22]] H)) fun s11 H =>
  asB (sv s11 0) fun b23 =>
  ifB b23 (
  Q t17 H) (
  callV Try.prog (fnV fn_order_Cells) [(.agg #[x0_0, x0_1, x0_2, x0_3, x0_4, x0_5, x0_6, x0_7, x0_8]), x1] H fun t28 H =>
  extractV 0 t28 fun t29 =>
  extractV 1 t28 fun t30 =>
  callV Try.prog (fnV fn_order_Perm) [(.agg #[x0_0, x0_1, x0_2, x0_3, x0_4, x0_5, x0_6, x0_7, x0_8]), x1] H fun t34 H =>
  extractV 0 t34 fun t35 =>
  extractV 1 t34 fun t36 =>
  callV Try.prog (fnV fn_conf_Levels) [(.agg #[x0_0, x0_1, x0_2, x0_3, x0_4, x0_5, x0_6, x0_7, x0_8])] H fun t39 H =>
  extractV 0 t39 fun t40 =>
  extractV 1 t39 fun t41 =>
  JoinPT (fun K26 =>
  binV (.int .i64) .neq t30 (.int .i64 0) fun t43 =>
  asB t43 fun b44 =>
  ifB b44 (
  K26 [[(.bool true)]] H) (
  binV (.int .i64) .neq t36 (.int .i64 0) fun t46 =>
  K26 [[t46]] H)) fun s26 H =>
  asB (sv s26 0) fun b47 =>
  ifB b47 (
  JoinPT (fun K29 =>
  asB t17 fun b49 =>
  ifB b49 (
  binV (.int .i64) .eql t30 t36 fun t52 =>
  asB t52 fun b54 =>
  ifB b54 (
  lenSl t29 H fun t56 =>
  binV (.int .i64) .eql t56 (.int .i64 0) fun t57 =>
  asB t57 fun b59 =>
  ifB b59 (
  lenSl t35 H fun t61 =>
  binV (.int .i64) .eql t61 (.int .i64 0) fun t62 =>
  K29 [[t62]] H) (
  K29 [[(.bool false)]] H)) (
  K29 [[(.bool false)]] H)) (
  K29 [[(.bool false)]] H)) fun s29 H =>
  Q (sv s29 0) H) (
  JoinPT (fun K32 =>
  binV (.int .i64) .neq t41 (.int .i64 0) fun t65 =>
  asB t65 fun b66 =>
  ifB b66 (
  K32 [[(.bool true)]] H) (
  lenSl t29 H fun t68 =>
  lenSl t40 H fun t70 =>
  binV (.int .i64) .neq t68 t70 fun t71 =>
  asB t71 fun b73 =>
  ifB b73 (
  K32 [[(.bool true)]] H) (
  lenSl t35 H fun t75 =>
  lenSl t40 H fun t77 =>
  binV (.int .i64) .neq t75 t77 fun t78 =>
  K32 [[t78]] H))) fun s32 H =>
  asB (sv s32 0) fun b79 =>
  ifB b79 (
  Q (.bool false) H) (
  LoopPT (fun s39 H K39 =>
  lenSl t35 H fun t82 =>
  binV (.int .i64) .lss (sv s39 0) t82 fun t83 =>
  asB t83 fun b83 =>
  ifB b83 (
  JoinPT (fun K47 =>
  idxS 1 t29 (sv s39 0) fun t88 =>
  loadP false 1 t88 H fun t89 =>
  lenSl t89 H fun t90 =>
  lenSl x1 H fun t92 =>
  binV (.int .i64) .neq t90 t92 fun t93 =>
  asB t93 fun b94 =>
  ifB b94 (
  K47 [[(.bool true)]] H) (
  idxS 1 t35 (sv s39 0) fun t97 =>
  loadP false 1 t97 H fun t98 =>
  lenSl t98 H fun t99 =>
  lenSl x1 H fun t101 =>
  binV (.int .i64) .mul (.int .i64 2) t101 fun t102 =>
  binV (.int .i64) .neq t99 t102 fun t103 =>
  K47 [[t103]] H)) fun s47 H =>
  asB (sv s47 0) fun b104 =>
  ifB b104 (
  Q (.bool false) H) (
  mkS 3 1 8 (zeroL Try.prog 3) (.int .i64 80) (.int .i64 80) H fun t105 H =>
  LoopPT (fun s60 H K60 =>
  idxS 1 t35 (sv s39 0) fun t109 =>
  loadP false 1 t109 H fun t110 =>
  lenSl t110 H fun t111 =>
  binV (.int .i64) .lss (sv s60 1) t111 fun t112 =>
  asB t112 fun b112 =>
  ifB b112 (
  idxS 1 t35 (sv s39 0) fun t117 =>
  loadP false 1 t117 H fun t118 =>
  idxS 1 t118 (sv s60 1) fun t120 =>
  loadP false 1 t120 H fun t121 =>
  JoinPT (fun K71 =>
  binV (.int .i64) .lss t121 (.int .i64 0) fun t123 =>
  asB t123 fun b124 =>
  ifB b124 (
  undef = undef ∧ (
  undef = undef ∧ (
  undef = undef ∧ (
  undef = undef ∧ (
  undef = undef ∧ (
  undef = undef ∧ (
  undef = undef ∧ (
  undef = undef ∧ (
  undef = undef ∧ (
  undef = undef ∧ (
  undef = undef ∧ (
  undef = undef ∧ (
  undef = undef ∧ (
  K71 [[(.bool true)]] H)))))))))))))) (
  lenSl x1 H fun t127 =>
  binV (.int .i64) .mul (.int .i64 2) t127 fun t128 =>
  binV (.int .i64) .geq t121 t128 fun t129 =>
  asB t129 fun b131 =>
  ifB b131 (
  undef = undef ∧ (
  undef = undef ∧ (
  undef = undef ∧ (
  undef = undef ∧ (
  undef = undef ∧ (
  undef = undef ∧ (
  undef = undef ∧ (
  undef = undef ∧ (
  undef = undef ∧ (
  undef = undef ∧ (
  undef = undef ∧ (
  undef = undef ∧ (
  undef = undef ∧ (
  K71 [[(.bool true)]] H)))))))))))))) (
  idxS 1 t105 t121 fun t134 =>
  loadP false 1 t134 H fun t135 =>
  binV (.int .i64) .gtr t135 (.int .i64 0) fun t136 =>
  asB t136 fun b138 =>
  ifB b138 (
  undef = undef ∧ (
  undef = undef ∧ (
  undef = undef ∧ (
  undef = undef ∧ (
  undef = undef ∧ (
  undef = undef ∧ (
  undef = undef ∧ (
  undef = undef ∧ (
  undef = undef ∧ (
  undef = undef ∧ (
  undef = undef ∧ (
  undef = undef ∧ (
  undef = undef ∧ (
  K71 [[(.bool true)]] H)))))))))))))) (
  binV (.int .i64) .rem (sv s60 1) (.int .i64 2) fun t140 =>
  binV (.int .i64) .eql t140 (.int .i64 0) fun t141 =>
  asB t141 fun b142 =>
  ifB b142 (
  idxS 1 t29 (sv s39 0) fun t146 =>
  loadP false 1 t146 H fun t147 =>
  binV (.int .i64) .quo (sv s60 1) (.int .i64 2) fun t149 =>
  idxS 1 t147 t149 fun t150 =>
  loadP false 1 t150 H fun t151 =>
  binV (.int .i64) .neq t121 t151 fun t152 =>
  asB t152 fun b155 =>
  ifB b155 (
  undef = undef ∧ (
  undef = undef ∧ (
  undef = undef ∧ (
  K71 [[(.bool true)]] H)))) (
  binV (.int .i64) .rem (sv s60 1) (.int .i64 2) fun t157 =>
  binV (.int .i64) .eql t157 (.int .i64 1) fun t158 =>
  asB t158 fun b159 =>
  ifB b159 (
  binV (.int .i64) .leq t121 (sv s60 0) fun t162 =>
  K71 [[t162]] H) (
  K71 [[(.bool false)]] H))) (
  binV (.int .i64) .rem (sv s60 1) (.int .i64 2) fun t157 =>
  binV (.int .i64) .eql t157 (.int .i64 1) fun t158 =>
  asB t158 fun b159 =>
  ifB b159 (
  binV (.int .i64) .leq t121 (sv s60 0) fun t162 =>
  K71 [[t162]] H) (
  K71 [[(.bool false)]] H)))))) fun s71 H =>
  asB (sv s71 0) fun b164 =>
  ifB b164 (
  Q (.bool false) H) (
  idxS 1 t105 t121 fun t167 =>
  loadP false 1 t167 H fun t168 =>
  binV (.int .i64) .add t168 (.int .i64 1) fun t169 =>
  idxS 1 t105 t121 fun t170 =>
  storeP false 1 t170 t169 H fun H =>
  binV (.int .i64) .rem (sv s60 1) (.int .i64 2) fun t172 =>
  binV (.int .i64) .eql t172 (.int .i64 1) fun t173 =>
  asB t173 fun b173 =>
  JoinPT (fun K81 =>
  ifB b173 (
  K81 [[t121]] H) (
  K81 [[(sv s60 0)]] H)) fun s81 H =>
  binV (.int .i64) .add (sv s60 1) (.int .i64 1) fun t114 =>
  K60 [[(sv s81 0)], [t114]] H)) (
  binV (.int .i64) .add (sv s39 0) (.int .i64 1) fun t85 =>
  K39 [[t85]] H)) [[(.int .i64 (-1))], [(.int .i64 0)]] H)) (
  Q t17 H)) [[(.int .i64 0)]] H)))
theorem S_law21_OrderOnce_of {x0_0 : Value} {x0_1 : Value} {x0_2 : Value} {x0_3 : Value} {x0_4 : Value} {x0_5 : Value} {x0_6 : Value} {x0_7 : Value} {x0_8 : Value} {x1 : Value} {H : Heap} {Q : Value → Heap → Prop} (h : S_law21_OrderOnce x0_0 x0_1 x0_2 x0_3 x0_4 x0_5 x0_6 x0_7 x0_8 x1 H Q) : callV Try.prog (fnV fn_law21_OrderOnce) [(.agg #[x0_0, x0_1, x0_2, x0_3, x0_4, x0_5, x0_6, x0_7, x0_8]), x1] H Q :=
  callV_fn (hcalls_of (pv := [2]) (ann := [(11, [46]), (26, [94]), (29, [8]), (32, [158]), (39, [24]), (47, [208]), (60, [28, 30]), (71, [328]), (81, [28])]) Try.func9 (by kernel_rfl) (Eq.mpr (by kernel_rfl) h))

/-- thimblerig/thimbleriglaw21.OrderNames -/
def S_law21_OrderNames  (H : Heap) (Q : Value → Heap → Prop) : Prop :=
  JoinPT (fun K8 =>
  (callV Try.prog (fnV fn_law21_one) [] H fun t14 H =>
  mkS 90 4 48 (zeroL Try.prog 90) (.int .i64 513) (.int .i64 513) H fun t15 H =>
  callV Try.prog (fnV fn_order_Cells) [t14, t15] H fun t16 H =>
  extractV 0 t16 fun t17 =>
  extractV 1 t16 fun t18 =>
  K8 [[t18]] H) ∧
  (mkS 90 4 48 (zeroL Try.prog 90) (.int .i64 513) (.int .i64 513) H fun t15 H =>
  callV Try.prog (fnV fn_law21_one) [] H fun t14 H =>
  callV Try.prog (fnV fn_order_Cells) [t14, t15] H fun t16 H =>
  extractV 0 t16 fun t17 =>
  extractV 1 t16 fun t18 =>
  K8 [[t18]] H)) fun s8 H =>
  callV Try.prog (fnV fn_law21_one) [] H fun t20 H =>
  bldS 90 4 true (zeroL Try.prog 90) 1 [(0, (.agg #[(.int .u8 3), (.int .i64 0), (.int .i64 0), (.slice none 0 0)]))] H fun t22 H =>
  callV Try.prog (fnV fn_order_Perm) [t20, t22] H fun t23 H =>
  extractV 0 t23 fun t24 =>
  extractV 1 t23 fun t25 =>
  bldS 3 1 false (zeroL Try.prog 3) 2 [(0, (.int .i64 0)), (1, (.int .i64 0))] H fun t27 H =>
  bldS 30 1 false (zeroL Try.prog 30) 2 [(0, (.int .u32 1)), (1, (.int .u32 2))] H fun t28 H =>
  callV Try.prog (fnV fn_order_Apply) [t27, t28] H fun t29 H =>
  extractV 0 t29 fun t30 =>
  extractV 1 t29 fun t31 =>
  bldS 3 1 false (zeroL Try.prog 3) 2 [(0, (.int .i64 0)), (1, (.int .i64 1))] H fun t33 H =>
  bldS 30 1 false (zeroL Try.prog 30) 1 [(0, (.int .u32 1))] H fun t34 H =>
  callV Try.prog (fnV fn_order_Undo) [t33, t34] H fun t35 H =>
  extractV 0 t35 fun t36 =>
  extractV 1 t35 fun t37 =>
  callV Try.prog (fnV fn_order_Cells) [(.agg #[(.int .i64 0), (.int .i64 0), (.int .i64 0), (.int .i64 0), (.int .i64 0), (.int .i64 0), (.int .i64 0), (.int .i64 0), (.int .i64 0)]), (.slice none 0 0)] H fun t40 H =>
  extractV 0 t40 fun t41 =>
  extractV 1 t40 fun t42 =>
  JoinPT (fun K23 =>
  (mkS 3 1 8 (zeroL Try.prog 3) (.int .i64 1025) (.int .i64 1025) H fun t44 H =>
  mkS 30 1 4 (zeroL Try.prog 30) (.int .i64 1025) (.int .i64 1025) H fun t45 H =>
  callV Try.prog (fnV fn_order_Apply) [t44, t45] H fun t46 H =>
  extractV 0 t46 fun t47 =>
  extractV 1 t46 fun t48 =>
  K23 [[t48]] H) ∧
  (mkS 30 1 4 (zeroL Try.prog 30) (.int .i64 1025) (.int .i64 1025) H fun t45 H =>
  mkS 3 1 8 (zeroL Try.prog 3) (.int .i64 1025) (.int .i64 1025) H fun t44 H =>
  callV Try.prog (fnV fn_order_Apply) [t44, t45] H fun t46 H =>
  extractV 0 t46 fun t47 =>
  extractV 1 t46 fun t48 =>
  K23 [[t48]] H)) fun s23 H =>
  JoinPT (fun K26 =>
  callV Try.prog (fnV fn_law21_alive) [] H fun t50 H =>
  asB t50 fun b52 =>
  ifB b52 (
  binV (.int .i64) .eql (sv s8 0) (.int .i64 4) fun t54 =>
  asB t54 fun b56 =>
  ifB b56 (
  binV (.int .i64) .eql t25 (.int .i64 2) fun t58 =>
  asB t58 fun b60 =>
  ifB b60 (
  binV (.int .i64) .eql t31 (.int .i64 2) fun t62 =>
  asB t62 fun b64 =>
  ifB b64 (
  binV (.int .i64) .eql t37 (.int .i64 2) fun t66 =>
  asB t66 fun b68 =>
  ifB b68 (
  binV (.int .i64) .eql t42 (.int .i64 8) fun t70 =>
  asB t70 fun b72 =>
  ifB b72 (
  binV (.int .i64) .eql (sv s23 0) (.int .i64 4) fun t74 =>
  K26 [[t74]] H) (
  K26 [[(.bool false)]] H)) (
  K26 [[(.bool false)]] H)) (
  K26 [[(.bool false)]] H)) (
  K26 [[(.bool false)]] H)) (
  K26 [[(.bool false)]] H)) (
  K26 [[(.bool false)]] H)) fun s26 H =>
  Q (sv s26 0) H
theorem S_law21_OrderNames_of  {H : Heap} {Q : Value → Heap → Prop} (h : S_law21_OrderNames H Q) : callV Try.prog (fnV fn_law21_OrderNames) [] H Q :=
  callV_fn (hcalls_of (pv := []) (ann := [(8, [4]), (23, [24]), (26, [0])]) Try.func12 (by kernel_rfl) (Eq.mpr (by kernel_rfl) h))

/-- thimblerig/thimbleriglaw21.OrderBack -/
def S_law21_OrderBack (x0_0 : Value) (x0_1 : Value) (x0_2 : Value) (x0_3 : Value) (x0_4 : Value) (x0_5 : Value) (x0_6 : Value) (x0_7 : Value) (x0_8 : Value) (x1 : Value) (x2 : Value) (H : Heap) (Q : Value → Heap → Prop) : Prop :=
  newT H fun H =>
  callV Try.prog (fnV fn_law21_alive) [] H fun t19 H =>
  JoinPT (fun K11 =>
  callV Try.prog (fnV fn_ref21_GreatUnits) [x1, (.int .i64 40)] H fun t21 H =>
  asB t21 fun b22 =>
  ifB b22 (
  K11 [[(.bool true)]] H) (
  lenSl x2 H fun t24 =>
  binV (.int .i64) .gtr t24 (.int .i64 100) fun t25 =>
  asB t25 fun b27 =>
  ifB b27 (
  K11 [[(.bool true)]] H) (
  unV .not t19 fun t29 =>
  K11 [[t29]] H))) fun s11 H =>
  asB (sv s11 0) fun b30 =>
  ifB b30 (
  Q t19 H) (
  callV Try.prog (fnV fn_order_Perm) [(.agg #[x0_0, x0_1, x0_2, x0_3, x0_4, x0_5, x0_6, x0_7, x0_8]), x1] H fun t35 H =>
  extractV 0 t35 fun t36 =>
  extractV 1 t35 fun t37 =>
  binV (.int .i64) .neq t37 (.int .i64 0) fun t39 =>
  asB t39 fun b39 =>
  ifB b39 (
  Q t19 H) (
  LoopPT (fun s27 H K27 =>
  lenSl t36 H fun t43 =>
  binV (.int .i64) .lss (sv s27 0) t43 fun t44 =>
  asB t44 fun b44 =>
  ifB b44 (
  JoinPT (fun K34 =>
  idxS 1 t36 (sv s27 0) fun t50 =>
  loadP false 1 t50 H fun t51 =>
  callV Try.prog (fnV fn_order_Apply) [t51, x2] H fun t53 H =>
  extractV 0 t53 fun t54 =>
  extractV 1 t53 fun t55 =>
  idxS 1 t36 (sv s27 0) fun t59 =>
  loadP false 1 t59 H fun t60 =>
  callV Try.prog (fnV fn_order_Undo) [t60, t54] H fun t62 H =>
  extractV 0 t62 fun t63 =>
  extractV 1 t62 fun t64 =>
  idxS 1 t36 (sv s27 0) fun t68 =>
  loadP false 1 t68 H fun t69 =>
  callV Try.prog (fnV fn_order_Undo) [t69, x2] H fun t71 H =>
  extractV 0 t71 fun t72 =>
  extractV 1 t71 fun t73 =>
  idxS 1 t36 (sv s27 0) fun t77 =>
  loadP false 1 t77 H fun t78 =>
  callV Try.prog (fnV fn_order_Apply) [t78, t72] H fun t80 H =>
  extractV 0 t80 fun t81 =>
  extractV 1 t80 fun t82 =>
  lenSl x2 H fun t84 =>
  lenSl x1 H fun t86 =>
  binV (.int .i64) .mul (.int .i64 2) t86 fun t87 =>
  binV (.int .i64) .neq t84 t87 fun t88 =>
  asB t88 fun b88 =>
  ifB b88 (
  JoinPT (fun K50 =>
  binV (.int .i64) .neq t55 (.int .i64 2) fun t90 =>
  asB t90 fun b91 =>
  ifB b91 (
  K50 [[(.bool true)]] H) (
  binV (.int .i64) .neq t73 (.int .i64 2) fun t93 =>
  K50 [[t93]] H)) fun s50 H =>
  asB (sv s50 0) fun b94 =>
  ifB b94 (
  Q (.bool false) H) (
  K34 [] H)) (
  JoinPT (fun K56 =>
  binV (.int .i64) .neq t55 (.int .i64 0) fun t96 =>
  asB t96 fun b97 =>
  ifB b97 (
  K56 [[(.bool true)]] H) (
  binV (.int .i64) .neq t64 (.int .i64 0) fun t99 =>
  asB t99 fun b101 =>
  ifB b101 (
  K56 [[(.bool true)]] H) (
  binV (.int .i64) .neq t73 (.int .i64 0) fun t103 =>
  asB t103 fun b105 =>
  ifB b105 (
  K56 [[(.bool true)]] H) (
  binV (.int .i64) .neq t82 (.int .i64 0) fun t107 =>
  asB t107 fun b109 =>
  ifB b109 (
  K56 [[(.bool true)]] H) (
  callV Try.prog (fnV fn_ref21_SameCells) [t63, x2] H fun t112 H =>
  unV .not t112 fun t113 =>
  asB t113 fun b115 =>
  ifB b115 (
  K56 [[(.bool true)]] H) (
  callV Try.prog (fnV fn_ref21_SameCells) [t81, x2] H fun t118 H =>
  unV .not t118 fun t119 =>
  K56 [[t119]] H)))))) fun s56 H =>
  asB (sv s56 0) fun b120 =>
  ifB b120 (
  Q (.bool false) H) (
  K34 [] H))) fun s34 H =>
  binV (.int .i64) .add (sv s27 0) (.int .i64 1) fun t46 =>
  K27 [[t46]] H) (
  Q t19 H)) [[(.int .i64 0)]] H))
theorem S_law21_OrderBack_of {x0_0 : Value} {x0_1 : Value} {x0_2 : Value} {x0_3 : Value} {x0_4 : Value} {x0_5 : Value} {x0_6 : Value} {x0_7 : Value} {x0_8 : Value} {x1 : Value} {x2 : Value} {H : Heap} {Q : Value → Heap → Prop} (h : S_law21_OrderBack x0_0 x0_1 x0_2 x0_3 x0_4 x0_5 x0_6 x0_7 x0_8 x1 x2 H Q) : callV Try.prog (fnV fn_law21_OrderBack) [(.agg #[x0_0, x0_1, x0_2, x0_3, x0_4, x0_5, x0_6, x0_7, x0_8]), x1, x2] H Q :=
  callV_fn (hcalls_of (pv := [3]) (ann := [(11, [60]), (27, [20]), (34, []), (50, [188]), (56, [240])]) Try.func13 (by kernel_rfl) (Eq.mpr (by kernel_rfl) h))

/-- thimblerig/thimbleriglaw21.sameAll -/
def S_law21_sameAll (x0 : Value) (x1 : Value) (H : Heap) (Q : Value → Heap → Prop) : Prop :=
  lenSl x0 H fun t7 =>
  lenSl x1 H fun t9 =>
  binV (.int .i64) .neq t7 t9 fun t10 =>
  asB t10 fun b10 =>
  ifB b10 (
  Q (.bool false) H) (
  LoopPT (fun s15 H K15 =>
  lenSl x0 H fun t13 =>
  binV (.int .i64) .lss (sv s15 0) t13 fun t14 =>
  asB t14 fun b14 =>
  ifB b14 (
  idxS 1 x0 (sv s15 0) fun t19 =>
  loadP false 1 t19 H fun t20 =>
  idxS 1 x1 (sv s15 0) fun t23 =>
  loadP false 1 t23 H fun t24 =>
  callV Try.prog (fnV fn_ref01_SameInts) [t20, t24] H fun t25 H =>
  unV .not t25 fun t26 =>
  asB t26 fun b26 =>
  ifB b26 (
  Q (.bool false) H) (
  binV (.int .i64) .add (sv s15 0) (.int .i64 1) fun t16 =>
  K15 [[t16]] H)) (
  Q (.bool true) H)) [[(.int .i64 0)]] H)
theorem S_law21_sameAll_of {x0 : Value} {x1 : Value} {H : Heap} {Q : Value → Heap → Prop} (h : S_law21_sameAll x0 x1 H Q) : callV Try.prog (fnV fn_law21_sameAll) [x0, x1] H Q :=
  callV_fn (hcalls_of (pv := []) (ann := [(15, [10])]) Try.func40 (by kernel_rfl) (Eq.mpr (by kernel_rfl) h))

/-- thimblerig/thimbleriglaw21.alive -/
def S_law21_alive  (H : Heap) (Q : Value → Heap → Prop) : Prop :=
  callV Try.prog (fnV fn_law21_one) [] H fun t8 H =>
  callV Try.prog (fnV fn_law21_three) [] H fun t9 H =>
  callV Try.prog (fnV fn_order_Cells) [t8, t9] H fun t10 H =>
  extractV 0 t10 fun t11 =>
  extractV 1 t10 fun t12 =>
  callV Try.prog (fnV fn_law21_one) [] H fun t14 H =>
  callV Try.prog (fnV fn_law21_three) [] H fun t15 H =>
  callV Try.prog (fnV fn_order_Perm) [t14, t15] H fun t16 H =>
  extractV 0 t16 fun t17 =>
  extractV 1 t16 fun t18 =>
  JoinPT (fun K14 =>
  binV (.int .i64) .neq t12 (.int .i64 0) fun t20 =>
  asB t20 fun b21 =>
  ifB b21 (
  K14 [[(.bool true)]] H) (
  binV (.int .i64) .neq t18 (.int .i64 0) fun t23 =>
  asB t23 fun b25 =>
  ifB b25 (
  K14 [[(.bool true)]] H) (
  lenSl t11 H fun t27 =>
  binV (.int .i64) .neq t27 (.int .i64 1) fun t28 =>
  asB t28 fun b30 =>
  ifB b30 (
  K14 [[(.bool true)]] H) (
  lenSl t17 H fun t32 =>
  binV (.int .i64) .neq t32 (.int .i64 1) fun t33 =>
  K14 [[t33]] H)))) fun s14 H =>
  asB (sv s14 0) fun b34 =>
  ifB b34 (
  Q (.bool false) H) (
  idxS 1 t17 (.int .i64 0) fun t37 =>
  loadP false 1 t37 H fun t38 =>
  bldS 30 1 false (zeroL Try.prog 30) 6 [(0, (.int .u32 97)), (1, (.int .u32 98)), (2, (.int .u32 99)), (3, (.int .u32 100)), (4, (.int .u32 101)), (5, (.int .u32 102))] H fun t39 H =>
  callV Try.prog (fnV fn_order_Apply) [t38, t39] H fun t40 H =>
  extractV 0 t40 fun t41 =>
  extractV 1 t40 fun t42 =>
  JoinPT (fun K23 =>
  idxS 1 t11 (.int .i64 0) fun t44 =>
  loadP false 1 t44 H fun t45 =>
  bldS 3 1 false (zeroL Try.prog 3) 3 [(0, (.int .i64 1)), (1, (.int .i64 3)), (2, (.int .i64 0))] H fun t46 H =>
  callV Try.prog (fnV fn_ref01_SameInts) [t45, t46] H fun t47 H =>
  asB t47 fun b48 =>
  ifB b48 (
  idxS 1 t17 (.int .i64 0) fun t50 =>
  loadP false 1 t50 H fun t51 =>
  bldS 3 1 false (zeroL Try.prog 3) 6 [(0, (.int .i64 1)), (1, (.int .i64 2)), (2, (.int .i64 3)), (3, (.int .i64 4)), (4, (.int .i64 0)), (5, (.int .i64 5))] H fun t52 H =>
  callV Try.prog (fnV fn_ref01_SameInts) [t51, t52] H fun t53 H =>
  asB t53 fun b55 =>
  ifB b55 (
  binV (.int .i64) .eql t42 (.int .i64 0) fun t57 =>
  asB t57 fun b59 =>
  ifB b59 (
  bldS 30 1 false (zeroL Try.prog 30) 6 [(0, (.int .u32 98)), (1, (.int .u32 99)), (2, (.int .u32 100)), (3, (.int .u32 101)), (4, (.int .u32 97)), (5, (.int .u32 102))] H fun t61 H =>
  callV Try.prog (fnV fn_ref21_SameCells) [t41, t61] H fun t62 H =>
  K23 [[t62]] H) (
  K23 [[(.bool false)]] H)) (
  K23 [[(.bool false)]] H)) (
  K23 [[(.bool false)]] H)) fun s23 H =>
  Q (sv s23 0) H)
theorem S_law21_alive_of  {H : Heap} {Q : Value → Heap → Prop} (h : S_law21_alive H Q) : callV Try.prog (fnV fn_law21_alive) [] H Q :=
  callV_fn (hcalls_of (pv := []) (ann := [(14, [68]), (23, [0])]) Try.func49 (by kernel_rfl) (Eq.mpr (by kernel_rfl) h))

/-- thimblerig/thimbleriglaw21.one -/
def S_law21_one  (H : Heap) (Q : Value → Heap → Prop) : Prop :=
  newT H fun H =>
  Q (.agg #[(.int .i64 2), (.int .i64 1), (.int .i64 2), (.int .i64 1), (.int .i64 2), (.int .i64 1), (.int .i64 1), (.int .i64 1), (.int .i64 2)]) H
theorem S_law21_one_of  {H : Heap} {Q : Value → Heap → Prop} (h : S_law21_one H Q) : callV Try.prog (fnV fn_law21_one) [] H Q :=
  callV_fn (hcalls_of (pv := [0]) (ann := []) Try.func54 (by kernel_rfl) (Eq.mpr (by kernel_rfl) h))

/-- thimblerig/thimbleriglaw21.three -/
def S_law21_three  (H : Heap) (Q : Value → Heap → Prop) : Prop :=
  bldS 5 1 false (zeroL Try.prog 5) 1 [(0, (.int .u8 1))] H fun t3 H =>
  ifB (okc t3) (
  bldS 90 4 true (zeroL Try.prog 90) 3 [(0, (.agg #[(.int .u8 1), (.int .i64 1), (.int .i64 0), (.slice none 0 0)])), (1, (.agg #[(.int .u8 0), (.int .i64 0), (.int .i64 0), (.slice none 0 0)])), (2, (.agg #[(.int .u8 2), (.int .i64 1), (.int .i64 0), t3]))] H fun t5 H =>
  Q t5 H) False
theorem S_law21_three_of  {H : Heap} {Q : Value → Heap → Prop} (h : S_law21_three H Q) : callV Try.prog (fnV fn_law21_three) [] H Q :=
  callV_fn (hcalls_of (pv := []) (ann := []) Try.func99 (by kernel_rfl) (Eq.mpr (by kernel_rfl) h))

end Go.Proofs.Ytikebhnnmnlgaaa
