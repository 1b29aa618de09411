/- Written by sh.py: what functions do, out of the deep reading; each is joined to the program by the kernel. -/
import Derived.Test.YtlalkgkicccjiaaShNames
namespace Go.Proofs.Ytlalkgkicccjiaa
open Go.Ab
set_option linter.unusedVariables false
set_option linter.unusedSimpArgs false
set_option maxRecDepth 100000

/-- thimblerig/thimbleriglaw22.CanonTells -/
def S_law22_CanonTells (x0_0 : Value) (x0_1 : Value) (x0_2 : Value) (x0_3 : Value) (x0_4 : Value) (x0_5 : Value) (x0_6 : Value) (x0_7 : Value) (x0_8 : Value) (x1 : Value) (x2 : Value) (x3 : Value) (x4 : Value) (H : Heap) (Q : Value → Heap → Prop) : Prop :=
  newT H fun H =>
  JoinPT (fun K8 =>
  callV Try.prog (fnV fn_ref22_Great) [x1, x2] H fun t26 H =>
  asB t26 fun b27 =>
  ifB b27 (
  K8 [[(.bool true)]] H) (
  callV Try.prog (fnV fn_ref12_GreatSees) [x4] H fun t29 H =>
  K8 [[t29]] H)) fun s8 H =>
  asB (sv s8 0) fun b30 =>
  ifB b30 (
  Q (.bool true) H) (
  callV Try.prog (fnV fn_ref22_TwinLanes) [x1] H fun t32 H =>
  callV Try.prog (fnV fn_ref12_TwinAll) [x2] H fun t34 H =>
  callV Try.prog (fnV fn_canon_Count) [(.agg #[x0_0, x0_1, x0_2, x0_3, x0_4, x0_5, x0_6, x0_7, x0_8]), x3] H fun t38 H =>
  extractV 0 t38 fun t39 =>
  extractV 1 t38 fun t40 =>
  callV Try.prog (fnV fn_ref22_Count) [(.agg #[x0_0, x0_1, x0_2, x0_3, x0_4, x0_5, x0_6, x0_7, x0_8]), x3] H fun t44 H =>
  extractV 0 t44 fun t45 =>
  extractV 1 t44 fun t46 =>
  callV Try.prog (fnV fn_canon_Trace) [(.agg #[x0_0, x0_1, x0_2, x0_3, x0_4, x0_5, x0_6, x0_7, x0_8]), t32, t34, x3] H fun t52 H =>
  extractV 0 t52 fun t53 =>
  extractV 1 t52 fun t54 =>
  callV Try.prog (fnV fn_ref22_Trace) [(.agg #[x0_0, x0_1, x0_2, x0_3, x0_4, x0_5, x0_6, x0_7, x0_8]), x1, x2, x3] H fun t60 H =>
  extractV 0 t60 fun t61 =>
  extractV 1 t60 fun t62 =>
  JoinPT (fun K29 =>
  binV (.int .i64) .eql t39 t45 fun t65 =>
  asB t65 fun b66 =>
  ifB b66 (
  binV (.int .i64) .eql t40 t46 fun t69 =>
  asB t69 fun b71 =>
  ifB b71 (
  callV Try.prog (fnV fn_ref12_SameSees) [t53, t61] H fun t74 H =>
  asB t74 fun b76 =>
  ifB b76 (
  binV (.int .i64) .eql t54 t62 fun t79 =>
  asB t79 fun b81 =>
  ifB b81 (
  callV Try.prog (fnV fn_canon_Written) [x4] H fun t83 H =>
  callV Try.prog (fnV fn_ref22_Written) [x4] H fun t85 H =>
  callV Try.prog (fnV fn_ref01_SameAll) [t83, t85] H fun t86 H =>
  K29 [[t86]] H) (
  K29 [[(.bool false)]] H)) (
  K29 [[(.bool false)]] H)) (
  K29 [[(.bool false)]] H)) (
  K29 [[(.bool false)]] H)) fun s29 H =>
  LoopPT (fun s33 H K33 =>
  lenSl t53 H fun t90 =>
  binV (.int .i64) .lss (sv s33 0) t90 fun t91 =>
  asB t91 fun b91 =>
  ifB b91 (
  LoopPT (fun s42 H K42 =>
  idxS 4 t53 (sv s33 0) fun t97 =>
  fldP 3 t97 fun t98 =>
  loadP false 1 t98 H fun t99 =>
  lenSl t99 H fun t100 =>
  binV (.int .i64) .lss (sv s42 0) t100 fun t101 =>
  asB t101 fun b101 =>
  ifB b101 (
  idxS 4 t53 (sv s33 0) fun t106 =>
  fldP 3 t106 fun t107 =>
  loadP false 1 t107 H fun t108 =>
  idxS 4 t53 (sv s33 0) fun t112 =>
  fldP 3 t112 fun t113 =>
  loadP false 1 t113 H fun t114 =>
  idxS 1 t114 (sv s42 0) fun t116 =>
  loadP false 1 t116 H fun t117 =>
  binV (.int .u8) .add t117 (.int .u8 1) fun t118 =>
  idxS 1 t108 (sv s42 0) fun t119 =>
  storeP false 1 t119 t118 H fun H =>
  binV (.int .i64) .add (sv s42 0) (.int .i64 1) fun t103 =>
  K42 [[t103]] H) (
  binV (.int .i64) .add (sv s33 0) (.int .i64 1) fun t93 =>
  K33 [[t93]] H)) [[(.int .i64 0)]] H) (
  JoinPT (fun K53 =>
  asB (sv s29 0) fun b121 =>
  ifB b121 (
  callV Try.prog (fnV fn_ref22_SameLanes) [t32, x1] H fun t124 H =>
  asB t124 fun b126 =>
  ifB b126 (
  callV Try.prog (fnV fn_ref01_SameAll) [t34, x2] H fun t129 H =>
  K53 [[t129]] H) (
  K53 [[(.bool false)]] H)) (
  K53 [[(.bool false)]] H)) fun s53 H =>
  Q (sv s53 0) H)) [[(.int .i64 0)]] H)
theorem S_law22_CanonTells_of {x0_0 : Value} {x0_1 : Value} {x0_2 : Value} {x0_3 : Value} {x0_4 : Value} {x0_5 : Value} {x0_6 : Value} {x0_7 : Value} {x0_8 : Value} {x1 : Value} {x2 : Value} {x3 : Value} {x4 : Value} {H : Heap} {Q : Value → Heap → Prop} (h : S_law22_CanonTells x0_0 x0_1 x0_2 x0_3 x0_4 x0_5 x0_6 x0_7 x0_8 x1 x2 x3 x4 H Q) : callV Try.prog (fnV fn_law22_CanonTells) [(.agg #[x0_0, x0_1, x0_2, x0_3, x0_4, x0_5, x0_6, x0_7, x0_8]), x1, x2, x3, x4] H Q :=
  callV_fn (hcalls_of (pv := [5]) (ann := [(8, [60]), (29, [42]), (33, [44]), (42, [46]), (53, [20])]) Try.func3 (by kernel_rfl) (Eq.mpr (by kernel_rfl) h))

/-- thimblerig/thimblerigref22.Great -/
def S_ref22_Great (x0 : Value) (x1 : Value) (H : Heap) (Q : Value → Heap → Prop) : Prop :=
  LoopPT (fun s9 H K9 =>
  JoinPT (fun K11 =>
  lenSl x0 H fun t9 =>
  binV (.int .i64) .lss (sv s9 0) t9 fun t10 =>
  asB t10 fun b11 =>
  ifB b11 (
  binV (.int .i64) .lss (sv s9 0) (.int .i64 10) fun t13 =>
  K11 [[t13]] H) (
  K11 [[(.bool false)]] H)) fun s11 H =>
  asB (sv s11 0) fun b14 =>
  ifB b14 (
  idxS 1 x0 (sv s9 0) fun t19 =>
  loadP false 1 t19 H fun t20 =>
  lenSl t20 H fun t21 =>
  binV (.int .i64) .gtr t21 (.int .i64 100) fun t22 =>
  asB t22 fun b22 =>
  ifB b22 (
  Q (.bool true) H) (
  binV (.int .i64) .add (sv s9 0) (.int .i64 1) fun t16 =>
  K9 [[t16]] H)) (
  LoopPT (fun s24 H K24 =>
  JoinPT (fun K26 =>
  lenSl x1 H fun t25 =>
  binV (.int .i64) .lss (sv s24 0) t25 fun t26 =>
  asB t26 fun b27 =>
  ifB b27 (
  binV (.int .i64) .lss (sv s24 0) (.int .i64 1000) fun t29 =>
  K26 [[t29]] H) (
  K26 [[(.bool false)]] H)) fun s26 H =>
  asB (sv s26 0) fun b30 =>
  ifB b30 (
  idxS 1 x1 (sv s24 0) fun t35 =>
  loadP false 1 t35 H fun t36 =>
  lenSl t36 H fun t37 =>
  binV (.int .i64) .gtr t37 (.int .i64 400) fun t38 =>
  asB t38 fun b38 =>
  ifB b38 (
  Q (.bool true) H) (
  binV (.int .i64) .add (sv s24 0) (.int .i64 1) fun t32 =>
  K24 [[t32]] H)) (
  JoinPT (fun K38 =>
  lenSl x0 H fun t40 =>
  binV (.int .i64) .gtr t40 (.int .i64 6) fun t41 =>
  asB t41 fun b42 =>
  ifB b42 (
  K38 [[(.bool true)]] H) (
  lenSl x1 H fun t44 =>
  binV (.int .i64) .gtr t44 (.int .i64 600) fun t45 =>
  K38 [[t45]] H)) fun s38 H =>
  Q (sv s38 0) H)) [[(.int .i64 0)]] H)) [[(.int .i64 0)]] H
theorem S_ref22_Great_of {x0 : Value} {x1 : Value} {H : Heap} {Q : Value → Heap → Prop} (h : S_ref22_Great x0 x1 H Q) : callV Try.prog (fnV fn_ref22_Great) [x0, x1] H Q :=
  callV_fn (hcalls_of (pv := []) (ann := [(9, [10]), (11, [28]), (24, [12]), (26, [60]), (38, [8])]) Try.func4 (by kernel_rfl) (Eq.mpr (by kernel_rfl) h))

/-- thimblerig/thimblerigref22.TwinLanes -/
def S_ref22_TwinLanes (x0 : Value) (H : Heap) (Q : Value → Heap → Prop) : Prop :=
  LoopPT (fun s12 H K12 =>
  lenSl x0 H fun t7 =>
  binV (.int .i64) .lss (sv s12 1) t7 fun t8 =>
  asB t8 fun b8 =>
  ifB b8 (
  bldS 99 1 false (zeroL Try.prog 99) 0 [] H fun t12 H =>
  idxS 1 x0 (sv s12 1) fun t15 =>
  loadP false 1 t15 H fun t16 =>
  appS 99 1 4 (zeroL Try.prog 99) t12 t16 H fun t17 H =>
  bldS 48 1 false (zeroL Try.prog 48) 1 [(0, t17)] H fun t18 H =>
  appS 48 1 24 (zeroL Try.prog 48) (sv s12 0) t18 H fun t19 H =>
  binV (.int .i64) .add (sv s12 1) (.int .i64 1) fun t10 =>
  K12 [[t19], [t10]] H) (
  Q (sv s12 0) H)) [[(.slice none 0 0)], [(.int .i64 0)]] H
theorem S_ref22_TwinLanes_of {x0 : Value} {H : Heap} {Q : Value → Heap → Prop} (h : S_ref22_TwinLanes x0 H Q) : callV Try.prog (fnV fn_ref22_TwinLanes) [x0] H Q :=
  callV_fn (hcalls_of (pv := []) (ann := [(12, [6, 8])]) Try.func6 (by kernel_rfl) (Eq.mpr (by kernel_rfl) h))

/-- thimblerig/thimblerigref22.Count -/
def S_ref22_Count (x0_0 : Value) (x0_1 : Value) (x0_2 : Value) (x0_3 : Value) (x0_4 : Value) (x0_5 : Value) (x0_6 : Value) (x0_7 : Value) (x0_8 : Value) (x1 : Value) (H : Heap) (Q : Value → Heap → Prop) : Prop :=
  newT H fun H =>
  callV Try.prog (fnV fn_ref08_May) [(.agg #[x0_0, x0_1, x0_2, x0_3, x0_4, x0_5, x0_6, x0_7, x0_8])] H fun t7 H =>
  unV .not t7 fun t8 =>
  asB t8 fun b8 =>
  ifB b8 (
  Q (.tuple #[(.int .i64 0), (.int .i64 8)]) H) (
  JoinPT (fun K14 =>
  binV (.int .i64) .lss x1 (.int .i64 0) fun t10 =>
  asB t10 fun b11 =>
  ifB b11 (
  K14 [[(.bool true)]] H) (
  binV (.int .i64) .gtr x1 (.int .i64 512) fun t13 =>
  K14 [[t13]] H)) fun s14 H =>
  asB (sv s14 0) fun b14 =>
  ifB b14 (
  Q (.tuple #[(.int .i64 0), (.int .i64 4)]) H) (
  callV Try.prog (fnV fn_ref22_Many) [(.agg #[x0_0, x0_1, x0_2, x0_3, x0_4, x0_5, x0_6, x0_7, x0_8]), x1] H fun t17 H =>
  Q (.tuple #[t17, (.int .i64 0)]) H))
theorem S_ref22_Count_of {x0_0 : Value} {x0_1 : Value} {x0_2 : Value} {x0_3 : Value} {x0_4 : Value} {x0_5 : Value} {x0_6 : Value} {x0_7 : Value} {x0_8 : Value} {x1 : Value} {H : Heap} {Q : Value → Heap → Prop} (h : S_ref22_Count x0_0 x0_1 x0_2 x0_3 x0_4 x0_5 x0_6 x0_7 x0_8 x1 H Q) : callV Try.prog (fnV fn_ref22_Count) [(.agg #[x0_0, x0_1, x0_2, x0_3, x0_4, x0_5, x0_6, x0_7, x0_8]), x1] H Q :=
  callV_fn (hcalls_of (pv := [2]) (ann := [(14, [28])]) Try.func9 (by kernel_rfl) (Eq.mpr (by kernel_rfl) h))

/-- thimblerig/thimblerigref22.Trace -/
def S_ref22_Trace (x0_0 : Value) (x0_1 : Value) (x0_2 : Value) (x0_3 : Value) (x0_4 : Value) (x0_5 : Value) (x0_6 : Value) (x0_7 : Value) (x0_8 : Value) (x1 : Value) (x2 : Value) (x3 : Value) (H : Heap) (Q : Value → Heap → Prop) : Prop :=
  newT H fun H =>
  callV Try.prog (fnV fn_ref22_Count) [(.agg #[x0_0, x0_1, x0_2, x0_3, x0_4, x0_5, x0_6, x0_7, x0_8]), x3] H fun t15 H =>
  extractV 0 t15 fun t16 =>
  extractV 1 t15 fun t17 =>
  binV (.int .i64) .neq t17 (.int .i64 0) fun t19 =>
  asB t19 fun b19 =>
  ifB b19 (
  Q (.tuple #[(.slice none 0 0), t17]) H) (
  callV Try.prog (fnV fn_ref22_Texts) [(.agg #[x0_0, x0_1, x0_2, x0_3, x0_4, x0_5, x0_6, x0_7, x0_8]), x1, x2, x3] H fun t25 H =>
  unV .not t25 fun t26 =>
  asB t26 fun b26 =>
  ifB b26 (
  Q (.tuple #[(.slice none 0 0), (.int .i64 2)]) H) (
  callV Try.prog (fnV fn_ref22_Seen) [(.agg #[x0_0, x0_1, x0_2, x0_3, x0_4, x0_5, x0_6, x0_7, x0_8]), x1, x2, x3] H fun t31 H =>
  Q (.tuple #[t31, (.int .i64 0)]) H))
theorem S_ref22_Trace_of {x0_0 : Value} {x0_1 : Value} {x0_2 : Value} {x0_3 : Value} {x0_4 : Value} {x0_5 : Value} {x0_6 : Value} {x0_7 : Value} {x0_8 : Value} {x1 : Value} {x2 : Value} {x3 : Value} {H : Heap} {Q : Value → Heap → Prop} (h : S_ref22_Trace x0_0 x0_1 x0_2 x0_3 x0_4 x0_5 x0_6 x0_7 x0_8 x1 x2 x3 H Q) : callV Try.prog (fnV fn_ref22_Trace) [(.agg #[x0_0, x0_1, x0_2, x0_3, x0_4, x0_5, x0_6, x0_7, x0_8]), x1, x2, x3] H Q :=
  callV_fn (hcalls_of (pv := [4]) (ann := []) Try.func11 (by kernel_rfl) (Eq.mpr (by kernel_rfl) h))

/-- thimblerig/thimblerigref22.Written -/
def S_ref22_Written (x0 : Value) (H : Heap) (Q : Value → Heap → Prop) : Prop :=
  LoopPT (fun s12 H K12 =>
  lenSl x0 H fun t7 =>
  binV (.int .i64) .lss (sv s12 1) t7 fun t8 =>
  asB t8 fun b8 =>
  ifB b8 (
  idxS 4 x0 (sv s12 1) fun t13 =>
  fldP 0 t13 fun t14 =>
  loadP false 1 t14 H fun t15 =>
  binV (.int .u8) .eql t15 (.int .u8 2) fun t16 =>
  asB t16 fun b16 =>
  JoinPT (fun K21 =>
  ifB b16 (
  bldS 5 1 false (zeroL Try.prog 5) 0 [] H fun t18 H =>
  idxS 4 x0 (sv s12 1) fun t21 =>
  fldP 3 t21 fun t22 =>
  loadP false 1 t22 H fun t23 =>
  appS 5 1 1 (zeroL Try.prog 5) t18 t23 H fun t24 H =>
  bldS 43 1 false (zeroL Try.prog 43) 1 [(0, t24)] H fun t25 H =>
  appS 43 1 24 (zeroL Try.prog 43) (sv s12 0) t25 H fun t26 H =>
  K21 [[t26]] H) (
  K21 [[(sv s12 0)]] H)) fun s21 H =>
  binV (.int .i64) .add (sv s12 1) (.int .i64 1) fun t10 =>
  K12 [[(sv s21 0)], [t10]] H) (
  Q (sv s12 0) H)) [[(.slice none 0 0)], [(.int .i64 0)]] H
theorem S_ref22_Written_of {x0 : Value} {H : Heap} {Q : Value → Heap → Prop} (h : S_ref22_Written x0 H Q) : callV Try.prog (fnV fn_ref22_Written) [x0] H Q :=
  callV_fn (hcalls_of (pv := []) (ann := [(12, [6, 8]), (21, [6])]) Try.func15 (by kernel_rfl) (Eq.mpr (by kernel_rfl) h))

/-- thimblerig/thimblerigref22.SameLanes -/
def S_ref22_SameLanes (x0 : Value) (x1 : Value) (H : Heap) (Q : Value → Heap → Prop) : Prop :=
  lenSl x0 H fun t7 =>
  lenSl x1 H fun t9 =>
  binV (.int .i64) .neq t7 t9 fun t10 =>
  asB t10 fun b10 =>
  ifB b10 (
  Q (.bool false) H) (
  LoopPT (fun s15 H K15 =>
  lenSl x0 H fun t13 =>
  binV (.int .i64) .lss (sv s15 0) t13 fun t14 =>
  asB t14 fun b14 =>
  ifB b14 (
  idxS 1 x0 (sv s15 0) fun t19 =>
  loadP false 1 t19 H fun t20 =>
  idxS 1 x1 (sv s15 0) fun t23 =>
  loadP false 1 t23 H fun t24 =>
  callV Try.prog (fnV fn_ref21_SameCells) [t20, t24] H fun t25 H =>
  unV .not t25 fun t26 =>
  asB t26 fun b26 =>
  ifB b26 (
  Q (.bool false) H) (
  binV (.int .i64) .add (sv s15 0) (.int .i64 1) fun t16 =>
  K15 [[t16]] H)) (
  Q (.bool true) H)) [[(.int .i64 0)]] H)
theorem S_ref22_SameLanes_of {x0 : Value} {x1 : Value} {H : Heap} {Q : Value → Heap → Prop} (h : S_ref22_SameLanes x0 x1 H Q) : callV Try.prog (fnV fn_ref22_SameLanes) [x0, x1] H Q :=
  callV_fn (hcalls_of (pv := []) (ann := [(15, [10])]) Try.func16 (by kernel_rfl) (Eq.mpr (by kernel_rfl) h))

/-- thimblerig/thimblerigref22.Many -/
def S_ref22_Many (x0_0 : Value) (x0_1 : Value) (x0_2 : Value) (x0_3 : Value) (x0_4 : Value) (x0_5 : Value) (x0_6 : Value) (x0_7 : Value) (x0_8 : Value) (x1 : Value) (H : Heap) (Q : Value → Heap → Prop) : Prop :=
  newT H fun H =>
  callV Try.prog (fnV fn_ref08_Counts) [(.agg #[x0_0, x0_1, x0_2, x0_3, x0_4, x0_5, x0_6, x0_7, x0_8])] H fun t9 H =>
  extractV 0 t9 fun t10 =>
  extractV 1 t9 fun t11 =>
  binV (.int .i64) .mul t11 x1 fun t15 =>
  binV (.int .i64) .add t10 t15 fun t16 =>
  Q t16 H
theorem S_ref22_Many_of {x0_0 : Value} {x0_1 : Value} {x0_2 : Value} {x0_3 : Value} {x0_4 : Value} {x0_5 : Value} {x0_6 : Value} {x0_7 : Value} {x0_8 : Value} {x1 : Value} {H : Heap} {Q : Value → Heap → Prop} (h : S_ref22_Many x0_0 x0_1 x0_2 x0_3 x0_4 x0_5 x0_6 x0_7 x0_8 x1 H Q) : callV Try.prog (fnV fn_ref22_Many) [(.agg #[x0_0, x0_1, x0_2, x0_3, x0_4, x0_5, x0_6, x0_7, x0_8]), x1] H Q :=
  callV_fn (hcalls_of (pv := [2]) (ann := []) Try.func19 (by kernel_rfl) (Eq.mpr (by kernel_rfl) h))

/-- thimblerig/thimblerigref22.Texts -/
def S_ref22_Texts (x0_0 : Value) (x0_1 : Value) (x0_2 : Value) (x0_3 : Value) (x0_4 : Value) (x0_5 : Value) (x0_6 : Value) (x0_7 : Value) (x0_8 : Value) (x1 : Value) (x2 : Value) (x3 : Value) (H : Heap) (Q : Value → Heap → Prop) : Prop :=
  newT H fun H =>
  callV Try.prog (fnV fn_ref08_All) [(.agg #[x0_0, x0_1, x0_2, x0_3, x0_4, x0_5, x0_6, x0_7, x0_8])] H fun t15 H =>
  JoinPT (fun K11 =>
  lenSl x1 H fun t17 =>
  lenSl t15 H fun t19 =>
  binV (.int .i64) .neq t17 t19 fun t20 =>
  asB t20 fun b21 =>
  ifB b21 (
  K11 [[(.bool true)]] H) (
  lenSl x2 H fun t23 =>
  callV Try.prog (fnV fn_ref22_Many) [(.agg #[x0_0, x0_1, x0_2, x0_3, x0_4, x0_5, x0_6, x0_7, x0_8]), x3] H fun t26 H =>
  binV (.int .i64) .neq t23 t26 fun t27 =>
  K11 [[t27]] H)) fun s11 H =>
  asB (sv s11 0) fun b28 =>
  ifB b28 (
  Q (.bool false) H) (
  LoopPT (fun s18 H K18 =>
  lenSl x1 H fun t31 =>
  binV (.int .i64) .lss (sv s18 0) t31 fun t32 =>
  asB t32 fun b32 =>
  ifB b32 (
  idxS 1 x1 (sv s18 0) fun t37 =>
  loadP false 1 t37 H fun t38 =>
  lenSl t38 H fun t39 =>
  binV (.int .i64) .mul (.int .i64 2) x3 fun t41 =>
  binV (.int .i64) .neq t39 t41 fun t42 =>
  asB t42 fun b42 =>
  ifB b42 (
  Q (.bool false) H) (
  binV (.int .i64) .add (sv s18 0) (.int .i64 1) fun t34 =>
  K18 [[t34]] H)) (
  callV Try.prog (fnV fn_ref22_writes) [(.agg #[x0_0, x0_1, x0_2, x0_3, x0_4, x0_5, x0_6, x0_7, x0_8]), x1, x3] H fun t46 H =>
  LoopPT (fun s39 H K39 =>
  lenSl t46 H fun t49 =>
  binV (.int .i64) .lss (sv s39 1) t49 fun t50 =>
  asB t50 fun b50 =>
  ifB b50 (
  JoinPT (fun K500003 =>
  idxS 2 t46 (sv s39 1) fun t55 =>
  fldP 1 t55 fun t56 =>
  loadP false 1 t56 H fun t57 =>
  binV (.int .i64) .lss t57 (.int .i64 0) fun t58 =>
  asB t58 fun b58 =>
  ifB b58 (
  K500003 [[(sv s39 0)]] H) (
  JoinPT (fun K50 =>
  idxS 1 x2 (sv s39 0) fun t61 =>
  loadP false 1 t61 H fun t62 =>
  lenSl t62 H fun t63 =>
  idxS 2 t46 (sv s39 1) fun t67 =>
  fldP 0 t67 fun t68 =>
  loadP false 1 t68 H fun t69 =>
  idxS 4 t15 t69 fun t70 =>
  fldP 3 t70 fun t71 =>
  loadP false 1 t71 H fun t72 =>
  binV (.int .i64) .add (.int .i64 8) t72 fun t73 =>
  binV (.int .i64) .neq t63 t73 fun t74 =>
  asB t74 fun b75 =>
  ifB b75 (
  (loadP false 1 t71 H fun u72 =>
  u72 = t72) ∧
  (loadP false 1 t68 H fun u69 =>
  u69 = t69) ∧
  (lenSl t62 H fun u63 =>
  u63 = t63) ∧
  (loadP false 1 t61 H fun u62 =>
  u62 = t62) ∧
  (K50 [[(.bool true)]] H)) (
  idxS 1 x2 (sv s39 0) fun t78 =>
  loadP false 1 t78 H fun t79 =>
  slS 1 t79 none (some (.int .i64 8)) none fun t80 =>
  cvI .u64 (sv s39 0) fun t83 =>
  callV Try.prog (fnV fn_ref01_Number) [t80] H fun t81 H =>
  (loadP false 1 t78 H fun u79 =>
  u79 = t79) ∧
  (loadP false 1 t71 H fun u72 =>
  u72 = t72) ∧
  (loadP false 1 t68 H fun u69 =>
  u69 = t69) ∧
  (lenSl t62 H fun u63 =>
  u63 = t63) ∧
  (loadP false 1 t61 H fun u62 =>
  u62 = t62) ∧
  (binV (.int .u64) .neq t81 t83 fun t84 =>
  K50 [[t84]] H))) fun s50 H =>
  asB (sv s50 0) fun b85 =>
  ifB b85 (
  Q (.bool false) H) (
  binV (.int .i64) .add (sv s39 0) (.int .i64 1) fun t87 =>
  K500003 [[t87]] H))) fun s500003 H =>
  binV (.int .i64) .add (sv s39 1) (.int .i64 1) fun t52 =>
  K39 [[(sv s500003 0)], [t52]] H) (
  Q (.bool true) H)) [[(.int .i64 0)], [(.int .i64 0)]] H)) [[(.int .i64 0)]] H)
theorem S_ref22_Texts_of {x0_0 : Value} {x0_1 : Value} {x0_2 : Value} {x0_3 : Value} {x0_4 : Value} {x0_5 : Value} {x0_6 : Value} {x0_7 : Value} {x0_8 : Value} {x1 : Value} {x2 : Value} {x3 : Value} {H : Heap} {Q : Value → Heap → Prop} (h : S_ref22_Texts x0_0 x0_1 x0_2 x0_3 x0_4 x0_5 x0_6 x0_7 x0_8 x1 x2 x3 H Q) : callV Try.prog (fnV fn_ref22_Texts) [(.agg #[x0_0, x0_1, x0_2, x0_3, x0_4, x0_5, x0_6, x0_7, x0_8]), x1, x2, x3] H Q :=
  callV_fn (hcalls_of (pv := [4]) (ann := [(11, [56]), (18, [20]), (39, [24, 26]), (50, [170]), (500003, [24])]) Try.func24 (by kernel_rfl) (Eq.mpr (by kernel_rfl) h))

/-- thimblerig/thimblerigref22.Seen -/
def S_ref22_Seen (x0_0 : Value) (x0_1 : Value) (x0_2 : Value) (x0_3 : Value) (x0_4 : Value) (x0_5 : Value) (x0_6 : Value) (x0_7 : Value) (x0_8 : Value) (x1 : Value) (x2 : Value) (x3 : Value) (H : Heap) (Q : Value → Heap → Prop) : Prop :=
  newT H fun H =>
  callV Try.prog (fnV fn_ref12_Blank) [(.agg #[x0_0, x0_1, x0_2, x0_3, x0_4, x0_5, x0_6, x0_7, x0_8])] H fun t17 H =>
  newT H fun H =>
  cellsV true 1 t17 fun c1 =>
  callV Try.prog (fnV fn_ref22_writes) [(.agg #[x0_0, x0_1, x0_2, x0_3, x0_4, x0_5, x0_6, x0_7, x0_8]), x1, x3] H fun t21 H =>
  LoopPT (fun s21 H K21 =>
  lenSl t21 H fun t24 =>
  binV (.int .i64) .lss (sv s21 2) t24 fun t25 =>
  asB t25 fun b25 =>
  ifB b25 (
  JoinPT (fun K500001 =>
  idxS 2 t21 (sv s21 2) fun t30 =>
  fldP 0 t30 fun t31 =>
  loadP false 1 t31 H fun t32 =>
  idxS 2 t21 (sv s21 2) fun t35 =>
  fldP 1 t35 fun t36 =>
  loadP false 1 t36 H fun t37 =>
  binV (.int .i64) .lss t37 (.int .i64 0) fun t39 =>
  asB t39 fun b39 =>
  ifB b39 (
  unV .neg t37 fun t43 =>
  bldS 5 1 false (zeroL Try.prog 5) 0 [] H fun t44 H =>
  ifB (decide (0 + 1 ≤ ((setSeg [(.slice none 0 0)] 0 c1)).length)) (
  idxS 1 (mkV false (seg (setSeg [(.slice none 0 0)] 0 c1) 0 1)) t32 fun t48 =>
  loadP false 1 t48 H fun t49 =>
  unV .neg t37 fun t51 =>
  binV (.int .i64) .sub t51 (.int .i64 1) fun t52 =>
  idxS 1 t49 t52 fun t53 =>
  loadP false 1 t53 H fun t54 =>
  appS 5 1 1 (zeroL Try.prog 5) t44 t54 H fun t55 H =>
  ifB (okc t32) (
  ifB (okc t43) (
  ifB (okc t55) (
  bldS 45 4 true (zeroL Try.prog 45) 1 [(0, (.agg #[(.int .u8 1), t32, t43, t55]))] H fun t57 H =>
  appS 45 4 48 (zeroL Try.prog 45) (sv s21 0) t57 H fun t58 H =>
  K500001 [[t58], [(sv s21 1)]] H) False) False) False) False) (
  ifB (decide (0 + 1 ≤ ((setSeg [(.slice none 0 0)] 0 c1)).length)) (
  idxS 1 (mkV false (seg (setSeg [(.slice none 0 0)] 0 c1) 0 1)) t32 fun t62 =>
  loadP false 1 t62 H fun t63 =>
  binV (.int .i64) .sub t37 (.int .i64 1) fun t65 =>
  idxS 1 x2 (sv s21 1) fun t69 =>
  loadP false 1 t69 H fun t70 =>
  bldS 5 1 false (zeroL Try.prog 5) 0 [] H fun t66 H =>
  (loadP false 1 t69 H fun u70 =>
  u70 = t70) ∧
  (loadP false 1 t62 H fun u63 =>
  u63 = t63) ∧
  (appS 5 1 1 (zeroL Try.prog 5) t66 t70 H fun t71 H =>
  (loadP false 1 t62 H fun u63 =>
  u63 = t63) ∧
  (idxS 1 t63 t65 fun t72 =>
  storeP false 1 t72 t71 H fun H =>
  bldS 5 1 false (zeroL Try.prog 5) 0 [] H fun t76 H =>
  idxS 1 x2 (sv s21 1) fun t79 =>
  loadP false 1 t79 H fun t80 =>
  appS 5 1 1 (zeroL Try.prog 5) t76 t80 H fun t81 H =>
  ifB (okc t32) (
  ifB (okc t37) (
  ifB (okc t81) (
  bldS 45 4 true (zeroL Try.prog 45) 1 [(0, (.agg #[(.int .u8 2), t32, t37, t81]))] H fun t83 H =>
  appS 45 4 48 (zeroL Try.prog 45) (sv s21 0) t83 H fun t84 H =>
  binV (.int .i64) .add (sv s21 1) (.int .i64 1) fun t86 =>
  K500001 [[t84], [t86]] H) False) False) False))) False)) fun s500001 H =>
  binV (.int .i64) .add (sv s21 2) (.int .i64 1) fun t27 =>
  K21 [[(sv s500001 0)], [(sv s500001 1)], [t27]] H) (
  Q (sv s21 0) H)) [[(.slice none 0 0)], [(.int .i64 0)], [(.int .i64 0)]] H
theorem S_ref22_Seen_of {x0_0 : Value} {x0_1 : Value} {x0_2 : Value} {x0_3 : Value} {x0_4 : Value} {x0_5 : Value} {x0_6 : Value} {x0_7 : Value} {x0_8 : Value} {x1 : Value} {x2 : Value} {x3 : Value} {H : Heap} {Q : Value → Heap → Prop} (h : S_ref22_Seen x0_0 x0_1 x0_2 x0_3 x0_4 x0_5 x0_6 x0_7 x0_8 x1 x2 x3 H Q) : callV Try.prog (fnV fn_ref22_Seen) [(.agg #[x0_0, x0_1, x0_2, x0_3, x0_4, x0_5, x0_6, x0_7, x0_8]), x1, x2, x3] H Q :=
  callV_fn (hcalls_of (pv := [4, 9]) (ann := [(21, [20, 22, 26]), (500001, [20, 22])]) Try.func25 (by kernel_rfl) (Eq.mpr (by kernel_rfl) h))

/-- thimblerig/thimblerigref22.writes -/
def S_ref22_writes (x0_0 : Value) (x0_1 : Value) (x0_2 : Value) (x0_3 : Value) (x0_4 : Value) (x0_5 : Value) (x0_6 : Value) (x0_7 : Value) (x0_8 : Value) (x1 : Value) (x2 : Value) (H : Heap) (Q : Value → Heap → Prop) : Prop :=
  newT H fun H =>
  callV Try.prog (fnV fn_ref08_All) [(.agg #[x0_0, x0_1, x0_2, x0_3, x0_4, x0_5, x0_6, x0_7, x0_8])] H fun t19 H =>
  lenSl t19 H fun t21 =>
  binV (.int .i64) .sub t21 (.int .i64 1) fun t22 =>
  LoopPT (fun s15 H K15 =>
  binV (.int .i64) .geq (sv s15 1) (.int .i64 0) fun t24 =>
  asB t24 fun b24 =>
  ifB b24 (
  idxS 4 t19 (sv s15 1) fun t29 =>
  loadP true 4 t29 H fun t30 =>
  callV Try.prog (fnV fn_ref15_Many) [t30] H fun t31 H =>
  LoopPT (fun s24 H K24 =>
  binV (.int .i64) .geq (sv s24 1) (.int .i64 1) fun t33 =>
  asB t33 fun b33 =>
  ifB b33 (
  ifB (okc (sv s15 1)) (
  ifB (okc (sv s24 1)) (
  bldS 105 2 true (zeroL Try.prog 105) 1 [(0, (.agg #[(sv s15 1), (sv s24 1)]))] H fun t40 H =>
  appS 105 2 16 (zeroL Try.prog 105) (sv s24 0) t40 H fun t41 H =>
  binV (.int .i64) .sub (sv s24 1) (.int .i64 1) fun t35 =>
  K24 [[t41], [t35]] H) False) False) (
  binV (.int .i64) .sub (sv s15 1) (.int .i64 1) fun t26 =>
  K15 [[(sv s24 0)], [t26]] H)) [[(sv s15 0)], [t31]] H) (
  LoopPT (fun s36 H K36 =>
  binV (.int .i64) .lss (sv s36 1) x2 fun t44 =>
  asB t44 fun b44 =>
  ifB b44 (
  lenSl t19 H fun t48 =>
  binV (.int .i64) .sub t48 (.int .i64 1) fun t49 =>
  LoopPT (fun s45 H K45 =>
  binV (.int .i64) .geq (sv s45 1) (.int .i64 0) fun t51 =>
  asB t51 fun b51 =>
  ifB b51 (
  LoopPT (fun s54 H K54 =>
  binV (.int .i64) .lss (sv s54 1) (.int .i64 2) fun t55 =>
  asB t55 fun b55 =>
  ifB b55 (
  idxS 4 t19 (sv s45 1) fun t60 =>
  fldP 2 t60 fun t61 =>
  loadP false 1 t61 H fun t62 =>
  idxS 1 x1 (sv s45 1) fun t65 =>
  loadP false 1 t65 H fun t66 =>
  binV (.int .i64) .mul (.int .i64 2) (sv s36 1) fun t68 =>
  idxS 1 t66 t68 fun t69 =>
  loadP false 1 t69 H fun t70 =>
  callV Try.prog (fnV fn_ref19_Of) [t62, t70] H fun t71 H =>
  (loadP false 1 t65 H fun u66 =>
  u66 = t66) ∧
  (binV (.int .i64) .eql (sv s54 1) (.int .i64 1) fun t73 =>
  asB t73 fun b73 =>
  JoinPT (fun K66 =>
  ifB b73 (
  idxS 4 t19 (sv s45 1) fun t76 =>
  fldP 2 t76 fun t77 =>
  loadP false 1 t77 H fun t78 =>
  cvI .u64 (sv s36 1) fun t80 =>
  callV Try.prog (fnV fn_ref07_Turned) [t78, t80] H fun t81 H =>
  K66 [[t81]] H) (
  K66 [[t71]] H)) fun s66 H =>
  idxS 4 t19 (sv s45 1) fun t84 =>
  fldP 2 t84 fun t85 =>
  loadP false 1 t85 H fun t86 =>
  callV Try.prog (fnV fn_ref07_Way) [t86, (sv s66 0)] H fun t88 H =>
  LoopPT (fun s75 H K75 =>
  lenSl t88 H fun t91 =>
  binV (.int .i64) .lss (sv s75 1) t91 fun t92 =>
  asB t92 fun b92 =>
  ifB b92 (
  idxS 1 t88 (sv s75 1) fun t99 =>
  loadP false 1 t99 H fun t100 =>
  unV .neg t100 fun t101 =>
  ifB (okc (sv s45 1)) (
  ifB (okc t101) (
  bldS 105 2 true (zeroL Try.prog 105) 1 [(0, (.agg #[(sv s45 1), t101]))] H fun t103 H =>
  appS 105 2 16 (zeroL Try.prog 105) (sv s75 0) t103 H fun t104 H =>
  binV (.int .i64) .add (sv s75 1) (.int .i64 1) fun t94 =>
  K75 [[t104], [t94]] H) False) False) (
  lenSl t88 H fun t106 =>
  binV (.int .i64) .sub t106 (.int .i64 1) fun t107 =>
  LoopPT (fun s87 H K87 =>
  binV (.int .i64) .geq (sv s87 1) (.int .i64 0) fun t109 =>
  asB t109 fun b109 =>
  ifB b109 (
  idxS 1 t88 (sv s87 1) fun t116 =>
  loadP false 1 t116 H fun t117 =>
  ifB (okc (sv s45 1)) (
  ifB (okc t117) (
  bldS 105 2 true (zeroL Try.prog 105) 1 [(0, (.agg #[(sv s45 1), t117]))] H fun t119 H =>
  appS 105 2 16 (zeroL Try.prog 105) (sv s87 0) t119 H fun t120 H =>
  binV (.int .i64) .sub (sv s87 1) (.int .i64 1) fun t111 =>
  K87 [[t120], [t111]] H) False) False) (
  binV (.int .i64) .add (sv s54 1) (.int .i64 1) fun t57 =>
  K54 [[(sv s87 0)], [t57]] H)) [[(sv s75 0)], [t107]] H)) [[(sv s54 0)], [(.int .i64 0)]] H)) (
  binV (.int .i64) .sub (sv s45 1) (.int .i64 1) fun t53 =>
  K45 [[(sv s54 0)], [t53]] H)) [[(sv s45 0)], [(.int .i64 0)]] H) (
  binV (.int .i64) .add (sv s36 1) (.int .i64 1) fun t46 =>
  K36 [[(sv s45 0)], [t46]] H)) [[(sv s36 0)], [t49]] H) (
  Q (sv s36 0) H)) [[(sv s15 0)], [(.int .i64 0)]] H)) [[(.slice none 0 0)], [t22]] H
theorem S_ref22_writes_of {x0_0 : Value} {x0_1 : Value} {x0_2 : Value} {x0_3 : Value} {x0_4 : Value} {x0_5 : Value} {x0_6 : Value} {x0_7 : Value} {x0_8 : Value} {x1 : Value} {x2 : Value} {H : Heap} {Q : Value → Heap → Prop} (h : S_ref22_writes x0_0 x0_1 x0_2 x0_3 x0_4 x0_5 x0_6 x0_7 x0_8 x1 x2 H Q) : callV Try.prog (fnV fn_ref22_writes) [(.agg #[x0_0, x0_1, x0_2, x0_3, x0_4, x0_5, x0_6, x0_7, x0_8]), x1, x2] H Q :=
  callV_fn (hcalls_of (pv := [3]) (ann := [(15, [16, 18]), (24, [16, 20]), (36, [16, 22]), (45, [16, 24]), (54, [16, 26]), (66, [28]), (75, [16, 32]), (87, [16, 34])]) Try.func49 (by kernel_rfl) (Eq.mpr (by kernel_rfl) h))

end Go.Proofs.Ytlalkgkicccjiaa
