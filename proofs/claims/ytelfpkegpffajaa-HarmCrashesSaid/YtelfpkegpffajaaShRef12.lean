/- Written by sh.py: what functions do, out of the deep reading; each is joined to the program by the kernel. -/
import Derived.Test.YtelfpkegpffajaaShNames
namespace Go.Proofs.Ytelfpkegpffajaa
open Go.Ab
set_option linter.unusedVariables false
set_option linter.unusedSimpArgs false
set_option maxRecDepth 100000

/-- thimblerig/thimblerigref12.Great -/
def S_ref12_Great (x0_0 : Value) (H : Heap) (Q : Value → Heap → Prop) : Prop :=
  newT H fun H =>
  LoopPT (fun s12 H K12 =>
  JoinPT (fun K14 =>
  lenSl x0_0 H fun t9 =>
  binV (.int .i64) .lss (sv s12 1) t9 fun t10 =>
  asB t10 fun b11 =>
  ifB b11 (
  binV (.int .i64) .lss (sv s12 1) (.int .i64 10) fun t13 =>
  K14 [[t13]] H) (
  K14 [[(.bool false)]] H)) fun s14 H =>
  asB (sv s14 0) fun b14 =>
  ifB b14 (
  LoopPT (fun s21 H K21 =>
  JoinPT (fun K23 =>
  idxS 1 x0_0 (sv s12 1) fun t21 =>
  loadP false 1 t21 H fun t22 =>
  lenSl t22 H fun t23 =>
  binV (.int .i64) .lss (sv s21 1) t23 fun t24 =>
  asB t24 fun b25 =>
  ifB b25 (
  binV (.int .i64) .lss (sv s21 1) (.int .i64 200) fun t27 =>
  K23 [[t27]] H) (
  K23 [[(.bool false)]] H)) fun s23 H =>
  asB (sv s23 0) fun b28 =>
  ifB b28 (
  idxS 1 x0_0 (sv s12 1) fun t35 =>
  loadP false 1 t35 H fun t36 =>
  idxS 1 t36 (sv s21 1) fun t38 =>
  loadP false 1 t38 H fun t39 =>
  lenSl t39 H fun t40 =>
  minV t40 (.int .i64 100000) fun t41 =>
  binV (.int .i64) .add (sv s21 0) t41 fun t42 =>
  binV (.int .i64) .add (sv s21 1) (.int .i64 1) fun t30 =>
  K21 [[t42], [t30]] H) (
  idxS 1 x0_0 (sv s12 1) fun t46 =>
  loadP false 1 t46 H fun t47 =>
  lenSl t47 H fun t48 =>
  binV (.int .i64) .gtr t48 (.int .i64 150) fun t49 =>
  asB t49 fun b49 =>
  ifB b49 (
  Q (.bool true) H) (
  binV (.int .i64) .add (sv s12 1) (.int .i64 1) fun t16 =>
  K12 [[(sv s21 0)], [t16]] H))) [[(sv s12 0)], [(.int .i64 0)]] H) (
  JoinPT (fun K38 =>
  lenSl x0_0 H fun t52 =>
  binV (.int .i64) .gtr t52 (.int .i64 6) fun t53 =>
  asB t53 fun b54 =>
  ifB b54 (
  K38 [[(.bool true)]] H) (
  binV (.int .i64) .gtr (sv s12 0) (.int .i64 40000) fun t56 =>
  K38 [[t56]] H)) fun s38 H =>
  Q (sv s38 0) H)) [[(.int .i64 0)], [(.int .i64 0)]] H
theorem S_ref12_Great_of {x0_0 : Value} {H : Heap} {Q : Value → Heap → Prop} (h : S_ref12_Great x0_0 H Q) : callV Try.prog (fnV fn_ref12_Great) [(.agg #[x0_0])] H Q :=
  callV_fn (hcalls_of (pv := [1]) (ann := [(12, [6, 8]), (14, [28]), (21, [6, 10]), (23, [56]), (38, [4])]) Try.func7 (by kernel_rfl) (Eq.mpr (by kernel_rfl) h))

/-- thimblerig/thimblerigref12.GreatSees -/
def S_ref12_GreatSees (x0 : Value) (H : Heap) (Q : Value → Heap → Prop) : Prop :=
  LoopPT (fun s12 H K12 =>
  JoinPT (fun K14 =>
  lenSl x0 H fun t7 =>
  binV (.int .i64) .lss (sv s12 1) t7 fun t8 =>
  asB t8 fun b9 =>
  ifB b9 (
  binV (.int .i64) .lss (sv s12 1) (.int .i64 2000) fun t11 =>
  K14 [[t11]] H) (
  K14 [[(.bool false)]] H)) fun s14 H =>
  asB (sv s14 0) fun b12 =>
  ifB b12 (
  idxS 4 x0 (sv s12 1) fun t18 =>
  fldP 3 t18 fun t19 =>
  loadP false 1 t19 H fun t20 =>
  lenSl t20 H fun t21 =>
  minV t21 (.int .i64 100000) fun t22 =>
  binV (.int .i64) .add (sv s12 0) t22 fun t23 =>
  binV (.int .i64) .add (sv s12 1) (.int .i64 1) fun t14 =>
  K12 [[t23], [t14]] H) (
  JoinPT (fun K23 =>
  lenSl x0 H fun t25 =>
  binV (.int .i64) .gtr t25 (.int .i64 2000) fun t26 =>
  asB t26 fun b27 =>
  ifB b27 (
  K23 [[(.bool true)]] H) (
  binV (.int .i64) .gtr (sv s12 0) (.int .i64 200000) fun t29 =>
  K23 [[t29]] H)) fun s23 H =>
  Q (sv s23 0) H)) [[(.int .i64 0)], [(.int .i64 0)]] H
theorem S_ref12_GreatSees_of {x0 : Value} {H : Heap} {Q : Value → Heap → Prop} (h : S_ref12_GreatSees x0 H Q) : callV Try.prog (fnV fn_ref12_GreatSees) [x0] H Q :=
  callV_fn (hcalls_of (pv := []) (ann := [(12, [6, 8]), (14, [24]), (23, [4])]) Try.func8 (by kernel_rfl) (Eq.mpr (by kernel_rfl) h))

/-- thimblerig/thimblerigref12.Twin -/
def S_ref12_Twin (x0_0 : Value) (H : Heap) (Q : Value → Heap → Prop) : Prop :=
  newT H fun H =>
  newT H fun H =>
  newT H fun H =>
  LoopPT (fun s12 H K12 =>
  lenSl x0_0 H fun t8 =>
  binV (.int .i64) .lss (sv s12 1) t8 fun t9 =>
  asB t9 fun b9 =>
  ifB b9 (
  ifB (decide (0 + 1 ≤ ((sc s12 0)).length)) (
  idxS 1 x0_0 (sv s12 1) fun t17 =>
  loadP false 1 t17 H fun t18 =>
  callV Try.prog (fnV fn_ref12_TwinAll) [t18] H fun t19 H =>
  bldS 39 1 false (zeroL Try.prog 39) 1 [(0, t19)] H fun t20 H =>
  appS 39 1 24 (zeroL Try.prog 39) (mkV false (seg (sc s12 0) 0 1)) t20 H fun t21 H =>
  ifB (okc t21) (
  ifB (decide (0 + 1 ≤ ((sc s12 0)).length)) (
  binV (.int .i64) .add (sv s12 1) (.int .i64 1) fun t11 =>
  K12 [(setSeg (sc s12 0) 0 [t21]), [t11]] H) False) False) False) (
  ifB (decide (0 + 1 ≤ ((sc s12 0)).length)) (
  cellsV true 1 (.agg (seg (sc s12 0) 0 1).toArray) fun c1 =>
  ifB (decide (0 + 1 ≤ ((setSeg [(.slice none 0 0)] 0 c1)).length)) (
  Q (.agg (seg (setSeg [(.slice none 0 0)] 0 c1) 0 1).toArray) H) False) False)) [[(.slice none 0 0)], [(.int .i64 0)]] H
theorem S_ref12_Twin_of {x0_0 : Value} {H : Heap} {Q : Value → Heap → Prop} (h : S_ref12_Twin x0_0 H Q) : callV Try.prog (fnV fn_ref12_Twin) [(.agg #[x0_0])] H Q :=
  callV_fn (hcalls_of (pv := [1, 2, 3]) (ann := [(12, [7, 8])]) Try.func9 (by kernel_rfl) (Eq.mpr (by kernel_rfl) h))

/-- thimblerig/thimblerigref12.TwinSees -/
def S_ref12_TwinSees (x0 : Value) (H : Heap) (Q : Value → Heap → Prop) : Prop :=
  LoopPT (fun s12 H K12 =>
  lenSl x0 H fun t8 =>
  binV (.int .i64) .lss (sv s12 1) t8 fun t9 =>
  asB t9 fun b9 =>
  ifB b9 (
  idxS 4 x0 (sv s12 1) fun t14 =>
  loadP true 4 t14 H fun t15 =>
  newT H fun H =>
  cellsV true 4 t15 fun c1 =>
  bldS 5 1 false (zeroL Try.prog 5) 0 [] H fun t16 H =>
  ifB (decide (3 + 1 ≤ ((setSeg [(.int .u8 0), (.int .i64 0), (.int .i64 0), (.slice none 0 0)] 0 c1)).length)) (
  appS 5 1 1 (zeroL Try.prog 5) t16 (mkV false (seg (setSeg [(.int .u8 0), (.int .i64 0), (.int .i64 0), (.slice none 0 0)] 0 c1) 3 1)) H fun t19 H =>
  ifB (okc t19) (
  ifB (decide (3 + 1 ≤ ((setSeg [(.int .u8 0), (.int .i64 0), (.int .i64 0), (.slice none 0 0)] 0 c1)).length)) (
  ifB (decide (0 + 4 ≤ ((setSeg (setSeg [(.int .u8 0), (.int .i64 0), (.int .i64 0), (.slice none 0 0)] 0 c1) 3 [t19])).length)) (
  bldS 59 4 true (zeroL Try.prog 59) 1 [(0, (.agg (seg (setSeg (setSeg [(.int .u8 0), (.int .i64 0), (.int .i64 0), (.slice none 0 0)] 0 c1) 3 [t19]) 0 4).toArray))] H fun t23 H =>
  appS 59 4 48 (zeroL Try.prog 59) (sv s12 0) t23 H fun t24 H =>
  binV (.int .i64) .add (sv s12 1) (.int .i64 1) fun t11 =>
  K12 [[t24], [t11]] H) False) False) False) False) (
  Q (sv s12 0) H)) [[(.slice none 0 0)], [(.int .i64 0)]] H
theorem S_ref12_TwinSees_of {x0 : Value} {H : Heap} {Q : Value → Heap → Prop} (h : S_ref12_TwinSees x0 H Q) : callV Try.prog (fnV fn_ref12_TwinSees) [x0] H Q :=
  callV_fn (hcalls_of (pv := [5]) (ann := [(12, [6, 8])]) Try.func10 (by kernel_rfl) (Eq.mpr (by kernel_rfl) h))

/-- thimblerig/thimblerigref12.Same -/
def S_ref12_Same (x0_0 : Value) (x1_0 : Value) (H : Heap) (Q : Value → Heap → Prop) : Prop :=
  newT H fun H =>
  newT H fun H =>
  lenSl x0_0 H fun t8 =>
  lenSl x1_0 H fun t11 =>
  binV (.int .i64) .neq t8 t11 fun t12 =>
  asB t12 fun b12 =>
  ifB b12 (
  Q (.bool false) H) (
  LoopPT (fun s15 H K15 =>
  lenSl x0_0 H fun t16 =>
  binV (.int .i64) .lss (sv s15 0) t16 fun t17 =>
  asB t17 fun b17 =>
  ifB b17 (
  idxS 1 x0_0 (sv s15 0) fun t23 =>
  loadP false 1 t23 H fun t24 =>
  idxS 1 x1_0 (sv s15 0) fun t28 =>
  loadP false 1 t28 H fun t29 =>
  callV Try.prog (fnV fn_ref01_SameAll) [t24, t29] H fun t30 H =>
  unV .not t30 fun t31 =>
  asB t31 fun b31 =>
  ifB b31 (
  Q (.bool false) H) (
  binV (.int .i64) .add (sv s15 0) (.int .i64 1) fun t19 =>
  K15 [[t19]] H)) (
  Q (.bool true) H)) [[(.int .i64 0)]] H)
theorem S_ref12_Same_of {x0_0 : Value} {x1_0 : Value} {H : Heap} {Q : Value → Heap → Prop} (h : S_ref12_Same x0_0 x1_0 H Q) : callV Try.prog (fnV fn_ref12_Same) [(.agg #[x0_0]), (.agg #[x1_0])] H Q :=
  callV_fn (hcalls_of (pv := [2, 3]) (ann := [(15, [10])]) Try.func14 (by kernel_rfl) (Eq.mpr (by kernel_rfl) h))

/-- thimblerig/thimblerigref12.SameSees -/
def S_ref12_SameSees (x0 : Value) (x1 : Value) (H : Heap) (Q : Value → Heap → Prop) : Prop :=
  lenSl x0 H fun t7 =>
  lenSl x1 H fun t9 =>
  binV (.int .i64) .neq t7 t9 fun t10 =>
  asB t10 fun b10 =>
  ifB b10 (
  Q (.bool false) H) (
  LoopPT (fun s15 H K15 =>
  lenSl x0 H fun t13 =>
  binV (.int .i64) .lss (sv s15 0) t13 fun t14 =>
  asB t14 fun b14 =>
  ifB b14 (
  JoinPT (fun K23 =>
  idxS 4 x0 (sv s15 0) fun t19 =>
  fldP 0 t19 fun t20 =>
  loadP false 1 t20 H fun t21 =>
  idxS 4 x1 (sv s15 0) fun t24 =>
  fldP 0 t24 fun t25 =>
  loadP false 1 t25 H fun t26 =>
  binV (.int .u8) .neq t21 t26 fun t27 =>
  asB t27 fun b28 =>
  ifB b28 (
  (loadP false 1 t25 H fun u26 =>
  u26 = t26) ∧
  (loadP false 1 t20 H fun u21 =>
  u21 = t21) ∧
  (K23 [[(.bool true)]] H)) (
  idxS 4 x0 (sv s15 0) fun t31 =>
  fldP 1 t31 fun t32 =>
  loadP false 1 t32 H fun t33 =>
  idxS 4 x1 (sv s15 0) fun t36 =>
  fldP 1 t36 fun t37 =>
  loadP false 1 t37 H fun t38 =>
  binV (.int .i64) .neq t33 t38 fun t39 =>
  asB t39 fun b41 =>
  ifB b41 (
  (loadP false 1 t37 H fun u38 =>
  u38 = t38) ∧
  (loadP false 1 t32 H fun u33 =>
  u33 = t33) ∧
  (loadP false 1 t25 H fun u26 =>
  u26 = t26) ∧
  (loadP false 1 t20 H fun u21 =>
  u21 = t21) ∧
  (K23 [[(.bool true)]] H)) (
  idxS 4 x0 (sv s15 0) fun t44 =>
  fldP 2 t44 fun t45 =>
  loadP false 1 t45 H fun t46 =>
  idxS 4 x1 (sv s15 0) fun t49 =>
  fldP 2 t49 fun t50 =>
  loadP false 1 t50 H fun t51 =>
  binV (.int .i64) .neq t46 t51 fun t52 =>
  asB t52 fun b54 =>
  ifB b54 (
  (loadP false 1 t50 H fun u51 =>
  u51 = t51) ∧
  (loadP false 1 t45 H fun u46 =>
  u46 = t46) ∧
  (loadP false 1 t37 H fun u38 =>
  u38 = t38) ∧
  (loadP false 1 t32 H fun u33 =>
  u33 = t33) ∧
  (loadP false 1 t25 H fun u26 =>
  u26 = t26) ∧
  (loadP false 1 t20 H fun u21 =>
  u21 = t21) ∧
  (K23 [[(.bool true)]] H)) (
  idxS 4 x0 (sv s15 0) fun t57 =>
  fldP 3 t57 fun t58 =>
  loadP false 1 t58 H fun t59 =>
  idxS 4 x1 (sv s15 0) fun t62 =>
  fldP 3 t62 fun t63 =>
  loadP false 1 t63 H fun t64 =>
  callV Try.prog (fnV fn_ref01_Same) [t59, t64] H fun t65 H =>
  (loadP false 1 t50 H fun u51 =>
  u51 = t51) ∧
  (loadP false 1 t45 H fun u46 =>
  u46 = t46) ∧
  (loadP false 1 t37 H fun u38 =>
  u38 = t38) ∧
  (loadP false 1 t32 H fun u33 =>
  u33 = t33) ∧
  (loadP false 1 t25 H fun u26 =>
  u26 = t26) ∧
  (loadP false 1 t20 H fun u21 =>
  u21 = t21) ∧
  (unV .not t65 fun t66 =>
  K23 [[t66]] H))))) fun s23 H =>
  asB (sv s23 0) fun b67 =>
  ifB b67 (
  Q (.bool false) H) (
  binV (.int .i64) .add (sv s15 0) (.int .i64 1) fun t16 =>
  K15 [[t16]] H)) (
  Q (.bool true) H)) [[(.int .i64 0)]] H)
theorem S_ref12_SameSees_of {x0 : Value} {x1 : Value} {H : Heap} {Q : Value → Heap → Prop} (h : S_ref12_SameSees x0 x1 H Q) : callV Try.prog (fnV fn_ref12_SameSees) [x0, x1] H Q :=
  callV_fn (hcalls_of (pv := []) (ann := [(15, [10]), (23, [134])]) Try.func18 (by kernel_rfl) (Eq.mpr (by kernel_rfl) h))

/-- thimblerig/thimblerigref12.TwinAll -/
def S_ref12_TwinAll (x0 : Value) (H : Heap) (Q : Value → Heap → Prop) : Prop :=
  LoopPT (fun s12 H K12 =>
  lenSl x0 H fun t7 =>
  binV (.int .i64) .lss (sv s12 1) t7 fun t8 =>
  asB t8 fun b8 =>
  ifB b8 (
  bldS 5 1 false (zeroL Try.prog 5) 0 [] H fun t12 H =>
  idxS 1 x0 (sv s12 1) fun t15 =>
  loadP false 1 t15 H fun t16 =>
  appS 5 1 1 (zeroL Try.prog 5) t12 t16 H fun t17 H =>
  bldS 44 1 false (zeroL Try.prog 44) 1 [(0, t17)] H fun t18 H =>
  appS 44 1 24 (zeroL Try.prog 44) (sv s12 0) t18 H fun t19 H =>
  binV (.int .i64) .add (sv s12 1) (.int .i64 1) fun t10 =>
  K12 [[t19], [t10]] H) (
  Q (sv s12 0) H)) [[(.slice none 0 0)], [(.int .i64 0)]] H
theorem S_ref12_TwinAll_of {x0 : Value} {H : Heap} {Q : Value → Heap → Prop} (h : S_ref12_TwinAll x0 H Q) : callV Try.prog (fnV fn_ref12_TwinAll) [x0] H Q :=
  callV_fn (hcalls_of (pv := []) (ann := [(12, [6, 8])]) Try.func28 (by kernel_rfl) (Eq.mpr (by kernel_rfl) h))

/-- thimblerig/thimblerigref12.Replay -/
def S_ref12_Replay (x0_0 : Value) (x0_1 : Value) (x0_2 : Value) (x0_3 : Value) (x0_4 : Value) (x0_5 : Value) (x0_6 : Value) (x0_7 : Value) (x0_8 : Value) (x1_0 : Value) (x2 : Value) (H : Heap) (Q : Value → Heap → Prop) : Prop :=
  newT H fun H =>
  newT H fun H =>
  newT H fun H =>
  callV Try.prog (fnV fn_ref12_May) [(.agg #[x0_0, x0_1, x0_2, x0_3, x0_4, x0_5, x0_6, x0_7, x0_8]), (.agg #[x1_0])] H fun t11 H =>
  unV .not t11 fun t12 =>
  asB t12 fun b12 =>
  ifB b12 (
  Q (.tuple #[(.agg #[(.slice none 0 0)]), (.int .i64 8)]) H) (
  LoopPT (fun s15 H K15 =>
  lenSl x2 H fun t16 =>
  binV (.int .i64) .lss (sv s15 1) t16 fun t17 =>
  asB t17 fun b17 =>
  ifB b17 (
  idxS 4 x2 (sv s15 1) fun t23 =>
  loadP true 4 t23 H fun t24 =>
  callV Try.prog (fnV fn_ref12_MaySee) [(.agg #[x1_0]), t24] H fun t25 H =>
  unV .not t25 fun t26 =>
  asB t26 fun b26 =>
  ifB b26 (
  ifB (decide (0 + 1 ≤ ((sc s15 0)).length)) (
  ifB (decide (0 + 1 ≤ ((setSeg (sc s15 0) 0 [(.slice none 0 0)])).length)) (
  Q (.tuple #[(.agg (seg (setSeg (sc s15 0) 0 [(.slice none 0 0)]) 0 1).toArray), (.int .i64 2)]) H) False) False) (
  binV (.int .i64) .add (sv s15 1) (.int .i64 1) fun t19 =>
  K15 [(sc s15 0), [t19]] H)) (
  callV Try.prog (fnV fn_ref12_Behind) [(.agg #[x1_0]), x2] H fun t30 H =>
  cellsV true 1 t30 fun c1 =>
  ifB (decide (0 + 1 ≤ ((sc s15 0)).length)) (
  ifB (decide (0 + 1 ≤ ((setSeg (sc s15 0) 0 c1)).length)) (
  Q (.tuple #[(.agg (seg (setSeg (sc s15 0) 0 c1) 0 1).toArray), (.int .i64 0)]) H) False) False)) [[(.slice none 0 0)], [(.int .i64 0)]] H)
theorem S_ref12_Replay_of {x0_0 : Value} {x0_1 : Value} {x0_2 : Value} {x0_3 : Value} {x0_4 : Value} {x0_5 : Value} {x0_6 : Value} {x0_7 : Value} {x0_8 : Value} {x1_0 : Value} {x2 : Value} {H : Heap} {Q : Value → Heap → Prop} (h : S_ref12_Replay x0_0 x0_1 x0_2 x0_3 x0_4 x0_5 x0_6 x0_7 x0_8 x1_0 x2 H Q) : callV Try.prog (fnV fn_ref12_Replay) [(.agg #[x0_0, x0_1, x0_2, x0_3, x0_4, x0_5, x0_6, x0_7, x0_8]), (.agg #[x1_0]), x2] H Q :=
  callV_fn (hcalls_of (pv := [3, 4, 6]) (ann := [(15, [13, 16])]) Try.func35 (by kernel_rfl) (Eq.mpr (by kernel_rfl) h))

/-- thimblerig/thimblerigref12.May -/
def S_ref12_May (x0_0 : Value) (x0_1 : Value) (x0_2 : Value) (x0_3 : Value) (x0_4 : Value) (x0_5 : Value) (x0_6 : Value) (x0_7 : Value) (x0_8 : Value) (x1_0 : Value) (H : Heap) (Q : Value → Heap → Prop) : Prop :=
  newT H fun H =>
  newT H fun H =>
  callV Try.prog (fnV fn_ref08_May) [(.agg #[x0_0, x0_1, x0_2, x0_3, x0_4, x0_5, x0_6, x0_7, x0_8])] H fun t9 H =>
  unV .not t9 fun t10 =>
  asB t10 fun b10 =>
  ifB b10 (
  Q (.bool false) H) (
  callV Try.prog (fnV fn_ref08_All) [(.agg #[x0_0, x0_1, x0_2, x0_3, x0_4, x0_5, x0_6, x0_7, x0_8])] H fun t12 H =>
  lenSl x1_0 H fun t15 =>
  lenSl t12 H fun t17 =>
  binV (.int .i64) .neq t15 t17 fun t18 =>
  asB t18 fun b18 =>
  ifB b18 (
  Q (.bool false) H) (
  LoopPT (fun s24 H K24 =>
  lenSl t12 H fun t21 =>
  binV (.int .i64) .lss (sv s24 0) t21 fun t22 =>
  asB t22 fun b22 =>
  ifB b22 (
  idxS 1 x1_0 (sv s24 0) fun t28 =>
  loadP false 1 t28 H fun t29 =>
  lenSl t29 H fun t30 =>
  idxS 4 t12 (sv s24 0) fun t33 =>
  fldP 2 t33 fun t34 =>
  loadP false 1 t34 H fun t35 =>
  callV Try.prog (fnV fn_ref07_Many) [t35] H fun t36 H =>
  (lenSl t29 H fun u30 =>
  u30 = t30) ∧
  (loadP false 1 t28 H fun u29 =>
  u29 = t29) ∧
  (binV (.int .i64) .mul (.int .i64 2) t36 fun t37 =>
  binV (.int .i64) .sub t37 (.int .i64 1) fun t38 =>
  binV (.int .i64) .neq t30 t38 fun t39 =>
  asB t39 fun b39 =>
  ifB b39 (
  Q (.bool false) H) (
  LoopPT (fun s39 H K39 =>
  idxS 1 x1_0 (sv s24 0) fun t44 =>
  loadP false 1 t44 H fun t45 =>
  lenSl t45 H fun t46 =>
  binV (.int .i64) .lss (sv s39 0) t46 fun t47 =>
  asB t47 fun b47 =>
  ifB b47 (
  idxS 1 x1_0 (sv s24 0) fun t53 =>
  loadP false 1 t53 H fun t54 =>
  idxS 1 t54 (sv s39 0) fun t56 =>
  loadP false 1 t56 H fun t57 =>
  lenSl t57 H fun t58 =>
  idxS 4 t12 (sv s24 0) fun t61 =>
  fldP 3 t61 fun t62 =>
  loadP false 1 t62 H fun t63 =>
  binV (.int .i64) .add (.int .i64 8) t63 fun t64 =>
  binV (.int .i64) .neq t58 t64 fun t65 =>
  asB t65 fun b65 =>
  ifB b65 (
  Q (.bool false) H) (
  binV (.int .i64) .add (sv s39 0) (.int .i64 1) fun t49 =>
  K39 [[t49]] H)) (
  binV (.int .i64) .add (sv s24 0) (.int .i64 1) fun t24 =>
  K24 [[t24]] H)) [[(.int .i64 0)]] H))) (
  Q (.bool true) H)) [[(.int .i64 0)]] H))
theorem S_ref12_May_of {x0_0 : Value} {x0_1 : Value} {x0_2 : Value} {x0_3 : Value} {x0_4 : Value} {x0_5 : Value} {x0_6 : Value} {x0_7 : Value} {x0_8 : Value} {x1_0 : Value} {H : Heap} {Q : Value → Heap → Prop} (h : S_ref12_May x0_0 x0_1 x0_2 x0_3 x0_4 x0_5 x0_6 x0_7 x0_8 x1_0 H Q) : callV Try.prog (fnV fn_ref12_May) [(.agg #[x0_0, x0_1, x0_2, x0_3, x0_4, x0_5, x0_6, x0_7, x0_8]), (.agg #[x1_0])] H Q :=
  callV_fn (hcalls_of (pv := [2, 3]) (ann := [(24, [12]), (39, [14])]) Try.func57 (by kernel_rfl) (Eq.mpr (by kernel_rfl) h))

/-- thimblerig/thimblerigref12.MaySee -/
def S_ref12_MaySee (x0_0 : Value) (x1_0 : Value) (x1_1 : Value) (x1_2 : Value) (x1_3 : Value) (H : Heap) (Q : Value → Heap → Prop) : Prop :=
  newT H fun H =>
  newT H fun H =>
  JoinPT (fun K8 =>
  binV (.int .u8) .eql x1_0 (.int .u8 1) fun t7 =>
  asB t7 fun b8 =>
  ifB b8 (
  bldS 3 1 false (zeroL Try.prog 3) 1 [(0, x1_2)] H fun t19 H =>
  callV Try.prog (fnV fn_ref12_asked) [(.agg #[x0_0]), x1_1, t19] H fun t20 H =>
  asB t20 fun b22 =>
  ifB b22 (
  lenSl x1_3 H fun t25 =>
  idxS 1 x0_0 x1_1 fun t30 =>
  loadP false 1 t30 H fun t31 =>
  idxS 1 t31 (.int .i64 0) fun t32 =>
  loadP false 1 t32 H fun t33 =>
  lenSl t33 H fun t34 =>
  binV (.int .i64) .eql t25 t34 fun t35 =>
  K8 [[t35]] H) (
  K8 [[(.bool false)]] H)) (
  binV (.int .u8) .eql x1_0 (.int .u8 2) fun t11 =>
  asB t11 fun b13 =>
  ifB b13 (
  bldS 3 1 false (zeroL Try.prog 3) 1 [(0, x1_2)] H fun t19 H =>
  callV Try.prog (fnV fn_ref12_asked) [(.agg #[x0_0]), x1_1, t19] H fun t20 H =>
  asB t20 fun b22 =>
  ifB b22 (
  lenSl x1_3 H fun t25 =>
  idxS 1 x0_0 x1_1 fun t30 =>
  loadP false 1 t30 H fun t31 =>
  idxS 1 t31 (.int .i64 0) fun t32 =>
  loadP false 1 t32 H fun t33 =>
  lenSl t33 H fun t34 =>
  binV (.int .i64) .eql t25 t34 fun t35 =>
  K8 [[t35]] H) (
  K8 [[(.bool false)]] H)) (
  K8 [[(.bool false)]] H))) fun s8 H =>
  Q (sv s8 0) H
theorem S_ref12_MaySee_of {x0_0 : Value} {x1_0 : Value} {x1_1 : Value} {x1_2 : Value} {x1_3 : Value} {H : Heap} {Q : Value → Heap → Prop} (h : S_ref12_MaySee x0_0 x1_0 x1_1 x1_2 x1_3 H Q) : callV Try.prog (fnV fn_ref12_MaySee) [(.agg #[x0_0]), (.agg #[x1_0, x1_1, x1_2, x1_3])] H Q :=
  callV_fn (hcalls_of (pv := [2, 3]) (ann := [(8, [8])]) Try.func58 (by kernel_rfl) (Eq.mpr (by kernel_rfl) h))

/-- thimblerig/thimblerigref12.Behind -/
def S_ref12_Behind (x0_0 : Value) (x1 : Value) (H : Heap) (Q : Value → Heap → Prop) : Prop :=
  newT H fun H =>
  newT H fun H =>
  callV Try.prog (fnV fn_ref12_Twin) [(.agg #[x0_0])] H fun t8 H =>
  newT H fun H =>
  cellsV true 1 t8 fun c1 =>
  LoopPT (fun s12 H K12 =>
  lenSl x1 H fun t11 =>
  binV (.int .i64) .lss (sv s12 0) t11 fun t12 =>
  asB t12 fun b12 =>
  ifB b12 (
  idxS 4 x1 (sv s12 0) fun t17 =>
  fldP 0 t17 fun t18 =>
  loadP false 1 t18 H fun t19 =>
  binV (.int .u8) .eql t19 (.int .u8 2) fun t20 =>
  asB t20 fun b20 =>
  JoinPT (fun K21 =>
  ifB b20 (
  ifB (decide (0 + 1 ≤ ((setSeg [(.slice none 0 0)] 0 c1)).length)) (
  idxS 4 x1 (sv s12 0) fun t25 =>
  fldP 1 t25 fun t26 =>
  loadP false 1 t26 H fun t27 =>
  idxS 1 (mkV false (seg (setSeg [(.slice none 0 0)] 0 c1) 0 1)) t27 fun t28 =>
  loadP false 1 t28 H fun t29 =>
  idxS 4 x1 (sv s12 0) fun t32 =>
  fldP 2 t32 fun t33 =>
  loadP false 1 t33 H fun t34 =>
  binV (.int .i64) .sub t34 (.int .i64 1) fun t35 =>
  idxS 4 x1 (sv s12 0) fun t39 =>
  fldP 3 t39 fun t40 =>
  loadP false 1 t40 H fun t41 =>
  bldS 5 1 false (zeroL Try.prog 5) 0 [] H fun t36 H =>
  (loadP false 1 t40 H fun u41 =>
  u41 = t41) ∧
  (loadP false 1 t33 H fun u34 =>
  u34 = t34) ∧
  (loadP false 1 t28 H fun u29 =>
  u29 = t29) ∧
  (loadP false 1 t26 H fun u27 =>
  u27 = t27) ∧
  (appS 5 1 1 (zeroL Try.prog 5) t36 t41 H fun t42 H =>
  (loadP false 1 t33 H fun u34 =>
  u34 = t34) ∧
  (loadP false 1 t28 H fun u29 =>
  u29 = t29) ∧
  (loadP false 1 t26 H fun u27 =>
  u27 = t27) ∧
  (idxS 1 t29 t35 fun t43 =>
  storeP false 1 t43 t42 H fun H =>
  K21 [] H))) False) (
  K21 [] H)) fun s21 H =>
  binV (.int .i64) .add (sv s12 0) (.int .i64 1) fun t14 =>
  K12 [[t14]] H) (
  ifB (decide (0 + 1 ≤ ((setSeg [(.slice none 0 0)] 0 c1)).length)) (
  cellsV true 1 (.agg (seg (setSeg [(.slice none 0 0)] 0 c1) 0 1).toArray) fun c2 =>
  ifB (decide (0 + 1 ≤ ((setSeg [(.slice none 0 0)] 0 c2)).length)) (
  Q (.agg (seg (setSeg [(.slice none 0 0)] 0 c2) 0 1).toArray) H) False) False)) [[(.int .i64 0)]] H
theorem S_ref12_Behind_of {x0_0 : Value} {x1 : Value} {H : Heap} {Q : Value → Heap → Prop} (h : S_ref12_Behind x0_0 x1 H Q) : callV Try.prog (fnV fn_ref12_Behind) [(.agg #[x0_0]), x1] H Q :=
  callV_fn (hcalls_of (pv := [2, 4, 5]) (ann := [(12, [12]), (21, [])]) Try.func59 (by kernel_rfl) (Eq.mpr (by kernel_rfl) h))

/-- thimblerig/thimblerigref12.Blank -/
def S_ref12_Blank (x0_0 : Value) (x0_1 : Value) (x0_2 : Value) (x0_3 : Value) (x0_4 : Value) (x0_5 : Value) (x0_6 : Value) (x0_7 : Value) (x0_8 : Value) (H : Heap) (Q : Value → Heap → Prop) : Prop :=
  newT H fun H =>
  newT H fun H =>
  newT H fun H =>
  callV Try.prog (fnV fn_ref08_All) [(.agg #[x0_0, x0_1, x0_2, x0_3, x0_4, x0_5, x0_6, x0_7, x0_8])] H fun t9 H =>
  LoopPT (fun s15 H K15 =>
  lenSl t9 H fun t12 =>
  binV (.int .i64) .lss (sv s15 1) t12 fun t13 =>
  asB t13 fun b13 =>
  ifB b13 (
  LoopPT (fun s27 H K27 =>
  idxS 4 t9 (sv s15 1) fun t19 =>
  fldP 2 t19 fun t20 =>
  loadP false 1 t20 H fun t21 =>
  callV Try.prog (fnV fn_ref07_Many) [t21] H fun t22 H =>
  binV (.int .i64) .mul (.int .i64 2) t22 fun t23 =>
  binV (.int .i64) .lss (sv s27 1) t23 fun t24 =>
  asB t24 fun b24 =>
  ifB b24 (
  idxS 4 t9 (sv s15 1) fun t30 =>
  fldP 3 t30 fun t31 =>
  loadP false 1 t31 H fun t32 =>
  binV (.int .i64) .add (.int .i64 8) t32 fun t33 =>
  mkS 5 1 1 (zeroL Try.prog 5) t33 t33 H fun t34 H =>
  bldS 44 1 false (zeroL Try.prog 44) 1 [(0, t34)] H fun t35 H =>
  appS 44 1 24 (zeroL Try.prog 44) (sv s27 0) t35 H fun t36 H =>
  binV (.int .i64) .add (sv s27 1) (.int .i64 1) fun t26 =>
  K27 [[t36], [t26]] H) (
  ifB (decide (0 + 1 ≤ ((sc s15 0)).length)) (
  bldS 39 1 false (zeroL Try.prog 39) 1 [(0, (sv s27 0))] H fun t40 H =>
  appS 39 1 24 (zeroL Try.prog 39) (mkV false (seg (sc s15 0) 0 1)) t40 H fun t41 H =>
  ifB (okc t41) (
  ifB (decide (0 + 1 ≤ ((sc s15 0)).length)) (
  binV (.int .i64) .add (sv s15 1) (.int .i64 1) fun t15 =>
  K15 [(setSeg (sc s15 0) 0 [t41]), [t15]] H) False) False) False)) [[(.slice none 0 0)], [(.int .i64 1)]] H) (
  ifB (decide (0 + 1 ≤ ((sc s15 0)).length)) (
  cellsV true 1 (.agg (seg (sc s15 0) 0 1).toArray) fun c1 =>
  ifB (decide (0 + 1 ≤ ((setSeg [(.slice none 0 0)] 0 c1)).length)) (
  Q (.agg (seg (setSeg [(.slice none 0 0)] 0 c1) 0 1).toArray) H) False) False)) [[(.slice none 0 0)], [(.int .i64 0)]] H
theorem S_ref12_Blank_of {x0_0 : Value} {x0_1 : Value} {x0_2 : Value} {x0_3 : Value} {x0_4 : Value} {x0_5 : Value} {x0_6 : Value} {x0_7 : Value} {x0_8 : Value} {H : Heap} {Q : Value → Heap → Prop} (h : S_ref12_Blank x0_0 x0_1 x0_2 x0_3 x0_4 x0_5 x0_6 x0_7 x0_8 H Q) : callV Try.prog (fnV fn_ref12_Blank) [(.agg #[x0_0, x0_1, x0_2, x0_3, x0_4, x0_5, x0_6, x0_7, x0_8])] H Q :=
  callV_fn (hcalls_of (pv := [1, 2, 3]) (ann := [(15, [7, 10]), (27, [12, 14])]) Try.func61 (by kernel_rfl) (Eq.mpr (by kernel_rfl) h))

/-- thimblerig/thimblerigref12.asked -/
def S_ref12_asked (x0_0 : Value) (x1 : Value) (x2 : Value) (H : Heap) (Q : Value → Heap → Prop) : Prop :=
  newT H fun H =>
  JoinPT (fun K8 =>
  binV (.int .i64) .lss x1 (.int .i64 0) fun t9 =>
  asB t9 fun b10 =>
  ifB b10 (
  K8 [[(.bool true)]] H) (
  lenSl x0_0 H fun t14 =>
  binV (.int .i64) .geq x1 t14 fun t15 =>
  K8 [[t15]] H)) fun s8 H =>
  asB (sv s8 0) fun b16 =>
  ifB b16 (
  Q (.bool false) H) (
  LoopPT (fun s15 H K15 =>
  lenSl x2 H fun t19 =>
  binV (.int .i64) .lss (sv s15 0) t19 fun t20 =>
  asB t20 fun b20 =>
  ifB b20 (
  JoinPT (fun K23 =>
  idxS 1 x2 (sv s15 0) fun t25 =>
  loadP false 1 t25 H fun t26 =>
  binV (.int .i64) .lss t26 (.int .i64 1) fun t27 =>
  asB t27 fun b28 =>
  ifB b28 (
  K23 [[(.bool true)]] H) (
  idxS 1 x2 (sv s15 0) fun t31 =>
  loadP false 1 t31 H fun t32 =>
  idxS 1 x0_0 x1 fun t36 =>
  loadP false 1 t36 H fun t37 =>
  lenSl t37 H fun t38 =>
  binV (.int .i64) .gtr t32 t38 fun t39 =>
  K23 [[t39]] H)) fun s23 H =>
  asB (sv s23 0) fun b40 =>
  ifB b40 (
  Q (.bool false) H) (
  binV (.int .i64) .add (sv s15 0) (.int .i64 1) fun t22 =>
  K15 [[t22]] H)) (
  Q (.bool true) H)) [[(.int .i64 0)]] H)
theorem S_ref12_asked_of {x0_0 : Value} {x1 : Value} {x2 : Value} {H : Heap} {Q : Value → Heap → Prop} (h : S_ref12_asked x0_0 x1 x2 H Q) : callV Try.prog (fnV fn_ref12_asked) [(.agg #[x0_0]), x1, x2] H Q :=
  callV_fn (hcalls_of (pv := [3]) (ann := [(8, [32]), (15, [14]), (23, [80])]) Try.func75 (by kernel_rfl) (Eq.mpr (by kernel_rfl) h))

end Go.Proofs.Ytelfpkegpffajaa
