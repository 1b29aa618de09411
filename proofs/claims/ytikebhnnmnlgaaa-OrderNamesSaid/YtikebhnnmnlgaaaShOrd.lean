/- Written by sh.py: what functions do, out of the deep reading; each is joined to the program by the kernel. -/
import Derived.Test.YtikebhnnmnlgaaaShNames
namespace Go.Proofs.Ytikebhnnmnlgaaa
open Go.Ab
set_option linter.unusedVariables false
set_option linter.unusedSimpArgs false
set_option maxRecDepth 100000

/-- thimblerig/order.Apply -/
def S_order_Apply (x0 : Value) (x1 : Value) (H : Heap) (Q : Value → Heap → Prop) : Prop :=
  ifB (okc x1) (
  newC 23 [x1] H fun a3 H =>
  loadP false 1 (.pointer (some ⟨a3, 0, none⟩)) H fun t8 =>
  callV Try.prog (fnV fn_order_asked) [x0, t8] H fun t9 H =>
  binV (.int .i64) .neq t9 (.int .i64 0) fun t11 =>
  asB t11 fun b11 =>
  ifB b11 (
  Q (.tuple #[(.slice none 0 0), t9]) H) (
  callV Try.prog (fnV fn_order_each_int_uint32) [x0, (.func (.func fn_order_Apply_1) #[] #[(.pointer (some ⟨a3, 0, none⟩))])] H fun t15 H =>
  Q (.tuple #[t15, (.int .i64 0)]) H)) False
theorem S_order_Apply_of {x0 : Value} {x1 : Value} {H : Heap} {Q : Value → Heap → Prop} (h : S_order_Apply x0 x1 H Q) : callV Try.prog (fnV fn_order_Apply) [x0, x1] H Q :=
  callV_fn (hcalls_of (pv := []) (ann := []) Try.func14 (by kernel_rfl) (Eq.mpr (by kernel_rfl) h))

/-- thimblerig/thimblerigref21.Apply -/
def S_ref21_Apply (x0 : Value) (x1 : Value) (H : Heap) (Q : Value → Heap → Prop) : Prop :=
  callV Try.prog (fnV fn_ref21_Orders) [x0, x1] H fun t11 H =>
  binV (.int .i64) .neq t11 (.int .i64 0) fun t13 =>
  asB t13 fun b13 =>
  ifB b13 (
  Q (.tuple #[(.slice none 0 0), t11]) H) (
  LoopPT (fun s21 H K21 =>
  lenSl x0 H fun t17 =>
  binV (.int .i64) .lss (sv s21 1) t17 fun t18 =>
  asB t18 fun b18 =>
  ifB b18 (
  idxS 1 x0 (sv s21 1) fun t25 =>
  loadP false 1 t25 H fun t26 =>
  idxS 1 x1 t26 fun t27 =>
  loadP false 1 t27 H fun t28 =>
  bldS 30 1 false (zeroL Try.prog 30) 1 [(0, t28)] H fun t29 H =>
  appS 30 1 4 (zeroL Try.prog 30) (sv s21 0) t29 H fun t30 H =>
  binV (.int .i64) .add (sv s21 1) (.int .i64 1) fun t20 =>
  K21 [[t30], [t20]] H) (
  Q (.tuple #[(sv s21 0), (.int .i64 0)]) H)) [[(.slice none 0 0)], [(.int .i64 0)]] H)
theorem S_ref21_Apply_of {x0 : Value} {x1 : Value} {H : Heap} {Q : Value → Heap → Prop} (h : S_ref21_Apply x0 x1 H Q) : callV Try.prog (fnV fn_ref21_Apply) [x0, x1] H Q :=
  callV_fn (hcalls_of (pv := []) (ann := [(21, [14, 16])]) Try.func15 (by kernel_rfl) (Eq.mpr (by kernel_rfl) h))

/-- thimblerig/order.Undo -/
def S_order_Undo (x0 : Value) (x1 : Value) (H : Heap) (Q : Value → Heap → Prop) : Prop :=
  callV Try.prog (fnV fn_order_asked) [x0, x1] H fun t12 H =>
  binV (.int .i64) .neq t12 (.int .i64 0) fun t14 =>
  asB t14 fun b14 =>
  ifB b14 (
  Q (.tuple #[(.slice none 0 0), t12]) H) (
  lenSl x0 H fun t17 =>
  mkS 30 1 4 (zeroL Try.prog 30) t17 t17 H fun t18 H =>
  lenSl x0 H fun t20 =>
  LoopPT (fun s21 H K21 =>
  binV (.int .i64) .lss (sv s21 0) t20 fun t22 =>
  asB t22 fun b22 =>
  ifB b22 (
  idxS 1 x0 (sv s21 0) fun t24 =>
  loadP false 1 t24 H fun t25 =>
  idxS 1 x1 (sv s21 0) fun t30 =>
  loadP false 1 t30 H fun t31 =>
  idxS 1 t18 t25 fun t32 =>
  storeP false 1 t32 t31 H fun H =>
  binV (.int .i64) .add (sv s21 0) (.int .i64 1) fun t33 =>
  K21 [[t33]] H) (
  Q (.tuple #[t18, (.int .i64 0)]) H)) [[(.int .i64 0)]] H)
theorem S_order_Undo_of {x0 : Value} {x1 : Value} {H : Heap} {Q : Value → Heap → Prop} (h : S_order_Undo x0 x1 H Q) : callV Try.prog (fnV fn_order_Undo) [x0, x1] H Q :=
  callV_fn (hcalls_of (pv := []) (ann := [(21, [42])]) Try.func16 (by kernel_rfl) (Eq.mpr (by kernel_rfl) h))

/-- thimblerig/thimblerigref21.Undo -/
def S_ref21_Undo (x0 : Value) (x1 : Value) (H : Heap) (Q : Value → Heap → Prop) : Prop :=
  callV Try.prog (fnV fn_ref21_Orders) [x0, x1] H fun t11 H =>
  binV (.int .i64) .neq t11 (.int .i64 0) fun t13 =>
  asB t13 fun b13 =>
  ifB b13 (
  Q (.tuple #[(.slice none 0 0), t11]) H) (
  lenSl x0 H fun t16 =>
  mkS 30 1 4 (zeroL Try.prog 30) t16 t16 H fun t17 H =>
  LoopPT (fun s21 H K21 =>
  lenSl x0 H fun t20 =>
  binV (.int .i64) .lss (sv s21 0) t20 fun t21 =>
  asB t21 fun b21 =>
  ifB b21 (
  idxS 1 x0 (sv s21 0) fun t27 =>
  loadP false 1 t27 H fun t28 =>
  idxS 1 x1 (sv s21 0) fun t31 =>
  loadP false 1 t31 H fun t32 =>
  idxS 1 t17 t28 fun t33 =>
  storeP false 1 t33 t32 H fun H =>
  binV (.int .i64) .add (sv s21 0) (.int .i64 1) fun t23 =>
  K21 [[t23]] H) (
  Q (.tuple #[t17, (.int .i64 0)]) H)) [[(.int .i64 0)]] H)
theorem S_ref21_Undo_of {x0 : Value} {x1 : Value} {H : Heap} {Q : Value → Heap → Prop} (h : S_ref21_Undo x0 x1 H Q) : callV Try.prog (fnV fn_ref21_Undo) [x0, x1] H Q :=
  callV_fn (hcalls_of (pv := []) (ann := [(21, [16])]) Try.func17 (by kernel_rfl) (Eq.mpr (by kernel_rfl) h))

/-- thimblerig/thimblerigref21.SameCells -/
def S_ref21_SameCells (x0 : Value) (x1 : Value) (H : Heap) (Q : Value → Heap → Prop) : Prop :=
  lenSl x0 H fun t7 =>
  lenSl x1 H fun t9 =>
  binV (.int .i64) .neq t7 t9 fun t10 =>
  asB t10 fun b10 =>
  ifB b10 (
  Q (.bool false) H) (
  LoopPT (fun s15 H K15 =>
  lenSl x0 H fun t13 =>
  binV (.int .i64) .lss (sv s15 0) t13 fun t14 =>
  asB t14 fun b14 =>
  ifB b14 (
  idxS 1 x0 (sv s15 0) fun t19 =>
  loadP false 1 t19 H fun t20 =>
  idxS 1 x1 (sv s15 0) fun t23 =>
  loadP false 1 t23 H fun t24 =>
  binV (.int .u32) .neq t20 t24 fun t25 =>
  asB t25 fun b25 =>
  ifB b25 (
  Q (.bool false) H) (
  binV (.int .i64) .add (sv s15 0) (.int .i64 1) fun t16 =>
  K15 [[t16]] H)) (
  Q (.bool true) H)) [[(.int .i64 0)]] H)
theorem S_ref21_SameCells_of {x0 : Value} {x1 : Value} {H : Heap} {Q : Value → Heap → Prop} (h : S_ref21_SameCells x0 x1 H Q) : callV Try.prog (fnV fn_ref21_SameCells) [x0, x1] H Q :=
  callV_fn (hcalls_of (pv := []) (ann := [(15, [10])]) Try.func18 (by kernel_rfl) (Eq.mpr (by kernel_rfl) h))

/-- thimblerig/thimblerigref21.GreatUnits -/
def S_ref21_GreatUnits (x0 : Value) (x1 : Value) (H : Heap) (Q : Value → Heap → Prop) : Prop :=
  LoopPT (fun s9 H K9 =>
  JoinPT (fun K11 =>
  lenSl x0 H fun t8 =>
  binV (.int .i64) .lss (sv s9 0) t8 fun t9 =>
  asB t9 fun b10 =>
  ifB b10 (
  binV (.int .i64) .lss (sv s9 0) x1 fun t13 =>
  K11 [[t13]] H) (
  K11 [[(.bool false)]] H)) fun s11 H =>
  asB (sv s11 0) fun b14 =>
  ifB b14 (
  idxS 4 x0 (sv s9 0) fun t19 =>
  fldP 3 t19 fun t20 =>
  loadP false 1 t20 H fun t21 =>
  lenSl t21 H fun t22 =>
  binV (.int .i64) .gtr t22 (.int .i64 100) fun t23 =>
  asB t23 fun b23 =>
  ifB b23 (
  Q (.bool true) H) (
  binV (.int .i64) .add (sv s9 0) (.int .i64 1) fun t16 =>
  K9 [[t16]] H)) (
  lenSl x0 H fun t25 =>
  binV (.int .i64) .gtr t25 x1 fun t27 =>
  Q t27 H)) [[(.int .i64 0)]] H
theorem S_ref21_GreatUnits_of {x0 : Value} {x1 : Value} {H : Heap} {Q : Value → Heap → Prop} (h : S_ref21_GreatUnits x0 x1 H Q) : callV Try.prog (fnV fn_ref21_GreatUnits) [x0, x1] H Q :=
  callV_fn (hcalls_of (pv := []) (ann := [(9, [10]), (11, [28])]) Try.func35 (by kernel_rfl) (Eq.mpr (by kernel_rfl) h))

/-- thimblerig/order.Cells -/
def S_order_Cells (x0_0 : Value) (x0_1 : Value) (x0_2 : Value) (x0_3 : Value) (x0_4 : Value) (x0_5 : Value) (x0_6 : Value) (x0_7 : Value) (x0_8 : Value) (x1 : Value) (H : Heap) (Q : Value → Heap → Prop) : Prop :=
  newC 34 [x0_0, x0_1, x0_2, x0_3, x0_4, x0_5, x0_6, x0_7, x0_8] H fun a2 H =>
  ifB (okc x1) (
  newC 56 [x1] H fun a3 H =>
  loadP true 9 (.pointer (some ⟨a2, 0, none⟩)) H fun t11 =>
  callV Try.prog (fnV fn_conf_Levels) [t11] H fun t12 H =>
  extractV 0 t12 fun t13 =>
  extractV 1 t12 fun t14 =>
  binV (.int .i64) .neq t14 (.int .i64 0) fun t17 =>
  asB t17 fun b15 =>
  ifB b15 (
  Q (.tuple #[(.slice none 0 0), t14]) H) (
  loadP false 1 (.pointer (some ⟨a3, 0, none⟩)) H fun t20 =>
  lenSl t20 H fun t21 =>
  binV (.int .i64) .gtr t21 (.int .i64 512) fun t22 =>
  asB t22 fun b19 =>
  ifB b19 (
  Q (.tuple #[(.slice none 0 0), (.int .i64 4)]) H) (
  loadP false 1 (.pointer (some ⟨a3, 0, none⟩)) H fun t23 =>
  lenSl t23 H fun t24 =>
  LoopPT (fun s24 H K24 =>
  binV (.int .i64) .lss (sv s24 0) t24 fun t26 =>
  asB t26 fun b26 =>
  ifB b26 (
  idxS 4 t23 (sv s24 0) fun t27 =>
  loadP true 4 t27 H fun t28 =>
  newT H fun H =>
  cellsV true 4 t28 fun c1 =>
  loadP true 9 (.pointer (some ⟨a2, 0, none⟩)) H fun t29 =>
  ifB (decide (0 + 4 ≤ ((setSeg [(.int .u8 0), (.int .i64 0), (.int .i64 0), (.slice none 0 0)] 0 c1)).length)) (
  callV Try.prog (fnV fn_order_may) [t29, (.agg (seg (setSeg [(.int .u8 0), (.int .i64 0), (.int .i64 0), (.slice none 0 0)] 0 c1) 0 4).toArray)] H fun t31 H =>
  unV .not t31 fun t32 =>
  asB t32 fun b32 =>
  ifB b32 (
  Q (.tuple #[(.slice none 0 0), (.int .i64 2)]) H) (
  binV (.int .i64) .add (sv s24 0) (.int .i64 1) fun t33 =>
  K24 [[t33]] H)) False) (
  callV Try.prog (fnV fn_order_each_api_Level_int) [t13, (.func (.func fn_order_Cells_1) #[] #[(.pointer (some ⟨a3, 0, none⟩)), (.pointer (some ⟨a2, 0, none⟩))])] H fun t36 H =>
  Q (.tuple #[t36, (.int .i64 0)]) H)) [[(.int .i64 0)]] H))) False
theorem S_order_Cells_of {x0_0 : Value} {x0_1 : Value} {x0_2 : Value} {x0_3 : Value} {x0_4 : Value} {x0_5 : Value} {x0_6 : Value} {x0_7 : Value} {x0_8 : Value} {x1 : Value} {H : Heap} {Q : Value → Heap → Prop} (h : S_order_Cells x0_0 x0_1 x0_2 x0_3 x0_4 x0_5 x0_6 x0_7 x0_8 x1 H Q) : callV Try.prog (fnV fn_order_Cells) [(.agg #[x0_0, x0_1, x0_2, x0_3, x0_4, x0_5, x0_6, x0_7, x0_8]), x1] H Q :=
  callV_fn (hcalls_of (pv := [9]) (ann := [(24, [50])]) Try.func36 (by kernel_rfl) (Eq.mpr (by kernel_rfl) h))

/-- thimblerig/thimblerigref21.Cells -/
def S_ref21_Cells (x0_0 : Value) (x0_1 : Value) (x0_2 : Value) (x0_3 : Value) (x0_4 : Value) (x0_5 : Value) (x0_6 : Value) (x0_7 : Value) (x0_8 : Value) (x1 : Value) (H : Heap) (Q : Value → Heap → Prop) : Prop :=
  newT H fun H =>
  callV Try.prog (fnV fn_ref21_asked) [(.agg #[x0_0, x0_1, x0_2, x0_3, x0_4, x0_5, x0_6, x0_7, x0_8]), x1] H fun t13 H =>
  binV (.int .i64) .neq t13 (.int .i64 0) fun t15 =>
  asB t15 fun b15 =>
  ifB b15 (
  Q (.tuple #[(.slice none 0 0), t13]) H) (
  LoopPT (fun s21 H K21 =>
  callV Try.prog (fnV fn_ref08_All) [(.agg #[x0_0, x0_1, x0_2, x0_3, x0_4, x0_5, x0_6, x0_7, x0_8])] H fun t19 H =>
  lenSl t19 H fun t20 =>
  binV (.int .i64) .lss (sv s21 1) t20 fun t21 =>
  asB t21 fun b21 =>
  ifB b21 (
  LoopPT (fun s33 H K33 =>
  lenSl x1 H fun t26 =>
  binV (.int .i64) .lss (sv s33 1) t26 fun t27 =>
  asB t27 fun b27 =>
  ifB b27 (
  callV Try.prog (fnV fn_ref21_Told) [(.agg #[x0_0, x0_1, x0_2, x0_3, x0_4, x0_5, x0_6, x0_7, x0_8]), x1, (sv s21 1), (sv s33 1)] H fun t35 H =>
  bldS 3 1 false (zeroL Try.prog 3) 1 [(0, t35)] H fun t36 H =>
  appS 3 1 8 (zeroL Try.prog 3) (sv s33 0) t36 H fun t37 H =>
  binV (.int .i64) .add (sv s33 1) (.int .i64 1) fun t29 =>
  K33 [[t37], [t29]] H) (
  bldS 22 1 false (zeroL Try.prog 22) 1 [(0, (sv s33 0))] H fun t40 H =>
  appS 22 1 24 (zeroL Try.prog 22) (sv s21 0) t40 H fun t41 H =>
  binV (.int .i64) .add (sv s21 1) (.int .i64 1) fun t23 =>
  K21 [[t41], [t23]] H)) [[(.slice none 0 0)], [(.int .i64 0)]] H) (
  Q (.tuple #[(sv s21 0), (.int .i64 0)]) H)) [[(.slice none 0 0)], [(.int .i64 0)]] H)
theorem S_ref21_Cells_of {x0_0 : Value} {x0_1 : Value} {x0_2 : Value} {x0_3 : Value} {x0_4 : Value} {x0_5 : Value} {x0_6 : Value} {x0_7 : Value} {x0_8 : Value} {x1 : Value} {H : Heap} {Q : Value → Heap → Prop} (h : S_ref21_Cells x0_0 x0_1 x0_2 x0_3 x0_4 x0_5 x0_6 x0_7 x0_8 x1 H Q) : callV Try.prog (fnV fn_ref21_Cells) [(.agg #[x0_0, x0_1, x0_2, x0_3, x0_4, x0_5, x0_6, x0_7, x0_8]), x1] H Q :=
  callV_fn (hcalls_of (pv := [2]) (ann := [(21, [14, 16]), (33, [18, 20])]) Try.func37 (by kernel_rfl) (Eq.mpr (by kernel_rfl) h))

/-- thimblerig/order.Perm -/
def S_order_Perm (x0_0 : Value) (x0_1 : Value) (x0_2 : Value) (x0_3 : Value) (x0_4 : Value) (x0_5 : Value) (x0_6 : Value) (x0_7 : Value) (x0_8 : Value) (x1 : Value) (H : Heap) (Q : Value → Heap → Prop) : Prop :=
  newT H fun H =>
  callV Try.prog (fnV fn_order_Cells) [(.agg #[x0_0, x0_1, x0_2, x0_3, x0_4, x0_5, x0_6, x0_7, x0_8]), x1] H fun t11 H =>
  extractV 0 t11 fun t12 =>
  extractV 1 t11 fun t13 =>
  binV (.int .i64) .neq t13 (.int .i64 0) fun t15 =>
  asB t15 fun b15 =>
  ifB b15 (
  Q (.tuple #[(.slice none 0 0), t13]) H) (
  callV Try.prog (fnV fn_order_each_int_int) [t12, (fnV fn_order_Perm_1)] H fun t18 H =>
  Q (.tuple #[t18, (.int .i64 0)]) H)
theorem S_order_Perm_of {x0_0 : Value} {x0_1 : Value} {x0_2 : Value} {x0_3 : Value} {x0_4 : Value} {x0_5 : Value} {x0_6 : Value} {x0_7 : Value} {x0_8 : Value} {x1 : Value} {H : Heap} {Q : Value → Heap → Prop} (h : S_order_Perm x0_0 x0_1 x0_2 x0_3 x0_4 x0_5 x0_6 x0_7 x0_8 x1 H Q) : callV Try.prog (fnV fn_order_Perm) [(.agg #[x0_0, x0_1, x0_2, x0_3, x0_4, x0_5, x0_6, x0_7, x0_8]), x1] H Q :=
  callV_fn (hcalls_of (pv := [2]) (ann := []) Try.func38 (by kernel_rfl) (Eq.mpr (by kernel_rfl) h))

/-- thimblerig/thimblerigref21.Perm -/
def S_ref21_Perm (x0_0 : Value) (x0_1 : Value) (x0_2 : Value) (x0_3 : Value) (x0_4 : Value) (x0_5 : Value) (x0_6 : Value) (x0_7 : Value) (x0_8 : Value) (x1 : Value) (H : Heap) (Q : Value → Heap → Prop) : Prop :=
  newT H fun H =>
  callV Try.prog (fnV fn_ref21_Cells) [(.agg #[x0_0, x0_1, x0_2, x0_3, x0_4, x0_5, x0_6, x0_7, x0_8]), x1] H fun t17 H =>
  extractV 0 t17 fun t18 =>
  extractV 1 t17 fun t19 =>
  binV (.int .i64) .neq t19 (.int .i64 0) fun t21 =>
  asB t21 fun b21 =>
  ifB b21 (
  Q (.tuple #[(.slice none 0 0), t19]) H) (
  LoopPT (fun s21 H K21 =>
  lenSl t18 H fun t25 =>
  binV (.int .i64) .lss (sv s21 1) t25 fun t26 =>
  asB t26 fun b26 =>
  ifB b26 (
  LoopPT (fun s33 H K33 =>
  lenSl x1 H fun t31 =>
  binV (.int .i64) .mul (.int .i64 2) t31 fun t32 =>
  binV (.int .i64) .lss (sv s33 1) t32 fun t33 =>
  asB t33 fun b33 =>
  ifB b33 (
  idxS 1 t18 (sv s21 1) fun t38 =>
  loadP false 1 t38 H fun t39 =>
  callV Try.prog (fnV fn_ref21_among) [t39, (sv s33 1)] H fun t41 H =>
  unV .not t41 fun t42 =>
  asB t42 fun b42 =>
  JoinPT (fun K42 =>
  ifB b42 (
  bldS 3 1 false (zeroL Try.prog 3) 1 [(0, (sv s33 1))] H fun t45 H =>
  appS 3 1 8 (zeroL Try.prog 3) (sv s33 0) t45 H fun t46 H =>
  K42 [[t46]] H) (
  K42 [[(sv s33 0)]] H)) fun s42 H =>
  binV (.int .i64) .add (sv s33 1) (.int .i64 1) fun t35 =>
  K33 [[(sv s42 0)], [t35]] H) (
  LoopPT (fun s51 H K51 =>
  lenSl x1 H fun t49 =>
  binV (.int .i64) .lss (sv s51 1) t49 fun t50 =>
  asB t50 fun b50 =>
  ifB b50 (
  idxS 1 t18 (sv s21 1) fun t56 =>
  loadP false 1 t56 H fun t57 =>
  idxS 1 t57 (sv s51 1) fun t59 =>
  loadP false 1 t59 H fun t60 =>
  idxS 1 (sv s33 0) (sv s51 1) fun t63 =>
  loadP false 1 t63 H fun t64 =>
  bldS 3 1 false (zeroL Try.prog 3) 2 [(0, t60), (1, t64)] H fun t65 H =>
  (loadP false 1 t56 H fun u57 =>
  u57 = t57) ∧
  (appS 3 1 8 (zeroL Try.prog 3) (sv s51 0) t65 H fun t66 H =>
  (loadP false 1 t56 H fun u57 =>
  u57 = t57) ∧
  (binV (.int .i64) .add (sv s51 1) (.int .i64 1) fun t52 =>
  K51 [[t66], [t52]] H))) (
  bldS 22 1 false (zeroL Try.prog 22) 1 [(0, (sv s51 0))] H fun t69 H =>
  appS 22 1 24 (zeroL Try.prog 22) (sv s21 0) t69 H fun t70 H =>
  binV (.int .i64) .add (sv s21 1) (.int .i64 1) fun t28 =>
  K21 [[t70], [t28]] H)) [[(.slice none 0 0)], [(.int .i64 0)]] H)) [[(.slice none 0 0)], [(.int .i64 0)]] H) (
  Q (.tuple #[(sv s21 0), (.int .i64 0)]) H)) [[(.slice none 0 0)], [(.int .i64 0)]] H)
theorem S_ref21_Perm_of {x0_0 : Value} {x0_1 : Value} {x0_2 : Value} {x0_3 : Value} {x0_4 : Value} {x0_5 : Value} {x0_6 : Value} {x0_7 : Value} {x0_8 : Value} {x1 : Value} {H : Heap} {Q : Value → Heap → Prop} (h : S_ref21_Perm x0_0 x0_1 x0_2 x0_3 x0_4 x0_5 x0_6 x0_7 x0_8 x1 H Q) : callV Try.prog (fnV fn_ref21_Perm) [(.agg #[x0_0, x0_1, x0_2, x0_3, x0_4, x0_5, x0_6, x0_7, x0_8]), x1] H Q :=
  callV_fn (hcalls_of (pv := [2]) (ann := [(21, [16, 18]), (33, [20, 22]), (42, [20]), (51, [24, 26])]) Try.func39 (by kernel_rfl) (Eq.mpr (by kernel_rfl) h))

/-- thimblerig/order.asked -/
def S_order_asked (x0 : Value) (x1 : Value) (H : Heap) (Q : Value → Heap → Prop) : Prop :=
  lenSl x0 H fun t9 =>
  binV (.int .i64) .gtr t9 (.int .i64 1024) fun t10 =>
  asB t10 fun b10 =>
  ifB b10 (
  Q (.int .i64 4) H) (
  lenSl x1 H fun t12 =>
  lenSl x0 H fun t14 =>
  binV (.int .i64) .neq t12 t14 fun t15 =>
  asB t15 fun b15 =>
  ifB b15 (
  Q (.int .i64 2) H) (
  mkM H fun t16 H =>
  lenSl x0 H fun t18 =>
  LoopPT (fun s24 H K24 =>
  binV (.int .i64) .lss (sv s24 0) t18 fun t20 =>
  asB t20 fun b20 =>
  ifB b20 (
  idxS 1 x0 (sv s24 0) fun t21 =>
  loadP false 1 t21 H fun t22 =>
  getM .i64 (.int .i64 0) t16 t22 H fun t25 t25o =>
  binV (.int .i64) .add t25 (.int .i64 1) fun t26 =>
  putM .i64 t16 t22 t26 H fun H =>
  JoinPT (fun K35 =>
  getM .i64 (.int .i64 0) t16 t22 H fun t29 t29o =>
  binV (.int .i64) .gtr t29 (.int .i64 1) fun t30 =>
  asB t30 fun b31 =>
  ifB b31 (
  K35 [[(.bool true)]] H) (
  binV (.int .i64) .lss t22 (.int .i64 0) fun t33 =>
  asB t33 fun b35 =>
  ifB b35 (
  K35 [[(.bool true)]] H) (
  lenSl x0 H fun t38 =>
  binV (.int .i64) .geq t22 t38 fun t39 =>
  K35 [[t39]] H))) fun s35 H =>
  asB (sv s35 0) fun b40 =>
  ifB b40 (
  Q (.int .i64 2) H) (
  binV (.int .i64) .add (sv s24 0) (.int .i64 1) fun t41 =>
  K24 [[t41]] H)) (
  Q (.int .i64 0) H)) [[(.int .i64 0)]] H))
theorem S_order_asked_of {x0 : Value} {x1 : Value} {H : Heap} {Q : Value → Heap → Prop} (h : S_order_asked x0 x1 H Q) : callV Try.prog (fnV fn_order_asked) [x0, x1] H Q :=
  callV_fn (hcalls_of (pv := []) (ann := [(24, [38]), (35, [80])]) Try.func55 (by kernel_rfl) (Eq.mpr (by kernel_rfl) h))

/-- thimblerig/order.each[int,uint32] -/
def S_order_each_int_uint32 (x0 : Value) (x1 : Value) (H : Heap) (Q : Value → Heap → Prop) : Prop :=
  lenSl x0 H fun t8 =>
  LoopPT (fun s9 H K9 =>
  binV (.int .i64) .lss (sv s9 1) t8 fun t10 =>
  asB t10 fun b10 =>
  ifB b10 (
  idxS 1 x0 (sv s9 1) fun t12 =>
  loadP false 1 t12 H fun t13 =>
  callV Try.prog x1 [(sv s9 1), t13] H fun t18 H =>
  bldS 30 1 false (zeroL Try.prog 30) 1 [(0, t18)] H fun t19 H =>
  appS 30 1 4 (zeroL Try.prog 30) (sv s9 0) t19 H fun t20 H =>
  binV (.int .i64) .add (sv s9 1) (.int .i64 1) fun t21 =>
  K9 [[t20], [t21]] H) (
  Q (sv s9 0) H)) [[(.slice none 0 0)], [(.int .i64 0)]] H
theorem S_order_each_int_uint32_of {x0 : Value} {x1 : Value} {H : Heap} {Q : Value → Heap → Prop} (h : S_order_each_int_uint32 x0 x1 H Q) : callV Try.prog (fnV fn_order_each_int_uint32) [x0, x1] H Q :=
  callV_fn (hcalls_of (pv := []) (ann := [(9, [8, 18])]) Try.func56 (by kernel_rfl) (Eq.mpr (by kernel_rfl) h))

/-- thimblerig/order.Apply$1 -/
def S_order_Apply_1 (x0 : Value) (x1 : Value) (y0 : Value) (H : Heap) (Q : Value → Heap → Prop) : Prop :=
  loadP false 1 y0 H fun t6 =>
  idxS 1 t6 x1 fun t8 =>
  loadP false 1 t8 H fun t9 =>
  Q t9 H
theorem S_order_Apply_1_of {x0 : Value} {x1 : Value} {y0 : Value} {H : Heap} {Q : Value → Heap → Prop} (h : S_order_Apply_1 x0 x1 y0 H Q) : callV Try.prog (fnV fn_order_Apply_1) [x0, x1, y0] H Q :=
  callV_fn (hcalls_of (pv := []) (ann := []) Try.func57 (by kernel_rfl) (Eq.mpr (by kernel_rfl) h))
theorem C_order_Apply_1_of {x0 : Value} {x1 : Value} {y0 : Value} {H : Heap} {Q : Value → Heap → Prop} (h : S_order_Apply_1 x0 x1 y0 H Q) : callV Try.prog (.func (.func fn_order_Apply_1) #[] #[y0]) [x0, x1] H Q :=
  callV_cl (S_order_Apply_1_of h)

/-- thimblerig/thimblerigref21.Orders -/
def S_ref21_Orders (x0 : Value) (x1 : Value) (H : Heap) (Q : Value → Heap → Prop) : Prop :=
  lenSl x0 H fun t7 =>
  binV (.int .i64) .gtr t7 (.int .i64 1024) fun t8 =>
  asB t8 fun b8 =>
  ifB b8 (
  Q (.int .i64 4) H) (
  lenSl x1 H fun t10 =>
  lenSl x0 H fun t12 =>
  binV (.int .i64) .neq t10 t12 fun t13 =>
  asB t13 fun b13 =>
  ifB b13 (
  Q (.int .i64 2) H) (
  LoopPT (fun s21 H K21 =>
  lenSl x0 H fun t16 =>
  binV (.int .i64) .lss (sv s21 0) t16 fun t17 =>
  asB t17 fun b17 =>
  ifB b17 (
  callV Try.prog (fnV fn_ref21_among) [x0, (sv s21 0)] H fun t22 H =>
  unV .not t22 fun t23 =>
  asB t23 fun b23 =>
  ifB b23 (
  Q (.int .i64 2) H) (
  binV (.int .i64) .add (sv s21 0) (.int .i64 1) fun t19 =>
  K21 [[t19]] H)) (
  Q (.int .i64 0) H)) [[(.int .i64 0)]] H))
theorem S_ref21_Orders_of {x0 : Value} {x1 : Value} {H : Heap} {Q : Value → Heap → Prop} (h : S_ref21_Orders x0 x1 H Q) : callV Try.prog (fnV fn_ref21_Orders) [x0, x1] H Q :=
  callV_fn (hcalls_of (pv := []) (ann := [(21, [10])]) Try.func58 (by kernel_rfl) (Eq.mpr (by kernel_rfl) h))

/-- thimblerig/order.may -/
def S_order_may (x0_0 : Value) (x0_1 : Value) (x0_2 : Value) (x0_3 : Value) (x0_4 : Value) (x0_5 : Value) (x0_6 : Value) (x0_7 : Value) (x0_8 : Value) (x1_0 : Value) (x1_1 : Value) (x1_2 : Value) (x1_3 : Value) (H : Heap) (Q : Value → Heap → Prop) : Prop :=
  newT H fun H =>
  newT H fun H =>
  JoinPT (fun K8 =>
  binV (.int .i64) .geq x1_1 (.int .i64 0) fun t8 =>
  asB t8 fun b9 =>
  ifB b9 (
  binV (.int .i64) .lss x1_1 x0_0 fun t14 =>
  K8 [[t14]] H) (
  K8 [[(.bool false)]] H)) fun s8 H =>
  binV (.int .u8) .eql x1_0 (.int .u8 0) fun t19 =>
  asB t19 fun b18 =>
  ifB b18 (
  JoinPT (fun K17 =>
  binV (.int .i64) .eql x1_1 (.int .i64 0) fun t22 =>
  asB t22 fun b23 =>
  ifB b23 (
  lenSl x1_3 H fun t26 =>
  binV (.int .i64) .eql t26 (.int .i64 0) fun t27 =>
  K17 [[t27]] H) (
  K17 [[(.bool false)]] H)) fun s17 H =>
  Q (sv s17 0) H) (
  binV (.int .u8) .eql x1_0 (.int .u8 1) fun t30 =>
  asB t30 fun b29 =>
  ifB b29 (
  JoinPT (fun K23 =>
  asB (sv s8 0) fun b32 =>
  ifB b32 (
  lenSl x1_3 H fun t35 =>
  binV (.int .i64) .eql t35 (.int .i64 0) fun t36 =>
  K23 [[t36]] H) (
  K23 [[(.bool false)]] H)) fun s23 H =>
  Q (sv s23 0) H) (
  binV (.int .u8) .eql x1_0 (.int .u8 2) fun t39 =>
  asB t39 fun b38 =>
  ifB b38 (
  JoinPT (fun K29 =>
  asB (sv s8 0) fun b41 =>
  ifB b41 (
  lenSl x1_3 H fun t44 =>
  binV (.int .i64) .eql t44 x0_1 fun t47 =>
  K29 [[t47]] H) (
  K29 [[(.bool false)]] H)) fun s29 H =>
  Q (sv s29 0) H) (
  Q (.bool false) H)))
theorem S_order_may_of {x0_0 : Value} {x0_1 : Value} {x0_2 : Value} {x0_3 : Value} {x0_4 : Value} {x0_5 : Value} {x0_6 : Value} {x0_7 : Value} {x0_8 : Value} {x1_0 : Value} {x1_1 : Value} {x1_2 : Value} {x1_3 : Value} {H : Heap} {Q : Value → Heap → Prop} (h : S_order_may x0_0 x0_1 x0_2 x0_3 x0_4 x0_5 x0_6 x0_7 x0_8 x1_0 x1_1 x1_2 x1_3 H Q) : callV Try.prog (fnV fn_order_may) [(.agg #[x0_0, x0_1, x0_2, x0_3, x0_4, x0_5, x0_6, x0_7, x0_8]), (.agg #[x1_0, x1_1, x1_2, x1_3])] H Q :=
  callV_fn (hcalls_of (pv := [2, 3]) (ann := [(8, [10]), (17, [8]), (23, [8]), (29, [8])]) Try.func81 (by kernel_rfl) (Eq.mpr (by kernel_rfl) h))

/-- thimblerig/order.each[thimblerig/api.Level,[]int] -/
def S_order_each_api_Level_int (x0 : Value) (x1 : Value) (H : Heap) (Q : Value → Heap → Prop) : Prop :=
  lenSl x0 H fun t8 =>
  LoopPT (fun s9 H K9 =>
  binV (.int .i64) .lss (sv s9 1) t8 fun t10 =>
  asB t10 fun b10 =>
  ifB b10 (
  idxS 4 x0 (sv s9 1) fun t12 =>
  loadP true 4 t12 H fun t13 =>
  newT H fun H =>
  cellsV true 4 t13 fun c1 =>
  ifB (decide (0 + 4 ≤ ((setSeg [(.int .i64 0), (.int .i64 0), (.int .i64 0), (.int .i64 0)] 0 c1)).length)) (
  callV Try.prog x1 [(sv s9 1), (.agg (seg (setSeg [(.int .i64 0), (.int .i64 0), (.int .i64 0), (.int .i64 0)] 0 c1) 0 4).toArray)] H fun t18 H =>
  bldS 22 1 false (zeroL Try.prog 22) 1 [(0, t18)] H fun t19 H =>
  appS 22 1 24 (zeroL Try.prog 22) (sv s9 0) t19 H fun t20 H =>
  binV (.int .i64) .add (sv s9 1) (.int .i64 1) fun t21 =>
  K9 [[t20], [t21]] H) False) (
  Q (sv s9 0) H)) [[(.slice none 0 0)], [(.int .i64 0)]] H
theorem S_order_each_api_Level_int_of {x0 : Value} {x1 : Value} {H : Heap} {Q : Value → Heap → Prop} (h : S_order_each_api_Level_int x0 x1 H Q) : callV Try.prog (fnV fn_order_each_api_Level_int) [x0, x1] H Q :=
  callV_fn (hcalls_of (pv := [6]) (ann := [(9, [8, 18])]) Try.func82 (by kernel_rfl) (Eq.mpr (by kernel_rfl) h))

/-- thimblerig/order.Cells$1 -/
def S_order_Cells_1 (x0 : Value) (x1_0 : Value) (x1_1 : Value) (x1_2 : Value) (x1_3 : Value) (y0 : Value) (y1 : Value) (H : Heap) (Q : Value → Heap → Prop) : Prop :=
  ifB (okc x0) (
  newC 3 [x0] H fun a4 H =>
  newT H fun H =>
  mkM H fun t8 H =>
  newC 120 [(.map none)] H fun a7 H =>
  storeP false 1 (.pointer (some ⟨a7, 0, none⟩)) t8 H fun H =>
  loadP false 1 y0 H fun t9 =>
  callV Try.prog (fnV fn_order_each_api_Unit_int) [t9, (.func (.func fn_order_Cells_1_1) #[] #[y1, (.pointer (some ⟨a7, 0, none⟩)), (.pointer (some ⟨a4, 0, none⟩))])] H fun t11 H =>
  Q t11 H) False
theorem S_order_Cells_1_of {x0 : Value} {x1_0 : Value} {x1_1 : Value} {x1_2 : Value} {x1_3 : Value} {y0 : Value} {y1 : Value} {H : Heap} {Q : Value → Heap → Prop} (h : S_order_Cells_1 x0 x1_0 x1_1 x1_2 x1_3 y0 y1 H Q) : callV Try.prog (fnV fn_order_Cells_1) [x0, (.agg #[x1_0, x1_1, x1_2, x1_3]), y0, y1] H Q :=
  callV_fn (hcalls_of (pv := [5]) (ann := []) Try.func83 (by kernel_rfl) (Eq.mpr (by kernel_rfl) h))
theorem C_order_Cells_1_of {x0 : Value} {x1_0 : Value} {x1_1 : Value} {x1_2 : Value} {x1_3 : Value} {y0 : Value} {y1 : Value} {H : Heap} {Q : Value → Heap → Prop} (h : S_order_Cells_1 x0 x1_0 x1_1 x1_2 x1_3 y0 y1 H Q) : callV Try.prog (.func (.func fn_order_Cells_1) #[] #[y0, y1]) [x0, (.agg #[x1_0, x1_1, x1_2, x1_3])] H Q :=
  callV_cl (S_order_Cells_1_of h)

/-- thimblerig/order.each[thimblerig/api.Unit,int] -/
def S_order_each_api_Unit_int (x0 : Value) (x1 : Value) (H : Heap) (Q : Value → Heap → Prop) : Prop :=
  lenSl x0 H fun t8 =>
  LoopPT (fun s9 H K9 =>
  binV (.int .i64) .lss (sv s9 1) t8 fun t10 =>
  asB t10 fun b10 =>
  ifB b10 (
  idxS 4 x0 (sv s9 1) fun t12 =>
  loadP true 4 t12 H fun t13 =>
  newT H fun H =>
  cellsV true 4 t13 fun c1 =>
  ifB (decide (0 + 4 ≤ ((setSeg [(.int .u8 0), (.int .i64 0), (.int .i64 0), (.slice none 0 0)] 0 c1)).length)) (
  callV Try.prog x1 [(sv s9 1), (.agg (seg (setSeg [(.int .u8 0), (.int .i64 0), (.int .i64 0), (.slice none 0 0)] 0 c1) 0 4).toArray)] H fun t18 H =>
  bldS 3 1 false (zeroL Try.prog 3) 1 [(0, t18)] H fun t19 H =>
  appS 3 1 8 (zeroL Try.prog 3) (sv s9 0) t19 H fun t20 H =>
  binV (.int .i64) .add (sv s9 1) (.int .i64 1) fun t21 =>
  K9 [[t20], [t21]] H) False) (
  Q (sv s9 0) H)) [[(.slice none 0 0)], [(.int .i64 0)]] H
theorem S_order_each_api_Unit_int_of {x0 : Value} {x1 : Value} {H : Heap} {Q : Value → Heap → Prop} (h : S_order_each_api_Unit_int x0 x1 H Q) : callV Try.prog (fnV fn_order_each_api_Unit_int) [x0, x1] H Q :=
  callV_fn (hcalls_of (pv := [6]) (ann := [(9, [8, 18])]) Try.func84 (by kernel_rfl) (Eq.mpr (by kernel_rfl) h))

/-- thimblerig/order.Cells$1$1 -/
def S_order_Cells_1_1 (x0 : Value) (x1_0 : Value) (x1_1 : Value) (x1_2 : Value) (x1_3 : Value) (y0 : Value) (y1 : Value) (y2 : Value) (H : Heap) (Q : Value → Heap → Prop) : Prop :=
  newT H fun H =>
  binV (.int .u8) .eql x1_0 (.int .u8 0) fun t15 =>
  asB t15 fun b15 =>
  ifB b15 (
  binV (.int .i64) .mul (.int .i64 2) x0 fun t17 =>
  binV (.int .i64) .add t17 (.int .i64 1) fun t18 =>
  Q t18 H) (
  loadP true 9 y0 H fun t20 =>
  callV Try.prog (fnV fn_conf_Road) [t20, x1_1] H fun t23 H =>
  extractV 0 t23 fun t24 =>
  extractV 1 t23 fun t25 =>
  extractV 2 t23 fun t26 =>
  loadP false 1 y1 H fun t28 =>
  loadP false 1 y2 H fun t30 =>
  idxS 1 t24 t30 fun t31 =>
  loadP false 1 t31 H fun t32 =>
  getM .i64 (.int .i64 0) t28 t32 H fun t33 t33o =>
  loadP false 1 y1 H fun t36 =>
  loadP false 1 y2 H fun t38 =>
  idxS 1 t24 t38 fun t39 =>
  loadP false 1 t39 H fun t40 =>
  putM .i64 t36 t40 x0 H fun H =>
  ifB t33o (
  binV (.int .i64) .mul (.int .i64 2) t33 fun t44 =>
  Q t44 H) (
  binV (.int .i64) .mul (.int .i64 2) x0 fun t46 =>
  binV (.int .i64) .add t46 (.int .i64 1) fun t47 =>
  Q t47 H))
theorem S_order_Cells_1_1_of {x0 : Value} {x1_0 : Value} {x1_1 : Value} {x1_2 : Value} {x1_3 : Value} {y0 : Value} {y1 : Value} {y2 : Value} {H : Heap} {Q : Value → Heap → Prop} (h : S_order_Cells_1_1 x0 x1_0 x1_1 x1_2 x1_3 y0 y1 y2 H Q) : callV Try.prog (fnV fn_order_Cells_1_1) [x0, (.agg #[x1_0, x1_1, x1_2, x1_3]), y0, y1, y2] H Q :=
  callV_fn (hcalls_of (pv := [6]) (ann := []) Try.func85 (by kernel_rfl) (Eq.mpr (by kernel_rfl) h))
theorem C_order_Cells_1_1_of {x0 : Value} {x1_0 : Value} {x1_1 : Value} {x1_2 : Value} {x1_3 : Value} {y0 : Value} {y1 : Value} {y2 : Value} {H : Heap} {Q : Value → Heap → Prop} (h : S_order_Cells_1_1 x0 x1_0 x1_1 x1_2 x1_3 y0 y1 y2 H Q) : callV Try.prog (.func (.func fn_order_Cells_1_1) #[] #[y0, y1, y2]) [x0, (.agg #[x1_0, x1_1, x1_2, x1_3])] H Q :=
  callV_cl (S_order_Cells_1_1_of h)

/-- thimblerig/thimblerigref21.asked -/
def S_ref21_asked (x0_0 : Value) (x0_1 : Value) (x0_2 : Value) (x0_3 : Value) (x0_4 : Value) (x0_5 : Value) (x0_6 : Value) (x0_7 : Value) (x0_8 : Value) (x1 : Value) (H : Heap) (Q : Value → Heap → Prop) : Prop :=
  newT H fun H =>
  callV Try.prog (fnV fn_ref08_May) [(.agg #[x0_0, x0_1, x0_2, x0_3, x0_4, x0_5, x0_6, x0_7, x0_8])] H fun t7 H =>
  unV .not t7 fun t8 =>
  asB t8 fun b8 =>
  ifB b8 (
  Q (.int .i64 8) H) (
  lenSl x1 H fun t10 =>
  binV (.int .i64) .gtr t10 (.int .i64 512) fun t11 =>
  asB t11 fun b11 =>
  ifB b11 (
  Q (.int .i64 4) H) (
  LoopPT (fun s21 H K21 =>
  lenSl x1 H fun t14 =>
  binV (.int .i64) .lss (sv s21 0) t14 fun t15 =>
  asB t15 fun b15 =>
  ifB b15 (
  idxS 4 x1 (sv s21 0) fun t21 =>
  loadP true 4 t21 H fun t22 =>
  callV Try.prog (fnV fn_ref20_MayUnit) [(.agg #[x0_0, x0_1, x0_2, x0_3, x0_4, x0_5, x0_6, x0_7, x0_8]), t22] H fun t23 H =>
  unV .not t23 fun t24 =>
  asB t24 fun b24 =>
  ifB b24 (
  Q (.int .i64 2) H) (
  binV (.int .i64) .add (sv s21 0) (.int .i64 1) fun t17 =>
  K21 [[t17]] H)) (
  Q (.int .i64 0) H)) [[(.int .i64 0)]] H))
theorem S_ref21_asked_of {x0_0 : Value} {x0_1 : Value} {x0_2 : Value} {x0_3 : Value} {x0_4 : Value} {x0_5 : Value} {x0_6 : Value} {x0_7 : Value} {x0_8 : Value} {x1 : Value} {H : Heap} {Q : Value → Heap → Prop} (h : S_ref21_asked x0_0 x0_1 x0_2 x0_3 x0_4 x0_5 x0_6 x0_7 x0_8 x1 H Q) : callV Try.prog (fnV fn_ref21_asked) [(.agg #[x0_0, x0_1, x0_2, x0_3, x0_4, x0_5, x0_6, x0_7, x0_8]), x1] H Q :=
  callV_fn (hcalls_of (pv := [2]) (ann := [(21, [10])]) Try.func87 (by kernel_rfl) (Eq.mpr (by kernel_rfl) h))

/-- thimblerig/thimblerigref21.Told -/
def S_ref21_Told (x0_0 : Value) (x0_1 : Value) (x0_2 : Value) (x0_3 : Value) (x0_4 : Value) (x0_5 : Value) (x0_6 : Value) (x0_7 : Value) (x0_8 : Value) (x1 : Value) (x2 : Value) (x3 : Value) (H : Heap) (Q : Value → Heap → Prop) : Prop :=
  newT H fun H =>
  idxS 4 x1 x3 fun t14 =>
  loadP true 4 t14 H fun t15 =>
  callV Try.prog (fnV fn_ref21_block) [(.agg #[x0_0, x0_1, x0_2, x0_3, x0_4, x0_5, x0_6, x0_7, x0_8]), t15, x2] H fun t17 H =>
  binV (.int .i64) .sub x3 (.int .i64 1) fun t19 =>
  LoopPT (fun s12 H K12 =>
  JoinPT (fun K14 =>
  binV (.int .i64) .geq (sv s12 0) (.int .i64 0) fun t21 =>
  asB t21 fun b22 =>
  ifB b22 (
  binV (.int .i64) .geq t17 (.int .i64 0) fun t24 =>
  K14 [[t24]] H) (
  K14 [[(.bool false)]] H)) fun s14 H =>
  asB (sv s14 0) fun b25 =>
  ifB b25 (
  idxS 4 x1 (sv s12 0) fun t31 =>
  loadP true 4 t31 H fun t32 =>
  callV Try.prog (fnV fn_ref21_block) [(.agg #[x0_0, x0_1, x0_2, x0_3, x0_4, x0_5, x0_6, x0_7, x0_8]), t32, x2] H fun t34 H =>
  binV (.int .i64) .eql t34 t17 fun t36 =>
  asB t36 fun b36 =>
  ifB b36 (
  binV (.int .i64) .mul (.int .i64 2) (sv s12 0) fun t38 =>
  Q t38 H) (
  binV (.int .i64) .sub (sv s12 0) (.int .i64 1) fun t27 =>
  K12 [[t27]] H)) (
  binV (.int .i64) .mul (.int .i64 2) x3 fun t40 =>
  binV (.int .i64) .add t40 (.int .i64 1) fun t41 =>
  Q t41 H)) [[t19]] H
theorem S_ref21_Told_of {x0_0 : Value} {x0_1 : Value} {x0_2 : Value} {x0_3 : Value} {x0_4 : Value} {x0_5 : Value} {x0_6 : Value} {x0_7 : Value} {x0_8 : Value} {x1 : Value} {x2 : Value} {x3 : Value} {H : Heap} {Q : Value → Heap → Prop} (h : S_ref21_Told x0_0 x0_1 x0_2 x0_3 x0_4 x0_5 x0_6 x0_7 x0_8 x1 x2 x3 H Q) : callV Try.prog (fnV fn_ref21_Told) [(.agg #[x0_0, x0_1, x0_2, x0_3, x0_4, x0_5, x0_6, x0_7, x0_8]), x1, x2, x3] H Q :=
  callV_fn (hcalls_of (pv := [4]) (ann := [(12, [20]), (14, [50])]) Try.func89 (by kernel_rfl) (Eq.mpr (by kernel_rfl) h))

/-- thimblerig/order.each[[]int,[]int] -/
def S_order_each_int_int (x0 : Value) (x1 : Value) (H : Heap) (Q : Value → Heap → Prop) : Prop :=
  lenSl x0 H fun t8 =>
  LoopPT (fun s9 H K9 =>
  binV (.int .i64) .lss (sv s9 1) t8 fun t10 =>
  asB t10 fun b10 =>
  ifB b10 (
  idxS 1 x0 (sv s9 1) fun t12 =>
  loadP false 1 t12 H fun t13 =>
  callV Try.prog x1 [(sv s9 1), t13] H fun t18 H =>
  bldS 22 1 false (zeroL Try.prog 22) 1 [(0, t18)] H fun t19 H =>
  appS 22 1 24 (zeroL Try.prog 22) (sv s9 0) t19 H fun t20 H =>
  binV (.int .i64) .add (sv s9 1) (.int .i64 1) fun t21 =>
  K9 [[t20], [t21]] H) (
  Q (sv s9 0) H)) [[(.slice none 0 0)], [(.int .i64 0)]] H
theorem S_order_each_int_int_of {x0 : Value} {x1 : Value} {H : Heap} {Q : Value → Heap → Prop} (h : S_order_each_int_int x0 x1 H Q) : callV Try.prog (fnV fn_order_each_int_int) [x0, x1] H Q :=
  callV_fn (hcalls_of (pv := []) (ann := [(9, [8, 18])]) Try.func90 (by kernel_rfl) (Eq.mpr (by kernel_rfl) h))

/-- thimblerig/order.Perm$1 -/
def S_order_Perm_1 (x0 : Value) (x1 : Value) (H : Heap) (Q : Value → Heap → Prop) : Prop :=
  lenSl x1 H fun t13 =>
  binV (.int .i64) .mul (.int .i64 2) t13 fun t14 =>
  mkS 3 1 8 (zeroL Try.prog 3) t14 t14 H fun t15 H =>
  newC 22 [(.slice none 0 0)] H fun a5 H =>
  storeP false 1 (.pointer (some ⟨a5, 0, none⟩)) t15 H fun H =>
  lenSl x1 H fun t17 =>
  LoopPT (fun s12 H K12 =>
  binV (.int .i64) .lss (sv s12 0) t17 fun t19 =>
  asB t19 fun b19 =>
  ifB b19 (
  idxS 1 x1 (sv s12 0) fun t20 =>
  loadP false 1 t20 H fun t21 =>
  loadP false 1 (.pointer (some ⟨a5, 0, none⟩)) H fun t22 =>
  idxS 1 t22 t21 fun t24 =>
  loadP false 1 t24 H fun t25 =>
  binV (.int .i64) .add t25 (.int .i64 1) fun t26 =>
  idxS 1 t22 t21 fun t27 =>
  storeP false 1 t27 t26 H fun H =>
  binV (.int .i64) .add (sv s12 0) (.int .i64 1) fun t28 =>
  K12 [[t28]] H) (
  newC 3 [(.int .i64 0)] H fun a8 H =>
  storeP false 1 (.pointer (some ⟨a8, 0, none⟩)) (.int .i64 0) H fun H =>
  lenSl x1 H fun t31 =>
  LoopPT (fun s33 H K33 =>
  binV (.int .i64) .lss (sv s33 1) t31 fun t33 =>
  asB t33 fun b33 =>
  ifB b33 (
  idxS 1 x1 (sv s33 1) fun t34 =>
  loadP false 1 t34 H fun t35 =>
  callV Try.prog (.func (.func fn_order_Perm_1_1) #[] #[(.pointer (some ⟨a5, 0, none⟩)), (.pointer (some ⟨a8, 0, none⟩))]) [] H fun t39 H =>
  bldS 3 1 false (zeroL Try.prog 3) 2 [(0, t35), (1, t39)] H fun t40 H =>
  appS 3 1 8 (zeroL Try.prog 3) (sv s33 0) t40 H fun t41 H =>
  binV (.int .i64) .add (sv s33 1) (.int .i64 1) fun t42 =>
  K33 [[t41], [t42]] H) (
  Q (sv s33 0) H)) [[(.slice none 0 0)], [(.int .i64 0)]] H)) [[(.int .i64 0)]] H
theorem S_order_Perm_1_of {x0 : Value} {x1 : Value} {H : Heap} {Q : Value → Heap → Prop} (h : S_order_Perm_1 x0 x1 H Q) : callV Try.prog (fnV fn_order_Perm_1) [x0, x1] H Q :=
  callV_fn (hcalls_of (pv := []) (ann := [(12, [36]), (33, [8, 64])]) Try.func91 (by kernel_rfl) (Eq.mpr (by kernel_rfl) h))

/-- thimblerig/order.Perm$1$1 -/
def S_order_Perm_1_1 (y0 : Value) (y1 : Value) (H : Heap) (Q : Value → Heap → Prop) : Prop :=
  LoopPT (fun s6 H K6 =>
  loadP false 1 y0 H fun t3 =>
  loadP false 1 y1 H fun t4 =>
  idxS 1 t3 t4 fun t5 =>
  loadP false 1 t5 H fun t6 =>
  binV (.int .i64) .gtr t6 (.int .i64 0) fun t7 =>
  asB t7 fun b7 =>
  ifB b7 (
  loadP false 1 y1 H fun t8 =>
  binV (.int .i64) .add t8 (.int .i64 1) fun t9 =>
  storeP false 1 y1 t9 H fun H =>
  K6 [] H) (
  loadP false 1 y1 H fun t10 =>
  binV (.int .i64) .add t10 (.int .i64 1) fun t11 =>
  storeP false 1 y1 t11 H fun H =>
  loadP false 1 y1 H fun t12 =>
  binV (.int .i64) .sub t12 (.int .i64 1) fun t13 =>
  Q t13 H)) [] H
theorem S_order_Perm_1_1_of {y0 : Value} {y1 : Value} {H : Heap} {Q : Value → Heap → Prop} (h : S_order_Perm_1_1 y0 y1 H Q) : callV Try.prog (fnV fn_order_Perm_1_1) [y0, y1] H Q :=
  callV_fn (hcalls_of (pv := []) (ann := [(6, [])]) Try.func92 (by kernel_rfl) (Eq.mpr (by kernel_rfl) h))
theorem C_order_Perm_1_1_of {y0 : Value} {y1 : Value} {H : Heap} {Q : Value → Heap → Prop} (h : S_order_Perm_1_1 y0 y1 H Q) : callV Try.prog (.func (.func fn_order_Perm_1_1) #[] #[y0, y1]) [] H Q :=
  callV_cl (S_order_Perm_1_1_of h)

/-- thimblerig/thimblerigref21.among -/
def S_ref21_among (x0 : Value) (x1 : Value) (H : Heap) (Q : Value → Heap → Prop) : Prop :=
  LoopPT (fun s9 H K9 =>
  lenSl x0 H fun t8 =>
  binV (.int .i64) .lss (sv s9 0) t8 fun t9 =>
  asB t9 fun b9 =>
  ifB b9 (
  idxS 1 x0 (sv s9 0) fun t14 =>
  loadP false 1 t14 H fun t15 =>
  binV (.int .i64) .eql t15 x1 fun t17 =>
  asB t17 fun b17 =>
  ifB b17 (
  Q (.bool true) H) (
  binV (.int .i64) .add (sv s9 0) (.int .i64 1) fun t11 =>
  K9 [[t11]] H)) (
  Q (.bool false) H)) [[(.int .i64 0)]] H
theorem S_ref21_among_of {x0 : Value} {x1 : Value} {H : Heap} {Q : Value → Heap → Prop} (h : S_ref21_among x0 x1 H Q) : callV Try.prog (fnV fn_ref21_among) [x0, x1] H Q :=
  callV_fn (hcalls_of (pv := []) (ann := [(9, [10])]) Try.func93 (by kernel_rfl) (Eq.mpr (by kernel_rfl) h))

/-- thimblerig/thimblerigref20.MayUnit -/
def S_ref20_MayUnit (x0_0 : Value) (x0_1 : Value) (x0_2 : Value) (x0_3 : Value) (x0_4 : Value) (x0_5 : Value) (x0_6 : Value) (x0_7 : Value) (x0_8 : Value) (x1_0 : Value) (x1_1 : Value) (x1_2 : Value) (x1_3 : Value) (H : Heap) (Q : Value → Heap → Prop) : Prop :=
  newT H fun H =>
  newT H fun H =>
  binV (.int .u8) .eql x1_0 (.int .u8 0) fun t8 =>
  asB t8 fun b7 =>
  ifB b7 (
  JoinPT (fun K14 =>
  binV (.int .i64) .eql x1_1 (.int .i64 0) fun t11 =>
  asB t11 fun b12 =>
  ifB b12 (
  lenSl x1_3 H fun t15 =>
  binV (.int .i64) .eql t15 (.int .i64 0) fun t16 =>
  K14 [[t16]] H) (
  K14 [[(.bool false)]] H)) fun s14 H =>
  Q (sv s14 0) H) (
  binV (.int .u8) .eql x1_0 (.int .u8 1) fun t19 =>
  asB t19 fun b18 =>
  ifB b18 (
  JoinPT (fun K20 =>
  binV (.int .i64) .geq x1_1 (.int .i64 0) fun t22 =>
  asB t22 fun b23 =>
  ifB b23 (
  binV (.int .i64) .lss x1_1 x0_0 fun t28 =>
  asB t28 fun b30 =>
  ifB b30 (
  lenSl x1_3 H fun t33 =>
  binV (.int .i64) .eql t33 (.int .i64 0) fun t34 =>
  K20 [[t34]] H) (
  K20 [[(.bool false)]] H)) (
  K20 [[(.bool false)]] H)) fun s20 H =>
  Q (sv s20 0) H) (
  binV (.int .u8) .eql x1_0 (.int .u8 2) fun t37 =>
  asB t37 fun b36 =>
  ifB b36 (
  JoinPT (fun K26 =>
  binV (.int .i64) .geq x1_1 (.int .i64 0) fun t40 =>
  asB t40 fun b41 =>
  ifB b41 (
  binV (.int .i64) .lss x1_1 x0_0 fun t46 =>
  asB t46 fun b48 =>
  ifB b48 (
  lenSl x1_3 H fun t51 =>
  binV (.int .i64) .eql t51 x0_1 fun t54 =>
  K26 [[t54]] H) (
  K26 [[(.bool false)]] H)) (
  K26 [[(.bool false)]] H)) fun s26 H =>
  Q (sv s26 0) H) (
  Q (.bool false) H)))
theorem S_ref20_MayUnit_of {x0_0 : Value} {x0_1 : Value} {x0_2 : Value} {x0_3 : Value} {x0_4 : Value} {x0_5 : Value} {x0_6 : Value} {x0_7 : Value} {x0_8 : Value} {x1_0 : Value} {x1_1 : Value} {x1_2 : Value} {x1_3 : Value} {H : Heap} {Q : Value → Heap → Prop} (h : S_ref20_MayUnit x0_0 x0_1 x0_2 x0_3 x0_4 x0_5 x0_6 x0_7 x0_8 x1_0 x1_1 x1_2 x1_3 H Q) : callV Try.prog (fnV fn_ref20_MayUnit) [(.agg #[x0_0, x0_1, x0_2, x0_3, x0_4, x0_5, x0_6, x0_7, x0_8]), (.agg #[x1_0, x1_1, x1_2, x1_3])] H Q :=
  callV_fn (hcalls_of (pv := [2, 3]) (ann := [(14, [8]), (20, [8]), (26, [8])]) Try.func108 (by kernel_rfl) (Eq.mpr (by kernel_rfl) h))

/-- thimblerig/thimblerigref21.block -/
def S_ref21_block (x0_0 : Value) (x0_1 : Value) (x0_2 : Value) (x0_3 : Value) (x0_4 : Value) (x0_5 : Value) (x0_6 : Value) (x0_7 : Value) (x0_8 : Value) (x1_0 : Value) (x1_1 : Value) (x1_2 : Value) (x1_3 : Value) (x2 : Value) (H : Heap) (Q : Value → Heap → Prop) : Prop :=
  newT H fun H =>
  newT H fun H =>
  binV (.int .u8) .eql x1_0 (.int .u8 0) fun t11 =>
  asB t11 fun b11 =>
  ifB b11 (
  Q (.int .i64 (-1)) H) (
  callV Try.prog (fnV fn_ref08_Way) [(.agg #[x0_0, x0_1, x0_2, x0_3, x0_4, x0_5, x0_6, x0_7, x0_8]), x1_1] H fun t16 H =>
  extractV 0 t16 fun t17 =>
  extractV 1 t16 fun t18 =>
  idxS 1 t17 x2 fun t21 =>
  loadP false 1 t21 H fun t22 =>
  Q t22 H)
theorem S_ref21_block_of {x0_0 : Value} {x0_1 : Value} {x0_2 : Value} {x0_3 : Value} {x0_4 : Value} {x0_5 : Value} {x0_6 : Value} {x0_7 : Value} {x0_8 : Value} {x1_0 : Value} {x1_1 : Value} {x1_2 : Value} {x1_3 : Value} {x2 : Value} {H : Heap} {Q : Value → Heap → Prop} (h : S_ref21_block x0_0 x0_1 x0_2 x0_3 x0_4 x0_5 x0_6 x0_7 x0_8 x1_0 x1_1 x1_2 x1_3 x2 H Q) : callV Try.prog (fnV fn_ref21_block) [(.agg #[x0_0, x0_1, x0_2, x0_3, x0_4, x0_5, x0_6, x0_7, x0_8]), (.agg #[x1_0, x1_1, x1_2, x1_3]), x2] H Q :=
  callV_fn (hcalls_of (pv := [3, 4]) (ann := []) Try.func110 (by kernel_rfl) (Eq.mpr (by kernel_rfl) h))

end Go.Proofs.Ytikebhnnmnlgaaa
