/- Written by sh.py: what functions do, out of the deep reading; each is joined to the program by the kernel. -/
import Derived.Test.YtlalkgkicccjiaaShNames
namespace Go.Proofs.Ytlalkgkicccjiaa
open Go.Ab
set_option linter.unusedVariables false
set_option linter.unusedSimpArgs false
set_option maxRecDepth 100000

/-- thimblerig/thimblerigref12.GreatSees -/
def S_ref12_GreatSees (x0 : Value) (H : Heap) (Q : Value → Heap → Prop) : Prop :=
  LoopPT (fun s12 H K12 =>
  JoinPT (fun K14 =>
  lenSl x0 H fun t7 =>
  binV (.int .i64) .lss (sv s12 1) t7 fun t8 =>
  asB t8 fun b9 =>
  ifB b9 (
  binV (.int .i64) .lss (sv s12 1) (.int .i64 2000) fun t11 =>
  K14 [[t11]] H) (
  K14 [[(.bool false)]] H)) fun s14 H =>
  asB (sv s14 0) fun b12 =>
  ifB b12 (
  idxS 4 x0 (sv s12 1) fun t18 =>
  fldP 3 t18 fun t19 =>
  loadP false 1 t19 H fun t20 =>
  lenSl t20 H fun t21 =>
  minV t21 (.int .i64 100000) fun t22 =>
  binV (.int .i64) .add (sv s12 0) t22 fun t23 =>
  binV (.int .i64) .add (sv s12 1) (.int .i64 1) fun t14 =>
  K12 [[t23], [t14]] H) (
  JoinPT (fun K23 =>
  lenSl x0 H fun t25 =>
  binV (.int .i64) .gtr t25 (.int .i64 2000) fun t26 =>
  asB t26 fun b27 =>
  ifB b27 (
  K23 [[(.bool true)]] H) (
  binV (.int .i64) .gtr (sv s12 0) (.int .i64 200000) fun t29 =>
  K23 [[t29]] H)) fun s23 H =>
  Q (sv s23 0) H)) [[(.int .i64 0)], [(.int .i64 0)]] H
theorem S_ref12_GreatSees_of {x0 : Value} {H : Heap} {Q : Value → Heap → Prop} (h : S_ref12_GreatSees x0 H Q) : callV Try.prog (fnV fn_ref12_GreatSees) [x0] H Q :=
  callV_fn (hcalls_of (pv := []) (ann := [(12, [6, 8]), (14, [24]), (23, [4])]) Try.func5 (by kernel_rfl) (Eq.mpr (by kernel_rfl) h))

/-- thimblerig/thimblerigref12.TwinAll -/
def S_ref12_TwinAll (x0 : Value) (H : Heap) (Q : Value → Heap → Prop) : Prop :=
  LoopPT (fun s12 H K12 =>
  lenSl x0 H fun t7 =>
  binV (.int .i64) .lss (sv s12 1) t7 fun t8 =>
  asB t8 fun b8 =>
  ifB b8 (
  bldS 5 1 false (zeroL Try.prog 5) 0 [] H fun t12 H =>
  idxS 1 x0 (sv s12 1) fun t15 =>
  loadP false 1 t15 H fun t16 =>
  appS 5 1 1 (zeroL Try.prog 5) t12 t16 H fun t17 H =>
  bldS 43 1 false (zeroL Try.prog 43) 1 [(0, t17)] H fun t18 H =>
  appS 43 1 24 (zeroL Try.prog 43) (sv s12 0) t18 H fun t19 H =>
  binV (.int .i64) .add (sv s12 1) (.int .i64 1) fun t10 =>
  K12 [[t19], [t10]] H) (
  Q (sv s12 0) H)) [[(.slice none 0 0)], [(.int .i64 0)]] H
theorem S_ref12_TwinAll_of {x0 : Value} {H : Heap} {Q : Value → Heap → Prop} (h : S_ref12_TwinAll x0 H Q) : callV Try.prog (fnV fn_ref12_TwinAll) [x0] H Q :=
  callV_fn (hcalls_of (pv := []) (ann := [(12, [6, 8])]) Try.func7 (by kernel_rfl) (Eq.mpr (by kernel_rfl) h))

/-- thimblerig/thimblerigref12.SameSees -/
def S_ref12_SameSees (x0 : Value) (x1 : Value) (H : Heap) (Q : Value → Heap → Prop) : Prop :=
  lenSl x0 H fun t7 =>
  lenSl x1 H fun t9 =>
  binV (.int .i64) .neq t7 t9 fun t10 =>
  asB t10 fun b10 =>
  ifB b10 (
  Q (.bool false) H) (
  LoopPT (fun s15 H K15 =>
  lenSl x0 H fun t13 =>
  binV (.int .i64) .lss (sv s15 0) t13 fun t14 =>
  asB t14 fun b14 =>
  ifB b14 (
  JoinPT (fun K23 =>
  idxS 4 x0 (sv s15 0) fun t19 =>
  fldP 0 t19 fun t20 =>
  loadP false 1 t20 H fun t21 =>
  idxS 4 x1 (sv s15 0) fun t24 =>
  fldP 0 t24 fun t25 =>
  loadP false 1 t25 H fun t26 =>
  binV (.int .u8) .neq t21 t26 fun t27 =>
  asB t27 fun b28 =>
  ifB b28 (
  (loadP false 1 t25 H fun u26 =>
  u26 = t26) ∧
  (loadP false 1 t20 H fun u21 =>
  u21 = t21) ∧
  (K23 [[(.bool true)]] H)) (
  idxS 4 x0 (sv s15 0) fun t31 =>
  fldP 1 t31 fun t32 =>
  loadP false 1 t32 H fun t33 =>
  idxS 4 x1 (sv s15 0) fun t36 =>
  fldP 1 t36 fun t37 =>
  loadP false 1 t37 H fun t38 =>
  binV (.int .i64) .neq t33 t38 fun t39 =>
  asB t39 fun b41 =>
  ifB b41 (
  (loadP false 1 t37 H fun u38 =>
  u38 = t38) ∧
  (loadP false 1 t32 H fun u33 =>
  u33 = t33) ∧
  (loadP false 1 t25 H fun u26 =>
  u26 = t26) ∧
  (loadP false 1 t20 H fun u21 =>
  u21 = t21) ∧
  (K23 [[(.bool true)]] H)) (
  idxS 4 x0 (sv s15 0) fun t44 =>
  fldP 2 t44 fun t45 =>
  loadP false 1 t45 H fun t46 =>
  idxS 4 x1 (sv s15 0) fun t49 =>
  fldP 2 t49 fun t50 =>
  loadP false 1 t50 H fun t51 =>
  binV (.int .i64) .neq t46 t51 fun t52 =>
  asB t52 fun b54 =>
  ifB b54 (
  (loadP false 1 t50 H fun u51 =>
  u51 = t51) ∧
  (loadP false 1 t45 H fun u46 =>
  u46 = t46) ∧
  (loadP false 1 t37 H fun u38 =>
  u38 = t38) ∧
  (loadP false 1 t32 H fun u33 =>
  u33 = t33) ∧
  (loadP false 1 t25 H fun u26 =>
  u26 = t26) ∧
  (loadP false 1 t20 H fun u21 =>
  u21 = t21) ∧
  (K23 [[(.bool true)]] H)) (
  idxS 4 x0 (sv s15 0) fun t57 =>
  fldP 3 t57 fun t58 =>
  loadP false 1 t58 H fun t59 =>
  idxS 4 x1 (sv s15 0) fun t62 =>
  fldP 3 t62 fun t63 =>
  loadP false 1 t63 H fun t64 =>
  callV Try.prog (fnV fn_ref01_Same) [t59, t64] H fun t65 H =>
  (loadP false 1 t50 H fun u51 =>
  u51 = t51) ∧
  (loadP false 1 t45 H fun u46 =>
  u46 = t46) ∧
  (loadP false 1 t37 H fun u38 =>
  u38 = t38) ∧
  (loadP false 1 t32 H fun u33 =>
  u33 = t33) ∧
  (loadP false 1 t25 H fun u26 =>
  u26 = t26) ∧
  (loadP false 1 t20 H fun u21 =>
  u21 = t21) ∧
  (unV .not t65 fun t66 =>
  K23 [[t66]] H))))) fun s23 H =>
  asB (sv s23 0) fun b67 =>
  ifB b67 (
  Q (.bool false) H) (
  binV (.int .i64) .add (sv s15 0) (.int .i64 1) fun t16 =>
  K15 [[t16]] H)) (
  Q (.bool true) H)) [[(.int .i64 0)]] H)
theorem S_ref12_SameSees_of {x0 : Value} {x1 : Value} {H : Heap} {Q : Value → Heap → Prop} (h : S_ref12_SameSees x0 x1 H Q) : callV Try.prog (fnV fn_ref12_SameSees) [x0, x1] H Q :=
  callV_fn (hcalls_of (pv := []) (ann := [(15, [10]), (23, [134])]) Try.func12 (by kernel_rfl) (Eq.mpr (by kernel_rfl) h))

/-- thimblerig/thimblerigref12.Blank -/
def S_ref12_Blank (x0_0 : Value) (x0_1 : Value) (x0_2 : Value) (x0_3 : Value) (x0_4 : Value) (x0_5 : Value) (x0_6 : Value) (x0_7 : Value) (x0_8 : Value) (H : Heap) (Q : Value → Heap → Prop) : Prop :=
  newT H fun H =>
  newT H fun H =>
  newT H fun H =>
  callV Try.prog (fnV fn_ref08_All) [(.agg #[x0_0, x0_1, x0_2, x0_3, x0_4, x0_5, x0_6, x0_7, x0_8])] H fun t9 H =>
  LoopPT (fun s15 H K15 =>
  lenSl t9 H fun t12 =>
  binV (.int .i64) .lss (sv s15 1) t12 fun t13 =>
  asB t13 fun b13 =>
  ifB b13 (
  LoopPT (fun s27 H K27 =>
  idxS 4 t9 (sv s15 1) fun t19 =>
  fldP 2 t19 fun t20 =>
  loadP false 1 t20 H fun t21 =>
  callV Try.prog (fnV fn_ref07_Many) [t21] H fun t22 H =>
  binV (.int .i64) .mul (.int .i64 2) t22 fun t23 =>
  binV (.int .i64) .lss (sv s27 1) t23 fun t24 =>
  asB t24 fun b24 =>
  ifB b24 (
  idxS 4 t9 (sv s15 1) fun t30 =>
  fldP 3 t30 fun t31 =>
  loadP false 1 t31 H fun t32 =>
  binV (.int .i64) .add (.int .i64 8) t32 fun t33 =>
  mkS 5 1 1 (zeroL Try.prog 5) t33 t33 H fun t34 H =>
  bldS 43 1 false (zeroL Try.prog 43) 1 [(0, t34)] H fun t35 H =>
  appS 43 1 24 (zeroL Try.prog 43) (sv s27 0) t35 H fun t36 H =>
  binV (.int .i64) .add (sv s27 1) (.int .i64 1) fun t26 =>
  K27 [[t36], [t26]] H) (
  ifB (decide (0 + 1 ≤ ((sc s15 0)).length)) (
  bldS 25 1 false (zeroL Try.prog 25) 1 [(0, (sv s27 0))] H fun t40 H =>
  appS 25 1 24 (zeroL Try.prog 25) (mkV false (seg (sc s15 0) 0 1)) t40 H fun t41 H =>
  ifB (okc t41) (
  ifB (decide (0 + 1 ≤ ((sc s15 0)).length)) (
  binV (.int .i64) .add (sv s15 1) (.int .i64 1) fun t15 =>
  K15 [(setSeg (sc s15 0) 0 [t41]), [t15]] H) False) False) False)) [[(.slice none 0 0)], [(.int .i64 1)]] H) (
  ifB (decide (0 + 1 ≤ ((sc s15 0)).length)) (
  cellsV true 1 (.agg (seg (sc s15 0) 0 1).toArray) fun c1 =>
  ifB (decide (0 + 1 ≤ ((setSeg [(.slice none 0 0)] 0 c1)).length)) (
  Q (.agg (seg (setSeg [(.slice none 0 0)] 0 c1) 0 1).toArray) H) False) False)) [[(.slice none 0 0)], [(.int .i64 0)]] H
theorem S_ref12_Blank_of {x0_0 : Value} {x0_1 : Value} {x0_2 : Value} {x0_3 : Value} {x0_4 : Value} {x0_5 : Value} {x0_6 : Value} {x0_7 : Value} {x0_8 : Value} {H : Heap} {Q : Value → Heap → Prop} (h : S_ref12_Blank x0_0 x0_1 x0_2 x0_3 x0_4 x0_5 x0_6 x0_7 x0_8 H Q) : callV Try.prog (fnV fn_ref12_Blank) [(.agg #[x0_0, x0_1, x0_2, x0_3, x0_4, x0_5, x0_6, x0_7, x0_8])] H Q :=
  callV_fn (hcalls_of (pv := [1, 2, 3]) (ann := [(15, [7, 10]), (27, [12, 14])]) Try.func51 (by kernel_rfl) (Eq.mpr (by kernel_rfl) h))

end Go.Proofs.Ytlalkgkicccjiaa
