/- Written by sh.py: what functions do, out of the deep reading; each is joined to the program by the kernel. -/
import Derived.Test.YtlmpjhbfgakgdaaDoorShNames
namespace Go.Proofs.YtlmpjhbfgakgdaaDoor
open Go.Ab
set_option linter.unusedVariables false
set_option linter.unusedSimpArgs false
set_option maxRecDepth 100000

/-- thimblerig/thimblerigref12.Great -/
def S_ref12_Great (x0_0 : Value) (H : Heap) (Q : Value → Heap → Prop) : Prop :=
  newT H fun H =>
  LoopPT (fun s12 H K12 =>
  JoinPT (fun K14 =>
  lenSl x0_0 H fun t9 =>
  binV (.int .i64) .lss (sv s12 1) t9 fun t10 =>
  asB t10 fun b11 =>
  ifB b11 (
  binV (.int .i64) .lss (sv s12 1) (.int .i64 10) fun t13 =>
  K14 [[t13]] H) (
  K14 [[(.bool false)]] H)) fun s14 H =>
  asB (sv s14 0) fun b14 =>
  ifB b14 (
  LoopPT (fun s21 H K21 =>
  JoinPT (fun K23 =>
  idxS 1 x0_0 (sv s12 1) fun t21 =>
  loadP false 1 t21 H fun t22 =>
  lenSl t22 H fun t23 =>
  binV (.int .i64) .lss (sv s21 1) t23 fun t24 =>
  asB t24 fun b25 =>
  ifB b25 (
  binV (.int .i64) .lss (sv s21 1) (.int .i64 200) fun t27 =>
  K23 [[t27]] H) (
  K23 [[(.bool false)]] H)) fun s23 H =>
  asB (sv s23 0) fun b28 =>
  ifB b28 (
  idxS 1 x0_0 (sv s12 1) fun t35 =>
  loadP false 1 t35 H fun t36 =>
  idxS 1 t36 (sv s21 1) fun t38 =>
  loadP false 1 t38 H fun t39 =>
  lenSl t39 H fun t40 =>
  minV t40 (.int .i64 100000) fun t41 =>
  binV (.int .i64) .add (sv s21 0) t41 fun t42 =>
  binV (.int .i64) .add (sv s21 1) (.int .i64 1) fun t30 =>
  K21 [[t42], [t30]] H) (
  idxS 1 x0_0 (sv s12 1) fun t46 =>
  loadP false 1 t46 H fun t47 =>
  lenSl t47 H fun t48 =>
  binV (.int .i64) .gtr t48 (.int .i64 150) fun t49 =>
  asB t49 fun b49 =>
  ifB b49 (
  Q (.bool true) H) (
  binV (.int .i64) .add (sv s12 1) (.int .i64 1) fun t16 =>
  K12 [[(sv s21 0)], [t16]] H))) [[(sv s12 0)], [(.int .i64 0)]] H) (
  JoinPT (fun K38 =>
  lenSl x0_0 H fun t52 =>
  binV (.int .i64) .gtr t52 (.int .i64 6) fun t53 =>
  asB t53 fun b54 =>
  ifB b54 (
  K38 [[(.bool true)]] H) (
  binV (.int .i64) .gtr (sv s12 0) (.int .i64 40000) fun t56 =>
  K38 [[t56]] H)) fun s38 H =>
  Q (sv s38 0) H)) [[(.int .i64 0)], [(.int .i64 0)]] H
theorem S_ref12_Great_of {x0_0 : Value} {H : Heap} {Q : Value → Heap → Prop} (h : S_ref12_Great x0_0 H Q) : callV Tryd.prog (fnV fn_ref12_Great) [(.agg #[x0_0])] H Q :=
  callV_fn (hcalls_of (pv := [1]) (ann := [(12, [6, 8]), (14, [28]), (21, [6, 10]), (23, [56]), (38, [4])]) Tryd.func12 (by kernel_rfl) (Eq.mpr (by kernel_rfl) h))

end Go.Proofs.YtlmpjhbfgakgdaaDoor
