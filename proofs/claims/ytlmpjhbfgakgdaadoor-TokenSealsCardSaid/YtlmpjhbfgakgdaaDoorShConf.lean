/- Written by sh.py: what functions do, out of the deep reading; each is joined to the program by the kernel. -/
import Derived.Test.YtlmpjhbfgakgdaaDoorShNames
namespace Go.Proofs.YtlmpjhbfgakgdaaDoor
open Go.Ab
set_option linter.unusedVariables false
set_option linter.unusedSimpArgs false
set_option maxRecDepth 100000

/-- thimblerig/conf.Levels -/
def S_conf_Levels (x0_0 : Value) (x0_1 : Value) (x0_2 : Value) (x0_3 : Value) (x0_4 : Value) (x0_5 : Value) (x0_6 : Value) (x0_7 : Value) (x0_8 : Value) (H : Heap) (Q : Value → Heap → Prop) : Prop :=
  newC 23 [x0_0, x0_1, x0_2, x0_3, x0_4, x0_5, x0_6, x0_7, x0_8] H fun a1 H =>
  newC 57 [(.slice none 0 0)] H fun a2 H =>
  loadP true 9 (.pointer (some ⟨a1, 0, none⟩)) H fun t5 =>
  callV Tryd.prog (fnV fn_conf_numbers) [t5] H fun t6 H =>
  unV .not t6 fun t7 =>
  asB t7 fun b7 =>
  ifB b7 (
  storeP false 1 (.pointer (some ⟨a2, 0, none⟩)) (.slice none 0 0) H fun H =>
  loadP false 1 (.pointer (some ⟨a2, 0, none⟩)) H fun r2 =>
  Q (.tuple #[r2, (.int .i64 8)]) H) (
  loadP true 9 (.pointer (some ⟨a1, 0, none⟩)) H fun t8 =>
  callV Tryd.prog (fnV fn_conf_each) [t8] H fun t9 H =>
  RangePT Tryd.prog t9 H (fun qs H R1 =>
  arg1 qs fun q1_0 =>
  newC 61 [(.int .i64 0), (.int .i64 0), (.int .i64 0), (.int .i64 0)] H fun a4 H =>
  storeP true 4 (.pointer (some ⟨a4, 0, none⟩)) q1_0 H fun H =>
  loadP false 1 (.pointer (some ⟨a2, 0, none⟩)) H fun t11 =>
  loadP true 4 (.pointer (some ⟨a4, 0, none⟩)) H fun t12 =>
  bldS 61 4 true (zeroL Tryd.prog 61) 1 [(0, t12)] H fun t13 H =>
  appS 61 4 32 (zeroL Tryd.prog 61) t11 t13 H fun t14 H =>
  storeP false 1 (.pointer (some ⟨a2, 0, none⟩)) t14 H fun H =>
  R1 none H) (fun H =>
  loadP false 1 (.pointer (some ⟨a2, 0, none⟩)) H fun t15 =>
  lenSl t15 H fun t16 =>
  binV (.int .i64) .gtr t16 (.int .i64 4) fun t17 =>
  asB t17 fun b17 =>
  ifB b17 (
  storeP false 1 (.pointer (some ⟨a2, 0, none⟩)) (.slice none 0 0) H fun H =>
  loadP false 1 (.pointer (some ⟨a2, 0, none⟩)) H fun r2 =>
  Q (.tuple #[r2, (.int .i64 8)]) H) (
  loadP false 1 (.pointer (some ⟨a2, 0, none⟩)) H fun t18 =>
  storeP false 1 (.pointer (some ⟨a2, 0, none⟩)) t18 H fun H =>
  loadP false 1 (.pointer (some ⟨a2, 0, none⟩)) H fun r2 =>
  Q (.tuple #[r2, (.int .i64 0)]) H)) [])
theorem S_conf_Levels_of {x0_0 : Value} {x0_1 : Value} {x0_2 : Value} {x0_3 : Value} {x0_4 : Value} {x0_5 : Value} {x0_6 : Value} {x0_7 : Value} {x0_8 : Value} {H : Heap} {Q : Value → Heap → Prop} (h : S_conf_Levels x0_0 x0_1 x0_2 x0_3 x0_4 x0_5 x0_6 x0_7 x0_8 H Q) : callV Tryd.prog (fnV fn_conf_Levels) [(.agg #[x0_0, x0_1, x0_2, x0_3, x0_4, x0_5, x0_6, x0_7, x0_8])] H Q :=
  callV_fn (hcalls_of (pv := []) (ann := []) Tryd.func14 (by kernel_rfl) (Eq.mpr (by kernel_rfl) h))

/-- thimblerig/thimblerigref08.May -/
def S_ref08_May (x0_0 : Value) (x0_1 : Value) (x0_2 : Value) (x0_3 : Value) (x0_4 : Value) (x0_5 : Value) (x0_6 : Value) (x0_7 : Value) (x0_8 : Value) (H : Heap) (Q : Value → Heap → Prop) : Prop :=
  newT H fun H =>
  JoinPT (fun K8 =>
  callV Tryd.prog (fnV fn_ref08_numbers) [(.agg #[x0_0, x0_1, x0_2, x0_3, x0_4, x0_5, x0_6, x0_7, x0_8])] H fun t4 H =>
  asB t4 fun b5 =>
  ifB b5 (
  callV Tryd.prog (fnV fn_ref08_All) [(.agg #[x0_0, x0_1, x0_2, x0_3, x0_4, x0_5, x0_6, x0_7, x0_8])] H fun t7 H =>
  lenSl t7 H fun t8 =>
  binV (.int .i64) .leq t8 (.int .i64 4) fun t9 =>
  K8 [[t9]] H) (
  K8 [[(.bool false)]] H)) fun s8 H =>
  Q (sv s8 0) H
theorem S_ref08_May_of {x0_0 : Value} {x0_1 : Value} {x0_2 : Value} {x0_3 : Value} {x0_4 : Value} {x0_5 : Value} {x0_6 : Value} {x0_7 : Value} {x0_8 : Value} {H : Heap} {Q : Value → Heap → Prop} (h : S_ref08_May x0_0 x0_1 x0_2 x0_3 x0_4 x0_5 x0_6 x0_7 x0_8 H Q) : callV Tryd.prog (fnV fn_ref08_May) [(.agg #[x0_0, x0_1, x0_2, x0_3, x0_4, x0_5, x0_6, x0_7, x0_8])] H Q :=
  callV_fn (hcalls_of (pv := [1]) (ann := [(8, [4])]) Tryd.func15 (by kernel_rfl) (Eq.mpr (by kernel_rfl) h))

/-- thimblerig/conf.numbers -/
def S_conf_numbers (x0_0 : Value) (x0_1 : Value) (x0_2 : Value) (x0_3 : Value) (x0_4 : Value) (x0_5 : Value) (x0_6 : Value) (x0_7 : Value) (x0_8 : Value) (H : Heap) (Q : Value → Heap → Prop) : Prop :=
  newT H fun H =>
  ifB (okc x0_0) (
  ifB (okc x0_1) (
  ifB (okc x0_2) (
  ifB (okc x0_3) (
  ifB (okc x0_4) (
  ifB (okc x0_5) (
  ifB (okc x0_6) (
  ifB (okc x0_7) (
  ifB (okc x0_8) (
  ifB ([x0_0, (.int .i64 1), (.int .i64 64)].all okc) (
  ifB ([x0_1, (.int .i64 1), (.int .i64 32)].all okc) (
  ifB ([x0_2, (.int .i64 2), (.int .i64 8)].all okc) (
  ifB ([x0_3, (.int .i64 1), (.int .i64 4)].all okc) (
  ifB ([x0_4, (.int .i64 1), (.int .i64 64)].all okc) (
  ifB ([x0_5, (.int .i64 1), (.int .i64 8)].all okc) (
  ifB ([x0_6, (.int .i64 1), (.int .i64 4)].all okc) (
  ifB ([x0_7, (.int .i64 1), (.int .i64 16)].all okc) (
  ifB ([x0_8, (.int .i64 1), (.int .i64 16)].all okc) (
  newT H fun H =>
  ifB ([x0_0, (.int .i64 1), (.int .i64 64), x0_1, (.int .i64 1), (.int .i64 32), x0_2, (.int .i64 2), (.int .i64 8), x0_3, (.int .i64 1), (.int .i64 4), x0_4, (.int .i64 1), (.int .i64 64), x0_5, (.int .i64 1), (.int .i64 8), x0_6, (.int .i64 1), (.int .i64 4), x0_7, (.int .i64 1), (.int .i64 16), x0_8, (.int .i64 1), (.int .i64 16)].all okc) (
  LoopPT (fun s12 H K12 =>
  binV (.int .i64) .lss (sv s12 0) (.int .i64 9) fun t36 =>
  asB t36 fun b36 =>
  ifB b36 (
  idxV true 9 3 (.agg #[x0_0, (.int .i64 1), (.int .i64 64), x0_1, (.int .i64 1), (.int .i64 32), x0_2, (.int .i64 2), (.int .i64 8), x0_3, (.int .i64 1), (.int .i64 4), x0_4, (.int .i64 1), (.int .i64 64), x0_5, (.int .i64 1), (.int .i64 8), x0_6, (.int .i64 1), (.int .i64 4), x0_7, (.int .i64 1), (.int .i64 16), x0_8, (.int .i64 1), (.int .i64 16)]) (sv s12 0) fun t37 =>
  newT H fun H =>
  cellsV true 3 t37 fun c1 =>
  ifB (decide (0 + 3 ≤ ((setSeg [(.int .i64 0), (.int .i64 0), (.int .i64 0)] 0 c1)).length)) (
  callV Tryd.prog (fnV fn_conf_span_int_in) [(.agg (seg (setSeg [(.int .i64 0), (.int .i64 0), (.int .i64 0)] 0 c1) 0 3).toArray)] H fun t39 H =>
  unV .not t39 fun t40 =>
  asB t40 fun b40 =>
  ifB b40 (
  Q (.bool false) H) (
  binV (.int .i64) .add (sv s12 0) (.int .i64 1) fun t41 =>
  K12 [[t41]] H)) False) (
  Q (.bool true) H)) [[(.int .i64 0)]] H) False) False) False) False) False) False) False) False) False) False) False) False) False) False) False) False) False) False) False
theorem S_conf_numbers_of {x0_0 : Value} {x0_1 : Value} {x0_2 : Value} {x0_3 : Value} {x0_4 : Value} {x0_5 : Value} {x0_6 : Value} {x0_7 : Value} {x0_8 : Value} {H : Heap} {Q : Value → Heap → Prop} (h : S_conf_numbers x0_0 x0_1 x0_2 x0_3 x0_4 x0_5 x0_6 x0_7 x0_8 H Q) : callV Tryd.prog (fnV fn_conf_numbers) [(.agg #[x0_0, x0_1, x0_2, x0_3, x0_4, x0_5, x0_6, x0_7, x0_8])] H Q :=
  callV_fn (hcalls_of (pv := [1, 3, 5]) (ann := [(12, [70])]) Tryd.func30 (by kernel_rfl) (Eq.mpr (by kernel_rfl) h))

/-- thimblerig/conf.each -/
def S_conf_each (x0_0 : Value) (x0_1 : Value) (x0_2 : Value) (x0_3 : Value) (x0_4 : Value) (x0_5 : Value) (x0_6 : Value) (x0_7 : Value) (x0_8 : Value) (H : Heap) (Q : Value → Heap → Prop) : Prop :=
  newC 23 [x0_0, x0_1, x0_2, x0_3, x0_4, x0_5, x0_6, x0_7, x0_8] H fun a1 H =>
  Q (.func (.func fn_conf_each_1) #[] #[(.pointer (some ⟨a1, 0, none⟩))]) H
theorem S_conf_each_of {x0_0 : Value} {x0_1 : Value} {x0_2 : Value} {x0_3 : Value} {x0_4 : Value} {x0_5 : Value} {x0_6 : Value} {x0_7 : Value} {x0_8 : Value} {H : Heap} {Q : Value → Heap → Prop} (h : S_conf_each x0_0 x0_1 x0_2 x0_3 x0_4 x0_5 x0_6 x0_7 x0_8 H Q) : callV Tryd.prog (fnV fn_conf_each) [(.agg #[x0_0, x0_1, x0_2, x0_3, x0_4, x0_5, x0_6, x0_7, x0_8])] H Q :=
  callV_fn (hcalls_of (pv := []) (ann := []) Tryd.func31 (by kernel_rfl) (Eq.mpr (by kernel_rfl) h))

/-- thimblerig/thimblerigref08.numbers -/
def S_ref08_numbers (x0_0 : Value) (x0_1 : Value) (x0_2 : Value) (x0_3 : Value) (x0_4 : Value) (x0_5 : Value) (x0_6 : Value) (x0_7 : Value) (x0_8 : Value) (H : Heap) (Q : Value → Heap → Prop) : Prop :=
  newT H fun H =>
  JoinPT (fun K8 =>
  callV Tryd.prog (fnV fn_ref08_in) [x0_0, (.int .i64 1), (.int .i64 64)] H fun t5 H =>
  asB t5 fun b6 =>
  ifB b6 (
  callV Tryd.prog (fnV fn_ref08_in) [x0_1, (.int .i64 1), (.int .i64 32)] H fun t9 H =>
  asB t9 fun b11 =>
  ifB b11 (
  callV Tryd.prog (fnV fn_ref08_in) [x0_2, (.int .i64 2), (.int .i64 8)] H fun t14 H =>
  asB t14 fun b16 =>
  ifB b16 (
  callV Tryd.prog (fnV fn_ref08_in) [x0_3, (.int .i64 1), (.int .i64 4)] H fun t19 H =>
  asB t19 fun b21 =>
  ifB b21 (
  callV Tryd.prog (fnV fn_ref08_in) [x0_4, (.int .i64 1), (.int .i64 64)] H fun t24 H =>
  asB t24 fun b26 =>
  ifB b26 (
  callV Tryd.prog (fnV fn_ref08_in) [x0_5, (.int .i64 1), (.int .i64 8)] H fun t29 H =>
  asB t29 fun b31 =>
  ifB b31 (
  callV Tryd.prog (fnV fn_ref08_in) [x0_6, (.int .i64 1), (.int .i64 4)] H fun t34 H =>
  asB t34 fun b36 =>
  ifB b36 (
  callV Tryd.prog (fnV fn_ref08_in) [x0_7, (.int .i64 1), (.int .i64 16)] H fun t39 H =>
  asB t39 fun b41 =>
  ifB b41 (
  callV Tryd.prog (fnV fn_ref08_in) [x0_8, (.int .i64 1), (.int .i64 16)] H fun t44 H =>
  K8 [[t44]] H) (
  K8 [[(.bool false)]] H)) (
  K8 [[(.bool false)]] H)) (
  K8 [[(.bool false)]] H)) (
  K8 [[(.bool false)]] H)) (
  K8 [[(.bool false)]] H)) (
  K8 [[(.bool false)]] H)) (
  K8 [[(.bool false)]] H)) (
  K8 [[(.bool false)]] H)) fun s8 H =>
  Q (sv s8 0) H
theorem S_ref08_numbers_of {x0_0 : Value} {x0_1 : Value} {x0_2 : Value} {x0_3 : Value} {x0_4 : Value} {x0_5 : Value} {x0_6 : Value} {x0_7 : Value} {x0_8 : Value} {H : Heap} {Q : Value → Heap → Prop} (h : S_ref08_numbers x0_0 x0_1 x0_2 x0_3 x0_4 x0_5 x0_6 x0_7 x0_8 H Q) : callV Tryd.prog (fnV fn_ref08_numbers) [(.agg #[x0_0, x0_1, x0_2, x0_3, x0_4, x0_5, x0_6, x0_7, x0_8])] H Q :=
  callV_fn (hcalls_of (pv := [1]) (ann := [(8, [4])]) Tryd.func32 (by kernel_rfl) (Eq.mpr (by kernel_rfl) h))

/-- thimblerig/thimblerigref08.All -/
def S_ref08_All (x0_0 : Value) (x0_1 : Value) (x0_2 : Value) (x0_3 : Value) (x0_4 : Value) (x0_5 : Value) (x0_6 : Value) (x0_7 : Value) (x0_8 : Value) (H : Heap) (Q : Value → Heap → Prop) : Prop :=
  newT H fun H =>
  LoopPT (fun s12 H K12 =>
  binV (.int .i64) .add (.int .i64 8) (sv s12 2) fun t18 =>
  binV (.int .i64) .mul x0_3 t18 fun t19 =>
  binV (.int .i64) .add t19 (.int .i64 64) fun t20 =>
  callV Tryd.prog (fnV fn_ref08_high) [(sv s12 1)] H fun t14 H =>
  ifB (okc (sv s12 1)) (
  ifB (okc (sv s12 2)) (
  ifB (okc t14) (
  ifB (okc t20) (
  bldS 61 4 true (zeroL Tryd.prog 61) 1 [(0, (.agg #[(sv s12 1), (sv s12 2), t14, t20]))] H fun t22 H =>
  appS 61 4 32 (zeroL Tryd.prog 61) (sv s12 0) t22 H fun t23 H =>
  binV (.int .i64) .leq (sv s12 1) x0_8 fun t27 =>
  asB t27 fun b27 =>
  ifB b27 (
  Q t23 H) (
  binV (.int .i64) .add (sv s12 1) x0_2 fun t32 =>
  binV (.int .i64) .sub t32 (.int .i64 1) fun t33 =>
  binV (.int .i64) .quo t33 x0_2 fun t36 =>
  binV (.int .i64) .mul (.int .i64 4) x0_2 fun t39 =>
  K12 [[t23], [t36], [t39]] H)) False) False) False) False) [[(.slice none 0 0)], [x0_0], [x0_1]] H
theorem S_ref08_All_of {x0_0 : Value} {x0_1 : Value} {x0_2 : Value} {x0_3 : Value} {x0_4 : Value} {x0_5 : Value} {x0_6 : Value} {x0_7 : Value} {x0_8 : Value} {H : Heap} {Q : Value → Heap → Prop} (h : S_ref08_All x0_0 x0_1 x0_2 x0_3 x0_4 x0_5 x0_6 x0_7 x0_8 H Q) : callV Tryd.prog (fnV fn_ref08_All) [(.agg #[x0_0, x0_1, x0_2, x0_3, x0_4, x0_5, x0_6, x0_7, x0_8])] H Q :=
  callV_fn (hcalls_of (pv := [1]) (ann := [(12, [6, 8, 10])]) Tryd.func33 (by kernel_rfl) (Eq.mpr (by kernel_rfl) h))

/-- (thimblerig/conf.span[int]).in -/
def S_conf_span_int_in (x0_0 : Value) (x0_1 : Value) (x0_2 : Value) (H : Heap) (Q : Value → Heap → Prop) : Prop :=
  newT H fun H =>
  JoinPT (fun K8 =>
  binV (.int .i64) .geq x0_0 x0_1 fun t7 =>
  asB t7 fun b8 =>
  ifB b8 (
  binV (.int .i64) .leq x0_0 x0_2 fun t13 =>
  K8 [[t13]] H) (
  K8 [[(.bool false)]] H)) fun s8 H =>
  Q (sv s8 0) H
theorem S_conf_span_int_in_of {x0_0 : Value} {x0_1 : Value} {x0_2 : Value} {H : Heap} {Q : Value → Heap → Prop} (h : S_conf_span_int_in x0_0 x0_1 x0_2 H Q) : callV Tryd.prog (fnV fn_conf_span_int_in) [(.agg #[x0_0, x0_1, x0_2])] H Q :=
  callV_fn (hcalls_of (pv := [1]) (ann := [(8, [4])]) Tryd.func54 (by kernel_rfl) (Eq.mpr (by kernel_rfl) h))

/-- thimblerig/conf.each$1 -/
def S_conf_each_1 (x0 : Value) (y0 : Value) (H : Heap) (Q : Value → Heap → Prop) : Prop :=
  loadP true 9 y0 H fun t4 =>
  fldP 0 y0 fun t5 =>
  loadP false 1 t5 H fun t6 =>
  fldP 1 y0 fun t7 =>
  loadP false 1 t7 H fun t8 =>
  callV Tryd.prog (fnV fn_conf_level) [t4, t6, t8] H fun t9 H =>
  newT H fun H =>
  cellsV true 4 t9 fun c1 =>
  LoopPT (fun s6 H K6 =>
  JoinPT (fun K8 =>
  ifB (decide (0 + 4 ≤ ((sc s6 0)).length)) (
  callV Tryd.prog x0 [(.agg (seg (sc s6 0) 0 4).toArray)] H fun t12 H =>
  asB t12 fun b13 =>
  ifB b13 (
  ifB (decide (0 + 1 ≤ ((sc s6 0)).length)) (
  fldP 8 y0 fun t16 =>
  loadP false 1 t16 H fun t17 =>
  binV (.int .i64) .gtr (mkV false (seg (sc s6 0) 0 1)) t17 fun t18 =>
  K8 [[t18]] H) False) (
  K8 [[(.bool false)]] H)) False) fun s8 H =>
  asB (sv s8 0) fun b19 =>
  ifB b19 (
  loadP true 9 y0 H fun t20 =>
  ifB (decide (0 + 1 ≤ ((sc s6 0)).length)) (
  fldP 2 y0 fun t23 =>
  loadP false 1 t23 H fun t24 =>
  binV (.int .i64) .add (mkV false (seg (sc s6 0) 0 1)) t24 fun t25 =>
  binV (.int .i64) .sub t25 (.int .i64 1) fun t26 =>
  fldP 2 y0 fun t27 =>
  loadP false 1 t27 H fun t28 =>
  binV (.int .i64) .quo t26 t28 fun t29 =>
  fldP 2 y0 fun t30 =>
  loadP false 1 t30 H fun t31 =>
  binV (.int .i64) .mul (.int .i64 4) t31 fun t32 =>
  callV Tryd.prog (fnV fn_conf_level) [t20, t29, t32] H fun t33 H =>
  (loadP false 1 t30 H fun u31 =>
  u31 = t31) ∧
  (loadP false 1 t27 H fun u28 =>
  u28 = t28) ∧
  (loadP false 1 t23 H fun u24 =>
  u24 = t24) ∧
  (cellsV true 4 t33 fun c2 =>
  ifB (decide (0 + 4 ≤ ((sc s6 0)).length)) (
  K6 [(setSeg (sc s6 0) 0 c2)] H) False)) False) (
  Q (.tuple #[]) H)) [(setSeg [(.int .i64 0), (.int .i64 0), (.int .i64 0), (.int .i64 0)] 0 c1)] H
theorem S_conf_each_1_of {x0 : Value} {y0 : Value} {H : Heap} {Q : Value → Heap → Prop} (h : S_conf_each_1 x0 y0 H Q) : callV Tryd.prog (fnV fn_conf_each_1) [x0, y0] H Q :=
  callV_fn (hcalls_of (pv := [3]) (ann := [(6, [7]), (8, [38])]) Tryd.func55 (by kernel_rfl) (Eq.mpr (by kernel_rfl) h))
theorem C_conf_each_1_of {x0 : Value} {y0 : Value} {H : Heap} {Q : Value → Heap → Prop} (h : S_conf_each_1 x0 y0 H Q) : callV Tryd.prog (.func (.func fn_conf_each_1) #[] #[y0]) [x0] H Q :=
  callV_cl (S_conf_each_1_of h)

/-- thimblerig/conf.level -/
def S_conf_level (x0_0 : Value) (x0_1 : Value) (x0_2 : Value) (x0_3 : Value) (x0_4 : Value) (x0_5 : Value) (x0_6 : Value) (x0_7 : Value) (x0_8 : Value) (x1 : Value) (x2 : Value) (H : Heap) (Q : Value → Heap → Prop) : Prop :=
  newT H fun H =>
  newT H fun H =>
  callV Tryd.prog (fnV fn_geo_Leaves) [(.int .i64 1)] H fun t12 H =>
  extractV 0 t12 fun t13 =>
  extractV 1 t12 fun t14 =>
  LoopPT (fun s12 H K12 =>
  JoinPT (fun K14 =>
  binV (.int .i64) .eql (sv s12 2) (.int .i64 0) fun t16 =>
  asB t16 fun b17 =>
  ifB b17 (
  binV (.int .i64) .lss (sv s12 1) x1 fun t20 =>
  K14 [[t20]] H) (
  K14 [[(.bool false)]] H)) fun s14 H =>
  asB (sv s14 0) fun b21 =>
  ifB b21 (
  binV (.int .i64) .add (sv s12 0) (.int .i64 1) fun t28 =>
  callV Tryd.prog (fnV fn_geo_Leaves) [t28] H fun t24 H =>
  extractV 0 t24 fun t25 =>
  extractV 1 t24 fun t26 =>
  K12 [[t28], [t25], [t26]] H) (
  binV (.int .i64) .add (.int .i64 8) x2 fun t35 =>
  binV (.int .i64) .mul x0_3 t35 fun t36 =>
  binV (.int .i64) .add t36 (.int .i64 64) fun t37 =>
  ifB (okc x1) (
  ifB (okc x2) (
  ifB (okc (sv s12 0)) (
  ifB (okc t37) (
  ifB ([x1, x2, (sv s12 0), t37].all okc) (
  Q (.agg #[x1, x2, (sv s12 0), t37]) H) False) False) False) False) False)) [[(.int .i64 1)], [t13], [t14]] H
theorem S_conf_level_of {x0_0 : Value} {x0_1 : Value} {x0_2 : Value} {x0_3 : Value} {x0_4 : Value} {x0_5 : Value} {x0_6 : Value} {x0_7 : Value} {x0_8 : Value} {x1 : Value} {x2 : Value} {H : Heap} {Q : Value → Heap → Prop} (h : S_conf_level x0_0 x0_1 x0_2 x0_3 x0_4 x0_5 x0_6 x0_7 x0_8 x1 x2 H Q) : callV Tryd.prog (fnV fn_conf_level) [(.agg #[x0_0, x0_1, x0_2, x0_3, x0_4, x0_5, x0_6, x0_7, x0_8]), x1, x2] H Q :=
  callV_fn (hcalls_of (pv := [3, 6]) (ann := [(12, [14, 16, 18]), (14, [42])]) Tryd.func56 (by kernel_rfl) (Eq.mpr (by kernel_rfl) h))

/-- thimblerig/thimblerigref08.in -/
def S_ref08_in (x0 : Value) (x1 : Value) (x2 : Value) (H : Heap) (Q : Value → Heap → Prop) : Prop :=
  JoinPT (fun K8 =>
  binV (.int .i64) .geq x0 x1 fun t9 =>
  asB t9 fun b10 =>
  ifB b10 (
  binV (.int .i64) .leq x0 x2 fun t13 =>
  K8 [[t13]] H) (
  K8 [[(.bool false)]] H)) fun s8 H =>
  Q (sv s8 0) H
theorem S_ref08_in_of {x0 : Value} {x1 : Value} {x2 : Value} {H : Heap} {Q : Value → Heap → Prop} (h : S_ref08_in x0 x1 x2 H Q) : callV Tryd.prog (fnV fn_ref08_in) [x0, x1, x2] H Q :=
  callV_fn (hcalls_of (pv := []) (ann := [(8, [12])]) Tryd.func57 (by kernel_rfl) (Eq.mpr (by kernel_rfl) h))

/-- thimblerig/thimblerigref08.high -/
def S_ref08_high (x0 : Value) (H : Heap) (Q : Value → Heap → Prop) : Prop :=
  LoopPT (fun s9 H K9 =>
  callV Tryd.prog (fnV fn_ref07_Many) [(sv s9 0)] H fun t5 H =>
  binV (.int .i64) .lss t5 x0 fun t7 =>
  asB t7 fun b7 =>
  ifB b7 (
  binV (.int .i64) .add (sv s9 0) (.int .i64 1) fun t9 =>
  K9 [[t9]] H) (
  Q (sv s9 0) H)) [[(.int .i64 1)]] H
theorem S_ref08_high_of {x0 : Value} {H : Heap} {Q : Value → Heap → Prop} (h : S_ref08_high x0 H Q) : callV Tryd.prog (fnV fn_ref08_high) [x0] H Q :=
  callV_fn (hcalls_of (pv := []) (ann := [(9, [6])]) Tryd.func58 (by kernel_rfl) (Eq.mpr (by kernel_rfl) h))

/-- thimblerig/geo.Leaves -/
def S_geo_Leaves (x0 : Value) (H : Heap) (Q : Value → Heap → Prop) : Prop :=
  callV Tryd.prog (fnV fn_geo_asked) [x0, (.slice none 0 0)] H fun t6 H =>
  binV (.int .i64) .neq t6 (.int .i64 0) fun t8 =>
  asB t8 fun b8 =>
  ifB b8 (
  Q (.tuple #[(.int .i64 0), t6]) H) (
  binV (.int .i64) .shl (.int .i64 1) x0 fun t11 =>
  Q (.tuple #[t11, (.int .i64 0)]) H)
theorem S_geo_Leaves_of {x0 : Value} {H : Heap} {Q : Value → Heap → Prop} (h : S_geo_Leaves x0 H Q) : callV Tryd.prog (fnV fn_geo_Leaves) [x0] H Q :=
  callV_fn (hcalls_of (pv := []) (ann := []) Tryd.func62 (by kernel_rfl) (Eq.mpr (by kernel_rfl) h))

/-- thimblerig/thimblerigref07.Many -/
def S_ref07_Many (x0 : Value) (H : Heap) (Q : Value → Heap → Prop) : Prop :=
  LoopPT (fun s12 H K12 =>
  binV (.int .i64) .lss (sv s12 1) x0 fun t7 =>
  asB t7 fun b7 =>
  ifB b7 (
  binV (.int .i64) .mul (.int .i64 2) (sv s12 0) fun t11 =>
  binV (.int .i64) .add (sv s12 1) (.int .i64 1) fun t9 =>
  K12 [[t11], [t9]] H) (
  Q (sv s12 0) H)) [[(.int .i64 1)], [(.int .i64 0)]] H
theorem S_ref07_Many_of {x0 : Value} {H : Heap} {Q : Value → Heap → Prop} (h : S_ref07_Many x0 H Q) : callV Tryd.prog (fnV fn_ref07_Many) [x0] H Q :=
  callV_fn (hcalls_of (pv := []) (ann := [(12, [6, 8])]) Tryd.func72 (by kernel_rfl) (Eq.mpr (by kernel_rfl) h))

/-- thimblerig/geo.asked -/
def S_geo_asked (x0 : Value) (x1 : Value) (H : Heap) (Q : Value → Heap → Prop) : Prop :=
  callV Tryd.prog (fnV fn_geo_Check) [x0] H fun t9 H =>
  binV (.int .i64) .neq t9 (.int .i64 0) fun t11 =>
  asB t11 fun b11 =>
  ifB b11 (
  Q t9 H) (
  lenSl x1 H fun t14 =>
  LoopPT (fun s18 H K18 =>
  binV (.int .i64) .lss (sv s18 0) t14 fun t16 =>
  asB t16 fun b16 =>
  ifB b16 (
  idxS 1 x1 (sv s18 0) fun t17 =>
  loadP false 1 t17 H fun t18 =>
  JoinPT (fun K26 =>
  binV (.int .i64) .lss t18 (.int .i64 0) fun t20 =>
  asB t20 fun b21 =>
  ifB b21 (
  K26 [[(.bool true)]] H) (
  binV (.int .i64) .shl (.int .i64 1) x0 fun t24 =>
  binV (.int .i64) .geq t18 t24 fun t25 =>
  K26 [[t25]] H)) fun s26 H =>
  asB (sv s26 0) fun b26 =>
  ifB b26 (
  Q (.int .i64 2) H) (
  binV (.int .i64) .add (sv s18 0) (.int .i64 1) fun t27 =>
  K18 [[t27]] H)) (
  Q (.int .i64 0) H)) [[(.int .i64 0)]] H)
theorem S_geo_asked_of {x0 : Value} {x1 : Value} {H : Heap} {Q : Value → Heap → Prop} (h : S_geo_asked x0 x1 H Q) : callV Tryd.prog (fnV fn_geo_asked) [x0, x1] H Q :=
  callV_fn (hcalls_of (pv := []) (ann := [(18, [30]), (26, [52])]) Tryd.func79 (by kernel_rfl) (Eq.mpr (by kernel_rfl) h))

/-- thimblerig/geo.Check -/
def S_geo_Check (x0 : Value) (H : Heap) (Q : Value → Heap → Prop) : Prop :=
  JoinPT (fun K8 =>
  binV (.int .i64) .lss x0 (.int .i64 1) fun t4 =>
  asB t4 fun b5 =>
  ifB b5 (
  K8 [[(.bool true)]] H) (
  binV (.int .i64) .gtr x0 (.int .i64 6) fun t7 =>
  K8 [[t7]] H)) fun s8 H =>
  asB (sv s8 0) fun b8 =>
  ifB b8 (
  Q (.int .i64 2) H) (
  Q (.int .i64 0) H)
theorem S_geo_Check_of {x0 : Value} {H : Heap} {Q : Value → Heap → Prop} (h : S_geo_Check x0 H Q) : callV Tryd.prog (fnV fn_geo_Check) [x0] H Q :=
  callV_fn (hcalls_of (pv := []) (ann := [(8, [16])]) Tryd.func88 (by kernel_rfl) (Eq.mpr (by kernel_rfl) h))

end Go.Proofs.YtlmpjhbfgakgdaaDoor
