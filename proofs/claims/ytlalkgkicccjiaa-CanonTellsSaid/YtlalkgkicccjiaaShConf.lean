/- Written by sh.py: what functions do, out of the deep reading; each is joined to the program by the kernel. -/
import Derived.Test.YtlalkgkicccjiaaShNames
namespace Go.Proofs.Ytlalkgkicccjiaa
open Go.Ab
set_option linter.unusedVariables false
set_option linter.unusedSimpArgs false
set_option maxRecDepth 100000

/-- thimblerig/conf.Seals -/
def S_conf_Seals (x0_0 : Value) (x0_1 : Value) (x0_2 : Value) (x0_3 : Value) (x0_4 : Value) (x0_5 : Value) (x0_6 : Value) (x0_7 : Value) (x0_8 : Value) (H : Heap) (Q : Value → Heap → Prop) : Prop :=
  newT H fun H =>
  callV Try.prog (fnV fn_conf_Levels) [(.agg #[x0_0, x0_1, x0_2, x0_3, x0_4, x0_5, x0_6, x0_7, x0_8])] H fun t12 H =>
  extractV 0 t12 fun t13 =>
  extractV 1 t12 fun t14 =>
  lenSl t13 H fun t16 =>
  LoopPT (fun s12 H K12 =>
  binV (.int .i64) .lss (sv s12 2) t16 fun t18 =>
  asB t18 fun b18 =>
  ifB b18 (
  idxS 4 t13 (sv s12 2) fun t19 =>
  loadP true 4 t19 H fun t20 =>
  newT H fun H =>
  cellsV true 4 t20 fun c1 =>
  ifB (decide (2 + 1 ≤ ((setSeg [(.int .i64 0), (.int .i64 0), (.int .i64 0), (.int .i64 0)] 0 c1)).length)) (
  callV Try.prog (fnV fn_geo_Buckets) [(mkV false (seg (setSeg [(.int .i64 0), (.int .i64 0), (.int .i64 0), (.int .i64 0)] 0 c1) 2 1))] H fun t24 H =>
  extractV 0 t24 fun t25 =>
  extractV 1 t24 fun t26 =>
  binV (.int .i64) .add (sv s12 0) t25 fun t29 =>
  ifB (decide (2 + 1 ≤ ((setSeg [(.int .i64 0), (.int .i64 0), (.int .i64 0), (.int .i64 0)] 0 c1)).length)) (
  binV (.int .i64) .add (mkV false (seg (setSeg [(.int .i64 0), (.int .i64 0), (.int .i64 0), (.int .i64 0)] 0 c1) 2 1)) (.int .i64 1) fun t33 =>
  binV (.int .i64) .mul (.int .i64 2) t33 fun t34 =>
  binV (.int .i64) .add (sv s12 1) t34 fun t35 =>
  binV (.int .i64) .add (sv s12 2) (.int .i64 1) fun t36 =>
  K12 [[t29], [t35], [t36]] H) False) False) (
  Q (.tuple #[(sv s12 0), (sv s12 1), t14]) H)) [[(.int .i64 0)], [(.int .i64 0)], [(.int .i64 0)]] H
theorem S_conf_Seals_of {x0_0 : Value} {x0_1 : Value} {x0_2 : Value} {x0_3 : Value} {x0_4 : Value} {x0_5 : Value} {x0_6 : Value} {x0_7 : Value} {x0_8 : Value} {H : Heap} {Q : Value → Heap → Prop} (h : S_conf_Seals x0_0 x0_1 x0_2 x0_3 x0_4 x0_5 x0_6 x0_7 x0_8 H Q) : callV Try.prog (fnV fn_conf_Seals) [(.agg #[x0_0, x0_1, x0_2, x0_3, x0_4, x0_5, x0_6, x0_7, x0_8])] H Q :=
  callV_fn (hcalls_of (pv := [1, 7]) (ann := [(12, [4, 6, 34])]) Try.func17 (by kernel_rfl) (Eq.mpr (by kernel_rfl) h))

/-- thimblerig/thimblerigref08.May -/
def S_ref08_May (x0_0 : Value) (x0_1 : Value) (x0_2 : Value) (x0_3 : Value) (x0_4 : Value) (x0_5 : Value) (x0_6 : Value) (x0_7 : Value) (x0_8 : Value) (H : Heap) (Q : Value → Heap → Prop) : Prop :=
  newT H fun H =>
  JoinPT (fun K8 =>
  callV Try.prog (fnV fn_ref08_numbers) [(.agg #[x0_0, x0_1, x0_2, x0_3, x0_4, x0_5, x0_6, x0_7, x0_8])] H fun t4 H =>
  asB t4 fun b5 =>
  ifB b5 (
  callV Try.prog (fnV fn_ref08_All) [(.agg #[x0_0, x0_1, x0_2, x0_3, x0_4, x0_5, x0_6, x0_7, x0_8])] H fun t7 H =>
  lenSl t7 H fun t8 =>
  binV (.int .i64) .leq t8 (.int .i64 4) fun t9 =>
  K8 [[t9]] H) (
  K8 [[(.bool false)]] H)) fun s8 H =>
  Q (sv s8 0) H
theorem S_ref08_May_of {x0_0 : Value} {x0_1 : Value} {x0_2 : Value} {x0_3 : Value} {x0_4 : Value} {x0_5 : Value} {x0_6 : Value} {x0_7 : Value} {x0_8 : Value} {H : Heap} {Q : Value → Heap → Prop} (h : S_ref08_May x0_0 x0_1 x0_2 x0_3 x0_4 x0_5 x0_6 x0_7 x0_8 H Q) : callV Try.prog (fnV fn_ref08_May) [(.agg #[x0_0, x0_1, x0_2, x0_3, x0_4, x0_5, x0_6, x0_7, x0_8])] H Q :=
  callV_fn (hcalls_of (pv := [1]) (ann := [(8, [4])]) Try.func18 (by kernel_rfl) (Eq.mpr (by kernel_rfl) h))

/-- thimblerig/conf.Levels -/
def S_conf_Levels (x0_0 : Value) (x0_1 : Value) (x0_2 : Value) (x0_3 : Value) (x0_4 : Value) (x0_5 : Value) (x0_6 : Value) (x0_7 : Value) (x0_8 : Value) (H : Heap) (Q : Value → Heap → Prop) : Prop :=
  newC 23 [x0_0, x0_1, x0_2, x0_3, x0_4, x0_5, x0_6, x0_7, x0_8] H fun a1 H =>
  newC 53 [(.slice none 0 0)] H fun a2 H =>
  loadP true 9 (.pointer (some ⟨a1, 0, none⟩)) H fun t5 =>
  callV Try.prog (fnV fn_conf_numbers) [t5] H fun t6 H =>
  unV .not t6 fun t7 =>
  asB t7 fun b7 =>
  ifB b7 (
  storeP false 1 (.pointer (some ⟨a2, 0, none⟩)) (.slice none 0 0) H fun H =>
  loadP false 1 (.pointer (some ⟨a2, 0, none⟩)) H fun r2 =>
  Q (.tuple #[r2, (.int .i64 8)]) H) (
  loadP true 9 (.pointer (some ⟨a1, 0, none⟩)) H fun t8 =>
  callV Try.prog (fnV fn_conf_each) [t8] H fun t9 H =>
  RangePT Try.prog t9 H (fun qs H R1 =>
  arg1 qs fun q1_0 =>
  newC 76 [(.int .i64 0), (.int .i64 0), (.int .i64 0), (.int .i64 0)] H fun a4 H =>
  storeP true 4 (.pointer (some ⟨a4, 0, none⟩)) q1_0 H fun H =>
  loadP false 1 (.pointer (some ⟨a2, 0, none⟩)) H fun t11 =>
  loadP true 4 (.pointer (some ⟨a4, 0, none⟩)) H fun t12 =>
  bldS 76 4 true (zeroL Try.prog 76) 1 [(0, t12)] H fun t13 H =>
  appS 76 4 32 (zeroL Try.prog 76) t11 t13 H fun t14 H =>
  storeP false 1 (.pointer (some ⟨a2, 0, none⟩)) t14 H fun H =>
  R1 none H) (fun H =>
  loadP false 1 (.pointer (some ⟨a2, 0, none⟩)) H fun t15 =>
  lenSl t15 H fun t16 =>
  binV (.int .i64) .gtr t16 (.int .i64 4) fun t17 =>
  asB t17 fun b17 =>
  ifB b17 (
  storeP false 1 (.pointer (some ⟨a2, 0, none⟩)) (.slice none 0 0) H fun H =>
  loadP false 1 (.pointer (some ⟨a2, 0, none⟩)) H fun r2 =>
  Q (.tuple #[r2, (.int .i64 8)]) H) (
  loadP false 1 (.pointer (some ⟨a2, 0, none⟩)) H fun t18 =>
  storeP false 1 (.pointer (some ⟨a2, 0, none⟩)) t18 H fun H =>
  loadP false 1 (.pointer (some ⟨a2, 0, none⟩)) H fun r2 =>
  Q (.tuple #[r2, (.int .i64 0)]) H)) [])
theorem S_conf_Levels_of {x0_0 : Value} {x0_1 : Value} {x0_2 : Value} {x0_3 : Value} {x0_4 : Value} {x0_5 : Value} {x0_6 : Value} {x0_7 : Value} {x0_8 : Value} {H : Heap} {Q : Value → Heap → Prop} (h : S_conf_Levels x0_0 x0_1 x0_2 x0_3 x0_4 x0_5 x0_6 x0_7 x0_8 H Q) : callV Try.prog (fnV fn_conf_Levels) [(.agg #[x0_0, x0_1, x0_2, x0_3, x0_4, x0_5, x0_6, x0_7, x0_8])] H Q :=
  callV_fn (hcalls_of (pv := []) (ann := []) Try.func29 (by kernel_rfl) (Eq.mpr (by kernel_rfl) h))

/-- thimblerig/geo.Buckets -/
def S_geo_Buckets (x0 : Value) (H : Heap) (Q : Value → Heap → Prop) : Prop :=
  callV Try.prog (fnV fn_geo_asked) [x0, (.slice none 0 0)] H fun t6 H =>
  binV (.int .i64) .neq t6 (.int .i64 0) fun t8 =>
  asB t8 fun b8 =>
  ifB b8 (
  Q (.tuple #[(.int .i64 0), t6]) H) (
  binV (.int .i64) .shl (.int .i64 2) x0 fun t11 =>
  binV (.int .i64) .sub t11 (.int .i64 1) fun t12 =>
  Q (.tuple #[t12, (.int .i64 0)]) H)
theorem S_geo_Buckets_of {x0 : Value} {H : Heap} {Q : Value → Heap → Prop} (h : S_geo_Buckets x0 H Q) : callV Try.prog (fnV fn_geo_Buckets) [x0] H Q :=
  callV_fn (hcalls_of (pv := []) (ann := []) Try.func30 (by kernel_rfl) (Eq.mpr (by kernel_rfl) h))

/-- thimblerig/thimblerigref08.numbers -/
def S_ref08_numbers (x0_0 : Value) (x0_1 : Value) (x0_2 : Value) (x0_3 : Value) (x0_4 : Value) (x0_5 : Value) (x0_6 : Value) (x0_7 : Value) (x0_8 : Value) (H : Heap) (Q : Value → Heap → Prop) : Prop :=
  newT H fun H =>
  JoinPT (fun K8 =>
  callV Try.prog (fnV fn_ref08_in) [x0_0, (.int .i64 1), (.int .i64 64)] H fun t5 H =>
  asB t5 fun b6 =>
  ifB b6 (
  callV Try.prog (fnV fn_ref08_in) [x0_1, (.int .i64 1), (.int .i64 32)] H fun t9 H =>
  asB t9 fun b11 =>
  ifB b11 (
  callV Try.prog (fnV fn_ref08_in) [x0_2, (.int .i64 2), (.int .i64 8)] H fun t14 H =>
  asB t14 fun b16 =>
  ifB b16 (
  callV Try.prog (fnV fn_ref08_in) [x0_3, (.int .i64 1), (.int .i64 4)] H fun t19 H =>
  asB t19 fun b21 =>
  ifB b21 (
  callV Try.prog (fnV fn_ref08_in) [x0_4, (.int .i64 1), (.int .i64 64)] H fun t24 H =>
  asB t24 fun b26 =>
  ifB b26 (
  callV Try.prog (fnV fn_ref08_in) [x0_5, (.int .i64 1), (.int .i64 8)] H fun t29 H =>
  asB t29 fun b31 =>
  ifB b31 (
  callV Try.prog (fnV fn_ref08_in) [x0_6, (.int .i64 1), (.int .i64 4)] H fun t34 H =>
  asB t34 fun b36 =>
  ifB b36 (
  callV Try.prog (fnV fn_ref08_in) [x0_7, (.int .i64 1), (.int .i64 16)] H fun t39 H =>
  asB t39 fun b41 =>
  ifB b41 (
  callV Try.prog (fnV fn_ref08_in) [x0_8, (.int .i64 1), (.int .i64 16)] H fun t44 H =>
  K8 [[t44]] H) (
  K8 [[(.bool false)]] H)) (
  K8 [[(.bool false)]] H)) (
  K8 [[(.bool false)]] H)) (
  K8 [[(.bool false)]] H)) (
  K8 [[(.bool false)]] H)) (
  K8 [[(.bool false)]] H)) (
  K8 [[(.bool false)]] H)) (
  K8 [[(.bool false)]] H)) fun s8 H =>
  Q (sv s8 0) H
theorem S_ref08_numbers_of {x0_0 : Value} {x0_1 : Value} {x0_2 : Value} {x0_3 : Value} {x0_4 : Value} {x0_5 : Value} {x0_6 : Value} {x0_7 : Value} {x0_8 : Value} {H : Heap} {Q : Value → Heap → Prop} (h : S_ref08_numbers x0_0 x0_1 x0_2 x0_3 x0_4 x0_5 x0_6 x0_7 x0_8 H Q) : callV Try.prog (fnV fn_ref08_numbers) [(.agg #[x0_0, x0_1, x0_2, x0_3, x0_4, x0_5, x0_6, x0_7, x0_8])] H Q :=
  callV_fn (hcalls_of (pv := [1]) (ann := [(8, [4])]) Try.func31 (by kernel_rfl) (Eq.mpr (by kernel_rfl) h))

/-- thimblerig/thimblerigref08.All -/
def S_ref08_All (x0_0 : Value) (x0_1 : Value) (x0_2 : Value) (x0_3 : Value) (x0_4 : Value) (x0_5 : Value) (x0_6 : Value) (x0_7 : Value) (x0_8 : Value) (H : Heap) (Q : Value → Heap → Prop) : Prop :=
  newT H fun H =>
  LoopPT (fun s12 H K12 =>
  binV (.int .i64) .add (.int .i64 8) (sv s12 2) fun t18 =>
  binV (.int .i64) .mul x0_3 t18 fun t19 =>
  binV (.int .i64) .add t19 (.int .i64 64) fun t20 =>
  callV Try.prog (fnV fn_ref08_high) [(sv s12 1)] H fun t14 H =>
  ifB (okc (sv s12 1)) (
  ifB (okc (sv s12 2)) (
  ifB (okc t14) (
  ifB (okc t20) (
  bldS 76 4 true (zeroL Try.prog 76) 1 [(0, (.agg #[(sv s12 1), (sv s12 2), t14, t20]))] H fun t22 H =>
  appS 76 4 32 (zeroL Try.prog 76) (sv s12 0) t22 H fun t23 H =>
  binV (.int .i64) .leq (sv s12 1) x0_8 fun t27 =>
  asB t27 fun b27 =>
  ifB b27 (
  Q t23 H) (
  binV (.int .i64) .add (sv s12 1) x0_2 fun t32 =>
  binV (.int .i64) .sub t32 (.int .i64 1) fun t33 =>
  binV (.int .i64) .quo t33 x0_2 fun t36 =>
  binV (.int .i64) .mul (.int .i64 4) x0_2 fun t39 =>
  K12 [[t23], [t36], [t39]] H)) False) False) False) False) [[(.slice none 0 0)], [x0_0], [x0_1]] H
theorem S_ref08_All_of {x0_0 : Value} {x0_1 : Value} {x0_2 : Value} {x0_3 : Value} {x0_4 : Value} {x0_5 : Value} {x0_6 : Value} {x0_7 : Value} {x0_8 : Value} {H : Heap} {Q : Value → Heap → Prop} (h : S_ref08_All x0_0 x0_1 x0_2 x0_3 x0_4 x0_5 x0_6 x0_7 x0_8 H Q) : callV Try.prog (fnV fn_ref08_All) [(.agg #[x0_0, x0_1, x0_2, x0_3, x0_4, x0_5, x0_6, x0_7, x0_8])] H Q :=
  callV_fn (hcalls_of (pv := [1]) (ann := [(12, [6, 8, 10])]) Try.func32 (by kernel_rfl) (Eq.mpr (by kernel_rfl) h))

/-- thimblerig/thimblerigref08.Counts -/
def S_ref08_Counts (x0_0 : Value) (x0_1 : Value) (x0_2 : Value) (x0_3 : Value) (x0_4 : Value) (x0_5 : Value) (x0_6 : Value) (x0_7 : Value) (x0_8 : Value) (H : Heap) (Q : Value → Heap → Prop) : Prop :=
  newT H fun H =>
  callV Try.prog (fnV fn_ref08_All) [(.agg #[x0_0, x0_1, x0_2, x0_3, x0_4, x0_5, x0_6, x0_7, x0_8])] H fun t9 H =>
  LoopPT (fun s15 H K15 =>
  lenSl t9 H fun t12 =>
  binV (.int .i64) .lss (sv s15 2) t12 fun t13 =>
  asB t13 fun b13 =>
  ifB b13 (
  idxS 4 t9 (sv s15 2) fun t19 =>
  fldP 2 t19 fun t20 =>
  loadP false 1 t20 H fun t21 =>
  callV Try.prog (fnV fn_ref07_Many) [t21] H fun t22 H =>
  binV (.int .i64) .mul (.int .i64 2) t22 fun t23 =>
  binV (.int .i64) .add (sv s15 0) t23 fun t24 =>
  binV (.int .i64) .sub t24 (.int .i64 1) fun t25 =>
  idxS 4 t9 (sv s15 2) fun t29 =>
  fldP 2 t29 fun t30 =>
  loadP false 1 t30 H fun t31 =>
  binV (.int .i64) .add t31 (.int .i64 1) fun t32 =>
  binV (.int .i64) .mul (.int .i64 2) t32 fun t33 =>
  binV (.int .i64) .add (sv s15 1) t33 fun t34 =>
  binV (.int .i64) .add (sv s15 2) (.int .i64 1) fun t15 =>
  K15 [[t25], [t34], [t15]] H) (
  Q (.tuple #[(sv s15 0), (sv s15 1)]) H)) [[(.int .i64 0)], [(.int .i64 0)], [(.int .i64 0)]] H
theorem S_ref08_Counts_of {x0_0 : Value} {x0_1 : Value} {x0_2 : Value} {x0_3 : Value} {x0_4 : Value} {x0_5 : Value} {x0_6 : Value} {x0_7 : Value} {x0_8 : Value} {H : Heap} {Q : Value → Heap → Prop} (h : S_ref08_Counts x0_0 x0_1 x0_2 x0_3 x0_4 x0_5 x0_6 x0_7 x0_8 H Q) : callV Try.prog (fnV fn_ref08_Counts) [(.agg #[x0_0, x0_1, x0_2, x0_3, x0_4, x0_5, x0_6, x0_7, x0_8])] H Q :=
  callV_fn (hcalls_of (pv := [1]) (ann := [(15, [8, 10, 14])]) Try.func33 (by kernel_rfl) (Eq.mpr (by kernel_rfl) h))

/-- thimblerig/geo.Path -/
def S_geo_Path (x0 : Value) (x1 : Value) (H : Heap) (Q : Value → Heap → Prop) : Prop :=
  newC 68 [(.slice none 0 0)] H fun a4 H =>
  bldS 3 1 false (zeroL Try.prog 3) 1 [(0, x1)] H fun t11 H =>
  callV Try.prog (fnV fn_geo_asked) [x0, t11] H fun t12 H =>
  binV (.int .i64) .neq t12 (.int .i64 0) fun t14 =>
  asB t14 fun b14 =>
  ifB b14 (
  storeP false 1 (.pointer (some ⟨a4, 0, none⟩)) (.slice none 0 0) H fun H =>
  loadP false 1 (.pointer (some ⟨a4, 0, none⟩)) H fun r4 =>
  Q (.tuple #[r4, t12]) H) (
  callV Try.prog (fnV fn_geo_down) [x0, x1] H fun t18 H =>
  RangePT Try.prog t18 H (fun qs H R1 =>
  arg2 qs fun q1_0 q1_1 =>
  loadP false 1 (.pointer (some ⟨a4, 0, none⟩)) H fun t21 =>
  bldS 3 1 false (zeroL Try.prog 3) 1 [(0, q1_1)] H fun t23 H =>
  appS 3 1 8 (zeroL Try.prog 3) t21 t23 H fun t24 H =>
  storeP false 1 (.pointer (some ⟨a4, 0, none⟩)) t24 H fun H =>
  R1 none H) (fun H =>
  loadP false 1 (.pointer (some ⟨a4, 0, none⟩)) H fun t25 =>
  storeP false 1 (.pointer (some ⟨a4, 0, none⟩)) t25 H fun H =>
  loadP false 1 (.pointer (some ⟨a4, 0, none⟩)) H fun r4 =>
  Q (.tuple #[r4, (.int .i64 0)]) H) [])
theorem S_geo_Path_of {x0 : Value} {x1 : Value} {H : Heap} {Q : Value → Heap → Prop} (h : S_geo_Path x0 x1 H Q) : callV Try.prog (fnV fn_geo_Path) [x0, x1] H Q :=
  callV_fn (hcalls_of (pv := []) (ann := []) Try.func43 (by kernel_rfl) (Eq.mpr (by kernel_rfl) h))

/-- thimblerig/geo.Reverse -/
def S_geo_Reverse (x0 : Value) (x1 : Value) (H : Heap) (Q : Value → Heap → Prop) : Prop :=
  ifB (okc x0) (
  newC 3 [x0] H fun a2 H =>
  ifB (okc x1) (
  newC 101 [x1] H fun a3 H =>
  loadP false 1 (.pointer (some ⟨a2, 0, none⟩)) H fun t10 =>
  callV Try.prog (fnV fn_geo_asked) [t10, (.slice none 0 0)] H fun t11 H =>
  binV (.int .i64) .neq t11 (.int .i64 0) fun t13 =>
  asB t13 fun b13 =>
  ifB b13 (
  Q (.tuple #[(.int .i64 0), t11]) H) (
  newC 3 [(.int .i64 0)] H fun a7 H =>
  storeP false 1 (.pointer (some ⟨a7, 0, none⟩)) (.int .i64 0) H fun H =>
  loadP false 1 (.pointer (some ⟨a2, 0, none⟩)) H fun t16 =>
  LoopPT (fun s24 H K24 =>
  binV (.int .i64) .lss (sv s24 0) t16 fun t18 =>
  asB t18 fun b18 =>
  ifB b18 (
  callV Try.prog (.func (.func fn_geo_Reverse_1) #[] #[(.pointer (some ⟨a7, 0, none⟩)), (.pointer (some ⟨a3, 0, none⟩)), (.pointer (some ⟨a2, 0, none⟩))]) [(sv s24 0)] H fun t22 H =>
  binV (.int .i64) .add (sv s24 0) (.int .i64 1) fun t23 =>
  K24 [[t23]] H) (
  loadP false 1 (.pointer (some ⟨a7, 0, none⟩)) H fun t24 =>
  Q (.tuple #[t24, (.int .i64 0)]) H)) [[(.int .i64 0)]] H)) False) False
theorem S_geo_Reverse_of {x0 : Value} {x1 : Value} {H : Heap} {Q : Value → Heap → Prop} (h : S_geo_Reverse x0 x1 H Q) : callV Try.prog (fnV fn_geo_Reverse) [x0, x1] H Q :=
  callV_fn (hcalls_of (pv := []) (ann := [(24, [34])]) Try.func48 (by kernel_rfl) (Eq.mpr (by kernel_rfl) h))

/-- thimblerig/conf.numbers -/
def S_conf_numbers (x0_0 : Value) (x0_1 : Value) (x0_2 : Value) (x0_3 : Value) (x0_4 : Value) (x0_5 : Value) (x0_6 : Value) (x0_7 : Value) (x0_8 : Value) (H : Heap) (Q : Value → Heap → Prop) : Prop :=
  newT H fun H =>
  ifB (okc x0_0) (
  ifB (okc x0_1) (
  ifB (okc x0_2) (
  ifB (okc x0_3) (
  ifB (okc x0_4) (
  ifB (okc x0_5) (
  ifB (okc x0_6) (
  ifB (okc x0_7) (
  ifB (okc x0_8) (
  ifB ([x0_0, (.int .i64 1), (.int .i64 64)].all okc) (
  ifB ([x0_1, (.int .i64 1), (.int .i64 32)].all okc) (
  ifB ([x0_2, (.int .i64 2), (.int .i64 8)].all okc) (
  ifB ([x0_3, (.int .i64 1), (.int .i64 4)].all okc) (
  ifB ([x0_4, (.int .i64 1), (.int .i64 64)].all okc) (
  ifB ([x0_5, (.int .i64 1), (.int .i64 8)].all okc) (
  ifB ([x0_6, (.int .i64 1), (.int .i64 4)].all okc) (
  ifB ([x0_7, (.int .i64 1), (.int .i64 16)].all okc) (
  ifB ([x0_8, (.int .i64 1), (.int .i64 16)].all okc) (
  newT H fun H =>
  ifB ([x0_0, (.int .i64 1), (.int .i64 64), x0_1, (.int .i64 1), (.int .i64 32), x0_2, (.int .i64 2), (.int .i64 8), x0_3, (.int .i64 1), (.int .i64 4), x0_4, (.int .i64 1), (.int .i64 64), x0_5, (.int .i64 1), (.int .i64 8), x0_6, (.int .i64 1), (.int .i64 4), x0_7, (.int .i64 1), (.int .i64 16), x0_8, (.int .i64 1), (.int .i64 16)].all okc) (
  LoopPT (fun s12 H K12 =>
  binV (.int .i64) .lss (sv s12 0) (.int .i64 9) fun t36 =>
  asB t36 fun b36 =>
  ifB b36 (
  idxV true 9 3 (.agg #[x0_0, (.int .i64 1), (.int .i64 64), x0_1, (.int .i64 1), (.int .i64 32), x0_2, (.int .i64 2), (.int .i64 8), x0_3, (.int .i64 1), (.int .i64 4), x0_4, (.int .i64 1), (.int .i64 64), x0_5, (.int .i64 1), (.int .i64 8), x0_6, (.int .i64 1), (.int .i64 4), x0_7, (.int .i64 1), (.int .i64 16), x0_8, (.int .i64 1), (.int .i64 16)]) (sv s12 0) fun t37 =>
  newT H fun H =>
  cellsV true 3 t37 fun c1 =>
  ifB (decide (0 + 3 ≤ ((setSeg [(.int .i64 0), (.int .i64 0), (.int .i64 0)] 0 c1)).length)) (
  callV Try.prog (fnV fn_conf_span_int_in) [(.agg (seg (setSeg [(.int .i64 0), (.int .i64 0), (.int .i64 0)] 0 c1) 0 3).toArray)] H fun t39 H =>
  unV .not t39 fun t40 =>
  asB t40 fun b40 =>
  ifB b40 (
  Q (.bool false) H) (
  binV (.int .i64) .add (sv s12 0) (.int .i64 1) fun t41 =>
  K12 [[t41]] H)) False) (
  Q (.bool true) H)) [[(.int .i64 0)]] H) False) False) False) False) False) False) False) False) False) False) False) False) False) False) False) False) False) False) False
theorem S_conf_numbers_of {x0_0 : Value} {x0_1 : Value} {x0_2 : Value} {x0_3 : Value} {x0_4 : Value} {x0_5 : Value} {x0_6 : Value} {x0_7 : Value} {x0_8 : Value} {H : Heap} {Q : Value → Heap → Prop} (h : S_conf_numbers x0_0 x0_1 x0_2 x0_3 x0_4 x0_5 x0_6 x0_7 x0_8 H Q) : callV Try.prog (fnV fn_conf_numbers) [(.agg #[x0_0, x0_1, x0_2, x0_3, x0_4, x0_5, x0_6, x0_7, x0_8])] H Q :=
  callV_fn (hcalls_of (pv := [1, 3, 5]) (ann := [(12, [70])]) Try.func52 (by kernel_rfl) (Eq.mpr (by kernel_rfl) h))

/-- thimblerig/conf.each -/
def S_conf_each (x0_0 : Value) (x0_1 : Value) (x0_2 : Value) (x0_3 : Value) (x0_4 : Value) (x0_5 : Value) (x0_6 : Value) (x0_7 : Value) (x0_8 : Value) (H : Heap) (Q : Value → Heap → Prop) : Prop :=
  newC 23 [x0_0, x0_1, x0_2, x0_3, x0_4, x0_5, x0_6, x0_7, x0_8] H fun a1 H =>
  Q (.func (.func fn_conf_each_1) #[] #[(.pointer (some ⟨a1, 0, none⟩))]) H
theorem S_conf_each_of {x0_0 : Value} {x0_1 : Value} {x0_2 : Value} {x0_3 : Value} {x0_4 : Value} {x0_5 : Value} {x0_6 : Value} {x0_7 : Value} {x0_8 : Value} {H : Heap} {Q : Value → Heap → Prop} (h : S_conf_each x0_0 x0_1 x0_2 x0_3 x0_4 x0_5 x0_6 x0_7 x0_8 H Q) : callV Try.prog (fnV fn_conf_each) [(.agg #[x0_0, x0_1, x0_2, x0_3, x0_4, x0_5, x0_6, x0_7, x0_8])] H Q :=
  callV_fn (hcalls_of (pv := []) (ann := []) Try.func53 (by kernel_rfl) (Eq.mpr (by kernel_rfl) h))

/-- thimblerig/geo.asked -/
def S_geo_asked (x0 : Value) (x1 : Value) (H : Heap) (Q : Value → Heap → Prop) : Prop :=
  callV Try.prog (fnV fn_geo_Check) [x0] H fun t9 H =>
  binV (.int .i64) .neq t9 (.int .i64 0) fun t11 =>
  asB t11 fun b11 =>
  ifB b11 (
  Q t9 H) (
  lenSl x1 H fun t14 =>
  LoopPT (fun s18 H K18 =>
  binV (.int .i64) .lss (sv s18 0) t14 fun t16 =>
  asB t16 fun b16 =>
  ifB b16 (
  idxS 1 x1 (sv s18 0) fun t17 =>
  loadP false 1 t17 H fun t18 =>
  JoinPT (fun K26 =>
  binV (.int .i64) .lss t18 (.int .i64 0) fun t20 =>
  asB t20 fun b21 =>
  ifB b21 (
  K26 [[(.bool true)]] H) (
  binV (.int .i64) .shl (.int .i64 1) x0 fun t24 =>
  binV (.int .i64) .geq t18 t24 fun t25 =>
  K26 [[t25]] H)) fun s26 H =>
  asB (sv s26 0) fun b26 =>
  ifB b26 (
  Q (.int .i64 2) H) (
  binV (.int .i64) .add (sv s18 0) (.int .i64 1) fun t27 =>
  K18 [[t27]] H)) (
  Q (.int .i64 0) H)) [[(.int .i64 0)]] H)
theorem S_geo_asked_of {x0 : Value} {x1 : Value} {H : Heap} {Q : Value → Heap → Prop} (h : S_geo_asked x0 x1 H Q) : callV Try.prog (fnV fn_geo_asked) [x0, x1] H Q :=
  callV_fn (hcalls_of (pv := []) (ann := [(18, [30]), (26, [52])]) Try.func54 (by kernel_rfl) (Eq.mpr (by kernel_rfl) h))

/-- thimblerig/thimblerigref08.in -/
def S_ref08_in (x0 : Value) (x1 : Value) (x2 : Value) (H : Heap) (Q : Value → Heap → Prop) : Prop :=
  JoinPT (fun K8 =>
  binV (.int .i64) .geq x0 x1 fun t9 =>
  asB t9 fun b10 =>
  ifB b10 (
  binV (.int .i64) .leq x0 x2 fun t13 =>
  K8 [[t13]] H) (
  K8 [[(.bool false)]] H)) fun s8 H =>
  Q (sv s8 0) H
theorem S_ref08_in_of {x0 : Value} {x1 : Value} {x2 : Value} {H : Heap} {Q : Value → Heap → Prop} (h : S_ref08_in x0 x1 x2 H Q) : callV Try.prog (fnV fn_ref08_in) [x0, x1, x2] H Q :=
  callV_fn (hcalls_of (pv := []) (ann := [(8, [12])]) Try.func55 (by kernel_rfl) (Eq.mpr (by kernel_rfl) h))

/-- thimblerig/thimblerigref08.high -/
def S_ref08_high (x0 : Value) (H : Heap) (Q : Value → Heap → Prop) : Prop :=
  LoopPT (fun s9 H K9 =>
  callV Try.prog (fnV fn_ref07_Many) [(sv s9 0)] H fun t5 H =>
  binV (.int .i64) .lss t5 x0 fun t7 =>
  asB t7 fun b7 =>
  ifB b7 (
  binV (.int .i64) .add (sv s9 0) (.int .i64 1) fun t9 =>
  K9 [[t9]] H) (
  Q (sv s9 0) H)) [[(.int .i64 1)]] H
theorem S_ref08_high_of {x0 : Value} {H : Heap} {Q : Value → Heap → Prop} (h : S_ref08_high x0 H Q) : callV Try.prog (fnV fn_ref08_high) [x0] H Q :=
  callV_fn (hcalls_of (pv := []) (ann := [(9, [6])]) Try.func56 (by kernel_rfl) (Eq.mpr (by kernel_rfl) h))

/-- thimblerig/thimblerigref07.Many -/
def S_ref07_Many (x0 : Value) (H : Heap) (Q : Value → Heap → Prop) : Prop :=
  LoopPT (fun s12 H K12 =>
  binV (.int .i64) .lss (sv s12 1) x0 fun t7 =>
  asB t7 fun b7 =>
  ifB b7 (
  binV (.int .i64) .mul (.int .i64 2) (sv s12 0) fun t11 =>
  binV (.int .i64) .add (sv s12 1) (.int .i64 1) fun t9 =>
  K12 [[t11], [t9]] H) (
  Q (sv s12 0) H)) [[(.int .i64 1)], [(.int .i64 0)]] H
theorem S_ref07_Many_of {x0 : Value} {H : Heap} {Q : Value → Heap → Prop} (h : S_ref07_Many x0 H Q) : callV Try.prog (fnV fn_ref07_Many) [x0] H Q :=
  callV_fn (hcalls_of (pv := []) (ann := [(12, [6, 8])]) Try.func57 (by kernel_rfl) (Eq.mpr (by kernel_rfl) h))

/-- thimblerig/geo.down -/
def S_geo_down (x0 : Value) (x1 : Value) (H : Heap) (Q : Value → Heap → Prop) : Prop :=
  ifB (okc x0) (
  newC 3 [x0] H fun a2 H =>
  ifB (okc x1) (
  newC 3 [x1] H fun a3 H =>
  Q (.func (.func fn_geo_down_1) #[] #[(.pointer (some ⟨a2, 0, none⟩)), (.pointer (some ⟨a3, 0, none⟩))]) H) False) False
theorem S_geo_down_of {x0 : Value} {x1 : Value} {H : Heap} {Q : Value → Heap → Prop} (h : S_geo_down x0 x1 H Q) : callV Try.prog (fnV fn_geo_down) [x0, x1] H Q :=
  callV_fn (hcalls_of (pv := []) (ann := []) Try.func67 (by kernel_rfl) (Eq.mpr (by kernel_rfl) h))

/-- thimblerig/geo.Leaves -/
def S_geo_Leaves (x0 : Value) (H : Heap) (Q : Value → Heap → Prop) : Prop :=
  callV Try.prog (fnV fn_geo_asked) [x0, (.slice none 0 0)] H fun t6 H =>
  binV (.int .i64) .neq t6 (.int .i64 0) fun t8 =>
  asB t8 fun b8 =>
  ifB b8 (
  Q (.tuple #[(.int .i64 0), t6]) H) (
  binV (.int .i64) .shl (.int .i64 1) x0 fun t11 =>
  Q (.tuple #[t11, (.int .i64 0)]) H)
theorem S_geo_Leaves_of {x0 : Value} {H : Heap} {Q : Value → Heap → Prop} (h : S_geo_Leaves x0 H Q) : callV Try.prog (fnV fn_geo_Leaves) [x0] H Q :=
  callV_fn (hcalls_of (pv := []) (ann := []) Try.func69 (by kernel_rfl) (Eq.mpr (by kernel_rfl) h))

/-- thimblerig/geo.Reverse$1 -/
def S_geo_Reverse_1 (x0 : Value) (y0 : Value) (y1 : Value) (y2 : Value) (H : Heap) (Q : Value → Heap → Prop) : Prop :=
  loadP false 1 y0 H fun t5 =>
  loadP false 1 y1 H fun t6 =>
  binV (.int .u64) .shr t6 x0 fun t8 =>
  binV (.int .u64) .and t8 (.int .u64 1) fun t9 =>
  cvI .i64 t9 fun t10 =>
  loadP false 1 y2 H fun t11 =>
  binV (.int .i64) .sub t11 (.int .i64 1) fun t12 =>
  binV (.int .i64) .sub t12 x0 fun t14 =>
  binV (.int .i64) .shl t10 t14 fun t15 =>
  binV (.int .i64) .or t5 t15 fun t16 =>
  storeP false 1 y0 t16 H fun H =>
  Q (.tuple #[]) H
theorem S_geo_Reverse_1_of {x0 : Value} {y0 : Value} {y1 : Value} {y2 : Value} {H : Heap} {Q : Value → Heap → Prop} (h : S_geo_Reverse_1 x0 y0 y1 y2 H Q) : callV Try.prog (fnV fn_geo_Reverse_1) [x0, y0, y1, y2] H Q :=
  callV_fn (hcalls_of (pv := []) (ann := []) Try.func70 (by kernel_rfl) (Eq.mpr (by kernel_rfl) h))
theorem C_geo_Reverse_1_of {x0 : Value} {y0 : Value} {y1 : Value} {y2 : Value} {H : Heap} {Q : Value → Heap → Prop} (h : S_geo_Reverse_1 x0 y0 y1 y2 H Q) : callV Try.prog (.func (.func fn_geo_Reverse_1) #[] #[y0, y1, y2]) [x0] H Q :=
  callV_cl (S_geo_Reverse_1_of h)

/-- thimblerig/thimblerigref07.Turned -/
def S_ref07_Turned (x0 : Value) (x1 : Value) (H : Heap) (Q : Value → Heap → Prop) : Prop :=
  callV Try.prog (fnV fn_ref07_Many) [x0] H fun t10 H =>
  cvI .u64 t10 fun t11 =>
  binV (.int .u64) .rem x1 t11 fun t12 =>
  cvI .i64 t12 fun t13 =>
  LoopPT (fun s15 H K15 =>
  binV (.int .i64) .lss (sv s15 2) x0 fun t16 =>
  asB t16 fun b16 =>
  ifB b16 (
  binV (.int .i64) .mul (.int .i64 2) (sv s15 1) fun t20 =>
  binV (.int .i64) .rem (sv s15 0) (.int .i64 2) fun t22 =>
  binV (.int .i64) .add t20 t22 fun t23 =>
  binV (.int .i64) .quo (sv s15 0) (.int .i64 2) fun t25 =>
  binV (.int .i64) .add (sv s15 2) (.int .i64 1) fun t18 =>
  K15 [[t25], [t23], [t18]] H) (
  Q (sv s15 1) H)) [[t13], [(.int .i64 0)], [(.int .i64 0)]] H
theorem S_ref07_Turned_of {x0 : Value} {x1 : Value} {H : Heap} {Q : Value → Heap → Prop} (h : S_ref07_Turned x0 x1 H Q) : callV Try.prog (fnV fn_ref07_Turned) [x0, x1] H Q :=
  callV_fn (hcalls_of (pv := []) (ann := [(15, [10, 12, 14])]) Try.func73 (by kernel_rfl) (Eq.mpr (by kernel_rfl) h))

/-- thimblerig/thimblerigref07.Way -/
def S_ref07_Way (x0 : Value) (x1 : Value) (H : Heap) (Q : Value → Heap → Prop) : Prop :=
  callV Try.prog (fnV fn_ref07_Many) [x0] H fun t10 H =>
  binV (.int .i64) .add t10 x1 fun t12 =>
  LoopPT (fun s12 H K12 =>
  binV (.int .i64) .geq (sv s12 1) (.int .i64 1) fun t14 =>
  asB t14 fun b14 =>
  ifB b14 (
  bldS 3 1 false (zeroL Try.prog 3) 1 [(0, (sv s12 1))] H fun t19 H =>
  appS 3 1 8 (zeroL Try.prog 3) (sv s12 0) t19 H fun t20 H =>
  binV (.int .i64) .quo (sv s12 1) (.int .i64 2) fun t16 =>
  K12 [[t20], [t16]] H) (
  lenSl (sv s12 0) H fun t22 =>
  binV (.int .i64) .sub t22 (.int .i64 1) fun t23 =>
  LoopPT (fun s27 H K27 =>
  binV (.int .i64) .geq (sv s27 1) (.int .i64 0) fun t25 =>
  asB t25 fun b25 =>
  ifB b25 (
  idxS 1 (sv s12 0) (sv s27 1) fun t31 =>
  loadP false 1 t31 H fun t32 =>
  bldS 3 1 false (zeroL Try.prog 3) 1 [(0, t32)] H fun t33 H =>
  appS 3 1 8 (zeroL Try.prog 3) (sv s27 0) t33 H fun t34 H =>
  binV (.int .i64) .sub (sv s27 1) (.int .i64 1) fun t27 =>
  K27 [[t34], [t27]] H) (
  Q (sv s27 0) H)) [[(.slice none 0 0)], [t23]] H)) [[(.slice none 0 0)], [t12]] H
theorem S_ref07_Way_of {x0 : Value} {x1 : Value} {H : Heap} {Q : Value → Heap → Prop} (h : S_ref07_Way x0 x1 H Q) : callV Try.prog (fnV fn_ref07_Way) [x0, x1] H Q :=
  callV_fn (hcalls_of (pv := []) (ann := [(12, [10, 12]), (27, [14, 16])]) Try.func74 (by kernel_rfl) (Eq.mpr (by kernel_rfl) h))

/-- (thimblerig/conf.span[int]).in -/
def S_conf_span_int_in (x0_0 : Value) (x0_1 : Value) (x0_2 : Value) (H : Heap) (Q : Value → Heap → Prop) : Prop :=
  newT H fun H =>
  JoinPT (fun K8 =>
  binV (.int .i64) .geq x0_0 x0_1 fun t7 =>
  asB t7 fun b8 =>
  ifB b8 (
  binV (.int .i64) .leq x0_0 x0_2 fun t13 =>
  K8 [[t13]] H) (
  K8 [[(.bool false)]] H)) fun s8 H =>
  Q (sv s8 0) H
theorem S_conf_span_int_in_of {x0_0 : Value} {x0_1 : Value} {x0_2 : Value} {H : Heap} {Q : Value → Heap → Prop} (h : S_conf_span_int_in x0_0 x0_1 x0_2 H Q) : callV Try.prog (fnV fn_conf_span_int_in) [(.agg #[x0_0, x0_1, x0_2])] H Q :=
  callV_fn (hcalls_of (pv := [1]) (ann := [(8, [4])]) Try.func75 (by kernel_rfl) (Eq.mpr (by kernel_rfl) h))

/-- thimblerig/conf.each$1 -/
def S_conf_each_1 (x0 : Value) (y0 : Value) (H : Heap) (Q : Value → Heap → Prop) : Prop :=
  loadP true 9 y0 H fun t4 =>
  fldP 0 y0 fun t5 =>
  loadP false 1 t5 H fun t6 =>
  fldP 1 y0 fun t7 =>
  loadP false 1 t7 H fun t8 =>
  callV Try.prog (fnV fn_conf_level) [t4, t6, t8] H fun t9 H =>
  newT H fun H =>
  cellsV true 4 t9 fun c1 =>
  LoopPT (fun s6 H K6 =>
  JoinPT (fun K8 =>
  ifB (decide (0 + 4 ≤ ((sc s6 0)).length)) (
  callV Try.prog x0 [(.agg (seg (sc s6 0) 0 4).toArray)] H fun t12 H =>
  asB t12 fun b13 =>
  ifB b13 (
  ifB (decide (0 + 1 ≤ ((sc s6 0)).length)) (
  fldP 8 y0 fun t16 =>
  loadP false 1 t16 H fun t17 =>
  binV (.int .i64) .gtr (mkV false (seg (sc s6 0) 0 1)) t17 fun t18 =>
  K8 [[t18]] H) False) (
  K8 [[(.bool false)]] H)) False) fun s8 H =>
  asB (sv s8 0) fun b19 =>
  ifB b19 (
  loadP true 9 y0 H fun t20 =>
  ifB (decide (0 + 1 ≤ ((sc s6 0)).length)) (
  fldP 2 y0 fun t23 =>
  loadP false 1 t23 H fun t24 =>
  binV (.int .i64) .add (mkV false (seg (sc s6 0) 0 1)) t24 fun t25 =>
  binV (.int .i64) .sub t25 (.int .i64 1) fun t26 =>
  fldP 2 y0 fun t27 =>
  loadP false 1 t27 H fun t28 =>
  binV (.int .i64) .quo t26 t28 fun t29 =>
  fldP 2 y0 fun t30 =>
  loadP false 1 t30 H fun t31 =>
  binV (.int .i64) .mul (.int .i64 4) t31 fun t32 =>
  callV Try.prog (fnV fn_conf_level) [t20, t29, t32] H fun t33 H =>
  (loadP false 1 t30 H fun u31 =>
  u31 = t31) ∧
  (loadP false 1 t27 H fun u28 =>
  u28 = t28) ∧
  (loadP false 1 t23 H fun u24 =>
  u24 = t24) ∧
  (cellsV true 4 t33 fun c2 =>
  ifB (decide (0 + 4 ≤ ((sc s6 0)).length)) (
  K6 [(setSeg (sc s6 0) 0 c2)] H) False)) False) (
  Q (.tuple #[]) H)) [(setSeg [(.int .i64 0), (.int .i64 0), (.int .i64 0), (.int .i64 0)] 0 c1)] H
theorem S_conf_each_1_of {x0 : Value} {y0 : Value} {H : Heap} {Q : Value → Heap → Prop} (h : S_conf_each_1 x0 y0 H Q) : callV Try.prog (fnV fn_conf_each_1) [x0, y0] H Q :=
  callV_fn (hcalls_of (pv := [3]) (ann := [(6, [7]), (8, [38])]) Try.func76 (by kernel_rfl) (Eq.mpr (by kernel_rfl) h))
theorem C_conf_each_1_of {x0 : Value} {y0 : Value} {H : Heap} {Q : Value → Heap → Prop} (h : S_conf_each_1 x0 y0 H Q) : callV Try.prog (.func (.func fn_conf_each_1) #[] #[y0]) [x0] H Q :=
  callV_cl (S_conf_each_1_of h)

/-- thimblerig/conf.level -/
def S_conf_level (x0_0 : Value) (x0_1 : Value) (x0_2 : Value) (x0_3 : Value) (x0_4 : Value) (x0_5 : Value) (x0_6 : Value) (x0_7 : Value) (x0_8 : Value) (x1 : Value) (x2 : Value) (H : Heap) (Q : Value → Heap → Prop) : Prop :=
  newT H fun H =>
  newT H fun H =>
  callV Try.prog (fnV fn_geo_Leaves) [(.int .i64 1)] H fun t12 H =>
  extractV 0 t12 fun t13 =>
  extractV 1 t12 fun t14 =>
  LoopPT (fun s12 H K12 =>
  JoinPT (fun K14 =>
  binV (.int .i64) .eql (sv s12 2) (.int .i64 0) fun t16 =>
  asB t16 fun b17 =>
  ifB b17 (
  binV (.int .i64) .lss (sv s12 1) x1 fun t20 =>
  K14 [[t20]] H) (
  K14 [[(.bool false)]] H)) fun s14 H =>
  asB (sv s14 0) fun b21 =>
  ifB b21 (
  binV (.int .i64) .add (sv s12 0) (.int .i64 1) fun t28 =>
  callV Try.prog (fnV fn_geo_Leaves) [t28] H fun t24 H =>
  extractV 0 t24 fun t25 =>
  extractV 1 t24 fun t26 =>
  K12 [[t28], [t25], [t26]] H) (
  binV (.int .i64) .add (.int .i64 8) x2 fun t35 =>
  binV (.int .i64) .mul x0_3 t35 fun t36 =>
  binV (.int .i64) .add t36 (.int .i64 64) fun t37 =>
  ifB (okc x1) (
  ifB (okc x2) (
  ifB (okc (sv s12 0)) (
  ifB (okc t37) (
  ifB ([x1, x2, (sv s12 0), t37].all okc) (
  Q (.agg #[x1, x2, (sv s12 0), t37]) H) False) False) False) False) False)) [[(.int .i64 1)], [t13], [t14]] H
theorem S_conf_level_of {x0_0 : Value} {x0_1 : Value} {x0_2 : Value} {x0_3 : Value} {x0_4 : Value} {x0_5 : Value} {x0_6 : Value} {x0_7 : Value} {x0_8 : Value} {x1 : Value} {x2 : Value} {H : Heap} {Q : Value → Heap → Prop} (h : S_conf_level x0_0 x0_1 x0_2 x0_3 x0_4 x0_5 x0_6 x0_7 x0_8 x1 x2 H Q) : callV Try.prog (fnV fn_conf_level) [(.agg #[x0_0, x0_1, x0_2, x0_3, x0_4, x0_5, x0_6, x0_7, x0_8]), x1, x2] H Q :=
  callV_fn (hcalls_of (pv := [3, 6]) (ann := [(12, [14, 16, 18]), (14, [42])]) Try.func77 (by kernel_rfl) (Eq.mpr (by kernel_rfl) h))

/-- thimblerig/geo.Check -/
def S_geo_Check (x0 : Value) (H : Heap) (Q : Value → Heap → Prop) : Prop :=
  JoinPT (fun K8 =>
  binV (.int .i64) .lss x0 (.int .i64 1) fun t4 =>
  asB t4 fun b5 =>
  ifB b5 (
  K8 [[(.bool true)]] H) (
  binV (.int .i64) .gtr x0 (.int .i64 6) fun t7 =>
  K8 [[t7]] H)) fun s8 H =>
  asB (sv s8 0) fun b8 =>
  ifB b8 (
  Q (.int .i64 2) H) (
  Q (.int .i64 0) H)
theorem S_geo_Check_of {x0 : Value} {H : Heap} {Q : Value → Heap → Prop} (h : S_geo_Check x0 H Q) : callV Try.prog (fnV fn_geo_Check) [x0] H Q :=
  callV_fn (hcalls_of (pv := []) (ann := [(8, [16])]) Try.func78 (by kernel_rfl) (Eq.mpr (by kernel_rfl) h))

/-- thimblerig/geo.down$1 -/
def S_geo_down_1 (x0 : Value) (y0 : Value) (y1 : Value) (H : Heap) (Q : Value → Heap → Prop) : Prop :=
  LoopPT (fun s6 H K6 =>
  JoinPT (fun K8 =>
  loadP false 1 y0 H fun t6 =>
  binV (.int .i64) .leq (sv s6 0) t6 fun t7 =>
  asB t7 fun b8 =>
  ifB b8 (
  loadP false 1 y0 H fun t11 =>
  binV (.int .i64) .shl (.int .i64 1) t11 fun t12 =>
  loadP false 1 y1 H fun t13 =>
  binV (.int .i64) .or t12 t13 fun t14 =>
  loadP false 1 y0 H fun t15 =>
  binV (.int .i64) .sub t15 (sv s6 0) fun t17 =>
  binV (.int .i64) .shr t14 t17 fun t18 =>
  callV Try.prog x0 [(sv s6 0), t18] H fun t19 H =>
  (loadP false 1 y0 H fun u15 =>
  u15 = t15) ∧
  (loadP false 1 y1 H fun u13 =>
  u13 = t13) ∧
  (loadP false 1 y0 H fun u11 =>
  u11 = t11) ∧
  (loadP false 1 y0 H fun u6 =>
  u6 = t6) ∧
  (K8 [[t19]] H)) (
  (loadP false 1 y0 H fun u6 =>
  u6 = t6) ∧
  (K8 [[(.bool false)]] H))) fun s8 H =>
  asB (sv s8 0) fun b20 =>
  ifB b20 (
  binV (.int .i64) .add (sv s6 0) (.int .i64 1) fun t22 =>
  K6 [[t22]] H) (
  Q (.tuple #[]) H)) [[(.int .i64 0)]] H
theorem S_geo_down_1_of {x0 : Value} {y0 : Value} {y1 : Value} {H : Heap} {Q : Value → Heap → Prop} (h : S_geo_down_1 x0 y0 y1 H Q) : callV Try.prog (fnV fn_geo_down_1) [x0, y0, y1] H Q :=
  callV_fn (hcalls_of (pv := []) (ann := [(6, [8]), (8, [40])]) Try.func87 (by kernel_rfl) (Eq.mpr (by kernel_rfl) h))
theorem C_geo_down_1_of {x0 : Value} {y0 : Value} {y1 : Value} {H : Heap} {Q : Value → Heap → Prop} (h : S_geo_down_1 x0 y0 y1 H Q) : callV Try.prog (.func (.func fn_geo_down_1) #[] #[y0, y1]) [x0] H Q :=
  callV_cl (S_geo_down_1_of h)

end Go.Proofs.Ytlalkgkicccjiaa
