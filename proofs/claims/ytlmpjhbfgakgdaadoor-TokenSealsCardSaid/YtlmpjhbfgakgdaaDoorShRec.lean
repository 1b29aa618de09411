/- Written by sh.py: what functions do, out of the deep reading; each is joined to the program by the kernel. -/
import Derived.Test.YtlmpjhbfgakgdaaDoorShNames
namespace Go.Proofs.YtlmpjhbfgakgdaaDoor
open Go.Ab
set_option linter.unusedVariables false
set_option linter.unusedSimpArgs false
set_option maxRecDepth 100000

/-- thimblerig/thimbleriglaw28.TokenSeals -/
def S_law28_TokenSeals (x0_0 : Value) (x0_1 : Value) (x0_2 : Value) (x0_3 : Value) (x0_4 : Value) (x0_5 : Value) (x0_6 : Value) (x0_7 : Value) (x0_8 : Value) (x1 : List Value) (x2_0 : Value) (x2_1 : Value) (x2_2 : Value) (x2_3 : Value) (H : Heap) (Q : Value → Heap → Prop) : Prop :=
  newT H fun H =>
  cellsU true 32 (.agg x1.toArray) fun c1 =>
  newT H fun H =>
  newT H fun H =>
  callV Tryd.prog (fnV fn_ref20_Great) [(.agg #[x2_0, x2_1, x2_2, x2_3]), (.agg #[(.slice none 0 0)])] H fun t18 H =>
  asB t18 fun b18 =>
  ifB b18 (
  Q (.bool true) H) (
  callV Tryd.prog (fnV fn_ref20_TwinStore) [(.agg #[x2_0, x2_1, x2_2, x2_3])] H fun t20 H =>
  newT H fun H =>
  cellsV true 4 t20 fun c2 =>
  callV Tryd.prog (fnV fn_token_Size) [(.agg #[x0_0, x0_1, x0_2, x0_3, x0_4, x0_5, x0_6, x0_7, x0_8])] H fun t23 H =>
  extractV 0 t23 fun t24 =>
  extractV 1 t23 fun t25 =>
  callV Tryd.prog (fnV fn_ref28_Size) [(.agg #[x0_0, x0_1, x0_2, x0_3, x0_4, x0_5, x0_6, x0_7, x0_8])] H fun t28 H =>
  extractV 0 t28 fun t29 =>
  extractV 1 t28 fun t30 =>
  ifB (decide (0 + 32 ≤ (c1).length)) (
  ifB (decide (0 + 4 ≤ ((setSeg [(.slice none 0 0), (.slice none 0 0), (.int .u64 0), (.int .u64 0)] 0 c2)).length)) (
  callV Tryd.prog (fnV fn_token_Seal) [(.agg #[x0_0, x0_1, x0_2, x0_3, x0_4, x0_5, x0_6, x0_7, x0_8]), (.agg (seg c1 0 32).toArray), (.agg (seg (setSeg [(.slice none 0 0), (.slice none 0 0), (.int .u64 0), (.int .u64 0)] 0 c2) 0 4).toArray)] H fun t35 H =>
  extractV 0 t35 fun t36 =>
  extractV 1 t35 fun t37 =>
  ifB (decide (0 + 32 ≤ (c1).length)) (
  callV Tryd.prog (fnV fn_ref28_Seal) [(.agg #[x0_0, x0_1, x0_2, x0_3, x0_4, x0_5, x0_6, x0_7, x0_8]), (.agg (seg c1 0 32).toArray), (.agg #[x2_0, x2_1, x2_2, x2_3])] H fun t42 H =>
  extractV 0 t42 fun t43 =>
  extractV 1 t42 fun t44 =>
  JoinPT (fun K29 =>
  binV (.int .i64) .eql t24 t29 fun t47 =>
  asB t47 fun b48 =>
  ifB b48 (
  binV (.int .i64) .eql t25 t30 fun t51 =>
  asB t51 fun b53 =>
  ifB b53 (
  callV Tryd.prog (fnV fn_ref01_Same) [t36, t43] H fun t56 H =>
  asB t56 fun b58 =>
  ifB b58 (
  binV (.int .i64) .eql t37 t44 fun t61 =>
  asB t61 fun b63 =>
  ifB b63 (
  ifB (decide (0 + 4 ≤ ((setSeg [(.slice none 0 0), (.slice none 0 0), (.int .u64 0), (.int .u64 0)] 0 c2)).length)) (
  callV Tryd.prog (fnV fn_ref20_SameStore) [(.agg (seg (setSeg [(.slice none 0 0), (.slice none 0 0), (.int .u64 0), (.int .u64 0)] 0 c2) 0 4).toArray), (.agg #[x2_0, x2_1, x2_2, x2_3])] H fun t66 H =>
  K29 [[t66]] H) False) (
  K29 [[(.bool false)]] H)) (
  K29 [[(.bool false)]] H)) (
  K29 [[(.bool false)]] H)) (
  K29 [[(.bool false)]] H)) fun s29 H =>
  Q (sv s29 0) H) False) False) False)
theorem S_law28_TokenSeals_of {x0_0 : Value} {x0_1 : Value} {x0_2 : Value} {x0_3 : Value} {x0_4 : Value} {x0_5 : Value} {x0_6 : Value} {x0_7 : Value} {x0_8 : Value} {x1 : List Value} {x2_0 : Value} {x2_1 : Value} {x2_2 : Value} {x2_3 : Value} {H : Heap} {Q : Value → Heap → Prop} (h : S_law28_TokenSeals x0_0 x0_1 x0_2 x0_3 x0_4 x0_5 x0_6 x0_7 x0_8 x1 x2_0 x2_1 x2_2 x2_3 H Q) : callV Tryd.prog (fnV fn_law28_TokenSeals) [(.agg #[x0_0, x0_1, x0_2, x0_3, x0_4, x0_5, x0_6, x0_7, x0_8]), (.agg x1.toArray), (.agg #[x2_0, x2_1, x2_2, x2_3])] H Q :=
  callV_fn (hcalls_of (pv := [3, 4, 5, 7]) (ann := [(29, [12])]) Tryd.func3 (by kernel_rfl) (Eq.mpr (by kernel_rfl) h))

/-- thimblerig/thimblerigref20.Great -/
def S_ref20_Great (x0_0 : Value) (x0_1 : Value) (x0_2 : Value) (x0_3 : Value) (x1_0 : Value) (H : Heap) (Q : Value → Heap → Prop) : Prop :=
  newT H fun H =>
  newT H fun H =>
  LoopPT (fun s12 H K12 =>
  JoinPT (fun K14 =>
  lenSl x0_0 H fun t11 =>
  binV (.int .i64) .lss (sv s12 1) t11 fun t12 =>
  asB t12 fun b13 =>
  ifB b13 (
  binV (.int .i64) .lss (sv s12 1) (.int .i64 10) fun t15 =>
  K14 [[t15]] H) (
  K14 [[(.bool false)]] H)) fun s14 H =>
  asB (sv s14 0) fun b16 =>
  ifB b16 (
  idxS 33 x0_0 (sv s12 1) fun t23 =>
  fldP 32 t23 fun t24 =>
  loadP false 1 t24 H fun t25 =>
  lenSl t25 H fun t26 =>
  minV t26 (.int .i64 1000) fun t27 =>
  binV (.int .i64) .add (sv s12 0) t27 fun t28 =>
  LoopPT (fun s24 H K24 =>
  JoinPT (fun K26 =>
  idxS 33 x0_0 (sv s12 1) fun t33 =>
  fldP 32 t33 fun t34 =>
  loadP false 1 t34 H fun t35 =>
  lenSl t35 H fun t36 =>
  binV (.int .i64) .lss (sv s24 0) t36 fun t37 =>
  asB t37 fun b38 =>
  ifB b38 (
  binV (.int .i64) .lss (sv s24 0) (.int .i64 200) fun t40 =>
  K26 [[t40]] H) (
  K26 [[(.bool false)]] H)) fun s26 H =>
  asB (sv s26 0) fun b41 =>
  ifB b41 (
  idxS 33 x0_0 (sv s12 1) fun t47 =>
  fldP 32 t47 fun t48 =>
  loadP false 1 t48 H fun t49 =>
  idxS 3 t49 (sv s24 0) fun t51 =>
  fldP 2 t51 fun t52 =>
  loadP false 1 t52 H fun t53 =>
  lenSl t53 H fun t54 =>
  binV (.int .i64) .gtr t54 (.int .i64 100) fun t55 =>
  asB t55 fun b55 =>
  ifB b55 (
  Q (.bool true) H) (
  binV (.int .i64) .add (sv s24 0) (.int .i64 1) fun t43 =>
  K24 [[t43]] H)) (
  binV (.int .i64) .add (sv s12 1) (.int .i64 1) fun t18 =>
  K12 [[t28], [t18]] H)) [[(.int .i64 0)]] H) (
  JoinPT (fun K38 =>
  lenSl x0_0 H fun t58 =>
  binV (.int .i64) .gtr t58 (.int .i64 6) fun t59 =>
  asB t59 fun b60 =>
  ifB b60 (
  K38 [[(.bool true)]] H) (
  binV (.int .i64) .gtr (sv s12 0) (.int .i64 60) fun t62 =>
  asB t62 fun b64 =>
  ifB b64 (
  K38 [[(.bool true)]] H) (
  lenSl x0_1 H fun t67 =>
  binV (.int .i64) .gtr t67 (.int .i64 100) fun t68 =>
  asB t68 fun b70 =>
  ifB b70 (
  K38 [[(.bool true)]] H) (
  callV Tryd.prog (fnV fn_ref12_Great) [(.agg #[x1_0])] H fun t72 H =>
  K38 [[t72]] H)))) fun s38 H =>
  Q (sv s38 0) H)) [[(.int .i64 0)], [(.int .i64 0)]] H
theorem S_ref20_Great_of {x0_0 : Value} {x0_1 : Value} {x0_2 : Value} {x0_3 : Value} {x1_0 : Value} {H : Heap} {Q : Value → Heap → Prop} (h : S_ref20_Great x0_0 x0_1 x0_2 x0_3 x1_0 H Q) : callV Tryd.prog (fnV fn_ref20_Great) [(.agg #[x0_0, x0_1, x0_2, x0_3]), (.agg #[x1_0])] H Q :=
  callV_fn (hcalls_of (pv := [2, 3]) (ann := [(12, [10, 12]), (14, [32]), (24, [14]), (26, [82]), (38, [8])]) Tryd.func4 (by kernel_rfl) (Eq.mpr (by kernel_rfl) h))

/-- thimblerig/thimblerigref20.TwinStore -/
def S_ref20_TwinStore (x0_0 : Value) (x0_1 : Value) (x0_2 : Value) (x0_3 : Value) (H : Heap) (Q : Value → Heap → Prop) : Prop :=
  newT H fun H =>
  newT H fun H =>
  JoinPT (fun K8 =>
  (bldS 3 1 false (zeroL Tryd.prog 3) 0 [] H fun t5 H =>
  (appS 3 1 8 (zeroL Tryd.prog 3) t5 x0_1 H fun t8 H =>
  ifB (okc t8) (
  ifB (okc x0_2) (
  ifB (okc x0_3) (
  newT H fun H =>
  ifB ([(.slice none 0 0), t8, x0_2, x0_3].all okc) (
  K8 [[(.slice none 0 0), t8, x0_2, x0_3]] H) False) False) False) False) ∧
  (newT H fun H =>
  appS 3 1 8 (zeroL Tryd.prog 3) t5 x0_1 H fun t8 H =>
  ifB (okc t8) (
  ifB (okc x0_2) (
  ifB (okc x0_3) (
  ifB ([(.slice none 0 0), t8, x0_2, x0_3].all okc) (
  K8 [[(.slice none 0 0), t8, x0_2, x0_3]] H) False) False) False) False)) ∧
  (newT H fun H =>
  bldS 3 1 false (zeroL Tryd.prog 3) 0 [] H fun t5 H =>
  appS 3 1 8 (zeroL Tryd.prog 3) t5 x0_1 H fun t8 H =>
  ifB (okc t8) (
  ifB (okc x0_2) (
  ifB (okc x0_3) (
  ifB ([(.slice none 0 0), t8, x0_2, x0_3].all okc) (
  K8 [[(.slice none 0 0), t8, x0_2, x0_3]] H) False) False) False) False)) fun s8 H =>
  LoopPT (fun s12 H K12 =>
  lenSl x0_0 H fun t17 =>
  binV (.int .i64) .lss (sv s12 1) t17 fun t18 =>
  asB t18 fun b18 =>
  ifB b18 (
  ifB (decide (0 + 1 ≤ ((sc s12 0)).length)) (
  idxS 33 x0_0 (sv s12 1) fun t26 =>
  loadP true 33 t26 H fun t27 =>
  callV Tryd.prog (fnV fn_ref18_TwinOram) [t27] H fun t28 H =>
  bldS 52 33 true (zeroL Tryd.prog 52) 1 [(0, t28)] H fun t29 H =>
  appS 52 33 56 (zeroL Tryd.prog 52) (mkV false (seg (sc s12 0) 0 1)) t29 H fun t30 H =>
  ifB (okc t30) (
  ifB (decide (0 + 1 ≤ ((sc s12 0)).length)) (
  binV (.int .i64) .add (sv s12 1) (.int .i64 1) fun t20 =>
  K12 [(setSeg (sc s12 0) 0 [t30]), [t20]] H) False) False) False) (
  ifB (decide (0 + 4 ≤ ((sc s12 0)).length)) (
  cellsV true 4 (.agg (seg (sc s12 0) 0 4).toArray) fun c1 =>
  ifB (decide (0 + 4 ≤ ((setSeg [(.slice none 0 0), (.slice none 0 0), (.int .u64 0), (.int .u64 0)] 0 c1)).length)) (
  Q (.agg (seg (setSeg [(.slice none 0 0), (.slice none 0 0), (.int .u64 0), (.int .u64 0)] 0 c1) 0 4).toArray) H) False) False)) [(sc s8 0), [(.int .i64 0)]] H
theorem S_ref20_TwinStore_of {x0_0 : Value} {x0_1 : Value} {x0_2 : Value} {x0_3 : Value} {H : Heap} {Q : Value → Heap → Prop} (h : S_ref20_TwinStore x0_0 x0_1 x0_2 x0_3 H Q) : callV Tryd.prog (fnV fn_ref20_TwinStore) [(.agg #[x0_0, x0_1, x0_2, x0_3])] H Q :=
  callV_fn (hcalls_of (pv := [1, 2, 3]) (ann := [(8, [7]), (12, [7, 8])]) Tryd.func5 (by kernel_rfl) (Eq.mpr (by kernel_rfl) h))

/-- thimblerig/token.Size -/
def S_token_Size (x0_0 : Value) (x0_1 : Value) (x0_2 : Value) (x0_3 : Value) (x0_4 : Value) (x0_5 : Value) (x0_6 : Value) (x0_7 : Value) (x0_8 : Value) (H : Heap) (Q : Value → Heap → Prop) : Prop :=
  newT H fun H =>
  callV Tryd.prog (fnV fn_conf_Levels) [(.agg #[x0_0, x0_1, x0_2, x0_3, x0_4, x0_5, x0_6, x0_7, x0_8])] H fun t9 H =>
  extractV 0 t9 fun t10 =>
  extractV 1 t9 fun t11 =>
  binV (.int .i64) .neq t11 (.int .i64 0) fun t13 =>
  asB t13 fun b13 =>
  ifB b13 (
  Q (.tuple #[(.int .i64 0), t11]) H) (
  lenSl t10 H fun t16 =>
  LoopPT (fun s18 H K18 =>
  binV (.int .i64) .lss (sv s18 1) t16 fun t18 =>
  asB t18 fun b18 =>
  ifB b18 (
  idxS 4 t10 (sv s18 1) fun t19 =>
  loadP true 4 t19 H fun t20 =>
  newT H fun H =>
  cellsV true 4 t20 fun c1 =>
  ifB (decide (1 + 1 ≤ ((setSeg [(.int .i64 0), (.int .i64 0), (.int .i64 0), (.int .i64 0)] 0 c1)).length)) (
  binV (.int .i64) .add (.int .i64 8) (mkV false (seg (setSeg [(.int .i64 0), (.int .i64 0), (.int .i64 0), (.int .i64 0)] 0 c1) 1 1)) fun t26 =>
  binV (.int .i64) .mul x0_4 t26 fun t27 =>
  binV (.int .i64) .add (.int .i64 32) t27 fun t28 =>
  binV (.int .i64) .add (sv s18 0) t28 fun t29 =>
  binV (.int .i64) .add (sv s18 1) (.int .i64 1) fun t30 =>
  K18 [[t29], [t30]] H) False) (
  lenSl t10 H fun t34 =>
  binV (.int .i64) .sub t34 (.int .i64 1) fun t35 =>
  idxS 4 t10 t35 fun t36 =>
  fldP 0 t36 fun t37 =>
  loadP false 1 t37 H fun t38 =>
  binV (.int .i64) .mul (.int .i64 4) t38 fun t39 =>
  binV (.int .i64) .add (sv s18 0) t39 fun t40 =>
  binV (.int .i64) .add t40 (.int .i64 32) fun t41 =>
  Q (.tuple #[t41, (.int .i64 0)]) H)) [[(.int .i64 0)], [(.int .i64 0)]] H)
theorem S_token_Size_of {x0_0 : Value} {x0_1 : Value} {x0_2 : Value} {x0_3 : Value} {x0_4 : Value} {x0_5 : Value} {x0_6 : Value} {x0_7 : Value} {x0_8 : Value} {H : Heap} {Q : Value → Heap → Prop} (h : S_token_Size x0_0 x0_1 x0_2 x0_3 x0_4 x0_5 x0_6 x0_7 x0_8 H Q) : callV Tryd.prog (fnV fn_token_Size) [(.agg #[x0_0, x0_1, x0_2, x0_3, x0_4, x0_5, x0_6, x0_7, x0_8])] H Q :=
  callV_fn (hcalls_of (pv := [1, 6]) (ann := [(18, [4, 34])]) Tryd.func6 (by kernel_rfl) (Eq.mpr (by kernel_rfl) h))

/-- thimblerig/thimblerigref28.Size -/
def S_ref28_Size (x0_0 : Value) (x0_1 : Value) (x0_2 : Value) (x0_3 : Value) (x0_4 : Value) (x0_5 : Value) (x0_6 : Value) (x0_7 : Value) (x0_8 : Value) (H : Heap) (Q : Value → Heap → Prop) : Prop :=
  newT H fun H =>
  callV Tryd.prog (fnV fn_ref08_May) [(.agg #[x0_0, x0_1, x0_2, x0_3, x0_4, x0_5, x0_6, x0_7, x0_8])] H fun t5 H =>
  unV .not t5 fun t6 =>
  asB t6 fun b6 =>
  ifB b6 (
  Q (.tuple #[(.int .i64 0), (.int .i64 8)]) H) (
  callV Tryd.prog (fnV fn_ref28_Many) [(.agg #[x0_0, x0_1, x0_2, x0_3, x0_4, x0_5, x0_6, x0_7, x0_8])] H fun t8 H =>
  Q (.tuple #[t8, (.int .i64 0)]) H)
theorem S_ref28_Size_of {x0_0 : Value} {x0_1 : Value} {x0_2 : Value} {x0_3 : Value} {x0_4 : Value} {x0_5 : Value} {x0_6 : Value} {x0_7 : Value} {x0_8 : Value} {H : Heap} {Q : Value → Heap → Prop} (h : S_ref28_Size x0_0 x0_1 x0_2 x0_3 x0_4 x0_5 x0_6 x0_7 x0_8 H Q) : callV Tryd.prog (fnV fn_ref28_Size) [(.agg #[x0_0, x0_1, x0_2, x0_3, x0_4, x0_5, x0_6, x0_7, x0_8])] H Q :=
  callV_fn (hcalls_of (pv := [1]) (ann := []) Tryd.func7 (by kernel_rfl) (Eq.mpr (by kernel_rfl) h))

/-- thimblerig/token.Seal -/
def S_token_Seal (x0_0 : Value) (x0_1 : Value) (x0_2 : Value) (x0_3 : Value) (x0_4 : Value) (x0_5 : Value) (x0_6 : Value) (x0_7 : Value) (x0_8 : Value) (x1 : List Value) (x2_0 : Value) (x2_1 : Value) (x2_2 : Value) (x2_3 : Value) (H : Heap) (Q : Value → Heap → Prop) : Prop :=
  newC 23 [x0_0, x0_1, x0_2, x0_3, x0_4, x0_5, x0_6, x0_7, x0_8] H fun a3 H =>
  cellsU true 32 (.agg x1.toArray) fun c1 =>
  newC 25 c1 H fun a4 H =>
  newT H fun H =>
  loadP true 9 (.pointer (some ⟨a3, 0, none⟩)) H fun t25 =>
  callV Tryd.prog (fnV fn_rec_Check) [t25, (.agg #[x2_0, x2_1, x2_2, x2_3])] H fun t27 H =>
  binV (.int .i64) .neq t27 (.int .i64 0) fun t29 =>
  asB t29 fun b29 =>
  ifB b29 (
  Q (.tuple #[(.slice none 0 0), t27]) H) (
  callV Tryd.prog (fnV fn_slices_ContainsFunc_api_Oram_api_Oram) [x2_0, (.func (.func fn_token_Seal_1) #[] #[(.pointer (some ⟨a3, 0, none⟩))])] H fun t34 H =>
  asB t34 fun b34 =>
  ifB b34 (
  Q (.tuple #[(.slice none 0 0), (.int .i64 4)]) H) (
  loadP true 9 (.pointer (some ⟨a3, 0, none⟩)) H fun t36 =>
  callV Tryd.prog (fnV fn_conf_Levels) [t36] H fun t37 H =>
  extractV 0 t37 fun t38 =>
  extractV 1 t37 fun t39 =>
  lenSl x2_0 H fun t42 =>
  LoopPT (fun s30 H K30 =>
  binV (.int .i64) .lss (sv s30 1) t42 fun t44 =>
  asB t44 fun b44 =>
  ifB b44 (
  idxS 33 x2_0 (sv s30 1) fun t46 =>
  loadP true 33 t46 H fun t47 =>
  newC 52 (zeroL Tryd.prog 52) H fun a13 H =>
  storeP true 33 (.pointer (some ⟨a13, 0, none⟩)) t47 H fun H =>
  fldP 0 (.pointer (some ⟨a13, 0, none⟩)) fun t49 =>
  slA 32 1 t49 none none none fun t50 =>
  appS 5 1 1 (zeroL Tryd.prog 5) (sv s30 0) t50 H fun t51 H =>
  fldP 32 (.pointer (some ⟨a13, 0, none⟩)) fun t52 =>
  loadP false 1 t52 H fun t53 =>
  lenSl t53 H fun t54 =>
  LoopPT (fun s42 H K42 =>
  binV (.int .i64) .lss (sv s42 1) t54 fun t56 =>
  asB t56 fun b56 =>
  ifB b56 (
  idxS 3 t53 (sv s42 1) fun t57 =>
  loadP true 3 t57 H fun t58 =>
  newT H fun H =>
  cellsV true 3 t58 fun c2 =>
  idxS 4 t38 (sv s30 1) fun t62 =>
  loadP true 4 t62 H fun t63 =>
  ifB (decide (0 + 3 ≤ ((setSeg [(.int .i64 0), (.int .i64 0), (.slice none 0 0)] 0 c2)).length)) (
  callV Tryd.prog (fnV fn_slot_Write) [t63, (.agg (seg (setSeg [(.int .i64 0), (.int .i64 0), (.slice none 0 0)] 0 c2) 0 3).toArray)] H fun t65 H =>
  extractV 0 t65 fun t66 =>
  extractV 1 t65 fun t67 =>
  appS 5 1 1 (zeroL Tryd.prog 5) (sv s42 0) t66 H fun t70 H =>
  binV (.int .i64) .add (sv s42 1) (.int .i64 1) fun t71 =>
  K42 [[t70], [t71]] H) False) (
  idxS 4 t38 (sv s30 1) fun t75 =>
  loadP true 4 t75 H fun t76 =>
  callV Tryd.prog (fnV fn_slot_None) [t76] H fun t77 H =>
  extractV 0 t77 fun t78 =>
  extractV 1 t77 fun t79 =>
  fldP 4 (.pointer (some ⟨a3, 0, none⟩)) fun t82 =>
  loadP false 1 t82 H fun t83 =>
  fldP 32 (.pointer (some ⟨a13, 0, none⟩)) fun t84 =>
  loadP false 1 t84 H fun t85 =>
  lenSl t85 H fun t86 =>
  binV (.int .i64) .sub t83 t86 fun t87 =>
  callV Tryd.prog (fnV fn_bytes_Repeat) [t78, t87] H fun t88 H =>
  appS 5 1 1 (zeroL Tryd.prog 5) (sv s42 0) t88 H fun t89 H =>
  binV (.int .i64) .add (sv s30 1) (.int .i64 1) fun t90 =>
  K30 [[t89], [t90]] H)) [[t51], [(.int .i64 0)]] H) (
  lenSl x2_1 H fun t93 =>
  LoopPT (fun s69 H K69 =>
  binV (.int .i64) .lss (sv s69 1) t93 fun t95 =>
  asB t95 fun b95 =>
  ifB b95 (
  idxS 1 x2_1 (sv s69 1) fun t96 =>
  loadP false 1 t96 H fun t97 =>
  lenSl t38 H fun t101 =>
  binV (.int .i64) .sub t101 (.int .i64 1) fun t102 =>
  idxS 4 t38 t102 fun t103 =>
  fldP 2 t103 fun t104 =>
  loadP false 1 t104 H fun t105 =>
  callV Tryd.prog (fnV fn_entry_Write) [t105, t97] H fun t107 H =>
  extractV 0 t107 fun t108 =>
  extractV 1 t107 fun t109 =>
  appS 5 1 1 (zeroL Tryd.prog 5) (sv s69 0) t108 H fun t112 H =>
  binV (.int .i64) .add (sv s69 1) (.int .i64 1) fun t113 =>
  K69 [[t112], [t113]] H) (
  slA 32 1 (.pointer (some ⟨a4, 0, none⟩)) none none none fun t114 =>
  bldS 41 1 false (zeroL Tryd.prog 41) 2 [(0, t114), (1, (sv s69 0))] H fun t116 H =>
  callV Tryd.prog (fnV fn_sha_Of) [t116] H fun t117 H =>
  newC 49 (zeroL Tryd.prog 49) H fun a24 H =>
  storeP true 32 (.pointer (some ⟨a24, 0, none⟩)) t117 H fun H =>
  slA 32 1 (.pointer (some ⟨a24, 0, none⟩)) none none none fun t119 =>
  appS 5 1 1 (zeroL Tryd.prog 5) (sv s69 0) t119 H fun t120 H =>
  Q (.tuple #[t120, (.int .i64 0)]) H)) [[(sv s30 0)], [(.int .i64 0)]] H)) [[(.slice none 0 0)], [(.int .i64 0)]] H))
theorem S_token_Seal_of {x0_0 : Value} {x0_1 : Value} {x0_2 : Value} {x0_3 : Value} {x0_4 : Value} {x0_5 : Value} {x0_6 : Value} {x0_7 : Value} {x0_8 : Value} {x1 : List Value} {x2_0 : Value} {x2_1 : Value} {x2_2 : Value} {x2_3 : Value} {H : Heap} {Q : Value → Heap → Prop} (h : S_token_Seal x0_0 x0_1 x0_2 x0_3 x0_4 x0_5 x0_6 x0_7 x0_8 x1 x2_0 x2_1 x2_2 x2_3 H Q) : callV Tryd.prog (fnV fn_token_Seal) [(.agg #[x0_0, x0_1, x0_2, x0_3, x0_4, x0_5, x0_6, x0_7, x0_8]), (.agg x1.toArray), (.agg #[x2_0, x2_1, x2_2, x2_3])] H Q :=
  callV_fn (hcalls_of (pv := [5, 15]) (ann := [(30, [22, 86]), (42, [22, 110]), (69, [22, 188])]) Tryd.func8 (by kernel_rfl) (Eq.mpr (by kernel_rfl) h))

/-- thimblerig/thimblerigref28.Seal -/
def S_ref28_Seal (x0_0 : Value) (x0_1 : Value) (x0_2 : Value) (x0_3 : Value) (x0_4 : Value) (x0_5 : Value) (x0_6 : Value) (x0_7 : Value) (x0_8 : Value) (x1 : List Value) (x2_0 : Value) (x2_1 : Value) (x2_2 : Value) (x2_3 : Value) (H : Heap) (Q : Value → Heap → Prop) : Prop :=
  newT H fun H =>
  cellsU true 32 (.agg x1.toArray) fun c1 =>
  newT H fun H =>
  newT H fun H =>
  callV Tryd.prog (fnV fn_ref20_May) [(.agg #[x0_0, x0_1, x0_2, x0_3, x0_4, x0_5, x0_6, x0_7, x0_8]), (.agg #[x2_0, x2_1, x2_2, x2_3])] H fun t11 H =>
  unV .not t11 fun t12 =>
  asB t12 fun b12 =>
  ifB b12 (
  Q (.tuple #[(.slice none 0 0), (.int .i64 8)]) H) (
  LoopPT (fun s15 H K15 =>
  lenSl x2_0 H fun t16 =>
  binV (.int .i64) .lss (sv s15 0) t16 fun t17 =>
  asB t17 fun b17 =>
  ifB b17 (
  idxS 33 x2_0 (sv s15 0) fun t23 =>
  fldP 32 t23 fun t24 =>
  loadP false 1 t24 H fun t25 =>
  lenSl t25 H fun t26 =>
  binV (.int .i64) .gtr t26 x0_4 fun t29 =>
  asB t29 fun b29 =>
  ifB b29 (
  Q (.tuple #[(.slice none 0 0), (.int .i64 4)]) H) (
  binV (.int .i64) .add (sv s15 0) (.int .i64 1) fun t19 =>
  K15 [[t19]] H)) (
  ifB (decide (0 + 32 ≤ (c1).length)) (
  callV Tryd.prog (fnV fn_ref28_Of) [(.agg #[x0_0, x0_1, x0_2, x0_3, x0_4, x0_5, x0_6, x0_7, x0_8]), (.agg (seg c1 0 32).toArray), (.agg #[x2_0, x2_1, x2_2, x2_3])] H fun t33 H =>
  Q (.tuple #[t33, (.int .i64 0)]) H) False)) [[(.int .i64 0)]] H)
theorem S_ref28_Seal_of {x0_0 : Value} {x0_1 : Value} {x0_2 : Value} {x0_3 : Value} {x0_4 : Value} {x0_5 : Value} {x0_6 : Value} {x0_7 : Value} {x0_8 : Value} {x1 : List Value} {x2_0 : Value} {x2_1 : Value} {x2_2 : Value} {x2_3 : Value} {H : Heap} {Q : Value → Heap → Prop} (h : S_ref28_Seal x0_0 x0_1 x0_2 x0_3 x0_4 x0_5 x0_6 x0_7 x0_8 x1 x2_0 x2_1 x2_2 x2_3 H Q) : callV Tryd.prog (fnV fn_ref28_Seal) [(.agg #[x0_0, x0_1, x0_2, x0_3, x0_4, x0_5, x0_6, x0_7, x0_8]), (.agg x1.toArray), (.agg #[x2_0, x2_1, x2_2, x2_3])] H Q :=
  callV_fn (hcalls_of (pv := [3, 4, 5]) (ann := [(15, [16])]) Tryd.func9 (by kernel_rfl) (Eq.mpr (by kernel_rfl) h))

/-- thimblerig/thimblerigref20.SameStore -/
def S_ref20_SameStore (x0_0 : Value) (x0_1 : Value) (x0_2 : Value) (x0_3 : Value) (x1_0 : Value) (x1_1 : Value) (x1_2 : Value) (x1_3 : Value) (H : Heap) (Q : Value → Heap → Prop) : Prop :=
  newT H fun H =>
  newT H fun H =>
  JoinPT (fun K8 =>
  lenSl x0_0 H fun t8 =>
  lenSl x1_0 H fun t11 =>
  binV (.int .i64) .neq t8 t11 fun t12 =>
  asB t12 fun b13 =>
  ifB b13 (
  K8 [[(.bool true)]] H) (
  callV Tryd.prog (fnV fn_ref01_SameInts) [x0_1, x1_1] H fun t18 H =>
  unV .not t18 fun t19 =>
  asB t19 fun b21 =>
  ifB b21 (
  K8 [[(.bool true)]] H) (
  binV (.int .u64) .neq x0_2 x1_2 fun t26 =>
  asB t26 fun b28 =>
  ifB b28 (
  K8 [[(.bool true)]] H) (
  binV (.int .u64) .neq x0_3 x1_3 fun t33 =>
  K8 [[t33]] H)))) fun s8 H =>
  asB (sv s8 0) fun b34 =>
  ifB b34 (
  Q (.bool false) H) (
  LoopPT (fun s15 H K15 =>
  lenSl x0_0 H fun t38 =>
  binV (.int .i64) .lss (sv s15 0) t38 fun t39 =>
  asB t39 fun b39 =>
  ifB b39 (
  idxS 33 x0_0 (sv s15 0) fun t45 =>
  loadP true 33 t45 H fun t46 =>
  idxS 33 x1_0 (sv s15 0) fun t50 =>
  loadP true 33 t50 H fun t51 =>
  callV Tryd.prog (fnV fn_ref18_SameOram) [t46, t51] H fun t52 H =>
  unV .not t52 fun t53 =>
  asB t53 fun b53 =>
  ifB b53 (
  Q (.bool false) H) (
  binV (.int .i64) .add (sv s15 0) (.int .i64 1) fun t41 =>
  K15 [[t41]] H)) (
  Q (.bool true) H)) [[(.int .i64 0)]] H)
theorem S_ref20_SameStore_of {x0_0 : Value} {x0_1 : Value} {x0_2 : Value} {x0_3 : Value} {x1_0 : Value} {x1_1 : Value} {x1_2 : Value} {x1_3 : Value} {H : Heap} {Q : Value → Heap → Prop} (h : S_ref20_SameStore x0_0 x0_1 x0_2 x0_3 x1_0 x1_1 x1_2 x1_3 H Q) : callV Tryd.prog (fnV fn_ref20_SameStore) [(.agg #[x0_0, x0_1, x0_2, x0_3]), (.agg #[x1_0, x1_1, x1_2, x1_3])] H Q :=
  callV_fn (hcalls_of (pv := [2, 3]) (ann := [(8, [68]), (15, [10])]) Tryd.func11 (by kernel_rfl) (Eq.mpr (by kernel_rfl) h))

/-- thimblerig/thimblerigref18.TwinOram -/
def S_ref18_TwinOram (x0 : List Value) (H : Heap) (Q : Value → Heap → Prop) : Prop :=
  cellsU true 33 (.agg x0.toArray) fun c1 =>
  newT H fun H =>
  newT H fun H =>
  ifB (decide (32 + 1 ≤ (c1).length)) (
  callV Tryd.prog (fnV fn_ref09_TwinAll) [(mkV false (seg c1 32 1))] H fun t5 H =>
  ifB (okc t5) (
  ifB (decide (32 + 1 ≤ (c1).length)) (
  ifB (decide (0 + 33 ≤ ((setSeg c1 32 [t5])).length)) (
  cellsV true 33 (.agg (seg (setSeg c1 32 [t5]) 0 33).toArray) fun c2 =>
  ifB (decide (0 + 33 ≤ ((zeroL Tryd.prog 52)).length)) (
  ifB (decide (0 + 33 ≤ ((setSeg (zeroL Tryd.prog 52) 0 c2)).length)) (
  Q (.agg (seg (setSeg (zeroL Tryd.prog 52) 0 c2) 0 33).toArray) H) False) False) False) False) False) False
theorem S_ref18_TwinOram_of {x0 : List Value} {H : Heap} {Q : Value → Heap → Prop} (h : S_ref18_TwinOram x0 H Q) : callV Tryd.prog (fnV fn_ref18_TwinOram) [(.agg x0.toArray)] H Q :=
  callV_fn (hcalls_of (pv := [1, 2]) (ann := []) Tryd.func13 (by kernel_rfl) (Eq.mpr (by kernel_rfl) h))

/-- thimblerig/thimblerigref28.Many -/
def S_ref28_Many (x0_0 : Value) (x0_1 : Value) (x0_2 : Value) (x0_3 : Value) (x0_4 : Value) (x0_5 : Value) (x0_6 : Value) (x0_7 : Value) (x0_8 : Value) (H : Heap) (Q : Value → Heap → Prop) : Prop :=
  newT H fun H =>
  callV Tryd.prog (fnV fn_ref08_All) [(.agg #[x0_0, x0_1, x0_2, x0_3, x0_4, x0_5, x0_6, x0_7, x0_8])] H fun t7 H =>
  LoopPT (fun s15 H K15 =>
  lenSl t7 H fun t10 =>
  binV (.int .i64) .lss (sv s15 1) t10 fun t11 =>
  asB t11 fun b11 =>
  ifB b11 (
  binV (.int .i64) .add (sv s15 0) (.int .i64 32) fun t15 =>
  idxS 4 t7 (sv s15 1) fun t20 =>
  fldP 1 t20 fun t21 =>
  loadP false 1 t21 H fun t22 =>
  binV (.int .i64) .add (.int .i64 8) t22 fun t23 =>
  binV (.int .i64) .mul x0_4 t23 fun t24 =>
  binV (.int .i64) .add t15 t24 fun t25 =>
  binV (.int .i64) .add (sv s15 1) (.int .i64 1) fun t13 =>
  K15 [[t25], [t13]] H) (
  lenSl t7 H fun t29 =>
  binV (.int .i64) .sub t29 (.int .i64 1) fun t30 =>
  idxS 4 t7 t30 fun t31 =>
  fldP 0 t31 fun t32 =>
  loadP false 1 t32 H fun t33 =>
  binV (.int .i64) .mul (.int .i64 4) t33 fun t34 =>
  binV (.int .i64) .add (sv s15 0) t34 fun t35 =>
  binV (.int .i64) .add t35 (.int .i64 32) fun t36 =>
  Q t36 H)) [[(.int .i64 0)], [(.int .i64 0)]] H
theorem S_ref28_Many_of {x0_0 : Value} {x0_1 : Value} {x0_2 : Value} {x0_3 : Value} {x0_4 : Value} {x0_5 : Value} {x0_6 : Value} {x0_7 : Value} {x0_8 : Value} {H : Heap} {Q : Value → Heap → Prop} (h : S_ref28_Many x0_0 x0_1 x0_2 x0_3 x0_4 x0_5 x0_6 x0_7 x0_8 H Q) : callV Tryd.prog (fnV fn_ref28_Many) [(.agg #[x0_0, x0_1, x0_2, x0_3, x0_4, x0_5, x0_6, x0_7, x0_8])] H Q :=
  callV_fn (hcalls_of (pv := [1]) (ann := [(15, [8, 10])]) Tryd.func16 (by kernel_rfl) (Eq.mpr (by kernel_rfl) h))

/-- thimblerig/rec.Check -/
def S_rec_Check (x0_0 : Value) (x0_1 : Value) (x0_2 : Value) (x0_3 : Value) (x0_4 : Value) (x0_5 : Value) (x0_6 : Value) (x0_7 : Value) (x0_8 : Value) (x1_0 : Value) (x1_1 : Value) (x1_2 : Value) (x1_3 : Value) (H : Heap) (Q : Value → Heap → Prop) : Prop :=
  newT H fun H =>
  newT H fun H =>
  callV Tryd.prog (fnV fn_conf_Levels) [(.agg #[x0_0, x0_1, x0_2, x0_3, x0_4, x0_5, x0_6, x0_7, x0_8])] H fun t11 H =>
  extractV 0 t11 fun t12 =>
  extractV 1 t11 fun t13 =>
  newC 57 [(.slice none 0 0)] H fun a5 H =>
  storeP false 1 (.pointer (some ⟨a5, 0, none⟩)) t12 H fun H =>
  JoinPT (fun K11 =>
  binV (.int .i64) .neq t13 (.int .i64 0) fun t15 =>
  asB t15 fun b16 =>
  ifB b16 (
  K11 [[(.bool true)]] H) (
  lenSl x1_0 H fun t19 =>
  loadP false 1 (.pointer (some ⟨a5, 0, none⟩)) H fun t20 =>
  lenSl t20 H fun t21 =>
  binV (.int .i64) .neq t19 t21 fun t22 =>
  asB t22 fun b24 =>
  ifB b24 (
  K11 [[(.bool true)]] H) (
  lenSl x1_1 H fun t27 =>
  loadP false 1 (.pointer (some ⟨a5, 0, none⟩)) H fun t28 =>
  loadP false 1 (.pointer (some ⟨a5, 0, none⟩)) H fun t29 =>
  lenSl t29 H fun t30 =>
  binV (.int .i64) .sub t30 (.int .i64 1) fun t31 =>
  idxS 4 t28 t31 fun t32 =>
  fldP 0 t32 fun t33 =>
  loadP false 1 t33 H fun t34 =>
  binV (.int .i64) .neq t27 t34 fun t35 =>
  K11 [[t35]] H))) fun s11 H =>
  asB (sv s11 0) fun b36 =>
  ifB b36 (
  Q (.int .i64 8) H) (
  lenSl x1_0 H fun t39 =>
  LoopPT (fun s18 H K18 =>
  binV (.int .i64) .lss (sv s18 0) t39 fun t41 =>
  asB t41 fun b41 =>
  ifB b41 (
  idxS 33 x1_0 (sv s18 0) fun t43 =>
  loadP true 33 t43 H fun t44 =>
  newT H fun H =>
  cellsV true 33 t44 fun c1 =>
  ifB (decide (0 + 33 ≤ ((zeroL Tryd.prog 52)).length)) (
  ifB (decide (0 + 33 ≤ ((setSeg (zeroL Tryd.prog 52) 0 c1)).length)) (
  callV Tryd.prog (fnV fn_oram_Check) [(.agg #[x0_0, x0_1, x0_2, x0_3, x0_4, x0_5, x0_6, x0_7, x0_8]), (sv s18 0), (.agg (seg (setSeg (zeroL Tryd.prog 52) 0 c1) 0 33).toArray)] H fun t48 H =>
  binV (.int .i64) .neq t48 (.int .i64 0) fun t49 =>
  asB t49 fun b49 =>
  ifB b49 (
  Q (.int .i64 8) H) (
  binV (.int .i64) .add (sv s18 0) (.int .i64 1) fun t50 =>
  K18 [[t50]] H)) False) False) (
  callV Tryd.prog (fnV fn_slices_ContainsFunc_int_int) [x1_1, (.func (.func fn_rec_Check_1) #[] #[(.pointer (some ⟨a5, 0, none⟩))])] H fun t54 H =>
  asB t54 fun b54 =>
  ifB b54 (
  Q (.int .i64 8) H) (
  Q (.int .i64 0) H))) [[(.int .i64 0)]] H)
theorem S_rec_Check_of {x0_0 : Value} {x0_1 : Value} {x0_2 : Value} {x0_3 : Value} {x0_4 : Value} {x0_5 : Value} {x0_6 : Value} {x0_7 : Value} {x0_8 : Value} {x1_0 : Value} {x1_1 : Value} {x1_2 : Value} {x1_3 : Value} {H : Heap} {Q : Value → Heap → Prop} (h : S_rec_Check x0_0 x0_1 x0_2 x0_3 x0_4 x0_5 x0_6 x0_7 x0_8 x1_0 x1_1 x1_2 x1_3 H Q) : callV Tryd.prog (fnV fn_rec_Check) [(.agg #[x0_0, x0_1, x0_2, x0_3, x0_4, x0_5, x0_6, x0_7, x0_8]), (.agg #[x1_0, x1_1, x1_2, x1_3])] H Q :=
  callV_fn (hcalls_of (pv := [2, 3, 8]) (ann := [(11, [72]), (18, [80])]) Tryd.func17 (by kernel_rfl) (Eq.mpr (by kernel_rfl) h))

/-- thimblerig/token.Seal$1 -/
def S_token_Seal_1 (x0 : List Value) (y0 : Value) (H : Heap) (Q : Value → Heap → Prop) : Prop :=
  cellsU true 33 (.agg x0.toArray) fun c1 =>
  newT H fun H =>
  ifB (decide (32 + 1 ≤ (c1).length)) (
  lenSl (mkV false (seg c1 32 1)) H fun t6 =>
  fldP 4 y0 fun t7 =>
  loadP false 1 t7 H fun t8 =>
  binV (.int .i64) .gtr t6 t8 fun t9 =>
  Q t9 H) False
theorem S_token_Seal_1_of {x0 : List Value} {y0 : Value} {H : Heap} {Q : Value → Heap → Prop} (h : S_token_Seal_1 x0 y0 H Q) : callV Tryd.prog (fnV fn_token_Seal_1) [(.agg x0.toArray), y0] H Q :=
  callV_fn (hcalls_of (pv := [2]) (ann := []) Tryd.func19 (by kernel_rfl) (Eq.mpr (by kernel_rfl) h))
theorem C_token_Seal_1_of {x0 : List Value} {y0 : Value} {H : Heap} {Q : Value → Heap → Prop} (h : S_token_Seal_1 x0 y0 H Q) : callV Tryd.prog (.func (.func fn_token_Seal_1) #[] #[y0]) [(.agg x0.toArray)] H Q :=
  callV_cl (S_token_Seal_1_of h)

/-- thimblerig/thimblerigref20.May -/
def S_ref20_May (x0_0 : Value) (x0_1 : Value) (x0_2 : Value) (x0_3 : Value) (x0_4 : Value) (x0_5 : Value) (x0_6 : Value) (x0_7 : Value) (x0_8 : Value) (x1_0 : Value) (x1_1 : Value) (x1_2 : Value) (x1_3 : Value) (H : Heap) (Q : Value → Heap → Prop) : Prop :=
  newT H fun H =>
  newT H fun H =>
  callV Tryd.prog (fnV fn_ref08_May) [(.agg #[x0_0, x0_1, x0_2, x0_3, x0_4, x0_5, x0_6, x0_7, x0_8])] H fun t10 H =>
  unV .not t10 fun t11 =>
  asB t11 fun b11 =>
  ifB b11 (
  Q (.bool false) H) (
  callV Tryd.prog (fnV fn_ref08_All) [(.agg #[x0_0, x0_1, x0_2, x0_3, x0_4, x0_5, x0_6, x0_7, x0_8])] H fun t13 H =>
  lenSl t13 H fun t16 =>
  binV (.int .i64) .sub t16 (.int .i64 1) fun t17 =>
  idxS 4 t13 t17 fun t18 =>
  loadP true 4 t18 H fun t19 =>
  newT H fun H =>
  cellsV true 4 t19 fun c1 =>
  JoinPT (fun K20 =>
  lenSl x1_0 H fun t22 =>
  lenSl t13 H fun t24 =>
  binV (.int .i64) .neq t22 t24 fun t25 =>
  asB t25 fun b26 =>
  ifB b26 (
  K20 [[(.bool true)]] H) (
  lenSl x1_1 H fun t29 =>
  ifB (decide (0 + 1 ≤ ((setSeg [(.int .i64 0), (.int .i64 0), (.int .i64 0), (.int .i64 0)] 0 c1)).length)) (
  binV (.int .i64) .neq t29 (mkV false (seg (setSeg [(.int .i64 0), (.int .i64 0), (.int .i64 0), (.int .i64 0)] 0 c1) 0 1)) fun t32 =>
  K20 [[t32]] H) False)) fun s20 H =>
  asB (sv s20 0) fun b33 =>
  ifB b33 (
  Q (.bool false) H) (
  LoopPT (fun s27 H K27 =>
  lenSl t13 H fun t36 =>
  binV (.int .i64) .lss (sv s27 0) t36 fun t37 =>
  asB t37 fun b37 =>
  ifB b37 (
  idxS 33 x1_0 (sv s27 0) fun t45 =>
  loadP true 33 t45 H fun t46 =>
  callV Tryd.prog (fnV fn_ref18_May) [(.agg #[x0_0, x0_1, x0_2, x0_3, x0_4, x0_5, x0_6, x0_7, x0_8]), (sv s27 0), t46] H fun t47 H =>
  unV .not t47 fun t48 =>
  asB t48 fun b48 =>
  ifB b48 (
  Q (.bool false) H) (
  binV (.int .i64) .add (sv s27 0) (.int .i64 1) fun t39 =>
  K27 [[t39]] H)) (
  LoopPT (fun s42 H K42 =>
  lenSl x1_1 H fun t52 =>
  binV (.int .i64) .lss (sv s42 0) t52 fun t53 =>
  asB t53 fun b53 =>
  ifB b53 (
  ifB (decide (2 + 1 ≤ ((setSeg [(.int .i64 0), (.int .i64 0), (.int .i64 0), (.int .i64 0)] 0 c1)).length)) (
  idxS 1 x1_1 (sv s42 0) fun t61 =>
  loadP false 1 t61 H fun t62 =>
  callV Tryd.prog (fnV fn_ref19_May) [(mkV false (seg (setSeg [(.int .i64 0), (.int .i64 0), (.int .i64 0), (.int .i64 0)] 0 c1) 2 1)), t62] H fun t63 H =>
  unV .not t63 fun t64 =>
  asB t64 fun b64 =>
  ifB b64 (
  Q (.bool false) H) (
  binV (.int .i64) .add (sv s42 0) (.int .i64 1) fun t55 =>
  K42 [[t55]] H)) False) (
  Q (.bool true) H)) [[(.int .i64 0)]] H)) [[(.int .i64 0)]] H))
theorem S_ref20_May_of {x0_0 : Value} {x0_1 : Value} {x0_2 : Value} {x0_3 : Value} {x0_4 : Value} {x0_5 : Value} {x0_6 : Value} {x0_7 : Value} {x0_8 : Value} {x1_0 : Value} {x1_1 : Value} {x1_2 : Value} {x1_3 : Value} {H : Heap} {Q : Value → Heap → Prop} (h : S_ref20_May x0_0 x0_1 x0_2 x0_3 x0_4 x0_5 x0_6 x0_7 x0_8 x1_0 x1_1 x1_2 x1_3 H Q) : callV Tryd.prog (fnV fn_ref20_May) [(.agg #[x0_0, x0_1, x0_2, x0_3, x0_4, x0_5, x0_6, x0_7, x0_8]), (.agg #[x1_0, x1_1, x1_2, x1_3])] H Q :=
  callV_fn (hcalls_of (pv := [2, 3, 6]) (ann := [(20, [66]), (27, [14]), (42, [16])]) Tryd.func25 (by kernel_rfl) (Eq.mpr (by kernel_rfl) h))

/-- thimblerig/thimblerigref28.Of -/
def S_ref28_Of (x0_0 : Value) (x0_1 : Value) (x0_2 : Value) (x0_3 : Value) (x0_4 : Value) (x0_5 : Value) (x0_6 : Value) (x0_7 : Value) (x0_8 : Value) (x1 : List Value) (x2_0 : Value) (x2_1 : Value) (x2_2 : Value) (x2_3 : Value) (H : Heap) (Q : Value → Heap → Prop) : Prop :=
  newT H fun H =>
  cellsU true 32 (.agg x1.toArray) fun c1 =>
  newC 25 c1 H fun a4 H =>
  newT H fun H =>
  callV Tryd.prog (fnV fn_ref08_All) [(.agg #[x0_0, x0_1, x0_2, x0_3, x0_4, x0_5, x0_6, x0_7, x0_8])] H fun t14 H =>
  LoopPT (fun s15 H K15 =>
  lenSl t14 H fun t17 =>
  binV (.int .i64) .lss (sv s15 1) t17 fun t18 =>
  asB t18 fun b18 =>
  ifB b18 (
  idxS 33 x2_0 (sv s15 1) fun t25 =>
  fldP 0 t25 fun t26 =>
  slA 32 1 t26 none none none fun t27 =>
  appS 5 1 1 (zeroL Tryd.prog 5) (sv s15 0) t27 H fun t28 H =>
  LoopPT (fun s27 H K27 =>
  binV (.int .i64) .lss (sv s27 1) x0_4 fun t32 =>
  asB t32 fun b32 =>
  ifB b32 (
  idxS 33 x2_0 (sv s15 1) fun t39 =>
  fldP 32 t39 fun t40 =>
  loadP false 1 t40 H fun t41 =>
  lenSl t41 H fun t42 =>
  binV (.int .i64) .lss (sv s27 1) t42 fun t43 =>
  asB t43 fun b43 =>
  JoinPT (fun K36 =>
  ifB b43 (
  idxS 33 x2_0 (sv s15 1) fun t48 =>
  fldP 32 t48 fun t49 =>
  loadP false 1 t49 H fun t50 =>
  idxS 3 t50 (sv s27 1) fun t52 =>
  loadP true 3 t52 H fun t53 =>
  callV Tryd.prog (fnV fn_ref09_Of) [t53] H fun t54 H =>
  appS 5 1 1 (zeroL Tryd.prog 5) (sv s27 0) t54 H fun t55 H =>
  K36 [[t55]] H) (
  idxS 4 t14 (sv s15 1) fun t59 =>
  fldP 1 t59 fun t60 =>
  loadP false 1 t60 H fun t61 =>
  binV (.int .i64) .add (.int .i64 8) t61 fun t62 =>
  appZ 5 1 1 (zeroL Tryd.prog 5) (sv s27 0) t62 H fun t63 H =>
  K36 [[t63]] H)) fun s36 H =>
  binV (.int .i64) .add (sv s27 1) (.int .i64 1) fun t34 =>
  K27 [[(sv s36 0)], [t34]] H) (
  binV (.int .i64) .add (sv s15 1) (.int .i64 1) fun t20 =>
  K15 [[(sv s27 0)], [t20]] H)) [[t28], [(.int .i64 0)]] H) (
  LoopPT (fun s45 H K45 =>
  lenSl x2_1 H fun t67 =>
  binV (.int .i64) .lss (sv s45 1) t67 fun t68 =>
  asB t68 fun b68 =>
  ifB b68 (
  idxS 1 x2_1 (sv s45 1) fun t75 =>
  loadP false 1 t75 H fun t76 =>
  callV Tryd.prog (fnV fn_ref19_Bytes) [t76] H fun t77 H =>
  appS 5 1 1 (zeroL Tryd.prog 5) (sv s45 0) t77 H fun t78 H =>
  binV (.int .i64) .add (sv s45 1) (.int .i64 1) fun t70 =>
  K45 [[t78], [t70]] H) (
  bldS 5 1 false (zeroL Tryd.prog 5) 0 [] H fun t79 H =>
  slA 32 1 (.pointer (some ⟨a4, 0, none⟩)) none none none fun t80 =>
  appS 5 1 1 (zeroL Tryd.prog 5) t79 t80 H fun t81 H =>
  appS 5 1 1 (zeroL Tryd.prog 5) t81 (sv s45 0) H fun t83 H =>
  callV Tryd.prog (fnV fn_ref02_Of) [t83] H fun t84 H =>
  newC 49 (zeroL Tryd.prog 49) H fun a12 H =>
  storeP true 32 (.pointer (some ⟨a12, 0, none⟩)) t84 H fun H =>
  slA 32 1 (.pointer (some ⟨a12, 0, none⟩)) none none none fun t86 =>
  appS 5 1 1 (zeroL Tryd.prog 5) (sv s45 0) t86 H fun t87 H =>
  Q t87 H)) [[(sv s15 0)], [(.int .i64 0)]] H)) [[(.slice none 0 0)], [(.int .i64 0)]] H
theorem S_ref28_Of_of {x0_0 : Value} {x0_1 : Value} {x0_2 : Value} {x0_3 : Value} {x0_4 : Value} {x0_5 : Value} {x0_6 : Value} {x0_7 : Value} {x0_8 : Value} {x1 : List Value} {x2_0 : Value} {x2_1 : Value} {x2_2 : Value} {x2_3 : Value} {H : Heap} {Q : Value → Heap → Prop} (h : S_ref28_Of x0_0 x0_1 x0_2 x0_3 x0_4 x0_5 x0_6 x0_7 x0_8 x1 x2_0 x2_1 x2_2 x2_3 H Q) : callV Tryd.prog (fnV fn_ref28_Of) [(.agg #[x0_0, x0_1, x0_2, x0_3, x0_4, x0_5, x0_6, x0_7, x0_8]), (.agg x1.toArray), (.agg #[x2_0, x2_1, x2_2, x2_3])] H Q :=
  callV_fn (hcalls_of (pv := [3, 5]) (ann := [(15, [16, 18]), (27, [16, 20]), (36, [16]), (45, [16, 22])]) Tryd.func26 (by kernel_rfl) (Eq.mpr (by kernel_rfl) h))

/-- thimblerig/thimblerigref18.SameOram -/
def S_ref18_SameOram (x0 : List Value) (x1 : List Value) (H : Heap) (Q : Value → Heap → Prop) : Prop :=
  cellsU true 33 (.agg x0.toArray) fun c1 =>
  newT H fun H =>
  cellsU true 33 (.agg x1.toArray) fun c2 =>
  newT H fun H =>
  JoinPT (fun K8 =>
  ifB (decide (0 + 32 ≤ (c1).length)) (
  ifB (decide (0 + 32 ≤ (c2).length)) (
  eqV Tryd.prog ty_api_Digest .eql (.agg (seg c1 0 32).toArray) (.agg (seg c2 0 32).toArray) fun t9 =>
  asB t9 fun b10 =>
  ifB b10 (
  ifB (decide (32 + 1 ≤ (c1).length)) (
  ifB (decide (32 + 1 ≤ (c2).length)) (
  callV Tryd.prog (fnV fn_ref09_SameAll) [(mkV false (seg c1 32 1)), (mkV false (seg c2 32 1))] H fun t15 H =>
  K8 [[t15]] H) False) False) (
  K8 [[(.bool false)]] H)) False) False) fun s8 H =>
  Q (sv s8 0) H
theorem S_ref18_SameOram_of {x0 : List Value} {x1 : List Value} {H : Heap} {Q : Value → Heap → Prop} (h : S_ref18_SameOram x0 x1 H Q) : callV Tryd.prog (fnV fn_ref18_SameOram) [(.agg x0.toArray), (.agg x1.toArray)] H Q :=
  callV_fn (hcalls_of (pv := [2, 3]) (ann := [(8, [8])]) Tryd.func28 (by kernel_rfl) (Eq.mpr (by kernel_rfl) h))

/-- thimblerig/oram.Check -/
def S_oram_Check (x0_0 : Value) (x0_1 : Value) (x0_2 : Value) (x0_3 : Value) (x0_4 : Value) (x0_5 : Value) (x0_6 : Value) (x0_7 : Value) (x0_8 : Value) (x1 : Value) (x2 : List Value) (H : Heap) (Q : Value → Heap → Prop) : Prop :=
  newT H fun H =>
  cellsU true 33 (.agg x2.toArray) fun c1 =>
  newT H fun H =>
  callV Tryd.prog (fnV fn_oram_level) [(.agg #[x0_0, x0_1, x0_2, x0_3, x0_4, x0_5, x0_6, x0_7, x0_8]), x1] H fun t12 H =>
  extractV 0 t12 fun t13 =>
  extractV 1 t12 fun t14 =>
  newT H fun H =>
  cellsV true 4 t13 fun c2 =>
  binV (.int .i64) .neq t14 (.int .i64 0) fun t16 =>
  asB t16 fun b16 =>
  ifB b16 (
  Q t14 H) (
  ifB (decide (0 + 4 ≤ ((setSeg [(.int .i64 0), (.int .i64 0), (.int .i64 0), (.int .i64 0)] 0 c2)).length)) (
  ifB (decide (32 + 1 ≤ (c1).length)) (
  callV Tryd.prog (fnV fn_stash_Check) [(.agg (seg (setSeg [(.int .i64 0), (.int .i64 0), (.int .i64 0), (.int .i64 0)] 0 c2) 0 4).toArray), (mkV false (seg c1 32 1))] H fun t21 H =>
  Q t21 H) False) False)
theorem S_oram_Check_of {x0_0 : Value} {x0_1 : Value} {x0_2 : Value} {x0_3 : Value} {x0_4 : Value} {x0_5 : Value} {x0_6 : Value} {x0_7 : Value} {x0_8 : Value} {x1 : Value} {x2 : List Value} {H : Heap} {Q : Value → Heap → Prop} (h : S_oram_Check x0_0 x0_1 x0_2 x0_3 x0_4 x0_5 x0_6 x0_7 x0_8 x1 x2 H Q) : callV Tryd.prog (fnV fn_oram_Check) [(.agg #[x0_0, x0_1, x0_2, x0_3, x0_4, x0_5, x0_6, x0_7, x0_8]), x1, (.agg x2.toArray)] H Q :=
  callV_fn (hcalls_of (pv := [3, 5, 7]) (ann := []) Tryd.func34 (by kernel_rfl) (Eq.mpr (by kernel_rfl) h))

/-- thimblerig/rec.Check$1 -/
def S_rec_Check_1 (x0 : Value) (y0 : Value) (H : Heap) (Q : Value → Heap → Prop) : Prop :=
  loadP false 1 y0 H fun t4 =>
  loadP false 1 y0 H fun t5 =>
  lenSl t5 H fun t6 =>
  binV (.int .i64) .sub t6 (.int .i64 1) fun t7 =>
  idxS 4 t4 t7 fun t8 =>
  fldP 2 t8 fun t9 =>
  loadP false 1 t9 H fun t10 =>
  callV Tryd.prog (fnV fn_entry_Check) [t10, x0] H fun t12 H =>
  binV (.int .i64) .neq t12 (.int .i64 0) fun t13 =>
  Q t13 H
theorem S_rec_Check_1_of {x0 : Value} {y0 : Value} {H : Heap} {Q : Value → Heap → Prop} (h : S_rec_Check_1 x0 y0 H Q) : callV Tryd.prog (fnV fn_rec_Check_1) [x0, y0] H Q :=
  callV_fn (hcalls_of (pv := []) (ann := []) Tryd.func36 (by kernel_rfl) (Eq.mpr (by kernel_rfl) h))
theorem C_rec_Check_1_of {x0 : Value} {y0 : Value} {H : Heap} {Q : Value → Heap → Prop} (h : S_rec_Check_1 x0 y0 H Q) : callV Tryd.prog (.func (.func fn_rec_Check_1) #[] #[y0]) [x0] H Q :=
  callV_cl (S_rec_Check_1_of h)

/-- thimblerig/thimblerigref18.May -/
def S_ref18_May (x0_0 : Value) (x0_1 : Value) (x0_2 : Value) (x0_3 : Value) (x0_4 : Value) (x0_5 : Value) (x0_6 : Value) (x0_7 : Value) (x0_8 : Value) (x1 : Value) (x2 : List Value) (H : Heap) (Q : Value → Heap → Prop) : Prop :=
  newT H fun H =>
  cellsU true 33 (.agg x2.toArray) fun c1 =>
  newT H fun H =>
  callV Tryd.prog (fnV fn_ref18_Level) [(.agg #[x0_0, x0_1, x0_2, x0_3, x0_4, x0_5, x0_6, x0_7, x0_8]), x1] H fun t12 H =>
  extractV 0 t12 fun t13 =>
  extractV 1 t12 fun t14 =>
  newT H fun H =>
  cellsV true 4 t13 fun c2 =>
  JoinPT (fun K11 =>
  asB t14 fun b16 =>
  ifB b16 (
  ifB (decide (0 + 4 ≤ ((setSeg [(.int .i64 0), (.int .i64 0), (.int .i64 0), (.int .i64 0)] 0 c2)).length)) (
  ifB (decide (32 + 1 ≤ (c1).length)) (
  callV Tryd.prog (fnV fn_ref16_May) [(.agg (seg (setSeg [(.int .i64 0), (.int .i64 0), (.int .i64 0), (.int .i64 0)] 0 c2) 0 4).toArray), (mkV false (seg c1 32 1))] H fun t20 H =>
  K11 [[t20]] H) False) False) (
  K11 [[(.bool false)]] H)) fun s11 H =>
  Q (sv s11 0) H
theorem S_ref18_May_of {x0_0 : Value} {x0_1 : Value} {x0_2 : Value} {x0_3 : Value} {x0_4 : Value} {x0_5 : Value} {x0_6 : Value} {x0_7 : Value} {x0_8 : Value} {x1 : Value} {x2 : List Value} {H : Heap} {Q : Value → Heap → Prop} (h : S_ref18_May x0_0 x0_1 x0_2 x0_3 x0_4 x0_5 x0_6 x0_7 x0_8 x1 x2 H Q) : callV Tryd.prog (fnV fn_ref18_May) [(.agg #[x0_0, x0_1, x0_2, x0_3, x0_4, x0_5, x0_6, x0_7, x0_8]), x1, (.agg x2.toArray)] H Q :=
  callV_fn (hcalls_of (pv := [3, 5, 7]) (ann := [(11, [12])]) Tryd.func47 (by kernel_rfl) (Eq.mpr (by kernel_rfl) h))

/-- thimblerig/oram.level -/
def S_oram_level (x0_0 : Value) (x0_1 : Value) (x0_2 : Value) (x0_3 : Value) (x0_4 : Value) (x0_5 : Value) (x0_6 : Value) (x0_7 : Value) (x0_8 : Value) (x1 : Value) (H : Heap) (Q : Value → Heap → Prop) : Prop :=
  newT H fun H =>
  newT H fun H =>
  callV Tryd.prog (fnV fn_conf_Levels) [(.agg #[x0_0, x0_1, x0_2, x0_3, x0_4, x0_5, x0_6, x0_7, x0_8])] H fun t10 H =>
  extractV 0 t10 fun t11 =>
  extractV 1 t10 fun t12 =>
  JoinPT (fun K11 =>
  binV (.int .i64) .neq t12 (.int .i64 0) fun t14 =>
  asB t14 fun b15 =>
  ifB b15 (
  K11 [[(.bool true)]] H) (
  binV (.int .i64) .lss x1 (.int .i64 0) fun t17 =>
  asB t17 fun b19 =>
  ifB b19 (
  K11 [[(.bool true)]] H) (
  lenSl t11 H fun t22 =>
  binV (.int .i64) .geq x1 t22 fun t23 =>
  K11 [[t23]] H))) fun s11 H =>
  asB (sv s11 0) fun b24 =>
  ifB b24 (
  Q (.tuple #[(.agg #[(.int .i64 0), (.int .i64 0), (.int .i64 0), (.int .i64 0)]), (.int .i64 8)]) H) (
  idxS 4 t11 x1 fun t28 =>
  loadP true 4 t28 H fun t29 =>
  cellsV true 4 t29 fun c1 =>
  ifB (decide (0 + 4 ≤ ((setSeg [(.int .i64 0), (.int .i64 0), (.int .i64 0), (.int .i64 0)] 0 c1)).length)) (
  Q (.tuple #[(.agg (seg (setSeg [(.int .i64 0), (.int .i64 0), (.int .i64 0), (.int .i64 0)] 0 c1) 0 4).toArray), (.int .i64 0)]) H) False)
theorem S_oram_level_of {x0_0 : Value} {x0_1 : Value} {x0_2 : Value} {x0_3 : Value} {x0_4 : Value} {x0_5 : Value} {x0_6 : Value} {x0_7 : Value} {x0_8 : Value} {x1 : Value} {H : Heap} {Q : Value → Heap → Prop} (h : S_oram_level x0_0 x0_1 x0_2 x0_3 x0_4 x0_5 x0_6 x0_7 x0_8 x1 H Q) : callV Tryd.prog (fnV fn_oram_level) [(.agg #[x0_0, x0_1, x0_2, x0_3, x0_4, x0_5, x0_6, x0_7, x0_8]), x1] H Q :=
  callV_fn (hcalls_of (pv := [2, 4]) (ann := [(11, [48])]) Tryd.func59 (by kernel_rfl) (Eq.mpr (by kernel_rfl) h))

/-- thimblerig/thimblerigref18.Level -/
def S_ref18_Level (x0_0 : Value) (x0_1 : Value) (x0_2 : Value) (x0_3 : Value) (x0_4 : Value) (x0_5 : Value) (x0_6 : Value) (x0_7 : Value) (x0_8 : Value) (x1 : Value) (H : Heap) (Q : Value → Heap → Prop) : Prop :=
  newT H fun H =>
  newT H fun H =>
  callV Tryd.prog (fnV fn_ref08_May) [(.agg #[x0_0, x0_1, x0_2, x0_3, x0_4, x0_5, x0_6, x0_7, x0_8])] H fun t8 H =>
  unV .not t8 fun t9 =>
  asB t9 fun b9 =>
  ifB b9 (
  Q (.tuple #[(.agg #[(.int .i64 0), (.int .i64 0), (.int .i64 0), (.int .i64 0)]), (.bool false)]) H) (
  callV Tryd.prog (fnV fn_ref08_All) [(.agg #[x0_0, x0_1, x0_2, x0_3, x0_4, x0_5, x0_6, x0_7, x0_8])] H fun t12 H =>
  JoinPT (fun K17 =>
  binV (.int .i64) .lss x1 (.int .i64 0) fun t14 =>
  asB t14 fun b15 =>
  ifB b15 (
  K17 [[(.bool true)]] H) (
  lenSl t12 H fun t18 =>
  binV (.int .i64) .geq x1 t18 fun t19 =>
  K17 [[t19]] H)) fun s17 H =>
  asB (sv s17 0) fun b20 =>
  ifB b20 (
  Q (.tuple #[(.agg #[(.int .i64 0), (.int .i64 0), (.int .i64 0), (.int .i64 0)]), (.bool false)]) H) (
  idxS 4 t12 x1 fun t24 =>
  loadP true 4 t24 H fun t25 =>
  cellsV true 4 t25 fun c1 =>
  ifB (decide (0 + 4 ≤ ((setSeg [(.int .i64 0), (.int .i64 0), (.int .i64 0), (.int .i64 0)] 0 c1)).length)) (
  Q (.tuple #[(.agg (seg (setSeg [(.int .i64 0), (.int .i64 0), (.int .i64 0), (.int .i64 0)] 0 c1) 0 4).toArray), (.bool true)]) H) False))
theorem S_ref18_Level_of {x0_0 : Value} {x0_1 : Value} {x0_2 : Value} {x0_3 : Value} {x0_4 : Value} {x0_5 : Value} {x0_6 : Value} {x0_7 : Value} {x0_8 : Value} {x1 : Value} {H : Heap} {Q : Value → Heap → Prop} (h : S_ref18_Level x0_0 x0_1 x0_2 x0_3 x0_4 x0_5 x0_6 x0_7 x0_8 x1 H Q) : callV Tryd.prog (fnV fn_ref18_Level) [(.agg #[x0_0, x0_1, x0_2, x0_3, x0_4, x0_5, x0_6, x0_7, x0_8]), x1] H Q :=
  callV_fn (hcalls_of (pv := [2, 4]) (ann := [(17, [40])]) Tryd.func70 (by kernel_rfl) (Eq.mpr (by kernel_rfl) h))

end Go.Proofs.YtlmpjhbfgakgdaaDoor
