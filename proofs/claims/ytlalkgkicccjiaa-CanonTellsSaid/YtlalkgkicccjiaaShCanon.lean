/- Written by sh.py: what functions do, out of the deep reading; each is joined to the program by the kernel. -/
import Derived.Test.YtlalkgkicccjiaaShNames
namespace Go.Proofs.Ytlalkgkicccjiaa
open Go.Ab
set_option linter.unusedVariables false
set_option linter.unusedSimpArgs false
set_option maxRecDepth 100000

/-- thimblerig/canon.Count -/
def S_canon_Count (x0_0 : Value) (x0_1 : Value) (x0_2 : Value) (x0_3 : Value) (x0_4 : Value) (x0_5 : Value) (x0_6 : Value) (x0_7 : Value) (x0_8 : Value) (x1 : Value) (H : Heap) (Q : Value → Heap → Prop) : Prop :=
  newT H fun H =>
  callV Try.prog (fnV fn_conf_Seals) [(.agg #[x0_0, x0_1, x0_2, x0_3, x0_4, x0_5, x0_6, x0_7, x0_8])] H fun t11 H =>
  extractV 0 t11 fun t12 =>
  extractV 1 t11 fun t13 =>
  extractV 2 t11 fun t14 =>
  binV (.int .i64) .neq t14 (.int .i64 0) fun t17 =>
  asB t17 fun b15 =>
  ifB b15 (
  Q (.tuple #[(.int .i64 0), t14]) H) (
  JoinPT (fun K17 =>
  binV (.int .i64) .lss x1 (.int .i64 0) fun t21 =>
  asB t21 fun b22 =>
  ifB b22 (
  K17 [[(.bool true)]] H) (
  binV (.int .i64) .gtr x1 (.int .i64 512) fun t24 =>
  K17 [[t24]] H)) fun s17 H =>
  asB (sv s17 0) fun b19 =>
  ifB b19 (
  Q (.tuple #[(.int .i64 0), (.int .i64 4)]) H) (
  binV (.int .i64) .mul t13 x1 fun t29 =>
  binV (.int .i64) .add t12 t29 fun t30 =>
  Q (.tuple #[t30, (.int .i64 0)]) H))
theorem S_canon_Count_of {x0_0 : Value} {x0_1 : Value} {x0_2 : Value} {x0_3 : Value} {x0_4 : Value} {x0_5 : Value} {x0_6 : Value} {x0_7 : Value} {x0_8 : Value} {x1 : Value} {H : Heap} {Q : Value → Heap → Prop} (h : S_canon_Count x0_0 x0_1 x0_2 x0_3 x0_4 x0_5 x0_6 x0_7 x0_8 x1 H Q) : callV Try.prog (fnV fn_canon_Count) [(.agg #[x0_0, x0_1, x0_2, x0_3, x0_4, x0_5, x0_6, x0_7, x0_8]), x1] H Q :=
  callV_fn (hcalls_of (pv := [2]) (ann := [(17, [38])]) Try.func8 (by kernel_rfl) (Eq.mpr (by kernel_rfl) h))

/-- thimblerig/canon.Trace -/
def S_canon_Trace (x0_0 : Value) (x0_1 : Value) (x0_2 : Value) (x0_3 : Value) (x0_4 : Value) (x0_5 : Value) (x0_6 : Value) (x0_7 : Value) (x0_8 : Value) (x1 : Value) (x2 : Value) (x3 : Value) (H : Heap) (Q : Value → Heap → Prop) : Prop :=
  newC 23 [x0_0, x0_1, x0_2, x0_3, x0_4, x0_5, x0_6, x0_7, x0_8] H fun a4 H =>
  loadP true 9 (.pointer (some ⟨a4, 0, none⟩)) H fun t19 =>
  callV Try.prog (fnV fn_canon_asked) [t19, x1, x2, x3] H fun t23 H =>
  extractV 0 t23 fun t24 =>
  extractV 1 t23 fun t25 =>
  binV (.int .i64) .neq t25 (.int .i64 0) fun t27 =>
  asB t27 fun b27 =>
  ifB b27 (
  Q (.tuple #[(.slice none 0 0), t25]) H) (
  loadP true 9 (.pointer (some ⟨a4, 0, none⟩)) H fun t30 =>
  callV Try.prog (fnV fn_dev_New) [t30] H fun t31 H =>
  extractV 0 t31 fun t32 =>
  extractV 1 t31 fun t33 =>
  newC 58 [(.slice none 0 0)] H fun a12 H =>
  storeP true 1 (.pointer (some ⟨a12, 0, none⟩)) t32 H fun H =>
  loadP true 9 (.pointer (some ⟨a4, 0, none⟩)) H fun t34 =>
  loadP true 1 (.pointer (some ⟨a12, 0, none⟩)) H fun t35 =>
  cellsV true 9 t34 fun c1 =>
  cellsV true 1 t35 fun c2 =>
  ifB (decide (9 + 1 ≤ ((setSeg [(.int .i64 0), (.int .i64 0), (.int .i64 0), (.int .i64 0), (.int .i64 0), (.int .i64 0), (.int .i64 0), (.int .i64 0), (.int .i64 0), (.slice none 0 0), (.slice none 0 0), (.slice none 0 0)] 0 c1)).length)) (
  ifB (okc x2) (
  ifB (decide (10 + 1 ≤ ((setSeg (setSeg [(.int .i64 0), (.int .i64 0), (.int .i64 0), (.int .i64 0), (.int .i64 0), (.int .i64 0), (.int .i64 0), (.int .i64 0), (.int .i64 0), (.slice none 0 0), (.slice none 0 0), (.slice none 0 0)] 0 c1) 9 c2)).length)) (
  cellsU true 12 (.agg (setSeg (setSeg (setSeg [(.int .i64 0), (.int .i64 0), (.int .i64 0), (.int .i64 0), (.int .i64 0), (.int .i64 0), (.int .i64 0), (.int .i64 0), (.int .i64 0), (.slice none 0 0), (.slice none 0 0), (.slice none 0 0)] 0 c1) 9 c2) 10 [x2]).toArray) fun c3 =>
  newC 63 c3 H fun a38 H =>
  newC 64 [.nilFunc] H fun a15 H =>
  storeP false 1 (.pointer (some ⟨a15, 0, none⟩)) (.func (.func fn_canon_writer_turn) #[(.pointer (some ⟨a38, 0, none⟩))] #[]) H fun H =>
  callV Try.prog (fnV fn_canon_turns) [t24, x1, x3] H fun t44 H =>
  RangePT Try.prog t44 H (fun qs H R1 =>
  arg2 qs fun q1_0 q1_1 =>
  newC 45 [(.int .u8 0), (.int .i64 0), (.int .i64 0), (.slice none 0 0)] H fun a16 H =>
  storeP true 4 (.pointer (some ⟨a16, 0, none⟩)) q1_0 H fun H =>
  loadP false 1 (.pointer (some ⟨a15, 0, none⟩)) H fun t47 =>
  loadP true 4 (.pointer (some ⟨a16, 0, none⟩)) H fun t48 =>
  callV Try.prog t47 [t48, q1_1] H fun t50 H =>
  R1 none H) (fun H =>
  nilV (.pointer (some ⟨a38, 0, none⟩)) fun t52 =>
  fldP 11 t52 fun t53 =>
  loadP false 1 t53 H fun t54 =>
  Q (.tuple #[t54, (.int .i64 0)]) H) []) False) False) False)
theorem S_canon_Trace_of {x0_0 : Value} {x0_1 : Value} {x0_2 : Value} {x0_3 : Value} {x0_4 : Value} {x0_5 : Value} {x0_6 : Value} {x0_7 : Value} {x0_8 : Value} {x1 : Value} {x2 : Value} {x3 : Value} {H : Heap} {Q : Value → Heap → Prop} (h : S_canon_Trace x0_0 x0_1 x0_2 x0_3 x0_4 x0_5 x0_6 x0_7 x0_8 x1 x2 x3 H Q) : callV Try.prog (fnV fn_canon_Trace) [(.agg #[x0_0, x0_1, x0_2, x0_3, x0_4, x0_5, x0_6, x0_7, x0_8]), x1, x2, x3] H Q :=
  callV_fn (hcalls_of (pv := []) (ann := []) Try.func10 (by kernel_rfl) (Eq.mpr (by kernel_rfl) h))

/-- thimblerig/canon.Written -/
def S_canon_Written (x0 : Value) (H : Heap) (Q : Value → Heap → Prop) : Prop :=
  lenSl x0 H fun t6 =>
  LoopPT (fun s9 H K9 =>
  binV (.int .i64) .lss (sv s9 1) t6 fun t8 =>
  asB t8 fun b8 =>
  ifB b8 (
  idxS 4 x0 (sv s9 1) fun t9 =>
  loadP true 4 t9 H fun t10 =>
  newT H fun H =>
  cellsV true 4 t10 fun c1 =>
  ifB (decide (0 + 1 ≤ ((setSeg [(.int .u8 0), (.int .i64 0), (.int .i64 0), (.slice none 0 0)] 0 c1)).length)) (
  binV (.int .u8) .eql (mkV false (seg (setSeg [(.int .u8 0), (.int .i64 0), (.int .i64 0), (.slice none 0 0)] 0 c1) 0 1)) (.int .u8 2) fun t13 =>
  asB t13 fun b13 =>
  JoinPT (fun K18 =>
  ifB b13 (
  ifB (decide (3 + 1 ≤ ((setSeg [(.int .u8 0), (.int .i64 0), (.int .i64 0), (.slice none 0 0)] 0 c1)).length)) (
  callV Try.prog (fnV fn_slices_Clone_byte_byte) [(mkV false (seg (setSeg [(.int .u8 0), (.int .i64 0), (.int .i64 0), (.slice none 0 0)] 0 c1) 3 1))] H fun t17 H =>
  bldS 43 1 false (zeroL Try.prog 43) 1 [(0, t17)] H fun t18 H =>
  appS 43 1 24 (zeroL Try.prog 43) (sv s9 0) t18 H fun t19 H =>
  K18 [[t19]] H) False) (
  K18 [[(sv s9 0)]] H)) fun s18 H =>
  binV (.int .i64) .add (sv s9 1) (.int .i64 1) fun t20 =>
  K9 [[(sv s18 0)], [t20]] H) False) (
  Q (sv s9 0) H)) [[(.slice none 0 0)], [(.int .i64 0)]] H
theorem S_canon_Written_of {x0 : Value} {H : Heap} {Q : Value → Heap → Prop} (h : S_canon_Written x0 H Q) : callV Try.prog (fnV fn_canon_Written) [x0] H Q :=
  callV_fn (hcalls_of (pv := [4]) (ann := [(9, [4, 14]), (18, [4])]) Try.func14 (by kernel_rfl) (Eq.mpr (by kernel_rfl) h))

/-- thimblerig/canon.asked -/
def S_canon_asked (x0_0 : Value) (x0_1 : Value) (x0_2 : Value) (x0_3 : Value) (x0_4 : Value) (x0_5 : Value) (x0_6 : Value) (x0_7 : Value) (x0_8 : Value) (x1 : Value) (x2 : Value) (x3 : Value) (H : Heap) (Q : Value → Heap → Prop) : Prop :=
  newT H fun H =>
  callV Try.prog (fnV fn_canon_Count) [(.agg #[x0_0, x0_1, x0_2, x0_3, x0_4, x0_5, x0_6, x0_7, x0_8]), x3] H fun t17 H =>
  extractV 0 t17 fun t18 =>
  extractV 1 t17 fun t19 =>
  binV (.int .i64) .neq t19 (.int .i64 0) fun t21 =>
  asB t21 fun b21 =>
  ifB b21 (
  Q (.tuple #[(.slice none 0 0), t19]) H) (
  callV Try.prog (fnV fn_conf_Levels) [(.agg #[x0_0, x0_1, x0_2, x0_3, x0_4, x0_5, x0_6, x0_7, x0_8])] H fun t25 H =>
  extractV 0 t25 fun t26 =>
  extractV 1 t25 fun t27 =>
  callV Try.prog (fnV fn_canon_fit) [t26, x1, x2, t18, x3] H fun t33 H =>
  unV .not t33 fun t34 =>
  asB t34 fun b34 =>
  ifB b34 (
  Q (.tuple #[(.slice none 0 0), (.int .i64 2)]) H) (
  Q (.tuple #[t26, (.int .i64 0)]) H))
theorem S_canon_asked_of {x0_0 : Value} {x0_1 : Value} {x0_2 : Value} {x0_3 : Value} {x0_4 : Value} {x0_5 : Value} {x0_6 : Value} {x0_7 : Value} {x0_8 : Value} {x1 : Value} {x2 : Value} {x3 : Value} {H : Heap} {Q : Value → Heap → Prop} (h : S_canon_asked x0_0 x0_1 x0_2 x0_3 x0_4 x0_5 x0_6 x0_7 x0_8 x1 x2 x3 H Q) : callV Try.prog (fnV fn_canon_asked) [(.agg #[x0_0, x0_1, x0_2, x0_3, x0_4, x0_5, x0_6, x0_7, x0_8]), x1, x2, x3] H Q :=
  callV_fn (hcalls_of (pv := [4]) (ann := []) Try.func20 (by kernel_rfl) (Eq.mpr (by kernel_rfl) h))

/-- (*thimblerig/canon.writer).turn -/
def S_canon_writer_turn (x0 : Value) (x1_0 : Value) (x1_1 : Value) (x1_2 : Value) (x1_3 : Value) (x2 : Value) (H : Heap) (Q : Value → Heap → Prop) : Prop :=
  newT H fun H =>
  binV (.int .u8) .eql x1_0 (.int .u8 1) fun t9 =>
  asB t9 fun b9 =>
  JoinPT (fun K12 =>
  ifB b9 (
  nilV x0 fun t12 =>
  fldP 0 t12 fun t13 =>
  loadP true 9 t13 H fun t14 =>
  nilV x0 fun t16 =>
  fldP 9 t16 fun t17 =>
  loadP true 1 t17 H fun t18 =>
  callV Try.prog (fnV fn_dev_Read) [t14, t18, x1_1, x2] H fun t22 H =>
  extractV 0 t22 fun t23 =>
  extractV 1 t22 fun t24 =>
  extractV 2 t22 fun t25 =>
  K12 [[t24]] H) (
  nilV x0 fun t29 =>
  fldP 0 t29 fun t30 =>
  loadP true 9 t30 H fun t31 =>
  nilV x0 fun t33 =>
  fldP 9 t33 fun t34 =>
  loadP true 1 t34 H fun t35 =>
  nilV x0 fun t40 =>
  fldP 10 t40 fun t41 =>
  loadP false 1 t41 H fun t42 =>
  lenSl x2 H fun t44 =>
  slS 1 t42 none (some t44) none fun t45 =>
  callV Try.prog (fnV fn_dev_Write) [t31, t35, x1_1, x2, t45] H fun t46 H =>
  (lenSl x2 H fun u44 =>
  u44 = t44) ∧
  (loadP false 1 t41 H fun u42 =>
  u42 = t42) ∧
  (extractV 0 t46 fun t47 =>
  extractV 1 t46 fun t48 =>
  extractV 2 t46 fun t49 =>
  nilV x0 fun t50 =>
  fldP 9 t50 fun t51 =>
  storeP true 1 t51 t47 H fun H =>
  nilV x0 fun t54 =>
  fldP 10 t54 fun t55 =>
  loadP false 1 t55 H fun t56 =>
  lenSl x2 H fun t58 =>
  slS 1 t56 (some t58) none none fun t59 =>
  nilV x0 fun t60 =>
  fldP 10 t60 fun t61 =>
  storeP false 1 t61 t59 H fun H =>
  K12 [[t48]] H))) fun s12 H =>
  nilV x0 fun t64 =>
  fldP 11 t64 fun t65 =>
  loadP false 1 t65 H fun t66 =>
  appS 45 4 48 (zeroL Try.prog 45) t66 (sv s12 0) H fun t68 H =>
  nilV x0 fun t69 =>
  fldP 11 t69 fun t70 =>
  storeP false 1 t70 t68 H fun H =>
  Q (.tuple #[]) H
theorem S_canon_writer_turn_of {x0 : Value} {x1_0 : Value} {x1_1 : Value} {x1_2 : Value} {x1_3 : Value} {x2 : Value} {H : Heap} {Q : Value → Heap → Prop} (h : S_canon_writer_turn x0 x1_0 x1_1 x1_2 x1_3 x2 H Q) : callV Try.prog (fnV fn_canon_writer_turn) [x0, (.agg #[x1_0, x1_1, x1_2, x1_3]), x2] H Q :=
  callV_fn (hcalls_of (pv := [4]) (ann := [(12, [12])]) Try.func22 (by kernel_rfl) (Eq.mpr (by kernel_rfl) h))

/-- thimblerig/canon.turns -/
def S_canon_turns (x0 : Value) (x1 : Value) (x2 : Value) (H : Heap) (Q : Value → Heap → Prop) : Prop :=
  ifB (okc x0) (
  newC 53 [x0] H fun a3 H =>
  ifB (okc x1) (
  newC 24 [x1] H fun a4 H =>
  ifB (okc x2) (
  newC 3 [x2] H fun a5 H =>
  Q (.func (.func fn_canon_turns_1) #[] #[(.pointer (some ⟨a3, 0, none⟩)), (.pointer (some ⟨a5, 0, none⟩)), (.pointer (some ⟨a4, 0, none⟩))]) H) False) False) False
theorem S_canon_turns_of {x0 : Value} {x1 : Value} {x2 : Value} {H : Heap} {Q : Value → Heap → Prop} (h : S_canon_turns x0 x1 x2 H Q) : callV Try.prog (fnV fn_canon_turns) [x0, x1, x2] H Q :=
  callV_fn (hcalls_of (pv := []) (ann := []) Try.func23 (by kernel_rfl) (Eq.mpr (by kernel_rfl) h))

/-- thimblerig/thimblerigref21.SameCells -/
def S_ref21_SameCells (x0 : Value) (x1 : Value) (H : Heap) (Q : Value → Heap → Prop) : Prop :=
  lenSl x0 H fun t7 =>
  lenSl x1 H fun t9 =>
  binV (.int .i64) .neq t7 t9 fun t10 =>
  asB t10 fun b10 =>
  ifB b10 (
  Q (.bool false) H) (
  LoopPT (fun s15 H K15 =>
  lenSl x0 H fun t13 =>
  binV (.int .i64) .lss (sv s15 0) t13 fun t14 =>
  asB t14 fun b14 =>
  ifB b14 (
  idxS 1 x0 (sv s15 0) fun t19 =>
  loadP false 1 t19 H fun t20 =>
  idxS 1 x1 (sv s15 0) fun t23 =>
  loadP false 1 t23 H fun t24 =>
  binV (.int .u32) .neq t20 t24 fun t25 =>
  asB t25 fun b25 =>
  ifB b25 (
  Q (.bool false) H) (
  binV (.int .i64) .add (sv s15 0) (.int .i64 1) fun t16 =>
  K15 [[t16]] H)) (
  Q (.bool true) H)) [[(.int .i64 0)]] H)
theorem S_ref21_SameCells_of {x0 : Value} {x1 : Value} {H : Heap} {Q : Value → Heap → Prop} (h : S_ref21_SameCells x0 x1 H Q) : callV Try.prog (fnV fn_ref21_SameCells) [x0, x1] H Q :=
  callV_fn (hcalls_of (pv := []) (ann := [(15, [10])]) Try.func28 (by kernel_rfl) (Eq.mpr (by kernel_rfl) h))

/-- thimblerig/canon.fit -/
def S_canon_fit (x0 : Value) (x1 : Value) (x2 : Value) (x3 : Value) (x4 : Value) (H : Heap) (Q : Value → Heap → Prop) : Prop :=
  ifB (okc x0) (
  newC 53 [x0] H fun a5 H =>
  ifB (okc x2) (
  newC 25 [x2] H fun a7 H =>
  ifB (okc x4) (
  newC 3 [x4] H fun a9 H =>
  newC 4 [(.bool false)] H fun a10 H =>
  JoinPT (fun K8 =>
  lenSl x1 H fun t16 =>
  loadP false 1 (.pointer (some ⟨a5, 0, none⟩)) H fun t17 =>
  lenSl t17 H fun t18 =>
  binV (.int .i64) .neq t16 t18 fun t19 =>
  asB t19 fun b20 =>
  ifB b20 (
  K8 [[(.bool true)]] H) (
  loadP false 1 (.pointer (some ⟨a7, 0, none⟩)) H fun t21 =>
  lenSl t21 H fun t22 =>
  binV (.int .i64) .neq t22 x3 fun t24 =>
  asB t24 fun b26 =>
  ifB b26 (
  K8 [[(.bool true)]] H) (
  callV Try.prog (fnV fn_slices_ContainsFunc_uint32_uint32) [x1, (.func (.func fn_canon_fit_1) #[] #[(.pointer (some ⟨a9, 0, none⟩))])] H fun t29 H =>
  K8 [[t29]] H))) fun s8 H =>
  asB (sv s8 0) fun b30 =>
  ifB b30 (
  storeP false 1 (.pointer (some ⟨a10, 0, none⟩)) (.bool false) H fun H =>
  loadP false 1 (.pointer (some ⟨a10, 0, none⟩)) H fun r10 =>
  Q r10 H) (
  newC 101 [(.int .u64 0)] H fun a11 H =>
  storeP false 1 (.pointer (some ⟨a11, 0, none⟩)) (.int .u64 0) H fun H =>
  loadP false 1 (.pointer (some ⟨a5, 0, none⟩)) H fun t31 =>
  loadP false 1 (.pointer (some ⟨a9, 0, none⟩)) H fun t33 =>
  callV Try.prog (fnV fn_canon_turns) [t31, x1, t33] H fun t34 H =>
  RangePT Try.prog t34 H (fun qs H R1 =>
  arg2 qs fun q1_0 q1_1 =>
  newC 45 [(.int .u8 0), (.int .i64 0), (.int .i64 0), (.slice none 0 0)] H fun a12 H =>
  storeP true 4 (.pointer (some ⟨a12, 0, none⟩)) q1_0 H fun H =>
  JoinPT (fun K500001 =>
  fldP 0 (.pointer (some ⟨a12, 0, none⟩)) fun t37 =>
  loadP false 1 t37 H fun t38 =>
  binV (.int .u8) .eql t38 (.int .u8 1) fun t39 =>
  asB t39 fun b39 =>
  ifB b39 (
  K500001 [] H) (
  lenSl q1_1 H fun t41 =>
  LoopPT (fun s30 H K30 =>
  binV (.int .i64) .lss (sv s30 0) t41 fun t43 =>
  asB t43 fun b43 =>
  ifB b43 (
  loadP false 1 (.pointer (some ⟨a7, 0, none⟩)) H fun t44 =>
  loadP false 1 (.pointer (some ⟨a11, 0, none⟩)) H fun t45 =>
  idxS 1 t44 t45 fun t46 =>
  loadP false 1 t46 H fun t47 =>
  JoinPT (fun K38 =>
  lenSl t47 H fun t49 =>
  loadP false 1 (.pointer (some ⟨a5, 0, none⟩)) H fun t50 =>
  fldP 1 (.pointer (some ⟨a12, 0, none⟩)) fun t51 =>
  loadP false 1 t51 H fun t52 =>
  idxS 4 t50 t52 fun t53 =>
  fldP 3 t53 fun t54 =>
  loadP false 1 t54 H fun t55 =>
  binV (.int .i64) .add (.int .i64 8) t55 fun t56 =>
  binV (.int .i64) .neq t49 t56 fun t57 =>
  asB t57 fun b58 =>
  ifB b58 (
  (loadP false 1 t54 H fun u55 =>
  u55 = t55) ∧
  (loadP false 1 t51 H fun u52 =>
  u52 = t52) ∧
  (loadP false 1 (.pointer (some ⟨a5, 0, none⟩)) H fun u50 =>
  u50 = t50) ∧
  (lenSl t47 H fun u49 =>
  u49 = t49) ∧
  (K38 [[(.bool true)]] H)) (
  loadP false 1 (.pointer (some ⟨a11, 0, none⟩)) H fun t61 =>
  callV Try.prog (fnV fn_canon_number) [t47] H fun t60 H =>
  (loadP false 1 (.pointer (some ⟨a11, 0, none⟩)) H fun u61 =>
  u61 = t61) ∧
  (loadP false 1 t54 H fun u55 =>
  u55 = t55) ∧
  (loadP false 1 t51 H fun u52 =>
  u52 = t52) ∧
  (loadP false 1 (.pointer (some ⟨a5, 0, none⟩)) H fun u50 =>
  u50 = t50) ∧
  (lenSl t47 H fun u49 =>
  u49 = t49) ∧
  (binV (.int .u64) .neq t60 t61 fun t62 =>
  K38 [[t62]] H))) fun s38 H =>
  asB (sv s38 0) fun b63 =>
  ifB b63 (
  storeP false 1 (.pointer (some ⟨a10, 0, none⟩)) (.bool false) H fun H =>
  R1 (some none) H) (
  loadP false 1 (.pointer (some ⟨a11, 0, none⟩)) H fun t64 =>
  binV (.int .u64) .add t64 (.int .u64 1) fun t65 =>
  storeP false 1 (.pointer (some ⟨a11, 0, none⟩)) t65 H fun H =>
  binV (.int .i64) .add (sv s30 0) (.int .i64 1) fun t66 =>
  K30 [[t66]] H)) (
  K500001 [] H)) [[(.int .i64 0)]] H)) fun s500001 H =>
  R1 none H) (fun H =>
  storeP false 1 (.pointer (some ⟨a10, 0, none⟩)) (.bool true) H fun H =>
  loadP false 1 (.pointer (some ⟨a10, 0, none⟩)) H fun r10 =>
  Q r10 H) [(none, fun H =>
  loadP false 1 (.pointer (some ⟨a10, 0, none⟩)) H fun r10 =>
  Q r10 H)])) False) False) False
theorem S_canon_fit_of {x0 : Value} {x1 : Value} {x2 : Value} {x3 : Value} {x4 : Value} {H : Heap} {Q : Value → Heap → Prop} (h : S_canon_fit x0 x1 x2 x3 x4 H Q) : callV Try.prog (fnV fn_canon_fit) [x0, x1, x2, x3, x4] H Q :=
  callV_fn (hcalls_of (pv := []) (ann := [(8, [60]), (30, [84]), (38, [126]), (500001, [])]) Try.func34 (by kernel_rfl) (Eq.mpr (by kernel_rfl) h))

/-- thimblerig/canon.turns$1 -/
def S_canon_turns_1 (x0 : Value) (y0 : Value) (y1 : Value) (y2 : Value) (H : Heap) (Q : Value → Heap → Prop) : Prop :=
  ifB (okc x0) (
  newC 89 [x0] H fun a4 H =>
  newC 94 [.nilFunc] H fun a5 H =>
  storeP false 1 (.pointer (some ⟨a5, 0, none⟩)) (.func (.func fn_canon_turns_1_1) #[] #[y0, (.pointer (some ⟨a4, 0, none⟩))]) H fun H =>
  loadP false 1 y0 H fun t20 =>
  callV Try.prog (fnV fn_slices_Backward_api_Level_api_Level) [t20] H fun t21 H =>
  RangePT Try.prog t21 H (fun qs H R1 =>
  arg2 qs fun q1_0 q1_1 =>
  newC 76 [(.int .i64 0), (.int .i64 0), (.int .i64 0), (.int .i64 0)] H fun a7 H =>
  storeP true 4 (.pointer (some ⟨a7, 0, none⟩)) q1_1 H fun H =>
  fldP 2 (.pointer (some ⟨a7, 0, none⟩)) fun t25 =>
  loadP false 1 t25 H fun t26 =>
  callV Try.prog (fnV fn_geo_Buckets) [t26] H fun t27 H =>
  extractV 0 t27 fun t28 =>
  extractV 1 t27 fun t29 =>
  LoopPT (fun s27 H K27 =>
  binV (.int .i64) .lss (sv s27 1) t28 fun t32 =>
  asB t32 fun b32 =>
  ifB b32 (
  binV (.int .i64) .sub t28 (sv s27 1) fun t37 =>
  bldS 3 1 false (zeroL Try.prog 3) 1 [(0, t37)] H fun t38 H =>
  appS 3 1 8 (zeroL Try.prog 3) (sv s27 0) t38 H fun t39 H =>
  binV (.int .i64) .add (sv s27 1) (.int .i64 1) fun t40 =>
  K27 [[t39], [t40]] H) (
  loadP false 1 (.pointer (some ⟨a4, 0, none⟩)) H fun t41 =>
  ifB (okc q1_0) (
  callV Try.prog t41 [(.agg #[(.int .u8 2), q1_0, (.int .i64 0), (.slice none 0 0)]), (sv s27 0)] H fun t45 H =>
  unV .not t45 fun t46 =>
  asB t46 fun b46 =>
  ifB b46 (
  R1 (some none) H) (
  R1 none H)) False)) [[(.slice none 0 0)], [(.int .i64 0)]] H) (fun H =>
  loadP false 1 y1 H fun t47 =>
  LoopPT (fun s45 H K45 =>
  binV (.int .i64) .lss (sv s45 0) t47 fun t49 =>
  asB t49 fun b49 =>
  ifB b49 (
  newC 3 [(.int .i64 0)] H fun a12 H =>
  storeP false 1 (.pointer (some ⟨a12, 0, none⟩)) (sv s45 0) H fun H =>
  loadP false 1 y0 H fun t51 =>
  callV Try.prog (fnV fn_slices_Backward_api_Level_api_Level) [t51] H fun t52 H =>
  RangePT Try.prog t52 H (fun qs H R2 =>
  arg2 qs fun q2_0 q2_1 =>
  newC 76 [(.int .i64 0), (.int .i64 0), (.int .i64 0), (.int .i64 0)] H fun a14 H =>
  storeP true 4 (.pointer (some ⟨a14, 0, none⟩)) q2_1 H fun H =>
  fldP 2 (.pointer (some ⟨a14, 0, none⟩)) fun t56 =>
  loadP false 1 t56 H fun t57 =>
  loadP false 1 y2 H fun t58 =>
  idxS 1 t58 q2_0 fun t60 =>
  loadP false 1 t60 H fun t61 =>
  loadP false 1 (.pointer (some ⟨a12, 0, none⟩)) H fun t62 =>
  binV (.int .i64) .mul (.int .i64 2) t62 fun t63 =>
  idxS 1 t61 t63 fun t64 =>
  loadP false 1 t64 H fun t65 =>
  callV Try.prog (fnV fn_entry_Leaf) [t57, t65] H fun t66 H =>
  (loadP false 1 (.pointer (some ⟨a12, 0, none⟩)) H fun u62 =>
  u62 = t62) ∧
  (loadP false 1 t60 H fun u61 =>
  u61 = t61) ∧
  (loadP false 1 y2 H fun u58 =>
  u58 = t58) ∧
  (extractV 0 t66 fun t67 =>
  extractV 1 t66 fun t68 =>
  fldP 2 (.pointer (some ⟨a14, 0, none⟩)) fun t70 =>
  loadP false 1 t70 H fun t71 =>
  loadP false 1 (.pointer (some ⟨a12, 0, none⟩)) H fun t72 =>
  cvI .u64 t72 fun t73 =>
  callV Try.prog (fnV fn_geo_Reverse) [t71, t73] H fun t74 H =>
  extractV 0 t74 fun t75 =>
  extractV 1 t74 fun t76 =>
  JoinPT (fun K68 =>
  loadP false 1 (.pointer (some ⟨a5, 0, none⟩)) H fun t77 =>
  callV Try.prog t77 [q2_0, t67] H fun t80 H =>
  unV .not t80 fun t81 =>
  asB t81 fun b82 =>
  ifB b82 (
  K68 [[(.bool true)]] H) (
  loadP false 1 (.pointer (some ⟨a5, 0, none⟩)) H fun t83 =>
  callV Try.prog t83 [q2_0, t75] H fun t86 H =>
  unV .not t86 fun t87 =>
  K68 [[t87]] H)) fun s68 H =>
  asB (sv s68 0) fun b88 =>
  ifB b88 (
  R2 (some none) H) (
  R2 none H))) (fun H =>
  binV (.int .i64) .add (sv s45 0) (.int .i64 1) fun t89 =>
  K45 [[t89]] H) [(none, fun H =>
  Q (.tuple #[]) H)]) (
  Q (.tuple #[]) H)) [[(.int .i64 0)]] H) [(none, fun H =>
  Q (.tuple #[]) H)]) False
theorem S_canon_turns_1_of {x0 : Value} {y0 : Value} {y1 : Value} {y2 : Value} {H : Heap} {Q : Value → Heap → Prop} (h : S_canon_turns_1 x0 y0 y1 y2 H Q) : callV Try.prog (fnV fn_canon_turns_1) [x0, y0, y1, y2] H Q :=
  callV_fn (hcalls_of (pv := []) (ann := [(27, [20, 62]), (45, [96]), (68, [176])]) Try.func41 (by kernel_rfl) (Eq.mpr (by kernel_rfl) h))
theorem C_canon_turns_1_of {x0 : Value} {y0 : Value} {y1 : Value} {y2 : Value} {H : Heap} {Q : Value → Heap → Prop} (h : S_canon_turns_1 x0 y0 y1 y2 H Q) : callV Try.prog (.func (.func fn_canon_turns_1) #[] #[y0, y1, y2]) [x0] H Q :=
  callV_cl (S_canon_turns_1_of h)

/-- thimblerig/canon.turns$1$1 -/
def S_canon_turns_1_1 (x0 : Value) (x1 : Value) (y0 : Value) (y1 : Value) (H : Heap) (Q : Value → Heap → Prop) : Prop :=
  loadP false 1 y0 H fun t11 =>
  idxS 4 t11 x0 fun t13 =>
  fldP 2 t13 fun t14 =>
  loadP false 1 t14 H fun t15 =>
  callV Try.prog (fnV fn_geo_Path) [t15, x1] H fun t17 H =>
  extractV 0 t17 fun t18 =>
  extractV 1 t17 fun t19 =>
  loadP false 1 y1 H fun t20 =>
  ifB (okc x0) (
  callV Try.prog t20 [(.agg #[(.int .u8 1), x0, (.int .i64 0), (.slice none 0 0)]), t18] H fun t24 H =>
  unV .not t24 fun t25 =>
  asB t25 fun b25 =>
  ifB b25 (
  Q (.bool false) H) (
  callV Try.prog (fnV fn_slices_Clone_int_int) [t18] H fun t27 H =>
  callV Try.prog (fnV fn_slices_Reverse_int_int) [t27] H fun t29 H =>
  loadP false 1 y1 H fun t30 =>
  ifB (okc x0) (
  callV Try.prog t30 [(.agg #[(.int .u8 2), x0, (.int .i64 0), (.slice none 0 0)]), t27] H fun t34 H =>
  Q t34 H) False)) False
theorem S_canon_turns_1_1_of {x0 : Value} {x1 : Value} {y0 : Value} {y1 : Value} {H : Heap} {Q : Value → Heap → Prop} (h : S_canon_turns_1_1 x0 x1 y0 y1 H Q) : callV Try.prog (fnV fn_canon_turns_1_1) [x0, x1, y0, y1] H Q :=
  callV_fn (hcalls_of (pv := []) (ann := []) Try.func42 (by kernel_rfl) (Eq.mpr (by kernel_rfl) h))
theorem C_canon_turns_1_1_of {x0 : Value} {x1 : Value} {y0 : Value} {y1 : Value} {H : Heap} {Q : Value → Heap → Prop} (h : S_canon_turns_1_1 x0 x1 y0 y1 H Q) : callV Try.prog (.func (.func fn_canon_turns_1_1) #[] #[y0, y1]) [x0, x1] H Q :=
  callV_cl (S_canon_turns_1_1_of h)

/-- thimblerig/entry.Leaf -/
def S_entry_Leaf (x0 : Value) (x1 : Value) (H : Heap) (Q : Value → Heap → Prop) : Prop :=
  callV Try.prog (fnV fn_geo_Leaves) [x0] H fun t10 H =>
  extractV 0 t10 fun t11 =>
  extractV 1 t10 fun t12 =>
  binV (.int .i64) .neq t12 (.int .i64 0) fun t14 =>
  asB t14 fun b14 =>
  ifB b14 (
  Q (.tuple #[(.int .i64 0), t12]) H) (
  cvI .i64 x1 fun t17 =>
  binV (.int .i64) .sub t11 (.int .i64 1) fun t19 =>
  binV (.int .i64) .and t17 t19 fun t20 =>
  Q (.tuple #[t20, (.int .i64 0)]) H)
theorem S_entry_Leaf_of {x0 : Value} {x1 : Value} {H : Heap} {Q : Value → Heap → Prop} (h : S_entry_Leaf x0 x1 H Q) : callV Try.prog (fnV fn_entry_Leaf) [x0, x1] H Q :=
  callV_fn (hcalls_of (pv := []) (ann := []) Try.func47 (by kernel_rfl) (Eq.mpr (by kernel_rfl) h))

/-- thimblerig/canon.fit$1 -/
def S_canon_fit_1 (x0 : Value) (y0 : Value) (H : Heap) (Q : Value → Heap → Prop) : Prop :=
  lenSl x0 H fun t5 =>
  loadP false 1 y0 H fun t6 =>
  binV (.int .i64) .mul (.int .i64 2) t6 fun t7 =>
  binV (.int .i64) .neq t5 t7 fun t8 =>
  Q t8 H
theorem S_canon_fit_1_of {x0 : Value} {y0 : Value} {H : Heap} {Q : Value → Heap → Prop} (h : S_canon_fit_1 x0 y0 H Q) : callV Try.prog (fnV fn_canon_fit_1) [x0, y0] H Q :=
  callV_fn (hcalls_of (pv := []) (ann := []) Try.func59 (by kernel_rfl) (Eq.mpr (by kernel_rfl) h))
theorem C_canon_fit_1_of {x0 : Value} {y0 : Value} {H : Heap} {Q : Value → Heap → Prop} (h : S_canon_fit_1 x0 y0 H Q) : callV Try.prog (.func (.func fn_canon_fit_1) #[] #[y0]) [x0] H Q :=
  callV_cl (S_canon_fit_1_of h)

/-- thimblerig/canon.number -/
def S_canon_number (x0 : Value) (H : Heap) (Q : Value → Heap → Prop) : Prop :=
  LoopPT (fun s9 H K9 =>
  binV (.int .i64) .lss (sv s9 1) (.int .i64 8) fun t5 =>
  asB t5 fun b5 =>
  ifB b5 (
  idxS 1 x0 (sv s9 1) fun t10 =>
  loadP false 1 t10 H fun t11 =>
  cvI .u64 t11 fun t12 =>
  binV (.int .i64) .mul (.int .i64 8) (sv s9 1) fun t14 =>
  binV (.int .u64) .shl t12 t14 fun t15 =>
  binV (.int .u64) .or (sv s9 0) t15 fun t16 =>
  binV (.int .i64) .add (sv s9 1) (.int .i64 1) fun t17 =>
  K9 [[t16], [t17]] H) (
  Q (sv s9 0) H)) [[(.int .u64 0)], [(.int .i64 0)]] H
theorem S_canon_number_of {x0 : Value} {H : Heap} {Q : Value → Heap → Prop} (h : S_canon_number x0 H Q) : callV Try.prog (fnV fn_canon_number) [x0] H Q :=
  callV_fn (hcalls_of (pv := []) (ann := [(9, [4, 8])]) Try.func60 (by kernel_rfl) (Eq.mpr (by kernel_rfl) h))

/-- thimblerig/thimblerigref15.Many -/
def S_ref15_Many (x0_0 : Value) (x0_1 : Value) (x0_2 : Value) (x0_3 : Value) (H : Heap) (Q : Value → Heap → Prop) : Prop :=
  newT H fun H =>
  callV Try.prog (fnV fn_ref07_Many) [x0_2] H fun t5 H =>
  binV (.int .i64) .mul (.int .i64 2) t5 fun t6 =>
  binV (.int .i64) .sub t6 (.int .i64 1) fun t7 =>
  Q t7 H
theorem S_ref15_Many_of {x0_0 : Value} {x0_1 : Value} {x0_2 : Value} {x0_3 : Value} {H : Heap} {Q : Value → Heap → Prop} (h : S_ref15_Many x0_0 x0_1 x0_2 x0_3 H Q) : callV Try.prog (fnV fn_ref15_Many) [(.agg #[x0_0, x0_1, x0_2, x0_3])] H Q :=
  callV_fn (hcalls_of (pv := [1]) (ann := []) Try.func71 (by kernel_rfl) (Eq.mpr (by kernel_rfl) h))

/-- thimblerig/thimblerigref19.Of -/
def S_ref19_Of (x0 : Value) (x1 : Value) (H : Heap) (Q : Value → Heap → Prop) : Prop :=
  cvI .i64 x1 fun t6 =>
  callV Try.prog (fnV fn_ref07_Many) [x0] H fun t8 H =>
  binV (.int .i64) .rem t6 t8 fun t9 =>
  Q t9 H
theorem S_ref19_Of_of {x0 : Value} {x1 : Value} {H : Heap} {Q : Value → Heap → Prop} (h : S_ref19_Of x0 x1 H Q) : callV Try.prog (fnV fn_ref19_Of) [x0, x1] H Q :=
  callV_fn (hcalls_of (pv := []) (ann := []) Try.func72 (by kernel_rfl) (Eq.mpr (by kernel_rfl) h))

end Go.Proofs.Ytlalkgkicccjiaa
