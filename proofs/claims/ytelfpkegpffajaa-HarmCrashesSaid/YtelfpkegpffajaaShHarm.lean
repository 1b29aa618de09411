/- Written by sh.py: what functions do, out of the deep reading; each is joined to the program by the kernel. -/
import Derived.Test.YtelfpkegpffajaaShNames
namespace Go.Proofs.Ytelfpkegpffajaa
open Go.Ab
set_option linter.unusedVariables false
set_option linter.unusedSimpArgs false
set_option maxRecDepth 100000

/-- thimblerig/harm.Do -/
def S_harm_Do (x0_0 : Value) (x0_1 : Value) (x0_2 : Value) (x0_3 : Value) (x0_4 : Value) (x0_5 : Value) (x0_6 : Value) (x0_7 : Value) (x0_8 : Value) (x1_0 : Value) (x2 : Value) (x3_0 : Value) (x3_1 : Value) (x3_2 : Value) (x3_3 : Value) (x3_4 : Value) (x3_5 : Value) (H : Heap) (Q : Value → Heap → Prop) : Prop :=
  newT H fun H =>
  newT H fun H =>
  newT H fun H =>
  newC 26 [(.slice none 0 0)] H fun a8 H =>
  newC 34 [(.int .i64 0)] H fun a9 H =>
  callP Try.prog (fnV fn_dev_Replay) [(.agg #[x0_0, x0_1, x0_2, x0_3, x0_4, x0_5, x0_6, x0_7, x0_8]), (.agg #[x1_0]), x2] H (fun t21 H =>
  extractV 0 t21 fun t22 =>
  extractV 1 t21 fun t23 =>
  newT H fun H =>
  cellsV true 1 t22 fun c1 =>
  binV (.int .i64) .neq t23 (.int .i64 0) fun t25 =>
  asB t25 fun b25 =>
  ifB b25 (
  loadP true 1 (.pointer (some ⟨a8, 0, none⟩)) H fun t26 =>
  storeP true 1 (.pointer (some ⟨a8, 0, none⟩)) t26 H fun H =>
  storeP false 1 (.pointer (some ⟨a9, 0, none⟩)) t23 H fun H =>
  loadP true 1 (.pointer (some ⟨a8, 0, none⟩)) H fun r8 =>
  loadP false 1 (.pointer (some ⟨a9, 0, none⟩)) H fun r9 =>
  Q (.tuple #[r8, r9]) H) (
  binV (.int .u8) .eql x3_0 (.int .u8 5) fun t31 =>
  asB t31 fun b31 =>
  ifB b31 (
  callP Try.prog (fnV fn_dev_New) [(.agg #[x0_0, x0_1, x0_2, x0_3, x0_4, x0_5, x0_6, x0_7, x0_8])] H (fun t34 H =>
  extractV 0 t34 fun t35 =>
  extractV 1 t34 fun t36 =>
  newT H fun H =>
  cellsV true 1 t35 fun c2 =>
  ifB (decide (0 + 1 ≤ ((setSeg [(.slice none 0 0)] 0 c2)).length)) (
  callP Try.prog (fnV fn_harm_behind) [x2, x3_4] H (fun t42 H =>
  callP Try.prog (fnV fn_dev_Replay) [(.agg #[x0_0, x0_1, x0_2, x0_3, x0_4, x0_5, x0_6, x0_7, x0_8]), (.agg (seg (setSeg [(.slice none 0 0)] 0 c2) 0 1).toArray), t42] H (fun t43 H =>
  extractV 0 t43 fun t44 =>
  extractV 1 t43 fun t45 =>
  storeP true 1 (.pointer (some ⟨a8, 0, none⟩)) t44 H fun H =>
  storeP false 1 (.pointer (some ⟨a9, 0, none⟩)) t45 H fun H =>
  callD Try.prog (.func (.func fn_harm_Do_1) #[] #[(.pointer (some ⟨a8, 0, none⟩)), (.pointer (some ⟨a9, 0, none⟩))]) none H fun H =>
  loadP true 1 (.pointer (some ⟨a8, 0, none⟩)) H fun r8 =>
  loadP false 1 (.pointer (some ⟨a9, 0, none⟩)) H fun r9 =>
  Q (.tuple #[r8, r9]) H) fun ch H =>
  callD Try.prog (.func (.func fn_harm_Do_1) #[] #[(.pointer (some ⟨a8, 0, none⟩)), (.pointer (some ⟨a9, 0, none⟩))]) (some ch) H fun H =>
  loadP true 1 (.pointer (some ⟨a8, 0, none⟩)) H fun r8 =>
  loadP false 1 (.pointer (some ⟨a9, 0, none⟩)) H fun r9 =>
  Q (.tuple #[r8, r9]) H) fun ch H =>
  callD Try.prog (.func (.func fn_harm_Do_1) #[] #[(.pointer (some ⟨a8, 0, none⟩)), (.pointer (some ⟨a9, 0, none⟩))]) (some ch) H fun H =>
  loadP true 1 (.pointer (some ⟨a8, 0, none⟩)) H fun r8 =>
  loadP false 1 (.pointer (some ⟨a9, 0, none⟩)) H fun r9 =>
  Q (.tuple #[r8, r9]) H) False) fun ch H =>
  callD Try.prog (.func (.func fn_harm_Do_1) #[] #[(.pointer (some ⟨a8, 0, none⟩)), (.pointer (some ⟨a9, 0, none⟩))]) (some ch) H fun H =>
  loadP true 1 (.pointer (some ⟨a8, 0, none⟩)) H fun r8 =>
  loadP false 1 (.pointer (some ⟨a9, 0, none⟩)) H fun r9 =>
  Q (.tuple #[r8, r9]) H) (
  callP Try.prog (fnV fn_dev_Twin) [(.agg #[x1_0])] H (fun t47 H =>
  storeP true 1 (.pointer (some ⟨a8, 0, none⟩)) t47 H fun H =>
  loadP true 1 (.pointer (some ⟨a8, 0, none⟩)) H fun t48 =>
  callP Try.prog (fnV fn_harm_bucket) [t48, x3_1, x3_2] H (fun t53 H =>
  callP Try.prog (fnV fn_harm_Versions) [x2, x3_1, x3_2] H (fun t59 H =>
  JoinPT (fun K500000 =>
  JoinPT (fun K500004 =>
  binV (.int .u8) .eql x3_0 (.int .u8 1) fun t63 =>
  asB t63 fun b62 =>
  ifB b62 (
  JoinPT (fun K53 =>
  binV (.int .i64) .geq x3_4 (.int .i64 0) fun t72 =>
  asB t72 fun b73 =>
  ifB b73 (
  nilV t53 fun t77 =>
  loadP false 1 t77 H fun t78 =>
  lenSl t78 H fun t79 =>
  binV (.int .i64) .lss x3_4 t79 fun t80 =>
  asB t80 fun b82 =>
  ifB b82 (
  binV (.int .u8) .gtr x3_5 (.int .u8 0) fun t85 =>
  callP Try.prog (fnV fn_harm_need) [t85] H (fun t87 H =>
  (lenSl t78 H fun u79 =>
  u79 = t79) ∧
  (loadP false 1 t77 H fun u78 =>
  u78 = t78) ∧
  (K53 [] H)) fun ch H =>
  callD Try.prog (.func (.func fn_harm_Do_1) #[] #[(.pointer (some ⟨a8, 0, none⟩)), (.pointer (some ⟨a9, 0, none⟩))]) (some ch) H fun H =>
  loadP true 1 (.pointer (some ⟨a8, 0, none⟩)) H fun r8 =>
  loadP false 1 (.pointer (some ⟨a9, 0, none⟩)) H fun r9 =>
  Q (.tuple #[r8, r9]) H) (
  callP Try.prog (fnV fn_harm_need) [(.bool false)] H (fun t87 H =>
  (lenSl t78 H fun u79 =>
  u79 = t79) ∧
  (loadP false 1 t77 H fun u78 =>
  u78 = t78) ∧
  (K53 [] H)) fun ch H =>
  callD Try.prog (.func (.func fn_harm_Do_1) #[] #[(.pointer (some ⟨a8, 0, none⟩)), (.pointer (some ⟨a9, 0, none⟩))]) (some ch) H fun H =>
  loadP true 1 (.pointer (some ⟨a8, 0, none⟩)) H fun r8 =>
  loadP false 1 (.pointer (some ⟨a9, 0, none⟩)) H fun r9 =>
  Q (.tuple #[r8, r9]) H)) (
  callP Try.prog (fnV fn_harm_need) [(.bool false)] H (fun t87 H =>
  K53 [] H) fun ch H =>
  callD Try.prog (.func (.func fn_harm_Do_1) #[] #[(.pointer (some ⟨a8, 0, none⟩)), (.pointer (some ⟨a9, 0, none⟩))]) (some ch) H fun H =>
  loadP true 1 (.pointer (some ⟨a8, 0, none⟩)) H fun r8 =>
  loadP false 1 (.pointer (some ⟨a9, 0, none⟩)) H fun r9 =>
  Q (.tuple #[r8, r9]) H)) fun s53 H =>
  nilV t53 fun t89 =>
  loadP false 1 t89 H fun t90 =>
  idxS 1 t90 x3_4 fun t93 =>
  loadP false 1 t93 H fun t94 =>
  binV (.int .u8) .xor t94 x3_5 fun t97 =>
  idxS 1 t90 x3_4 fun t98 =>
  storeP false 1 t98 t97 H fun H =>
  K500000 [[x3_0, x3_1, x3_2, x3_3, x3_4, x3_5]] H) (
  binV (.int .u8) .eql x3_0 (.int .u8 2) fun t65 =>
  asB t65 fun b64 =>
  ifB b64 (
  loadP true 1 (.pointer (some ⟨a8, 0, none⟩)) H fun t99 =>
  callP Try.prog (fnV fn_harm_bucket) [t99, x3_1, x3_3] H (fun t104 H =>
  nilV t104 fun t108 =>
  loadP false 1 t108 H fun t109 =>
  nilV t53 fun t111 =>
  loadP false 1 t111 H fun t112 =>
  nilV t53 fun t113 =>
  storeP false 1 t113 t109 H fun H =>
  nilV t104 fun t114 =>
  storeP false 1 t114 t112 H fun H =>
  K500000 [[x3_0, x3_1, x3_2, x3_3, x3_4, x3_5]] H) fun ch H =>
  callD Try.prog (.func (.func fn_harm_Do_1) #[] #[(.pointer (some ⟨a8, 0, none⟩)), (.pointer (some ⟨a9, 0, none⟩))]) (some ch) H fun H =>
  loadP true 1 (.pointer (some ⟨a8, 0, none⟩)) H fun r8 =>
  loadP false 1 (.pointer (some ⟨a9, 0, none⟩)) H fun r9 =>
  Q (.tuple #[r8, r9]) H) (
  binV (.int .u8) .eql x3_0 (.int .u8 4) fun t67 =>
  asB t67 fun b66 =>
  ifB b66 (
  lenSl t59 H fun t116 =>
  binV (.int .i64) .gtr t116 (.int .i64 0) fun t117 =>
  callP Try.prog (fnV fn_harm_need) [t117] H (fun t118 H =>
  lenSl t59 H fun t120 =>
  binV (.int .i64) .sub t120 (.int .i64 1) fun t121 =>
  ifB (okc t121) (
  nilV t53 fun t125 =>
  loadP false 1 t125 H fun t126 =>
  lenSl t126 H fun t127 =>
  mkS 5 1 1 (zeroL Try.prog 5) t127 t127 H fun t128 H =>
  bldS 44 1 false (zeroL Try.prog 44) 1 [(0, t128)] H fun t129 H =>
  callP Try.prog (fnV fn_slices_Insert_byte_byte) [t59, (.int .i64 0), t129] H (fun t130 H =>
  K500004 [[x3_0, x3_1, x3_2, x3_3, t121, x3_5], [t130]] H) fun ch H =>
  callD Try.prog (.func (.func fn_harm_Do_1) #[] #[(.pointer (some ⟨a8, 0, none⟩)), (.pointer (some ⟨a9, 0, none⟩))]) (some ch) H fun H =>
  loadP true 1 (.pointer (some ⟨a8, 0, none⟩)) H fun r8 =>
  loadP false 1 (.pointer (some ⟨a9, 0, none⟩)) H fun r9 =>
  Q (.tuple #[r8, r9]) H) False) fun ch H =>
  callD Try.prog (.func (.func fn_harm_Do_1) #[] #[(.pointer (some ⟨a8, 0, none⟩)), (.pointer (some ⟨a9, 0, none⟩))]) (some ch) H fun H =>
  loadP true 1 (.pointer (some ⟨a8, 0, none⟩)) H fun r8 =>
  loadP false 1 (.pointer (some ⟨a9, 0, none⟩)) H fun r9 =>
  Q (.tuple #[r8, r9]) H) (
  binV (.int .u8) .eql x3_0 (.int .u8 3) fun t69 =>
  asB t69 fun b68 =>
  ifB b68 (
  K500004 [[x3_0, x3_1, x3_2, x3_3, x3_4, x3_5], [t59]] H) (
  callP Try.prog (fnV fn_harm_need) [(.bool false)] H (fun t149 H =>
  K500000 [[x3_0, x3_1, x3_2, x3_3, x3_4, x3_5]] H) fun ch H =>
  callD Try.prog (.func (.func fn_harm_Do_1) #[] #[(.pointer (some ⟨a8, 0, none⟩)), (.pointer (some ⟨a9, 0, none⟩))]) (some ch) H fun H =>
  loadP true 1 (.pointer (some ⟨a8, 0, none⟩)) H fun r8 =>
  loadP false 1 (.pointer (some ⟨a9, 0, none⟩)) H fun r9 =>
  Q (.tuple #[r8, r9]) H))))) fun s500004 H =>
  JoinPT (fun K74 =>
  ifB (decide (4 + 1 ≤ ((sc s500004 0)).length)) (
  binV (.int .i64) .geq (mkV false (seg (sc s500004 0) 4 1)) (.int .i64 0) fun t133 =>
  asB t133 fun b134 =>
  ifB b134 (
  ifB (decide (4 + 1 ≤ ((sc s500004 0)).length)) (
  lenSl (sv s500004 1) H fun t138 =>
  binV (.int .i64) .lss (mkV false (seg (sc s500004 0) 4 1)) t138 fun t139 =>
  callP Try.prog (fnV fn_harm_need) [t139] H (fun t141 H =>
  K74 [] H) fun ch H =>
  callD Try.prog (.func (.func fn_harm_Do_1) #[] #[(.pointer (some ⟨a8, 0, none⟩)), (.pointer (some ⟨a9, 0, none⟩))]) (some ch) H fun H =>
  loadP true 1 (.pointer (some ⟨a8, 0, none⟩)) H fun r8 =>
  loadP false 1 (.pointer (some ⟨a9, 0, none⟩)) H fun r9 =>
  Q (.tuple #[r8, r9]) H) False) (
  callP Try.prog (fnV fn_harm_need) [(.bool false)] H (fun t141 H =>
  K74 [] H) fun ch H =>
  callD Try.prog (.func (.func fn_harm_Do_1) #[] #[(.pointer (some ⟨a8, 0, none⟩)), (.pointer (some ⟨a9, 0, none⟩))]) (some ch) H fun H =>
  loadP true 1 (.pointer (some ⟨a8, 0, none⟩)) H fun r8 =>
  loadP false 1 (.pointer (some ⟨a9, 0, none⟩)) H fun r9 =>
  Q (.tuple #[r8, r9]) H)) False) fun s74 H =>
  ifB (decide (4 + 1 ≤ ((sc s500004 0)).length)) (
  idxS 1 (sv s500004 1) (mkV false (seg (sc s500004 0) 4 1)) fun t146 =>
  loadP false 1 t146 H fun t147 =>
  nilV t53 fun t148 =>
  storeP false 1 t148 t147 H fun H =>
  K500000 [(sc s500004 0)] H) False) fun s500000 H =>
  loadP true 1 (.pointer (some ⟨a8, 0, none⟩)) H fun t150 =>
  storeP true 1 (.pointer (some ⟨a8, 0, none⟩)) t150 H fun H =>
  storeP false 1 (.pointer (some ⟨a9, 0, none⟩)) (.int .i64 0) H fun H =>
  callD Try.prog (.func (.func fn_harm_Do_1) #[] #[(.pointer (some ⟨a8, 0, none⟩)), (.pointer (some ⟨a9, 0, none⟩))]) none H fun H =>
  loadP true 1 (.pointer (some ⟨a8, 0, none⟩)) H fun r8 =>
  loadP false 1 (.pointer (some ⟨a9, 0, none⟩)) H fun r9 =>
  Q (.tuple #[r8, r9]) H) fun ch H =>
  callD Try.prog (.func (.func fn_harm_Do_1) #[] #[(.pointer (some ⟨a8, 0, none⟩)), (.pointer (some ⟨a9, 0, none⟩))]) (some ch) H fun H =>
  loadP true 1 (.pointer (some ⟨a8, 0, none⟩)) H fun r8 =>
  loadP false 1 (.pointer (some ⟨a9, 0, none⟩)) H fun r9 =>
  Q (.tuple #[r8, r9]) H) fun ch H =>
  callD Try.prog (.func (.func fn_harm_Do_1) #[] #[(.pointer (some ⟨a8, 0, none⟩)), (.pointer (some ⟨a9, 0, none⟩))]) (some ch) H fun H =>
  loadP true 1 (.pointer (some ⟨a8, 0, none⟩)) H fun r8 =>
  loadP false 1 (.pointer (some ⟨a9, 0, none⟩)) H fun r9 =>
  Q (.tuple #[r8, r9]) H) fun ch H =>
  callD Try.prog (.func (.func fn_harm_Do_1) #[] #[(.pointer (some ⟨a8, 0, none⟩)), (.pointer (some ⟨a9, 0, none⟩))]) (some ch) H fun H =>
  loadP true 1 (.pointer (some ⟨a8, 0, none⟩)) H fun r8 =>
  loadP false 1 (.pointer (some ⟨a9, 0, none⟩)) H fun r9 =>
  Q (.tuple #[r8, r9]) H))) fun ch H =>
  False
theorem S_harm_Do_of {x0_0 : Value} {x0_1 : Value} {x0_2 : Value} {x0_3 : Value} {x0_4 : Value} {x0_5 : Value} {x0_6 : Value} {x0_7 : Value} {x0_8 : Value} {x1_0 : Value} {x2 : Value} {x3_0 : Value} {x3_1 : Value} {x3_2 : Value} {x3_3 : Value} {x3_4 : Value} {x3_5 : Value} {H : Heap} {Q : Value → Heap → Prop} (h : S_harm_Do x0_0 x0_1 x0_2 x0_3 x0_4 x0_5 x0_6 x0_7 x0_8 x1_0 x2 x3_0 x3_1 x3_2 x3_3 x3_4 x3_5 H Q) : callV Try.prog (fnV fn_harm_Do) [(.agg #[x0_0, x0_1, x0_2, x0_3, x0_4, x0_5, x0_6, x0_7, x0_8]), (.agg #[x1_0]), x2, (.agg #[x3_0, x3_1, x3_2, x3_3, x3_4, x3_5])] H Q :=
  callV_fn (hcallsD_of (pv := [4, 5, 7, 10, 12]) (ann := [(53, []), (74, []), (500000, [15]), (500004, [15, 30]), (999999, [])]) Try.func11 (by kernel_rfl) (Eq.mpr (by kernel_rfl) h))

/-- thimblerig/thimblerigref13.Do -/
def S_ref13_Do (x0_0 : Value) (x0_1 : Value) (x0_2 : Value) (x0_3 : Value) (x0_4 : Value) (x0_5 : Value) (x0_6 : Value) (x0_7 : Value) (x0_8 : Value) (x1_0 : Value) (x2 : Value) (x3_0 : Value) (x3_1 : Value) (x3_2 : Value) (x3_3 : Value) (x3_4 : Value) (x3_5 : Value) (H : Heap) (Q : Value → Heap → Prop) : Prop :=
  newT H fun H =>
  newT H fun H =>
  newT H fun H =>
  newT H fun H =>
  callV Try.prog (fnV fn_ref12_Replay) [(.agg #[x0_0, x0_1, x0_2, x0_3, x0_4, x0_5, x0_6, x0_7, x0_8]), (.agg #[x1_0]), x2] H fun t16 H =>
  extractV 0 t16 fun t17 =>
  extractV 1 t16 fun t18 =>
  newT H fun H =>
  cellsV true 1 t17 fun c1 =>
  binV (.int .i64) .neq t18 (.int .i64 0) fun t20 =>
  asB t20 fun b20 =>
  ifB b20 (
  Q (.tuple #[(.agg #[(.slice none 0 0)]), t18]) H) (
  callV Try.prog (fnV fn_ref13_May) [(.agg #[x1_0]), x2, (.agg #[x3_0, x3_1, x3_2, x3_3, x3_4, x3_5])] H fun t26 H =>
  unV .not t26 fun t27 =>
  asB t27 fun b27 =>
  ifB b27 (
  Q (.tuple #[(.agg #[(.slice none 0 0)]), (.int .i64 2)]) H) (
  callV Try.prog (fnV fn_ref13_Done) [(.agg #[x0_0, x0_1, x0_2, x0_3, x0_4, x0_5, x0_6, x0_7, x0_8]), (.agg #[x1_0]), x2, (.agg #[x3_0, x3_1, x3_2, x3_3, x3_4, x3_5])] H fun t33 H =>
  cellsV true 1 t33 fun c2 =>
  ifB (decide (0 + 1 ≤ ((setSeg [(.slice none 0 0)] 0 c2)).length)) (
  Q (.tuple #[(.agg (seg (setSeg [(.slice none 0 0)] 0 c2) 0 1).toArray), (.int .i64 0)]) H) False))
theorem S_ref13_Do_of {x0_0 : Value} {x0_1 : Value} {x0_2 : Value} {x0_3 : Value} {x0_4 : Value} {x0_5 : Value} {x0_6 : Value} {x0_7 : Value} {x0_8 : Value} {x1_0 : Value} {x2 : Value} {x3_0 : Value} {x3_1 : Value} {x3_2 : Value} {x3_3 : Value} {x3_4 : Value} {x3_5 : Value} {H : Heap} {Q : Value → Heap → Prop} (h : S_ref13_Do x0_0 x0_1 x0_2 x0_3 x0_4 x0_5 x0_6 x0_7 x0_8 x1_0 x2 x3_0 x3_1 x3_2 x3_3 x3_4 x3_5 H Q) : callV Try.prog (fnV fn_ref13_Do) [(.agg #[x0_0, x0_1, x0_2, x0_3, x0_4, x0_5, x0_6, x0_7, x0_8]), (.agg #[x1_0]), x2, (.agg #[x3_0, x3_1, x3_2, x3_3, x3_4, x3_5])] H Q :=
  callV_fn (hcalls_of (pv := [4, 5, 7, 8, 10]) (ann := []) Try.func12 (by kernel_rfl) (Eq.mpr (by kernel_rfl) h))

/-- thimblerig/harm.Versions -/
def S_harm_Versions (x0 : Value) (x1 : Value) (x2 : Value) (H : Heap) (Q : Value → Heap → Prop) : Prop :=
  newC 39 [(.slice none 0 0)] H fun a6 H =>
  callV Try.prog (fnV fn_harm_written) [x0, x1, x2] H fun t11 H =>
  RangePT Try.prog t11 H (fun qs H R1 =>
  arg1 qs fun q1_0 =>
  loadP false 1 (.pointer (some ⟨a6, 0, none⟩)) H fun t13 =>
  callV Try.prog (fnV fn_slices_Clone_byte_byte) [q1_0] H fun t15 H =>
  (loadP false 1 (.pointer (some ⟨a6, 0, none⟩)) H fun u13 =>
  u13 = t13) ∧
  (bldS 44 1 false (zeroL Try.prog 44) 1 [(0, t15)] H fun t16 H =>
  (loadP false 1 (.pointer (some ⟨a6, 0, none⟩)) H fun u13 =>
  u13 = t13) ∧
  (appS 44 1 24 (zeroL Try.prog 44) t13 t16 H fun t17 H =>
  storeP false 1 (.pointer (some ⟨a6, 0, none⟩)) t17 H fun H =>
  R1 none H))) (fun H =>
  loadP false 1 (.pointer (some ⟨a6, 0, none⟩)) H fun t18 =>
  storeP false 1 (.pointer (some ⟨a6, 0, none⟩)) t18 H fun H =>
  loadP false 1 (.pointer (some ⟨a6, 0, none⟩)) H fun r6 =>
  Q r6 H) []
theorem S_harm_Versions_of {x0 : Value} {x1 : Value} {x2 : Value} {H : Heap} {Q : Value → Heap → Prop} (h : S_harm_Versions x0 x1 x2 H Q) : callV Try.prog (fnV fn_harm_Versions) [x0, x1, x2] H Q :=
  callV_fn (hcalls_of (pv := []) (ann := []) Try.func13 (by kernel_rfl) (Eq.mpr (by kernel_rfl) h))

/-- thimblerig/thimblerigref13.Versions -/
def S_ref13_Versions (x0 : Value) (x1 : Value) (x2 : Value) (H : Heap) (Q : Value → Heap → Prop) : Prop :=
  LoopPT (fun s12 H K12 =>
  lenSl x0 H fun t11 =>
  binV (.int .i64) .lss (sv s12 1) t11 fun t12 =>
  asB t12 fun b12 =>
  ifB b12 (
  JoinPT (fun K20 =>
  idxS 4 x0 (sv s12 1) fun t17 =>
  fldP 0 t17 fun t18 =>
  loadP false 1 t18 H fun t19 =>
  binV (.int .u8) .eql t19 (.int .u8 2) fun t20 =>
  asB t20 fun b21 =>
  ifB b21 (
  idxS 4 x0 (sv s12 1) fun t24 =>
  fldP 1 t24 fun t25 =>
  loadP false 1 t25 H fun t26 =>
  binV (.int .i64) .eql t26 x1 fun t28 =>
  asB t28 fun b30 =>
  ifB b30 (
  idxS 4 x0 (sv s12 1) fun t33 =>
  fldP 2 t33 fun t34 =>
  loadP false 1 t34 H fun t35 =>
  binV (.int .i64) .eql t35 x2 fun t37 =>
  K20 [[t37]] H) (
  K20 [[(.bool false)]] H)) (
  K20 [[(.bool false)]] H)) fun s20 H =>
  asB (sv s20 0) fun b38 =>
  JoinPT (fun K21 =>
  ifB b38 (
  bldS 5 1 false (zeroL Try.prog 5) 0 [] H fun t40 H =>
  idxS 4 x0 (sv s12 1) fun t43 =>
  fldP 3 t43 fun t44 =>
  loadP false 1 t44 H fun t45 =>
  appS 5 1 1 (zeroL Try.prog 5) t40 t45 H fun t46 H =>
  bldS 44 1 false (zeroL Try.prog 44) 1 [(0, t46)] H fun t47 H =>
  appS 44 1 24 (zeroL Try.prog 44) (sv s12 0) t47 H fun t48 H =>
  K21 [[t48]] H) (
  K21 [[(sv s12 0)]] H)) fun s21 H =>
  binV (.int .i64) .add (sv s12 1) (.int .i64 1) fun t14 =>
  K12 [[(sv s21 0)], [t14]] H) (
  Q (sv s12 0) H)) [[(.slice none 0 0)], [(.int .i64 0)]] H
theorem S_ref13_Versions_of {x0 : Value} {x1 : Value} {x2 : Value} {H : Heap} {Q : Value → Heap → Prop} (h : S_ref13_Versions x0 x1 x2 H Q) : callV Try.prog (fnV fn_ref13_Versions) [x0, x1, x2] H Q :=
  callV_fn (hcalls_of (pv := []) (ann := [(12, [14, 16]), (20, [76]), (21, [14])]) Try.func16 (by kernel_rfl) (Eq.mpr (by kernel_rfl) h))

/-- thimblerig/thimblerigref13.Writes -/
def S_ref13_Writes (x0 : Value) (H : Heap) (Q : Value → Heap → Prop) : Prop :=
  LoopPT (fun s12 H K12 =>
  lenSl x0 H fun t7 =>
  binV (.int .i64) .lss (sv s12 1) t7 fun t8 =>
  asB t8 fun b8 =>
  ifB b8 (
  idxS 4 x0 (sv s12 1) fun t13 =>
  fldP 0 t13 fun t14 =>
  loadP false 1 t14 H fun t15 =>
  binV (.int .u8) .eql t15 (.int .u8 2) fun t16 =>
  asB t16 fun b16 =>
  JoinPT (fun K21 =>
  ifB b16 (
  binV (.int .i64) .add (sv s12 0) (.int .i64 1) fun t18 =>
  K21 [[t18]] H) (
  K21 [[(sv s12 0)]] H)) fun s21 H =>
  binV (.int .i64) .add (sv s12 1) (.int .i64 1) fun t10 =>
  K12 [[(sv s21 0)], [t10]] H) (
  Q (sv s12 0) H)) [[(.int .i64 0)], [(.int .i64 0)]] H
theorem S_ref13_Writes_of {x0 : Value} {H : Heap} {Q : Value → Heap → Prop} (h : S_ref13_Writes x0 H Q) : callV Try.prog (fnV fn_ref13_Writes) [x0] H Q :=
  callV_fn (hcalls_of (pv := []) (ann := [(12, [6, 8]), (21, [6])]) Try.func27 (by kernel_rfl) (Eq.mpr (by kernel_rfl) h))

/-- thimblerig/harm.Do$1 -/
def S_harm_Do_1 (y0 : Value) (y1 : Value) (z : Value) (H : Heap) (k : Heap → Prop) : Prop :=
  nilEq .eql z fun t7 =>
  asB t7 fun b7 =>
  JoinPT (fun K15 =>
  ifB b7 (
  K15 [] H) (
  taV Try.prog ty_harm_odd true z fun t8 =>
  extractV 1 t8 fun t9 =>
  extractV 0 t8 fun t10 =>
  asB t9 fun b9 =>
  JoinPT (fun K21 =>
  ifB b9 (
  newC 62 [] H fun a3 H =>
  storeP true 0 (.pointer (some ⟨a3, 0, none⟩)) t10 H fun H =>
  storeP true 1 y0 (.agg #[(.slice none 0 0)]) H fun H =>
  storeP false 1 y1 (.int .i64 2) H fun H =>
  K21 [] H) (
  False)) fun s21 H =>
  K15 [] H)) fun s15 H =>
  k H
theorem S_harm_Do_1_of {y0 : Value} {y1 : Value} {z : Value} {u : Option (List PanicEntry)} {H : Heap} {k : Heap → Prop} (hu : (u = none ∧ z = .nilIface) ∨ u = some [{ v := z, recovered := false }]) (h : S_harm_Do_1 y0 y1 z H k) : callD Try.prog (.func (.func fn_harm_Do_1) #[] #[y0, y1]) u H k :=
  callD_of (dcalls_of (args := [y0, y1]) (pv := []) (ann := [(15, []), (21, [])]) Try.func29 (by kernel_rfl) (Eq.mpr (by kernel_rfl) h) hu)

/-- thimblerig/harm.behind -/
def S_harm_behind (x0 : Value) (x1 : Value) (H : Heap) (Q : Value → Heap → Prop) (R : List PanicEntry → Heap → Prop) : Prop :=
  binV (.int .i64) .geq x1 (.int .i64 0) fun t8 =>
  callP Try.prog (fnV fn_harm_need) [t8] H (fun t9 H =>
  lenSl x0 H fun t11 =>
  LoopPT (fun s12 H K12 =>
  binV (.int .i64) .lss (sv s12 1) t11 fun t13 =>
  asB t13 fun b13 =>
  ifB b13 (
  idxS 4 x0 (sv s12 1) fun t15 =>
  loadP true 4 t15 H fun t16 =>
  newT H fun H =>
  cellsV true 4 t16 fun c1 =>
  binV (.int .i64) .eql (sv s12 0) (.int .i64 0) fun t18 =>
  asB t18 fun b18 =>
  ifB b18 (
  slS 4 x0 none (some (sv s12 1)) none fun t21 =>
  Q t21 H) (
  ifB (decide (0 + 1 ≤ ((setSeg [(.int .u8 0), (.int .i64 0), (.int .i64 0), (.slice none 0 0)] 0 c1)).length)) (
  binV (.int .u8) .eql (mkV false (seg (setSeg [(.int .u8 0), (.int .i64 0), (.int .i64 0), (.slice none 0 0)] 0 c1) 0 1)) (.int .u8 2) fun t24 =>
  asB t24 fun b24 =>
  JoinPT (fun K27 =>
  ifB b24 (
  binV (.int .i64) .sub (sv s12 0) (.int .i64 1) fun t26 =>
  K27 [[t26]] H) (
  K27 [[(sv s12 0)]] H)) fun s27 H =>
  binV (.int .i64) .add (sv s12 1) (.int .i64 1) fun t27 =>
  K12 [[(sv s27 0)], [t27]] H) False)) (
  binV (.int .i64) .eql (sv s12 0) (.int .i64 0) fun t29 =>
  callP Try.prog (fnV fn_harm_need) [t29] H (fun t30 H =>
  Q x0 H) fun ch H =>
  R ch H)) [[x1], [(.int .i64 0)]] H) fun ch H =>
  R ch H
theorem S_harm_behind_of {x0 : Value} {x1 : Value} {H : Heap} {Q : Value → Heap → Prop} {R : List PanicEntry → Heap → Prop} (h : S_harm_behind x0 x1 H Q R) : callP Try.prog (fnV fn_harm_behind) [x0, x1] H Q R :=
  callP_fn (hcallsP_of (pv := [6]) (ann := [(12, [2, 24]), (27, [2]), (999999, [])]) Try.func30 (by kernel_rfl) (Eq.mpr (by kernel_rfl) h))

/-- thimblerig/harm.bucket -/
def S_harm_bucket (x0_0 : Value) (x1 : Value) (x2 : Value) (H : Heap) (Q : Value → Heap → Prop) (R : List PanicEntry → Heap → Prop) : Prop :=
  newT H fun H =>
  JoinPT (fun K8 =>
  binV (.int .i64) .geq x1 (.int .i64 0) fun t8 =>
  asB t8 fun b9 =>
  ifB b9 (
  lenSl x0_0 H fun t13 =>
  binV (.int .i64) .lss x1 t13 fun t14 =>
  asB t14 fun b16 =>
  ifB b16 (
  binV (.int .i64) .geq x2 (.int .i64 1) fun t18 =>
  asB t18 fun b20 =>
  ifB b20 (
  idxS 1 x0_0 x1 fun t25 =>
  loadP false 1 t25 H fun t26 =>
  lenSl t26 H fun t27 =>
  binV (.int .i64) .leq x2 t27 fun t28 =>
  callP Try.prog (fnV fn_harm_need) [t28] H (fun t30 H =>
  K8 [] H) fun ch H =>
  R ch H) (
  callP Try.prog (fnV fn_harm_need) [(.bool false)] H (fun t30 H =>
  K8 [] H) fun ch H =>
  R ch H)) (
  callP Try.prog (fnV fn_harm_need) [(.bool false)] H (fun t30 H =>
  K8 [] H) fun ch H =>
  R ch H)) (
  callP Try.prog (fnV fn_harm_need) [(.bool false)] H (fun t30 H =>
  K8 [] H) fun ch H =>
  R ch H)) fun s8 H =>
  idxS 1 x0_0 x1 fun t34 =>
  loadP false 1 t34 H fun t35 =>
  binV (.int .i64) .sub x2 (.int .i64 1) fun t37 =>
  idxS 1 t35 t37 fun t38 =>
  Q t38 H
theorem S_harm_bucket_of {x0_0 : Value} {x1 : Value} {x2 : Value} {H : Heap} {Q : Value → Heap → Prop} {R : List PanicEntry → Heap → Prop} (h : S_harm_bucket x0_0 x1 x2 H Q R) : callP Try.prog (fnV fn_harm_bucket) [(.agg #[x0_0]), x1, x2] H Q R :=
  callP_fn (hcallsP_of (pv := [3]) (ann := [(8, []), (999999, [])]) Try.func32 (by kernel_rfl) (Eq.mpr (by kernel_rfl) h))

/-- thimblerig/harm.need -/
def S_harm_need (x0 : Value) (H : Heap) (Q : Value → Heap → Prop) (R : List PanicEntry → Heap → Prop) : Prop :=
  unV .not x0 fun t3 =>
  asB t3 fun b3 =>
  JoinPT (fun K6 =>
  ifB b3 (
  R [{ v := (.iface ty_harm_odd (.agg #[])), recovered := false }] H) (
  K6 [] H)) fun s6 H =>
  Q (.tuple #[]) H
theorem S_harm_need_of {x0 : Value} {H : Heap} {Q : Value → Heap → Prop} {R : List PanicEntry → Heap → Prop} (h : S_harm_need x0 H Q R) : callP Try.prog (fnV fn_harm_need) [x0] H Q R :=
  callP_fn (hcallsP_of (pv := []) (ann := [(6, []), (999999, [])]) Try.func33 (by kernel_rfl) (Eq.mpr (by kernel_rfl) h))

/-- thimblerig/thimblerigref13.May -/
def S_ref13_May (x0_0 : Value) (x1 : Value) (x2_0 : Value) (x2_1 : Value) (x2_2 : Value) (x2_3 : Value) (x2_4 : Value) (x2_5 : Value) (H : Heap) (Q : Value → Heap → Prop) : Prop :=
  newT H fun H =>
  newT H fun H =>
  binV (.int .u8) .eql x2_0 (.int .u8 5) fun t10 =>
  asB t10 fun b10 =>
  ifB b10 (
  JoinPT (fun K11 =>
  binV (.int .i64) .geq x2_4 (.int .i64 0) fun t13 =>
  asB t13 fun b14 =>
  ifB b14 (
  callV Try.prog (fnV fn_ref13_Writes) [x1] H fun t18 H =>
  binV (.int .i64) .leq x2_4 t18 fun t19 =>
  K11 [[t19]] H) (
  K11 [[(.bool false)]] H)) fun s11 H =>
  Q (sv s11 0) H) (
  JoinPT (fun K14 =>
  binV (.int .u8) .lss x2_0 (.int .u8 1) fun t23 =>
  asB t23 fun b24 =>
  ifB b24 (
  K14 [[(.bool true)]] H) (
  binV (.int .u8) .gtr x2_0 (.int .u8 5) fun t27 =>
  asB t27 fun b29 =>
  ifB b29 (
  K14 [[(.bool true)]] H) (
  callV Try.prog (fnV fn_ref13_has) [(.agg #[x0_0]), x2_1, x2_2] H fun t35 H =>
  unV .not t35 fun t36 =>
  K14 [[t36]] H))) fun s14 H =>
  asB (sv s14 0) fun b37 =>
  ifB b37 (
  Q (.bool false) H) (
  callV Try.prog (fnV fn_ref13_Versions) [x1, x2_1, x2_2] H fun t43 H =>
  lenSl t43 H fun t44 =>
  binV (.int .u8) .eql x2_0 (.int .u8 1) fun t48 =>
  asB t48 fun b47 =>
  ifB b47 (
  JoinPT (fun K29 =>
  binV (.int .i64) .geq x2_4 (.int .i64 0) fun t51 =>
  asB t51 fun b52 =>
  ifB b52 (
  idxS 1 x0_0 x2_1 fun t59 =>
  loadP false 1 t59 H fun t60 =>
  binV (.int .i64) .sub x2_2 (.int .i64 1) fun t63 =>
  idxS 1 t60 t63 fun t64 =>
  loadP false 1 t64 H fun t65 =>
  lenSl t65 H fun t66 =>
  binV (.int .i64) .lss x2_4 t66 fun t67 =>
  asB t67 fun b69 =>
  ifB b69 (
  binV (.int .u8) .neq x2_5 (.int .u8 0) fun t72 =>
  K29 [[t72]] H) (
  K29 [[(.bool false)]] H)) (
  K29 [[(.bool false)]] H)) fun s29 H =>
  Q (sv s29 0) H) (
  binV (.int .u8) .eql x2_0 (.int .u8 2) fun t75 =>
  asB t75 fun b74 =>
  ifB b74 (
  callV Try.prog (fnV fn_ref13_has) [(.agg #[x0_0]), x2_1, x2_3] H fun t81 H =>
  Q t81 H) (
  binV (.int .u8) .eql x2_0 (.int .u8 3) fun t83 =>
  asB t83 fun b82 =>
  ifB b82 (
  JoinPT (fun K41 =>
  binV (.int .i64) .geq x2_4 (.int .i64 0) fun t86 =>
  asB t86 fun b87 =>
  ifB b87 (
  binV (.int .i64) .lss x2_4 t44 fun t91 =>
  K41 [[t91]] H) (
  K41 [[(.bool false)]] H)) fun s41 H =>
  Q (sv s41 0) H) (
  binV (.int .i64) .gtr t44 (.int .i64 0) fun t94 =>
  Q t94 H)))))
theorem S_ref13_May_of {x0_0 : Value} {x1 : Value} {x2_0 : Value} {x2_1 : Value} {x2_2 : Value} {x2_3 : Value} {x2_4 : Value} {x2_5 : Value} {H : Heap} {Q : Value → Heap → Prop} (h : S_ref13_May x0_0 x1 x2_0 x2_1 x2_2 x2_3 x2_4 x2_5 H Q) : callV Try.prog (fnV fn_ref13_May) [(.agg #[x0_0]), x1, (.agg #[x2_0, x2_1, x2_2, x2_3, x2_4, x2_5])] H Q :=
  callV_fn (hcalls_of (pv := [3, 5]) (ann := [(11, [12]), (14, [74]), (29, [12]), (41, [12])]) Try.func36 (by kernel_rfl) (Eq.mpr (by kernel_rfl) h))

/-- thimblerig/thimblerigref13.Done -/
def S_ref13_Done (x0_0 : Value) (x0_1 : Value) (x0_2 : Value) (x0_3 : Value) (x0_4 : Value) (x0_5 : Value) (x0_6 : Value) (x0_7 : Value) (x0_8 : Value) (x1_0 : Value) (x2 : Value) (x3_0 : Value) (x3_1 : Value) (x3_2 : Value) (x3_3 : Value) (x3_4 : Value) (x3_5 : Value) (H : Heap) (Q : Value → Heap → Prop) : Prop :=
  newT H fun H =>
  newT H fun H =>
  newT H fun H =>
  newT H fun H =>
  binV (.int .u8) .eql x3_0 (.int .u8 5) fun t16 =>
  asB t16 fun b16 =>
  ifB b16 (
  callV Try.prog (fnV fn_ref12_Blank) [(.agg #[x0_0, x0_1, x0_2, x0_3, x0_4, x0_5, x0_6, x0_7, x0_8])] H fun t18 H =>
  callV Try.prog (fnV fn_ref13_First) [x2, x3_4] H fun t22 H =>
  callV Try.prog (fnV fn_ref12_Behind) [t18, t22] H fun t23 H =>
  cellsV true 1 t23 fun c1 =>
  ifB (decide (0 + 1 ≤ ((setSeg [(.slice none 0 0)] 0 c1)).length)) (
  Q (.agg (seg (setSeg [(.slice none 0 0)] 0 c1) 0 1).toArray) H) False) (
  callV Try.prog (fnV fn_ref12_Twin) [(.agg #[x1_0])] H fun t25 H =>
  newT H fun H =>
  cellsV true 1 t25 fun c2 =>
  ifB (decide (0 + 1 ≤ ((setSeg [(.slice none 0 0)] 0 c2)).length)) (
  idxS 1 (mkV false (seg (setSeg [(.slice none 0 0)] 0 c2) 0 1)) x3_1 fun t30 =>
  loadP false 1 t30 H fun t31 =>
  callV Try.prog (fnV fn_ref13_Versions) [x2, x3_1, x3_2] H fun t37 H =>
  binV (.int .u8) .eql x3_0 (.int .u8 1) fun t41 =>
  asB t41 fun b40 =>
  JoinPT (fun K27 =>
  ifB b40 (
  binV (.int .i64) .sub x3_2 (.int .i64 1) fun t45 =>
  idxS 1 t31 t45 fun t46 =>
  loadP false 1 t46 H fun t47 =>
  binV (.int .i64) .sub x3_2 (.int .i64 1) fun t53 =>
  idxS 1 t31 t53 fun t54 =>
  loadP false 1 t54 H fun t55 =>
  idxS 1 t55 x3_4 fun t58 =>
  loadP false 1 t58 H fun t59 =>
  binV (.int .u8) .xor t59 x3_5 fun t62 =>
  idxS 1 t47 x3_4 fun t63 =>
  storeP false 1 t63 t62 H fun H =>
  K27 [] H) (
  binV (.int .u8) .eql x3_0 (.int .u8 2) fun t65 =>
  asB t65 fun b64 =>
  JoinPT (fun K33 =>
  ifB b64 (
  binV (.int .i64) .sub x3_2 (.int .i64 1) fun t69 =>
  idxS 1 t31 t69 fun t70 =>
  loadP false 1 t70 H fun t71 =>
  binV (.int .i64) .sub x3_3 (.int .i64 1) fun t75 =>
  idxS 1 t31 t75 fun t76 =>
  loadP false 1 t76 H fun t77 =>
  binV (.int .i64) .sub x3_2 (.int .i64 1) fun t81 =>
  idxS 1 t31 t81 fun t83 =>
  storeP false 1 t83 t77 H fun H =>
  binV (.int .i64) .sub x3_3 (.int .i64 1) fun t87 =>
  idxS 1 t31 t87 fun t89 =>
  storeP false 1 t89 t71 H fun H =>
  K33 [] H) (
  binV (.int .u8) .eql x3_0 (.int .u8 3) fun t91 =>
  asB t91 fun b90 =>
  JoinPT (fun K45 =>
  ifB b90 (
  binV (.int .i64) .sub x3_2 (.int .i64 1) fun t95 =>
  idxS 1 t37 x3_4 fun t99 =>
  loadP false 1 t99 H fun t100 =>
  idxS 1 t31 t95 fun t101 =>
  storeP false 1 t101 t100 H fun H =>
  K45 [] H) (
  binV (.int .u8) .eql x3_0 (.int .u8 4) fun t103 =>
  asB t103 fun b102 =>
  JoinPT (fun K51 =>
  ifB b102 (
  binV (.int .i64) .sub x3_2 (.int .i64 1) fun t107 =>
  binV (.int .i64) .sub x3_2 (.int .i64 1) fun t111 =>
  idxS 1 t31 t111 fun t112 =>
  loadP false 1 t112 H fun t113 =>
  lenSl t113 H fun t114 =>
  mkS 5 1 1 (zeroL Try.prog 5) t114 t114 H fun t115 H =>
  (loadP false 1 t112 H fun u113 =>
  u113 = t113) ∧
  (idxS 1 t31 t107 fun t116 =>
  storeP false 1 t116 t115 H fun H =>
  lenSl t37 H fun t118 =>
  binV (.int .i64) .gtr t118 (.int .i64 1) fun t119 =>
  asB t119 fun b119 =>
  JoinPT (fun K57 =>
  ifB b119 (
  binV (.int .i64) .sub x3_2 (.int .i64 1) fun t123 =>
  lenSl t37 H fun t126 =>
  binV (.int .i64) .sub t126 (.int .i64 2) fun t127 =>
  idxS 1 t37 t127 fun t128 =>
  loadP false 1 t128 H fun t129 =>
  idxS 1 t31 t123 fun t130 =>
  storeP false 1 t130 t129 H fun H =>
  K57 [] H) (
  K57 [] H)) fun s57 H =>
  K51 [] H)) (
  K51 [] H)) fun s51 H =>
  K45 [] H)) fun s45 H =>
  K33 [] H)) fun s33 H =>
  K27 [] H)) fun s27 H =>
  ifB (decide (0 + 1 ≤ ((setSeg [(.slice none 0 0)] 0 c2)).length)) (
  cellsV true 1 (.agg (seg (setSeg [(.slice none 0 0)] 0 c2) 0 1).toArray) fun c3 =>
  ifB (decide (0 + 1 ≤ ((setSeg [(.slice none 0 0)] 0 c3)).length)) (
  Q (.agg (seg (setSeg [(.slice none 0 0)] 0 c3) 0 1).toArray) H) False) False) False)
theorem S_ref13_Done_of {x0_0 : Value} {x0_1 : Value} {x0_2 : Value} {x0_3 : Value} {x0_4 : Value} {x0_5 : Value} {x0_6 : Value} {x0_7 : Value} {x0_8 : Value} {x1_0 : Value} {x2 : Value} {x3_0 : Value} {x3_1 : Value} {x3_2 : Value} {x3_3 : Value} {x3_4 : Value} {x3_5 : Value} {H : Heap} {Q : Value → Heap → Prop} (h : S_ref13_Done x0_0 x0_1 x0_2 x0_3 x0_4 x0_5 x0_6 x0_7 x0_8 x1_0 x2 x3_0 x3_1 x3_2 x3_3 x3_4 x3_5 H Q) : callV Try.prog (fnV fn_ref13_Done) [(.agg #[x0_0, x0_1, x0_2, x0_3, x0_4, x0_5, x0_6, x0_7, x0_8]), (.agg #[x1_0]), x2, (.agg #[x3_0, x3_1, x3_2, x3_3, x3_4, x3_5])] H Q :=
  callV_fn (hcalls_of (pv := [4, 5, 7, 8, 9]) (ann := [(27, []), (33, []), (45, []), (51, []), (57, [])]) Try.func37 (by kernel_rfl) (Eq.mpr (by kernel_rfl) h))

/-- thimblerig/harm.written -/
def S_harm_written (x0 : Value) (x1 : Value) (x2 : Value) (H : Heap) (Q : Value → Heap → Prop) : Prop :=
  ifB (okc x0) (
  newC 27 [x0] H fun a3 H =>
  ifB (okc x1) (
  newC 3 [x1] H fun a4 H =>
  ifB (okc x2) (
  newC 3 [x2] H fun a5 H =>
  Q (.func (.func fn_harm_written_1) #[] #[(.pointer (some ⟨a3, 0, none⟩)), (.pointer (some ⟨a4, 0, none⟩)), (.pointer (some ⟨a5, 0, none⟩))]) H) False) False) False
theorem S_harm_written_of {x0 : Value} {x1 : Value} {x2 : Value} {H : Heap} {Q : Value → Heap → Prop} (h : S_harm_written x0 x1 x2 H Q) : callV Try.prog (fnV fn_harm_written) [x0, x1, x2] H Q :=
  callV_fn (hcalls_of (pv := []) (ann := []) Try.func38 (by kernel_rfl) (Eq.mpr (by kernel_rfl) h))

/-- thimblerig/thimblerigref13.has -/
def S_ref13_has (x0_0 : Value) (x1 : Value) (x2 : Value) (H : Heap) (Q : Value → Heap → Prop) : Prop :=
  newT H fun H =>
  JoinPT (fun K8 =>
  binV (.int .i64) .geq x1 (.int .i64 0) fun t8 =>
  asB t8 fun b9 =>
  ifB b9 (
  lenSl x0_0 H fun t13 =>
  binV (.int .i64) .lss x1 t13 fun t14 =>
  asB t14 fun b16 =>
  ifB b16 (
  binV (.int .i64) .geq x2 (.int .i64 1) fun t18 =>
  asB t18 fun b20 =>
  ifB b20 (
  idxS 1 x0_0 x1 fun t25 =>
  loadP false 1 t25 H fun t26 =>
  lenSl t26 H fun t27 =>
  binV (.int .i64) .leq x2 t27 fun t28 =>
  K8 [[t28]] H) (
  K8 [[(.bool false)]] H)) (
  K8 [[(.bool false)]] H)) (
  K8 [[(.bool false)]] H)) fun s8 H =>
  Q (sv s8 0) H
theorem S_ref13_has_of {x0_0 : Value} {x1 : Value} {x2 : Value} {H : Heap} {Q : Value → Heap → Prop} (h : S_ref13_has x0_0 x1 x2 H Q) : callV Try.prog (fnV fn_ref13_has) [(.agg #[x0_0]), x1, x2] H Q :=
  callV_fn (hcalls_of (pv := [3]) (ann := [(8, [12])]) Try.func60 (by kernel_rfl) (Eq.mpr (by kernel_rfl) h))

/-- thimblerig/thimblerigref13.First -/
def S_ref13_First (x0 : Value) (x1 : Value) (H : Heap) (Q : Value → Heap → Prop) : Prop :=
  LoopPT (fun s12 H K12 =>
  lenSl x0 H fun t9 =>
  binV (.int .i64) .lss (sv s12 1) t9 fun t10 =>
  asB t10 fun b10 =>
  ifB b10 (
  binV (.int .i64) .eql (sv s12 0) x1 fun t15 =>
  asB t15 fun b15 =>
  ifB b15 (
  slS 4 x0 none (some (sv s12 1)) none fun t18 =>
  Q t18 H) (
  idxS 4 x0 (sv s12 1) fun t21 =>
  fldP 0 t21 fun t22 =>
  loadP false 1 t22 H fun t23 =>
  binV (.int .u8) .eql t23 (.int .u8 2) fun t24 =>
  asB t24 fun b24 =>
  JoinPT (fun K27 =>
  ifB b24 (
  binV (.int .i64) .add (sv s12 0) (.int .i64 1) fun t26 =>
  K27 [[t26]] H) (
  K27 [[(sv s12 0)]] H)) fun s27 H =>
  binV (.int .i64) .add (sv s12 1) (.int .i64 1) fun t12 =>
  K12 [[(sv s27 0)], [t12]] H)) (
  Q x0 H)) [[(.int .i64 0)], [(.int .i64 0)]] H
theorem S_ref13_First_of {x0 : Value} {x1 : Value} {H : Heap} {Q : Value → Heap → Prop} (h : S_ref13_First x0 x1 H Q) : callV Try.prog (fnV fn_ref13_First) [x0, x1] H Q :=
  callV_fn (hcalls_of (pv := []) (ann := [(12, [10, 12]), (27, [10])]) Try.func62 (by kernel_rfl) (Eq.mpr (by kernel_rfl) h))

/-- thimblerig/harm.written$1 -/
def S_harm_written_1 (x0 : Value) (y0 : Value) (y1 : Value) (y2 : Value) (H : Heap) (Q : Value → Heap → Prop) : Prop :=
  loadP false 1 y0 H fun t7 =>
  lenSl t7 H fun t8 =>
  LoopPT (fun s6 H K6 =>
  binV (.int .i64) .lss (sv s6 0) t8 fun t10 =>
  asB t10 fun b10 =>
  ifB b10 (
  idxS 4 t7 (sv s6 0) fun t11 =>
  loadP true 4 t11 H fun t12 =>
  newT H fun H =>
  cellsV true 4 t12 fun c1 =>
  JoinPT (fun K14 =>
  ifB (decide (0 + 1 ≤ ((setSeg [(.int .u8 0), (.int .i64 0), (.int .i64 0), (.slice none 0 0)] 0 c1)).length)) (
  binV (.int .u8) .eql (mkV false (seg (setSeg [(.int .u8 0), (.int .i64 0), (.int .i64 0), (.slice none 0 0)] 0 c1) 0 1)) (.int .u8 2) fun t15 =>
  asB t15 fun b16 =>
  ifB b16 (
  ifB (decide (1 + 1 ≤ ((setSeg [(.int .u8 0), (.int .i64 0), (.int .i64 0), (.slice none 0 0)] 0 c1)).length)) (
  loadP false 1 y1 H fun t19 =>
  binV (.int .i64) .eql (mkV false (seg (setSeg [(.int .u8 0), (.int .i64 0), (.int .i64 0), (.slice none 0 0)] 0 c1) 1 1)) t19 fun t20 =>
  asB t20 fun b22 =>
  ifB b22 (
  ifB (decide (2 + 1 ≤ ((setSeg [(.int .u8 0), (.int .i64 0), (.int .i64 0), (.slice none 0 0)] 0 c1)).length)) (
  loadP false 1 y2 H fun t25 =>
  binV (.int .i64) .eql (mkV false (seg (setSeg [(.int .u8 0), (.int .i64 0), (.int .i64 0), (.slice none 0 0)] 0 c1) 2 1)) t25 fun t26 =>
  asB t26 fun b28 =>
  ifB b28 (
  ifB (decide (3 + 1 ≤ ((setSeg [(.int .u8 0), (.int .i64 0), (.int .i64 0), (.slice none 0 0)] 0 c1)).length)) (
  callV Try.prog x0 [(mkV false (seg (setSeg [(.int .u8 0), (.int .i64 0), (.int .i64 0), (.slice none 0 0)] 0 c1) 3 1))] H fun t32 H =>
  unV .not t32 fun t33 =>
  K14 [[t33]] H) False) (
  K14 [[(.bool false)]] H)) False) (
  K14 [[(.bool false)]] H)) False) (
  K14 [[(.bool false)]] H)) False) fun s14 H =>
  asB (sv s14 0) fun b34 =>
  ifB b34 (
  Q (.tuple #[]) H) (
  binV (.int .i64) .add (sv s6 0) (.int .i64 1) fun t35 =>
  K6 [[t35]] H)) (
  Q (.tuple #[]) H)) [[(.int .i64 0)]] H
theorem S_harm_written_1_of {x0 : Value} {y0 : Value} {y1 : Value} {y2 : Value} {H : Heap} {Q : Value → Heap → Prop} (h : S_harm_written_1 x0 y0 y1 y2 H Q) : callV Try.prog (fnV fn_harm_written_1) [x0, y0, y1, y2] H Q :=
  callV_fn (hcalls_of (pv := [6]) (ann := [(6, [18]), (14, [68])]) Try.func63 (by kernel_rfl) (Eq.mpr (by kernel_rfl) h))
theorem C_harm_written_1_of {x0 : Value} {y0 : Value} {y1 : Value} {y2 : Value} {H : Heap} {Q : Value → Heap → Prop} (h : S_harm_written_1 x0 y0 y1 y2 H Q) : callV Try.prog (.func (.func fn_harm_written_1) #[] #[y0, y1, y2]) [x0] H Q :=
  callV_cl (S_harm_written_1_of h)

end Go.Proofs.Ytelfpkegpffajaa
