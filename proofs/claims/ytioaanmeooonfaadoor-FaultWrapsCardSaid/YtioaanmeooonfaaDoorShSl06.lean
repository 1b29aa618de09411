/- Written by sh.py: what functions do, out of the deep reading; each is joined to the program by the kernel. -/
import Derived.Test.YtioaanmeooonfaaDoorShNames
namespace Go.Proofs.YtioaanmeooonfaaDoor
open Go.Ab
set_option linter.unusedVariables false
set_option linter.unusedSimpArgs false
set_option maxRecDepth 100000

/-- slices.Insert[[]thimblerig/api.Mark,thimblerig/api.Mark] -/
def S_slices_Insert_api_Mark_api_Mark (x0 : Value) (x1 : Value) (x2 : Value) (H : Heap) (Q : Value → Heap → Prop) : Prop :=
  slS 2 x0 (some x1) none none fun t12 =>
  lenSl x2 H fun t14 =>
  binV (.int .i64) .eql t14 (.int .i64 0) fun t16 =>
  asB t16 fun b16 =>
  ifB b16 (
  Q x0 H) (
  lenSl x0 H fun t19 =>
  binV (.int .i64) .eql x1 t19 fun t22 =>
  asB t22 fun b22 =>
  ifB b22 (
  appS 27 2 16 (zeroL Tryd.prog 27) x0 x2 H fun t25 H =>
  Q t25 H) (
  binV (.int .i64) .add t19 t14 fun t28 =>
  capSl x0 fun t30 =>
  binV (.int .i64) .gtr t28 t30 fun t31 =>
  asB t31 fun b31 =>
  ifB b31 (
  slS 2 x0 none (some x1) none fun t34 =>
  binV (.int .i64) .add t19 t14 fun t37 =>
  binV (.int .i64) .sub t37 x1 fun t39 =>
  appZ 27 2 16 (zeroL Tryd.prog 27) t34 t39 H fun t40 H =>
  slS 2 t40 (some x1) none none fun t43 =>
  cpS 2 t43 x2 H fun t45 H =>
  binV (.int .i64) .add x1 t14 fun t49 =>
  slS 2 t40 (some t49) none none fun t50 =>
  slS 2 x0 (some x1) none none fun t53 =>
  cpS 2 t50 t53 H fun t54 H =>
  Q t40 H) (
  binV (.int .i64) .add t19 t14 fun t59 =>
  slS 2 x0 none (some t59) none fun t60 =>
  binV (.int .i64) .add x1 t14 fun t65 =>
  slS 2 t60 (some t65) none none fun t66 =>
  xcV Tryd.prog fn_slices_overlaps_api_Mark [x2, t66] H fun t67 H =>
  unV .not t67 fun t68 =>
  asB t68 fun b68 =>
  ifB b68 (
  binV (.int .i64) .add x1 t14 fun t72 =>
  slS 2 t60 (some t72) none none fun t73 =>
  slS 2 t60 (some x1) none none fun t76 =>
  cpS 2 t73 t76 H fun t77 H =>
  slS 2 t60 (some x1) none none fun t80 =>
  cpS 2 t80 x2 H fun t82 H =>
  Q t60 H) (
  slS 2 t60 (some t19) none none fun t86 =>
  cpS 2 t86 x2 H fun t88 H =>
  slS 2 t60 (some x1) none none fun t91 =>
  callV Tryd.prog (fnV fn_slices_rotateRight_api_Mark) [t91, t14] H fun t93 H =>
  Q t60 H))))
theorem S_slices_Insert_api_Mark_api_Mark_of {x0 : Value} {x1 : Value} {x2 : Value} {H : Heap} {Q : Value → Heap → Prop} (h : S_slices_Insert_api_Mark_api_Mark x0 x1 x2 H Q) : callV Tryd.prog (fnV fn_slices_Insert_api_Mark_api_Mark) [x0, x1, x2] H Q :=
  callV_fn (hcalls_of (pv := []) (ann := []) Tryd.func13 (by kernel_rfl) (Eq.mpr (by kernel_rfl) h))

/-- slices.Clone[[]thimblerig/api.Mark,thimblerig/api.Mark] -/
def S_slices_Clone_api_Mark_api_Mark (x0 : Value) (H : Heap) (Q : Value → Heap → Prop) : Prop :=
  binV (.slice 27) .eql x0 (.slice none 0 0) fun t4 =>
  asB t4 fun b4 =>
  ifB b4 (
  Q (.slice none 0 0) H) (
  bldS 27 2 true (zeroL Tryd.prog 27) 0 [] H fun t5 H =>
  appS 27 2 16 (zeroL Tryd.prog 27) t5 x0 H fun t7 H =>
  Q t7 H)
theorem S_slices_Clone_api_Mark_api_Mark_of {x0 : Value} {H : Heap} {Q : Value → Heap → Prop} (h : S_slices_Clone_api_Mark_api_Mark x0 H Q) : callV Tryd.prog (fnV fn_slices_Clone_api_Mark_api_Mark) [x0] H Q :=
  callV_fn (hcalls_of (pv := []) (ann := []) Tryd.func14 (by kernel_rfl) (Eq.mpr (by kernel_rfl) h))

/-- slices.ContainsFunc[[]thimblerig/api.Mark,thimblerig/api.Mark] -/
def S_slices_ContainsFunc_api_Mark_api_Mark (x0 : Value) (x1 : Value) (H : Heap) (Q : Value → Heap → Prop) : Prop :=
  callV Tryd.prog (fnV fn_slices_IndexFunc_api_Mark_api_Mark) [x0, x1] H fun t7 H =>
  binV (.int .i64) .geq t7 (.int .i64 0) fun t8 =>
  Q t8 H
theorem S_slices_ContainsFunc_api_Mark_api_Mark_of {x0 : Value} {x1 : Value} {H : Heap} {Q : Value → Heap → Prop} (h : S_slices_ContainsFunc_api_Mark_api_Mark x0 x1 H Q) : callV Tryd.prog (fnV fn_slices_ContainsFunc_api_Mark_api_Mark) [x0, x1] H Q :=
  callV_fn (hcalls_of (pv := []) (ann := []) Tryd.func19 (by kernel_rfl) (Eq.mpr (by kernel_rfl) h))

/-- slices.Contains[[]thimblerig/api.Errno,thimblerig/api.Errno] -/
def S_slices_Contains_api_Errno_api_Errno (x0 : Value) (x1 : Value) (H : Heap) (Q : Value → Heap → Prop) : Prop :=
  callV Tryd.prog (fnV fn_slices_Index_api_Errno_api_Errno) [x0, x1] H fun t7 H =>
  binV (.int .i64) .geq t7 (.int .i64 0) fun t8 =>
  Q t8 H
theorem S_slices_Contains_api_Errno_api_Errno_of {x0 : Value} {x1 : Value} {H : Heap} {Q : Value → Heap → Prop} (h : S_slices_Contains_api_Errno_api_Errno x0 x1 H Q) : callV Tryd.prog (fnV fn_slices_Contains_api_Errno_api_Errno) [x0, x1] H Q :=
  callV_fn (hcalls_of (pv := []) (ann := []) Tryd.func21 (by kernel_rfl) (Eq.mpr (by kernel_rfl) h))

/-- slices.rotateRight[thimblerig/api.Mark] -/
def S_slices_rotateRight_api_Mark (x0 : Value) (x1 : Value) (H : Heap) (Q : Value → Heap → Prop) : Prop :=
  lenSl x0 H fun t6 =>
  binV (.int .i64) .sub t6 x1 fun t8 =>
  callV Tryd.prog (fnV fn_slices_rotateLeft_api_Mark) [x0, t8] H fun t9 H =>
  Q (.tuple #[]) H
theorem S_slices_rotateRight_api_Mark_of {x0 : Value} {x1 : Value} {H : Heap} {Q : Value → Heap → Prop} (h : S_slices_rotateRight_api_Mark x0 x1 H Q) : callV Tryd.prog (fnV fn_slices_rotateRight_api_Mark) [x0, x1] H Q :=
  callV_fn (hcalls_of (pv := []) (ann := []) Tryd.func23 (by kernel_rfl) (Eq.mpr (by kernel_rfl) h))

/-- slices.Backward[[]thimblerig/api.Mark,thimblerig/api.Mark] -/
def S_slices_Backward_api_Mark_api_Mark (x0 : Value) (H : Heap) (Q : Value → Heap → Prop) : Prop :=
  ifB (okc x0) (
  newC 23 [x0] H fun a1 H =>
  Q (.func (.func fn_slices_Backward_api_Mark_api_Mark_1) #[] #[(.pointer (some ⟨a1, 0, none⟩))]) H) False
theorem S_slices_Backward_api_Mark_api_Mark_of {x0 : Value} {H : Heap} {Q : Value → Heap → Prop} (h : S_slices_Backward_api_Mark_api_Mark x0 H Q) : callV Tryd.prog (fnV fn_slices_Backward_api_Mark_api_Mark) [x0] H Q :=
  callV_fn (hcalls_of (pv := []) (ann := []) Tryd.func29 (by kernel_rfl) (Eq.mpr (by kernel_rfl) h))

/-- slices.IndexFunc[[]thimblerig/api.Mark,thimblerig/api.Mark] -/
def S_slices_IndexFunc_api_Mark_api_Mark (x0 : Value) (x1 : Value) (H : Heap) (Q : Value → Heap → Prop) : Prop :=
  lenSl x0 H fun t7 =>
  LoopPT (fun s9 H K9 =>
  binV (.int .i64) .lss (sv s9 0) t7 fun t9 =>
  asB t9 fun b9 =>
  ifB b9 (
  idxS 2 x0 (sv s9 0) fun t14 =>
  loadP true 2 t14 H fun t15 =>
  callV Tryd.prog x1 [t15] H fun t16 H =>
  asB t16 fun b16 =>
  ifB b16 (
  Q (sv s9 0) H) (
  binV (.int .i64) .add (sv s9 0) (.int .i64 1) fun t18 =>
  K9 [[t18]] H)) (
  Q (.int .i64 (-1)) H)) [[(.int .i64 0)]] H
theorem S_slices_IndexFunc_api_Mark_api_Mark_of {x0 : Value} {x1 : Value} {H : Heap} {Q : Value → Heap → Prop} (h : S_slices_IndexFunc_api_Mark_api_Mark x0 x1 H Q) : callV Tryd.prog (fnV fn_slices_IndexFunc_api_Mark_api_Mark) [x0, x1] H Q :=
  callV_fn (hcalls_of (pv := []) (ann := [(9, [16])]) Tryd.func30 (by kernel_rfl) (Eq.mpr (by kernel_rfl) h))

/-- slices.Index[[]thimblerig/api.Errno,thimblerig/api.Errno] -/
def S_slices_Index_api_Errno_api_Errno (x0 : Value) (x1 : Value) (H : Heap) (Q : Value → Heap → Prop) : Prop :=
  lenSl x0 H fun t7 =>
  LoopPT (fun s9 H K9 =>
  binV (.int .i64) .lss (sv s9 0) t7 fun t9 =>
  asB t9 fun b9 =>
  ifB b9 (
  idxS 1 x0 (sv s9 0) fun t14 =>
  loadP false 1 t14 H fun t15 =>
  binV (.int .i64) .eql x1 t15 fun t16 =>
  asB t16 fun b16 =>
  ifB b16 (
  Q (sv s9 0) H) (
  binV (.int .i64) .add (sv s9 0) (.int .i64 1) fun t18 =>
  K9 [[t18]] H)) (
  Q (.int .i64 (-1)) H)) [[(.int .i64 0)]] H
theorem S_slices_Index_api_Errno_api_Errno_of {x0 : Value} {x1 : Value} {H : Heap} {Q : Value → Heap → Prop} (h : S_slices_Index_api_Errno_api_Errno x0 x1 H Q) : callV Tryd.prog (fnV fn_slices_Index_api_Errno_api_Errno) [x0, x1] H Q :=
  callV_fn (hcalls_of (pv := []) (ann := [(9, [16])]) Tryd.func31 (by kernel_rfl) (Eq.mpr (by kernel_rfl) h))

/-- slices.rotateLeft[thimblerig/api.Mark] -/
def S_slices_rotateLeft_api_Mark (x0 : Value) (x1 : Value) (H : Heap) (Q : Value → Heap → Prop) : Prop :=
  slS 2 x0 none (some x1) none fun t6 =>
  callV Tryd.prog (fnV fn_slices_Reverse_api_Mark_api_Mark) [t6] H fun t7 H =>
  slS 2 x0 (some x1) none none fun t10 =>
  callV Tryd.prog (fnV fn_slices_Reverse_api_Mark_api_Mark) [t10] H fun t11 H =>
  callV Tryd.prog (fnV fn_slices_Reverse_api_Mark_api_Mark) [x0] H fun t13 H =>
  Q (.tuple #[]) H
theorem S_slices_rotateLeft_api_Mark_of {x0 : Value} {x1 : Value} {H : Heap} {Q : Value → Heap → Prop} (h : S_slices_rotateLeft_api_Mark x0 x1 H Q) : callV Tryd.prog (fnV fn_slices_rotateLeft_api_Mark) [x0, x1] H Q :=
  callV_fn (hcalls_of (pv := []) (ann := []) Tryd.func32 (by kernel_rfl) (Eq.mpr (by kernel_rfl) h))

/-- slices.Backward[[]thimblerig/api.Mark,thimblerig/api.Mark]$1 -/
def S_slices_Backward_api_Mark_api_Mark_1 (x0 : Value) (y0 : Value) (H : Heap) (Q : Value → Heap → Prop) : Prop :=
  loadP false 1 y0 H fun t4 =>
  lenSl t4 H fun t5 =>
  binV (.int .i64) .sub t5 (.int .i64 1) fun t6 =>
  LoopPT (fun s6 H K6 =>
  binV (.int .i64) .geq (sv s6 0) (.int .i64 0) fun t8 =>
  asB t8 fun b8 =>
  ifB b8 (
  loadP false 1 y0 H fun t13 =>
  idxS 2 t13 (sv s6 0) fun t15 =>
  loadP true 2 t15 H fun t16 =>
  callV Tryd.prog x0 [(sv s6 0), t16] H fun t17 H =>
  unV .not t17 fun t18 =>
  asB t18 fun b18 =>
  ifB b18 (
  Q (.tuple #[]) H) (
  binV (.int .i64) .sub (sv s6 0) (.int .i64 1) fun t10 =>
  K6 [[t10]] H)) (
  Q (.tuple #[]) H)) [[t6]] H
theorem S_slices_Backward_api_Mark_api_Mark_1_of {x0 : Value} {y0 : Value} {H : Heap} {Q : Value → Heap → Prop} (h : S_slices_Backward_api_Mark_api_Mark_1 x0 y0 H Q) : callV Tryd.prog (fnV fn_slices_Backward_api_Mark_api_Mark_1) [x0, y0] H Q :=
  callV_fn (hcalls_of (pv := []) (ann := [(6, [6])]) Tryd.func36 (by kernel_rfl) (Eq.mpr (by kernel_rfl) h))
theorem C_slices_Backward_api_Mark_api_Mark_1_of {x0 : Value} {y0 : Value} {H : Heap} {Q : Value → Heap → Prop} (h : S_slices_Backward_api_Mark_api_Mark_1 x0 y0 H Q) : callV Tryd.prog (.func (.func fn_slices_Backward_api_Mark_api_Mark_1) #[] #[y0]) [x0] H Q :=
  callV_cl (S_slices_Backward_api_Mark_api_Mark_1_of h)

/-- slices.Reverse[[]thimblerig/api.Mark,thimblerig/api.Mark] -/
def S_slices_Reverse_api_Mark_api_Mark (x0 : Value) (H : Heap) (Q : Value → Heap → Prop) : Prop :=
  lenSl x0 H fun t5 =>
  binV (.int .i64) .sub t5 (.int .i64 1) fun t6 =>
  LoopPT (fun s6 H K6 =>
  binV (.int .i64) .lss (sv s6 0) (sv s6 1) fun t9 =>
  asB t9 fun b9 =>
  ifB b9 (
  idxS 2 x0 (sv s6 1) fun t20 =>
  loadP true 2 t20 H fun t21 =>
  idxS 2 x0 (sv s6 0) fun t24 =>
  loadP true 2 t24 H fun t25 =>
  idxS 2 x0 (sv s6 0) fun t26 =>
  storeP true 2 t26 t21 H fun H =>
  idxS 2 x0 (sv s6 1) fun t27 =>
  storeP true 2 t27 t25 H fun H =>
  binV (.int .i64) .add (sv s6 0) (.int .i64 1) fun t11 =>
  binV (.int .i64) .sub (sv s6 1) (.int .i64 1) fun t13 =>
  K6 [[t11], [t13]] H) (
  Q (.tuple #[]) H)) [[(.int .i64 0)], [t6]] H
theorem S_slices_Reverse_api_Mark_api_Mark_of {x0 : Value} {H : Heap} {Q : Value → Heap → Prop} (h : S_slices_Reverse_api_Mark_api_Mark x0 H Q) : callV Tryd.prog (fnV fn_slices_Reverse_api_Mark_api_Mark) [x0] H Q :=
  callV_fn (hcalls_of (pv := []) (ann := [(6, [4, 6])]) Tryd.func37 (by kernel_rfl) (Eq.mpr (by kernel_rfl) h))

end Go.Proofs.YtioaanmeooonfaaDoor
