/- Written by sh.py: what functions do, out of the deep reading; each is joined to the program by the kernel. -/
import Derived.Test.YtikebhnnmnlgaaaAbFn
import Derived.Test.YtikebhnnmnlgaaaProg
namespace Go.Proofs.Ytikebhnnmnlgaaa
open Go.Ab
set_option linter.unusedVariables false
set_option maxRecDepth 100000

abbrev fn_main_main : Nat := 0
abbrev fn_gosem_cut : Nat := 1
abbrev fn_gosem_cut_init : Nat := 2
abbrev fn_law21_OrderPuts : Nat := 3
abbrev fn_law12_DevReplays : Nat := 4
abbrev fn_law12_DevTells : Nat := 5
abbrev fn_law21_OrderTells : Nat := 6
abbrev fn_law12_DevDoes : Nat := 7
abbrev fn_law12_DevBack : Nat := 8
abbrev fn_law21_OrderOnce : Nat := 9
abbrev fn_law12_DevNames : Nat := 10
abbrev fn_law12_DevSeen : Nat := 11
abbrev fn_law21_OrderNames : Nat := 12
abbrev fn_law21_OrderBack : Nat := 13
abbrev fn_order_Apply : Nat := 14
abbrev fn_ref21_Apply : Nat := 15
abbrev fn_order_Undo : Nat := 16
abbrev fn_ref21_Undo : Nat := 17
abbrev fn_ref21_SameCells : Nat := 18
abbrev fn_ref01_SameInts : Nat := 19
abbrev fn_ref12_Great : Nat := 20
abbrev fn_ref12_GreatSees : Nat := 21
abbrev fn_ref12_Twin : Nat := 22
abbrev fn_ref12_TwinSees : Nat := 23
abbrev fn_dev_Replay : Nat := 24
abbrev fn_ref12_Replay : Nat := 25
abbrev fn_ref12_Same : Nat := 26
abbrev fn_law12_spoil : Nat := 27
abbrev fn_ref12_SameSees : Nat := 28
abbrev fn_dev_New : Nat := 29
abbrev fn_ref12_New : Nat := 30
abbrev fn_dev_Twin : Nat := 31
abbrev fn_dev_Check : Nat := 32
abbrev fn_ref12_Check : Nat := 33
abbrev fn_dev_Same : Nat := 34
abbrev fn_ref21_GreatUnits : Nat := 35
abbrev fn_order_Cells : Nat := 36
abbrev fn_ref21_Cells : Nat := 37
abbrev fn_order_Perm : Nat := 38
abbrev fn_ref21_Perm : Nat := 39
abbrev fn_law21_sameAll : Nat := 40
abbrev fn_law12_great : Nat := 41
abbrev fn_ref12_TwinAll : Nat := 42
abbrev fn_dev_Read : Nat := 43
abbrev fn_ref12_Read : Nat := 44
abbrev fn_dev_Write : Nat := 45
abbrev fn_ref12_Write : Nat := 46
abbrev fn_ref01_SameAll : Nat := 47
abbrev fn_law12_alive : Nat := 48
abbrev fn_law21_alive : Nat := 49
abbrev fn_conf_Levels : Nat := 50
abbrev fn_law12_eight : Nat := 51
abbrev fn_law12_text : Nat := 52
abbrev fn_ref01_Same : Nat := 53
abbrev fn_law21_one : Nat := 54
abbrev fn_order_asked : Nat := 55
abbrev fn_order_each_int_uint32 : Nat := 56
abbrev fn_order_Apply_1 : Nat := 57
abbrev fn_ref21_Orders : Nat := 58
abbrev fn_dev_asked : Nat := 59
abbrev fn_slices_Clone_byte_byte : Nat := 60
abbrev fn_dev_one : Nat := 61
abbrev fn_ref12_May : Nat := 62
abbrev fn_ref12_MaySee : Nat := 63
abbrev fn_ref12_Behind : Nat := 64
abbrev fn_dev_each_api_Level_byte : Nat := 65
abbrev fn_dev_New_1 : Nat := 66
abbrev fn_geo_Buckets : Nat := 67
abbrev fn_dev_each_int_byte : Nat := 68
abbrev fn_dev_New_1_1 : Nat := 69
abbrev fn_ref08_May : Nat := 70
abbrev fn_ref12_Blank : Nat := 71
abbrev fn_dev_each_byte_byte_0 : Nat := 72
abbrev fn_dev_Twin_1 : Nat := 73
abbrev fn_dev_each_byte_byte_1 : Nat := 74
abbrev fn_slices_ContainsFunc_byte_byte : Nat := 75
abbrev fn_dev_Check_1 : Nat := 76
abbrev fn_slices_EqualFunc_byte_byte_byte_byte_0 : Nat := 77
abbrev fn_dev_Same_1 : Nat := 78
abbrev fn_slices_EqualFunc_byte_byte_byte_byte_1 : Nat := 79
abbrev fn_slices_Equal_byte_byte : Nat := 80
abbrev fn_order_may : Nat := 81
abbrev fn_order_each_api_Level_int : Nat := 82
abbrev fn_order_Cells_1 : Nat := 83
abbrev fn_order_each_api_Unit_int : Nat := 84
abbrev fn_order_Cells_1_1 : Nat := 85
abbrev fn_conf_Road : Nat := 86
abbrev fn_ref21_asked : Nat := 87
abbrev fn_ref08_All : Nat := 88
abbrev fn_ref21_Told : Nat := 89
abbrev fn_order_each_int_int : Nat := 90
abbrev fn_order_Perm_1 : Nat := 91
abbrev fn_order_Perm_1_1 : Nat := 92
abbrev fn_ref21_among : Nat := 93
abbrev fn_dev_Read_1 : Nat := 94
abbrev fn_ref12_asked : Nat := 95
abbrev fn_ref12_Got : Nat := 96
abbrev fn_dev_Write_1 : Nat := 97
abbrev fn_ref12_Put : Nat := 98
abbrev fn_law21_three : Nat := 99
abbrev fn_conf_numbers : Nat := 100
abbrev fn_conf_each : Nat := 101
abbrev fn_slices_ContainsFunc_int_int : Nat := 102
abbrev fn_dev_asked_1 : Nat := 103
abbrev fn_ref07_Many : Nat := 104
abbrev fn_geo_asked : Nat := 105
abbrev fn_ref08_numbers : Nat := 106
abbrev fn_slices_IndexFunc_byte_byte : Nat := 107
abbrev fn_ref20_MayUnit : Nat := 108
abbrev fn_ref08_high : Nat := 109
abbrev fn_ref21_block : Nat := 110
abbrev fn_conf_span_int_in : Nat := 111
abbrev fn_conf_each_1 : Nat := 112
abbrev fn_conf_level : Nat := 113
abbrev fn_slices_IndexFunc_int_int : Nat := 114
abbrev fn_geo_Check : Nat := 115
abbrev fn_ref08_in : Nat := 116
abbrev fn_ref08_Way : Nat := 117
abbrev fn_geo_Leaves : Nat := 118
abbrev fn_runtime_boundsError_Error : Nat := 119
abbrev fn_runtime_boundsError_RuntimeError : Nat := 120
abbrev fn_runtime_errorString_Error : Nat := 121
abbrev fn_runtime_errorString_RuntimeError : Nat := 122
abbrev fn_runtime_plainError_Error : Nat := 123
abbrev fn_runtime_plainError_RuntimeError : Nat := 124
abbrev fn_runtime_errorAddressString_Error : Nat := 125
abbrev fn_runtime_errorAddressString_RuntimeError : Nat := 126
abbrev fn_runtime_TypeAssertionError_Error : Nat := 127
abbrev fn_runtime_TypeAssertionError_RuntimeError : Nat := 128
abbrev fn_runtime_PanicNilError_Error : Nat := 129
abbrev fn_runtime_PanicNilError_RuntimeError : Nat := 130
abbrev fn_internal_abi_Type_Align : Nat := 131
abbrev fn_internal_runtime_maps_unhashableTypeError_Error : Nat := 132
abbrev fn_internal_runtime_maps_unhashableTypeError_RuntimeError : Nat := 133
abbrev fn_api_Errno_Error : Nat := 134
abbrev fn_internal_abi_Kind_String : Nat := 135

/-- thimblerig/thimbleriglaw21.OrderPuts -/
def S_law21_OrderPuts (x0 : Value) (x1 : Value) (H : Heap) (Q : Value → Heap → Prop) : Prop :=
  JoinPT (fun K8 =>
  lenSl x0 H fun t18 =>
  binV (.int .i64) .gtr t18 (.int .i64 100) fun t19 =>
  asB t19 fun b20 =>
  ifB b20 (
  lenSl x0 H fun t22 =>
  binV (.int .i64) .lss t22 (.int .i64 1025) fun t23 =>
  asB t23 fun b25 =>
  ifB b25 (
  K8 [[(.bool true)]] H) (
  lenSl x0 H fun t27 =>
  binV (.int .i64) .gtr t27 (.int .i64 1030) fun t28 =>
  asB t28 fun b30 =>
  ifB b30 (
  K8 [[(.bool true)]] H) (
  lenSl x1 H fun t32 =>
  binV (.int .i64) .gtr t32 (.int .i64 1030) fun t33 =>
  K8 [[t33]] H))) (
  lenSl x0 H fun t27 =>
  binV (.int .i64) .gtr t27 (.int .i64 1030) fun t28 =>
  asB t28 fun b30 =>
  ifB b30 (
  K8 [[(.bool true)]] H) (
  lenSl x1 H fun t32 =>
  binV (.int .i64) .gtr t32 (.int .i64 1030) fun t33 =>
  K8 [[t33]] H))) fun s8 H =>
  asB (sv s8 0) fun b34 =>
  ifB b34 (
  Q (.bool true) H) (
  bldS 3 1 false (zeroL Try.prog 3) 0 [] H fun t35 H =>
  appS 3 1 8 (zeroL Try.prog 3) t35 x0 H fun t37 H =>
  bldS 30 1 false (zeroL Try.prog 30) 0 [] H fun t38 H =>
  appS 30 1 4 (zeroL Try.prog 30) t38 x1 H fun t40 H =>
  callV Try.prog (fnV fn_order_Apply) [t37, t40] H fun t44 H =>
  extractV 0 t44 fun t45 =>
  extractV 1 t44 fun t46 =>
  callV Try.prog (fnV fn_ref21_Apply) [x0, x1] H fun t50 H =>
  extractV 0 t50 fun t51 =>
  extractV 1 t50 fun t52 =>
  callV Try.prog (fnV fn_order_Undo) [t37, t40] H fun t56 H =>
  extractV 0 t56 fun t57 =>
  extractV 1 t56 fun t58 =>
  callV Try.prog (fnV fn_ref21_Undo) [x0, x1] H fun t62 H =>
  extractV 0 t62 fun t63 =>
  extractV 1 t62 fun t64 =>
  JoinPT (fun K29 =>
  callV Try.prog (fnV fn_ref21_SameCells) [t45, t51] H fun t67 H =>
  asB t67 fun b68 =>
  ifB b68 (
  binV (.int .i64) .eql t46 t52 fun t71 =>
  asB t71 fun b73 =>
  ifB b73 (
  callV Try.prog (fnV fn_ref21_SameCells) [t57, t63] H fun t76 H =>
  asB t76 fun b78 =>
  ifB b78 (
  binV (.int .i64) .eql t58 t64 fun t81 =>
  K29 [[t81]] H) (
  K29 [[(.bool false)]] H)) (
  K29 [[(.bool false)]] H)) (
  K29 [[(.bool false)]] H)) fun s29 H =>
  LoopPT (fun s33 H K33 =>
  lenSl t45 H fun t85 =>
  binV (.int .i64) .lss (sv s33 0) t85 fun t86 =>
  asB t86 fun b86 =>
  ifB b86 (
  idxS 1 t45 (sv s33 0) fun t93 =>
  loadP false 1 t93 H fun t94 =>
  binV (.int .u32) .add t94 (.int .u32 1) fun t95 =>
  idxS 1 t45 (sv s33 0) fun t96 =>
  storeP false 1 t96 t95 H fun H =>
  binV (.int .i64) .add (sv s33 0) (.int .i64 1) fun t88 =>
  K33 [[t88]] H) (
  JoinPT (fun K44 =>
  asB (sv s29 0) fun b98 =>
  ifB b98 (
  callV Try.prog (fnV fn_ref01_SameInts) [t37, x0] H fun t101 H =>
  asB t101 fun b103 =>
  ifB b103 (
  callV Try.prog (fnV fn_ref21_SameCells) [t40, x1] H fun t106 H =>
  K44 [[t106]] H) (
  K44 [[(.bool false)]] H)) (
  K44 [[(.bool false)]] H)) fun s44 H =>
  Q (sv s44 0) H)) [[(.int .i64 0)]] H)
theorem S_law21_OrderPuts_of {x0 : Value} {x1 : Value} {H : Heap} {Q : Value → Heap → Prop} (h : S_law21_OrderPuts x0 x1 H Q) : callV Try.prog (fnV fn_law21_OrderPuts) [x0, x1] H Q :=
  callV_fn (hcalls_of (pv := []) (ann := [(8, [68]), (29, [30]), (33, [32]), (44, [8])]) Try.func3 (by kernel_rfl) (Eq.mpr (by kernel_rfl) h))

/-- thimblerig/order.Apply -/
def S_order_Apply (x0 : Value) (x1 : Value) (H : Heap) (Q : Value → Heap → Prop) : Prop :=
  ifB (okc x1) (
  newC 23 [x1] H fun a3 H =>
  loadP false 1 (.pointer (some ⟨a3, 0, none⟩)) H fun t8 =>
  callV Try.prog (fnV fn_order_asked) [x0, t8] H fun t9 H =>
  binV (.int .i64) .neq t9 (.int .i64 0) fun t11 =>
  asB t11 fun b11 =>
  ifB b11 (
  Q (.tuple #[(.slice none 0 0), t9]) H) (
  callV Try.prog (fnV fn_order_each_int_uint32) [x0, (.func (.func fn_order_Apply_1) #[] #[(.pointer (some ⟨a3, 0, none⟩))])] H fun t15 H =>
  Q (.tuple #[t15, (.int .i64 0)]) H)) False
theorem S_order_Apply_of {x0 : Value} {x1 : Value} {H : Heap} {Q : Value → Heap → Prop} (h : S_order_Apply x0 x1 H Q) : callV Try.prog (fnV fn_order_Apply) [x0, x1] H Q :=
  callV_fn (hcalls_of (pv := []) (ann := []) Try.func14 (by kernel_rfl) (Eq.mpr (by kernel_rfl) h))

/-- thimblerig/order.Apply$1 -/
def S_order_Apply_1 (x0 : Value) (x1 : Value) (y0 : Value) (H : Heap) (Q : Value → Heap → Prop) : Prop :=
  loadP false 1 y0 H fun t6 =>
  idxS 1 t6 x1 fun t8 =>
  loadP false 1 t8 H fun t9 =>
  Q t9 H
theorem S_order_Apply_1_of {x0 : Value} {x1 : Value} {y0 : Value} {H : Heap} {Q : Value → Heap → Prop} (h : S_order_Apply_1 x0 x1 y0 H Q) : callV Try.prog (fnV fn_order_Apply_1) [x0, x1, y0] H Q :=
  callV_fn (hcalls_of (pv := []) (ann := []) Try.func57 (by kernel_rfl) (Eq.mpr (by kernel_rfl) h))
theorem C_order_Apply_1_of {x0 : Value} {x1 : Value} {y0 : Value} {H : Heap} {Q : Value → Heap → Prop} (h : S_order_Apply_1 x0 x1 y0 H Q) : callV Try.prog (.func (.func fn_order_Apply_1) #[] #[y0]) [x0, x1] H Q :=
  callV_cl (S_order_Apply_1_of h)

/-- thimblerig/order.Undo -/
def S_order_Undo (x0 : Value) (x1 : Value) (H : Heap) (Q : Value → Heap → Prop) : Prop :=
  callV Try.prog (fnV fn_order_asked) [x0, x1] H fun t12 H =>
  binV (.int .i64) .neq t12 (.int .i64 0) fun t14 =>
  asB t14 fun b14 =>
  ifB b14 (
  Q (.tuple #[(.slice none 0 0), t12]) H) (
  lenSl x0 H fun t17 =>
  mkS 30 1 4 (zeroL Try.prog 30) t17 t17 H fun t18 H =>
  lenSl x0 H fun t20 =>
  LoopPT (fun s21 H K21 =>
  binV (.int .i64) .lss (sv s21 0) t20 fun t22 =>
  asB t22 fun b22 =>
  ifB b22 (
  idxS 1 x0 (sv s21 0) fun t24 =>
  loadP false 1 t24 H fun t25 =>
  idxS 1 x1 (sv s21 0) fun t30 =>
  loadP false 1 t30 H fun t31 =>
  idxS 1 t18 t25 fun t32 =>
  storeP false 1 t32 t31 H fun H =>
  binV (.int .i64) .add (sv s21 0) (.int .i64 1) fun t33 =>
  K21 [[t33]] H) (
  Q (.tuple #[t18, (.int .i64 0)]) H)) [[(.int .i64 0)]] H)
theorem S_order_Undo_of {x0 : Value} {x1 : Value} {H : Heap} {Q : Value → Heap → Prop} (h : S_order_Undo x0 x1 H Q) : callV Try.prog (fnV fn_order_Undo) [x0, x1] H Q :=
  callV_fn (hcalls_of (pv := []) (ann := [(21, [42])]) Try.func16 (by kernel_rfl) (Eq.mpr (by kernel_rfl) h))

/-- thimblerig/order.asked -/
def S_order_asked (x0 : Value) (x1 : Value) (H : Heap) (Q : Value → Heap → Prop) : Prop :=
  lenSl x0 H fun t9 =>
  binV (.int .i64) .gtr t9 (.int .i64 1024) fun t10 =>
  asB t10 fun b10 =>
  ifB b10 (
  Q (.int .i64 4) H) (
  lenSl x1 H fun t12 =>
  lenSl x0 H fun t14 =>
  binV (.int .i64) .neq t12 t14 fun t15 =>
  asB t15 fun b15 =>
  ifB b15 (
  Q (.int .i64 2) H) (
  mkM H fun t16 H =>
  lenSl x0 H fun t18 =>
  LoopPT (fun s24 H K24 =>
  binV (.int .i64) .lss (sv s24 0) t18 fun t20 =>
  asB t20 fun b20 =>
  ifB b20 (
  idxS 1 x0 (sv s24 0) fun t21 =>
  loadP false 1 t21 H fun t22 =>
  getM .i64 (.int .i64 0) t16 t22 H fun t25 t25o =>
  binV (.int .i64) .add t25 (.int .i64 1) fun t26 =>
  putM .i64 t16 t22 t26 H fun H =>
  JoinPT (fun K35 =>
  getM .i64 (.int .i64 0) t16 t22 H fun t29 t29o =>
  binV (.int .i64) .gtr t29 (.int .i64 1) fun t30 =>
  asB t30 fun b31 =>
  ifB b31 (
  K35 [[(.bool true)]] H) (
  binV (.int .i64) .lss t22 (.int .i64 0) fun t33 =>
  asB t33 fun b35 =>
  ifB b35 (
  K35 [[(.bool true)]] H) (
  lenSl x0 H fun t38 =>
  binV (.int .i64) .geq t22 t38 fun t39 =>
  K35 [[t39]] H))) fun s35 H =>
  asB (sv s35 0) fun b40 =>
  ifB b40 (
  Q (.int .i64 2) H) (
  binV (.int .i64) .add (sv s24 0) (.int .i64 1) fun t41 =>
  K24 [[t41]] H)) (
  Q (.int .i64 0) H)) [[(.int .i64 0)]] H))
theorem S_order_asked_of {x0 : Value} {x1 : Value} {H : Heap} {Q : Value → Heap → Prop} (h : S_order_asked x0 x1 H Q) : callV Try.prog (fnV fn_order_asked) [x0, x1] H Q :=
  callV_fn (hcalls_of (pv := []) (ann := [(24, [38]), (35, [80])]) Try.func55 (by kernel_rfl) (Eq.mpr (by kernel_rfl) h))

/-- thimblerig/order.each[int,uint32] -/
def S_order_each_int_uint32 (x0 : Value) (x1 : Value) (H : Heap) (Q : Value → Heap → Prop) : Prop :=
  lenSl x0 H fun t8 =>
  LoopPT (fun s9 H K9 =>
  binV (.int .i64) .lss (sv s9 1) t8 fun t10 =>
  asB t10 fun b10 =>
  ifB b10 (
  idxS 1 x0 (sv s9 1) fun t12 =>
  loadP false 1 t12 H fun t13 =>
  callV Try.prog x1 [(sv s9 1), t13] H fun t18 H =>
  bldS 30 1 false (zeroL Try.prog 30) 1 [(0, t18)] H fun t19 H =>
  appS 30 1 4 (zeroL Try.prog 30) (sv s9 0) t19 H fun t20 H =>
  binV (.int .i64) .add (sv s9 1) (.int .i64 1) fun t21 =>
  K9 [[t20], [t21]] H) (
  Q (sv s9 0) H)) [[(.slice none 0 0)], [(.int .i64 0)]] H
theorem S_order_each_int_uint32_of {x0 : Value} {x1 : Value} {H : Heap} {Q : Value → Heap → Prop} (h : S_order_each_int_uint32 x0 x1 H Q) : callV Try.prog (fnV fn_order_each_int_uint32) [x0, x1] H Q :=
  callV_fn (hcalls_of (pv := []) (ann := [(9, [8, 18])]) Try.func56 (by kernel_rfl) (Eq.mpr (by kernel_rfl) h))

/-- thimblerig/thimblerigref01.SameInts -/
def S_ref01_SameInts (x0 : Value) (x1 : Value) (H : Heap) (Q : Value → Heap → Prop) : Prop :=
  lenSl x0 H fun t7 =>
  lenSl x1 H fun t9 =>
  binV (.int .i64) .neq t7 t9 fun t10 =>
  asB t10 fun b10 =>
  ifB b10 (
  Q (.bool false) H) (
  LoopPT (fun s15 H K15 =>
  lenSl x0 H fun t13 =>
  binV (.int .i64) .lss (sv s15 0) t13 fun t14 =>
  asB t14 fun b14 =>
  ifB b14 (
  idxS 1 x0 (sv s15 0) fun t19 =>
  loadP false 1 t19 H fun t20 =>
  idxS 1 x1 (sv s15 0) fun t23 =>
  loadP false 1 t23 H fun t24 =>
  binV (.int .i64) .neq t20 t24 fun t25 =>
  asB t25 fun b25 =>
  ifB b25 (
  Q (.bool false) H) (
  binV (.int .i64) .add (sv s15 0) (.int .i64 1) fun t16 =>
  K15 [[t16]] H)) (
  Q (.bool true) H)) [[(.int .i64 0)]] H)
theorem S_ref01_SameInts_of {x0 : Value} {x1 : Value} {H : Heap} {Q : Value → Heap → Prop} (h : S_ref01_SameInts x0 x1 H Q) : callV Try.prog (fnV fn_ref01_SameInts) [x0, x1] H Q :=
  callV_fn (hcalls_of (pv := []) (ann := [(15, [10])]) Try.func19 (by kernel_rfl) (Eq.mpr (by kernel_rfl) h))

/-- thimblerig/thimblerigref21.Apply -/
def S_ref21_Apply (x0 : Value) (x1 : Value) (H : Heap) (Q : Value → Heap → Prop) : Prop :=
  callV Try.prog (fnV fn_ref21_Orders) [x0, x1] H fun t11 H =>
  binV (.int .i64) .neq t11 (.int .i64 0) fun t13 =>
  asB t13 fun b13 =>
  ifB b13 (
  Q (.tuple #[(.slice none 0 0), t11]) H) (
  LoopPT (fun s21 H K21 =>
  lenSl x0 H fun t17 =>
  binV (.int .i64) .lss (sv s21 1) t17 fun t18 =>
  asB t18 fun b18 =>
  ifB b18 (
  idxS 1 x0 (sv s21 1) fun t25 =>
  loadP false 1 t25 H fun t26 =>
  idxS 1 x1 t26 fun t27 =>
  loadP false 1 t27 H fun t28 =>
  bldS 30 1 false (zeroL Try.prog 30) 1 [(0, t28)] H fun t29 H =>
  appS 30 1 4 (zeroL Try.prog 30) (sv s21 0) t29 H fun t30 H =>
  binV (.int .i64) .add (sv s21 1) (.int .i64 1) fun t20 =>
  K21 [[t30], [t20]] H) (
  Q (.tuple #[(sv s21 0), (.int .i64 0)]) H)) [[(.slice none 0 0)], [(.int .i64 0)]] H)
theorem S_ref21_Apply_of {x0 : Value} {x1 : Value} {H : Heap} {Q : Value → Heap → Prop} (h : S_ref21_Apply x0 x1 H Q) : callV Try.prog (fnV fn_ref21_Apply) [x0, x1] H Q :=
  callV_fn (hcalls_of (pv := []) (ann := [(21, [14, 16])]) Try.func15 (by kernel_rfl) (Eq.mpr (by kernel_rfl) h))

/-- thimblerig/thimblerigref21.Orders -/
def S_ref21_Orders (x0 : Value) (x1 : Value) (H : Heap) (Q : Value → Heap → Prop) : Prop :=
  lenSl x0 H fun t7 =>
  binV (.int .i64) .gtr t7 (.int .i64 1024) fun t8 =>
  asB t8 fun b8 =>
  ifB b8 (
  Q (.int .i64 4) H) (
  lenSl x1 H fun t10 =>
  lenSl x0 H fun t12 =>
  binV (.int .i64) .neq t10 t12 fun t13 =>
  asB t13 fun b13 =>
  ifB b13 (
  Q (.int .i64 2) H) (
  LoopPT (fun s21 H K21 =>
  lenSl x0 H fun t16 =>
  binV (.int .i64) .lss (sv s21 0) t16 fun t17 =>
  asB t17 fun b17 =>
  ifB b17 (
  callV Try.prog (fnV fn_ref21_among) [x0, (sv s21 0)] H fun t22 H =>
  unV .not t22 fun t23 =>
  asB t23 fun b23 =>
  ifB b23 (
  Q (.int .i64 2) H) (
  binV (.int .i64) .add (sv s21 0) (.int .i64 1) fun t19 =>
  K21 [[t19]] H)) (
  Q (.int .i64 0) H)) [[(.int .i64 0)]] H))
theorem S_ref21_Orders_of {x0 : Value} {x1 : Value} {H : Heap} {Q : Value → Heap → Prop} (h : S_ref21_Orders x0 x1 H Q) : callV Try.prog (fnV fn_ref21_Orders) [x0, x1] H Q :=
  callV_fn (hcalls_of (pv := []) (ann := [(21, [10])]) Try.func58 (by kernel_rfl) (Eq.mpr (by kernel_rfl) h))

/-- thimblerig/thimblerigref21.SameCells -/
def S_ref21_SameCells (x0 : Value) (x1 : Value) (H : Heap) (Q : Value → Heap → Prop) : Prop :=
  lenSl x0 H fun t7 =>
  lenSl x1 H fun t9 =>
  binV (.int .i64) .neq t7 t9 fun t10 =>
  asB t10 fun b10 =>
  ifB b10 (
  Q (.bool false) H) (
  LoopPT (fun s15 H K15 =>
  lenSl x0 H fun t13 =>
  binV (.int .i64) .lss (sv s15 0) t13 fun t14 =>
  asB t14 fun b14 =>
  ifB b14 (
  idxS 1 x0 (sv s15 0) fun t19 =>
  loadP false 1 t19 H fun t20 =>
  idxS 1 x1 (sv s15 0) fun t23 =>
  loadP false 1 t23 H fun t24 =>
  binV (.int .u32) .neq t20 t24 fun t25 =>
  asB t25 fun b25 =>
  ifB b25 (
  Q (.bool false) H) (
  binV (.int .i64) .add (sv s15 0) (.int .i64 1) fun t16 =>
  K15 [[t16]] H)) (
  Q (.bool true) H)) [[(.int .i64 0)]] H)
theorem S_ref21_SameCells_of {x0 : Value} {x1 : Value} {H : Heap} {Q : Value → Heap → Prop} (h : S_ref21_SameCells x0 x1 H Q) : callV Try.prog (fnV fn_ref21_SameCells) [x0, x1] H Q :=
  callV_fn (hcalls_of (pv := []) (ann := [(15, [10])]) Try.func18 (by kernel_rfl) (Eq.mpr (by kernel_rfl) h))

/-- thimblerig/thimblerigref21.Undo -/
def S_ref21_Undo (x0 : Value) (x1 : Value) (H : Heap) (Q : Value → Heap → Prop) : Prop :=
  callV Try.prog (fnV fn_ref21_Orders) [x0, x1] H fun t11 H =>
  binV (.int .i64) .neq t11 (.int .i64 0) fun t13 =>
  asB t13 fun b13 =>
  ifB b13 (
  Q (.tuple #[(.slice none 0 0), t11]) H) (
  lenSl x0 H fun t16 =>
  mkS 30 1 4 (zeroL Try.prog 30) t16 t16 H fun t17 H =>
  LoopPT (fun s21 H K21 =>
  lenSl x0 H fun t20 =>
  binV (.int .i64) .lss (sv s21 0) t20 fun t21 =>
  asB t21 fun b21 =>
  ifB b21 (
  idxS 1 x0 (sv s21 0) fun t27 =>
  loadP false 1 t27 H fun t28 =>
  idxS 1 x1 (sv s21 0) fun t31 =>
  loadP false 1 t31 H fun t32 =>
  idxS 1 t17 t28 fun t33 =>
  storeP false 1 t33 t32 H fun H =>
  binV (.int .i64) .add (sv s21 0) (.int .i64 1) fun t23 =>
  K21 [[t23]] H) (
  Q (.tuple #[t17, (.int .i64 0)]) H)) [[(.int .i64 0)]] H)
theorem S_ref21_Undo_of {x0 : Value} {x1 : Value} {H : Heap} {Q : Value → Heap → Prop} (h : S_ref21_Undo x0 x1 H Q) : callV Try.prog (fnV fn_ref21_Undo) [x0, x1] H Q :=
  callV_fn (hcalls_of (pv := []) (ann := [(21, [16])]) Try.func17 (by kernel_rfl) (Eq.mpr (by kernel_rfl) h))

/-- thimblerig/thimblerigref21.among -/
def S_ref21_among (x0 : Value) (x1 : Value) (H : Heap) (Q : Value → Heap → Prop) : Prop :=
  LoopPT (fun s9 H K9 =>
  lenSl x0 H fun t8 =>
  binV (.int .i64) .lss (sv s9 0) t8 fun t9 =>
  asB t9 fun b9 =>
  ifB b9 (
  idxS 1 x0 (sv s9 0) fun t14 =>
  loadP false 1 t14 H fun t15 =>
  binV (.int .i64) .eql t15 x1 fun t17 =>
  asB t17 fun b17 =>
  ifB b17 (
  Q (.bool true) H) (
  binV (.int .i64) .add (sv s9 0) (.int .i64 1) fun t11 =>
  K9 [[t11]] H)) (
  Q (.bool false) H)) [[(.int .i64 0)]] H
theorem S_ref21_among_of {x0 : Value} {x1 : Value} {H : Heap} {Q : Value → Heap → Prop} (h : S_ref21_among x0 x1 H Q) : callV Try.prog (fnV fn_ref21_among) [x0, x1] H Q :=
  callV_fn (hcalls_of (pv := []) (ann := [(9, [10])]) Try.func93 (by kernel_rfl) (Eq.mpr (by kernel_rfl) h))

end Go.Proofs.Ytikebhnnmnlgaaa
