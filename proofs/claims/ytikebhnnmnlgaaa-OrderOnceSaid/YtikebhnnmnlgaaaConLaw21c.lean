/- The statement 'OrderNames': its function says true. -/
import Derived.Test.YtikebhnnmnlgaaaConLaw21b
namespace Go.Proofs.Ytikebhnnmnlgaaa
open Go.Ab Go.Md
set_option linter.unusedVariables false
set_option linter.unusedSimpArgs false
set_option maxRecDepth 20000

variable {H : Heap} {Q : Value → Heap → Prop} {A B C : Nat → Prop}

def cZ : Cfg := ⟨0, 0, 0, 0, 0, 0, 0, 0, 0⟩
theorem oN1 : unitsE cO (List.replicate 513 ⟨0, 0, 0, []⟩) = 4 := by decide +kernel
theorem oN2 : unitsE cO [⟨3, 0, 0, []⟩] = 2 := by decide +kernel
theorem oN3 : ordE [0, 0] [1, 2] = 2 := by decide +kernel
theorem oN4 : ordE [0, 1] [1] = 2 := by decide +kernel
theorem oN5 : unitsE cZ [] = 8 := by decide +kernel
theorem oN6 : ordE (List.replicate 1025 0) (List.replicate 1025 0) = 4 := by decide +kernel

theorem c_OrderNames (hQ : ∀ H', G H H' → Q (.bool true) H') : callV Try.prog (fnV fn_law21_OrderNames) [] H Q := by
  apply S_law21_OrderNames_of
  unfold S_law21_OrderNames
  have zr : ∀ H : Heap, rUnt.rel H (fun _ => False) [.int .u8 0, .int .i64 0, .int .i64 0, .slice none 0 0] ⟨0, 0, 0, []⟩ := fun H => ⟨_, rfl, Sl.nil _ _ _ _ _⟩
  have tr : ∀ {α : Type} {R : Rep α} {H : Heap} {b : Nat} {A : Nat → Prop} {v : Value} {xs : List α}, Ow R H b A v xs → Sl R H (fun _ => True) v xs := fun h => h.sl (fun _ _ _ => trivial) fun _ _ => trivial
  refine join_of (fun s H' => G H H' ∧ s = [[.int .i64 4]]) (fun K hK => ?_) ?_
  · constructor
    · refine c_law21_one fun H1 g1 => ?_
      refine mk_zero (R := rUnt) (m := 513) (zr H1) rfl (by omega) (by omega) (by omega) fun u H2 hu g2 _ => ?_
      refine c_order_Cells (c := cO) (tr hu) fun a H3 ha g3 => ?_
      rw [oN1]
      exact hK _ _ ⟨(g1.trans g2).trans g3, rfl⟩
    · refine mk_zero (R := rUnt) (m := 513) (zr H) rfl (by omega) (by omega) (by omega) fun u H2 hu g2 _ => c_law21_one fun H1 g1 => ?_
      refine c_order_Cells (c := cO) ((tr hu).g g1) fun a H3 ha g3 => ?_
      rw [oN1]
      exact hK _ _ ⟨(g2.trans g1).trans g3, rfl⟩
  rintro s H1 ⟨g1, rfl⟩
  refine c_law21_one fun H2 g2 => ?_
  refine bld_all (R := rUnt) (A := fun _ => True) (xs := [⟨3, 0, 0, []⟩]) (.cons ⟨[.int .u8 3, .int .i64 0, .int .i64 0, .slice none 0 0], rfl, _, rfl, Sl.nil _ _ _ _ _⟩ .nil) rfl (fun h => by cases h) rfl fun u H3 hu g3 _ => ?_
  refine c_order_Perm (c := cO) (tr hu) fun a H4 ha g4 => ?_
  rw [oN2]
  try simp only [sv_cons, sv_cons1, sc_cons, sc_cons1, asB_bool, ifB_true, ifB_false, un_not, bin_lss, bin_leq, bin_gtr, bin_geq, bin_eql, bin_neq, bin_add, bin_sub, bin_mul, ok_int, ok_bool, ok_slice, ok_str, ok_ptr, ok_map, ok_func, ok_iface, ok_nil, List.all_cons, List.all_nil, Bool.and_true, Bool.true_and, seg, setSeg, List.drop_succ_cons, List.drop_zero, List.take_succ_cons, List.take_zero, List.cons_append, List.nil_append, List.append_nil, List.length_cons, List.length_nil, List.drop_nil, List.size_toArray, Nat.reduceAdd, Nat.reduceLeDiff, Nat.reduceBEq, Nat.zero_add, Nat.le_refl, decide_true, mkV, List.headD_cons, cellsV, w_fldV, w_ext, w_fldP, List.getElem?_toArray, List.getElem?_cons_zero, List.getElem?_cons_succ, beq_self_eq_true, selV]
  have g := ((g1.trans g2).trans g3).trans g4
  refine bld_I (q := .i64) [0, 0] (by decide) rfl fun p H5 hp g5 _ => bld_I (q := .u32) [1, 2] (by decide) rfl fun c H6 hc g6 _ => ?_
  refine c_order_Apply ((tr hp).g g6) (tr hc) (by decide) fun b H7 hb g7 => ?_
  rw [oN3]
  try simp only [sv_cons, sv_cons1, sc_cons, sc_cons1, asB_bool, ifB_true, ifB_false, un_not, bin_lss, bin_leq, bin_gtr, bin_geq, bin_eql, bin_neq, bin_add, bin_sub, bin_mul, ok_int, ok_bool, ok_slice, ok_str, ok_ptr, ok_map, ok_func, ok_iface, ok_nil, List.all_cons, List.all_nil, Bool.and_true, Bool.true_and, seg, setSeg, List.drop_succ_cons, List.drop_zero, List.take_succ_cons, List.take_zero, List.cons_append, List.nil_append, List.append_nil, List.length_cons, List.length_nil, List.drop_nil, List.size_toArray, Nat.reduceAdd, Nat.reduceLeDiff, Nat.reduceBEq, Nat.zero_add, Nat.le_refl, decide_true, mkV, List.headD_cons, cellsV, w_fldV, w_ext, w_fldP, List.getElem?_toArray, List.getElem?_cons_zero, List.getElem?_cons_succ, beq_self_eq_true, selV]
  have g := ((g.trans g5).trans g6).trans g7
  refine bld_I (q := .i64) [0, 1] (by decide) rfl fun p H8 hp g8 _ => bld_I (q := .u32) [1] (by decide) rfl fun c H9 hc g9 _ => ?_
  refine c_order_Undo ((tr hp).g g9) (tr hc) (by decide) fun b H10 hb g10 => ?_
  rw [oN4]
  try simp only [sv_cons, sv_cons1, sc_cons, sc_cons1, asB_bool, ifB_true, ifB_false, un_not, bin_lss, bin_leq, bin_gtr, bin_geq, bin_eql, bin_neq, bin_add, bin_sub, bin_mul, ok_int, ok_bool, ok_slice, ok_str, ok_ptr, ok_map, ok_func, ok_iface, ok_nil, List.all_cons, List.all_nil, Bool.and_true, Bool.true_and, seg, setSeg, List.drop_succ_cons, List.drop_zero, List.take_succ_cons, List.take_zero, List.cons_append, List.nil_append, List.append_nil, List.length_cons, List.length_nil, List.drop_nil, List.size_toArray, Nat.reduceAdd, Nat.reduceLeDiff, Nat.reduceBEq, Nat.zero_add, Nat.le_refl, decide_true, mkV, List.headD_cons, cellsV, w_fldV, w_ext, w_fldP, List.getElem?_toArray, List.getElem?_cons_zero, List.getElem?_cons_succ, beq_self_eq_true, selV]
  have g := ((g.trans g8).trans g9).trans g10
  refine c_order_Cells (c := cZ) (Sl.nil rUnt H10 (fun _ => True) none 0) fun a H11 ha g11 => ?_
  rw [oN5]
  try simp only [sv_cons, sv_cons1, sc_cons, sc_cons1, asB_bool, ifB_true, ifB_false, un_not, bin_lss, bin_leq, bin_gtr, bin_geq, bin_eql, bin_neq, bin_add, bin_sub, bin_mul, ok_int, ok_bool, ok_slice, ok_str, ok_ptr, ok_map, ok_func, ok_iface, ok_nil, List.all_cons, List.all_nil, Bool.and_true, Bool.true_and, seg, setSeg, List.drop_succ_cons, List.drop_zero, List.take_succ_cons, List.take_zero, List.cons_append, List.nil_append, List.append_nil, List.length_cons, List.length_nil, List.drop_nil, List.size_toArray, Nat.reduceAdd, Nat.reduceLeDiff, Nat.reduceBEq, Nat.zero_add, Nat.le_refl, decide_true, mkV, List.headD_cons, cellsV, w_fldV, w_ext, w_fldP, List.getElem?_toArray, List.getElem?_cons_zero, List.getElem?_cons_succ, beq_self_eq_true, selV]
  have g := g.trans g11
  refine join_of (fun s H' => G H11 H' ∧ s = [[.int .i64 4]]) (fun K hK => ?_) ?_
  · constructor
    · refine mk_zero (R := rI .i64) (A := fun _ => False) (m := 1025) (x := 0) ⟨rfl, by decide⟩ rfl (by omega) (by omega) (by omega) fun p H12 hp g12 _ => ?_
      refine mk_zero (R := rI .u32) (A := fun _ => False) (m := 1025) (x := 0) ⟨rfl, by decide⟩ rfl (by omega) (by omega) (by omega) fun c H13 hc g13 _ => ?_
      refine c_order_Apply ((tr hp).g g13) (tr hc) (by rw [List.length_replicate]; decide) fun b H14 hb g14 => ?_
      rw [oN6]
      exact hK _ _ ⟨(g12.trans g13).trans g14, rfl⟩
    · refine mk_zero (R := rI .u32) (A := fun _ => False) (m := 1025) (x := 0) ⟨rfl, by decide⟩ rfl (by omega) (by omega) (by omega) fun c H12 hc g12 _ => ?_
      refine mk_zero (R := rI .i64) (A := fun _ => False) (m := 1025) (x := 0) ⟨rfl, by decide⟩ rfl (by omega) (by omega) (by omega) fun p H13 hp g13 _ => ?_
      refine c_order_Apply (tr hp) ((tr hc).g g13) (by rw [List.length_replicate]; decide) fun b H14 hb g14 => ?_
      rw [oN6]
      exact hK _ _ ⟨(g12.trans g13).trans g14, rfl⟩
  rintro s H12 ⟨g12, rfl⟩
  refine join_of (fun s H' => G H12 H' ∧ s = [[.bool true]]) (fun K hK => ?_) ?_
  · refine c_law21_alive fun H13 g13 => ?_
    try simp only [sv_cons, sv_cons1, sc_cons, sc_cons1, asB_bool, ifB_true, ifB_false, un_not, bin_lss, bin_leq, bin_gtr, bin_geq, bin_eql, bin_neq, bin_add, bin_sub, bin_mul, ok_int, ok_bool, ok_slice, ok_str, ok_ptr, ok_map, ok_func, ok_iface, ok_nil, List.all_cons, List.all_nil, Bool.and_true, Bool.true_and, seg, setSeg, List.drop_succ_cons, List.drop_zero, List.take_succ_cons, List.take_zero, List.cons_append, List.nil_append, List.append_nil, List.length_cons, List.length_nil, List.drop_nil, List.size_toArray, Nat.reduceAdd, Nat.reduceLeDiff, Nat.reduceBEq, Nat.zero_add, Nat.le_refl, decide_true, mkV, List.headD_cons, cellsV, w_fldV, w_ext, w_fldP, List.getElem?_toArray, List.getElem?_cons_zero, List.getElem?_cons_succ, beq_self_eq_true, selV]
    exact hK _ _ ⟨g13, rfl⟩
  rintro s H13 ⟨g13, rfl⟩
  exact hQ _ ((g.trans g12).trans g13)

end Go.Proofs.Ytikebhnnmnlgaaa
