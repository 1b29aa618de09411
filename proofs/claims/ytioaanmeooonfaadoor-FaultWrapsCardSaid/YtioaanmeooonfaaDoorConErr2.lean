/- Contracts: errors.As, of marks that wrap one another around a number. -/
import Derived.Test.YtioaanmeooonfaaDoorConErr
import Derived.Test.YtioaanmeooonfaaDoorAbNest
namespace Go.Proofs.YtioaanmeooonfaaDoor
open Go.Ab Go.Extern
set_option linter.unusedVariables false
set_option linter.unusedSimpArgs false
set_option maxRecDepth 100000

variable {H : Heap} {Q : Value → Heap → Prop}

/-! ### errors.As -/

theorem cell_of {w : World} {b : Nat} {v : Value} {e : TypeId} {fr : Nat × Nat} (h : w.heap[b]? = some (.cells #[v] e fr)) : w.cell? ⟨b, 0, none⟩ = some v := by simp [World.cell?, h]

theorem c_errors_as_hit {e a t : Nat} {old x1 : Value} (ha : Bx H a [.pointer (some ⟨t, 0, none⟩)]) (ht : Bx H t [old]) (hne : a ≠ t)
    (hQ : ∀ H', Bx H' t [.pointer (some ⟨e, 0, none⟩)] → Fr (fun y => y ≠ t) H H' → Q (.bool true) H') :
    callV Tryd.prog (fnV fn_errors_as) [.iface 45 (.pointer (some ⟨e, 0, none⟩)), x1, .agg #[hdl 50, .pointer (some ⟨a, 0, none⟩), .int .u64 150], rtV 45] H Q := by
  apply S_errors_as_of
  unfold S_errors_as
  refine newT_of fun H1 g1 s1 => ?_
  have ha := ha.g g1
  have ht := ht.g g1
  refine loop_up 1 (fun i st H' => i = 0 ∧ H' = H1 ∧ st = [[.iface 45 (.pointer (some ⟨e, 0, none⟩))]]) ⟨rfl, rfl, rfl⟩ ?_
  rintro i st H' K hi ⟨rfl, rfl, rfl⟩ hK
  refine xc_pure (typeOf45 _) ?_
  refine ⟨64, .agg #[hdl 45], fun w _ => methodAssignable _ w, .inr ⟨by kernel_rfl, ?_⟩⟩
  refine xc_pure assign45 ?_
  try simp only [sv_cons, sv_cons1, sc_cons, sc_cons1, asB_bool, ifB_true, ifB_false, un_not, bin_lss, bin_leq, bin_gtr, bin_geq, bin_eql, bin_neq, bin_add, bin_sub, bin_mul, ok_int, ok_bool, ok_slice, ok_str, ok_ptr, ok_map, ok_func, ok_iface, ok_nil, List.all_cons, List.all_nil, Bool.and_true, Bool.true_and, seg, setSeg, List.drop_succ_cons, List.drop_zero, List.take_succ_cons, List.take_zero, List.cons_append, List.nil_append, List.append_nil, List.length_cons, List.length_nil, List.drop_nil, List.size_toArray, Nat.reduceAdd, Nat.reduceLeDiff, Nat.reduceBEq, Nat.zero_add, Nat.le_refl, decide_true, mkV, List.headD_cons, cellsV, w_fldV, w_ext, w_fldP, List.getElem?_toArray, List.getElem?_cons_zero, List.getElem?_cons_succ, beq_self_eq_true, selV]
  have hal := ha.lt
  have htl := ht.lt
  refine fun w hw => ⟨_, H', w, elemV50 ⟨a, 0, none⟩ ⟨t, 0, none⟩ w ?_, .refl hw, ?_⟩
  · obtain ⟨ty, h⟩ := ha
    exact cell_of (hw.cells h)
  refine fun w hw => ⟨_, _, _, valueOf45 ⟨e, 0, none⟩ w, Turns.push hw _, ?_⟩
  rw [hw.size]
  have hb : (H'.push (.cells #[.pointer (some ⟨e, 0, none⟩)] 45))[H'.size]? = some (.cells #[.pointer (some ⟨e, 0, none⟩)] 45 (0, 0)) := by simp
  have gp : G H' (H'.push (.cells #[.pointer (some ⟨e, 0, none⟩)] 45)) := G.push _ _
  have ht2 := ht.g gp
  generalize hH2 : H'.push (.cells #[.pointer (some ⟨e, 0, none⟩)] 45) = H2 at *
  obtain ⟨ty, h2⟩ := ht2
  refine fun w hw => ⟨_, _, _, set45 t ⟨H'.size, 0, none⟩ ⟨e, 0, none⟩ #[old] ty w ?_ ?_ (by simp), Turns.setCells hw (o := 0) _ h2, ?_⟩
  · exact cell_of (hw.cells hb)
  · exact hw.cells h2
  · refine hQ _ ⟨ty, ?_⟩ (Fr.trans (Fr.trans (A := fun _ => True) (B := fun _ => True) (C := fun _ => True) g1 gp fun _ _ _ => ⟨trivial, trivial⟩) (B := fun y => y ≠ t) ⟨by simp [setCells], fun y hy hn => ?_⟩ fun y _ hy => ⟨trivial, hy⟩)
    · unfold setCells; rw [Array.getElem?_modify, if_pos rfl, h2]; simp [setSeg]
    · unfold setCells; rw [Array.getElem?_modify, if_neg (Ne.symm hn)]

theorem c_errors_as_bare {a : Nat} {code x1 : Value} (hc : okc code = true) (hQ : ∀ H', G H H' → Q (.bool false) H') :
    callV Tryd.prog (fnV fn_errors_as) [.iface 74 (.agg #[code]), x1, .agg #[hdl 50, .pointer (some ⟨a, 0, none⟩), .int .u64 150], rtV 45] H Q := by
  apply S_errors_as_of
  unfold S_errors_as
  refine newT_of fun H1 g1 s1 => ?_
  refine loop_up 2 (fun i st H' => G H H' ∧ ((i = 0 ∧ st = [[.iface 74 (.agg #[code])]]) ∨ (i = 1 ∧ st = [[.iface 22 code]]))) ⟨g1, .inl ⟨rfl, rfl⟩⟩ ?_
  rintro i st H' K hi ⟨g, ⟨rfl, rfl⟩ | ⟨rfl, rfl⟩⟩ hK
  · refine xc_pure (typeOf74 _) ?_
    refine ⟨64, .agg #[hdl 74], fun w _ => methodAssignable _ w, .inr ⟨by kernel_rfl, ?_⟩⟩
    refine xc_pure assign74 ?_
    try simp only [sv_cons, sv_cons1, sc_cons, sc_cons1, asB_bool, ifB_true, ifB_false, un_not, bin_lss, bin_leq, bin_gtr, bin_geq, bin_eql, bin_neq, bin_add, bin_sub, bin_mul, ok_int, ok_bool, ok_slice, ok_str, ok_ptr, ok_map, ok_func, ok_iface, ok_nil, List.all_cons, List.all_nil, Bool.and_true, Bool.true_and, seg, setSeg, List.drop_succ_cons, List.drop_zero, List.take_succ_cons, List.take_zero, List.cons_append, List.nil_append, List.append_nil, List.length_cons, List.length_nil, List.drop_nil, List.size_toArray, Nat.reduceAdd, Nat.reduceLeDiff, Nat.reduceBEq, Nat.zero_add, Nat.le_refl, decide_true, mkV, List.headD_cons, cellsV, w_fldV, w_ext, w_fldP, List.getElem?_toArray, List.getElem?_cons_zero, List.getElem?_cons_succ, beq_self_eq_true, selV]
    refine ta86_74 _ _ ?_
    try simp only [sv_cons, sv_cons1, sc_cons, sc_cons1, asB_bool, ifB_true, ifB_false, un_not, bin_lss, bin_leq, bin_gtr, bin_geq, bin_eql, bin_neq, bin_add, bin_sub, bin_mul, ok_int, ok_bool, ok_slice, ok_str, ok_ptr, ok_map, ok_func, ok_iface, ok_nil, List.all_cons, List.all_nil, Bool.and_true, Bool.true_and, seg, setSeg, List.drop_succ_cons, List.drop_zero, List.take_succ_cons, List.take_zero, List.cons_append, List.nil_append, List.append_nil, List.length_cons, List.length_nil, List.drop_nil, List.size_toArray, Nat.reduceAdd, Nat.reduceLeDiff, Nat.reduceBEq, Nat.zero_add, Nat.le_refl, decide_true, mkV, List.headD_cons, cellsV, w_fldV, w_ext, w_fldP, List.getElem?_toArray, List.getElem?_cons_zero, List.getElem?_cons_succ, beq_self_eq_true, selV]
    refine join_of (fun s H2 => H2 = H' ∧ s = [[.bool false]]) (fun K2 hK2 => ?_) ?_
    · try simp only [sv_cons, sv_cons1, sc_cons, sc_cons1, asB_bool, ifB_true, ifB_false, un_not, bin_lss, bin_leq, bin_gtr, bin_geq, bin_eql, bin_neq, bin_add, bin_sub, bin_mul, ok_int, ok_bool, ok_slice, ok_str, ok_ptr, ok_map, ok_func, ok_iface, ok_nil, List.all_cons, List.all_nil, Bool.and_true, Bool.true_and, seg, setSeg, List.drop_succ_cons, List.drop_zero, List.take_succ_cons, List.take_zero, List.cons_append, List.nil_append, List.append_nil, List.length_cons, List.length_nil, List.drop_nil, List.size_toArray, Nat.reduceAdd, Nat.reduceLeDiff, Nat.reduceBEq, Nat.zero_add, Nat.le_refl, decide_true, mkV, List.headD_cons, cellsV, w_fldV, w_ext, w_fldP, List.getElem?_toArray, List.getElem?_cons_zero, List.getElem?_cons_succ, beq_self_eq_true, selV]
      exact hK2 _ _ ⟨rfl, rfl⟩
    rintro s H2 ⟨rfl, rfl⟩
    try simp only [sv_cons, sv_cons1, sc_cons, sc_cons1, asB_bool, ifB_true, ifB_false, un_not, bin_lss, bin_leq, bin_gtr, bin_geq, bin_eql, bin_neq, bin_add, bin_sub, bin_mul, ok_int, ok_bool, ok_slice, ok_str, ok_ptr, ok_map, ok_func, ok_iface, ok_nil, List.all_cons, List.all_nil, Bool.and_true, Bool.true_and, seg, setSeg, List.drop_succ_cons, List.drop_zero, List.take_succ_cons, List.take_zero, List.cons_append, List.nil_append, List.append_nil, List.length_cons, List.length_nil, List.drop_nil, List.size_toArray, Nat.reduceAdd, Nat.reduceLeDiff, Nat.reduceBEq, Nat.zero_add, Nat.le_refl, decide_true, mkV, List.headD_cons, cellsV, w_fldV, w_ext, w_fldP, List.getElem?_toArray, List.getElem?_cons_zero, List.getElem?_cons_succ, beq_self_eq_true, selV]
    refine ta89_74 _ _ ?_
    try simp only [sv_cons, sv_cons1, sc_cons, sc_cons1, asB_bool, ifB_true, ifB_false, un_not, bin_lss, bin_leq, bin_gtr, bin_geq, bin_eql, bin_neq, bin_add, bin_sub, bin_mul, ok_int, ok_bool, ok_slice, ok_str, ok_ptr, ok_map, ok_func, ok_iface, ok_nil, List.all_cons, List.all_nil, Bool.and_true, Bool.true_and, seg, setSeg, List.drop_succ_cons, List.drop_zero, List.take_succ_cons, List.take_zero, List.cons_append, List.nil_append, List.append_nil, List.length_cons, List.length_nil, List.drop_nil, List.size_toArray, Nat.reduceAdd, Nat.reduceLeDiff, Nat.reduceBEq, Nat.zero_add, Nat.le_refl, decide_true, mkV, List.headD_cons, cellsV, w_fldV, w_ext, w_fldP, List.getElem?_toArray, List.getElem?_cons_zero, List.getElem?_cons_succ, beq_self_eq_true, selV]
    refine ⟨62, .agg #[code], fun w _ => methodUnwrap _ w, .inl ⟨by kernel_rfl, ?_⟩⟩
    refine S_fault_bare_Unwrap_of ?_
    unfold S_fault_bare_Unwrap
    refine newT_of fun H3 g3 s3 => ?_
    unfold nilEq
    try simp only [sv_cons, sv_cons1, sc_cons, sc_cons1, asB_bool, ifB_true, ifB_false, un_not, bin_lss, bin_leq, bin_gtr, bin_geq, bin_eql, bin_neq, bin_add, bin_sub, bin_mul, ok_int, ok_bool, ok_slice, ok_str, ok_ptr, ok_map, ok_func, ok_iface, ok_nil, List.all_cons, List.all_nil, Bool.and_true, Bool.true_and, seg, setSeg, List.drop_succ_cons, List.drop_zero, List.take_succ_cons, List.take_zero, List.cons_append, List.nil_append, List.append_nil, List.length_cons, List.length_nil, List.drop_nil, List.size_toArray, Nat.reduceAdd, Nat.reduceLeDiff, Nat.reduceBEq, Nat.zero_add, Nat.le_refl, decide_true, mkV, List.headD_cons, cellsV, w_fldV, w_ext, w_fldP, List.getElem?_toArray, List.getElem?_cons_zero, List.getElem?_cons_succ, beq_self_eq_true, selV]
    exact hK _ _ (by omega) ⟨g.trans g3, .inr ⟨rfl, rfl⟩⟩
  · refine xc_pure (typeOf22 _) ?_
    refine ⟨64, .agg #[hdl 22], fun w _ => methodAssignable _ w, .inr ⟨by kernel_rfl, ?_⟩⟩
    refine xc_pure assign22 ?_
    try simp only [sv_cons, sv_cons1, sc_cons, sc_cons1, asB_bool, ifB_true, ifB_false, un_not, bin_lss, bin_leq, bin_gtr, bin_geq, bin_eql, bin_neq, bin_add, bin_sub, bin_mul, ok_int, ok_bool, ok_slice, ok_str, ok_ptr, ok_map, ok_func, ok_iface, ok_nil, List.all_cons, List.all_nil, Bool.and_true, Bool.true_and, seg, setSeg, List.drop_succ_cons, List.drop_zero, List.take_succ_cons, List.take_zero, List.cons_append, List.nil_append, List.append_nil, List.length_cons, List.length_nil, List.drop_nil, List.size_toArray, Nat.reduceAdd, Nat.reduceLeDiff, Nat.reduceBEq, Nat.zero_add, Nat.le_refl, decide_true, mkV, List.headD_cons, cellsV, w_fldV, w_ext, w_fldP, List.getElem?_toArray, List.getElem?_cons_zero, List.getElem?_cons_succ, beq_self_eq_true, selV]
    refine ta86_22 _ _ ?_
    try simp only [sv_cons, sv_cons1, sc_cons, sc_cons1, asB_bool, ifB_true, ifB_false, un_not, bin_lss, bin_leq, bin_gtr, bin_geq, bin_eql, bin_neq, bin_add, bin_sub, bin_mul, ok_int, ok_bool, ok_slice, ok_str, ok_ptr, ok_map, ok_func, ok_iface, ok_nil, List.all_cons, List.all_nil, Bool.and_true, Bool.true_and, seg, setSeg, List.drop_succ_cons, List.drop_zero, List.take_succ_cons, List.take_zero, List.cons_append, List.nil_append, List.append_nil, List.length_cons, List.length_nil, List.drop_nil, List.size_toArray, Nat.reduceAdd, Nat.reduceLeDiff, Nat.reduceBEq, Nat.zero_add, Nat.le_refl, decide_true, mkV, List.headD_cons, cellsV, w_fldV, w_ext, w_fldP, List.getElem?_toArray, List.getElem?_cons_zero, List.getElem?_cons_succ, beq_self_eq_true, selV]
    refine join_of (fun s H2 => H2 = H' ∧ s = [[.bool false]]) (fun K2 hK2 => ?_) ?_
    · try simp only [sv_cons, sv_cons1, sc_cons, sc_cons1, asB_bool, ifB_true, ifB_false, un_not, bin_lss, bin_leq, bin_gtr, bin_geq, bin_eql, bin_neq, bin_add, bin_sub, bin_mul, ok_int, ok_bool, ok_slice, ok_str, ok_ptr, ok_map, ok_func, ok_iface, ok_nil, List.all_cons, List.all_nil, Bool.and_true, Bool.true_and, seg, setSeg, List.drop_succ_cons, List.drop_zero, List.take_succ_cons, List.take_zero, List.cons_append, List.nil_append, List.append_nil, List.length_cons, List.length_nil, List.drop_nil, List.size_toArray, Nat.reduceAdd, Nat.reduceLeDiff, Nat.reduceBEq, Nat.zero_add, Nat.le_refl, decide_true, mkV, List.headD_cons, cellsV, w_fldV, w_ext, w_fldP, List.getElem?_toArray, List.getElem?_cons_zero, List.getElem?_cons_succ, beq_self_eq_true, selV]
      exact hK2 _ _ ⟨rfl, rfl⟩
    rintro s H2 ⟨rfl, rfl⟩
    try simp only [sv_cons, sv_cons1, sc_cons, sc_cons1, asB_bool, ifB_true, ifB_false, un_not, bin_lss, bin_leq, bin_gtr, bin_geq, bin_eql, bin_neq, bin_add, bin_sub, bin_mul, ok_int, ok_bool, ok_slice, ok_str, ok_ptr, ok_map, ok_func, ok_iface, ok_nil, List.all_cons, List.all_nil, Bool.and_true, Bool.true_and, seg, setSeg, List.drop_succ_cons, List.drop_zero, List.take_succ_cons, List.take_zero, List.cons_append, List.nil_append, List.append_nil, List.length_cons, List.length_nil, List.drop_nil, List.size_toArray, Nat.reduceAdd, Nat.reduceLeDiff, Nat.reduceBEq, Nat.zero_add, Nat.le_refl, decide_true, mkV, List.headD_cons, cellsV, w_fldV, w_ext, w_fldP, List.getElem?_toArray, List.getElem?_cons_zero, List.getElem?_cons_succ, beq_self_eq_true, selV]
    refine ta89_22 _ _ ?_
    try simp only [sv_cons, sv_cons1, sc_cons, sc_cons1, asB_bool, ifB_true, ifB_false, un_not, bin_lss, bin_leq, bin_gtr, bin_geq, bin_eql, bin_neq, bin_add, bin_sub, bin_mul, ok_int, ok_bool, ok_slice, ok_str, ok_ptr, ok_map, ok_func, ok_iface, ok_nil, List.all_cons, List.all_nil, Bool.and_true, Bool.true_and, seg, setSeg, List.drop_succ_cons, List.drop_zero, List.take_succ_cons, List.take_zero, List.cons_append, List.nil_append, List.append_nil, List.length_cons, List.length_nil, List.drop_nil, List.size_toArray, Nat.reduceAdd, Nat.reduceLeDiff, Nat.reduceBEq, Nat.zero_add, Nat.le_refl, decide_true, mkV, List.headD_cons, cellsV, w_fldV, w_ext, w_fldP, List.getElem?_toArray, List.getElem?_cons_zero, List.getElem?_cons_succ, beq_self_eq_true, selV]
    refine ta91_22 _ _ ?_
    try simp only [sv_cons, sv_cons1, sc_cons, sc_cons1, asB_bool, ifB_true, ifB_false, un_not, bin_lss, bin_leq, bin_gtr, bin_geq, bin_eql, bin_neq, bin_add, bin_sub, bin_mul, ok_int, ok_bool, ok_slice, ok_str, ok_ptr, ok_map, ok_func, ok_iface, ok_nil, List.all_cons, List.all_nil, Bool.and_true, Bool.true_and, seg, setSeg, List.drop_succ_cons, List.drop_zero, List.take_succ_cons, List.take_zero, List.cons_append, List.nil_append, List.append_nil, List.length_cons, List.length_nil, List.drop_nil, List.size_toArray, Nat.reduceAdd, Nat.reduceLeDiff, Nat.reduceBEq, Nat.zero_add, Nat.le_refl, decide_true, mkV, List.headD_cons, cellsV, w_fldV, w_ext, w_fldP, List.getElem?_toArray, List.getElem?_cons_zero, List.getElem?_cons_succ, beq_self_eq_true, selV]
    exact hQ _ g

/-- errors.As, up to errors.as. -/
theorem c_errors_As {er : Value} {t : Nat} (he : ∃ ty v, er = .iface ty v) (h0 : AtC H (fun _ => True) (.pointer (some ⟨0, 0, none⟩)) [rtV 48]) (ht : Bx H t [.pointer none])
    (hQ : ∀ H' a, Bx H' a [.pointer (some ⟨t, 0, none⟩)] → Bx H' t [.pointer none] → a ≠ t → G H H' → callV Tryd.prog (fnV fn_errors_as) [er, .iface 50 (.pointer (some ⟨t, 0, none⟩)), .agg #[hdl 50, .pointer (some ⟨a, 0, none⟩), .int .u64 150], rtV 45] H' Q) :
    callV Tryd.prog (fnV fn_errors_As) [er, .iface 50 (.pointer (some ⟨t, 0, none⟩))] H Q := by
  apply S_errors_As_of
  unfold S_errors_As
  obtain ⟨ty, v, rfl⟩ := he
  have htl := ht.lt
  unfold nilEq
  try simp only [sv_cons, sv_cons1, sc_cons, sc_cons1, asB_bool, ifB_true, ifB_false, un_not, bin_lss, bin_leq, bin_gtr, bin_geq, bin_eql, bin_neq, bin_add, bin_sub, bin_mul, ok_int, ok_bool, ok_slice, ok_str, ok_ptr, ok_map, ok_func, ok_iface, ok_nil, List.all_cons, List.all_nil, Bool.and_true, Bool.true_and, seg, setSeg, List.drop_succ_cons, List.drop_zero, List.take_succ_cons, List.take_zero, List.cons_append, List.nil_append, List.append_nil, List.length_cons, List.length_nil, List.drop_nil, List.size_toArray, Nat.reduceAdd, Nat.reduceLeDiff, Nat.reduceBEq, Nat.zero_add, Nat.le_refl, decide_true, mkV, List.headD_cons, cellsV, w_fldV, w_ext, w_fldP, List.getElem?_toArray, List.getElem?_cons_zero, List.getElem?_cons_succ, beq_self_eq_true, selV]
  refine join_of (fun s H2 => H2 = H ∧ s = []) (fun K2 hK2 => by exact hK2 _ _ ⟨rfl, rfl⟩) ?_
  rintro s H2 ⟨rfl, rfl⟩
  refine fun w hw => ⟨_, _, _, valueOf50 ⟨t, 0, none⟩ w, Turns.push hw _, ?_⟩
  rw [hw.size]
  have gp : G H2 (H2.push (.cells #[.pointer (some ⟨t, 0, none⟩)] 50)) := G.push _ _
  have ba : Bx (H2.push (.cells #[.pointer (some ⟨t, 0, none⟩)] 50)) H2.size [.pointer (some ⟨t, 0, none⟩)] := ⟨50, by simp⟩
  generalize H2.push (.cells #[.pointer (some ⟨t, 0, none⟩)] 50) = H3 at *
  refine newT_of fun H4 g4 s4 => ?_
  have g := gp.trans g4
  have ba := ba.g g4
  try simp only [sv_cons, sv_cons1, sc_cons, sc_cons1, asB_bool, ifB_true, ifB_false, un_not, bin_lss, bin_leq, bin_gtr, bin_geq, bin_eql, bin_neq, bin_add, bin_sub, bin_mul, ok_int, ok_bool, ok_slice, ok_str, ok_ptr, ok_map, ok_func, ok_iface, ok_nil, List.all_cons, List.all_nil, Bool.and_true, Bool.true_and, seg, setSeg, List.drop_succ_cons, List.drop_zero, List.take_succ_cons, List.take_zero, List.cons_append, List.nil_append, List.append_nil, List.length_cons, List.length_nil, List.drop_nil, List.size_toArray, Nat.reduceAdd, Nat.reduceLeDiff, Nat.reduceBEq, Nat.zero_add, Nat.le_refl, decide_true, mkV, List.headD_cons, cellsV, w_fldV, w_ext, w_fldP, List.getElem?_toArray, List.getElem?_cons_zero, List.getElem?_cons_succ, beq_self_eq_true, selV]
  refine xc_pure (type50 _) ?_
  have isn : ∀ (K : Value → Heap → Prop), K (.bool false) H4 → xcV Tryd.prog fn_internal_reflectlite_Value_IsNil [.agg #[hdl 50, .pointer (some ⟨H2.size, 0, none⟩), .int .u64 150]] H4 K := fun K hK w hw => by
    obtain ⟨e, h⟩ := ba
    exact ⟨_, H4, w, isNil50 ⟨H2.size, 0, none⟩ ⟨t, 0, none⟩ w (cell_of (hw.cells h)), .refl hw, hK⟩
  refine join_of (fun s H5 => H5 = H4 ∧ s = [[.bool false]]) (fun K2 hK2 => ?_) ?_
  · refine ⟨52, hdl 50, fun w _ => methodKind _ w, .inr ⟨by kernel_rfl, ?_⟩⟩
    refine xc_pure kind50 ?_
    try simp only [sv_cons, sv_cons1, sc_cons, sc_cons1, asB_bool, ifB_true, ifB_false, un_not, bin_lss, bin_leq, bin_gtr, bin_geq, bin_eql, bin_neq, bin_add, bin_sub, bin_mul, ok_int, ok_bool, ok_slice, ok_str, ok_ptr, ok_map, ok_func, ok_iface, ok_nil, List.all_cons, List.all_nil, Bool.and_true, Bool.true_and, seg, setSeg, List.drop_succ_cons, List.drop_zero, List.take_succ_cons, List.take_zero, List.cons_append, List.nil_append, List.append_nil, List.length_cons, List.length_nil, List.drop_nil, List.size_toArray, Nat.reduceAdd, Nat.reduceLeDiff, Nat.reduceBEq, Nat.zero_add, Nat.le_refl, decide_true, mkV, List.headD_cons, cellsV, w_fldV, w_ext, w_fldP, List.getElem?_toArray, List.getElem?_cons_zero, List.getElem?_cons_succ, beq_self_eq_true, selV]
    refine isn _ ?_
    exact hK2 _ _ ⟨rfl, rfl⟩
  rintro s H5 ⟨rfl, rfl⟩
  try simp only [sv_cons, sv_cons1, sc_cons, sc_cons1, asB_bool, ifB_true, ifB_false, un_not, bin_lss, bin_leq, bin_gtr, bin_geq, bin_eql, bin_neq, bin_add, bin_sub, bin_mul, ok_int, ok_bool, ok_slice, ok_str, ok_ptr, ok_map, ok_func, ok_iface, ok_nil, List.all_cons, List.all_nil, Bool.and_true, Bool.true_and, seg, setSeg, List.drop_succ_cons, List.drop_zero, List.take_succ_cons, List.take_zero, List.cons_append, List.nil_append, List.append_nil, List.length_cons, List.length_nil, List.drop_nil, List.size_toArray, Nat.reduceAdd, Nat.reduceLeDiff, Nat.reduceBEq, Nat.zero_add, Nat.le_refl, decide_true, mkV, List.headD_cons, cellsV, w_fldV, w_ext, w_fldP, List.getElem?_toArray, List.getElem?_cons_zero, List.getElem?_cons_succ, beq_self_eq_true, selV]
  refine join_of (fun s H6 => H6 = H5 ∧ s = []) (fun K2 hK2 => by exact hK2 _ _ ⟨rfl, rfl⟩) ?_
  rintro s H6 ⟨rfl, rfl⟩
  refine ⟨66, .agg #[hdl 50], fun w _ => methodElem _ w, .inr ⟨by kernel_rfl, ?_⟩⟩
  refine xc_pure elem50 ?_
  refine join_of (fun s H7 => H7 = H6 ∧ s = [[.bool false]]) (fun K2 hK2 => ?_) ?_
  · refine ⟨52, hdl 45, fun w _ => methodKind _ w, .inr ⟨by kernel_rfl, ?_⟩⟩
    refine xc_pure kind45 ?_
    try simp only [sv_cons, sv_cons1, sc_cons, sc_cons1, asB_bool, ifB_true, ifB_false, un_not, bin_lss, bin_leq, bin_gtr, bin_geq, bin_eql, bin_neq, bin_add, bin_sub, bin_mul, ok_int, ok_bool, ok_slice, ok_str, ok_ptr, ok_map, ok_func, ok_iface, ok_nil, List.all_cons, List.all_nil, Bool.and_true, Bool.true_and, seg, setSeg, List.drop_succ_cons, List.drop_zero, List.take_succ_cons, List.take_zero, List.cons_append, List.nil_append, List.append_nil, List.length_cons, List.length_nil, List.drop_nil, List.size_toArray, Nat.reduceAdd, Nat.reduceLeDiff, Nat.reduceBEq, Nat.zero_add, Nat.le_refl, decide_true, mkV, List.headD_cons, cellsV, w_fldV, w_ext, w_fldP, List.getElem?_toArray, List.getElem?_cons_zero, List.getElem?_cons_succ, beq_self_eq_true, selV]
    refine (h0.g g).load rfl ?_
    refine ⟨67, .agg #[hdl 45], fun w _ => methodImplements _ w, .inr ⟨by kernel_rfl, ?_⟩⟩
    refine xc_pure implements45 ?_
    try simp only [sv_cons, sv_cons1, sc_cons, sc_cons1, asB_bool, ifB_true, ifB_false, un_not, bin_lss, bin_leq, bin_gtr, bin_geq, bin_eql, bin_neq, bin_add, bin_sub, bin_mul, ok_int, ok_bool, ok_slice, ok_str, ok_ptr, ok_map, ok_func, ok_iface, ok_nil, List.all_cons, List.all_nil, Bool.and_true, Bool.true_and, seg, setSeg, List.drop_succ_cons, List.drop_zero, List.take_succ_cons, List.take_zero, List.cons_append, List.nil_append, List.append_nil, List.length_cons, List.length_nil, List.drop_nil, List.size_toArray, Nat.reduceAdd, Nat.reduceLeDiff, Nat.reduceBEq, Nat.zero_add, Nat.le_refl, decide_true, mkV, List.headD_cons, cellsV, w_fldV, w_ext, w_fldP, List.getElem?_toArray, List.getElem?_cons_zero, List.getElem?_cons_succ, beq_self_eq_true, selV]
    exact hK2 _ _ ⟨rfl, rfl⟩
  rintro s H7 ⟨rfl, rfl⟩
  try simp only [sv_cons, sv_cons1, sc_cons, sc_cons1, asB_bool, ifB_true, ifB_false, un_not, bin_lss, bin_leq, bin_gtr, bin_geq, bin_eql, bin_neq, bin_add, bin_sub, bin_mul, ok_int, ok_bool, ok_slice, ok_str, ok_ptr, ok_map, ok_func, ok_iface, ok_nil, List.all_cons, List.all_nil, Bool.and_true, Bool.true_and, seg, setSeg, List.drop_succ_cons, List.drop_zero, List.take_succ_cons, List.take_zero, List.cons_append, List.nil_append, List.append_nil, List.length_cons, List.length_nil, List.drop_nil, List.size_toArray, Nat.reduceAdd, Nat.reduceLeDiff, Nat.reduceBEq, Nat.zero_add, Nat.le_refl, decide_true, mkV, List.headD_cons, cellsV, w_fldV, w_ext, w_fldP, List.getElem?_toArray, List.getElem?_cons_zero, List.getElem?_cons_succ, beq_self_eq_true, selV]
  refine join_of (fun s H8 => H8 = H7 ∧ s = []) (fun K2 hK2 => by exact hK2 _ _ ⟨rfl, rfl⟩) ?_
  rintro s H8 ⟨rfl, rfl⟩
  exact hQ H8 H2.size ba (ht.g g) (by omega) g

end Go.Proofs.YtioaanmeooonfaaDoor
