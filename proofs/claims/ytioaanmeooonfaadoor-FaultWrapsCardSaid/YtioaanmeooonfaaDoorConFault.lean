/- Contracts: faults: which may be; chains of marks. -/
import Derived.Test.YtioaanmeooonfaaDoorShFault
import Derived.Test.YtioaanmeooonfaaDoorShSl06
import Derived.Test.YtioaanmeooonfaaDoorMdFault
import Derived.Test.YtioaanmeooonfaaDoorAbSeg
import Derived.Test.YtioaanmeooonfaaDoorAbIter
import Derived.Test.YtioaanmeooonfaaDoorConErr2
namespace Go.Proofs.YtioaanmeooonfaaDoor
open Go.Ab Go.Md
set_option linter.unusedVariables false
set_option linter.unusedSimpArgs false
set_option maxRecDepth 20000

variable {H : Heap} {Q : Value → Heap → Prop} {A B C : Nat → Prop}

abbrev vMk (m : Mk) : Value := .agg #[.int .i64 m.level, .int .i64 m.place]
theorem vrep_mk {m : Mk} (h : i64 m.level ∧ i64 m.place) : VRep rMk H A true (vMk m) m := ⟨[.int .i64 m.level, .int .i64 m.place], rfl, rfl, h⟩
theorem ow_mk {b : Nat} {v : Value} {xs : List Mk} (h : Ow rMk H b A v xs) : Ow rMk H b B v xs := h
theorem mk_ok {v : Value} {l : List Mk} (h : Sl rMk H A v l) : ∀ x ∈ l, i64 x.level ∧ i64 x.place := by
  obtain ⟨_, _, css, _, k1, k2, _⟩ := h
  intro x hx
  obtain ⟨i, hi, rfl⟩ := List.mem_iff_getElem.1 hx
  exact (k2 i _ _ (List.getElem?_eq_getElem (by omega)) (List.getElem?_eq_getElem hi)).2

/-! ### May marks be? -/

theorem c_fault_mark {m : Mk} (hQ : ∀ H', G H H' → Q (.bool (decide (mkOk m))) H') : callV Tryd.prog (fnV fn_fault_mark) [vMk m] H Q := by
  apply S_fault_mark_of
  unfold S_fault_mark
  refine newT_of fun H1 g1 s1 => ?_
  refine join_of (fun s H' => H' = H1 ∧ s = [[.bool (decide (mkOk m))]]) (fun K hK => ?_) (fun s H' h => by obtain ⟨rfl, rfl⟩ := h; try simp only [sv_cons, sv_cons1, sc_cons, sc_cons1, asB_bool, ifB_true, ifB_false, un_not, bin_lss, bin_leq, bin_gtr, bin_geq, bin_eql, bin_neq, bin_add, bin_sub, bin_mul, ok_int, ok_bool, ok_slice, ok_str, ok_ptr, ok_map, ok_func, ok_iface, ok_nil, List.all_cons, List.all_nil, Bool.and_true, Bool.true_and, seg, setSeg, List.drop_succ_cons, List.drop_zero, List.take_succ_cons, List.take_zero, List.cons_append, List.nil_append, List.append_nil, List.length_cons, List.length_nil, List.drop_nil, List.size_toArray, Nat.reduceAdd, Nat.reduceLeDiff, Nat.reduceBEq, Nat.zero_add, Nat.le_refl, decide_true, mkV, List.headD_cons, cellsV, w_fldV, w_ext, w_fldP, List.getElem?_toArray, List.getElem?_cons_zero, List.getElem?_cons_succ, beq_self_eq_true, selV]; exact hQ _ g1)
  unfold minV maxV
  try simp only [sv_cons, sv_cons1, sc_cons, sc_cons1, asB_bool, ifB_true, ifB_false, un_not, bin_lss, bin_leq, bin_gtr, bin_geq, bin_eql, bin_neq, bin_add, bin_sub, bin_mul, ok_int, ok_bool, ok_slice, ok_str, ok_ptr, ok_map, ok_func, ok_iface, ok_nil, List.all_cons, List.all_nil, Bool.and_true, Bool.true_and, seg, setSeg, List.drop_succ_cons, List.drop_zero, List.take_succ_cons, List.take_zero, List.cons_append, List.nil_append, List.append_nil, List.length_cons, List.length_nil, List.drop_nil, List.size_toArray, Nat.reduceAdd, Nat.reduceLeDiff, Nat.reduceBEq, Nat.zero_add, Nat.le_refl, decide_true, mkV, List.headD_cons, cellsV, w_fldV, w_ext, w_fldP, List.getElem?_toArray, List.getElem?_cons_zero, List.getElem?_cons_succ, beq_self_eq_true, selV]
  refine ifD_of (fun c1 => hK _ _ ⟨rfl, jb_d ?_⟩) (fun c1 => hK _ _ ⟨rfl, jb_f ?_⟩)
  · unfold mkOk
    split at c1 <;> split <;> omega
  · unfold mkOk
    split at c1 <;> omega

theorem c_ref06_mark {m : Mk} (hQ : ∀ H', G H H' → Q (.bool (decide (mkOk m))) H') : callV Tryd.prog (fnV fn_ref06_mark) [vMk m] H Q := by
  apply S_ref06_mark_of
  unfold S_ref06_mark
  refine newT_of fun H1 g1 s1 => ?_
  refine join_of (fun s H' => H' = H1 ∧ s = [[.bool (decide (mkOk m))]]) (fun K hK => ?_) (fun s H' h => by obtain ⟨rfl, rfl⟩ := h; try simp only [sv_cons, sv_cons1, sc_cons, sc_cons1, asB_bool, ifB_true, ifB_false, un_not, bin_lss, bin_leq, bin_gtr, bin_geq, bin_eql, bin_neq, bin_add, bin_sub, bin_mul, ok_int, ok_bool, ok_slice, ok_str, ok_ptr, ok_map, ok_func, ok_iface, ok_nil, List.all_cons, List.all_nil, Bool.and_true, Bool.true_and, seg, setSeg, List.drop_succ_cons, List.drop_zero, List.take_succ_cons, List.take_zero, List.cons_append, List.nil_append, List.append_nil, List.length_cons, List.length_nil, List.drop_nil, List.size_toArray, Nat.reduceAdd, Nat.reduceLeDiff, Nat.reduceBEq, Nat.zero_add, Nat.le_refl, decide_true, mkV, List.headD_cons, cellsV, w_fldV, w_ext, w_fldP, List.getElem?_toArray, List.getElem?_cons_zero, List.getElem?_cons_succ, beq_self_eq_true, selV]; exact hQ _ g1)
  try simp only [sv_cons, sv_cons1, sc_cons, sc_cons1, asB_bool, ifB_true, ifB_false, un_not, bin_lss, bin_leq, bin_gtr, bin_geq, bin_eql, bin_neq, bin_add, bin_sub, bin_mul, ok_int, ok_bool, ok_slice, ok_str, ok_ptr, ok_map, ok_func, ok_iface, ok_nil, List.all_cons, List.all_nil, Bool.and_true, Bool.true_and, seg, setSeg, List.drop_succ_cons, List.drop_zero, List.take_succ_cons, List.take_zero, List.cons_append, List.nil_append, List.append_nil, List.length_cons, List.length_nil, List.drop_nil, List.size_toArray, Nat.reduceAdd, Nat.reduceLeDiff, Nat.reduceBEq, Nat.zero_add, Nat.le_refl, decide_true, mkV, List.headD_cons, cellsV, w_fldV, w_ext, w_fldP, List.getElem?_toArray, List.getElem?_cons_zero, List.getElem?_cons_succ, beq_self_eq_true, selV]
  refine ifD_of (fun c1 => ?_) (fun c1 => hK _ _ ⟨rfl, jb_f (by unfold mkOk; omega)⟩)
  refine ifD_of (fun c2 => ?_) (fun c2 => hK _ _ ⟨rfl, jb_f (by unfold mkOk; omega)⟩)
  refine ifD_of (fun c3 => ?_) (fun c3 => hK _ _ ⟨rfl, jb_f (by unfold mkOk; omega)⟩)
  exact hK _ _ ⟨rfl, jb_d (by unfold mkOk; omega)⟩

theorem c_fault_Check_1 {m : Mk} (hQ : ∀ H', G H H' → Q (.bool (decide (¬ mkOk m))) H') : callV Tryd.prog (fnV fn_fault_Check_1) [vMk m] H Q := by
  apply S_fault_Check_1_of
  unfold S_fault_Check_1
  refine newT_of fun H1 g1 s1 => c_fault_mark fun H2 g2 => ?_
  try simp only [sv_cons, sv_cons1, sc_cons, sc_cons1, asB_bool, ifB_true, ifB_false, un_not, bin_lss, bin_leq, bin_gtr, bin_geq, bin_eql, bin_neq, bin_add, bin_sub, bin_mul, ok_int, ok_bool, ok_slice, ok_str, ok_ptr, ok_map, ok_func, ok_iface, ok_nil, List.all_cons, List.all_nil, Bool.and_true, Bool.true_and, seg, setSeg, List.drop_succ_cons, List.drop_zero, List.take_succ_cons, List.take_zero, List.cons_append, List.nil_append, List.append_nil, List.length_cons, List.length_nil, List.drop_nil, List.size_toArray, Nat.reduceAdd, Nat.reduceLeDiff, Nat.reduceBEq, Nat.zero_add, Nat.le_refl, decide_true, mkV, List.headD_cons, cellsV, w_fldV, w_ext, w_fldP, List.getElem?_toArray, List.getElem?_cons_zero, List.getElem?_cons_succ, beq_self_eq_true, selV]
  rw [← decide_not]
  exact hQ _ (g1.trans g2)

theorem c_Contains_mk {a : Value} {xs : List Mk} (ha : Sl rMk H A a xs) (hl : xs.length ≤ 1000000) (hQ : ∀ H', G H H' → Q (.bool (decide (¬ ∀ m ∈ xs, mkOk m))) H') :
    callV Tryd.prog (fnV fn_slices_ContainsFunc_api_Mark_api_Mark) [a, fnV fn_fault_Check_1] H Q := by
  apply S_slices_ContainsFunc_api_Mark_api_Mark_of
  unfold S_slices_ContainsFunc_api_Mark_api_Mark
  apply S_slices_IndexFunc_api_Mark_api_Mark_of
  unfold S_slices_IndexFunc_api_Mark_api_Mark
  refine ha.len ?_
  refine loop_up xs.length (fun i s H' => s = [[.int .i64 (i : Int)]] ∧ G H H' ∧ ∀ x ∈ xs.take i, mkOk x) ⟨rfl, G.fr (Fr.refl _ _), by simp⟩ ?_
  rintro i s H' K hi ⟨rfl, g, ht⟩ hK
  try simp only [sv_cons, sv_cons1, sc_cons, sc_cons1, asB_bool, ifB_true, ifB_false, un_not, bin_lss, bin_leq, bin_gtr, bin_geq, bin_eql, bin_neq, bin_add, bin_sub, bin_mul, ok_int, ok_bool, ok_slice, ok_str, ok_ptr, ok_map, ok_func, ok_iface, ok_nil, List.all_cons, List.all_nil, Bool.and_true, Bool.true_and, seg, setSeg, List.drop_succ_cons, List.drop_zero, List.take_succ_cons, List.take_zero, List.cons_append, List.nil_append, List.append_nil, List.length_cons, List.length_nil, List.drop_nil, List.size_toArray, Nat.reduceAdd, Nat.reduceLeDiff, Nat.reduceBEq, Nat.zero_add, Nat.le_refl, decide_true, mkV, List.headD_cons, cellsV, w_fldV, w_ext, w_fldP, List.getElem?_toArray, List.getElem?_cons_zero, List.getElem?_cons_succ, beq_self_eq_true, selV]
  refine ifD_of (fun hlt => ?_) (fun hge => ?_)
  · have hlt : i < xs.length := by omega
    refine (ha.g g).get rfl (List.getElem?_eq_getElem hlt) fun cs hr => ?_
    obtain ⟨rfl, _⟩ := hr
    refine c_fault_Check_1 fun H2 g2 => ?_
    have g := g.trans g2
    try simp only [sv_cons, sv_cons1, sc_cons, sc_cons1, asB_bool, ifB_true, ifB_false, un_not, bin_lss, bin_leq, bin_gtr, bin_geq, bin_eql, bin_neq, bin_add, bin_sub, bin_mul, ok_int, ok_bool, ok_slice, ok_str, ok_ptr, ok_map, ok_func, ok_iface, ok_nil, List.all_cons, List.all_nil, Bool.and_true, Bool.true_and, seg, setSeg, List.drop_succ_cons, List.drop_zero, List.take_succ_cons, List.take_zero, List.cons_append, List.nil_append, List.append_nil, List.length_cons, List.length_nil, List.drop_nil, List.size_toArray, Nat.reduceAdd, Nat.reduceLeDiff, Nat.reduceBEq, Nat.zero_add, Nat.le_refl, decide_true, mkV, List.headD_cons, cellsV, w_fldV, w_ext, w_fldP, List.getElem?_toArray, List.getElem?_cons_zero, List.getElem?_cons_succ, beq_self_eq_true, selV]
    refine ifD_of (fun c1 => ?_) (fun c1 => ?_)
    · try simp only [sv_cons, sv_cons1, sc_cons, sc_cons1, asB_bool, ifB_true, ifB_false, un_not, bin_lss, bin_leq, bin_gtr, bin_geq, bin_eql, bin_neq, bin_add, bin_sub, bin_mul, ok_int, ok_bool, ok_slice, ok_str, ok_ptr, ok_map, ok_func, ok_iface, ok_nil, List.all_cons, List.all_nil, Bool.and_true, Bool.true_and, seg, setSeg, List.drop_succ_cons, List.drop_zero, List.take_succ_cons, List.take_zero, List.cons_append, List.nil_append, List.append_nil, List.length_cons, List.length_nil, List.drop_nil, List.size_toArray, Nat.reduceAdd, Nat.reduceLeDiff, Nat.reduceBEq, Nat.zero_add, Nat.le_refl, decide_true, mkV, List.headD_cons, cellsV, w_fldV, w_ext, w_fldP, List.getElem?_toArray, List.getElem?_cons_zero, List.getElem?_cons_succ, beq_self_eq_true, selV]
      have := hQ H2 g
      rw [decide_eq_true (show ¬ ∀ m ∈ xs, mkOk m from fun h => c1 (h _ (List.getElem_mem hlt)))] at this
      rw [decide_eq_true (by omega)]
      exact this
    · rw [wrap_succ (by omega)]
      refine hK _ _ hlt ⟨rfl, g, fun x hx => ?_⟩
      rw [List.take_succ_eq_append_getElem hlt, List.mem_append, List.mem_singleton] at hx
      rcases hx with h | rfl
      · exact ht x h
      · exact Decidable.not_not.1 c1
  · rw [List.take_of_length_le (by omega)] at ht
    try simp only [sv_cons, sv_cons1, sc_cons, sc_cons1, asB_bool, ifB_true, ifB_false, un_not, bin_lss, bin_leq, bin_gtr, bin_geq, bin_eql, bin_neq, bin_add, bin_sub, bin_mul, ok_int, ok_bool, ok_slice, ok_str, ok_ptr, ok_map, ok_func, ok_iface, ok_nil, List.all_cons, List.all_nil, Bool.and_true, Bool.true_and, seg, setSeg, List.drop_succ_cons, List.drop_zero, List.take_succ_cons, List.take_zero, List.cons_append, List.nil_append, List.append_nil, List.length_cons, List.length_nil, List.drop_nil, List.size_toArray, Nat.reduceAdd, Nat.reduceLeDiff, Nat.reduceBEq, Nat.zero_add, Nat.le_refl, decide_true, mkV, List.headD_cons, cellsV, w_fldV, w_ext, w_fldP, List.getElem?_toArray, List.getElem?_cons_zero, List.getElem?_cons_succ, beq_self_eq_true, selV]
    have := hQ H' g
    rw [decide_eq_false (fun h => h ht)] at this
    exact this

theorem c_Contains_err {a : Value} {xs : List Int} {n : Int} (ha : Sl (rI .i64) H A a xs) (hl : xs.length ≤ 1000000) (hQ : Q (.bool (decide (n ∈ xs))) H) :
    callV Tryd.prog (fnV fn_slices_Contains_api_Errno_api_Errno) [a, .int .i64 n] H Q := by
  apply S_slices_Contains_api_Errno_api_Errno_of
  unfold S_slices_Contains_api_Errno_api_Errno
  apply S_slices_Index_api_Errno_api_Errno_of
  unfold S_slices_Index_api_Errno_api_Errno
  refine ha.len ?_
  refine loop_up xs.length (fun i s H' => s = [[.int .i64 (i : Int)]] ∧ H' = H ∧ n ∉ xs.take i) ⟨rfl, rfl, by simp⟩ ?_
  rintro i s H' K hi ⟨rfl, rfl, ht⟩ hK
  try simp only [sv_cons, sv_cons1, sc_cons, sc_cons1, asB_bool, ifB_true, ifB_false, un_not, bin_lss, bin_leq, bin_gtr, bin_geq, bin_eql, bin_neq, bin_add, bin_sub, bin_mul, ok_int, ok_bool, ok_slice, ok_str, ok_ptr, ok_map, ok_func, ok_iface, ok_nil, List.all_cons, List.all_nil, Bool.and_true, Bool.true_and, seg, setSeg, List.drop_succ_cons, List.drop_zero, List.take_succ_cons, List.take_zero, List.cons_append, List.nil_append, List.append_nil, List.length_cons, List.length_nil, List.drop_nil, List.size_toArray, Nat.reduceAdd, Nat.reduceLeDiff, Nat.reduceBEq, Nat.zero_add, Nat.le_refl, decide_true, mkV, List.headD_cons, cellsV, w_fldV, w_ext, w_fldP, List.getElem?_toArray, List.getElem?_cons_zero, List.getElem?_cons_succ, beq_self_eq_true, selV]
  refine ifD_of (fun hlt => ?_) (fun hge => ?_)
  · have hlt : i < xs.length := by omega
    refine ha.getI (List.getElem?_eq_getElem hlt) fun _ => ?_
    try simp only [sv_cons, sv_cons1, sc_cons, sc_cons1, asB_bool, ifB_true, ifB_false, un_not, bin_lss, bin_leq, bin_gtr, bin_geq, bin_eql, bin_neq, bin_add, bin_sub, bin_mul, ok_int, ok_bool, ok_slice, ok_str, ok_ptr, ok_map, ok_func, ok_iface, ok_nil, List.all_cons, List.all_nil, Bool.and_true, Bool.true_and, seg, setSeg, List.drop_succ_cons, List.drop_zero, List.take_succ_cons, List.take_zero, List.cons_append, List.nil_append, List.append_nil, List.length_cons, List.length_nil, List.drop_nil, List.size_toArray, Nat.reduceAdd, Nat.reduceLeDiff, Nat.reduceBEq, Nat.zero_add, Nat.le_refl, decide_true, mkV, List.headD_cons, cellsV, w_fldV, w_ext, w_fldP, List.getElem?_toArray, List.getElem?_cons_zero, List.getElem?_cons_succ, beq_self_eq_true, selV]
    refine ifD_of (fun c1 => ?_) (fun c1 => ?_)
    · try simp only [sv_cons, sv_cons1, sc_cons, sc_cons1, asB_bool, ifB_true, ifB_false, un_not, bin_lss, bin_leq, bin_gtr, bin_geq, bin_eql, bin_neq, bin_add, bin_sub, bin_mul, ok_int, ok_bool, ok_slice, ok_str, ok_ptr, ok_map, ok_func, ok_iface, ok_nil, List.all_cons, List.all_nil, Bool.and_true, Bool.true_and, seg, setSeg, List.drop_succ_cons, List.drop_zero, List.take_succ_cons, List.take_zero, List.cons_append, List.nil_append, List.append_nil, List.length_cons, List.length_nil, List.drop_nil, List.size_toArray, Nat.reduceAdd, Nat.reduceLeDiff, Nat.reduceBEq, Nat.zero_add, Nat.le_refl, decide_true, mkV, List.headD_cons, cellsV, w_fldV, w_ext, w_fldP, List.getElem?_toArray, List.getElem?_cons_zero, List.getElem?_cons_succ, beq_self_eq_true, selV]
      rw [decide_eq_true (c1 ▸ List.getElem_mem hlt)] at hQ
      rw [decide_eq_true (by omega)]
      exact hQ
    · rw [wrap_succ (by omega)]
      refine hK _ _ hlt ⟨rfl, rfl, fun h => ?_⟩
      rw [List.take_succ_eq_append_getElem hlt, List.mem_append, List.mem_singleton] at h
      exact h.elim ht c1
  · rw [List.take_of_length_le (by omega)] at ht
    try simp only [sv_cons, sv_cons1, sc_cons, sc_cons1, asB_bool, ifB_true, ifB_false, un_not, bin_lss, bin_leq, bin_gtr, bin_geq, bin_eql, bin_neq, bin_add, bin_sub, bin_mul, ok_int, ok_bool, ok_slice, ok_str, ok_ptr, ok_map, ok_func, ok_iface, ok_nil, List.all_cons, List.all_nil, Bool.and_true, Bool.true_and, seg, setSeg, List.drop_succ_cons, List.drop_zero, List.take_succ_cons, List.take_zero, List.cons_append, List.nil_append, List.append_nil, List.length_cons, List.length_nil, List.drop_nil, List.size_toArray, Nat.reduceAdd, Nat.reduceLeDiff, Nat.reduceBEq, Nat.zero_add, Nat.le_refl, decide_true, mkV, List.headD_cons, cellsV, w_fldV, w_ext, w_fldP, List.getElem?_toArray, List.getElem?_cons_zero, List.getElem?_cons_succ, beq_self_eq_true, selV]
    rw [decide_eq_false ht] at hQ
    exact hQ

theorem c_fault_Check {f : Flt} {v : Value} (hv : Sl rMk H A v f.marks) (hl : f.marks.length ≤ 1000000) (hQ : ∀ H', G H H' → Q (.int .i64 (chkE f)) H') : callV Tryd.prog (fnV fn_fault_Check) [.agg #[.int .i64 f.code, v]] H Q := by
  apply S_fault_Check_of
  unfold S_fault_Check
  refine newT_of fun H1 g1 s1 => ?_
  refine bld_I (q := .i64) codesL (by decide) rfl fun t H2 ht g2 s2 => ?_
  have g := g1.trans g2
  refine c_Contains_mk (hv.g g) hl fun H3 g3 => ?_
  have g := g.trans g3
  refine join_of (fun s H' => H' = H3 ∧ s = [[.bool (decide (¬ fMay f))]]) (fun K hK => ?_) ?_
  · refine c_Contains_err ((ht.g g3).slF (A' := fun _ => True) fun _ _ => trivial) (by decide) ?_
    try simp only [sv_cons, sv_cons1, sc_cons, sc_cons1, asB_bool, ifB_true, ifB_false, un_not, bin_lss, bin_leq, bin_gtr, bin_geq, bin_eql, bin_neq, bin_add, bin_sub, bin_mul, ok_int, ok_bool, ok_slice, ok_str, ok_ptr, ok_map, ok_func, ok_iface, ok_nil, List.all_cons, List.all_nil, Bool.and_true, Bool.true_and, seg, setSeg, List.drop_succ_cons, List.drop_zero, List.take_succ_cons, List.take_zero, List.cons_append, List.nil_append, List.append_nil, List.length_cons, List.length_nil, List.drop_nil, List.size_toArray, Nat.reduceAdd, Nat.reduceLeDiff, Nat.reduceBEq, Nat.zero_add, Nat.le_refl, decide_true, mkV, List.headD_cons, cellsV, w_fldV, w_ext, w_fldP, List.getElem?_toArray, List.getElem?_cons_zero, List.getElem?_cons_succ, beq_self_eq_true, selV]
    rw [← decide_not]
    refine ifD_of (fun c1 => hK _ _ ⟨rfl, jb_t fun h => c1 h.1.1⟩) (fun c1 => hv.len ?_)
    try simp only [sv_cons, sv_cons1, sc_cons, sc_cons1, asB_bool, ifB_true, ifB_false, un_not, bin_lss, bin_leq, bin_gtr, bin_geq, bin_eql, bin_neq, bin_add, bin_sub, bin_mul, ok_int, ok_bool, ok_slice, ok_str, ok_ptr, ok_map, ok_func, ok_iface, ok_nil, List.all_cons, List.all_nil, Bool.and_true, Bool.true_and, seg, setSeg, List.drop_succ_cons, List.drop_zero, List.take_succ_cons, List.take_zero, List.cons_append, List.nil_append, List.append_nil, List.length_cons, List.length_nil, List.drop_nil, List.size_toArray, Nat.reduceAdd, Nat.reduceLeDiff, Nat.reduceBEq, Nat.zero_add, Nat.le_refl, decide_true, mkV, List.headD_cons, cellsV, w_fldV, w_ext, w_fldP, List.getElem?_toArray, List.getElem?_cons_zero, List.getElem?_cons_succ, beq_self_eq_true, selV]
    refine ifD_of (fun c2 => hK _ _ ⟨rfl, jb_t fun h => by have := h.1.2; omega⟩) (fun c2 => ?_)
    exact hK _ _ ⟨rfl, jb_d ⟨fun h h2 => h h2.2, fun h h2 => h ⟨⟨Decidable.not_not.1 c1, by omega⟩, h2⟩⟩⟩
  · rintro s H' ⟨rfl, rfl⟩
    try simp only [sv_cons, sv_cons1, sc_cons, sc_cons1, asB_bool, ifB_true, ifB_false, un_not, bin_lss, bin_leq, bin_gtr, bin_geq, bin_eql, bin_neq, bin_add, bin_sub, bin_mul, ok_int, ok_bool, ok_slice, ok_str, ok_ptr, ok_map, ok_func, ok_iface, ok_nil, List.all_cons, List.all_nil, Bool.and_true, Bool.true_and, seg, setSeg, List.drop_succ_cons, List.drop_zero, List.take_succ_cons, List.take_zero, List.cons_append, List.nil_append, List.append_nil, List.length_cons, List.length_nil, List.drop_nil, List.size_toArray, Nat.reduceAdd, Nat.reduceLeDiff, Nat.reduceBEq, Nat.zero_add, Nat.le_refl, decide_true, mkV, List.headD_cons, cellsV, w_fldV, w_ext, w_fldP, List.getElem?_toArray, List.getElem?_cons_zero, List.getElem?_cons_succ, beq_self_eq_true, selV]
    have := hQ H' g
    unfold chkE at this
    refine ifD_of (fun c1 => ?_) (fun c1 => ?_)
    · rw [if_neg c1] at this; exact this
    · rw [if_pos (Decidable.not_not.1 c1)] at this; exact this

theorem c_ref06_May {f : Flt} {v : Value} (hv : Sl rMk H A v f.marks) (hl : f.marks.length ≤ 1000000) (hQ : ∀ H', G H H' → Q (.bool (decide (fMay f))) H') : callV Tryd.prog (fnV fn_ref06_May) [.agg #[.int .i64 f.code, v]] H Q := by
  apply S_ref06_May_of
  unfold S_ref06_May
  refine newT_of fun H1 g1 s1 => ?_
  apply S_ref06_codes_of
  unfold S_ref06_codes
  refine bld_I (q := .i64) codesL (by decide) rfl fun t H2 ht g2 s2 => ?_
  have g := g1.trans g2
  have ht := ht.slF (A' := fun _ => True) fun _ _ => trivial
  have h13 : codesL.length = 13 := rfl
  refine loop_up 13 (fun i s H' => H' = H2 ∧ s = [[.bool (decide (f.code ∈ codesL.take i))], [.int .i64 (i : Int)]]) ⟨rfl, by simp⟩ ?_
  rintro i s H' K hi ⟨rfl, rfl⟩ hK
  refine ht.len ?_
  try simp only [sv_cons, sv_cons1, sc_cons, sc_cons1, asB_bool, ifB_true, ifB_false, un_not, bin_lss, bin_leq, bin_gtr, bin_geq, bin_eql, bin_neq, bin_add, bin_sub, bin_mul, ok_int, ok_bool, ok_slice, ok_str, ok_ptr, ok_map, ok_func, ok_iface, ok_nil, List.all_cons, List.all_nil, Bool.and_true, Bool.true_and, seg, setSeg, List.drop_succ_cons, List.drop_zero, List.take_succ_cons, List.take_zero, List.cons_append, List.nil_append, List.append_nil, List.length_cons, List.length_nil, List.drop_nil, List.size_toArray, Nat.reduceAdd, Nat.reduceLeDiff, Nat.reduceBEq, Nat.zero_add, Nat.le_refl, decide_true, mkV, List.headD_cons, cellsV, w_fldV, w_ext, w_fldP, List.getElem?_toArray, List.getElem?_cons_zero, List.getElem?_cons_succ, beq_self_eq_true, selV]
  refine ifD_of (fun c1 => ?_) (fun c1 => ?_)
  · have hlt : i < codesL.length := by omega
    have tk : codesL.take (i + 1) = codesL.take i ++ [codesL[i]] := List.take_succ_eq_append_getElem hlt
    refine join_of (fun s H'' => H'' = H' ∧ s = [[.bool (decide (f.code ∈ codesL.take (i + 1)))]]) (fun K2 hK2 => ?_) ?_
    · refine ifD_of (fun c2 => hK2 _ _ ⟨rfl, jb_t (by rw [tk]; exact List.mem_append_left _ c2)⟩) (fun c2 => ?_)
      refine ht.getI (List.getElem?_eq_getElem hlt) fun _ => ?_
      try simp only [sv_cons, sv_cons1, sc_cons, sc_cons1, asB_bool, ifB_true, ifB_false, un_not, bin_lss, bin_leq, bin_gtr, bin_geq, bin_eql, bin_neq, bin_add, bin_sub, bin_mul, ok_int, ok_bool, ok_slice, ok_str, ok_ptr, ok_map, ok_func, ok_iface, ok_nil, List.all_cons, List.all_nil, Bool.and_true, Bool.true_and, seg, setSeg, List.drop_succ_cons, List.drop_zero, List.take_succ_cons, List.take_zero, List.cons_append, List.nil_append, List.append_nil, List.length_cons, List.length_nil, List.drop_nil, List.size_toArray, Nat.reduceAdd, Nat.reduceLeDiff, Nat.reduceBEq, Nat.zero_add, Nat.le_refl, decide_true, mkV, List.headD_cons, cellsV, w_fldV, w_ext, w_fldP, List.getElem?_toArray, List.getElem?_cons_zero, List.getElem?_cons_succ, beq_self_eq_true, selV]
      exact hK2 _ _ ⟨rfl, jb_d (by rw [tk, List.mem_append, List.mem_singleton]; exact ⟨.inr, fun h => h.elim (fun h => absurd h c2) id⟩)⟩
    · rintro s H'' ⟨rfl, rfl⟩
      try simp only [sv_cons, sv_cons1, sc_cons, sc_cons1, asB_bool, ifB_true, ifB_false, un_not, bin_lss, bin_leq, bin_gtr, bin_geq, bin_eql, bin_neq, bin_add, bin_sub, bin_mul, ok_int, ok_bool, ok_slice, ok_str, ok_ptr, ok_map, ok_func, ok_iface, ok_nil, List.all_cons, List.all_nil, Bool.and_true, Bool.true_and, seg, setSeg, List.drop_succ_cons, List.drop_zero, List.take_succ_cons, List.take_zero, List.cons_append, List.nil_append, List.append_nil, List.length_cons, List.length_nil, List.drop_nil, List.size_toArray, Nat.reduceAdd, Nat.reduceLeDiff, Nat.reduceBEq, Nat.zero_add, Nat.le_refl, decide_true, mkV, List.headD_cons, cellsV, w_fldV, w_ext, w_fldP, List.getElem?_toArray, List.getElem?_cons_zero, List.getElem?_cons_succ, beq_self_eq_true, selV]
      rw [wrap_i64 (by unfold i64; omega)]
      exact hK _ _ (by omega) ⟨rfl, by simp⟩
  rw [List.take_of_length_le (by omega)]
  refine join_of (fun s H'' => H'' = H' ∧ s = [[.bool (decide (¬ (f.code ∈ codesL ∧ f.marks.length ≤ 8)))]]) (fun K2 hK2 => ?_) ?_
  · rw [← decide_not]
    refine ifD_of (fun c2 => hK2 _ _ ⟨rfl, jb_t fun h => c2 h.1⟩) (fun c2 => hv.len ?_)
    try simp only [sv_cons, sv_cons1, sc_cons, sc_cons1, asB_bool, ifB_true, ifB_false, un_not, bin_lss, bin_leq, bin_gtr, bin_geq, bin_eql, bin_neq, bin_add, bin_sub, bin_mul, ok_int, ok_bool, ok_slice, ok_str, ok_ptr, ok_map, ok_func, ok_iface, ok_nil, List.all_cons, List.all_nil, Bool.and_true, Bool.true_and, seg, setSeg, List.drop_succ_cons, List.drop_zero, List.take_succ_cons, List.take_zero, List.cons_append, List.nil_append, List.append_nil, List.length_cons, List.length_nil, List.drop_nil, List.size_toArray, Nat.reduceAdd, Nat.reduceLeDiff, Nat.reduceBEq, Nat.zero_add, Nat.le_refl, decide_true, mkV, List.headD_cons, cellsV, w_fldV, w_ext, w_fldP, List.getElem?_toArray, List.getElem?_cons_zero, List.getElem?_cons_succ, beq_self_eq_true, selV]
    exact hK2 _ _ ⟨rfl, jb_d ⟨fun h h2 => by omega, fun h => Classical.byContradiction fun h2 => h ⟨Decidable.not_not.1 c2, by omega⟩⟩⟩
  rintro s H'' ⟨rfl, rfl⟩
  try simp only [sv_cons, sv_cons1, sc_cons, sc_cons1, asB_bool, ifB_true, ifB_false, un_not, bin_lss, bin_leq, bin_gtr, bin_geq, bin_eql, bin_neq, bin_add, bin_sub, bin_mul, ok_int, ok_bool, ok_slice, ok_str, ok_ptr, ok_map, ok_func, ok_iface, ok_nil, List.all_cons, List.all_nil, Bool.and_true, Bool.true_and, seg, setSeg, List.drop_succ_cons, List.drop_zero, List.take_succ_cons, List.take_zero, List.cons_append, List.nil_append, List.append_nil, List.length_cons, List.length_nil, List.drop_nil, List.size_toArray, Nat.reduceAdd, Nat.reduceLeDiff, Nat.reduceBEq, Nat.zero_add, Nat.le_refl, decide_true, mkV, List.headD_cons, cellsV, w_fldV, w_ext, w_fldP, List.getElem?_toArray, List.getElem?_cons_zero, List.getElem?_cons_succ, beq_self_eq_true, selV]
  refine ifD_of (fun c2 => ?_) (fun c2 => ?_)
  · have := hQ H'' g
    rw [decide_eq_false (fun h => c2 h.1)] at this
    exact this
  have c2 := Decidable.not_not.1 c2
  refine loop_up f.marks.length (fun j s H' => G H H' ∧ s = [[.int .i64 (j : Int)]] ∧ ∀ m ∈ f.marks.take j, mkOk m) ⟨g, rfl, by simp⟩ ?_
  rintro j s H3 K3 hj ⟨g3, rfl, hin⟩ hK3
  refine (hv.g g3).len ?_
  try simp only [sv_cons, sv_cons1, sc_cons, sc_cons1, asB_bool, ifB_true, ifB_false, un_not, bin_lss, bin_leq, bin_gtr, bin_geq, bin_eql, bin_neq, bin_add, bin_sub, bin_mul, ok_int, ok_bool, ok_slice, ok_str, ok_ptr, ok_map, ok_func, ok_iface, ok_nil, List.all_cons, List.all_nil, Bool.and_true, Bool.true_and, seg, setSeg, List.drop_succ_cons, List.drop_zero, List.take_succ_cons, List.take_zero, List.cons_append, List.nil_append, List.append_nil, List.length_cons, List.length_nil, List.drop_nil, List.size_toArray, Nat.reduceAdd, Nat.reduceLeDiff, Nat.reduceBEq, Nat.zero_add, Nat.le_refl, decide_true, mkV, List.headD_cons, cellsV, w_fldV, w_ext, w_fldP, List.getElem?_toArray, List.getElem?_cons_zero, List.getElem?_cons_succ, beq_self_eq_true, selV]
  refine ifD_of (fun c3 => ?_) (fun c3 => ?_)
  · have hlt : j < f.marks.length := by omega
    refine (hv.g g3).get rfl (List.getElem?_eq_getElem hlt) fun cs hr => ?_
    obtain ⟨rfl, _⟩ := hr
    refine c_ref06_mark fun H4 g4 => ?_
    have g4 := g3.trans g4
    try simp only [sv_cons, sv_cons1, sc_cons, sc_cons1, asB_bool, ifB_true, ifB_false, un_not, bin_lss, bin_leq, bin_gtr, bin_geq, bin_eql, bin_neq, bin_add, bin_sub, bin_mul, ok_int, ok_bool, ok_slice, ok_str, ok_ptr, ok_map, ok_func, ok_iface, ok_nil, List.all_cons, List.all_nil, Bool.and_true, Bool.true_and, seg, setSeg, List.drop_succ_cons, List.drop_zero, List.take_succ_cons, List.take_zero, List.cons_append, List.nil_append, List.append_nil, List.length_cons, List.length_nil, List.drop_nil, List.size_toArray, Nat.reduceAdd, Nat.reduceLeDiff, Nat.reduceBEq, Nat.zero_add, Nat.le_refl, decide_true, mkV, List.headD_cons, cellsV, w_fldV, w_ext, w_fldP, List.getElem?_toArray, List.getElem?_cons_zero, List.getElem?_cons_succ, beq_self_eq_true, selV]
    rw [← decide_not]
    refine ifD_of (fun c4 => ?_) (fun c4 => ?_)
    · have := hQ H4 g4
      rw [decide_eq_false (fun h => c4 (h.2 _ (List.getElem_mem hlt)))] at this
      exact this
    · rw [wrap_i64 (by unfold i64; omega)]
      refine hK3 _ _ hlt ⟨g4, by simp, fun x hx => ?_⟩
      rw [List.take_succ_eq_append_getElem hlt, List.mem_append, List.mem_singleton] at hx
      rcases hx with h | rfl
      · exact hin x h
      · exact Decidable.not_not.1 c4
  · rw [List.take_of_length_le (by omega)] at hin
    have := hQ H3 g3
    rw [decide_eq_true ⟨c2, hin⟩] at this
    exact this

theorem c_ref06_Check {f : Flt} {v : Value} (hv : Sl rMk H A v f.marks) (hl : f.marks.length ≤ 1000000) (hQ : ∀ H', G H H' → Q (.int .i64 (chkE f)) H') : callV Tryd.prog (fnV fn_ref06_Check) [.agg #[.int .i64 f.code, v]] H Q := by
  apply S_ref06_Check_of
  unfold S_ref06_Check
  refine newT_of fun H1 g1 s1 => c_ref06_May (hv.g g1) hl fun H2 g2 => ?_
  try simp only [sv_cons, sv_cons1, sc_cons, sc_cons1, asB_bool, ifB_true, ifB_false, un_not, bin_lss, bin_leq, bin_gtr, bin_geq, bin_eql, bin_neq, bin_add, bin_sub, bin_mul, ok_int, ok_bool, ok_slice, ok_str, ok_ptr, ok_map, ok_func, ok_iface, ok_nil, List.all_cons, List.all_nil, Bool.and_true, Bool.true_and, seg, setSeg, List.drop_succ_cons, List.drop_zero, List.take_succ_cons, List.take_zero, List.cons_append, List.nil_append, List.append_nil, List.length_cons, List.length_nil, List.drop_nil, List.size_toArray, Nat.reduceAdd, Nat.reduceLeDiff, Nat.reduceBEq, Nat.zero_add, Nat.le_refl, decide_true, mkV, List.headD_cons, cellsV, w_fldV, w_ext, w_fldP, List.getElem?_toArray, List.getElem?_cons_zero, List.getElem?_cons_succ, beq_self_eq_true, selV]
  rw [← decide_not]
  have := hQ H2 (g1.trans g2)
  unfold chkE at this
  refine ifD_of (fun c1 => ?_) (fun c1 => ?_)
  · rw [if_neg c1] at this; exact this
  · rw [if_pos (Decidable.not_not.1 c1)] at this; exact this

/-! ### Chains -/

/-- A fault as an error: the outermost mark, or the number. -/
def ChV (code : Int) (marks : List Mk) (er : Value) (H : Heap) : Prop := match marks with
  | [] => er = .iface 74 (.agg #[.int .i64 code])
  | m :: _ => ∃ e z, er = .iface 45 (.pointer (some ⟨e, 0, none⟩)) ∧ Bx H e [.int .i64 m.level, .int .i64 m.place, z]
theorem ChV.up {code : Int} {marks : List Mk} {er : Value} {H' : Heap} (h : ChV code marks er H) (hf : Fr B H H') (hb : ∀ e, er = .iface 45 (.pointer (some ⟨e, 0, none⟩)) → B e) : ChV code marks er H' := by
  cases marks with
  | nil => exact h
  | cons m r =>
    obtain ⟨e, z, h1, h2⟩ := h
    exact ⟨e, z, h1, h2.up hf (hb e h1)⟩

theorem c_Backward_mk_1 {a1 : Nat} {v : Value} {l : List Mk} (hn : l.length ≤ 1000000) :
    IterC Tryd.prog (.func (.func fn_slices_Backward_api_Mark_api_Mark_1) #[] #[.pointer (some ⟨a1, 0, none⟩)]) l.length
      (fun i m H a => ∃ x n, l[l.length - 1 - i]? = some x ∧ a = [.int .i64 n, vMk x]) (fun H => Bx H a1 [v] ∧ Sl rMk H B v l) := by
  intro yv I E H Q hG hE hS hSE hsz h0 hy hQ
  apply C_slices_Backward_api_Mark_api_Mark_1_of
  unfold S_slices_Backward_api_Mark_api_Mark_1
  obtain ⟨h1, hl⟩ := hS _ _ h0
  refine h1.load rfl ?_
  try simp only [sv_cons, sv_cons1, sc_cons, sc_cons1, asB_bool, ifB_true, ifB_false, un_not, bin_lss, bin_leq, bin_gtr, bin_geq, bin_eql, bin_neq, bin_add, bin_sub, bin_mul, ok_int, ok_bool, ok_slice, ok_str, ok_ptr, ok_map, ok_func, ok_iface, ok_nil, List.all_cons, List.all_nil, Bool.and_true, Bool.true_and, seg, setSeg, List.drop_succ_cons, List.drop_zero, List.take_succ_cons, List.take_zero, List.cons_append, List.nil_append, List.append_nil, List.length_cons, List.length_nil, List.drop_nil, List.size_toArray, Nat.reduceAdd, Nat.reduceLeDiff, Nat.reduceBEq, Nat.zero_add, Nat.le_refl, decide_true, mkV, List.headD_cons, cellsV, w_fldV, w_ext, w_fldP, List.getElem?_toArray, List.getElem?_cons_zero, List.getElem?_cons_succ, beq_self_eq_true, selV]
  refine hl.len ?_
  try simp only [sv_cons, sv_cons1, sc_cons, sc_cons1, asB_bool, ifB_true, ifB_false, un_not, bin_lss, bin_leq, bin_gtr, bin_geq, bin_eql, bin_neq, bin_add, bin_sub, bin_mul, ok_int, ok_bool, ok_slice, ok_str, ok_ptr, ok_map, ok_func, ok_iface, ok_nil, List.all_cons, List.all_nil, Bool.and_true, Bool.true_and, seg, setSeg, List.drop_succ_cons, List.drop_zero, List.take_succ_cons, List.take_zero, List.cons_append, List.nil_append, List.append_nil, List.length_cons, List.length_nil, List.drop_nil, List.size_toArray, Nat.reduceAdd, Nat.reduceLeDiff, Nat.reduceBEq, Nat.zero_add, Nat.le_refl, decide_true, mkV, List.headD_cons, cellsV, w_fldV, w_ext, w_fldP, List.getElem?_toArray, List.getElem?_cons_zero, List.getElem?_cons_succ, beq_self_eq_true, selV]
  rw [wrap_i64 (by unfold i64; omega)]
  refine loop_up l.length (fun i st H' => I i H' ∧ st = [[.int .i64 ((l.length : Int) - 1 - i)]]) ⟨h0, by simp⟩ ?_
  rintro i st H' K hi ⟨hI, rfl⟩ hK
  try simp only [sv_cons, sv_cons1, sc_cons, sc_cons1, asB_bool, ifB_true, ifB_false, un_not, bin_lss, bin_leq, bin_gtr, bin_geq, bin_eql, bin_neq, bin_add, bin_sub, bin_mul, ok_int, ok_bool, ok_slice, ok_str, ok_ptr, ok_map, ok_func, ok_iface, ok_nil, List.all_cons, List.all_nil, Bool.and_true, Bool.true_and, seg, setSeg, List.drop_succ_cons, List.drop_zero, List.take_succ_cons, List.take_zero, List.cons_append, List.nil_append, List.append_nil, List.length_cons, List.length_nil, List.drop_nil, List.size_toArray, Nat.reduceAdd, Nat.reduceLeDiff, Nat.reduceBEq, Nat.zero_add, Nat.le_refl, decide_true, mkV, List.headD_cons, cellsV, w_fldV, w_ext, w_fldP, List.getElem?_toArray, List.getElem?_cons_zero, List.getElem?_cons_succ, beq_self_eq_true, selV]
  refine ifD_of (fun c1 => ?_) (fun c1 => ?_)
  · obtain ⟨k1, kl⟩ := hS _ _ hI
    refine k1.load rfl ?_
    try simp only [sv_cons, sv_cons1, sc_cons, sc_cons1, asB_bool, ifB_true, ifB_false, un_not, bin_lss, bin_leq, bin_gtr, bin_geq, bin_eql, bin_neq, bin_add, bin_sub, bin_mul, ok_int, ok_bool, ok_slice, ok_str, ok_ptr, ok_map, ok_func, ok_iface, ok_nil, List.all_cons, List.all_nil, Bool.and_true, Bool.true_and, seg, setSeg, List.drop_succ_cons, List.drop_zero, List.take_succ_cons, List.take_zero, List.cons_append, List.nil_append, List.append_nil, List.length_cons, List.length_nil, List.drop_nil, List.size_toArray, Nat.reduceAdd, Nat.reduceLeDiff, Nat.reduceBEq, Nat.zero_add, Nat.le_refl, decide_true, mkV, List.headD_cons, cellsV, w_fldV, w_ext, w_fldP, List.getElem?_toArray, List.getElem?_cons_zero, List.getElem?_cons_succ, beq_self_eq_true, selV]
    have hlt : l.length - 1 - i < l.length := by omega
    have hz : (l.length : Int) - 1 - i = ((l.length - 1 - i : Nat) : Int) := by omega
    rw [hz]
    refine kl.get rfl (List.getElem?_eq_getElem hlt) fun cs hr => ?_
    obtain ⟨rfl, _⟩ := hr
    try simp only [sv_cons, sv_cons1, sc_cons, sc_cons1, asB_bool, ifB_true, ifB_false, un_not, bin_lss, bin_leq, bin_gtr, bin_geq, bin_eql, bin_neq, bin_add, bin_sub, bin_mul, ok_int, ok_bool, ok_slice, ok_str, ok_ptr, ok_map, ok_func, ok_iface, ok_nil, List.all_cons, List.all_nil, Bool.and_true, Bool.true_and, seg, setSeg, List.drop_succ_cons, List.drop_zero, List.take_succ_cons, List.take_zero, List.cons_append, List.nil_append, List.append_nil, List.length_cons, List.length_nil, List.drop_nil, List.size_toArray, Nat.reduceAdd, Nat.reduceLeDiff, Nat.reduceBEq, Nat.zero_add, Nat.le_refl, decide_true, mkV, List.headD_cons, cellsV, w_fldV, w_ext, w_fldP, List.getElem?_toArray, List.getElem?_cons_zero, List.getElem?_cons_succ, beq_self_eq_true, selV]
    refine hy i H' _ _ (by omega) hI ⟨_, _, List.getElem?_eq_getElem hlt, rfl⟩ (fun H2 hI2 => ?_) (fun H2 hE2 => ?_)
    · try simp only [sv_cons, sv_cons1, sc_cons, sc_cons1, asB_bool, ifB_true, ifB_false, un_not, bin_lss, bin_leq, bin_gtr, bin_geq, bin_eql, bin_neq, bin_add, bin_sub, bin_mul, ok_int, ok_bool, ok_slice, ok_str, ok_ptr, ok_map, ok_func, ok_iface, ok_nil, List.all_cons, List.all_nil, Bool.and_true, Bool.true_and, seg, setSeg, List.drop_succ_cons, List.drop_zero, List.take_succ_cons, List.take_zero, List.cons_append, List.nil_append, List.append_nil, List.length_cons, List.length_nil, List.drop_nil, List.size_toArray, Nat.reduceAdd, Nat.reduceLeDiff, Nat.reduceBEq, Nat.zero_add, Nat.le_refl, decide_true, mkV, List.headD_cons, cellsV, w_fldV, w_ext, w_fldP, List.getElem?_toArray, List.getElem?_cons_zero, List.getElem?_cons_succ, beq_self_eq_true, selV, Bool.not_true]
      rw [wrap_i64 (by unfold i64; omega)]
      exact hK _ _ (by omega) ⟨hI2, by simp; omega⟩
    · try simp only [sv_cons, sv_cons1, sc_cons, sc_cons1, asB_bool, ifB_true, ifB_false, un_not, bin_lss, bin_leq, bin_gtr, bin_geq, bin_eql, bin_neq, bin_add, bin_sub, bin_mul, ok_int, ok_bool, ok_slice, ok_str, ok_ptr, ok_map, ok_func, ok_iface, ok_nil, List.all_cons, List.all_nil, Bool.and_true, Bool.true_and, seg, setSeg, List.drop_succ_cons, List.drop_zero, List.take_succ_cons, List.take_zero, List.cons_append, List.nil_append, List.append_nil, List.length_cons, List.length_nil, List.drop_nil, List.size_toArray, Nat.reduceAdd, Nat.reduceLeDiff, Nat.reduceBEq, Nat.zero_add, Nat.le_refl, decide_true, mkV, List.headD_cons, cellsV, w_fldV, w_ext, w_fldP, List.getElem?_toArray, List.getElem?_cons_zero, List.getElem?_cons_succ, beq_self_eq_true, selV, Bool.not_false]
      exact hQ _ _ (.inr hE2)
  · have : i = l.length := by omega
    subst this
    exact hQ _ _ (.inl hI)

end Go.Proofs.YtioaanmeooonfaaDoor
