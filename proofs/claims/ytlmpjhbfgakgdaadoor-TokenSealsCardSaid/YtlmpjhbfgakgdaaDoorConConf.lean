/- Contracts: geo and conf, and the references of chapters 7 and 8. -/
import Derived.Test.YtlmpjhbfgakgdaaDoorShConf
import Derived.Test.YtlmpjhbfgakgdaaDoorMdConf
namespace Go.Proofs.YtlmpjhbfgakgdaaDoor
open Go.Ab Go.Md
set_option linter.unusedVariables false
set_option linter.unusedSimpArgs false
set_option maxRecDepth 20000

variable {H : Heap} {Q : Value → Heap → Prop}

theorem c_geo_Check {h : Int} (hQ : Q (.int .i64 (highE h)) H) : callV Tryd.prog (fnV fn_geo_Check) [.int .i64 h] H Q := by
  apply S_geo_Check_of
  unfold S_geo_Check
  unfold highE at hQ
  refine join_of (fun s H' => H' = H ∧ s = [[.bool (decide (h < 1 ∨ h > 6))]]) (fun K hK => ?_) ?_
  · try simp only [sv_cons, sv_cons1, sc_cons, sc_cons1, asB_bool, ifB_true, ifB_false, un_not, bin_lss, bin_leq, bin_gtr, bin_geq, bin_eql, bin_neq, bin_add, bin_sub, bin_mul, ok_int, ok_bool, ok_slice, ok_str, ok_ptr, ok_map, ok_func, ok_iface, ok_nil, List.all_cons, List.all_nil, Bool.and_true, Bool.true_and, seg, setSeg, List.drop_succ_cons, List.drop_zero, List.take_succ_cons, List.take_zero, List.cons_append, List.nil_append, List.append_nil, List.length_cons, List.length_nil, List.drop_nil, List.size_toArray, Nat.reduceAdd, Nat.reduceLeDiff, Nat.reduceBEq, Nat.zero_add, Nat.le_refl, decide_true, mkV, List.headD_cons, cellsV, w_fldV, w_ext, w_fldP, List.getElem?_toArray, List.getElem?_cons_zero, List.getElem?_cons_succ, beq_self_eq_true, selV]
    refine ifD_of (fun h1 => hK _ _ ⟨rfl, by simp [h1]⟩) (fun h1 => hK _ _ ⟨rfl, by simp [h1]⟩)
  · rintro s H' ⟨rfl, rfl⟩
    try simp only [sv_cons, sv_cons1, sc_cons, sc_cons1, asB_bool, ifB_true, ifB_false, un_not, bin_lss, bin_leq, bin_gtr, bin_geq, bin_eql, bin_neq, bin_add, bin_sub, bin_mul, ok_int, ok_bool, ok_slice, ok_str, ok_ptr, ok_map, ok_func, ok_iface, ok_nil, List.all_cons, List.all_nil, Bool.and_true, Bool.true_and, seg, setSeg, List.drop_succ_cons, List.drop_zero, List.take_succ_cons, List.take_zero, List.cons_append, List.nil_append, List.append_nil, List.length_cons, List.length_nil, List.drop_nil, List.size_toArray, Nat.reduceAdd, Nat.reduceLeDiff, Nat.reduceBEq, Nat.zero_add, Nat.le_refl, decide_true, mkV, List.headD_cons, cellsV, w_fldV, w_ext, w_fldP, List.getElem?_toArray, List.getElem?_cons_zero, List.getElem?_cons_succ, beq_self_eq_true, selV]
    refine ifD_of (fun h1 => ?_) (fun h1 => ?_)
    · rw [if_pos h1] at hQ; exact hQ
    · rw [if_neg h1] at hQ; exact hQ

theorem c_geo_asked0 {h : Int} (hQ : Q (.int .i64 (highE h)) H) : callV Tryd.prog (fnV fn_geo_asked) [.int .i64 h, .slice none 0 0] H Q := by
  apply S_geo_asked_of
  unfold S_geo_asked
  refine c_geo_Check ?_
  try simp only [sv_cons, sv_cons1, sc_cons, sc_cons1, asB_bool, ifB_true, ifB_false, un_not, bin_lss, bin_leq, bin_gtr, bin_geq, bin_eql, bin_neq, bin_add, bin_sub, bin_mul, ok_int, ok_bool, ok_slice, ok_str, ok_ptr, ok_map, ok_func, ok_iface, ok_nil, List.all_cons, List.all_nil, Bool.and_true, Bool.true_and, seg, setSeg, List.drop_succ_cons, List.drop_zero, List.take_succ_cons, List.take_zero, List.cons_append, List.nil_append, List.append_nil, List.length_cons, List.length_nil, List.drop_nil, List.size_toArray, Nat.reduceAdd, Nat.reduceLeDiff, Nat.reduceBEq, Nat.zero_add, Nat.le_refl, decide_true, mkV, List.headD_cons, cellsV, w_fldV, w_ext, w_fldP, List.getElem?_toArray, List.getElem?_cons_zero, List.getElem?_cons_succ, beq_self_eq_true, selV]
  refine ifD_of (fun h1 => hQ) (fun h1 => ?_)
  simp only [lenSl_slice]
  refine loop_up 0 (fun i s H' => s = [[.int .i64 (i : Int)]] ∧ H' = H) ⟨rfl, rfl⟩ ?_
  rintro i s H' K hi ⟨rfl, rfl⟩ hK
  try simp only [sv_cons, sv_cons1, sc_cons, sc_cons1, asB_bool, ifB_true, ifB_false, un_not, bin_lss, bin_leq, bin_gtr, bin_geq, bin_eql, bin_neq, bin_add, bin_sub, bin_mul, ok_int, ok_bool, ok_slice, ok_str, ok_ptr, ok_map, ok_func, ok_iface, ok_nil, List.all_cons, List.all_nil, Bool.and_true, Bool.true_and, seg, setSeg, List.drop_succ_cons, List.drop_zero, List.take_succ_cons, List.take_zero, List.cons_append, List.nil_append, List.append_nil, List.length_cons, List.length_nil, List.drop_nil, List.size_toArray, Nat.reduceAdd, Nat.reduceLeDiff, Nat.reduceBEq, Nat.zero_add, Nat.le_refl, decide_true, mkV, List.headD_cons, cellsV, w_fldV, w_ext, w_fldP, List.getElem?_toArray, List.getElem?_cons_zero, List.getElem?_cons_succ, beq_self_eq_true, selV]
  have : highE h = 0 := by omega
  rw [this] at hQ; exact hQ

/-- What 'Leaves' answers. -/
abbrev leavesV (h : Int) : Value := if highE h = 0 then .tuple #[.int .i64 (many h), .int .i64 0] else .tuple #[.int .i64 0, .int .i64 2]

theorem highE_ok {h : Int} : highE h = 0 ↔ 1 ≤ h ∧ h ≤ 6 := by unfold highE; split <;> omega

theorem c_geo_Leaves {h : Int} (hQ : Q (leavesV h) H) : callV Tryd.prog (fnV fn_geo_Leaves) [.int .i64 h] H Q := by
  apply S_geo_Leaves_of
  unfold S_geo_Leaves
  refine c_geo_asked0 ?_
  unfold leavesV at hQ
  try simp only [sv_cons, sv_cons1, sc_cons, sc_cons1, asB_bool, ifB_true, ifB_false, un_not, bin_lss, bin_leq, bin_gtr, bin_geq, bin_eql, bin_neq, bin_add, bin_sub, bin_mul, ok_int, ok_bool, ok_slice, ok_str, ok_ptr, ok_map, ok_func, ok_iface, ok_nil, List.all_cons, List.all_nil, Bool.and_true, Bool.true_and, seg, setSeg, List.drop_succ_cons, List.drop_zero, List.take_succ_cons, List.take_zero, List.cons_append, List.nil_append, List.append_nil, List.length_cons, List.length_nil, List.drop_nil, List.size_toArray, Nat.reduceAdd, Nat.reduceLeDiff, Nat.reduceBEq, Nat.zero_add, Nat.le_refl, decide_true, mkV, List.headD_cons, cellsV, w_fldV, w_ext, w_fldP, List.getElem?_toArray, List.getElem?_cons_zero, List.getElem?_cons_succ, beq_self_eq_true, selV]
  refine ifD_of (fun h1 => ?_) (fun h1 => ?_)
  · rw [if_neg h1] at hQ
    have : highE h = 2 := by unfold highE at h1 ⊢; split at h1 <;> simp_all
    rw [this]; exact hQ
  · have h2 : highE h = 0 := by omega
    rw [if_pos h2] at hQ
    have h3 := highE_ok.1 h2
    refine w_shl (by omega) ?_
    have : IntKind.i64.wrap (1 * 2 ^ (min h.toNat IntKind.i64.bits)) = many h := by
      rw [Int.one_mul, Nat.min_eq_left (by simp [IntKind.bits]; omega)]
      have := many_bound h3.1 h3.2
      exact wrap_i64 (show i64 (many h) by unfold i64; omega)
    rw [this]; exact hQ

abbrev bucketsV (h : Int) : Value := if highE h = 0 then .tuple #[.int .i64 (2 * many h - 1), .int .i64 0] else .tuple #[.int .i64 0, .int .i64 2]

/-! ### Levels -/

theorem leaves_lt {h n : Int} (h1 : 1 ≤ h ∧ h ≤ 6) (hn : n ≤ 64) (hlt : many h < n) : h < high n := by
  rw [many_val h1.1 h1.2] at hlt
  have : h = 1 ∨ h = 2 ∨ h = 3 ∨ h = 4 ∨ h = 5 ∨ h = 6 := by omega
  unfold high
  rcases this with rfl | rfl | rfl | rfl | rfl | rfl <;> simp at hlt <;> (repeat' split) <;> omega
theorem leaves_ge {h n : Int} (h1 : 1 ≤ h ∧ h ≤ high n) (hge : n ≤ many h) : h = high n := by
  have h6 := high_ge n
  rw [many_val h1.1 (by omega)] at hge
  have : h = 1 ∨ h = 2 ∨ h = 3 ∨ h = 4 ∨ h = 5 ∨ h = 6 := by omega
  unfold high at h1 h6 ⊢
  rcases this with rfl | rfl | rfl | rfl | rfl | rfl <;> simp at hge <;> (repeat' split at h1) <;> (repeat' split) <;> omega

theorem width_i64 {c : Cfg} (hc : 1 ≤ c.slots ∧ c.slots ≤ 4) {size : Int} (hs : 1 ≤ size ∧ size ≤ 32) : i64 (8 + size) ∧ i64 (c.slots * (8 + size)) ∧ i64 (c.slots * (8 + size) + 64) := by
  have e1 : 0 ≤ c.slots * (8 + size) := Int.mul_nonneg (by omega) (by omega)
  have e2 : c.slots * (8 + size) ≤ 4 * 40 := Int.mul_le_mul (by omega) (by omega) (by omega) (by omega)
  unfold i64; omega

theorem c_conf_level {c : Cfg} {n size : Int} (hc : c.num) (hn : 1 ≤ n ∧ n ≤ 64) (hs : 1 ≤ size ∧ size ≤ 32) (hQ : ∀ H', G H H' → Q (.agg (cLvl (c.level n size)).toArray) H') :
    callV Tryd.prog (fnV fn_conf_level) [.agg (cCfg c).toArray, .int .i64 n, .int .i64 size] H Q := by
  apply S_conf_level_of
  unfold S_conf_level
  refine newT_of fun H1 g1 _ => newT_of fun H2 g2 _ => ?_
  refine c_geo_Leaves ?_
  rw [show leavesV 1 = .tuple #[.int .i64 2, .int .i64 0] from rfl]
  try simp only [sv_cons, sv_cons1, sc_cons, sc_cons1, asB_bool, ifB_true, ifB_false, un_not, bin_lss, bin_leq, bin_gtr, bin_geq, bin_eql, bin_neq, bin_add, bin_sub, bin_mul, ok_int, ok_bool, ok_slice, ok_str, ok_ptr, ok_map, ok_func, ok_iface, ok_nil, List.all_cons, List.all_nil, Bool.and_true, Bool.true_and, seg, setSeg, List.drop_succ_cons, List.drop_zero, List.take_succ_cons, List.take_zero, List.cons_append, List.nil_append, List.append_nil, List.length_cons, List.length_nil, List.drop_nil, List.size_toArray, Nat.reduceAdd, Nat.reduceLeDiff, Nat.reduceBEq, Nat.zero_add, Nat.le_refl, decide_true, mkV, List.headD_cons, cellsV, w_fldV, w_ext, w_fldP, List.getElem?_toArray, List.getElem?_cons_zero, List.getElem?_cons_succ, beq_self_eq_true, selV]
  have hh := high_ge n
  refine loop_up 6 (fun i s H' => ∃ h : Int, h = (i : Int) + 1 ∧ h ≤ high n ∧ s = [[.int .i64 h], [.int .i64 (many h)], [.int .i64 0]] ∧ H' = H2) ⟨1, rfl, hh.1, rfl, rfl⟩ ?_
  rintro i s H' K hi ⟨h, rfl, hle, rfl, rfl⟩ hK
  refine join_of (fun s H'' => H'' = H' ∧ s = [[.bool (decide (many ((i : Int) + 1) < n))]]) (fun K' hK' => ?_) ?_
  · try simp only [sv_cons, sv_cons1, sc_cons, sc_cons1, asB_bool, ifB_true, ifB_false, un_not, bin_lss, bin_leq, bin_gtr, bin_geq, bin_eql, bin_neq, bin_add, bin_sub, bin_mul, ok_int, ok_bool, ok_slice, ok_str, ok_ptr, ok_map, ok_func, ok_iface, ok_nil, List.all_cons, List.all_nil, Bool.and_true, Bool.true_and, seg, setSeg, List.drop_succ_cons, List.drop_zero, List.take_succ_cons, List.take_zero, List.cons_append, List.nil_append, List.append_nil, List.length_cons, List.length_nil, List.drop_nil, List.size_toArray, Nat.reduceAdd, Nat.reduceLeDiff, Nat.reduceBEq, Nat.zero_add, Nat.le_refl, decide_true, mkV, List.headD_cons, cellsV, w_fldV, w_ext, w_fldP, List.getElem?_toArray, List.getElem?_cons_zero, List.getElem?_cons_succ, beq_self_eq_true, selV]
    exact hK' _ _ ⟨rfl, rfl⟩
  · rintro s H'' ⟨rfl, rfl⟩
    try simp only [sv_cons, sv_cons1, sc_cons, sc_cons1, asB_bool, ifB_true, ifB_false, un_not, bin_lss, bin_leq, bin_gtr, bin_geq, bin_eql, bin_neq, bin_add, bin_sub, bin_mul, ok_int, ok_bool, ok_slice, ok_str, ok_ptr, ok_map, ok_func, ok_iface, ok_nil, List.all_cons, List.all_nil, Bool.and_true, Bool.true_and, seg, setSeg, List.drop_succ_cons, List.drop_zero, List.take_succ_cons, List.take_zero, List.cons_append, List.nil_append, List.append_nil, List.length_cons, List.length_nil, List.drop_nil, List.size_toArray, Nat.reduceAdd, Nat.reduceLeDiff, Nat.reduceBEq, Nat.zero_add, Nat.le_refl, decide_true, mkV, List.headD_cons, cellsV, w_fldV, w_ext, w_fldP, List.getElem?_toArray, List.getElem?_cons_zero, List.getElem?_cons_succ, beq_self_eq_true, selV]
    refine ifD_of (fun h1 => ?_) (fun h1 => ?_)
    · have := leaves_lt ⟨by omega, by omega⟩ hn.2 h1
      rw [wrap_i64 (by unfold i64; omega)]
      refine c_geo_Leaves ?_
      have he : highE ((i : Int) + 1 + 1) = 0 := highE_ok.2 ⟨by omega, by omega⟩
      unfold leavesV
      rw [if_pos he]
      try simp only [sv_cons, sv_cons1, sc_cons, sc_cons1, asB_bool, ifB_true, ifB_false, un_not, bin_lss, bin_leq, bin_gtr, bin_geq, bin_eql, bin_neq, bin_add, bin_sub, bin_mul, ok_int, ok_bool, ok_slice, ok_str, ok_ptr, ok_map, ok_func, ok_iface, ok_nil, List.all_cons, List.all_nil, Bool.and_true, Bool.true_and, seg, setSeg, List.drop_succ_cons, List.drop_zero, List.take_succ_cons, List.take_zero, List.cons_append, List.nil_append, List.append_nil, List.length_cons, List.length_nil, List.drop_nil, List.size_toArray, Nat.reduceAdd, Nat.reduceLeDiff, Nat.reduceBEq, Nat.zero_add, Nat.le_refl, decide_true, mkV, List.headD_cons, cellsV, w_fldV, w_ext, w_fldP, List.getElem?_toArray, List.getElem?_cons_zero, List.getElem?_cons_succ, beq_self_eq_true, selV]
      exact hK _ _ (by omega) ⟨(i : Int) + 1 + 1, by omega, by omega, rfl, rfl⟩
    · have := leaves_ge (h := (i : Int) + 1) ⟨by omega, hle⟩ (by omega)
      have hw := width_i64 (c := c) hc.2.2.2.1 hs
      rw [wrap_i64 hw.1, wrap_i64 hw.2.1, wrap_i64 hw.2.2, this]
      exact hQ _ (g1.trans g2)

theorem c_conf_span {a b c : Int} (hQ : ∀ H', G H H' → Q (.bool (decide (b ≤ a ∧ a ≤ c))) H') : callV Tryd.prog (fnV fn_conf_span_int_in) [.agg #[.int .i64 a, .int .i64 b, .int .i64 c]] H Q := by
  apply S_conf_span_int_in_of
  unfold S_conf_span_int_in
  refine newT_of fun H1 g1 _ => ?_
  refine join_of (fun s H' => H' = H1 ∧ s = [[.bool (decide (b ≤ a ∧ a ≤ c))]]) (fun K hK => ?_) ?_
  · try simp only [sv_cons, sv_cons1, sc_cons, sc_cons1, asB_bool, ifB_true, ifB_false, un_not, bin_lss, bin_leq, bin_gtr, bin_geq, bin_eql, bin_neq, bin_add, bin_sub, bin_mul, ok_int, ok_bool, ok_slice, ok_str, ok_ptr, ok_map, ok_func, ok_iface, ok_nil, List.all_cons, List.all_nil, Bool.and_true, Bool.true_and, seg, setSeg, List.drop_succ_cons, List.drop_zero, List.take_succ_cons, List.take_zero, List.cons_append, List.nil_append, List.append_nil, List.length_cons, List.length_nil, List.drop_nil, List.size_toArray, Nat.reduceAdd, Nat.reduceLeDiff, Nat.reduceBEq, Nat.zero_add, Nat.le_refl, decide_true, mkV, List.headD_cons, cellsV, w_fldV, w_ext, w_fldP, List.getElem?_toArray, List.getElem?_cons_zero, List.getElem?_cons_succ, beq_self_eq_true, selV]
    refine ifD_of (fun h1 => hK _ _ ⟨rfl, by simp [h1]⟩) (fun h1 => hK _ _ ⟨rfl, by simp [h1]⟩)
  · rintro s H' ⟨rfl, rfl⟩
    exact hQ _ g1

/-! ### Numbers -/

def spanOf (c : Cfg) : Nat → Int × Int × Int
  | 0 => (c.pages, 1, 64) | 1 => (c.size, 1, 32) | 2 => (c.fan, 2, 8) | 3 => (c.slots, 1, 4) | 4 => (c.stash, 1, 64) | 5 => (c.frames, 1, 8) | 6 => (c.clients, 1, 4) | 7 => (c.queue, 1, 16) | _ => (c.top, 1, 16)
def spanIn (c : Cfg) (i : Nat) : Prop := (spanOf c i).2.1 ≤ (spanOf c i).1 ∧ (spanOf c i).1 ≤ (spanOf c i).2.2
theorem num_iff (c : Cfg) : c.num ↔ ∀ i, i < 9 → spanIn c i := by
  constructor
  · rintro ⟨h0, h1, h2, h3, h4, h5, h6, h7, h8⟩ i hi
    match i, hi with
    | 0, _ => exact h0
    | 1, _ => exact h1
    | 2, _ => exact h2
    | 3, _ => exact h3
    | 4, _ => exact h4
    | 5, _ => exact h5
    | 6, _ => exact h6
    | 7, _ => exact h7
    | 8, _ => exact h8
    | n + 9, h => omega
  · intro h
    exact ⟨h 0 (by omega), h 1 (by omega), h 2 (by omega), h 3 (by omega), h 4 (by omega), h 5 (by omega), h 6 (by omega), h 7 (by omega), h 8 (by omega)⟩

theorem c_conf_numbers {c : Cfg} (hQ : ∀ H', G H H' → Q (.bool (decide c.num)) H') : callV Tryd.prog (fnV fn_conf_numbers) [.agg (cCfg c).toArray] H Q := by
  apply S_conf_numbers_of
  unfold S_conf_numbers
  refine newT_of fun H1 g1 _ => ?_
  try simp only [sv_cons, sv_cons1, sc_cons, sc_cons1, asB_bool, ifB_true, ifB_false, un_not, bin_lss, bin_leq, bin_gtr, bin_geq, bin_eql, bin_neq, bin_add, bin_sub, bin_mul, ok_int, ok_bool, ok_slice, ok_str, ok_ptr, ok_map, ok_func, ok_iface, ok_nil, List.all_cons, List.all_nil, Bool.and_true, Bool.true_and, seg, setSeg, List.drop_succ_cons, List.drop_zero, List.take_succ_cons, List.take_zero, List.cons_append, List.nil_append, List.append_nil, List.length_cons, List.length_nil, List.drop_nil, List.size_toArray, Nat.reduceAdd, Nat.reduceLeDiff, Nat.reduceBEq, Nat.zero_add, Nat.le_refl, decide_true, mkV, List.headD_cons, cellsV, w_fldV, w_ext, w_fldP, List.getElem?_toArray, List.getElem?_cons_zero, List.getElem?_cons_succ, beq_self_eq_true, selV]
  refine newT_of fun H2 g2 _ => ?_
  refine loop_up 9 (fun i s H' => s = [[.int .i64 (i : Int)]] ∧ G H H' ∧ ∀ j, j < i → spanIn c j) ⟨rfl, g1.trans g2, fun j hj => by omega⟩ ?_
  rintro i s H' K hi ⟨rfl, g, hin⟩ hK
  try simp only [sv_cons, sv_cons1, sc_cons, sc_cons1, asB_bool, ifB_true, ifB_false, un_not, bin_lss, bin_leq, bin_gtr, bin_geq, bin_eql, bin_neq, bin_add, bin_sub, bin_mul, ok_int, ok_bool, ok_slice, ok_str, ok_ptr, ok_map, ok_func, ok_iface, ok_nil, List.all_cons, List.all_nil, Bool.and_true, Bool.true_and, seg, setSeg, List.drop_succ_cons, List.drop_zero, List.take_succ_cons, List.take_zero, List.cons_append, List.nil_append, List.append_nil, List.length_cons, List.length_nil, List.drop_nil, List.size_toArray, Nat.reduceAdd, Nat.reduceLeDiff, Nat.reduceBEq, Nat.zero_add, Nat.le_refl, decide_true, mkV, List.headD_cons, cellsV, w_fldV, w_ext, w_fldP, List.getElem?_toArray, List.getElem?_cons_zero, List.getElem?_cons_succ, beq_self_eq_true, selV]
  refine ifD_of (fun h1 => ?_) (fun h1 => ?_)
  · have hi9 : i < 9 := by omega
    have key : ∀ {k : Value → Prop}, k (.agg #[.int .i64 (spanOf c i).1, .int .i64 (spanOf c i).2.1, .int .i64 (spanOf c i).2.2]) → idxV true 9 3 (.agg #[(.int .i64 c.pages), (.int .i64 1), (.int .i64 64), (.int .i64 c.size), (.int .i64 1), (.int .i64 32), (.int .i64 c.fan), (.int .i64 2), (.int .i64 8), (.int .i64 c.slots), (.int .i64 1), (.int .i64 4), (.int .i64 c.stash), (.int .i64 1), (.int .i64 64), (.int .i64 c.frames), (.int .i64 1), (.int .i64 8), (.int .i64 c.clients), (.int .i64 1), (.int .i64 4), (.int .i64 c.queue), (.int .i64 1), (.int .i64 16), (.int .i64 c.top), (.int .i64 1), (.int .i64 16)]) (.int .i64 (i : Int)) k := by
      intro k hk
      match i, hi9 with
      | 0, _ => exact ⟨⟨by omega, by omega, by simp⟩, hk⟩
      | 1, _ => exact ⟨⟨by omega, by omega, by simp⟩, hk⟩
      | 2, _ => exact ⟨⟨by omega, by omega, by simp⟩, hk⟩
      | 3, _ => exact ⟨⟨by omega, by omega, by simp⟩, hk⟩
      | 4, _ => exact ⟨⟨by omega, by omega, by simp⟩, hk⟩
      | 5, _ => exact ⟨⟨by omega, by omega, by simp⟩, hk⟩
      | 6, _ => exact ⟨⟨by omega, by omega, by simp⟩, hk⟩
      | 7, _ => exact ⟨⟨by omega, by omega, by simp⟩, hk⟩
      | 8, _ => exact ⟨⟨by omega, by omega, by simp⟩, hk⟩
      | n + 9, h => omega
    refine key ?_
    refine newT_of fun H3 g3 _ => ?_
    try simp only [sv_cons, sv_cons1, sc_cons, sc_cons1, asB_bool, ifB_true, ifB_false, un_not, bin_lss, bin_leq, bin_gtr, bin_geq, bin_eql, bin_neq, bin_add, bin_sub, bin_mul, ok_int, ok_bool, ok_slice, ok_str, ok_ptr, ok_map, ok_func, ok_iface, ok_nil, List.all_cons, List.all_nil, Bool.and_true, Bool.true_and, seg, setSeg, List.drop_succ_cons, List.drop_zero, List.take_succ_cons, List.take_zero, List.cons_append, List.nil_append, List.append_nil, List.length_cons, List.length_nil, List.drop_nil, List.size_toArray, Nat.reduceAdd, Nat.reduceLeDiff, Nat.reduceBEq, Nat.zero_add, Nat.le_refl, decide_true, mkV, List.headD_cons, cellsV, w_fldV, w_ext, w_fldP, List.getElem?_toArray, List.getElem?_cons_zero, List.getElem?_cons_succ, beq_self_eq_true, selV]
    refine c_conf_span fun H4 g4 => ?_
    have g' := (g.trans g3).trans g4
    try simp only [sv_cons, sv_cons1, sc_cons, sc_cons1, asB_bool, ifB_true, ifB_false, un_not, bin_lss, bin_leq, bin_gtr, bin_geq, bin_eql, bin_neq, bin_add, bin_sub, bin_mul, ok_int, ok_bool, ok_slice, ok_str, ok_ptr, ok_map, ok_func, ok_iface, ok_nil, List.all_cons, List.all_nil, Bool.and_true, Bool.true_and, seg, setSeg, List.drop_succ_cons, List.drop_zero, List.take_succ_cons, List.take_zero, List.cons_append, List.nil_append, List.append_nil, List.length_cons, List.length_nil, List.drop_nil, List.size_toArray, Nat.reduceAdd, Nat.reduceLeDiff, Nat.reduceBEq, Nat.zero_add, Nat.le_refl, decide_true, mkV, List.headD_cons, cellsV, w_fldV, w_ext, w_fldP, List.getElem?_toArray, List.getElem?_cons_zero, List.getElem?_cons_succ, beq_self_eq_true, selV]
    by_cases hs : spanIn c i
    · rw [show decide ((spanOf c i).2.1 ≤ (spanOf c i).1 ∧ (spanOf c i).1 ≤ (spanOf c i).2.2) = true from decide_eq_true hs]
      simp only [Bool.not_true, ifB_false]
      rw [wrap_i64 (by unfold i64; omega)]
      exact hK _ _ hi9 ⟨by simp, g', fun j hj => by
        rcases Nat.lt_or_ge j i with h | h
        · exact hin j h
        · have : j = i := by omega
          exact this ▸ hs⟩
    · rw [show decide ((spanOf c i).2.1 ≤ (spanOf c i).1 ∧ (spanOf c i).1 ≤ (spanOf c i).2.2) = false from decide_eq_false hs]
      simp only [Bool.not_false, ifB_true]
      have := hQ _ g'
      rw [decide_eq_false (fun h => hs ((num_iff c).1 h i hi9))] at this; exact this
  · have := hQ _ g
    rw [decide_eq_true ((num_iff c).2 fun j hj => hin j (by omega))] at this; exact this

/-! ### The levels are yielded -/

theorem c_conf_each_1 {a : Nat} {fv : Value} {c : Cfg} (hc : c.num) (I : Nat → Heap → Prop) (h0 : I 0 H) (hG : ∀ i H H', I i H → G H H' → I i H') (hbx : ∀ i H, I i H → Bx H a (cCfg c))
    (hy : ∀ i H l K, c.all[i]? = some l → I i H → (∀ H', I (i + 1) H' → K (.bool true) H') → callV Tryd.prog fv [.agg (cLvl l).toArray] H K)
    (hQ : ∀ H', I c.all.length H' → Q (.tuple #[]) H') : callV Tryd.prog (.func (.func fn_conf_each_1) #[] #[.pointer (some ⟨a, 0, none⟩)]) [fv] H Q := by
  apply C_conf_each_1_of
  unfold S_conf_each_1
  have hb := hbx _ _ h0
  refine hb.load rfl ?_
  try simp only [sv_cons, sv_cons1, sc_cons, sc_cons1, asB_bool, ifB_true, ifB_false, un_not, bin_lss, bin_leq, bin_gtr, bin_geq, bin_eql, bin_neq, bin_add, bin_sub, bin_mul, ok_int, ok_bool, ok_slice, ok_str, ok_ptr, ok_map, ok_func, ok_iface, ok_nil, List.all_cons, List.all_nil, Bool.and_true, Bool.true_and, seg, setSeg, List.drop_succ_cons, List.drop_zero, List.take_succ_cons, List.take_zero, List.cons_append, List.nil_append, List.append_nil, List.length_cons, List.length_nil, List.drop_nil, List.size_toArray, Nat.reduceAdd, Nat.reduceLeDiff, Nat.reduceBEq, Nat.zero_add, Nat.le_refl, decide_true, mkV, List.headD_cons, cellsV, w_fldV, w_ext, w_fldP, List.getElem?_toArray, List.getElem?_cons_zero, List.getElem?_cons_succ, beq_self_eq_true, selV]
  refine hb.loadF (by simp) ?_
  refine hb.loadF (by simp) ?_
  try simp only [sv_cons, sv_cons1, sc_cons, sc_cons1, asB_bool, ifB_true, ifB_false, un_not, bin_lss, bin_leq, bin_gtr, bin_geq, bin_eql, bin_neq, bin_add, bin_sub, bin_mul, ok_int, ok_bool, ok_slice, ok_str, ok_ptr, ok_map, ok_func, ok_iface, ok_nil, List.all_cons, List.all_nil, Bool.and_true, Bool.true_and, seg, setSeg, List.drop_succ_cons, List.drop_zero, List.take_succ_cons, List.take_zero, List.cons_append, List.nil_append, List.append_nil, List.length_cons, List.length_nil, List.drop_nil, List.size_toArray, Nat.reduceAdd, Nat.reduceLeDiff, Nat.reduceBEq, Nat.zero_add, Nat.le_refl, decide_true, mkV, List.headD_cons, cellsV, w_fldV, w_ext, w_fldP, List.getElem?_toArray, List.getElem?_cons_zero, List.getElem?_cons_succ, beq_self_eq_true, selV]
  have hfan := hc.2.2.1
  have htop := hc.2.2.2.2.2.2.2.2
  refine c_conf_level hc hc.1 hc.2.1 fun H1 g1 => newT_of fun H2 g2 _ => ?_
  try simp only [sv_cons, sv_cons1, sc_cons, sc_cons1, asB_bool, ifB_true, ifB_false, un_not, bin_lss, bin_leq, bin_gtr, bin_geq, bin_eql, bin_neq, bin_add, bin_sub, bin_mul, ok_int, ok_bool, ok_slice, ok_str, ok_ptr, ok_map, ok_func, ok_iface, ok_nil, List.all_cons, List.all_nil, Bool.and_true, Bool.true_and, seg, setSeg, List.drop_succ_cons, List.drop_zero, List.take_succ_cons, List.take_zero, List.cons_append, List.nil_append, List.append_nil, List.length_cons, List.length_nil, List.drop_nil, List.size_toArray, Nat.reduceAdd, Nat.reduceLeDiff, Nat.reduceBEq, Nat.zero_add, Nat.le_refl, decide_true, mkV, List.headD_cons, cellsV, w_fldV, w_ext, w_fldP, List.getElem?_toArray, List.getElem?_cons_zero, List.getElem?_cons_succ, beq_self_eq_true, selV]
  refine loop_up 64 (fun i s H' => I i H' ∧ ∃ n size : Int, (1 ≤ n ∧ n ≤ 64) ∧ (1 ≤ size ∧ size ≤ 32) ∧ c.all.drop i = c.allF 64 n size ∧ s = [cLvl (c.level n size)])
    ⟨hG _ _ _ h0 (g1.trans g2), c.pages, c.size, hc.1, hc.2.1, rfl, rfl⟩ ?_
  rintro i s H' K hi ⟨hI, n, size, hn, hs, hd, rfl⟩ hK
  have hstep := Cfg.allF_step hc (size := size) hn.1 hn.2
  rw [hstep] at hd
  have hget : c.all[i]? = some (c.level n size) := by
    have := List.getElem?_drop (xs := c.all) (i := i) (j := 0)
    rw [hd] at this; simpa using this.symm
  have hlt := (List.getElem?_eq_some_iff.1 hget).1
  have hlen := c.all_len
  have hd1 : c.all.drop (i + 1) = if n ≤ c.top then [] else c.allF 64 ((n + c.fan - 1).tdiv c.fan) (4 * c.fan) := by
    rw [← List.drop_drop, hd]; rfl
  refine join_of (fun s H'' => I (i + 1) H'' ∧ s = [[.bool (decide (n > c.top))]]) (fun K' hK' => ?_) ?_
  · try simp only [sv_cons, sv_cons1, sc_cons, sc_cons1, asB_bool, ifB_true, ifB_false, un_not, bin_lss, bin_leq, bin_gtr, bin_geq, bin_eql, bin_neq, bin_add, bin_sub, bin_mul, ok_int, ok_bool, ok_slice, ok_str, ok_ptr, ok_map, ok_func, ok_iface, ok_nil, List.all_cons, List.all_nil, Bool.and_true, Bool.true_and, seg, setSeg, List.drop_succ_cons, List.drop_zero, List.take_succ_cons, List.take_zero, List.cons_append, List.nil_append, List.append_nil, List.length_cons, List.length_nil, List.drop_nil, List.size_toArray, Nat.reduceAdd, Nat.reduceLeDiff, Nat.reduceBEq, Nat.zero_add, Nat.le_refl, decide_true, mkV, List.headD_cons, cellsV, w_fldV, w_ext, w_fldP, List.getElem?_toArray, List.getElem?_cons_zero, List.getElem?_cons_succ, beq_self_eq_true, selV]
    refine hy i H' _ _ hget hI fun H3 h3 => ?_
    try simp only [sv_cons, sv_cons1, sc_cons, sc_cons1, asB_bool, ifB_true, ifB_false, un_not, bin_lss, bin_leq, bin_gtr, bin_geq, bin_eql, bin_neq, bin_add, bin_sub, bin_mul, ok_int, ok_bool, ok_slice, ok_str, ok_ptr, ok_map, ok_func, ok_iface, ok_nil, List.all_cons, List.all_nil, Bool.and_true, Bool.true_and, seg, setSeg, List.drop_succ_cons, List.drop_zero, List.take_succ_cons, List.take_zero, List.cons_append, List.nil_append, List.append_nil, List.length_cons, List.length_nil, List.drop_nil, List.size_toArray, Nat.reduceAdd, Nat.reduceLeDiff, Nat.reduceBEq, Nat.zero_add, Nat.le_refl, decide_true, mkV, List.headD_cons, cellsV, w_fldV, w_ext, w_fldP, List.getElem?_toArray, List.getElem?_cons_zero, List.getElem?_cons_succ, beq_self_eq_true, selV]
    refine (hbx _ _ h3).loadF (by simp) ?_
    try simp only [sv_cons, sv_cons1, sc_cons, sc_cons1, asB_bool, ifB_true, ifB_false, un_not, bin_lss, bin_leq, bin_gtr, bin_geq, bin_eql, bin_neq, bin_add, bin_sub, bin_mul, ok_int, ok_bool, ok_slice, ok_str, ok_ptr, ok_map, ok_func, ok_iface, ok_nil, List.all_cons, List.all_nil, Bool.and_true, Bool.true_and, seg, setSeg, List.drop_succ_cons, List.drop_zero, List.take_succ_cons, List.take_zero, List.cons_append, List.nil_append, List.append_nil, List.length_cons, List.length_nil, List.drop_nil, List.size_toArray, Nat.reduceAdd, Nat.reduceLeDiff, Nat.reduceBEq, Nat.zero_add, Nat.le_refl, decide_true, mkV, List.headD_cons, cellsV, w_fldV, w_ext, w_fldP, List.getElem?_toArray, List.getElem?_cons_zero, List.getElem?_cons_succ, beq_self_eq_true, selV]
    exact hK' _ _ ⟨h3, rfl⟩
  · rintro s H'' ⟨h3, rfl⟩
    have hb3 := hbx _ _ h3
    try simp only [sv_cons, sv_cons1, sc_cons, sc_cons1, asB_bool, ifB_true, ifB_false, un_not, bin_lss, bin_leq, bin_gtr, bin_geq, bin_eql, bin_neq, bin_add, bin_sub, bin_mul, ok_int, ok_bool, ok_slice, ok_str, ok_ptr, ok_map, ok_func, ok_iface, ok_nil, List.all_cons, List.all_nil, Bool.and_true, Bool.true_and, seg, setSeg, List.drop_succ_cons, List.drop_zero, List.take_succ_cons, List.take_zero, List.cons_append, List.nil_append, List.append_nil, List.length_cons, List.length_nil, List.drop_nil, List.size_toArray, Nat.reduceAdd, Nat.reduceLeDiff, Nat.reduceBEq, Nat.zero_add, Nat.le_refl, decide_true, mkV, List.headD_cons, cellsV, w_fldV, w_ext, w_fldP, List.getElem?_toArray, List.getElem?_cons_zero, List.getElem?_cons_succ, beq_self_eq_true, selV]
    refine ifD_of (fun h1 => ?_) (fun h1 => ?_)
    · rw [if_neg (by omega)] at hd1
      have hnx := next_le (n := n) hfan.1 hn.1
      refine hb3.load rfl ?_
      refine hb3.loadF (by simp) ?_
      try simp only [sv_cons, sv_cons1, sc_cons, sc_cons1, asB_bool, ifB_true, ifB_false, un_not, bin_lss, bin_leq, bin_gtr, bin_geq, bin_eql, bin_neq, bin_add, bin_sub, bin_mul, ok_int, ok_bool, ok_slice, ok_str, ok_ptr, ok_map, ok_func, ok_iface, ok_nil, List.all_cons, List.all_nil, Bool.and_true, Bool.true_and, seg, setSeg, List.drop_succ_cons, List.drop_zero, List.take_succ_cons, List.take_zero, List.cons_append, List.nil_append, List.append_nil, List.length_cons, List.length_nil, List.drop_nil, List.size_toArray, Nat.reduceAdd, Nat.reduceLeDiff, Nat.reduceBEq, Nat.zero_add, Nat.le_refl, decide_true, mkV, List.headD_cons, cellsV, w_fldV, w_ext, w_fldP, List.getElem?_toArray, List.getElem?_cons_zero, List.getElem?_cons_succ, beq_self_eq_true, selV]
      refine hb3.loadF (by simp) ?_
      try simp only [sv_cons, sv_cons1, sc_cons, sc_cons1, asB_bool, ifB_true, ifB_false, un_not, bin_lss, bin_leq, bin_gtr, bin_geq, bin_eql, bin_neq, bin_add, bin_sub, bin_mul, ok_int, ok_bool, ok_slice, ok_str, ok_ptr, ok_map, ok_func, ok_iface, ok_nil, List.all_cons, List.all_nil, Bool.and_true, Bool.true_and, seg, setSeg, List.drop_succ_cons, List.drop_zero, List.take_succ_cons, List.take_zero, List.cons_append, List.nil_append, List.append_nil, List.length_cons, List.length_nil, List.drop_nil, List.size_toArray, Nat.reduceAdd, Nat.reduceLeDiff, Nat.reduceBEq, Nat.zero_add, Nat.le_refl, decide_true, mkV, List.headD_cons, cellsV, w_fldV, w_ext, w_fldP, List.getElem?_toArray, List.getElem?_cons_zero, List.getElem?_cons_succ, beq_self_eq_true, selV]
      have e1 : (c.level n size).blocks = n := rfl
      rw [e1, wrap_i64 (x := n + c.fan) (by unfold i64; omega), wrap_i64 (x := n + c.fan - 1) (by unfold i64; omega)]
      refine w_quo (by omega) ?_
      rw [wrap_i64 (by unfold i64; omega)]
      refine hb3.loadF (by simp) ?_
      try simp only [sv_cons, sv_cons1, sc_cons, sc_cons1, asB_bool, ifB_true, ifB_false, un_not, bin_lss, bin_leq, bin_gtr, bin_geq, bin_eql, bin_neq, bin_add, bin_sub, bin_mul, ok_int, ok_bool, ok_slice, ok_str, ok_ptr, ok_map, ok_func, ok_iface, ok_nil, List.all_cons, List.all_nil, Bool.and_true, Bool.true_and, seg, setSeg, List.drop_succ_cons, List.drop_zero, List.take_succ_cons, List.take_zero, List.cons_append, List.nil_append, List.append_nil, List.length_cons, List.length_nil, List.drop_nil, List.size_toArray, Nat.reduceAdd, Nat.reduceLeDiff, Nat.reduceBEq, Nat.zero_add, Nat.le_refl, decide_true, mkV, List.headD_cons, cellsV, w_fldV, w_ext, w_fldP, List.getElem?_toArray, List.getElem?_cons_zero, List.getElem?_cons_succ, beq_self_eq_true, selV]
      rw [wrap_i64 (by unfold i64; omega)]
      refine c_conf_level hc ⟨hnx.1, by omega⟩ ⟨by omega, by omega⟩ fun H4 g4 => ?_
      have hb4 := hb3.g g4
      refine ⟨hb4.loadF (by simp) rfl, hb4.loadF (by simp) rfl, hb4.loadF (by simp) rfl, ?_⟩
      try simp only [sv_cons, sv_cons1, sc_cons, sc_cons1, asB_bool, ifB_true, ifB_false, un_not, bin_lss, bin_leq, bin_gtr, bin_geq, bin_eql, bin_neq, bin_add, bin_sub, bin_mul, ok_int, ok_bool, ok_slice, ok_str, ok_ptr, ok_map, ok_func, ok_iface, ok_nil, List.all_cons, List.all_nil, Bool.and_true, Bool.true_and, seg, setSeg, List.drop_succ_cons, List.drop_zero, List.take_succ_cons, List.take_zero, List.cons_append, List.nil_append, List.append_nil, List.length_cons, List.length_nil, List.drop_nil, List.size_toArray, Nat.reduceAdd, Nat.reduceLeDiff, Nat.reduceBEq, Nat.zero_add, Nat.le_refl, decide_true, mkV, List.headD_cons, cellsV, w_fldV, w_ext, w_fldP, List.getElem?_toArray, List.getElem?_cons_zero, List.getElem?_cons_succ, beq_self_eq_true, selV]
      exact hK _ _ (by omega) ⟨hG _ _ _ h3 g4, _, _, ⟨hnx.1, by omega⟩, ⟨by omega, by omega⟩, hd1, rfl⟩
    · rw [if_pos (by omega)] at hd1
      have : c.all.length = i + 1 := by
        have := List.drop_eq_nil_iff.1 hd1; omega
      rw [this] at hQ
      exact hQ _ h3

theorem c_conf_each {c : Cfg} (hQ : ∀ H', Bx H' H.size (cCfg c) → G H H' → H'.size = H.size + 1 → Q (.func (.func fn_conf_each_1) #[] #[.pointer (some ⟨H.size, 0, none⟩)]) H') : callV Tryd.prog (fnV fn_conf_each) [.agg (cCfg c).toArray] H Q := by
  apply S_conf_each_of
  unfold S_conf_each
  exact newC_bx fun H1 hb g1 hs => hQ _ hb g1 hs

/-- What 'Levels' answers. -/
abbrev tup2 (a b : Value) : Value := .tuple #[a, b]
abbrev tup3 (a b c : Value) : Value := .tuple #[a, b, c]

theorem c_conf_Levels {c : Cfg} (hQ : ∀ v H', Sl rLvl H' (fun y => H.size ≤ y) v c.levels → G H H' → Q (tup2 v (.int .i64 c.err)) H') : callV Tryd.prog (fnV fn_conf_Levels) [.agg (cCfg c).toArray] H Q := by
  apply S_conf_Levels_of
  unfold S_conf_Levels
  have bad : ∀ H', ¬ c.may → G H H' → Q (tup2 (.slice none 0 0) (.int .i64 8)) H' := fun H' hm g => by
    have := hQ (.slice none 0 0) H' (by rw [Cfg.levels, if_neg hm]; exact Sl.nil _ _ _ _ _) g
    rw [Cfg.err, if_neg hm] at this; exact this
  refine newC_bx fun H1 hb1 g1 s1 => newC_bx fun H2 hb2 g2 s2 => ?_
  refine (hb1.g g2).load rfl ?_
  try simp only [sv_cons, sv_cons1, sc_cons, sc_cons1, asB_bool, ifB_true, ifB_false, un_not, bin_lss, bin_leq, bin_gtr, bin_geq, bin_eql, bin_neq, bin_add, bin_sub, bin_mul, ok_int, ok_bool, ok_slice, ok_str, ok_ptr, ok_map, ok_func, ok_iface, ok_nil, List.all_cons, List.all_nil, Bool.and_true, Bool.true_and, seg, setSeg, List.drop_succ_cons, List.drop_zero, List.take_succ_cons, List.take_zero, List.cons_append, List.nil_append, List.append_nil, List.length_cons, List.length_nil, List.drop_nil, List.size_toArray, Nat.reduceAdd, Nat.reduceLeDiff, Nat.reduceBEq, Nat.zero_add, Nat.le_refl, decide_true, mkV, List.headD_cons, cellsV, w_fldV, w_ext, w_fldP, List.getElem?_toArray, List.getElem?_cons_zero, List.getElem?_cons_succ, beq_self_eq_true, selV]
  refine c_conf_numbers fun H3 g3 => ?_
  try simp only [sv_cons, sv_cons1, sc_cons, sc_cons1, asB_bool, ifB_true, ifB_false, un_not, bin_lss, bin_leq, bin_gtr, bin_geq, bin_eql, bin_neq, bin_add, bin_sub, bin_mul, ok_int, ok_bool, ok_slice, ok_str, ok_ptr, ok_map, ok_func, ok_iface, ok_nil, List.all_cons, List.all_nil, Bool.and_true, Bool.true_and, seg, setSeg, List.drop_succ_cons, List.drop_zero, List.take_succ_cons, List.take_zero, List.cons_append, List.nil_append, List.append_nil, List.length_cons, List.length_nil, List.drop_nil, List.size_toArray, Nat.reduceAdd, Nat.reduceLeDiff, Nat.reduceBEq, Nat.zero_add, Nat.le_refl, decide_true, mkV, List.headD_cons, cellsV, w_fldV, w_ext, w_fldP, List.getElem?_toArray, List.getElem?_cons_zero, List.getElem?_cons_succ, beq_self_eq_true, selV]
  have hb2 := hb2.g g3
  have hb1 := (hb1.g g2).g g3
  have g : G H H3 := (g1.trans g2).trans g3
  by_cases hnum : c.num
  · rw [decide_eq_true hnum]
    simp only [Bool.not_true, ifB_false]
    refine hb1.load rfl ?_
    try simp only [sv_cons, sv_cons1, sc_cons, sc_cons1, asB_bool, ifB_true, ifB_false, un_not, bin_lss, bin_leq, bin_gtr, bin_geq, bin_eql, bin_neq, bin_add, bin_sub, bin_mul, ok_int, ok_bool, ok_slice, ok_str, ok_ptr, ok_map, ok_func, ok_iface, ok_nil, List.all_cons, List.all_nil, Bool.and_true, Bool.true_and, seg, setSeg, List.drop_succ_cons, List.drop_zero, List.take_succ_cons, List.take_zero, List.cons_append, List.nil_append, List.append_nil, List.length_cons, List.length_nil, List.drop_nil, List.size_toArray, Nat.reduceAdd, Nat.reduceLeDiff, Nat.reduceBEq, Nat.zero_add, Nat.le_refl, decide_true, mkV, List.headD_cons, cellsV, w_fldV, w_ext, w_fldP, List.getElem?_toArray, List.getElem?_cons_zero, List.getElem?_cons_succ, beq_self_eq_true, selV]
    refine c_conf_each fun H4 hb4 g4 s4 => ?_
    refine ⟨trivial, fun o ho hround => ?_⟩
    have hL := push2_at H4 tomb (o none)
    have gL := push2_g H4 tomb (o none)
    have hsz : ((H4.push tomb).push (o none)).size = H4.size + 2 := by simp
    have m1 := g.size
    have m2 := hb2.lt
    generalize (H4.push tomb).push (o none) = H5 at hL gL hsz ⊢
    refine c_conf_each_1 hnum (fun i H' => ∃ v b, Bx H' H1.size [v] ∧ Ow rLvl H' b (fun _ => False) v (c.all.take i) ∧ H'[H4.size + 1]? = some (o none) ∧ G H H' ∧ Bx H' H3.size (cCfg c) ∧ (b = 0 ∨ H4.size + 2 < b))
      ⟨.slice none 0 0, 0, (hb2.g g4).g gL, by simpa using Ow.nil rLvl H5 _, hL, (g.trans g4).trans gL, hb4.g gL, .inl rfl⟩ ?_ ?_ ?_ ?_
    · rintro i Ha Hb ⟨v, b, h1, h2, h3, h4, h5, h6⟩ gab
      exact ⟨v, b, h1.g gab, h2.g gab, fr_at h3 gab trivial, h4.trans gab, h5.g gab, h6⟩
    · rintro i Ha ⟨v, b, h1, h2, h3, h4, h5, h6⟩; exact h5
    · rintro i Ha l K hl ⟨v, b, h1, h2, h3, h4, h5, h6⟩ hK
      refine hround _ Ha K h3 ?_
      have hlt := (Array.getElem?_eq_some_iff.1 h3).1
      have f0 := set_fr Ha (H4.size + 1) tomb
      have z0 : (Ha.setIfInBounds (H4.size + 1) tomb).size = Ha.size := by simp
      generalize Ha.setIfInBounds (H4.size + 1) tomb = Hb at f0 z0 ⊢
      have h1 := h1.up f0 (show H1.size ≠ H4.size + 1 by omega)
      have h2 := h2.upF f0 fun k hk => show k ≠ H4.size + 1 by omega
      have h5 := h5.up f0 (show H3.size ≠ H4.size + 1 by omega)
      have hlok : l.ok := Cfg.all_ok hnum l (List.mem_of_getElem? hl)
      simp only [arg1]
      refine newC_bx fun Hc hc gc sc => hc.storeA rfl rfl rfl fun Hd hd fd sd => ?_
      have gcd : G Hb Hd := gc.then fd fun x hx => by omega
      refine (h1.g gcd).load rfl (hd.load rfl ?_)
      try simp only [sv_cons, sv_cons1, sc_cons, sc_cons1, asB_bool, ifB_true, ifB_false, un_not, bin_lss, bin_leq, bin_gtr, bin_geq, bin_eql, bin_neq, bin_add, bin_sub, bin_mul, ok_int, ok_bool, ok_slice, ok_str, ok_ptr, ok_map, ok_func, ok_iface, ok_nil, List.all_cons, List.all_nil, Bool.and_true, Bool.true_and, seg, setSeg, List.drop_succ_cons, List.drop_zero, List.take_succ_cons, List.take_zero, List.cons_append, List.nil_append, List.append_nil, List.length_cons, List.length_nil, List.drop_nil, List.size_toArray, Nat.reduceAdd, Nat.reduceLeDiff, Nat.reduceBEq, Nat.zero_add, Nat.le_refl, decide_true, mkV, List.headD_cons, cellsV, w_fldV, w_ext, w_fldP, List.getElem?_toArray, List.getElem?_cons_zero, List.getElem?_cons_succ, beq_self_eq_true, selV]
      have hlen : i < c.all.length := (List.getElem?_eq_some_iff.1 hl).1
      have hlen2 := c.all_len
      have hbl := h2.lt
      have htk : (c.all.take i).length = i := by rw [List.length_take]; omega
      refine (h2.g gcd).push (R := rLvl) (x := l) (A' := fun _ => False) ⟨cLvl l, rfl, rfl, hlok⟩ rfl (by omega) (by intro h; cases h) rfl rfl (fun y hy _ => by simp at hy) (by rw [htk]; omega) (by rw [htk]; omega)
        fun u He b' ho' fe hb' _ => ?_
      have h1e := (h1.g gcd).up fe (show H1.size + 1 ≠ b by omega)
      refine h1e.store ho'.okcv fun Hf hf ff sf => ?_
      have hs1 := gcd.size
      have hs2 := fe.size
      have f6 := set_fr Hf (H4.size + 1) (o none)
      refine hK _ ⟨u, b', hf.up f6 (show H1.size ≠ H4.size + 1 by omega), ?_, set_at _ (by omega), ?_, ?_, by omega⟩
      · have ho' := ho'.mono (A' := fun _ => False) fun x hx _ => by simp at hx
        have := (ho'.upF ff fun k hk => show k ≠ H1.size by omega).upF f6 fun k hk => show k ≠ H4.size + 1 by omega
        rw [List.take_add_one, hl]
        exact this
      · refine (((h4.then f0 fun x hx => show x ≠ H4.size + 1 by omega).trans gcd).then fe fun x hx => show x + 1 ≠ b by omega).then ff (fun x hx => show x ≠ H1.size by omega) |>.then f6 fun x hx => show x ≠ H4.size + 1 by omega
      · exact (((h5.g gcd).up fe (show H3.size + 1 ≠ b by omega)).up ff (show H3.size ≠ H1.size by omega)).up f6 (show H3.size ≠ H4.size + 1 by omega)
    · rintro Ha ⟨v, b, h1, h2, h3, h4, h5, h6⟩
      refine .inl ⟨h3, ?_⟩
      have hlt := (Array.getElem?_eq_some_iff.1 h3).1
      have f0 := set_fr Ha (H4.size + 1) tomb
      have z0 : (Ha.setIfInBounds (H4.size + 1) tomb).size = Ha.size := by simp
      generalize Ha.setIfInBounds (H4.size + 1) tomb = Hb at f0 z0 ⊢
      have h1 := h1.up f0 (show H1.size ≠ H4.size + 1 by omega)
      have h2 := h2.upF f0 fun k hk => show k ≠ H4.size + 1 by omega
      have h4 := h4.then f0 fun x hx => show x ≠ H4.size + 1 by omega
      rw [List.take_length] at h2
      refine h1.load rfl (h2.len ?_)
      try simp only [sv_cons, sv_cons1, sc_cons, sc_cons1, asB_bool, ifB_true, ifB_false, un_not, bin_lss, bin_leq, bin_gtr, bin_geq, bin_eql, bin_neq, bin_add, bin_sub, bin_mul, ok_int, ok_bool, ok_slice, ok_str, ok_ptr, ok_map, ok_func, ok_iface, ok_nil, List.all_cons, List.all_nil, Bool.and_true, Bool.true_and, seg, setSeg, List.drop_succ_cons, List.drop_zero, List.take_succ_cons, List.take_zero, List.cons_append, List.nil_append, List.append_nil, List.length_cons, List.length_nil, List.drop_nil, List.size_toArray, Nat.reduceAdd, Nat.reduceLeDiff, Nat.reduceBEq, Nat.zero_add, Nat.le_refl, decide_true, mkV, List.headD_cons, cellsV, w_fldV, w_ext, w_fldP, List.getElem?_toArray, List.getElem?_cons_zero, List.getElem?_cons_succ, beq_self_eq_true, selV]
      refine ifD_of (fun hbig => ?_) (fun hsm => ?_)
      · refine h1.store rfl fun Hc hc fc sc => hc.load rfl ?_
        try simp only [sv_cons, sv_cons1, sc_cons, sc_cons1, asB_bool, ifB_true, ifB_false, un_not, bin_lss, bin_leq, bin_gtr, bin_geq, bin_eql, bin_neq, bin_add, bin_sub, bin_mul, ok_int, ok_bool, ok_slice, ok_str, ok_ptr, ok_map, ok_func, ok_iface, ok_nil, List.all_cons, List.all_nil, Bool.and_true, Bool.true_and, seg, setSeg, List.drop_succ_cons, List.drop_zero, List.take_succ_cons, List.take_zero, List.cons_append, List.nil_append, List.append_nil, List.length_cons, List.length_nil, List.drop_nil, List.size_toArray, Nat.reduceAdd, Nat.reduceLeDiff, Nat.reduceBEq, Nat.zero_add, Nat.le_refl, decide_true, mkV, List.headD_cons, cellsV, w_fldV, w_ext, w_fldP, List.getElem?_toArray, List.getElem?_cons_zero, List.getElem?_cons_succ, beq_self_eq_true, selV]
        exact bad _ (fun h => by have := h.2; omega) (h4.then fc fun x hx => by omega)
      · have hmay : c.may := ⟨hnum, by omega⟩
        refine h1.load rfl ?_
        try simp only [sv_cons, sv_cons1, sc_cons, sc_cons1, asB_bool, ifB_true, ifB_false, un_not, bin_lss, bin_leq, bin_gtr, bin_geq, bin_eql, bin_neq, bin_add, bin_sub, bin_mul, ok_int, ok_bool, ok_slice, ok_str, ok_ptr, ok_map, ok_func, ok_iface, ok_nil, List.all_cons, List.all_nil, Bool.and_true, Bool.true_and, seg, setSeg, List.drop_succ_cons, List.drop_zero, List.take_succ_cons, List.take_zero, List.cons_append, List.nil_append, List.append_nil, List.length_cons, List.length_nil, List.drop_nil, List.size_toArray, Nat.reduceAdd, Nat.reduceLeDiff, Nat.reduceBEq, Nat.zero_add, Nat.le_refl, decide_true, mkV, List.headD_cons, cellsV, w_fldV, w_ext, w_fldP, List.getElem?_toArray, List.getElem?_cons_zero, List.getElem?_cons_succ, beq_self_eq_true, selV]
        refine h1.store h2.okcv fun Hc hc fc sc => hc.load rfl ?_
        try simp only [sv_cons, sv_cons1, sc_cons, sc_cons1, asB_bool, ifB_true, ifB_false, un_not, bin_lss, bin_leq, bin_gtr, bin_geq, bin_eql, bin_neq, bin_add, bin_sub, bin_mul, ok_int, ok_bool, ok_slice, ok_str, ok_ptr, ok_map, ok_func, ok_iface, ok_nil, List.all_cons, List.all_nil, Bool.and_true, Bool.true_and, seg, setSeg, List.drop_succ_cons, List.drop_zero, List.take_succ_cons, List.take_zero, List.cons_append, List.nil_append, List.append_nil, List.length_cons, List.length_nil, List.drop_nil, List.size_toArray, Nat.reduceAdd, Nat.reduceLeDiff, Nat.reduceBEq, Nat.zero_add, Nat.le_refl, decide_true, mkV, List.headD_cons, cellsV, w_fldV, w_ext, w_fldP, List.getElem?_toArray, List.getElem?_cons_zero, List.getElem?_cons_succ, beq_self_eq_true, selV]
        have := hQ v Hc (by
          rw [Cfg.levels, if_pos hmay]
          exact (h2.upF fc fun k hk => show k ≠ H1.size by omega).slF fun k hk => show H.size ≤ k by omega) (h4.then fc fun x hx => by omega)
        rw [Cfg.err, if_pos hmay] at this
        exact this
  · rw [decide_eq_false hnum]
    simp only [Bool.not_false, ifB_true]
    refine hb2.store rfl fun H4 hb4 f4 s4 => hb4.load rfl ?_
    try simp only [sv_cons, sv_cons1, sc_cons, sc_cons1, asB_bool, ifB_true, ifB_false, un_not, bin_lss, bin_leq, bin_gtr, bin_geq, bin_eql, bin_neq, bin_add, bin_sub, bin_mul, ok_int, ok_bool, ok_slice, ok_str, ok_ptr, ok_map, ok_func, ok_iface, ok_nil, List.all_cons, List.all_nil, Bool.and_true, Bool.true_and, seg, setSeg, List.drop_succ_cons, List.drop_zero, List.take_succ_cons, List.take_zero, List.cons_append, List.nil_append, List.append_nil, List.length_cons, List.length_nil, List.drop_nil, List.size_toArray, Nat.reduceAdd, Nat.reduceLeDiff, Nat.reduceBEq, Nat.zero_add, Nat.le_refl, decide_true, mkV, List.headD_cons, cellsV, w_fldV, w_ext, w_fldP, List.getElem?_toArray, List.getElem?_cons_zero, List.getElem?_cons_succ, beq_self_eq_true, selV]
    exact bad _ (fun h => hnum h.1) (g.then f4 fun x hx => by omega)

end Go.Proofs.YtlmpjhbfgakgdaaDoor
