/- Contracts: the document's answer for canonical traces: counts, lanes, and where texts are written. -/
import Derived.Test.YtlalkgkicccjiaaConCanon5
namespace Go.Proofs.Ytlalkgkicccjiaa
open Go.Ab Go.Md
set_option linter.unusedVariables false
set_option linter.unusedSimpArgs false
set_option maxRecDepth 20000

variable {H : Heap} {Q : Value → Heap → Prop} {A B C : Nat → Prop}

/-! ### Counts -/

theorem c_ref08_Counts {c : Cfg} (hc : c.may) (hQ : ∀ H', G H H' → Q (tup2 (.int .i64 (firstI c.all)) (.int .i64 (tickI c.all))) H') : callV Try.prog (fnV fn_ref08_Counts) [.agg (cCfg c).toArray] H Q := by
  apply S_ref08_Counts_of
  unfold S_ref08_Counts
  refine newT_of fun H1 g1 s1 => c_ref08_All hc.1 fun v H2 hv g2 => ?_
  have hok := lvl_ok hv
  have hlen := c.all_len
  refine loop_up c.all.length (fun i st H' => H' = H2 ∧ st = [[.int .i64 (firstI (c.all.take i))], [.int .i64 (tickI (c.all.take i))], [.int .i64 (i : Int)]]) ⟨rfl, by simp [firstI, tickI]⟩ ?_
  rintro i st H' K hi ⟨rfl, rfl⟩ hK
  refine hv.len ?_
  try simp only [sv_cons, sv_cons1, sc_cons, sc_cons1, asB_bool, ifB_true, ifB_false, un_not, bin_lss, bin_leq, bin_gtr, bin_geq, bin_eql, bin_neq, bin_add, bin_sub, bin_mul, ok_int, ok_bool, ok_slice, ok_str, ok_ptr, ok_map, ok_func, ok_iface, ok_nil, List.all_cons, List.all_nil, Bool.and_true, Bool.true_and, seg, setSeg, List.drop_succ_cons, List.drop_zero, List.take_succ_cons, List.take_zero, List.cons_append, List.nil_append, List.append_nil, List.length_cons, List.length_nil, List.drop_nil, List.size_toArray, Nat.reduceAdd, Nat.reduceLeDiff, Nat.reduceBEq, Nat.zero_add, Nat.le_refl, decide_true, mkV, List.headD_cons, cellsV, w_fldV, w_ext, w_fldP, List.getElem?_toArray, List.getElem?_cons_zero, List.getElem?_cons_succ, beq_self_eq_true, selV]
  refine ifD_of (fun c1 => ?_) (fun c1 => ?_)
  · have hlt : i < c.all.length := by omega
    have hx : c.all[i]? = some c.all[i] := List.getElem?_eq_getElem hlt
    have ho := hok _ (List.getElem_mem hlt)
    have tk : c.all.take (i + 1) = c.all.take i ++ [c.all[i]] := List.take_succ_eq_append_getElem hlt
    have hb := first_bound (l := c.all.take i) fun x hx => hok x (List.mem_of_mem_take hx)
    have htl : (c.all.take i).length = i := by rw [List.length_take]; omega
    generalize c.all[i] = x at *
    obtain ⟨_, _, _, _, o1, o2, _, _⟩ := id ho
    have hm := many_bound o1 o2
    refine hv.at rfl hx fun p cs hp hr => ?_
    obtain ⟨rfl, _⟩ := hr
    refine hp.fld1 (by simp) fun p1 hp1 => hp1.load rfl ?_
    try simp only [sv_cons, sv_cons1, sc_cons, sc_cons1, asB_bool, ifB_true, ifB_false, un_not, bin_lss, bin_leq, bin_gtr, bin_geq, bin_eql, bin_neq, bin_add, bin_sub, bin_mul, ok_int, ok_bool, ok_slice, ok_str, ok_ptr, ok_map, ok_func, ok_iface, ok_nil, List.all_cons, List.all_nil, Bool.and_true, Bool.true_and, seg, setSeg, List.drop_succ_cons, List.drop_zero, List.take_succ_cons, List.take_zero, List.cons_append, List.nil_append, List.append_nil, List.length_cons, List.length_nil, List.drop_nil, List.size_toArray, Nat.reduceAdd, Nat.reduceLeDiff, Nat.reduceBEq, Nat.zero_add, Nat.le_refl, decide_true, mkV, List.headD_cons, cellsV, w_fldV, w_ext, w_fldP, List.getElem?_toArray, List.getElem?_cons_zero, List.getElem?_cons_succ, beq_self_eq_true, selV]
    refine c_ref07_Many (by omega) ?_
    try simp only [sv_cons, sv_cons1, sc_cons, sc_cons1, asB_bool, ifB_true, ifB_false, un_not, bin_lss, bin_leq, bin_gtr, bin_geq, bin_eql, bin_neq, bin_add, bin_sub, bin_mul, ok_int, ok_bool, ok_slice, ok_str, ok_ptr, ok_map, ok_func, ok_iface, ok_nil, List.all_cons, List.all_nil, Bool.and_true, Bool.true_and, seg, setSeg, List.drop_succ_cons, List.drop_zero, List.take_succ_cons, List.take_zero, List.cons_append, List.nil_append, List.append_nil, List.length_cons, List.length_nil, List.drop_nil, List.size_toArray, Nat.reduceAdd, Nat.reduceLeDiff, Nat.reduceBEq, Nat.zero_add, Nat.le_refl, decide_true, mkV, List.headD_cons, cellsV, w_fldV, w_ext, w_fldP, List.getElem?_toArray, List.getElem?_cons_zero, List.getElem?_cons_succ, beq_self_eq_true, selV]
    rw [wrap_i64 (x := 2 * many x.high) (by unfold i64; omega), wrap_i64 (x := firstI (c.all.take i) + 2 * many x.high) (by unfold i64; omega), wrap_i64 (x := firstI (c.all.take i) + 2 * many x.high - 1) (by unfold i64; omega)]
    refine hv.at rfl hx fun p cs hp hr => ?_
    obtain ⟨rfl, _⟩ := hr
    refine hp.fld1 (by simp) fun p1 hp1 => hp1.load rfl ?_
    try simp only [sv_cons, sv_cons1, sc_cons, sc_cons1, asB_bool, ifB_true, ifB_false, un_not, bin_lss, bin_leq, bin_gtr, bin_geq, bin_eql, bin_neq, bin_add, bin_sub, bin_mul, ok_int, ok_bool, ok_slice, ok_str, ok_ptr, ok_map, ok_func, ok_iface, ok_nil, List.all_cons, List.all_nil, Bool.and_true, Bool.true_and, seg, setSeg, List.drop_succ_cons, List.drop_zero, List.take_succ_cons, List.take_zero, List.cons_append, List.nil_append, List.append_nil, List.length_cons, List.length_nil, List.drop_nil, List.size_toArray, Nat.reduceAdd, Nat.reduceLeDiff, Nat.reduceBEq, Nat.zero_add, Nat.le_refl, decide_true, mkV, List.headD_cons, cellsV, w_fldV, w_ext, w_fldP, List.getElem?_toArray, List.getElem?_cons_zero, List.getElem?_cons_succ, beq_self_eq_true, selV]
    rw [wrap_i64 (x := x.high + 1) (by unfold i64; omega), wrap_i64 (x := 2 * (x.high + 1)) (by unfold i64; omega), wrap_i64 (x := tickI (c.all.take i) + 2 * (x.high + 1)) (by unfold i64; omega), wrap_i64 (x := (i : Int) + 1) (by unfold i64; omega)]
    refine hK _ _ hlt ⟨rfl, ?_⟩
    rw [tk, firstI_snoc, tickI_snoc, show firstI (c.all.take i) + 2 * many x.high - 1 = firstI (c.all.take i) + (2 * many x.high - 1) by omega]
    simp
  · rw [List.take_of_length_le (by omega)]
    exact hQ _ (g1.trans g2)

theorem c_ref22_Many {c : Cfg} {ticks : Int} (hc : c.may) (ht : 0 ≤ ticks ∧ ticks ≤ 512) (hQ : ∀ H', G H H' → Q (.int .i64 (firstI c.all + tickI c.all * ticks)) H') : callV Try.prog (fnV fn_ref22_Many) [.agg (cCfg c).toArray, .int .i64 ticks] H Q := by
  apply S_ref22_Many_of
  unfold S_ref22_Many
  refine newT_of fun H1 g1 s1 => c_ref08_Counts hc fun H2 g2 => ?_
  have hb := first_bound (Cfg.all_ok hc.1)
  have h4 := hc.2
  have h1 : 0 ≤ tickI c.all * ticks := Int.mul_nonneg hb.2.2.1 ht.1
  have h2 : tickI c.all * ticks ≤ 56 * 512 := Int.mul_le_mul (by omega) ht.2 ht.1 (by omega)
  try simp only [sv_cons, sv_cons1, sc_cons, sc_cons1, asB_bool, ifB_true, ifB_false, un_not, bin_lss, bin_leq, bin_gtr, bin_geq, bin_eql, bin_neq, bin_add, bin_sub, bin_mul, ok_int, ok_bool, ok_slice, ok_str, ok_ptr, ok_map, ok_func, ok_iface, ok_nil, List.all_cons, List.all_nil, Bool.and_true, Bool.true_and, seg, setSeg, List.drop_succ_cons, List.drop_zero, List.take_succ_cons, List.take_zero, List.cons_append, List.nil_append, List.append_nil, List.length_cons, List.length_nil, List.drop_nil, List.size_toArray, Nat.reduceAdd, Nat.reduceLeDiff, Nat.reduceBEq, Nat.zero_add, Nat.le_refl, decide_true, mkV, List.headD_cons, cellsV, w_fldV, w_ext, w_fldP, List.getElem?_toArray, List.getElem?_cons_zero, List.getElem?_cons_succ, beq_self_eq_true, selV]
  rw [wrap_i64 (x := tickI c.all * ticks) (by unfold i64; omega), wrap_i64 (by unfold i64; omega)]
  exact hQ _ (g1.trans g2)

theorem c_ref22_Count {c : Cfg} {ticks : Int} (hQ : ∀ H', G H H' → Q (tup2 (.int .i64 (cntV c ticks)) (.int .i64 (cntE c ticks))) H') : callV Try.prog (fnV fn_ref22_Count) [.agg (cCfg c).toArray, .int .i64 ticks] H Q := by
  apply S_ref22_Count_of
  unfold S_ref22_Count
  refine newT_of fun H1 g1 s1 => c_ref08_May fun H2 g2 => ?_
  have g := g1.trans g2
  try simp only [sv_cons, sv_cons1, sc_cons, sc_cons1, asB_bool, ifB_true, ifB_false, un_not, bin_lss, bin_leq, bin_gtr, bin_geq, bin_eql, bin_neq, bin_add, bin_sub, bin_mul, ok_int, ok_bool, ok_slice, ok_str, ok_ptr, ok_map, ok_func, ok_iface, ok_nil, List.all_cons, List.all_nil, Bool.and_true, Bool.true_and, seg, setSeg, List.drop_succ_cons, List.drop_zero, List.take_succ_cons, List.take_zero, List.cons_append, List.nil_append, List.append_nil, List.length_cons, List.length_nil, List.drop_nil, List.size_toArray, Nat.reduceAdd, Nat.reduceLeDiff, Nat.reduceBEq, Nat.zero_add, Nat.le_refl, decide_true, mkV, List.headD_cons, cellsV, w_fldV, w_ext, w_fldP, List.getElem?_toArray, List.getElem?_cons_zero, List.getElem?_cons_succ, beq_self_eq_true, selV]
  by_cases hm : c.may
  · rw [decide_eq_true hm]
    simp only [Bool.not_true, ifB_false]
    refine join_of (fun s H' => H' = H2 ∧ s = [[.bool (decide (ticks < 0 ∨ ticks > 512))]]) (fun K hK => ?_) ?_
    · try simp only [sv_cons, sv_cons1, sc_cons, sc_cons1, asB_bool, ifB_true, ifB_false, un_not, bin_lss, bin_leq, bin_gtr, bin_geq, bin_eql, bin_neq, bin_add, bin_sub, bin_mul, ok_int, ok_bool, ok_slice, ok_str, ok_ptr, ok_map, ok_func, ok_iface, ok_nil, List.all_cons, List.all_nil, Bool.and_true, Bool.true_and, seg, setSeg, List.drop_succ_cons, List.drop_zero, List.take_succ_cons, List.take_zero, List.cons_append, List.nil_append, List.append_nil, List.length_cons, List.length_nil, List.drop_nil, List.size_toArray, Nat.reduceAdd, Nat.reduceLeDiff, Nat.reduceBEq, Nat.zero_add, Nat.le_refl, decide_true, mkV, List.headD_cons, cellsV, w_fldV, w_ext, w_fldP, List.getElem?_toArray, List.getElem?_cons_zero, List.getElem?_cons_succ, beq_self_eq_true, selV]
      refine ifD_of (fun c1 => hK _ _ ⟨rfl, by rw [decide_eq_true (show ticks < 0 ∨ ticks > 512 from .inl c1)]⟩) (fun c1 => hK _ _ ⟨rfl, jb_d (by omega)⟩)
    · rintro s H' ⟨rfl, rfl⟩
      try simp only [sv_cons, sv_cons1, sc_cons, sc_cons1, asB_bool, ifB_true, ifB_false, un_not, bin_lss, bin_leq, bin_gtr, bin_geq, bin_eql, bin_neq, bin_add, bin_sub, bin_mul, ok_int, ok_bool, ok_slice, ok_str, ok_ptr, ok_map, ok_func, ok_iface, ok_nil, List.all_cons, List.all_nil, Bool.and_true, Bool.true_and, seg, setSeg, List.drop_succ_cons, List.drop_zero, List.take_succ_cons, List.take_zero, List.cons_append, List.nil_append, List.append_nil, List.length_cons, List.length_nil, List.drop_nil, List.size_toArray, Nat.reduceAdd, Nat.reduceLeDiff, Nat.reduceBEq, Nat.zero_add, Nat.le_refl, decide_true, mkV, List.headD_cons, cellsV, w_fldV, w_ext, w_fldP, List.getElem?_toArray, List.getElem?_cons_zero, List.getElem?_cons_succ, beq_self_eq_true, selV]
      refine ifD_of (fun c1 => ?_) (fun c1 => ?_)
      · have e : cntE c ticks = 4 := by unfold cntE; rw [if_pos hm, if_pos c1]
        have := hQ H' g
        unfold cntV at this
        rw [e, if_neg (by omega)] at this
        exact this
      · have e : cntE c ticks = 0 := by unfold cntE; rw [if_pos hm, if_neg c1]
        refine c_ref22_Many hm (by omega) fun H3 g3 => ?_
        have := hQ H3 (g.trans g3)
        unfold cntV at this
        rw [e, if_pos rfl] at this
        exact this
  · rw [decide_eq_false hm]
    simp only [Bool.not_false, ifB_true]
    have e : cntE c ticks = 8 := by unfold cntE; rw [if_neg hm]
    have := hQ H2 g
    unfold cntV at this
    rw [e, if_neg (by omega)] at this
    exact this

/-! ### Lanes -/

theorem c_ref21_SameCells22 {a b : Value} {xs ys : List Int} (ha : Sl (rI .u32) H A a xs) (hb : Sl (rI .u32) H B b ys) (hl : xs.length < 9223372036854775807) (hQ : Q (.bool (decide (xs = ys))) H) : callV Try.prog (fnV fn_ref21_SameCells) [a, b] H Q := by
  apply S_ref21_SameCells_of
  unfold S_ref21_SameCells
  refine ha.len (hb.len ?_)
  try simp only [sv_cons, sv_cons1, sc_cons, sc_cons1, asB_bool, ifB_true, ifB_false, un_not, bin_lss, bin_leq, bin_gtr, bin_geq, bin_eql, bin_neq, bin_add, bin_sub, bin_mul, ok_int, ok_bool, ok_slice, ok_str, ok_ptr, ok_map, ok_func, ok_iface, ok_nil, List.all_cons, List.all_nil, Bool.and_true, Bool.true_and, seg, setSeg, List.drop_succ_cons, List.drop_zero, List.take_succ_cons, List.take_zero, List.cons_append, List.nil_append, List.append_nil, List.length_cons, List.length_nil, List.drop_nil, List.size_toArray, Nat.reduceAdd, Nat.reduceLeDiff, Nat.reduceBEq, Nat.zero_add, Nat.le_refl, decide_true, mkV, List.headD_cons, cellsV, w_fldV, w_ext, w_fldP, List.getElem?_toArray, List.getElem?_cons_zero, List.getElem?_cons_succ, beq_self_eq_true, selV]
  refine ifD_of (fun hne => ?_) (fun heq => ?_)
  · rw [decide_eq_false (fun e => hne (by rw [e]))] at hQ; exact hQ
  have heq : xs.length = ys.length := by omega
  refine loop_up xs.length (fun i s H' => s = [[.int .i64 (i : Int)]] ∧ H' = H ∧ xs.take i = ys.take i) ⟨rfl, rfl, by simp⟩ ?_
  rintro i s H' K hi ⟨rfl, rfl, ht⟩ hK
  refine ha.len ?_
  try simp only [sv_cons, sv_cons1, sc_cons, sc_cons1, asB_bool, ifB_true, ifB_false, un_not, bin_lss, bin_leq, bin_gtr, bin_geq, bin_eql, bin_neq, bin_add, bin_sub, bin_mul, ok_int, ok_bool, ok_slice, ok_str, ok_ptr, ok_map, ok_func, ok_iface, ok_nil, List.all_cons, List.all_nil, Bool.and_true, Bool.true_and, seg, setSeg, List.drop_succ_cons, List.drop_zero, List.take_succ_cons, List.take_zero, List.cons_append, List.nil_append, List.append_nil, List.length_cons, List.length_nil, List.drop_nil, List.size_toArray, Nat.reduceAdd, Nat.reduceLeDiff, Nat.reduceBEq, Nat.zero_add, Nat.le_refl, decide_true, mkV, List.headD_cons, cellsV, w_fldV, w_ext, w_fldP, List.getElem?_toArray, List.getElem?_cons_zero, List.getElem?_cons_succ, beq_self_eq_true, selV]
  refine ifD_of (fun hlt => ?_) (fun hge => ?_)
  · have hlt : i < xs.length := by omega
    have hlt' : i < ys.length := by omega
    refine ha.getI (List.getElem?_eq_getElem hlt) fun _ => hb.getI (List.getElem?_eq_getElem hlt') fun _ => ?_
    try simp only [sv_cons, sv_cons1, sc_cons, sc_cons1, asB_bool, ifB_true, ifB_false, un_not, bin_lss, bin_leq, bin_gtr, bin_geq, bin_eql, bin_neq, bin_add, bin_sub, bin_mul, ok_int, ok_bool, ok_slice, ok_str, ok_ptr, ok_map, ok_func, ok_iface, ok_nil, List.all_cons, List.all_nil, Bool.and_true, Bool.true_and, seg, setSeg, List.drop_succ_cons, List.drop_zero, List.take_succ_cons, List.take_zero, List.cons_append, List.nil_append, List.append_nil, List.length_cons, List.length_nil, List.drop_nil, List.size_toArray, Nat.reduceAdd, Nat.reduceLeDiff, Nat.reduceBEq, Nat.zero_add, Nat.le_refl, decide_true, mkV, List.headD_cons, cellsV, w_fldV, w_ext, w_fldP, List.getElem?_toArray, List.getElem?_cons_zero, List.getElem?_cons_succ, beq_self_eq_true, selV]
    refine ifD_of (fun hne => ?_) (fun he => ?_)
    · rw [decide_eq_false (fun e => hne (by subst e; rfl))] at hQ; exact hQ
    · rw [wrap_i64 (by unfold i64; omega)]
      exact hK _ _ hlt ⟨by simp, rfl, take_eq_step hlt hlt' ht (Decidable.not_not.1 he)⟩
  · have : i = xs.length := by omega
    subst this
    rw [List.take_length, heq, List.take_length] at ht
    rw [decide_eq_true ht] at hQ; exact hQ

theorem c_ref22_SameLanes {a b : Value} {xs ys : List (List Int)} (ha : Sl (rSl (rI .u32)) H A a xs) (hb : Sl (rSl (rI .u32)) H B b ys) (hl : xs.length < 9223372036854775807) (hl2 : ∀ x ∈ xs, x.length < 9223372036854775807) (hQ : Q (.bool (decide (xs = ys))) H) :
    callV Try.prog (fnV fn_ref22_SameLanes) [a, b] H Q := by
  apply S_ref22_SameLanes_of
  unfold S_ref22_SameLanes
  refine ha.len (hb.len ?_)
  try simp only [sv_cons, sv_cons1, sc_cons, sc_cons1, asB_bool, ifB_true, ifB_false, un_not, bin_lss, bin_leq, bin_gtr, bin_geq, bin_eql, bin_neq, bin_add, bin_sub, bin_mul, ok_int, ok_bool, ok_slice, ok_str, ok_ptr, ok_map, ok_func, ok_iface, ok_nil, List.all_cons, List.all_nil, Bool.and_true, Bool.true_and, seg, setSeg, List.drop_succ_cons, List.drop_zero, List.take_succ_cons, List.take_zero, List.cons_append, List.nil_append, List.append_nil, List.length_cons, List.length_nil, List.drop_nil, List.size_toArray, Nat.reduceAdd, Nat.reduceLeDiff, Nat.reduceBEq, Nat.zero_add, Nat.le_refl, decide_true, mkV, List.headD_cons, cellsV, w_fldV, w_ext, w_fldP, List.getElem?_toArray, List.getElem?_cons_zero, List.getElem?_cons_succ, beq_self_eq_true, selV]
  refine ifD_of (fun hne => ?_) (fun heq => ?_)
  · rw [decide_eq_false (fun e => hne (by rw [e]))] at hQ; exact hQ
  have heq : xs.length = ys.length := by omega
  refine loop_up xs.length (fun i s H' => s = [[.int .i64 (i : Int)]] ∧ H' = H ∧ xs.take i = ys.take i) ⟨rfl, rfl, by simp⟩ ?_
  rintro i s H' K hi ⟨rfl, rfl, ht⟩ hK
  refine ha.len ?_
  try simp only [sv_cons, sv_cons1, sc_cons, sc_cons1, asB_bool, ifB_true, ifB_false, un_not, bin_lss, bin_leq, bin_gtr, bin_geq, bin_eql, bin_neq, bin_add, bin_sub, bin_mul, ok_int, ok_bool, ok_slice, ok_str, ok_ptr, ok_map, ok_func, ok_iface, ok_nil, List.all_cons, List.all_nil, Bool.and_true, Bool.true_and, seg, setSeg, List.drop_succ_cons, List.drop_zero, List.take_succ_cons, List.take_zero, List.cons_append, List.nil_append, List.append_nil, List.length_cons, List.length_nil, List.drop_nil, List.size_toArray, Nat.reduceAdd, Nat.reduceLeDiff, Nat.reduceBEq, Nat.zero_add, Nat.le_refl, decide_true, mkV, List.headD_cons, cellsV, w_fldV, w_ext, w_fldP, List.getElem?_toArray, List.getElem?_cons_zero, List.getElem?_cons_succ, beq_self_eq_true, selV]
  refine ifD_of (fun hlt => ?_) (fun hge => ?_)
  · have hlt : i < xs.length := by omega
    have hlt' : i < ys.length := by omega
    refine ha.getS (List.getElem?_eq_getElem hlt) fun u hu => hb.getS (List.getElem?_eq_getElem hlt') fun w hw => ?_
    refine c_ref21_SameCells22 hu hw (hl2 _ (List.getElem_mem hlt)) ?_
    try simp only [sv_cons, sv_cons1, sc_cons, sc_cons1, asB_bool, ifB_true, ifB_false, un_not, bin_lss, bin_leq, bin_gtr, bin_geq, bin_eql, bin_neq, bin_add, bin_sub, bin_mul, ok_int, ok_bool, ok_slice, ok_str, ok_ptr, ok_map, ok_func, ok_iface, ok_nil, List.all_cons, List.all_nil, Bool.and_true, Bool.true_and, seg, setSeg, List.drop_succ_cons, List.drop_zero, List.take_succ_cons, List.take_zero, List.cons_append, List.nil_append, List.append_nil, List.length_cons, List.length_nil, List.drop_nil, List.size_toArray, Nat.reduceAdd, Nat.reduceLeDiff, Nat.reduceBEq, Nat.zero_add, Nat.le_refl, decide_true, mkV, List.headD_cons, cellsV, w_fldV, w_ext, w_fldP, List.getElem?_toArray, List.getElem?_cons_zero, List.getElem?_cons_succ, beq_self_eq_true, selV]
    by_cases he : xs[i] = ys[i]
    · rw [decide_eq_true he]
      simp only [Bool.not_true, ifB_false]
      rw [wrap_i64 (by unfold i64; omega)]
      exact hK _ _ hlt ⟨by simp, rfl, take_eq_step hlt hlt' ht he⟩
    · rw [decide_eq_false he]
      simp only [Bool.not_false, ifB_true]
      rw [decide_eq_false (fun e => he (by subst e; rfl))] at hQ; exact hQ
  · have : i = xs.length := by omega
    subst this
    rw [List.take_length, heq, List.take_length] at ht
    rw [decide_eq_true ht] at hQ; exact hQ

theorem c_ref22_TwinLanes {a : Value} {xs : List (List Int)} (ha : Sl (rSl (rI .u32)) H A a xs) (hl : xs.length ≤ 1000) (hl2 : ∀ x ∈ xs, x.length ≤ 1000000) (hQ : ∀ v H', Sl (rSl (rI .u32)) H' (fun y => H.size ≤ y) v xs → G H H' → Q v H') :
    callV Try.prog (fnV fn_ref22_TwinLanes) [a] H Q := by
  apply S_ref22_TwinLanes_of
  unfold S_ref22_TwinLanes
  have ha := ha.old
  refine loop_up xs.length (fun i s H' => ∃ v, Bd (rSl (rI .u32)) H H' v (xs.take i) ∧ s = [[v], [.int .i64 (i : Int)]]) ⟨_, by simpa using Bd.nil _ (Fr.refl _ H), rfl⟩ ?_
  rintro i s H' K hi ⟨v, hv, rfl⟩ hK
  refine (ha.g hv.g).len ?_
  try simp only [sv_cons, sv_cons1, sc_cons, sc_cons1, asB_bool, ifB_true, ifB_false, un_not, bin_lss, bin_leq, bin_gtr, bin_geq, bin_eql, bin_neq, bin_add, bin_sub, bin_mul, ok_int, ok_bool, ok_slice, ok_str, ok_ptr, ok_map, ok_func, ok_iface, ok_nil, List.all_cons, List.all_nil, Bool.and_true, Bool.true_and, seg, setSeg, List.drop_succ_cons, List.drop_zero, List.take_succ_cons, List.take_zero, List.cons_append, List.nil_append, List.append_nil, List.length_cons, List.length_nil, List.drop_nil, List.size_toArray, Nat.reduceAdd, Nat.reduceLeDiff, Nat.reduceBEq, Nat.zero_add, Nat.le_refl, decide_true, mkV, List.headD_cons, cellsV, w_fldV, w_ext, w_fldP, List.getElem?_toArray, List.getElem?_cons_zero, List.getElem?_cons_succ, beq_self_eq_true, selV]
  refine ifD_of (fun h1 => ?_) (fun h1 => ?_)
  · have hlt : i < xs.length := by omega
    have hx : xs[i]? = some xs[i] := List.getElem?_eq_getElem hlt
    have htk : (xs.take i).length = i := by rw [List.length_take]; omega
    have hxl := hl2 _ (List.getElem_mem hlt)
    have tk : xs.take (i + 1) = xs.take i ++ [xs[i]] := List.take_succ_eq_append_getElem hlt
    generalize xs[i] = x at *
    refine bld_nil (rI .u32) fun t H1 ht1 g1 s1 => ?_
    refine (ha.g (hv.g.trans g1)).getS hx fun u hu => ?_
    have hz := hv.g.size
    refine ht1.app hu.src rfl (by decide) rfl (fun y hy hlt => hy.elim False.elim fun hh => by omega) (by simp; omega) (by simp; omega) fun w H2 bw hw f2 hbw _ => ?_
    rw [List.nil_append] at hw
    have hw : Ow (rI .u32) H2 bw (fun _ => False) w x := Ow.fA hw
    have g2 : G H' H2 := g1.then f2 fun y hy => show y + 1 ≠ H'.size + 1 by omega
    refine hv.push g2 (A' := fun y => y + 1 = bw) (x := x) ⟨[w], rfl, w, rfl, hw.slF fun k hk => hk.symm⟩ rfl (by decide) (fun _ => rfl) rfl rfl (fun y hy _ => by omega) (by omega) (by omega) fun w' H3 hv3 => ?_
    try simp only [sv_cons, sv_cons1, sc_cons, sc_cons1, asB_bool, ifB_true, ifB_false, un_not, bin_lss, bin_leq, bin_gtr, bin_geq, bin_eql, bin_neq, bin_add, bin_sub, bin_mul, ok_int, ok_bool, ok_slice, ok_str, ok_ptr, ok_map, ok_func, ok_iface, ok_nil, List.all_cons, List.all_nil, Bool.and_true, Bool.true_and, seg, setSeg, List.drop_succ_cons, List.drop_zero, List.take_succ_cons, List.take_zero, List.cons_append, List.nil_append, List.append_nil, List.length_cons, List.length_nil, List.drop_nil, List.size_toArray, Nat.reduceAdd, Nat.reduceLeDiff, Nat.reduceBEq, Nat.zero_add, Nat.le_refl, decide_true, mkV, List.headD_cons, cellsV, w_fldV, w_ext, w_fldP, List.getElem?_toArray, List.getElem?_cons_zero, List.getElem?_cons_succ, beq_self_eq_true, selV]
    rw [wrap_i64 (by unfold i64; omega)]
    exact hK _ _ hlt ⟨w', by rw [tk]; exact hv3, by simp⟩
  · rw [List.take_of_length_le (by omega)] at hv
    exact hQ v H' hv.sl hv.g

/-- Cells and texts that statements go through. -/
def FitsL (cells : List (List Int)) (all : List By) : Prop := cells.length ≤ 6 ∧ (∀ x ∈ cells, x.length ≤ 100) ∧ all.length ≤ 600 ∧ ∀ x ∈ all, x.length ≤ 400

theorem c_ref22_Great {w a : Value} {cells : List (List Int)} {all : List By} (hc : Sl (rSl (rI .u32)) H A w cells) (ha : Sl rBy H B a all) (hQ : ∀ b, (b = false → FitsL cells all) → Q (.bool b) H) : callV Try.prog (fnV fn_ref22_Great) [w, a] H Q := by
  apply S_ref22_Great_of
  unfold S_ref22_Great
  refine loop_up 10 (fun i s H' => s = [[.int .i64 (i : Int)]] ∧ H' = H ∧ ∀ x ∈ cells.take i, x.length ≤ 100) ⟨rfl, rfl, by simp⟩ ?_
  rintro i s H' K hi ⟨rfl, rfl, h1⟩ hK
  refine join_of (fun s H2 => H2 = H' ∧ s = [[.bool (decide (i < cells.length ∧ i < 10))]]) (fun K2 hK2 => ?_) ?_
  · refine hc.len ?_
    try simp only [sv_cons, sv_cons1, sc_cons, sc_cons1, asB_bool, ifB_true, ifB_false, un_not, bin_lss, bin_leq, bin_gtr, bin_geq, bin_eql, bin_neq, bin_add, bin_sub, bin_mul, ok_int, ok_bool, ok_slice, ok_str, ok_ptr, ok_map, ok_func, ok_iface, ok_nil, List.all_cons, List.all_nil, Bool.and_true, Bool.true_and, seg, setSeg, List.drop_succ_cons, List.drop_zero, List.take_succ_cons, List.take_zero, List.cons_append, List.nil_append, List.append_nil, List.length_cons, List.length_nil, List.drop_nil, List.size_toArray, Nat.reduceAdd, Nat.reduceLeDiff, Nat.reduceBEq, Nat.zero_add, Nat.le_refl, decide_true, mkV, List.headD_cons, cellsV, w_fldV, w_ext, w_fldP, List.getElem?_toArray, List.getElem?_cons_zero, List.getElem?_cons_succ, beq_self_eq_true, selV]
    refine ifD_of (fun c1 => hK2 _ _ ⟨rfl, jb_d (by omega)⟩) (fun c1 => hK2 _ _ ⟨rfl, jb_f (by omega)⟩)
  rintro s H2 ⟨rfl, rfl⟩
  try simp only [sv_cons, sv_cons1, sc_cons, sc_cons1, asB_bool, ifB_true, ifB_false, un_not, bin_lss, bin_leq, bin_gtr, bin_geq, bin_eql, bin_neq, bin_add, bin_sub, bin_mul, ok_int, ok_bool, ok_slice, ok_str, ok_ptr, ok_map, ok_func, ok_iface, ok_nil, List.all_cons, List.all_nil, Bool.and_true, Bool.true_and, seg, setSeg, List.drop_succ_cons, List.drop_zero, List.take_succ_cons, List.take_zero, List.cons_append, List.nil_append, List.append_nil, List.length_cons, List.length_nil, List.drop_nil, List.size_toArray, Nat.reduceAdd, Nat.reduceLeDiff, Nat.reduceBEq, Nat.zero_add, Nat.le_refl, decide_true, mkV, List.headD_cons, cellsV, w_fldV, w_ext, w_fldP, List.getElem?_toArray, List.getElem?_cons_zero, List.getElem?_cons_succ, beq_self_eq_true, selV]
  refine ifD_of (fun c1 => ?_) (fun c1 => ?_)
  · refine hc.getS (List.getElem?_eq_getElem c1.1) fun u hu => hu.len ?_
    try simp only [sv_cons, sv_cons1, sc_cons, sc_cons1, asB_bool, ifB_true, ifB_false, un_not, bin_lss, bin_leq, bin_gtr, bin_geq, bin_eql, bin_neq, bin_add, bin_sub, bin_mul, ok_int, ok_bool, ok_slice, ok_str, ok_ptr, ok_map, ok_func, ok_iface, ok_nil, List.all_cons, List.all_nil, Bool.and_true, Bool.true_and, seg, setSeg, List.drop_succ_cons, List.drop_zero, List.take_succ_cons, List.take_zero, List.cons_append, List.nil_append, List.append_nil, List.length_cons, List.length_nil, List.drop_nil, List.size_toArray, Nat.reduceAdd, Nat.reduceLeDiff, Nat.reduceBEq, Nat.zero_add, Nat.le_refl, decide_true, mkV, List.headD_cons, cellsV, w_fldV, w_ext, w_fldP, List.getElem?_toArray, List.getElem?_cons_zero, List.getElem?_cons_succ, beq_self_eq_true, selV]
    refine ifD_of (fun c2 => hQ true (fun h => by cases h)) (fun c2 => ?_)
    rw [wrap_i64 (by unfold i64; omega)]
    refine hK _ _ c1.2 ⟨by simp, rfl, fun x hx => ?_⟩
    rw [List.take_succ_eq_append_getElem c1.1, List.mem_append, List.mem_singleton] at hx
    rcases hx with hx | rfl
    · exact h1 x hx
    · omega
  · refine loop_up 1000 (fun j s H' => s = [[.int .i64 (j : Int)]] ∧ H' = H2 ∧ ∀ x ∈ all.take j, x.length ≤ 400) ⟨rfl, rfl, by simp⟩ ?_
    rintro j s H' K3 hj ⟨rfl, rfl, h2⟩ hK3
    refine join_of (fun s H2 => H2 = H' ∧ s = [[.bool (decide (j < all.length ∧ j < 1000))]]) (fun K2 hK2 => ?_) ?_
    · refine ha.len ?_
      try simp only [sv_cons, sv_cons1, sc_cons, sc_cons1, asB_bool, ifB_true, ifB_false, un_not, bin_lss, bin_leq, bin_gtr, bin_geq, bin_eql, bin_neq, bin_add, bin_sub, bin_mul, ok_int, ok_bool, ok_slice, ok_str, ok_ptr, ok_map, ok_func, ok_iface, ok_nil, List.all_cons, List.all_nil, Bool.and_true, Bool.true_and, seg, setSeg, List.drop_succ_cons, List.drop_zero, List.take_succ_cons, List.take_zero, List.cons_append, List.nil_append, List.append_nil, List.length_cons, List.length_nil, List.drop_nil, List.size_toArray, Nat.reduceAdd, Nat.reduceLeDiff, Nat.reduceBEq, Nat.zero_add, Nat.le_refl, decide_true, mkV, List.headD_cons, cellsV, w_fldV, w_ext, w_fldP, List.getElem?_toArray, List.getElem?_cons_zero, List.getElem?_cons_succ, beq_self_eq_true, selV]
      refine ifD_of (fun c1 => hK2 _ _ ⟨rfl, jb_d (by omega)⟩) (fun c1 => hK2 _ _ ⟨rfl, jb_f (by omega)⟩)
    rintro s H2 ⟨rfl, rfl⟩
    try simp only [sv_cons, sv_cons1, sc_cons, sc_cons1, asB_bool, ifB_true, ifB_false, un_not, bin_lss, bin_leq, bin_gtr, bin_geq, bin_eql, bin_neq, bin_add, bin_sub, bin_mul, ok_int, ok_bool, ok_slice, ok_str, ok_ptr, ok_map, ok_func, ok_iface, ok_nil, List.all_cons, List.all_nil, Bool.and_true, Bool.true_and, seg, setSeg, List.drop_succ_cons, List.drop_zero, List.take_succ_cons, List.take_zero, List.cons_append, List.nil_append, List.append_nil, List.length_cons, List.length_nil, List.drop_nil, List.size_toArray, Nat.reduceAdd, Nat.reduceLeDiff, Nat.reduceBEq, Nat.zero_add, Nat.le_refl, decide_true, mkV, List.headD_cons, cellsV, w_fldV, w_ext, w_fldP, List.getElem?_toArray, List.getElem?_cons_zero, List.getElem?_cons_succ, beq_self_eq_true, selV]
    refine ifD_of (fun c2 => ?_) (fun c2 => ?_)
    · refine ha.getS (List.getElem?_eq_getElem c2.1) fun u hu => hu.len ?_
      try simp only [sv_cons, sv_cons1, sc_cons, sc_cons1, asB_bool, ifB_true, ifB_false, un_not, bin_lss, bin_leq, bin_gtr, bin_geq, bin_eql, bin_neq, bin_add, bin_sub, bin_mul, ok_int, ok_bool, ok_slice, ok_str, ok_ptr, ok_map, ok_func, ok_iface, ok_nil, List.all_cons, List.all_nil, Bool.and_true, Bool.true_and, seg, setSeg, List.drop_succ_cons, List.drop_zero, List.take_succ_cons, List.take_zero, List.cons_append, List.nil_append, List.append_nil, List.length_cons, List.length_nil, List.drop_nil, List.size_toArray, Nat.reduceAdd, Nat.reduceLeDiff, Nat.reduceBEq, Nat.zero_add, Nat.le_refl, decide_true, mkV, List.headD_cons, cellsV, w_fldV, w_ext, w_fldP, List.getElem?_toArray, List.getElem?_cons_zero, List.getElem?_cons_succ, beq_self_eq_true, selV]
      refine ifD_of (fun c3 => hQ true (fun h => by cases h)) (fun c3 => ?_)
      rw [wrap_i64 (by unfold i64; omega)]
      refine hK3 _ _ c2.2 ⟨by simp, rfl, fun x hx => ?_⟩
      rw [List.take_succ_eq_append_getElem c2.1, List.mem_append, List.mem_singleton] at hx
      rcases hx with hx | rfl
      · exact h2 x hx
      · omega
    · refine join_of (fun s H3 => H3 = H2 ∧ s = [[.bool (decide (cells.length > 6 ∨ all.length > 600))]]) (fun K2 hK2 => ?_) ?_
      · refine hc.len ?_
        try simp only [sv_cons, sv_cons1, sc_cons, sc_cons1, asB_bool, ifB_true, ifB_false, un_not, bin_lss, bin_leq, bin_gtr, bin_geq, bin_eql, bin_neq, bin_add, bin_sub, bin_mul, ok_int, ok_bool, ok_slice, ok_str, ok_ptr, ok_map, ok_func, ok_iface, ok_nil, List.all_cons, List.all_nil, Bool.and_true, Bool.true_and, seg, setSeg, List.drop_succ_cons, List.drop_zero, List.take_succ_cons, List.take_zero, List.cons_append, List.nil_append, List.append_nil, List.length_cons, List.length_nil, List.drop_nil, List.size_toArray, Nat.reduceAdd, Nat.reduceLeDiff, Nat.reduceBEq, Nat.zero_add, Nat.le_refl, decide_true, mkV, List.headD_cons, cellsV, w_fldV, w_ext, w_fldP, List.getElem?_toArray, List.getElem?_cons_zero, List.getElem?_cons_succ, beq_self_eq_true, selV]
        refine ifD_of (fun c3 => hK2 _ _ ⟨rfl, by rw [decide_eq_true (show cells.length > 6 ∨ all.length > 600 from .inl (by omega))]⟩) (fun c3 => ha.len ?_)
        try simp only [sv_cons, sv_cons1, sc_cons, sc_cons1, asB_bool, ifB_true, ifB_false, un_not, bin_lss, bin_leq, bin_gtr, bin_geq, bin_eql, bin_neq, bin_add, bin_sub, bin_mul, ok_int, ok_bool, ok_slice, ok_str, ok_ptr, ok_map, ok_func, ok_iface, ok_nil, List.all_cons, List.all_nil, Bool.and_true, Bool.true_and, seg, setSeg, List.drop_succ_cons, List.drop_zero, List.take_succ_cons, List.take_zero, List.cons_append, List.nil_append, List.append_nil, List.length_cons, List.length_nil, List.drop_nil, List.size_toArray, Nat.reduceAdd, Nat.reduceLeDiff, Nat.reduceBEq, Nat.zero_add, Nat.le_refl, decide_true, mkV, List.headD_cons, cellsV, w_fldV, w_ext, w_fldP, List.getElem?_toArray, List.getElem?_cons_zero, List.getElem?_cons_succ, beq_self_eq_true, selV]
        exact hK2 _ _ ⟨rfl, jb_d (by omega)⟩
      rintro s H3 ⟨rfl, rfl⟩
      try simp only [sv_cons, sv_cons1, sc_cons, sc_cons1, asB_bool, ifB_true, ifB_false, un_not, bin_lss, bin_leq, bin_gtr, bin_geq, bin_eql, bin_neq, bin_add, bin_sub, bin_mul, ok_int, ok_bool, ok_slice, ok_str, ok_ptr, ok_map, ok_func, ok_iface, ok_nil, List.all_cons, List.all_nil, Bool.and_true, Bool.true_and, seg, setSeg, List.drop_succ_cons, List.drop_zero, List.take_succ_cons, List.take_zero, List.cons_append, List.nil_append, List.append_nil, List.length_cons, List.length_nil, List.drop_nil, List.size_toArray, Nat.reduceAdd, Nat.reduceLeDiff, Nat.reduceBEq, Nat.zero_add, Nat.le_refl, decide_true, mkV, List.headD_cons, cellsV, w_fldV, w_ext, w_fldP, List.getElem?_toArray, List.getElem?_cons_zero, List.getElem?_cons_succ, beq_self_eq_true, selV]
      refine hQ _ fun h => ?_
      rw [decide_eq_false_iff_not] at h
      rw [List.take_of_length_le (by omega)] at h1 h2
      exact ⟨by omega, h1, by omega, h2⟩

/-! ### Numbers -/

theorem c_ref01_Number8 {x : Value} {bs : By} (hx : Sl rU8 H A x bs) (hl : bs.length ≤ 8) (hQ : Q (.int .u64 (leN bs : Nat)) H) : callV Try.prog (fnV fn_ref01_Number) [x] H Q := by
  apply S_ref01_Number_of
  unfold S_ref01_Number
  refine hx.len ?_
  try simp only [sv_cons, sv_cons1, sc_cons, sc_cons1, asB_bool, ifB_true, ifB_false, un_not, bin_lss, bin_leq, bin_gtr, bin_geq, bin_eql, bin_neq, bin_add, bin_sub, bin_mul, ok_int, ok_bool, ok_slice, ok_str, ok_ptr, ok_map, ok_func, ok_iface, ok_nil, List.all_cons, List.all_nil, Bool.and_true, Bool.true_and, seg, setSeg, List.drop_succ_cons, List.drop_zero, List.take_succ_cons, List.take_zero, List.cons_append, List.nil_append, List.append_nil, List.length_cons, List.length_nil, List.drop_nil, List.size_toArray, Nat.reduceAdd, Nat.reduceLeDiff, Nat.reduceBEq, Nat.zero_add, Nat.le_refl, decide_true, mkV, List.headD_cons, cellsV, w_fldV, w_ext, w_fldP, List.getElem?_toArray, List.getElem?_cons_zero, List.getElem?_cons_succ, beq_self_eq_true, selV]
  rw [wrap_i64 (by unfold i64; omega)]
  refine loop_up bs.length (fun k st H' => H' = H ∧ st = [[.int .u64 ((leN (bs.drop (bs.length - k)) : Nat) : Int)], [.int .i64 ((bs.length : Int) - 1 - k)]]) ⟨rfl, by simp [leN]⟩ ?_
  rintro k st H' K hk ⟨rfl, rfl⟩ hK
  try simp only [sv_cons, sv_cons1, sc_cons, sc_cons1, asB_bool, ifB_true, ifB_false, un_not, bin_lss, bin_leq, bin_gtr, bin_geq, bin_eql, bin_neq, bin_add, bin_sub, bin_mul, ok_int, ok_bool, ok_slice, ok_str, ok_ptr, ok_map, ok_func, ok_iface, ok_nil, List.all_cons, List.all_nil, Bool.and_true, Bool.true_and, seg, setSeg, List.drop_succ_cons, List.drop_zero, List.take_succ_cons, List.take_zero, List.cons_append, List.nil_append, List.append_nil, List.length_cons, List.length_nil, List.drop_nil, List.size_toArray, Nat.reduceAdd, Nat.reduceLeDiff, Nat.reduceBEq, Nat.zero_add, Nat.le_refl, decide_true, mkV, List.headD_cons, cellsV, w_fldV, w_ext, w_fldP, List.getElem?_toArray, List.getElem?_cons_zero, List.getElem?_cons_succ, beq_self_eq_true, selV]
  refine ifD_of (fun c1 => ?_) (fun c1 => ?_)
  · have hkl : k < bs.length := by omega
    have e1 : (bs.length : Int) - 1 - k = ((bs.length - 1 - k : Nat) : Int) := by omega
    have hlt : bs.length - 1 - k < bs.length := by omega
    have hd : bs.drop (bs.length - (k + 1)) = bs[bs.length - 1 - k] :: bs.drop (bs.length - k) := by
      rw [show bs.length - (k + 1) = bs.length - 1 - k by omega, List.drop_eq_getElem_cons hlt]
      congr 2
      omega
    have hle := leN_lt (bs.drop (bs.length - (k + 1)))
    have hln : (256 : Nat) ^ (bs.drop (bs.length - (k + 1))).length ≤ 256 ^ 8 := Nat.pow_le_pow_right (by omega) (by rw [List.length_drop]; omega)
    have hs : leN (bs.drop (bs.length - (k + 1))) = bs[bs.length - 1 - k].toNat + 256 * leN (bs.drop (bs.length - k)) := by rw [hd]; rfl
    rw [e1]
    refine hx.getB (List.getElem?_eq_getElem hlt) ?_
    generalize bs[bs.length - 1 - k] = b at *
    generalize leN (bs.drop (bs.length - k)) = n at *
    rw [cv_nat (by show b.toNat < 2 ^ 64; omega)]
    try simp only [sv_cons, sv_cons1, sc_cons, sc_cons1, asB_bool, ifB_true, ifB_false, un_not, bin_lss, bin_leq, bin_gtr, bin_geq, bin_eql, bin_neq, bin_add, bin_sub, bin_mul, ok_int, ok_bool, ok_slice, ok_str, ok_ptr, ok_map, ok_func, ok_iface, ok_nil, List.all_cons, List.all_nil, Bool.and_true, Bool.true_and, seg, setSeg, List.drop_succ_cons, List.drop_zero, List.take_succ_cons, List.take_zero, List.cons_append, List.nil_append, List.append_nil, List.length_cons, List.length_nil, List.drop_nil, List.size_toArray, Nat.reduceAdd, Nat.reduceLeDiff, Nat.reduceBEq, Nat.zero_add, Nat.le_refl, decide_true, mkV, List.headD_cons, cellsV, w_fldV, w_ext, w_fldP, List.getElem?_toArray, List.getElem?_cons_zero, List.getElem?_cons_succ, beq_self_eq_true, selV]
    rw [show (256 * (n : Int)) = ((256 * n : Nat) : Int) by omega, wrap_nat (q := .u64) (n := 256 * n) (by show 256 * n < 2 ^ 64; omega), show ((256 * n : Nat) : Int) + (b.toNat : Int) = ((256 * n + b.toNat : Nat) : Int) by omega,
      wrap_nat (q := .u64) (n := 256 * n + b.toNat) (by show 256 * n + b.toNat < 2 ^ 64; omega), wrap_i64 (by unfold i64; omega)]
    refine hK _ _ hkl ⟨rfl, ?_⟩
    rw [hs, Nat.add_comm]
    simp
    omega
  · have : k = bs.length := by omega
    subst this
    rw [Nat.sub_self, List.drop_zero]
    exact hQ

def rPl : Rep (Int × Int) := .flat 2 (fun p => [.int .i64 p.1, .int .i64 p.2]) (fun _ => True)
theorem vrep_pl {a b : Int} : VRep rPl H A true (.agg #[.int .i64 a, .int .i64 b]) (a, b) := ⟨[.int .i64 a, .int .i64 b], rfl, rfl, trivial⟩
theorem un_neg (q : IntKind) (x : Int) (k : Value → Prop) : unV .neg (.int q x) k = k (.int q (q.wrap (-x))) := by simp [unV, unR]

theorem c_ref15_Many {x : Lvl} (ho : x.ok) (hQ : ∀ H', G H H' → Q (.int .i64 (2 * many x.high - 1)) H') : callV Try.prog (fnV fn_ref15_Many) [.agg (cLvl x).toArray] H Q := by
  apply S_ref15_Many_of
  unfold S_ref15_Many
  obtain ⟨_, _, _, _, o1, o2, _, _⟩ := ho
  have hm := many_bound o1 o2
  refine newT_of fun H1 g1 s1 => c_ref07_Many (by omega) ?_
  try simp only [sv_cons, sv_cons1, sc_cons, sc_cons1, asB_bool, ifB_true, ifB_false, un_not, bin_lss, bin_leq, bin_gtr, bin_geq, bin_eql, bin_neq, bin_add, bin_sub, bin_mul, ok_int, ok_bool, ok_slice, ok_str, ok_ptr, ok_map, ok_func, ok_iface, ok_nil, List.all_cons, List.all_nil, Bool.and_true, Bool.true_and, seg, setSeg, List.drop_succ_cons, List.drop_zero, List.take_succ_cons, List.take_zero, List.cons_append, List.nil_append, List.append_nil, List.length_cons, List.length_nil, List.drop_nil, List.size_toArray, Nat.reduceAdd, Nat.reduceLeDiff, Nat.reduceBEq, Nat.zero_add, Nat.le_refl, decide_true, mkV, List.headD_cons, cellsV, w_fldV, w_ext, w_fldP, List.getElem?_toArray, List.getElem?_cons_zero, List.getElem?_cons_succ, beq_self_eq_true, selV]
  rw [wrap_i64 (x := 2 * many x.high) (by unfold i64; omega), wrap_i64 (by unfold i64; omega)]
  exact hQ _ g1

theorem pl_bound {l : List Lvl} {T : List Turn} (h : ∀ t ∈ T, TOk l t) : (plL T).length ≤ 127 * T.length := by
  induction T with
  | nil => simp [plL]
  | cons t T ih =>
    have := ih fun u hu => h u (by simp [hu])
    have h1 := (h t (by simp)).small
    rw [show plL (t :: T) = plT t ++ plL T from rfl, List.length_append, List.length_cons]
    unfold plT
    rw [List.length_map]
    omega

/-- The leaf of a level's first, or second, path of a tick. -/
def leafN (x : Lvl) (cell t tn : Nat) : Nat := if tn = 1 then turnN x.high.toNat t else cell % 2 ^ x.high.toNat
theorem leaf_lt {x : Lvl} {cell t tn : Nat} (ho : x.ok) : leafN x cell t tn < 2 ^ x.high.toNat := by
  obtain ⟨_, _, _, _, o1, o2, _, _⟩ := ho
  unfold leafN
  split
  · exact turn_lt (by omega)
  · exact Nat.mod_lt _ (Nat.two_pow_pos _)

theorem wayL_wrap {h : Int} {n i : Nat} {b : Int} (hh : 1 ≤ h ∧ h ≤ 6) (hn : n < 2 ^ h.toNat) (hb : (wayL h n)[i]? = some b) : 1 ≤ b ∧ b ≤ 127 := by
  have h1 := wayL_bound hh hn b (List.mem_of_getElem? hb)
  have h2 := many_bound hh.1 hh.2
  omega

theorem pl_path {i : Nat} {way : List Int} : plL (pathT i way) = (way.map fun b => ((i : Int), -b)) ++ way.reverse.map fun b => ((i : Int), b) := by
  unfold pathT plL plT
  simp
theorem pl_fill {l : List Lvl} {k : Nat} {p : Nat × Lvl} (h : (backL l)[k]? = some p) : plL ((fillT l).take (k + 1)) = plL ((fillT l).take k) ++ (downL (2 * many p.2.high - 1).toNat).map fun b => ((p.1 : Int), b) := by
  have : (fillT l)[k]? = some ⟨2, p.1, downL (2 * many p.2.high - 1).toNat⟩ := by unfold fillT; rw [List.getElem?_map, h]; rfl
  rw [List.take_add_one, this, plL_app]
  congr 1
  unfold plL plT
  simp
theorem pl_tick {l : List Lvl} {cells : List (List Int)} {t : Nat} : plL (allT l cells (t + 1)) = plL (allT l cells t) ++ plL (tickT l cells t) := by
  unfold allT
  rw [List.range_succ, List.flatMap_append, ← List.append_assoc, plL_app]
  simp
theorem level_take {cells : List (List Int)} {t tn : Nat} {p : Nat × Lvl} (h : tn < 2) :
    (levelT cells t p).take (2 * (tn + 1)) = (levelT cells t p).take (2 * tn) ++ pathT p.1 (wayL p.2.high (leafN p.2 ((cells.getD p.1 []).getD (2 * t) 0).toNat t tn : Nat)) := by
  have : tn = 0 ∨ tn = 1 := by omega
  rcases this with rfl | rfl
  · unfold levelT leafN pathT; simp
  · unfold levelT leafN pathT; simp

/-- A list that is built while a path is read. -/
structure Bw (H0 H : Heap) (v wv : Value) (xs : List (Int × Int)) (way : List Int) : Prop where
  g : G H0 H
  ow : ∃ b, Ow rPl H b (fun _ => False) v xs ∧ (b = 0 ∨ H0.size < b) ∧ Sl (rI .i64) H (fun y => y + 1 ≠ b) wv way
theorem ow_pl {b : Nat} {v : Value} {xs : List (Int × Int)} (h : Ow rPl H b A v xs) : Ow rPl H b B v xs := h
theorem Bw.of {H0 H1 : Heap} {v wv : Value} {xs : List (Int × Int)} {way : List Int} (h : Bd rPl H0 H v xs) (hw : Sl (rI .i64) H1 (fun y => H.size ≤ y) wv way) (g : G H H1) : Bw H0 H1 v wv xs way := by
  obtain ⟨g0, b, ho, hb⟩ := h
  have hl := ho.lt
  exact ⟨g0.trans g, b, ow_pl (ho.g g), hb, hw.mono fun y hy _ => by omega⟩
theorem Bw.bd {H0 : Heap} {v wv : Value} {xs : List (Int × Int)} {way : List Int} (h : Bw H0 H v wv xs way) : Bd rPl H0 H v xs := by
  obtain ⟨g, b, ho, hb, _⟩ := h
  exact ⟨g, b, ow_pl ho, hb⟩
theorem Bw.sl {H0 : Heap} {v wv : Value} {xs : List (Int × Int)} {way : List Int} (h : Bw H0 H v wv xs way) : ∃ D, Sl (rI .i64) H D wv way := by
  obtain ⟨g, b, ho, hb, hs⟩ := h
  exact ⟨_, hs⟩
theorem Bw.push {H0 : Heap} {v wv : Value} {xs : List (Int × Int)} {way : List Int} {e e' bytes : Nat} {z z' : List Value} {x y : Int} {k : Value → Heap → Prop} (h : Bw H0 H v wv xs way) (hz : z.length = 2) (hz' : z'.length = 2)
    (hbig : (xs.length + 1) * bytes ≤ 140737488355328) (hbig2 : xs.length + 1 ≤ 9223372036854775807) (hk : ∀ w H2, Bw H0 H2 w wv (xs ++ [(x, y)]) way → k w H2) :
    bldS e 2 true z 1 [(0, .agg #[.int .i64 x, .int .i64 y])] H fun t H => appS e' 2 bytes z' v t H k := by
  obtain ⟨g, b, ho, hb, hs⟩ := h
  have hl := ho.lt
  have hg := g.size
  refine ho.push (A' := fun _ => False) (x := ((x, y) : Int × Int)) vrep_pl rfl (by decide) (fun h => by cases h) hz hz' (fun y hy _ => by simp at hy) hbig hbig2 fun w H2 b2 ho2 f2 hb2 _ => hk w H2 ⟨g.then f2 fun y hy => show y + 1 ≠ b by omega, b2, ow_pl ho2, by omega, ?_⟩
  exact hs.up f2 fun y hy hlt => ⟨hy, by omega⟩

theorem c_ref22_writes {c : Cfg} {w : Value} {cells : List (List Int)} {ticks : Nat} (hm : c.may) (hc : Sl (rSl (rI .u32)) H B w cells) (hco : CellsOk c.all cells ticks) (ht : ticks ≤ 512)
    (hQ : ∀ v H', Sl rPl H' (fun y => H.size ≤ y) v (plL (allT c.all cells ticks)) → G H H' → Q v H') : callV Try.prog (fnV fn_ref22_writes) [.agg (cCfg c).toArray, w, .int .i64 (ticks : Int)] H Q := by
  apply S_ref22_writes_of
  unfold S_ref22_writes
  have hc := hc.old
  refine newT_of fun H1 g1 s1 => c_ref08_All hm.1 fun lv H2 hl g2 => ?_
  have hok := lvl_ok hl
  have h4 := hm.2
  have hgg := g1.trans g2
  have hgs := hgg.size
  have hTok := fun t => allT_ok (cells := cells) (ticks := t) hok
  generalize c.all = l at *
  refine hl.len ?_
  try simp only [sv_cons, sv_cons1, sc_cons, sc_cons1, asB_bool, ifB_true, ifB_false, un_not, bin_lss, bin_leq, bin_gtr, bin_geq, bin_eql, bin_neq, bin_add, bin_sub, bin_mul, ok_int, ok_bool, ok_slice, ok_str, ok_ptr, ok_map, ok_func, ok_iface, ok_nil, List.all_cons, List.all_nil, Bool.and_true, Bool.true_and, seg, setSeg, List.drop_succ_cons, List.drop_zero, List.take_succ_cons, List.take_zero, List.cons_append, List.nil_append, List.append_nil, List.length_cons, List.length_nil, List.drop_nil, List.size_toArray, Nat.reduceAdd, Nat.reduceLeDiff, Nat.reduceBEq, Nat.zero_add, Nat.le_refl, decide_true, mkV, List.headD_cons, cellsV, w_fldV, w_ext, w_fldP, List.getElem?_toArray, List.getElem?_cons_zero, List.getElem?_cons_succ, beq_self_eq_true, selV]
  rw [wrap_i64 (by unfold i64; omega)]
  have fill_ok : ∀ t ∈ fillT l, TOk l t := fun t h => hTok 0 t (by unfold allT; exact List.mem_append_left _ h)
  refine loop_up l.length (fun k st H' => ∃ v, Bd rPl H2 H' v (plL ((fillT l).take k)) ∧ st = [[v], [.int .i64 ((l.length : Int) - 1 - k)]]) ⟨_, by simpa [plL] using Bd.nil rPl (Fr.refl _ H2), by simp⟩ ?_
  rintro k st H' K hk ⟨v, hv, rfl⟩ hK
  try simp only [sv_cons, sv_cons1, sc_cons, sc_cons1, asB_bool, ifB_true, ifB_false, un_not, bin_lss, bin_leq, bin_gtr, bin_geq, bin_eql, bin_neq, bin_add, bin_sub, bin_mul, ok_int, ok_bool, ok_slice, ok_str, ok_ptr, ok_map, ok_func, ok_iface, ok_nil, List.all_cons, List.all_nil, Bool.and_true, Bool.true_and, seg, setSeg, List.drop_succ_cons, List.drop_zero, List.take_succ_cons, List.take_zero, List.cons_append, List.nil_append, List.append_nil, List.length_cons, List.length_nil, List.drop_nil, List.size_toArray, Nat.reduceAdd, Nat.reduceLeDiff, Nat.reduceBEq, Nat.zero_add, Nat.le_refl, decide_true, mkV, List.headD_cons, cellsV, w_fldV, w_ext, w_fldP, List.getElem?_toArray, List.getElem?_cons_zero, List.getElem?_cons_succ, beq_self_eq_true, selV]
  refine ifD_of (fun c1 => ?_) (fun c1 => ?_)
  · have hkl : k < l.length := by omega
    have hp := backL_get hkl
    have hpl := (backL_mem hp).1
    have hfl := pl_fill hp
    have hX := pl_bound (l := l) (T := (fillT l).take k) fun t h => fill_ok t (List.mem_of_mem_take h)
    have hXl : ((fillT l).take k).length ≤ 4 := by rw [List.length_take]; omega
    rw [show (l.length : Int) - 1 - k = ((l.length - 1 - k : Nat) : Int) by omega]
    generalize hpp : (l.length - 1 - k, l[l.length - 1 - k]'(by omega)) = p at *
    have hp1 : l.length - 1 - k = p.1 := by rw [← hpp]
    rw [hp1]
    have hpo := hok _ (List.mem_of_getElem? hpl)
    obtain ⟨_, _, _, _, o1, o2, _, _⟩ := id hpo
    have hmb := many_bound o1 o2
    have hpi := (List.getElem?_eq_some_iff.1 hpl).1
    refine (hl.g hv.g).get rfl hpl fun cs hr => ?_
    obtain ⟨rfl, _⟩ := hr
    refine c_ref15_Many hpo fun H3 g3 => ?_
    obtain ⟨n, hn⟩ : ∃ n : Nat, 2 * many p.2.high - 1 = (n : Int) := ⟨(2 * many p.2.high - 1).toNat, by omega⟩
    rw [hn, Int.toNat_natCast] at hfl
    rw [hn]
    refine loop_up n (fun j st H'' => ∃ v, Bd rPl H2 H'' v (plL ((fillT l).take k) ++ ((downL n).take j).map fun b => ((p.1 : Int), b)) ∧ st = [[v], [.int .i64 ((n : Int) - j)]]) ⟨v, by simpa using hv.up g3, by simp⟩ ?_
    rintro j st H'' K2 hj ⟨v2, hv2, rfl⟩ hK2
    try simp only [sv_cons, sv_cons1, sc_cons, sc_cons1, asB_bool, ifB_true, ifB_false, un_not, bin_lss, bin_leq, bin_gtr, bin_geq, bin_eql, bin_neq, bin_add, bin_sub, bin_mul, ok_int, ok_bool, ok_slice, ok_str, ok_ptr, ok_map, ok_func, ok_iface, ok_nil, List.all_cons, List.all_nil, Bool.and_true, Bool.true_and, seg, setSeg, List.drop_succ_cons, List.drop_zero, List.take_succ_cons, List.take_zero, List.cons_append, List.nil_append, List.append_nil, List.length_cons, List.length_nil, List.drop_nil, List.size_toArray, Nat.reduceAdd, Nat.reduceLeDiff, Nat.reduceBEq, Nat.zero_add, Nat.le_refl, decide_true, mkV, List.headD_cons, cellsV, w_fldV, w_ext, w_fldP, List.getElem?_toArray, List.getElem?_cons_zero, List.getElem?_cons_succ, beq_self_eq_true, selV]
    refine ifD_of (fun c2 => ?_) (fun c2 => ?_)
    · have hjn : j < n := by omega
      have hln : ((plL ((fillT l).take k)) ++ ((downL n).take j).map fun b => ((p.1 : Int), b)).length ≤ 127 * 4 + n := by
        rw [List.length_append, List.length_map, List.length_take, downL_len]; omega
      refine hv2.push (Fr.refl _ _) (A' := fun _ => False) (x := ((p.1 : Int), (n : Int) - j)) vrep_pl rfl (by decide) (fun h => by cases h) rfl rfl (fun y hy => hy.elim) (by omega) (by omega) fun v3 H3 hv3 => ?_
      try simp only [sv_cons, sv_cons1, sc_cons, sc_cons1, asB_bool, ifB_true, ifB_false, un_not, bin_lss, bin_leq, bin_gtr, bin_geq, bin_eql, bin_neq, bin_add, bin_sub, bin_mul, ok_int, ok_bool, ok_slice, ok_str, ok_ptr, ok_map, ok_func, ok_iface, ok_nil, List.all_cons, List.all_nil, Bool.and_true, Bool.true_and, seg, setSeg, List.drop_succ_cons, List.drop_zero, List.take_succ_cons, List.take_zero, List.cons_append, List.nil_append, List.append_nil, List.length_cons, List.length_nil, List.drop_nil, List.size_toArray, Nat.reduceAdd, Nat.reduceLeDiff, Nat.reduceBEq, Nat.zero_add, Nat.le_refl, decide_true, mkV, List.headD_cons, cellsV, w_fldV, w_ext, w_fldP, List.getElem?_toArray, List.getElem?_cons_zero, List.getElem?_cons_succ, beq_self_eq_true, selV]
      rw [wrap_i64 (by unfold i64; omega)]
      refine hK2 _ _ hjn ⟨v3, ?_, by rw [show (n : Int) - j - 1 = (n : Int) - ((j + 1 : Nat) : Int) by omega]⟩
      rw [List.take_add_one, downL_get hjn, List.map_append, ← List.append_assoc]
      have : ((n - j : Nat) : Int) = (n : Int) - j := by omega
      simpa [this] using hv3
    · have : j = n := by omega
      subst this
      rw [List.take_of_length_le (l := downL j) (by rw [downL_len]; exact Nat.le_refl _), ← hfl] at hv2
      rw [wrap_i64 (by unfold i64; omega)]
      exact hK _ _ hkl ⟨v2, hv2, by rw [← hp1, show ((l.length - 1 - k : Nat) : Int) - 1 = (l.length : Int) - 1 - ((k + 1 : Nat) : Int) by omega]⟩
  have hkL : k = l.length := by omega
  subst hkL
  have hfl0 : (fillT l).take l.length = fillT l := List.take_of_length_le (by rw [fillT_len]; exact Nat.le_refl _)
  rw [hfl0] at hv
  have e0 : fillT l = allT l cells 0 := by unfold allT; simp
  rw [e0] at hv
  refine loop_up ticks (fun t st H'' => ∃ v, Bd rPl H2 H'' v (plL (allT l cells t)) ∧ st = [[v], [.int .i64 (t : Int)]]) ⟨v, hv, rfl⟩ ?_
  rintro t st H3 K3 htt ⟨v3, hv3, rfl⟩ hK3
  try simp only [sv_cons, sv_cons1, sc_cons, sc_cons1, asB_bool, ifB_true, ifB_false, un_not, bin_lss, bin_leq, bin_gtr, bin_geq, bin_eql, bin_neq, bin_add, bin_sub, bin_mul, ok_int, ok_bool, ok_slice, ok_str, ok_ptr, ok_map, ok_func, ok_iface, ok_nil, List.all_cons, List.all_nil, Bool.and_true, Bool.true_and, seg, setSeg, List.drop_succ_cons, List.drop_zero, List.take_succ_cons, List.take_zero, List.cons_append, List.nil_append, List.append_nil, List.length_cons, List.length_nil, List.drop_nil, List.size_toArray, Nat.reduceAdd, Nat.reduceLeDiff, Nat.reduceBEq, Nat.zero_add, Nat.le_refl, decide_true, mkV, List.headD_cons, cellsV, w_fldV, w_ext, w_fldP, List.getElem?_toArray, List.getElem?_cons_zero, List.getElem?_cons_succ, beq_self_eq_true, selV]
  refine ifD_of (fun c2 => ?_) (fun c2 => ?_)
  · have htl : t < ticks := by omega
    have hA := pl_bound (hTok t)
    have hAl : (allT l cells t).length ≤ 10000 := by
      rw [allT_len]
      have h1 : 4 * l.length * t ≤ 16 * 512 := Nat.mul_le_mul (by omega) (by omega)
      omega
    refine (hl.g hv3.g).len ?_
    try simp only [sv_cons, sv_cons1, sc_cons, sc_cons1, asB_bool, ifB_true, ifB_false, un_not, bin_lss, bin_leq, bin_gtr, bin_geq, bin_eql, bin_neq, bin_add, bin_sub, bin_mul, ok_int, ok_bool, ok_slice, ok_str, ok_ptr, ok_map, ok_func, ok_iface, ok_nil, List.all_cons, List.all_nil, Bool.and_true, Bool.true_and, seg, setSeg, List.drop_succ_cons, List.drop_zero, List.take_succ_cons, List.take_zero, List.cons_append, List.nil_append, List.append_nil, List.length_cons, List.length_nil, List.drop_nil, List.size_toArray, Nat.reduceAdd, Nat.reduceLeDiff, Nat.reduceBEq, Nat.zero_add, Nat.le_refl, decide_true, mkV, List.headD_cons, cellsV, w_fldV, w_ext, w_fldP, List.getElem?_toArray, List.getElem?_cons_zero, List.getElem?_cons_succ, beq_self_eq_true, selV]
    rw [wrap_i64 (x := (l.length : Int) - 1) (by unfold i64; omega)]
    refine loop_up l.length (fun k st H'' => ∃ v, Bd rPl H2 H'' v (plL (allT l cells t) ++ plL (((backL l).take k).flatMap (levelT cells t))) ∧ st = [[v], [.int .i64 ((l.length : Int) - 1 - k)]]) ⟨v3, by simpa [plL] using hv3, by simp⟩ ?_
    rintro k st H4 K4 hk4 ⟨v4, hv4, rfl⟩ hK4
    try simp only [sv_cons, sv_cons1, sc_cons, sc_cons1, asB_bool, ifB_true, ifB_false, un_not, bin_lss, bin_leq, bin_gtr, bin_geq, bin_eql, bin_neq, bin_add, bin_sub, bin_mul, ok_int, ok_bool, ok_slice, ok_str, ok_ptr, ok_map, ok_func, ok_iface, ok_nil, List.all_cons, List.all_nil, Bool.and_true, Bool.true_and, seg, setSeg, List.drop_succ_cons, List.drop_zero, List.take_succ_cons, List.take_zero, List.cons_append, List.nil_append, List.append_nil, List.length_cons, List.length_nil, List.drop_nil, List.size_toArray, Nat.reduceAdd, Nat.reduceLeDiff, Nat.reduceBEq, Nat.zero_add, Nat.le_refl, decide_true, mkV, List.headD_cons, cellsV, w_fldV, w_ext, w_fldP, List.getElem?_toArray, List.getElem?_cons_zero, List.getElem?_cons_succ, beq_self_eq_true, selV]
    refine ifD_of (fun c3 => ?_) (fun c3 => ?_)
    · have hkl : k < l.length := by omega
      have hp := backL_get hkl
      have hpl := (backL_mem hp).1
      have hTKok : ∀ u ∈ ((backL l).take k).flatMap (levelT cells t), TOk l u := fun u hu => by
        obtain ⟨q, hq, hq2⟩ := List.mem_flatMap.1 hu
        have h1 := backL_at (List.mem_of_mem_take hq)
        exact level_ok h1 (hok _ (List.mem_of_getElem? h1)) u hq2
      have hTK := pl_bound hTKok
      have hTKl : (((backL l).take k).flatMap (levelT cells t)).length ≤ 16 := by
        rw [flat_len (n := 4) _ _ fun _ _ => levelT_len, List.length_take]; omega
      have hstep : ((backL l).take (k + 1)).flatMap (levelT cells t) = ((backL l).take k).flatMap (levelT cells t) ++ levelT cells t (l.length - 1 - k, l[l.length - 1 - k]'(by omega)) := by
        rw [List.take_add_one, hp, List.flatMap_append]; simp
      rw [show (l.length : Int) - 1 - k = ((l.length - 1 - k : Nat) : Int) by omega]
      generalize hpp : (l.length - 1 - k, l[l.length - 1 - k]'(by omega)) = p at *
      have hp1 : l.length - 1 - k = p.1 := by rw [← hpp]
      rw [hp1]
      have hpo := hok _ (List.mem_of_getElem? hpl)
      obtain ⟨_, _, _, _, o1, o2, _, _⟩ := id hpo
      have hpi := (List.getElem?_eq_some_iff.1 hpl).1
      have hph := pow_le64 (h := p.2.high.toNat) (by omega)
      have hLVok := level_ok (cells := cells) (t := t) hpl hpo
      generalize hX : plL (allT l cells t) ++ plL (((backL l).take k).flatMap (levelT cells t)) = X at *
      have hXl : X.length ≤ 127 * 10016 := by rw [← hX, List.length_append]; omega
      refine loop_up 2 (fun tn st H'' => ∃ v, Bd rPl H2 H'' v (X ++ plL ((levelT cells t p).take (2 * tn))) ∧ st = [[v], [.int .i64 (tn : Int)]]) ⟨v4, by simpa [plL] using hv4, rfl⟩ ?_
      rintro tn st H5 K5 htn ⟨v5, hv5, rfl⟩ hK5
      try simp only [sv_cons, sv_cons1, sc_cons, sc_cons1, asB_bool, ifB_true, ifB_false, un_not, bin_lss, bin_leq, bin_gtr, bin_geq, bin_eql, bin_neq, bin_add, bin_sub, bin_mul, ok_int, ok_bool, ok_slice, ok_str, ok_ptr, ok_map, ok_func, ok_iface, ok_nil, List.all_cons, List.all_nil, Bool.and_true, Bool.true_and, seg, setSeg, List.drop_succ_cons, List.drop_zero, List.take_succ_cons, List.take_zero, List.cons_append, List.nil_append, List.append_nil, List.length_cons, List.length_nil, List.drop_nil, List.size_toArray, Nat.reduceAdd, Nat.reduceLeDiff, Nat.reduceBEq, Nat.zero_add, Nat.le_refl, decide_true, mkV, List.headD_cons, cellsV, w_fldV, w_ext, w_fldP, List.getElem?_toArray, List.getElem?_cons_zero, List.getElem?_cons_succ, beq_self_eq_true, selV]
      refine ifD_of (fun c4 => ?_) (fun c4 => ?_)
      · have htn2 : tn < 2 := by omega
        have hLV := pl_bound (T := (levelT cells t p).take (2 * tn)) fun u hu => hLVok u (List.mem_of_mem_take hu)
        have hLVl : ((levelT cells t p).take (2 * tn)).length ≤ 4 := by rw [List.length_take, levelT_len]; omega
        have hlt := level_take (cells := cells) (t := t) (p := p) htn2
        have hl5 := hl.g hv5.g
        have hc5 := hc.g (hgg.trans hv5.g)
        have hxi : cells[p.1]? = some (cells[p.1]'(by rw [hco.1]; exact hpi)) := List.getElem?_eq_getElem _
        have hxl := hco.2 _ (List.mem_of_getElem? hxi)
        have hD : cells.getD p.1 [] = cells[p.1]'(by rw [hco.1]; exact hpi) := by rw [List.getD_eq_getElem?_getD, hxi]; rfl
        rw [hD] at hlt
        generalize cells[p.1]'(by rw [hco.1]; exact hpi) = x at *
        have hci : x[2 * t]? = some (x[2 * t]'(by omega)) := List.getElem?_eq_getElem _
        have hD2 : x.getD (2 * t) 0 = x[2 * t]'(by omega) := by rw [List.getD_eq_getElem?_getD, hci]; rfl
        rw [hD2] at hlt
        generalize x[2 * t]'(by omega) = cv at *
        refine hl5.at rfl hpl fun q cs hq hr => ?_
        obtain ⟨rfl, _⟩ := hr
        refine hq.fld1 (by simp) fun q1 hq1 => hq1.load rfl ?_
        try simp only [sv_cons, sv_cons1, sc_cons, sc_cons1, asB_bool, ifB_true, ifB_false, un_not, bin_lss, bin_leq, bin_gtr, bin_geq, bin_eql, bin_neq, bin_add, bin_sub, bin_mul, ok_int, ok_bool, ok_slice, ok_str, ok_ptr, ok_map, ok_func, ok_iface, ok_nil, List.all_cons, List.all_nil, Bool.and_true, Bool.true_and, seg, setSeg, List.drop_succ_cons, List.drop_zero, List.take_succ_cons, List.take_zero, List.cons_append, List.nil_append, List.append_nil, List.length_cons, List.length_nil, List.drop_nil, List.size_toArray, Nat.reduceAdd, Nat.reduceLeDiff, Nat.reduceBEq, Nat.zero_add, Nat.le_refl, decide_true, mkV, List.headD_cons, cellsV, w_fldV, w_ext, w_fldP, List.getElem?_toArray, List.getElem?_cons_zero, List.getElem?_cons_succ, beq_self_eq_true, selV]
        refine hc5.atS hxi fun q2 u hq2 hu => hq2.load rfl ?_
        try simp only [sv_cons, sv_cons1, sc_cons, sc_cons1, asB_bool, ifB_true, ifB_false, un_not, bin_lss, bin_leq, bin_gtr, bin_geq, bin_eql, bin_neq, bin_add, bin_sub, bin_mul, ok_int, ok_bool, ok_slice, ok_str, ok_ptr, ok_map, ok_func, ok_iface, ok_nil, List.all_cons, List.all_nil, Bool.and_true, Bool.true_and, seg, setSeg, List.drop_succ_cons, List.drop_zero, List.take_succ_cons, List.take_zero, List.cons_append, List.nil_append, List.append_nil, List.length_cons, List.length_nil, List.drop_nil, List.size_toArray, Nat.reduceAdd, Nat.reduceLeDiff, Nat.reduceBEq, Nat.zero_add, Nat.le_refl, decide_true, mkV, List.headD_cons, cellsV, w_fldV, w_ext, w_fldP, List.getElem?_toArray, List.getElem?_cons_zero, List.getElem?_cons_succ, beq_self_eq_true, selV]
        rw [wrap_i64 (x := 2 * (t : Int)) (by unfold i64; omega), show (2 * (t : Int)) = ((2 * t : Nat) : Int) by omega]
        refine hu.getI hci fun hr => ?_
        have hcv : 0 ≤ cv ∧ cv < 4294967296 := by
          have : cv % 4294967296 = cv := hr
          omega
        rw [show (Value.int IntKind.u32 cv) = .int .u32 (cv.toNat : Int) by rw [Int.toNat_of_nonneg hcv.1]]
        refine c_ref19_Of ⟨o1, o2⟩ (by omega) ?_
        refine ⟨hq2.load rfl rfl, ?_⟩
        try simp only [sv_cons, sv_cons1, sc_cons, sc_cons1, asB_bool, ifB_true, ifB_false, un_not, bin_lss, bin_leq, bin_gtr, bin_geq, bin_eql, bin_neq, bin_add, bin_sub, bin_mul, ok_int, ok_bool, ok_slice, ok_str, ok_ptr, ok_map, ok_func, ok_iface, ok_nil, List.all_cons, List.all_nil, Bool.and_true, Bool.true_and, seg, setSeg, List.drop_succ_cons, List.drop_zero, List.take_succ_cons, List.take_zero, List.cons_append, List.nil_append, List.append_nil, List.length_cons, List.length_nil, List.drop_nil, List.size_toArray, Nat.reduceAdd, Nat.reduceLeDiff, Nat.reduceBEq, Nat.zero_add, Nat.le_refl, decide_true, mkV, List.headD_cons, cellsV, w_fldV, w_ext, w_fldP, List.getElem?_toArray, List.getElem?_cons_zero, List.getElem?_cons_succ, beq_self_eq_true, selV]
        refine join_of (fun s H'' => H'' = H5 ∧ s = [[.int .i64 (leafN p.2 cv.toNat t tn : Nat)]]) (fun K6 hK6 => ?_) ?_
        · refine ifD_of (fun c5 => ?_) (fun c5 => ?_)
          · refine hl5.at rfl hpl fun q cs hq hr => ?_
            obtain ⟨rfl, _⟩ := hr
            refine hq.fld1 (by simp) fun q1 hq1 => hq1.load rfl ?_
            rw [cv_nat (by show t < 2 ^ 64; omega)]
            refine c_ref07_Turned ⟨o1, o2⟩ (by omega) ?_
            exact hK6 _ _ ⟨rfl, by unfold leafN; rw [if_pos (by omega)]⟩
          · exact hK6 _ _ ⟨rfl, by unfold leafN; rw [if_neg (by omega)]⟩
        rintro s H'' ⟨rfl, rfl⟩
        have hlf := leaf_lt (cell := cv.toNat) (t := t) (tn := tn) hpo
        generalize leafN p.2 cv.toNat t tn = lf at *
        refine hl5.at rfl hpl fun q cs hq hr => ?_
        obtain ⟨rfl, _⟩ := hr
        refine hq.fld1 (by simp) fun q1 hq1 => hq1.load rfl ?_
        try simp only [sv_cons, sv_cons1, sc_cons, sc_cons1, asB_bool, ifB_true, ifB_false, un_not, bin_lss, bin_leq, bin_gtr, bin_geq, bin_eql, bin_neq, bin_add, bin_sub, bin_mul, ok_int, ok_bool, ok_slice, ok_str, ok_ptr, ok_map, ok_func, ok_iface, ok_nil, List.all_cons, List.all_nil, Bool.and_true, Bool.true_and, seg, setSeg, List.drop_succ_cons, List.drop_zero, List.take_succ_cons, List.take_zero, List.cons_append, List.nil_append, List.append_nil, List.length_cons, List.length_nil, List.drop_nil, List.size_toArray, Nat.reduceAdd, Nat.reduceLeDiff, Nat.reduceBEq, Nat.zero_add, Nat.le_refl, decide_true, mkV, List.headD_cons, cellsV, w_fldV, w_ext, w_fldP, List.getElem?_toArray, List.getElem?_cons_zero, List.getElem?_cons_succ, beq_self_eq_true, selV]
        refine c_ref07_Way ⟨o1, o2⟩ (by rw [many_nat]; omega) fun wv H6 hw g6 => ?_
        have hwl := wayL_len (h := p.2.high) (n := (lf : Int))
        have hww := fun i b (hb : (wayL p.2.high (lf : Int))[i]? = some b) => wayL_wrap ⟨o1, o2⟩ hlf hb
        generalize wayL p.2.high (lf : Int) = way at *
        have hlt2 : plL ((levelT cells t p).take (2 * (tn + 1))) = plL ((levelT cells t p).take (2 * tn)) ++ ((way.map fun b => ((p.1 : Int), -b)) ++ way.reverse.map fun b => ((p.1 : Int), b)) := by rw [hlt, plL_app, pl_path]
        have hv6 := Bw.of hv5 hw g6
        generalize hY : X ++ plL ((levelT cells t p).take (2 * tn)) = Y at *
        have hYl : Y.length ≤ 127 * 10020 := by rw [← hY, List.length_append]; omega
        have hw7 : way.length ≤ 7 := by omega
        refine loop_up way.length (fun k st Ha => ∃ v, Bw H2 Ha v wv (Y ++ (way.take k).map fun b => ((p.1 : Int), -b)) way ∧ st = [[v], [.int .i64 (k : Int)]]) ⟨v5, by simpa using hv6, rfl⟩ ?_
        rintro k2 st Ha K7 hk7 ⟨va, ha, rfl⟩ hK7
        obtain ⟨D, hwa⟩ := ha.sl
        refine hwa.len ?_
        try simp only [sv_cons, sv_cons1, sc_cons, sc_cons1, asB_bool, ifB_true, ifB_false, un_not, bin_lss, bin_leq, bin_gtr, bin_geq, bin_eql, bin_neq, bin_add, bin_sub, bin_mul, ok_int, ok_bool, ok_slice, ok_str, ok_ptr, ok_map, ok_func, ok_iface, ok_nil, List.all_cons, List.all_nil, Bool.and_true, Bool.true_and, seg, setSeg, List.drop_succ_cons, List.drop_zero, List.take_succ_cons, List.take_zero, List.cons_append, List.nil_append, List.append_nil, List.length_cons, List.length_nil, List.drop_nil, List.size_toArray, Nat.reduceAdd, Nat.reduceLeDiff, Nat.reduceBEq, Nat.zero_add, Nat.le_refl, decide_true, mkV, List.headD_cons, cellsV, w_fldV, w_ext, w_fldP, List.getElem?_toArray, List.getElem?_cons_zero, List.getElem?_cons_succ, beq_self_eq_true, selV]
        refine ifD_of (fun c6 => ?_) (fun c6 => ?_)
        · have hlt7 : k2 < way.length := by omega
          have hx7 : way[k2]? = some way[k2] := List.getElem?_eq_getElem hlt7
          have hb7 := hww _ _ hx7
          have tk7 : way.take (k2 + 1) = way.take k2 ++ [way[k2]] := List.take_succ_eq_append_getElem hlt7
          generalize way[k2] = b7 at *
          refine hwa.getI hx7 fun _ => ?_
          try simp only [sv_cons, sv_cons1, sc_cons, sc_cons1, asB_bool, ifB_true, ifB_false, un_not, bin_lss, bin_leq, bin_gtr, bin_geq, bin_eql, bin_neq, bin_add, bin_sub, bin_mul, ok_int, ok_bool, ok_slice, ok_str, ok_ptr, ok_map, ok_func, ok_iface, ok_nil, List.all_cons, List.all_nil, Bool.and_true, Bool.true_and, seg, setSeg, List.drop_succ_cons, List.drop_zero, List.take_succ_cons, List.take_zero, List.cons_append, List.nil_append, List.append_nil, List.length_cons, List.length_nil, List.drop_nil, List.size_toArray, Nat.reduceAdd, Nat.reduceLeDiff, Nat.reduceBEq, Nat.zero_add, Nat.le_refl, decide_true, mkV, List.headD_cons, cellsV, w_fldV, w_ext, w_fldP, List.getElem?_toArray, List.getElem?_cons_zero, List.getElem?_cons_succ, beq_self_eq_true, selV, un_neg]
          rw [wrap_i64 (x := -b7) (by unfold i64; omega)]
          try simp only [sv_cons, sv_cons1, sc_cons, sc_cons1, asB_bool, ifB_true, ifB_false, un_not, bin_lss, bin_leq, bin_gtr, bin_geq, bin_eql, bin_neq, bin_add, bin_sub, bin_mul, ok_int, ok_bool, ok_slice, ok_str, ok_ptr, ok_map, ok_func, ok_iface, ok_nil, List.all_cons, List.all_nil, Bool.and_true, Bool.true_and, seg, setSeg, List.drop_succ_cons, List.drop_zero, List.take_succ_cons, List.take_zero, List.cons_append, List.nil_append, List.append_nil, List.length_cons, List.length_nil, List.drop_nil, List.size_toArray, Nat.reduceAdd, Nat.reduceLeDiff, Nat.reduceBEq, Nat.zero_add, Nat.le_refl, decide_true, mkV, List.headD_cons, cellsV, w_fldV, w_ext, w_fldP, List.getElem?_toArray, List.getElem?_cons_zero, List.getElem?_cons_succ, beq_self_eq_true, selV]
          refine ha.push rfl rfl (by rw [List.length_append, List.length_map, List.length_take]; omega) (by rw [List.length_append, List.length_map, List.length_take]; omega) fun vb Hb hb => ?_
          try simp only [sv_cons, sv_cons1, sc_cons, sc_cons1, asB_bool, ifB_true, ifB_false, un_not, bin_lss, bin_leq, bin_gtr, bin_geq, bin_eql, bin_neq, bin_add, bin_sub, bin_mul, ok_int, ok_bool, ok_slice, ok_str, ok_ptr, ok_map, ok_func, ok_iface, ok_nil, List.all_cons, List.all_nil, Bool.and_true, Bool.true_and, seg, setSeg, List.drop_succ_cons, List.drop_zero, List.take_succ_cons, List.take_zero, List.cons_append, List.nil_append, List.append_nil, List.length_cons, List.length_nil, List.drop_nil, List.size_toArray, Nat.reduceAdd, Nat.reduceLeDiff, Nat.reduceBEq, Nat.zero_add, Nat.le_refl, decide_true, mkV, List.headD_cons, cellsV, w_fldV, w_ext, w_fldP, List.getElem?_toArray, List.getElem?_cons_zero, List.getElem?_cons_succ, beq_self_eq_true, selV]
          rw [wrap_i64 (x := (k2 : Int) + 1) (by unfold i64; omega)]
          refine hK7 _ _ hlt7 ⟨vb, ?_, by simp⟩
          rw [tk7, List.map_append, ← List.append_assoc]
          exact hb
        · have : k2 = way.length := by omega
          subst this
          rw [List.take_of_length_le (l := way) (Nat.le_refl _)] at ha
          refine hwa.len ?_
          try simp only [sv_cons, sv_cons1, sc_cons, sc_cons1, asB_bool, ifB_true, ifB_false, un_not, bin_lss, bin_leq, bin_gtr, bin_geq, bin_eql, bin_neq, bin_add, bin_sub, bin_mul, ok_int, ok_bool, ok_slice, ok_str, ok_ptr, ok_map, ok_func, ok_iface, ok_nil, List.all_cons, List.all_nil, Bool.and_true, Bool.true_and, seg, setSeg, List.drop_succ_cons, List.drop_zero, List.take_succ_cons, List.take_zero, List.cons_append, List.nil_append, List.append_nil, List.length_cons, List.length_nil, List.drop_nil, List.size_toArray, Nat.reduceAdd, Nat.reduceLeDiff, Nat.reduceBEq, Nat.zero_add, Nat.le_refl, decide_true, mkV, List.headD_cons, cellsV, w_fldV, w_ext, w_fldP, List.getElem?_toArray, List.getElem?_cons_zero, List.getElem?_cons_succ, beq_self_eq_true, selV]
          rw [wrap_i64 (x := (way.length : Int) - 1) (by unfold i64; omega)]
          refine loop_up way.length (fun k st Ha => ∃ v, Bw H2 Ha v wv ((Y ++ way.map fun b => ((p.1 : Int), -b)) ++ (way.reverse.take k).map fun b => ((p.1 : Int), b)) way ∧ st = [[v], [.int .i64 ((way.length : Int) - 1 - k)]]) ⟨va, by simpa using ha, by simp⟩ ?_
          rintro k3 st Hc K8 hk8 ⟨vc, hcc, rfl⟩ hK8
          obtain ⟨D2, hwc⟩ := hcc.sl
          try simp only [sv_cons, sv_cons1, sc_cons, sc_cons1, asB_bool, ifB_true, ifB_false, un_not, bin_lss, bin_leq, bin_gtr, bin_geq, bin_eql, bin_neq, bin_add, bin_sub, bin_mul, ok_int, ok_bool, ok_slice, ok_str, ok_ptr, ok_map, ok_func, ok_iface, ok_nil, List.all_cons, List.all_nil, Bool.and_true, Bool.true_and, seg, setSeg, List.drop_succ_cons, List.drop_zero, List.take_succ_cons, List.take_zero, List.cons_append, List.nil_append, List.append_nil, List.length_cons, List.length_nil, List.drop_nil, List.size_toArray, Nat.reduceAdd, Nat.reduceLeDiff, Nat.reduceBEq, Nat.zero_add, Nat.le_refl, decide_true, mkV, List.headD_cons, cellsV, w_fldV, w_ext, w_fldP, List.getElem?_toArray, List.getElem?_cons_zero, List.getElem?_cons_succ, beq_self_eq_true, selV]
          refine ifD_of (fun c7 => ?_) (fun c7 => ?_)
          · have hlt8 : k3 < way.length := by omega
            have hx8 : way[way.length - 1 - k3]? = some (way[way.length - 1 - k3]'(by omega)) := List.getElem?_eq_getElem _
            have tk8 : way.reverse.take (k3 + 1) = way.reverse.take k3 ++ [way[way.length - 1 - k3]'(by omega)] := by
              rw [List.take_add_one, List.getElem?_reverse hlt8, hx8]; rfl
            generalize way[way.length - 1 - k3]'(by omega) = b8 at *
            rw [show (way.length : Int) - 1 - k3 = ((way.length - 1 - k3 : Nat) : Int) by omega]
            refine hwc.getI hx8 fun _ => ?_
            try simp only [sv_cons, sv_cons1, sc_cons, sc_cons1, asB_bool, ifB_true, ifB_false, un_not, bin_lss, bin_leq, bin_gtr, bin_geq, bin_eql, bin_neq, bin_add, bin_sub, bin_mul, ok_int, ok_bool, ok_slice, ok_str, ok_ptr, ok_map, ok_func, ok_iface, ok_nil, List.all_cons, List.all_nil, Bool.and_true, Bool.true_and, seg, setSeg, List.drop_succ_cons, List.drop_zero, List.take_succ_cons, List.take_zero, List.cons_append, List.nil_append, List.append_nil, List.length_cons, List.length_nil, List.drop_nil, List.size_toArray, Nat.reduceAdd, Nat.reduceLeDiff, Nat.reduceBEq, Nat.zero_add, Nat.le_refl, decide_true, mkV, List.headD_cons, cellsV, w_fldV, w_ext, w_fldP, List.getElem?_toArray, List.getElem?_cons_zero, List.getElem?_cons_succ, beq_self_eq_true, selV]
            refine hcc.push rfl rfl (by rw [List.length_append, List.length_append, List.length_map, List.length_map, List.length_take, List.length_reverse]; omega) (by rw [List.length_append, List.length_append, List.length_map, List.length_map, List.length_take, List.length_reverse]; omega) fun vb Hb hb => ?_
            try simp only [sv_cons, sv_cons1, sc_cons, sc_cons1, asB_bool, ifB_true, ifB_false, un_not, bin_lss, bin_leq, bin_gtr, bin_geq, bin_eql, bin_neq, bin_add, bin_sub, bin_mul, ok_int, ok_bool, ok_slice, ok_str, ok_ptr, ok_map, ok_func, ok_iface, ok_nil, List.all_cons, List.all_nil, Bool.and_true, Bool.true_and, seg, setSeg, List.drop_succ_cons, List.drop_zero, List.take_succ_cons, List.take_zero, List.cons_append, List.nil_append, List.append_nil, List.length_cons, List.length_nil, List.drop_nil, List.size_toArray, Nat.reduceAdd, Nat.reduceLeDiff, Nat.reduceBEq, Nat.zero_add, Nat.le_refl, decide_true, mkV, List.headD_cons, cellsV, w_fldV, w_ext, w_fldP, List.getElem?_toArray, List.getElem?_cons_zero, List.getElem?_cons_succ, beq_self_eq_true, selV]
            rw [wrap_i64 (x := ((way.length - 1 - k3 : Nat) : Int) - 1) (by unfold i64; omega)]
            refine hK8 _ _ hlt8 ⟨vb, ?_, by rw [show ((way.length - 1 - k3 : Nat) : Int) - 1 = (way.length : Int) - 1 - ((k3 + 1 : Nat) : Int) by omega]⟩
            rw [tk8, List.map_append, ← List.append_assoc]
            exact hb
          · have : k3 = way.length := by omega
            subst this
            rw [List.take_of_length_le (l := way.reverse) (by rw [List.length_reverse]; exact Nat.le_refl _), List.append_assoc, ← hY, List.append_assoc, ← hlt2] at hcc
            try simp only [sv_cons, sv_cons1, sc_cons, sc_cons1, asB_bool, ifB_true, ifB_false, un_not, bin_lss, bin_leq, bin_gtr, bin_geq, bin_eql, bin_neq, bin_add, bin_sub, bin_mul, ok_int, ok_bool, ok_slice, ok_str, ok_ptr, ok_map, ok_func, ok_iface, ok_nil, List.all_cons, List.all_nil, Bool.and_true, Bool.true_and, seg, setSeg, List.drop_succ_cons, List.drop_zero, List.take_succ_cons, List.take_zero, List.cons_append, List.nil_append, List.append_nil, List.length_cons, List.length_nil, List.drop_nil, List.size_toArray, Nat.reduceAdd, Nat.reduceLeDiff, Nat.reduceBEq, Nat.zero_add, Nat.le_refl, decide_true, mkV, List.headD_cons, cellsV, w_fldV, w_ext, w_fldP, List.getElem?_toArray, List.getElem?_cons_zero, List.getElem?_cons_succ, beq_self_eq_true, selV]
            rw [wrap_i64 (x := (tn : Int) + 1) (by unfold i64; omega)]
            exact hK5 _ _ htn2 ⟨vc, hcc.bd, by simp⟩
      · have : tn = 2 := by omega
        subst this
        have e4 : (levelT cells t p).take (2 * 2) = levelT cells t p := List.take_of_length_le (by rw [levelT_len]; omega)
        rw [e4, ← hX, List.append_assoc, ← plL_app, ← hstep] at hv5
        rw [wrap_i64 (by unfold i64; omega)]
        exact hK4 _ _ hkl ⟨v5, hv5, by rw [← hp1, show ((l.length - 1 - k : Nat) : Int) - 1 = (l.length : Int) - 1 - ((k + 1 : Nat) : Int) by omega]⟩
    · have : k = l.length := by omega
      subst this
      rw [List.take_of_length_le (by rw [backL_len]; exact Nat.le_refl _)] at hv4
      try simp only [sv_cons, sv_cons1, sc_cons, sc_cons1, asB_bool, ifB_true, ifB_false, un_not, bin_lss, bin_leq, bin_gtr, bin_geq, bin_eql, bin_neq, bin_add, bin_sub, bin_mul, ok_int, ok_bool, ok_slice, ok_str, ok_ptr, ok_map, ok_func, ok_iface, ok_nil, List.all_cons, List.all_nil, Bool.and_true, Bool.true_and, seg, setSeg, List.drop_succ_cons, List.drop_zero, List.take_succ_cons, List.take_zero, List.cons_append, List.nil_append, List.append_nil, List.length_cons, List.length_nil, List.drop_nil, List.size_toArray, Nat.reduceAdd, Nat.reduceLeDiff, Nat.reduceBEq, Nat.zero_add, Nat.le_refl, decide_true, mkV, List.headD_cons, cellsV, w_fldV, w_ext, w_fldP, List.getElem?_toArray, List.getElem?_cons_zero, List.getElem?_cons_succ, beq_self_eq_true, selV]
      rw [wrap_i64 (by unfold i64; omega)]
      refine hK3 _ _ htl ⟨v4, ?_, by simp⟩
      rw [pl_tick]
      exact hv4
  · have : t = ticks := by omega
    subst this
    exact hQ v3 H3 (hv3.sl.mono fun y hy _ => by omega) (hgg.trans hv3.g)

end Go.Proofs.Ytlalkgkicccjiaa
