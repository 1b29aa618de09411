/- Contracts: the document's answer for orders. -/
import Derived.Test.YtikebhnnmnlgaaaConOrd1
namespace Go.Proofs.Ytikebhnnmnlgaaa
open Go.Ab Go.Md
set_option linter.unusedVariables false
set_option linter.unusedSimpArgs false
set_option maxRecDepth 20000

variable {H : Heap} {Q : Value → Heap → Prop} {A B C : Nat → Prop}

theorem mayU_page {c : Cfg} {u : Unt} (h : mayU c u = true) (hk : u.kind ≠ 0) : 0 ≤ u.page ∧ u.page < c.pages := by
  unfold mayU at h
  rw [if_neg hk] at h
  split at h
  · exact (of_decide_eq_true h).1
  · split at h
    · exact (of_decide_eq_true h).1
    · cases h

theorem c_ref21_block {c : Cfg} {u : Unt} {v : Value} {i : Nat} (hc : c.num) (hu : u.kind ≠ 0 → 0 ≤ u.page ∧ u.page < c.pages) (hi : i < c.all.length) (hQ : ∀ H', G H H' → Q (.int .i64 (blkU c i u)) H') :
    callV Try.prog (fnV fn_ref21_block) [.agg (cCfg c).toArray, .agg #[.int .u8 u.kind, .int .i64 u.page, .int .i64 u.frame, v], .int .i64 (i : Int)] H Q := by
  apply S_ref21_block_of
  unfold S_ref21_block
  refine newT_of fun H1 g1 _ => newT_of fun H2 g2 _ => ?_
  have g := g1.trans g2
  unfold blkU at hQ
  try simp only [sv_cons, sv_cons1, sc_cons, sc_cons1, asB_bool, ifB_true, ifB_false, un_not, bin_lss, bin_leq, bin_gtr, bin_geq, bin_eql, bin_neq, bin_add, bin_sub, bin_mul, ok_int, ok_bool, ok_slice, ok_str, ok_ptr, ok_map, ok_func, ok_iface, ok_nil, List.all_cons, List.all_nil, Bool.and_true, Bool.true_and, seg, setSeg, List.drop_succ_cons, List.drop_zero, List.take_succ_cons, List.take_zero, List.cons_append, List.nil_append, List.append_nil, List.length_cons, List.length_nil, List.drop_nil, List.size_toArray, Nat.reduceAdd, Nat.reduceLeDiff, Nat.reduceBEq, Nat.zero_add, Nat.le_refl, decide_true, mkV, List.headD_cons, cellsV, w_fldV, w_ext, w_fldP, List.getElem?_toArray, List.getElem?_cons_zero, List.getElem?_cons_succ, beq_self_eq_true, selV]
  refine ifD_of (fun h => ?_) (fun h => ?_)
  · rw [if_pos h] at hQ; exact hQ _ g
  · rw [if_neg h] at hQ
    have hp := hu h
    have hpg := hc.1
    refine c_ref08_Way hc (by omega) fun v w H3 hv hw g3 => ?_
    try simp only [sv_cons, sv_cons1, sc_cons, sc_cons1, asB_bool, ifB_true, ifB_false, un_not, bin_lss, bin_leq, bin_gtr, bin_geq, bin_eql, bin_neq, bin_add, bin_sub, bin_mul, ok_int, ok_bool, ok_slice, ok_str, ok_ptr, ok_map, ok_func, ok_iface, ok_nil, List.all_cons, List.all_nil, Bool.and_true, Bool.true_and, seg, setSeg, List.drop_succ_cons, List.drop_zero, List.take_succ_cons, List.take_zero, List.cons_append, List.nil_append, List.append_nil, List.length_cons, List.length_nil, List.drop_nil, List.size_toArray, Nat.reduceAdd, Nat.reduceLeDiff, Nat.reduceBEq, Nat.zero_add, Nat.le_refl, decide_true, mkV, List.headD_cons, cellsV, w_fldV, w_ext, w_fldP, List.getElem?_toArray, List.getElem?_cons_zero, List.getElem?_cons_succ, beq_self_eq_true, selV]
    exact hv.getI (blocks_get hi) fun _ => hQ _ (g.trans g3)

theorem blk_range {c : Cfg} (hc : c.num) {l : List Unt} (hl : ∀ u ∈ l, mayU c u = true) {i t : Nat} (ht : t < l.length) : -1 ≤ blkAt c l i t ∧ blkAt c l i t ≤ 64 := by
  unfold blkAt blkU
  rw [List.getD_eq_getElem?_getD, List.getElem?_eq_getElem ht]
  simp only [Option.getD_some]
  split
  · omega
  · rename_i h
    have hp := mayU_page (hl _ (List.getElem_mem ht)) h
    have hpg := hc.1
    have := pAt_small hc (p := l[t].page) (by omega) i
    omega

theorem blkAt_eq {c : Cfg} {l : List Unt} {i t : Nat} (ht : t < l.length) : blkAt c l i t = blkU c i l[t] := by
  unfold blkAt
  rw [List.getD_eq_getElem?_getD, List.getElem?_eq_getElem ht]; rfl

theorem lastIdx_succ {f : Nat → Int} {b : Int} {t : Nat} : lastIdx f b (t + 1) = if f t = b then some t else lastIdx f b t := rfl

theorem c_ref21_Told {c : Cfg} {l : List Unt} {v : Value} {i t : Nat} (hc : c.num) (hv : Sl rUnt H A v l) (hl : ∀ u ∈ l, mayU c u = true) (hn : l.length ≤ 512) (hi : i < c.all.length) (ht : t < l.length)
    (hQ : ∀ H', G H H' → Q (.int .i64 (toldF (blkAt c l i) t)) H') : callV Try.prog (fnV fn_ref21_Told) [.agg (cCfg c).toArray, v, .int .i64 (i : Int), .int .i64 (t : Int)] H Q := by
  apply S_ref21_Told_of
  unfold S_ref21_Told
  refine newT_of fun H1 g1 _ => ?_
  have one : ∀ (j : Nat) (hj : j < l.length) H2, G H H2 → ∀ k : Value → Heap → Prop, (∀ H3, G H H3 → k (.int .i64 (blkAt c l i j)) H3) →
      idxS 4 v (.int .i64 (j : Int)) fun t14 => loadP true 4 t14 H2 fun t15 => callV Try.prog (fnV fn_ref21_block) [.agg (cCfg c).toArray, t15, .int .i64 (i : Int)] H2 k := fun j hj H2 g k hk => by
    refine (hv.g g).get rfl (List.getElem?_eq_getElem hj) fun cs hr => ?_
    obtain ⟨w, rfl, hw⟩ := hr
    exact c_ref21_block hc (fun h => mayU_page (hl _ (List.getElem_mem hj)) h) hi fun H3 g3 => by rw [← blkAt_eq hj]; exact hk _ (g.trans g3)
  refine one t ht H1 g1 _ fun H2 g2 => ?_
  have hb := blk_range hc hl (i := i) ht
  try simp only [sv_cons, sv_cons1, sc_cons, sc_cons1, asB_bool, ifB_true, ifB_false, un_not, bin_lss, bin_leq, bin_gtr, bin_geq, bin_eql, bin_neq, bin_add, bin_sub, bin_mul, ok_int, ok_bool, ok_slice, ok_str, ok_ptr, ok_map, ok_func, ok_iface, ok_nil, List.all_cons, List.all_nil, Bool.and_true, Bool.true_and, seg, setSeg, List.drop_succ_cons, List.drop_zero, List.take_succ_cons, List.take_zero, List.cons_append, List.nil_append, List.append_nil, List.length_cons, List.length_nil, List.drop_nil, List.size_toArray, Nat.reduceAdd, Nat.reduceLeDiff, Nat.reduceBEq, Nat.zero_add, Nat.le_refl, decide_true, mkV, List.headD_cons, cellsV, w_fldV, w_ext, w_fldP, List.getElem?_toArray, List.getElem?_cons_zero, List.getElem?_cons_succ, beq_self_eq_true, selV]
  rw [wrap_i64 (x := (t : Int) - 1) (by unfold i64; omega)]
  unfold toldF at hQ
  generalize hf : blkAt c l i t = b at *
  refine loop_up t (fun n s H' => G H H' ∧ s = [[.int .i64 ((t : Int) - 1 - n)]] ∧ lastIdx (blkAt c l i) b (t - n) = lastIdx (blkAt c l i) b t) ⟨g2, by simp, rfl⟩ ?_
  rintro n s H3 K hnt ⟨g3, rfl, hlast⟩ hK
  refine join_of (fun s H' => H' = H3 ∧ s = [[.bool (decide (0 ≤ (t : Int) - 1 - n ∧ 0 ≤ b))]]) (fun K' hK' => ?_) ?_
  · try simp only [sv_cons, sv_cons1, sc_cons, sc_cons1, asB_bool, ifB_true, ifB_false, un_not, bin_lss, bin_leq, bin_gtr, bin_geq, bin_eql, bin_neq, bin_add, bin_sub, bin_mul, ok_int, ok_bool, ok_slice, ok_str, ok_ptr, ok_map, ok_func, ok_iface, ok_nil, List.all_cons, List.all_nil, Bool.and_true, Bool.true_and, seg, setSeg, List.drop_succ_cons, List.drop_zero, List.take_succ_cons, List.take_zero, List.cons_append, List.nil_append, List.append_nil, List.length_cons, List.length_nil, List.drop_nil, List.size_toArray, Nat.reduceAdd, Nat.reduceLeDiff, Nat.reduceBEq, Nat.zero_add, Nat.le_refl, decide_true, mkV, List.headD_cons, cellsV, w_fldV, w_ext, w_fldP, List.getElem?_toArray, List.getElem?_cons_zero, List.getElem?_cons_succ, beq_self_eq_true, selV]
    refine ifD_of (fun h => hK' _ _ ⟨rfl, jb_d (by omega)⟩) (fun h => hK' _ _ ⟨rfl, jb_f (by omega)⟩)
  rintro s H4 ⟨rfl, rfl⟩
  try simp only [sv_cons, sv_cons1, sc_cons, sc_cons1, asB_bool, ifB_true, ifB_false, un_not, bin_lss, bin_leq, bin_gtr, bin_geq, bin_eql, bin_neq, bin_add, bin_sub, bin_mul, ok_int, ok_bool, ok_slice, ok_str, ok_ptr, ok_map, ok_func, ok_iface, ok_nil, List.all_cons, List.all_nil, Bool.and_true, Bool.true_and, seg, setSeg, List.drop_succ_cons, List.drop_zero, List.take_succ_cons, List.take_zero, List.cons_append, List.nil_append, List.append_nil, List.length_cons, List.length_nil, List.drop_nil, List.size_toArray, Nat.reduceAdd, Nat.reduceLeDiff, Nat.reduceBEq, Nat.zero_add, Nat.le_refl, decide_true, mkV, List.headD_cons, cellsV, w_fldV, w_ext, w_fldP, List.getElem?_toArray, List.getElem?_cons_zero, List.getElem?_cons_succ, beq_self_eq_true, selV]
  refine ifD_of (fun h => ?_) (fun h => ?_)
  · have hj : t - n - 1 < l.length := by omega
    have e : (t : Int) - 1 - n = ((t - n - 1 : Nat) : Int) := by omega
    rw [e]
    refine one (t - n - 1) hj H4 g3 _ fun H5 g5 => ?_
    try simp only [sv_cons, sv_cons1, sc_cons, sc_cons1, asB_bool, ifB_true, ifB_false, un_not, bin_lss, bin_leq, bin_gtr, bin_geq, bin_eql, bin_neq, bin_add, bin_sub, bin_mul, ok_int, ok_bool, ok_slice, ok_str, ok_ptr, ok_map, ok_func, ok_iface, ok_nil, List.all_cons, List.all_nil, Bool.and_true, Bool.true_and, seg, setSeg, List.drop_succ_cons, List.drop_zero, List.take_succ_cons, List.take_zero, List.cons_append, List.nil_append, List.append_nil, List.length_cons, List.length_nil, List.drop_nil, List.size_toArray, Nat.reduceAdd, Nat.reduceLeDiff, Nat.reduceBEq, Nat.zero_add, Nat.le_refl, decide_true, mkV, List.headD_cons, cellsV, w_fldV, w_ext, w_fldP, List.getElem?_toArray, List.getElem?_cons_zero, List.getElem?_cons_succ, beq_self_eq_true, selV]
    have es : t - n = (t - n - 1) + 1 := by omega
    rw [es, lastIdx_succ] at hlast
    refine ifD_of (fun h2 => ?_) (fun h2 => ?_)
    · rw [if_pos h2] at hlast
      rw [if_neg (by omega), ← hlast] at hQ
      rw [wrap_i64 (by unfold i64; omega)]
      exact hQ _ g5
    · rw [if_neg h2] at hlast
      rw [wrap_i64 (by unfold i64; omega)]
      exact hK _ _ (by omega) ⟨g5, by congr 3; omega, by rw [← hlast]; congr 1⟩
  · rw [wrap_i64 (x := 2 * (t : Int)) (by unfold i64; omega)]
    try simp only [sv_cons, sv_cons1, sc_cons, sc_cons1, asB_bool, ifB_true, ifB_false, un_not, bin_lss, bin_leq, bin_gtr, bin_geq, bin_eql, bin_neq, bin_add, bin_sub, bin_mul, ok_int, ok_bool, ok_slice, ok_str, ok_ptr, ok_map, ok_func, ok_iface, ok_nil, List.all_cons, List.all_nil, Bool.and_true, Bool.true_and, seg, setSeg, List.drop_succ_cons, List.drop_zero, List.take_succ_cons, List.take_zero, List.cons_append, List.nil_append, List.append_nil, List.length_cons, List.length_nil, List.drop_nil, List.size_toArray, Nat.reduceAdd, Nat.reduceLeDiff, Nat.reduceBEq, Nat.zero_add, Nat.le_refl, decide_true, mkV, List.headD_cons, cellsV, w_fldV, w_ext, w_fldP, List.getElem?_toArray, List.getElem?_cons_zero, List.getElem?_cons_succ, beq_self_eq_true, selV]
    rw [wrap_i64 (by unfold i64; omega)]
    by_cases hb0 : b < 0
    · rw [if_pos hb0] at hQ; exact hQ _ g3
    · rw [if_neg hb0, ← hlast, show t - n = 0 by omega] at hQ
      exact hQ _ g3

theorem c_ref21_asked {c : Cfg} {l : List Unt} {v : Value} (hv : Sl rUnt H A v l) (hQ : ∀ H', G H H' → Q (.int .i64 (unitsE c l)) H') : callV Try.prog (fnV fn_ref21_asked) [.agg (cCfg c).toArray, v] H Q := by
  apply S_ref21_asked_of
  unfold S_ref21_asked
  refine newT_of fun H1 g1 _ => c_ref08_May fun H2 g2 => ?_
  have g := g1.trans g2
  unfold unitsE at hQ
  try simp only [sv_cons, sv_cons1, sc_cons, sc_cons1, asB_bool, ifB_true, ifB_false, un_not, bin_lss, bin_leq, bin_gtr, bin_geq, bin_eql, bin_neq, bin_add, bin_sub, bin_mul, ok_int, ok_bool, ok_slice, ok_str, ok_ptr, ok_map, ok_func, ok_iface, ok_nil, List.all_cons, List.all_nil, Bool.and_true, Bool.true_and, seg, setSeg, List.drop_succ_cons, List.drop_zero, List.take_succ_cons, List.take_zero, List.cons_append, List.nil_append, List.append_nil, List.length_cons, List.length_nil, List.drop_nil, List.size_toArray, Nat.reduceAdd, Nat.reduceLeDiff, Nat.reduceBEq, Nat.zero_add, Nat.le_refl, decide_true, mkV, List.headD_cons, cellsV, w_fldV, w_ext, w_fldP, List.getElem?_toArray, List.getElem?_cons_zero, List.getElem?_cons_succ, beq_self_eq_true, selV]
  by_cases hm : c.may
  · rw [decide_eq_true hm]
    rw [if_pos hm] at hQ
    try simp only [sv_cons, sv_cons1, sc_cons, sc_cons1, asB_bool, ifB_true, ifB_false, un_not, bin_lss, bin_leq, bin_gtr, bin_geq, bin_eql, bin_neq, bin_add, bin_sub, bin_mul, ok_int, ok_bool, ok_slice, ok_str, ok_ptr, ok_map, ok_func, ok_iface, ok_nil, List.all_cons, List.all_nil, Bool.and_true, Bool.true_and, seg, setSeg, List.drop_succ_cons, List.drop_zero, List.take_succ_cons, List.take_zero, List.cons_append, List.nil_append, List.append_nil, List.length_cons, List.length_nil, List.drop_nil, List.size_toArray, Nat.reduceAdd, Nat.reduceLeDiff, Nat.reduceBEq, Nat.zero_add, Nat.le_refl, decide_true, mkV, List.headD_cons, cellsV, w_fldV, w_ext, w_fldP, List.getElem?_toArray, List.getElem?_cons_zero, List.getElem?_cons_succ, beq_self_eq_true, selV]
    refine hv.len ?_
    try simp only [sv_cons, sv_cons1, sc_cons, sc_cons1, asB_bool, ifB_true, ifB_false, un_not, bin_lss, bin_leq, bin_gtr, bin_geq, bin_eql, bin_neq, bin_add, bin_sub, bin_mul, ok_int, ok_bool, ok_slice, ok_str, ok_ptr, ok_map, ok_func, ok_iface, ok_nil, List.all_cons, List.all_nil, Bool.and_true, Bool.true_and, seg, setSeg, List.drop_succ_cons, List.drop_zero, List.take_succ_cons, List.take_zero, List.cons_append, List.nil_append, List.append_nil, List.length_cons, List.length_nil, List.drop_nil, List.size_toArray, Nat.reduceAdd, Nat.reduceLeDiff, Nat.reduceBEq, Nat.zero_add, Nat.le_refl, decide_true, mkV, List.headD_cons, cellsV, w_fldV, w_ext, w_fldP, List.getElem?_toArray, List.getElem?_cons_zero, List.getElem?_cons_succ, beq_self_eq_true, selV]
    refine ifD_of (fun h => ?_) (fun h => ?_)
    · rw [if_pos (by omega)] at hQ; exact hQ _ g
    rw [if_neg (by omega)] at hQ
    refine loop_up l.length (fun i s H' => G H H' ∧ s = [[.int .i64 (i : Int)]] ∧ ∀ u ∈ l.take i, mayU c u = true) ⟨g, rfl, by simp⟩ ?_
    rintro i s H3 K hi ⟨g3, rfl, hall⟩ hK
    refine hv.len ?_
    try simp only [sv_cons, sv_cons1, sc_cons, sc_cons1, asB_bool, ifB_true, ifB_false, un_not, bin_lss, bin_leq, bin_gtr, bin_geq, bin_eql, bin_neq, bin_add, bin_sub, bin_mul, ok_int, ok_bool, ok_slice, ok_str, ok_ptr, ok_map, ok_func, ok_iface, ok_nil, List.all_cons, List.all_nil, Bool.and_true, Bool.true_and, seg, setSeg, List.drop_succ_cons, List.drop_zero, List.take_succ_cons, List.take_zero, List.cons_append, List.nil_append, List.append_nil, List.length_cons, List.length_nil, List.drop_nil, List.size_toArray, Nat.reduceAdd, Nat.reduceLeDiff, Nat.reduceBEq, Nat.zero_add, Nat.le_refl, decide_true, mkV, List.headD_cons, cellsV, w_fldV, w_ext, w_fldP, List.getElem?_toArray, List.getElem?_cons_zero, List.getElem?_cons_succ, beq_self_eq_true, selV]
    refine ifD_of (fun h1 => ?_) (fun h1 => ?_)
    · have hlt : i < l.length := by omega
      refine (hv.g g3).get rfl (List.getElem?_eq_getElem hlt) fun cs hr => ?_
      obtain ⟨w, rfl, hw⟩ := hr
      refine c_ref20_MayUnit hw fun H4 g4 => ?_
      try simp only [sv_cons, sv_cons1, sc_cons, sc_cons1, asB_bool, ifB_true, ifB_false, un_not, bin_lss, bin_leq, bin_gtr, bin_geq, bin_eql, bin_neq, bin_add, bin_sub, bin_mul, ok_int, ok_bool, ok_slice, ok_str, ok_ptr, ok_map, ok_func, ok_iface, ok_nil, List.all_cons, List.all_nil, Bool.and_true, Bool.true_and, seg, setSeg, List.drop_succ_cons, List.drop_zero, List.take_succ_cons, List.take_zero, List.cons_append, List.nil_append, List.append_nil, List.length_cons, List.length_nil, List.drop_nil, List.size_toArray, Nat.reduceAdd, Nat.reduceLeDiff, Nat.reduceBEq, Nat.zero_add, Nat.le_refl, decide_true, mkV, List.headD_cons, cellsV, w_fldV, w_ext, w_fldP, List.getElem?_toArray, List.getElem?_cons_zero, List.getElem?_cons_succ, beq_self_eq_true, selV]
      cases hmu : mayU c l[i] with
      | true =>
        try simp only [sv_cons, sv_cons1, sc_cons, sc_cons1, asB_bool, ifB_true, ifB_false, un_not, bin_lss, bin_leq, bin_gtr, bin_geq, bin_eql, bin_neq, bin_add, bin_sub, bin_mul, ok_int, ok_bool, ok_slice, ok_str, ok_ptr, ok_map, ok_func, ok_iface, ok_nil, List.all_cons, List.all_nil, Bool.and_true, Bool.true_and, seg, setSeg, List.drop_succ_cons, List.drop_zero, List.take_succ_cons, List.take_zero, List.cons_append, List.nil_append, List.append_nil, List.length_cons, List.length_nil, List.drop_nil, List.size_toArray, Nat.reduceAdd, Nat.reduceLeDiff, Nat.reduceBEq, Nat.zero_add, Nat.le_refl, decide_true, mkV, List.headD_cons, cellsV, w_fldV, w_ext, w_fldP, List.getElem?_toArray, List.getElem?_cons_zero, List.getElem?_cons_succ, beq_self_eq_true, selV, Bool.not_true]
        rw [wrap_i64 (by unfold i64; omega)]
        refine hK _ _ hlt ⟨g3.trans g4, by simp, fun u hu => ?_⟩
        rw [List.take_succ_eq_append_getElem hlt, List.mem_append, List.mem_singleton] at hu
        rcases hu with hu | rfl
        · exact hall u hu
        · exact hmu
      | false =>
        try simp only [sv_cons, sv_cons1, sc_cons, sc_cons1, asB_bool, ifB_true, ifB_false, un_not, bin_lss, bin_leq, bin_gtr, bin_geq, bin_eql, bin_neq, bin_add, bin_sub, bin_mul, ok_int, ok_bool, ok_slice, ok_str, ok_ptr, ok_map, ok_func, ok_iface, ok_nil, List.all_cons, List.all_nil, Bool.and_true, Bool.true_and, seg, setSeg, List.drop_succ_cons, List.drop_zero, List.take_succ_cons, List.take_zero, List.cons_append, List.nil_append, List.append_nil, List.length_cons, List.length_nil, List.drop_nil, List.size_toArray, Nat.reduceAdd, Nat.reduceLeDiff, Nat.reduceBEq, Nat.zero_add, Nat.le_refl, decide_true, mkV, List.headD_cons, cellsV, w_fldV, w_ext, w_fldP, List.getElem?_toArray, List.getElem?_cons_zero, List.getElem?_cons_succ, beq_self_eq_true, selV, Bool.not_false]
        rw [if_neg] at hQ
        · exact hQ _ (g3.trans g4)
        · intro hh
          rw [List.all_eq_true] at hh
          have := hh _ (List.getElem_mem hlt)
          rw [hmu] at this; cases this
    · have : i = l.length := by omega
      subst this
      rw [List.take_length] at hall
      rw [if_pos (List.all_eq_true.2 hall)] at hQ
      exact hQ _ g3
  · rw [decide_eq_false hm]
    rw [if_neg hm] at hQ
    try simp only [sv_cons, sv_cons1, sc_cons, sc_cons1, asB_bool, ifB_true, ifB_false, un_not, bin_lss, bin_leq, bin_gtr, bin_geq, bin_eql, bin_neq, bin_add, bin_sub, bin_mul, ok_int, ok_bool, ok_slice, ok_str, ok_ptr, ok_map, ok_func, ok_iface, ok_nil, List.all_cons, List.all_nil, Bool.and_true, Bool.true_and, seg, setSeg, List.drop_succ_cons, List.drop_zero, List.take_succ_cons, List.take_zero, List.cons_append, List.nil_append, List.append_nil, List.length_cons, List.length_nil, List.drop_nil, List.size_toArray, Nat.reduceAdd, Nat.reduceLeDiff, Nat.reduceBEq, Nat.zero_add, Nat.le_refl, decide_true, mkV, List.headD_cons, cellsV, w_fldV, w_ext, w_fldP, List.getElem?_toArray, List.getElem?_cons_zero, List.getElem?_cons_succ, beq_self_eq_true, selV, Bool.not_false]
    exact hQ _ g

theorem told_small {c : Cfg} {l : List Unt} {i t : Nat} (hn : l.length ≤ 512) (ht : t < l.length) : i64 (toldF (blkAt c l i) t) := by
  have := told_range (f := blkAt c l i) (t := t)
  unfold i64; omega

theorem unitsE_zero {c : Cfg} {l : List Unt} (h : unitsE c l = 0) : c.may ∧ l.length ≤ 512 ∧ ∀ u ∈ l, mayU c u = true := by
  unfold unitsE at h
  split at h
  · split at h
    · omega
    · split at h
      · rename_i h1 h2 h3
        exact ⟨h1, by omega, List.all_eq_true.1 h3⟩
      · omega
  · omega

theorem c_ref21_Cells {c : Cfg} {l : List Unt} {v : Value} (hv : Sl rUnt H A v l) (hQ : ∀ w H', Sl (rSl (rI .i64)) H' (fun y => H.size ≤ y) w (if unitsE c l = 0 then cellsL c l else []) → G H H' → Q (tup2 w (.int .i64 (unitsE c l))) H') :
    callV Try.prog (fnV fn_ref21_Cells) [.agg (cCfg c).toArray, v] H Q := by
  apply S_ref21_Cells_of
  unfold S_ref21_Cells
  refine newT_of fun H1 g1 _ => c_ref21_asked (hv.g g1) fun H2 g2 => ?_
  have g := g1.trans g2
  try simp only [sv_cons, sv_cons1, sc_cons, sc_cons1, asB_bool, ifB_true, ifB_false, un_not, bin_lss, bin_leq, bin_gtr, bin_geq, bin_eql, bin_neq, bin_add, bin_sub, bin_mul, ok_int, ok_bool, ok_slice, ok_str, ok_ptr, ok_map, ok_func, ok_iface, ok_nil, List.all_cons, List.all_nil, Bool.and_true, Bool.true_and, seg, setSeg, List.drop_succ_cons, List.drop_zero, List.take_succ_cons, List.take_zero, List.cons_append, List.nil_append, List.append_nil, List.length_cons, List.length_nil, List.drop_nil, List.size_toArray, Nat.reduceAdd, Nat.reduceLeDiff, Nat.reduceBEq, Nat.zero_add, Nat.le_refl, decide_true, mkV, List.headD_cons, cellsV, w_fldV, w_ext, w_fldP, List.getElem?_toArray, List.getElem?_cons_zero, List.getElem?_cons_succ, beq_self_eq_true, selV]
  by_cases he : unitsE c l = 0
  · obtain ⟨hm, hn, hall⟩ := unitsE_zero he
    rw [he, if_pos rfl] at hQ
    rw [he]
    try simp only [sv_cons, sv_cons1, sc_cons, sc_cons1, asB_bool, ifB_true, ifB_false, un_not, bin_lss, bin_leq, bin_gtr, bin_geq, bin_eql, bin_neq, bin_add, bin_sub, bin_mul, ok_int, ok_bool, ok_slice, ok_str, ok_ptr, ok_map, ok_func, ok_iface, ok_nil, List.all_cons, List.all_nil, Bool.and_true, Bool.true_and, seg, setSeg, List.drop_succ_cons, List.drop_zero, List.take_succ_cons, List.take_zero, List.cons_append, List.nil_append, List.append_nil, List.length_cons, List.length_nil, List.drop_nil, List.size_toArray, Nat.reduceAdd, Nat.reduceLeDiff, Nat.reduceBEq, Nat.zero_add, Nat.le_refl, decide_true, mkV, List.headD_cons, cellsV, w_fldV, w_ext, w_fldP, List.getElem?_toArray, List.getElem?_cons_zero, List.getElem?_cons_succ, beq_self_eq_true, selV]
    have hlen := hm.2
    refine loop_up c.all.length (fun i s H' => ∃ w, Bd (rSl (rI .i64)) H H' w ((cellsL c l).take i) ∧ s = [[w], [.int .i64 (i : Int)]]) ⟨_, by simpa using Bd.nil _ g, rfl⟩ ?_
    rintro i s H3 K hi ⟨w, hw, rfl⟩ hK
    have htk : ((cellsL c l).take i).length = i := by unfold cellsL; simp; omega
    refine c_ref08_All hm.1 fun al H4 hal g4 => hal.len ?_
    try simp only [sv_cons, sv_cons1, sc_cons, sc_cons1, asB_bool, ifB_true, ifB_false, un_not, bin_lss, bin_leq, bin_gtr, bin_geq, bin_eql, bin_neq, bin_add, bin_sub, bin_mul, ok_int, ok_bool, ok_slice, ok_str, ok_ptr, ok_map, ok_func, ok_iface, ok_nil, List.all_cons, List.all_nil, Bool.and_true, Bool.true_and, seg, setSeg, List.drop_succ_cons, List.drop_zero, List.take_succ_cons, List.take_zero, List.cons_append, List.nil_append, List.append_nil, List.length_cons, List.length_nil, List.drop_nil, List.size_toArray, Nat.reduceAdd, Nat.reduceLeDiff, Nat.reduceBEq, Nat.zero_add, Nat.le_refl, decide_true, mkV, List.headD_cons, cellsV, w_fldV, w_ext, w_fldP, List.getElem?_toArray, List.getElem?_cons_zero, List.getElem?_cons_succ, beq_self_eq_true, selV]
    refine ifD_of (fun h1 => ?_) (fun h1 => ?_)
    · have hlt : i < c.all.length := by omega
      have hw4 := hw.up g4
      refine loop_up l.length (fun t s H' => ∃ u, Bd (rI .i64) H4 H' u ((toldL c l i).take t) ∧ s = [[u], [.int .i64 (t : Int)]]) ⟨_, by simpa using Bd.nil _ (G.fr (Fr.refl _ H4)), rfl⟩ ?_
      rintro t s H5 K5 ht ⟨u, hu, rfl⟩ hK5
      have htk2 : ((toldL c l i).take t).length = t := by unfold toldL; simp; omega
      refine hv.len ?_
      try simp only [sv_cons, sv_cons1, sc_cons, sc_cons1, asB_bool, ifB_true, ifB_false, un_not, bin_lss, bin_leq, bin_gtr, bin_geq, bin_eql, bin_neq, bin_add, bin_sub, bin_mul, ok_int, ok_bool, ok_slice, ok_str, ok_ptr, ok_map, ok_func, ok_iface, ok_nil, List.all_cons, List.all_nil, Bool.and_true, Bool.true_and, seg, setSeg, List.drop_succ_cons, List.drop_zero, List.take_succ_cons, List.take_zero, List.cons_append, List.nil_append, List.append_nil, List.length_cons, List.length_nil, List.drop_nil, List.size_toArray, Nat.reduceAdd, Nat.reduceLeDiff, Nat.reduceBEq, Nat.zero_add, Nat.le_refl, decide_true, mkV, List.headD_cons, cellsV, w_fldV, w_ext, w_fldP, List.getElem?_toArray, List.getElem?_cons_zero, List.getElem?_cons_succ, beq_self_eq_true, selV]
      refine ifD_of (fun h2 => ?_) (fun h2 => ?_)
      · have hlt2 : t < l.length := by omega
        refine c_ref21_Told hm.1 ((hv.g hw4.g).g hu.g) hall hn hlt hlt2 fun H6 g6 => ?_
        have eg : (toldL c l i).take (t + 1) = (toldL c l i).take t ++ [toldF (blkAt c l i) t] := by
          rw [List.take_add_one]; unfold toldL; simp [hlt2]
        refine hu.push g6 (vrep_I (wrap_i64 (told_small hn hlt2)) (A := fun _ => False)) rfl (by omega) (fun _ => rfl) rfl rfl (fun y hy _ => hy.elim) (by rw [htk2]; omega) (by rw [htk2]; omega) fun u' H7 hu' => ?_
        try simp only [sv_cons, sv_cons1, sc_cons, sc_cons1, asB_bool, ifB_true, ifB_false, un_not, bin_lss, bin_leq, bin_gtr, bin_geq, bin_eql, bin_neq, bin_add, bin_sub, bin_mul, ok_int, ok_bool, ok_slice, ok_str, ok_ptr, ok_map, ok_func, ok_iface, ok_nil, List.all_cons, List.all_nil, Bool.and_true, Bool.true_and, seg, setSeg, List.drop_succ_cons, List.drop_zero, List.take_succ_cons, List.take_zero, List.cons_append, List.nil_append, List.append_nil, List.length_cons, List.length_nil, List.drop_nil, List.size_toArray, Nat.reduceAdd, Nat.reduceLeDiff, Nat.reduceBEq, Nat.zero_add, Nat.le_refl, decide_true, mkV, List.headD_cons, cellsV, w_fldV, w_ext, w_fldP, List.getElem?_toArray, List.getElem?_cons_zero, List.getElem?_cons_succ, beq_self_eq_true, selV]
        rw [wrap_i64 (by unfold i64; omega)]
        rw [← eg] at hu'
        exact hK5 _ _ hlt2 ⟨u', hu', by simp⟩
      · have : t = l.length := by omega
        subst this
        have el : (toldL c l i).take l.length = toldL c l i := List.take_of_length_le (by unfold toldL; simp)
        rw [el] at hu
        have eg : (cellsL c l).take (i + 1) = (cellsL c l).take i ++ [toldL c l i] := by
          rw [List.take_add_one]; unfold cellsL; simp [hlt]
        refine hw4.push hu.g (vrep_S hu.sl) rfl (by omega) (fun _ => rfl) rfl rfl (fun y hy _ => hy) (by rw [htk]; omega) (by rw [htk]; omega) fun w' H7 hw' => ?_
        try simp only [sv_cons, sv_cons1, sc_cons, sc_cons1, asB_bool, ifB_true, ifB_false, un_not, bin_lss, bin_leq, bin_gtr, bin_geq, bin_eql, bin_neq, bin_add, bin_sub, bin_mul, ok_int, ok_bool, ok_slice, ok_str, ok_ptr, ok_map, ok_func, ok_iface, ok_nil, List.all_cons, List.all_nil, Bool.and_true, Bool.true_and, seg, setSeg, List.drop_succ_cons, List.drop_zero, List.take_succ_cons, List.take_zero, List.cons_append, List.nil_append, List.append_nil, List.length_cons, List.length_nil, List.drop_nil, List.size_toArray, Nat.reduceAdd, Nat.reduceLeDiff, Nat.reduceBEq, Nat.zero_add, Nat.le_refl, decide_true, mkV, List.headD_cons, cellsV, w_fldV, w_ext, w_fldP, List.getElem?_toArray, List.getElem?_cons_zero, List.getElem?_cons_succ, beq_self_eq_true, selV]
        rw [wrap_i64 (by unfold i64; omega)]
        rw [← eg] at hw'
        exact hK _ _ hlt ⟨w', hw', by simp⟩
    · have el : (cellsL c l).take i = cellsL c l := List.take_of_length_le (by unfold cellsL; simp; omega)
      rw [el] at hw
      exact hQ w H4 (hw.up g4).sl (hw.up g4).g
  · rw [show decide (unitsE c l ≠ 0) = true from decide_eq_true he]
    try simp only [sv_cons, sv_cons1, sc_cons, sc_cons1, asB_bool, ifB_true, ifB_false, un_not, bin_lss, bin_leq, bin_gtr, bin_geq, bin_eql, bin_neq, bin_add, bin_sub, bin_mul, ok_int, ok_bool, ok_slice, ok_str, ok_ptr, ok_map, ok_func, ok_iface, ok_nil, List.all_cons, List.all_nil, Bool.and_true, Bool.true_and, seg, setSeg, List.drop_succ_cons, List.drop_zero, List.take_succ_cons, List.take_zero, List.cons_append, List.nil_append, List.append_nil, List.length_cons, List.length_nil, List.drop_nil, List.size_toArray, Nat.reduceAdd, Nat.reduceLeDiff, Nat.reduceBEq, Nat.zero_add, Nat.le_refl, decide_true, mkV, List.headD_cons, cellsV, w_fldV, w_ext, w_fldP, List.getElem?_toArray, List.getElem?_cons_zero, List.getElem?_cons_succ, beq_self_eq_true, selV]
    exact hQ _ _ (by rw [if_neg he]; exact Sl.nil _ _ _ _ _) g

end Go.Proofs.Ytikebhnnmnlgaaa
