/- Contracts: roads, units, and which cells are told. -/
import Derived.Test.YtikebhnnmnlgaaaShOrd
import Derived.Test.YtikebhnnmnlgaaaConRef12
import Derived.Test.YtikebhnnmnlgaaaMdOrd
namespace Go.Proofs.Ytikebhnnmnlgaaa
open Go.Ab Go.Md
set_option linter.unusedVariables false
set_option linter.unusedSimpArgs false
set_option maxRecDepth 20000

variable {H : Heap} {Q : Value → Heap → Prop} {A B C : Nat → Prop}

theorem c_ref20_MayUnit {c : Cfg} {u : Unt} {v : Value} (hu : Sl rU8 H A v u.data) (hQ : ∀ H', G H H' → Q (.bool (mayU c u)) H') : callV Try.prog (fnV fn_ref20_MayUnit) [.agg (cCfg c).toArray, .agg #[.int .u8 u.kind, .int .i64 u.page, .int .i64 u.frame, v]] H Q := by
  apply S_ref20_MayUnit_of
  unfold S_ref20_MayUnit
  refine newT_of fun H1 g1 _ => newT_of fun H2 g2 _ => ?_
  have g := g1.trans g2
  unfold mayU at hQ
  try simp only [sv_cons, sv_cons1, sc_cons, sc_cons1, asB_bool, ifB_true, ifB_false, un_not, bin_lss, bin_leq, bin_gtr, bin_geq, bin_eql, bin_neq, bin_add, bin_sub, bin_mul, ok_int, ok_bool, ok_slice, ok_str, ok_ptr, ok_map, ok_func, ok_iface, ok_nil, List.all_cons, List.all_nil, Bool.and_true, Bool.true_and, seg, setSeg, List.drop_succ_cons, List.drop_zero, List.take_succ_cons, List.take_zero, List.cons_append, List.nil_append, List.append_nil, List.length_cons, List.length_nil, List.drop_nil, List.size_toArray, Nat.reduceAdd, Nat.reduceLeDiff, Nat.reduceBEq, Nat.zero_add, Nat.le_refl, decide_true, mkV, List.headD_cons, cellsV, w_fldV, w_ext, w_fldP, List.getElem?_toArray, List.getElem?_cons_zero, List.getElem?_cons_succ, beq_self_eq_true, selV]
  refine ifD_of (fun h0 => ?_) (fun h0 => ?_)
  · rw [if_pos h0] at hQ
    refine join_of (fun s H' => H' = H2 ∧ s = [[.bool (decide (u.page = 0 ∧ u.data.length = 0))]]) (fun K hK => ?_) ?_
    · refine ifD_of (fun h1 => ?_) (fun h1 => hK _ _ ⟨rfl, jb_f (by omega)⟩)
      refine hu.len ?_
      try simp only [sv_cons, sv_cons1, sc_cons, sc_cons1, asB_bool, ifB_true, ifB_false, un_not, bin_lss, bin_leq, bin_gtr, bin_geq, bin_eql, bin_neq, bin_add, bin_sub, bin_mul, ok_int, ok_bool, ok_slice, ok_str, ok_ptr, ok_map, ok_func, ok_iface, ok_nil, List.all_cons, List.all_nil, Bool.and_true, Bool.true_and, seg, setSeg, List.drop_succ_cons, List.drop_zero, List.take_succ_cons, List.take_zero, List.cons_append, List.nil_append, List.append_nil, List.length_cons, List.length_nil, List.drop_nil, List.size_toArray, Nat.reduceAdd, Nat.reduceLeDiff, Nat.reduceBEq, Nat.zero_add, Nat.le_refl, decide_true, mkV, List.headD_cons, cellsV, w_fldV, w_ext, w_fldP, List.getElem?_toArray, List.getElem?_cons_zero, List.getElem?_cons_succ, beq_self_eq_true, selV]
      exact hK _ _ ⟨rfl, jb_d (by omega)⟩
    rintro s H3 ⟨rfl, rfl⟩
    exact hQ _ g
  · rw [if_neg h0] at hQ
    refine ifD_of (fun h1 => ?_) (fun h1 => ?_)
    · rw [if_pos h1] at hQ
      refine join_of (fun s H' => H' = H2 ∧ s = [[.bool (decide ((0 ≤ u.page ∧ u.page < c.pages) ∧ u.data.length = 0))]]) (fun K hK => ?_) ?_
      · refine ifD_of (fun h2 => ifD_of (fun h3 => ?_) (fun h3 => hK _ _ ⟨rfl, jb_f (by omega)⟩)) (fun h2 => hK _ _ ⟨rfl, jb_f (by omega)⟩)
        refine hu.len ?_
        try simp only [sv_cons, sv_cons1, sc_cons, sc_cons1, asB_bool, ifB_true, ifB_false, un_not, bin_lss, bin_leq, bin_gtr, bin_geq, bin_eql, bin_neq, bin_add, bin_sub, bin_mul, ok_int, ok_bool, ok_slice, ok_str, ok_ptr, ok_map, ok_func, ok_iface, ok_nil, List.all_cons, List.all_nil, Bool.and_true, Bool.true_and, seg, setSeg, List.drop_succ_cons, List.drop_zero, List.take_succ_cons, List.take_zero, List.cons_append, List.nil_append, List.append_nil, List.length_cons, List.length_nil, List.drop_nil, List.size_toArray, Nat.reduceAdd, Nat.reduceLeDiff, Nat.reduceBEq, Nat.zero_add, Nat.le_refl, decide_true, mkV, List.headD_cons, cellsV, w_fldV, w_ext, w_fldP, List.getElem?_toArray, List.getElem?_cons_zero, List.getElem?_cons_succ, beq_self_eq_true, selV]
        exact hK _ _ ⟨rfl, jb_d (by omega)⟩
      rintro s H3 ⟨rfl, rfl⟩
      exact hQ _ g
    · rw [if_neg h1] at hQ
      refine ifD_of (fun h2 => ?_) (fun h2 => ?_)
      · rw [if_pos h2] at hQ
        refine join_of (fun s H' => H' = H2 ∧ s = [[.bool (decide ((0 ≤ u.page ∧ u.page < c.pages) ∧ (u.data.length : Int) = c.size))]]) (fun K hK => ?_) ?_
        · refine ifD_of (fun h2 => ifD_of (fun h3 => ?_) (fun h3 => hK _ _ ⟨rfl, jb_f (by omega)⟩)) (fun h2 => hK _ _ ⟨rfl, jb_f (by omega)⟩)
          refine hu.len ?_
          try simp only [sv_cons, sv_cons1, sc_cons, sc_cons1, asB_bool, ifB_true, ifB_false, un_not, bin_lss, bin_leq, bin_gtr, bin_geq, bin_eql, bin_neq, bin_add, bin_sub, bin_mul, ok_int, ok_bool, ok_slice, ok_str, ok_ptr, ok_map, ok_func, ok_iface, ok_nil, List.all_cons, List.all_nil, Bool.and_true, Bool.true_and, seg, setSeg, List.drop_succ_cons, List.drop_zero, List.take_succ_cons, List.take_zero, List.cons_append, List.nil_append, List.append_nil, List.length_cons, List.length_nil, List.drop_nil, List.size_toArray, Nat.reduceAdd, Nat.reduceLeDiff, Nat.reduceBEq, Nat.zero_add, Nat.le_refl, decide_true, mkV, List.headD_cons, cellsV, w_fldV, w_ext, w_fldP, List.getElem?_toArray, List.getElem?_cons_zero, List.getElem?_cons_succ, beq_self_eq_true, selV]
          exact hK _ _ ⟨rfl, jb_d (by omega)⟩
        rintro s H3 ⟨rfl, rfl⟩
        exact hQ _ g
      · rw [if_neg h2] at hQ
        exact hQ _ g

theorem c_order_may {c : Cfg} {u : Unt} {v : Value} (hu : Sl rU8 H A v u.data) (hQ : ∀ H', G H H' → Q (.bool (mayU c u)) H') : callV Try.prog (fnV fn_order_may) [.agg (cCfg c).toArray, .agg #[.int .u8 u.kind, .int .i64 u.page, .int .i64 u.frame, v]] H Q := by
  apply S_order_may_of
  unfold S_order_may
  refine newT_of fun H1 g1 _ => newT_of fun H2 g2 _ => ?_
  have g := g1.trans g2
  unfold mayU at hQ
  refine join_of (fun s H' => H' = H2 ∧ s = [[.bool (decide (0 ≤ u.page ∧ u.page < c.pages))]]) (fun K hK => ?_) ?_
  · try simp only [sv_cons, sv_cons1, sc_cons, sc_cons1, asB_bool, ifB_true, ifB_false, un_not, bin_lss, bin_leq, bin_gtr, bin_geq, bin_eql, bin_neq, bin_add, bin_sub, bin_mul, ok_int, ok_bool, ok_slice, ok_str, ok_ptr, ok_map, ok_func, ok_iface, ok_nil, List.all_cons, List.all_nil, Bool.and_true, Bool.true_and, seg, setSeg, List.drop_succ_cons, List.drop_zero, List.take_succ_cons, List.take_zero, List.cons_append, List.nil_append, List.append_nil, List.length_cons, List.length_nil, List.drop_nil, List.size_toArray, Nat.reduceAdd, Nat.reduceLeDiff, Nat.reduceBEq, Nat.zero_add, Nat.le_refl, decide_true, mkV, List.headD_cons, cellsV, w_fldV, w_ext, w_fldP, List.getElem?_toArray, List.getElem?_cons_zero, List.getElem?_cons_succ, beq_self_eq_true, selV]
    refine ifD_of (fun h1 => hK _ _ ⟨rfl, jb_d (by omega)⟩) (fun h1 => hK _ _ ⟨rfl, jb_f (by omega)⟩)
  rintro s H3 ⟨rfl, rfl⟩
  try simp only [sv_cons, sv_cons1, sc_cons, sc_cons1, asB_bool, ifB_true, ifB_false, un_not, bin_lss, bin_leq, bin_gtr, bin_geq, bin_eql, bin_neq, bin_add, bin_sub, bin_mul, ok_int, ok_bool, ok_slice, ok_str, ok_ptr, ok_map, ok_func, ok_iface, ok_nil, List.all_cons, List.all_nil, Bool.and_true, Bool.true_and, seg, setSeg, List.drop_succ_cons, List.drop_zero, List.take_succ_cons, List.take_zero, List.cons_append, List.nil_append, List.append_nil, List.length_cons, List.length_nil, List.drop_nil, List.size_toArray, Nat.reduceAdd, Nat.reduceLeDiff, Nat.reduceBEq, Nat.zero_add, Nat.le_refl, decide_true, mkV, List.headD_cons, cellsV, w_fldV, w_ext, w_fldP, List.getElem?_toArray, List.getElem?_cons_zero, List.getElem?_cons_succ, beq_self_eq_true, selV]
  refine ifD_of (fun h0 => ?_) (fun h0 => ?_)
  · rw [if_pos h0] at hQ
    refine join_of (fun s H' => H' = H3 ∧ s = [[.bool (decide (u.page = 0 ∧ u.data.length = 0))]]) (fun K hK => ?_) ?_
    · refine ifD_of (fun h1 => ?_) (fun h1 => hK _ _ ⟨rfl, jb_f (by omega)⟩)
      refine hu.len ?_
      try simp only [sv_cons, sv_cons1, sc_cons, sc_cons1, asB_bool, ifB_true, ifB_false, un_not, bin_lss, bin_leq, bin_gtr, bin_geq, bin_eql, bin_neq, bin_add, bin_sub, bin_mul, ok_int, ok_bool, ok_slice, ok_str, ok_ptr, ok_map, ok_func, ok_iface, ok_nil, List.all_cons, List.all_nil, Bool.and_true, Bool.true_and, seg, setSeg, List.drop_succ_cons, List.drop_zero, List.take_succ_cons, List.take_zero, List.cons_append, List.nil_append, List.append_nil, List.length_cons, List.length_nil, List.drop_nil, List.size_toArray, Nat.reduceAdd, Nat.reduceLeDiff, Nat.reduceBEq, Nat.zero_add, Nat.le_refl, decide_true, mkV, List.headD_cons, cellsV, w_fldV, w_ext, w_fldP, List.getElem?_toArray, List.getElem?_cons_zero, List.getElem?_cons_succ, beq_self_eq_true, selV]
      exact hK _ _ ⟨rfl, jb_d (by omega)⟩
    rintro s H4 ⟨rfl, rfl⟩
    exact hQ _ g
  · rw [if_neg h0] at hQ
    refine ifD_of (fun h1 => ?_) (fun h1 => ?_)
    · rw [if_pos h1] at hQ
      refine join_of (fun s H' => H' = H3 ∧ s = [[.bool (decide ((0 ≤ u.page ∧ u.page < c.pages) ∧ u.data.length = 0))]]) (fun K hK => ?_) ?_
      · refine ifD_of (fun h2 => ?_) (fun h2 => hK _ _ ⟨rfl, jb_f (by omega)⟩)
        refine hu.len ?_
        try simp only [sv_cons, sv_cons1, sc_cons, sc_cons1, asB_bool, ifB_true, ifB_false, un_not, bin_lss, bin_leq, bin_gtr, bin_geq, bin_eql, bin_neq, bin_add, bin_sub, bin_mul, ok_int, ok_bool, ok_slice, ok_str, ok_ptr, ok_map, ok_func, ok_iface, ok_nil, List.all_cons, List.all_nil, Bool.and_true, Bool.true_and, seg, setSeg, List.drop_succ_cons, List.drop_zero, List.take_succ_cons, List.take_zero, List.cons_append, List.nil_append, List.append_nil, List.length_cons, List.length_nil, List.drop_nil, List.size_toArray, Nat.reduceAdd, Nat.reduceLeDiff, Nat.reduceBEq, Nat.zero_add, Nat.le_refl, decide_true, mkV, List.headD_cons, cellsV, w_fldV, w_ext, w_fldP, List.getElem?_toArray, List.getElem?_cons_zero, List.getElem?_cons_succ, beq_self_eq_true, selV]
        exact hK _ _ ⟨rfl, jb_d (by omega)⟩
      rintro s H4 ⟨rfl, rfl⟩
      exact hQ _ g
    · rw [if_neg h1] at hQ
      refine ifD_of (fun h2 => ?_) (fun h2 => ?_)
      · rw [if_pos h2] at hQ
        refine join_of (fun s H' => H' = H3 ∧ s = [[.bool (decide ((0 ≤ u.page ∧ u.page < c.pages) ∧ (u.data.length : Int) = c.size))]]) (fun K hK => ?_) ?_
        · refine ifD_of (fun h2 => ?_) (fun h2 => hK _ _ ⟨rfl, jb_f (by omega)⟩)
          refine hu.len ?_
          try simp only [sv_cons, sv_cons1, sc_cons, sc_cons1, asB_bool, ifB_true, ifB_false, un_not, bin_lss, bin_leq, bin_gtr, bin_geq, bin_eql, bin_neq, bin_add, bin_sub, bin_mul, ok_int, ok_bool, ok_slice, ok_str, ok_ptr, ok_map, ok_func, ok_iface, ok_nil, List.all_cons, List.all_nil, Bool.and_true, Bool.true_and, seg, setSeg, List.drop_succ_cons, List.drop_zero, List.take_succ_cons, List.take_zero, List.cons_append, List.nil_append, List.append_nil, List.length_cons, List.length_nil, List.drop_nil, List.size_toArray, Nat.reduceAdd, Nat.reduceLeDiff, Nat.reduceBEq, Nat.zero_add, Nat.le_refl, decide_true, mkV, List.headD_cons, cellsV, w_fldV, w_ext, w_fldP, List.getElem?_toArray, List.getElem?_cons_zero, List.getElem?_cons_succ, beq_self_eq_true, selV]
          exact hK _ _ ⟨rfl, jb_d (by omega)⟩
        rintro s H4 ⟨rfl, rfl⟩
        exact hQ _ g
      · rw [if_neg h2] at hQ
        exact hQ _ g

/-! ### The blocks of a page -/

theorem pAt_small {c : Cfg} (hc : c.num) {p : Int} (hp : 0 ≤ p ∧ p ≤ 64) (i : Nat) : 0 ≤ pAt c.fan i p ∧ pAt c.fan i p ≤ 64 := by
  have := pAt_le (fan := c.fan) (by have := hc.2.2.1.1; omega) hp.1 i
  omega
theorem tmod_small {a b : Int} (ha : 0 ≤ a ∧ a ≤ 64) (hb : 2 ≤ b) : 0 ≤ a.tmod b ∧ a.tmod b ≤ 64 := by
  rw [Int.tmod_eq_emod_of_nonneg ha.1]
  have h1 := Int.emod_nonneg a (show b ≠ 0 by omega)
  refine ⟨h1, Int.le_trans ?_ ha.2⟩
  rw [Int.emod_def]
  have := Int.mul_nonneg (show 0 ≤ b by omega) (Int.ediv_nonneg ha.1 (show 0 ≤ b by omega))
  omega
theorem vrepI {x : Int} (h : 0 ≤ x ∧ x ≤ 64) : VRep (rI .i64) H (fun _ => False) false (.int .i64 x) x := vrep_I (wrap_i64 (by unfold i64; omega))

theorem c_ref08_Way {c : Cfg} {p : Int} (hc : c.num) (hp : 0 ≤ p ∧ p ≤ 64) (hQ : ∀ v w H', Sl (rI .i64) H' (fun y => H.size ≤ y) v (blocks c p) → Sl (rI .i64) H' (fun y => H.size ≤ y) w (places c p) → G H H' → Q (tup2 v w) H') :
    callV Try.prog (fnV fn_ref08_Way) [.agg (cCfg c).toArray, .int .i64 p] H Q := by
  apply S_ref08_Way_of
  unfold S_ref08_Way
  have hfan := hc.2.2.1
  refine newT_of fun H1 g1 _ => c_ref08_All hc fun l H2 hl g2 => ?_
  have g := g1.trans g2
  have hlen := c.all_len
  refine hl.len ?_
  let bl : Nat → List Int := fun i => (List.range i).map fun i => pAt c.fan i p
  let pl : Nat → List Int := fun i => (List.range i).map fun i => if i + 1 = c.all.length then pAt c.fan i p else (pAt c.fan i p).tmod c.fan
  refine loop_up c.all.length (fun i s H' => G H H' ∧ ∃ b1 b2 v w, Two H.size (rI .i64) (rI .i64) H' b1 b2 v w (bl i) (pl i) ∧ s = [[v], [w], [.int .i64 (pAt c.fan i p)], [.int .i64 (i : Int)]])
    ⟨g, 0, 0, _, _, Two.nil _ _ _ _, rfl⟩ ?_
  rintro i s H3 K hi ⟨g3, b1, b2, v, w, ht, rfl⟩ hK
  have lb : (bl i).length = i := by simp [bl]
  have lp : (pl i).length = i := by simp [pl]
  have hsz := g3.size
  try simp only [sv_cons, sv_cons1, sc_cons, sc_cons1, asB_bool, ifB_true, ifB_false, un_not, bin_lss, bin_leq, bin_gtr, bin_geq, bin_eql, bin_neq, bin_add, bin_sub, bin_mul, ok_int, ok_bool, ok_slice, ok_str, ok_ptr, ok_map, ok_func, ok_iface, ok_nil, List.all_cons, List.all_nil, Bool.and_true, Bool.true_and, seg, setSeg, List.drop_succ_cons, List.drop_zero, List.take_succ_cons, List.take_zero, List.cons_append, List.nil_append, List.append_nil, List.length_cons, List.length_nil, List.drop_nil, List.size_toArray, Nat.reduceAdd, Nat.reduceLeDiff, Nat.reduceBEq, Nat.zero_add, Nat.le_refl, decide_true, mkV, List.headD_cons, cellsV, w_fldV, w_ext, w_fldP, List.getElem?_toArray, List.getElem?_cons_zero, List.getElem?_cons_succ, beq_self_eq_true, selV]
  refine ifD_of (fun h1 => ?_) (fun h1 => ?_)
  · have hlt : i < c.all.length := by omega
    have hs := pAt_small hc hp i
    have e1 : bl i ++ [pAt c.fan i p] = bl (i + 1) := by simp [bl, List.range_succ]
    refine ht.push (vrepI hs) rfl (by omega) (fun _ => rfl) rfl rfl (fun y hy _ => hy.elim) hsz (by rw [lb]; omega) (by rw [lb]; omega) fun v' H4 b1' ht' f4 => ?_
    rw [e1] at ht'
    have g4 : G H H4 := g3.then f4 fun y hy => by have := ht.f1; omega
    have hsz4 := g4.size
    try simp only [sv_cons, sv_cons1, sc_cons, sc_cons1, asB_bool, ifB_true, ifB_false, un_not, bin_lss, bin_leq, bin_gtr, bin_geq, bin_eql, bin_neq, bin_add, bin_sub, bin_mul, ok_int, ok_bool, ok_slice, ok_str, ok_ptr, ok_map, ok_func, ok_iface, ok_nil, List.all_cons, List.all_nil, Bool.and_true, Bool.true_and, seg, setSeg, List.drop_succ_cons, List.drop_zero, List.take_succ_cons, List.take_zero, List.cons_append, List.nil_append, List.append_nil, List.length_cons, List.length_nil, List.drop_nil, List.size_toArray, Nat.reduceAdd, Nat.reduceLeDiff, Nat.reduceBEq, Nat.zero_add, Nat.le_refl, decide_true, mkV, List.headD_cons, cellsV, w_fldV, w_ext, w_fldP, List.getElem?_toArray, List.getElem?_cons_zero, List.getElem?_cons_succ, beq_self_eq_true, selV]
    rw [wrap_i64 (x := (c.all.length : Int) - 1) (by unfold i64; omega)]
    refine join_of (fun s H' => G H H' ∧ ∃ b2' w', Two H.size (rI .i64) (rI .i64) H' b1' b2' v' w' (bl (i + 1)) (pl (i + 1)) ∧ s = [[w']]) (fun K' hK' => ?_) ?_
    · refine ifD_of (fun h2 => ?_) (fun h2 => ?_)
      · have e2 : pl i ++ [pAt c.fan i p] = pl (i + 1) := by simp only [pl, List.range_succ, List.map_append, List.map_cons, List.map_nil]; rw [if_pos (by omega)]
        refine ht'.swap.push (vrepI hs) rfl (by omega) (fun _ => rfl) rfl rfl (fun y hy _ => hy.elim) hsz4 (by rw [lp]; omega) (by rw [lp]; omega) fun w' H5 b2' ht5 f5 => ?_
        rw [e2] at ht5
        exact hK' _ _ ⟨g4.then f5 fun y hy => by have := ht.f2; omega, b2', w', ht5.swap, rfl⟩
      · have e2 : pl i ++ [(pAt c.fan i p).tmod c.fan] = pl (i + 1) := by simp only [pl, List.range_succ, List.map_append, List.map_cons, List.map_nil]; rw [if_neg (by omega)]
        refine w_rem (by omega) ?_
        refine ht'.swap.push (vrepI (tmod_small hs hfan.1)) rfl (by omega) (fun _ => rfl) rfl rfl (fun y hy _ => hy.elim) hsz4 (by rw [lp]; omega) (by rw [lp]; omega) fun w' H5 b2' ht5 f5 => ?_
        rw [e2] at ht5
        exact hK' _ _ ⟨g4.then f5 fun y hy => by have := ht.f2; omega, b2', w', ht5.swap, rfl⟩
    rintro s H5 ⟨g5, b2', w', ht5, rfl⟩
    try simp only [sv_cons, sv_cons1, sc_cons, sc_cons1, asB_bool, ifB_true, ifB_false, un_not, bin_lss, bin_leq, bin_gtr, bin_geq, bin_eql, bin_neq, bin_add, bin_sub, bin_mul, ok_int, ok_bool, ok_slice, ok_str, ok_ptr, ok_map, ok_func, ok_iface, ok_nil, List.all_cons, List.all_nil, Bool.and_true, Bool.true_and, seg, setSeg, List.drop_succ_cons, List.drop_zero, List.take_succ_cons, List.take_zero, List.cons_append, List.nil_append, List.append_nil, List.length_cons, List.length_nil, List.drop_nil, List.size_toArray, Nat.reduceAdd, Nat.reduceLeDiff, Nat.reduceBEq, Nat.zero_add, Nat.le_refl, decide_true, mkV, List.headD_cons, cellsV, w_fldV, w_ext, w_fldP, List.getElem?_toArray, List.getElem?_cons_zero, List.getElem?_cons_succ, beq_self_eq_true, selV]
    refine w_quo (by omega) ?_
    have hs' := pAt_small hc hp (i + 1)
    have e3 : (pAt c.fan i p).tdiv c.fan = pAt c.fan (i + 1) p := rfl
    rw [e3, wrap_i64 (x := pAt c.fan (i + 1) p) (by unfold i64; omega)]
    try simp only [sv_cons, sv_cons1, sc_cons, sc_cons1, asB_bool, ifB_true, ifB_false, un_not, bin_lss, bin_leq, bin_gtr, bin_geq, bin_eql, bin_neq, bin_add, bin_sub, bin_mul, ok_int, ok_bool, ok_slice, ok_str, ok_ptr, ok_map, ok_func, ok_iface, ok_nil, List.all_cons, List.all_nil, Bool.and_true, Bool.true_and, seg, setSeg, List.drop_succ_cons, List.drop_zero, List.take_succ_cons, List.take_zero, List.cons_append, List.nil_append, List.append_nil, List.length_cons, List.length_nil, List.drop_nil, List.size_toArray, Nat.reduceAdd, Nat.reduceLeDiff, Nat.reduceBEq, Nat.zero_add, Nat.le_refl, decide_true, mkV, List.headD_cons, cellsV, w_fldV, w_ext, w_fldP, List.getElem?_toArray, List.getElem?_cons_zero, List.getElem?_cons_succ, beq_self_eq_true, selV]
    rw [wrap_i64 (by unfold i64; omega)]
    exact hK _ _ hlt ⟨g5, b1', b2', v', w', ht5, by simp⟩
  · have : i = c.all.length := by omega
    subst this
    exact hQ v w H3 (ht.o1.sl (fun y hy _ => hy.1) fun k hk => by have := ht.f1; omega) (ht.o2.sl (fun y hy _ => hy.1) fun k hk => by have := ht.f2; omega) g3

theorem c_conf_Road {c : Cfg} {p : Int} (hQ : ∀ v w H', Sl (rI .i64) H' (fun y => H.size ≤ y) v (if roadE c p = 0 then blocks c p else []) → Sl (rI .i64) H' (fun y => H.size ≤ y) w (if roadE c p = 0 then places c p else []) → G H H' →
    Q (tup3 v w (.int .i64 (roadE c p))) H') : callV Try.prog (fnV fn_conf_Road) [.agg (cCfg c).toArray, .int .i64 p] H Q := by
  apply S_conf_Road_of
  unfold S_conf_Road
  refine newT_of fun H1 g1 _ => c_conf_Levels fun l H2 hl g2 => ?_
  have g := g1.trans g2
  have bad : ∀ e, roadE c p = e → e ≠ 0 → Q (tup3 (.slice none 0 0) (.slice none 0 0) (.int .i64 e)) H2 := fun e he hne => by
    have := hQ (.slice none 0 0) (.slice none 0 0) H2 (by rw [if_neg (by omega)]; exact Sl.nil _ _ _ _ _) (by rw [if_neg (by omega)]; exact Sl.nil _ _ _ _ _) g
    rw [he] at this; exact this
  try simp only [sv_cons, sv_cons1, sc_cons, sc_cons1, asB_bool, ifB_true, ifB_false, un_not, bin_lss, bin_leq, bin_gtr, bin_geq, bin_eql, bin_neq, bin_add, bin_sub, bin_mul, ok_int, ok_bool, ok_slice, ok_str, ok_ptr, ok_map, ok_func, ok_iface, ok_nil, List.all_cons, List.all_nil, Bool.and_true, Bool.true_and, seg, setSeg, List.drop_succ_cons, List.drop_zero, List.take_succ_cons, List.take_zero, List.cons_append, List.nil_append, List.append_nil, List.length_cons, List.length_nil, List.drop_nil, List.size_toArray, Nat.reduceAdd, Nat.reduceLeDiff, Nat.reduceBEq, Nat.zero_add, Nat.le_refl, decide_true, mkV, List.headD_cons, cellsV, w_fldV, w_ext, w_fldP, List.getElem?_toArray, List.getElem?_cons_zero, List.getElem?_cons_succ, beq_self_eq_true, selV]
  by_cases hm : c.may
  · have hc := hm.1
    have hfan := hc.2.2.1
    have hlen := hm.2
    have e0 : c.err = 0 := by unfold Cfg.err; rw [if_pos hm]
    have el : c.levels = c.all := by unfold Cfg.levels; rw [if_pos hm]
    rw [e0]
    rw [el] at hl
    try simp only [sv_cons, sv_cons1, sc_cons, sc_cons1, asB_bool, ifB_true, ifB_false, un_not, bin_lss, bin_leq, bin_gtr, bin_geq, bin_eql, bin_neq, bin_add, bin_sub, bin_mul, ok_int, ok_bool, ok_slice, ok_str, ok_ptr, ok_map, ok_func, ok_iface, ok_nil, List.all_cons, List.all_nil, Bool.and_true, Bool.true_and, seg, setSeg, List.drop_succ_cons, List.drop_zero, List.take_succ_cons, List.take_zero, List.cons_append, List.nil_append, List.append_nil, List.length_cons, List.length_nil, List.drop_nil, List.size_toArray, Nat.reduceAdd, Nat.reduceLeDiff, Nat.reduceBEq, Nat.zero_add, Nat.le_refl, decide_true, mkV, List.headD_cons, cellsV, w_fldV, w_ext, w_fldP, List.getElem?_toArray, List.getElem?_cons_zero, List.getElem?_cons_succ, beq_self_eq_true, selV]
    refine join_of (fun s H' => H' = H2 ∧ s = [[.bool (decide (p < 0 ∨ p ≥ c.pages))]]) (fun K hK => ?_) ?_
    · refine ifD_of (fun h => hK _ _ ⟨rfl, jb_t (.inl h)⟩) (fun h => ?_)
      exact hK _ _ ⟨rfl, jb_d (by omega)⟩
    rintro s H3 ⟨rfl, rfl⟩
    try simp only [sv_cons, sv_cons1, sc_cons, sc_cons1, asB_bool, ifB_true, ifB_false, un_not, bin_lss, bin_leq, bin_gtr, bin_geq, bin_eql, bin_neq, bin_add, bin_sub, bin_mul, ok_int, ok_bool, ok_slice, ok_str, ok_ptr, ok_map, ok_func, ok_iface, ok_nil, List.all_cons, List.all_nil, Bool.and_true, Bool.true_and, seg, setSeg, List.drop_succ_cons, List.drop_zero, List.take_succ_cons, List.take_zero, List.cons_append, List.nil_append, List.append_nil, List.length_cons, List.length_nil, List.drop_nil, List.size_toArray, Nat.reduceAdd, Nat.reduceLeDiff, Nat.reduceBEq, Nat.zero_add, Nat.le_refl, decide_true, mkV, List.headD_cons, cellsV, w_fldV, w_ext, w_fldP, List.getElem?_toArray, List.getElem?_cons_zero, List.getElem?_cons_succ, beq_self_eq_true, selV]
    refine ifD_of (fun h => bad 261 (by unfold roadE; rw [if_pos hm, if_pos h]) (by omega)) (fun h => ?_)
    have e1 : roadE c p = 0 := by unfold roadE; rw [if_pos hm, if_neg h]
    rw [e1, if_pos rfl, if_pos rfl] at hQ
    have hpg := hc.1
    have hp : 0 ≤ p ∧ p ≤ 64 := by omega
    refine hl.len ?_
    let bl : Nat → List Int := fun i => (List.range i).map fun i => pAt c.fan i p
    let pl : Nat → List Int := fun i => (List.range i).map fun i => (pAt c.fan i p).tmod c.fan
    refine loop_up c.all.length (fun i s H' => G H H' ∧ ∃ b1 b2 v w, Two H.size (rI .i64) (rI .i64) H' b1 b2 v w (bl i) (pl i) ∧ s = [[.int .i64 (pAt c.fan i p)], [v], [w], [.int .i64 (i : Int)]])
      ⟨g, 0, 0, _, _, Two.nil _ _ _ _, rfl⟩ ?_
    rintro i s H4 K hi ⟨g3, b1, b2, v, w, ht, rfl⟩ hK
    have lb : (bl i).length = i := by simp [bl]
    have lp : (pl i).length = i := by simp [pl]
    have hsz := g3.size
    try simp only [sv_cons, sv_cons1, sc_cons, sc_cons1, asB_bool, ifB_true, ifB_false, un_not, bin_lss, bin_leq, bin_gtr, bin_geq, bin_eql, bin_neq, bin_add, bin_sub, bin_mul, ok_int, ok_bool, ok_slice, ok_str, ok_ptr, ok_map, ok_func, ok_iface, ok_nil, List.all_cons, List.all_nil, Bool.and_true, Bool.true_and, seg, setSeg, List.drop_succ_cons, List.drop_zero, List.take_succ_cons, List.take_zero, List.cons_append, List.nil_append, List.append_nil, List.length_cons, List.length_nil, List.drop_nil, List.size_toArray, Nat.reduceAdd, Nat.reduceLeDiff, Nat.reduceBEq, Nat.zero_add, Nat.le_refl, decide_true, mkV, List.headD_cons, cellsV, w_fldV, w_ext, w_fldP, List.getElem?_toArray, List.getElem?_cons_zero, List.getElem?_cons_succ, beq_self_eq_true, selV]
    refine ifD_of (fun h1 => ?_) (fun h1 => ?_)
    · have hlt : i < c.all.length := by omega
      have hs := pAt_small hc hp i
      have hr := tmod_small hs hfan.1
      have eb : bl i ++ [pAt c.fan i p] = bl (i + 1) := by simp [bl, List.range_succ]
      have ep : pl i ++ [(pAt c.fan i p).tmod c.fan] = pl (i + 1) := by simp [pl, List.range_succ]
      have l1 := ht.o1.lt
      have l2 := ht.o2.lt
      have f1 := ht.f1
      have f2 := ht.f2
      have w1 : ∀ x ∈ [pAt c.fan i p], IntKind.i64.wrap x = x := fun x hx => by rw [List.mem_singleton] at hx; rw [hx]; exact wrap_i64 (by unfold i64; omega)
      have w2 : ∀ x ∈ [(pAt c.fan i p).tmod c.fan], IntKind.i64.wrap x = x := fun x hx => by rw [List.mem_singleton] at hx; rw [hx]; exact wrap_i64 (by unfold i64; omega)
      refine join_of (fun s H' => G H H' ∧ ∃ b1 b2 v w, Two H.size (rI .i64) (rI .i64) H' b1 b2 v w (bl (i + 1)) (pl (i + 1)) ∧ s = [[v], [w]]) (fun K' hK' => ?_) ?_
      · refine w_rem (by omega) ?_
        constructor
        · refine bld_I (q := .i64) _ w1 rfl fun t32 H5 h32 g5 s5 => ?_
          constructor
          · have g35 := g3.trans g5
            have hs5 := g35.size
            refine (ht.g g5).app h32.src rfl (by omega) rfl (fun y hy _ => hy.elim) hs5 (by rw [lb]; simp; omega) (by rw [lb]; simp; omega) fun v' H6 b1' ht6 f6 => ?_
            have g6 : G H H6 := g35.then f6 fun y hy => by omega
            refine bld_I (q := .i64) _ w2 rfl fun t39 H7 h39 g7 s7 => ?_
            have g67 := g6.trans g7
            have hs7 := g67.size
            refine (ht6.g g7).swap.app h39.src rfl (by omega) rfl (fun y hy _ => hy.elim) hs7 (by rw [lp]; simp; omega) (by rw [lp]; simp; omega) fun w' H8 b2' ht8 f8 => ?_
            rw [eb, ep] at *
            exact hK' _ _ ⟨g67.then f8 fun y hy => by omega, _, _, _, _, ht8.swap, rfl⟩
          · refine bld_I (q := .i64) _ w2 rfl fun t39 H6 h39 g6 s6 => ?_
            have g36 := g3.trans (g5.trans g6)
            have hs6 := g36.size
            refine (ht.g (g5.trans g6)).app (h32.g g6).src rfl (by omega) rfl (fun y hy _ => hy.elim) hs6 (by rw [lb]; simp; omega) (by rw [lb]; simp; omega) fun v' H7 b1' ht7 f7 => ?_
            have g7 : G H H7 := g36.then f7 fun y hy => by omega
            have hs7 := g7.size
            refine ht7.swap.app (h39.upF f7 fun k hk => by omega).src rfl (by omega) rfl (fun y hy _ => hy.elim) hs7 (by rw [lp]; simp; omega) (by rw [lp]; simp; omega) fun w' H8 b2' ht8 f8 => ?_
            rw [eb, ep] at *
            exact hK' _ _ ⟨g7.then f8 fun y hy => by omega, _, _, _, _, ht8.swap, rfl⟩
        · refine bld_I (q := .i64) _ w2 rfl fun t39 H5 h39 g5 s5 => bld_I (q := .i64) _ w1 rfl fun t32 H6 h32 g6 s6 => ?_
          have g36 := g3.trans (g5.trans g6)
          have hs6 := g36.size
          refine (ht.g (g5.trans g6)).app h32.src rfl (by omega) rfl (fun y hy _ => hy.elim) hs6 (by rw [lb]; simp; omega) (by rw [lb]; simp; omega) fun v' H7 b1' ht7 f7 => ?_
          have g7 : G H H7 := g36.then f7 fun y hy => by omega
          have hs7 := g7.size
          refine ht7.swap.app ((h39.g g6).upF f7 fun k hk => by omega).src rfl (by omega) rfl (fun y hy _ => hy.elim) hs7 (by rw [lp]; simp; omega) (by rw [lp]; simp; omega) fun w' H8 b2' ht8 f8 => ?_
          rw [eb, ep] at *
          exact hK' _ _ ⟨g7.then f8 fun y hy => by omega, _, _, _, _, ht8.swap, rfl⟩
      rintro s H5 ⟨g5, b1', b2', v', w', ht5, rfl⟩
      try simp only [sv_cons, sv_cons1, sc_cons, sc_cons1, asB_bool, ifB_true, ifB_false, un_not, bin_lss, bin_leq, bin_gtr, bin_geq, bin_eql, bin_neq, bin_add, bin_sub, bin_mul, ok_int, ok_bool, ok_slice, ok_str, ok_ptr, ok_map, ok_func, ok_iface, ok_nil, List.all_cons, List.all_nil, Bool.and_true, Bool.true_and, seg, setSeg, List.drop_succ_cons, List.drop_zero, List.take_succ_cons, List.take_zero, List.cons_append, List.nil_append, List.append_nil, List.length_cons, List.length_nil, List.drop_nil, List.size_toArray, Nat.reduceAdd, Nat.reduceLeDiff, Nat.reduceBEq, Nat.zero_add, Nat.le_refl, decide_true, mkV, List.headD_cons, cellsV, w_fldV, w_ext, w_fldP, List.getElem?_toArray, List.getElem?_cons_zero, List.getElem?_cons_succ, beq_self_eq_true, selV]
      refine w_quo (by omega) ?_
      have hs' := pAt_small hc hp (i + 1)
      have e3 : (pAt c.fan i p).tdiv c.fan = pAt c.fan (i + 1) p := rfl
      rw [e3, wrap_i64 (x := pAt c.fan (i + 1) p) (by unfold i64; omega)]
      try simp only [sv_cons, sv_cons1, sc_cons, sc_cons1, asB_bool, ifB_true, ifB_false, un_not, bin_lss, bin_leq, bin_gtr, bin_geq, bin_eql, bin_neq, bin_add, bin_sub, bin_mul, ok_int, ok_bool, ok_slice, ok_str, ok_ptr, ok_map, ok_func, ok_iface, ok_nil, List.all_cons, List.all_nil, Bool.and_true, Bool.true_and, seg, setSeg, List.drop_succ_cons, List.drop_zero, List.take_succ_cons, List.take_zero, List.cons_append, List.nil_append, List.append_nil, List.length_cons, List.length_nil, List.drop_nil, List.size_toArray, Nat.reduceAdd, Nat.reduceLeDiff, Nat.reduceBEq, Nat.zero_add, Nat.le_refl, decide_true, mkV, List.headD_cons, cellsV, w_fldV, w_ext, w_fldP, List.getElem?_toArray, List.getElem?_cons_zero, List.getElem?_cons_succ, beq_self_eq_true, selV]
      rw [wrap_i64 (by unfold i64; omega)]
      exact hK _ _ hlt ⟨g5, b1', b2', v', w', ht5, by simp⟩
    · have hi' : i = c.all.length := by omega
      subst hi'
      have hpos : 0 < c.all.length := by
        unfold Cfg.all
        rw [Cfg.allF_step hc hpg.1 hpg.2]; simp
      refine hl.len (hl.len ?_)
      try simp only [sv_cons, sv_cons1, sc_cons, sc_cons1, asB_bool, ifB_true, ifB_false, un_not, bin_lss, bin_leq, bin_gtr, bin_geq, bin_eql, bin_neq, bin_add, bin_sub, bin_mul, ok_int, ok_bool, ok_slice, ok_str, ok_ptr, ok_map, ok_func, ok_iface, ok_nil, List.all_cons, List.all_nil, Bool.and_true, Bool.true_and, seg, setSeg, List.drop_succ_cons, List.drop_zero, List.take_succ_cons, List.take_zero, List.cons_append, List.nil_append, List.append_nil, List.length_cons, List.length_nil, List.drop_nil, List.size_toArray, Nat.reduceAdd, Nat.reduceLeDiff, Nat.reduceBEq, Nat.zero_add, Nat.le_refl, decide_true, mkV, List.headD_cons, cellsV, w_fldV, w_ext, w_fldP, List.getElem?_toArray, List.getElem?_cons_zero, List.getElem?_cons_succ, beq_self_eq_true, selV]
      rw [wrap_i64 (x := (c.all.length : Int) - 1) (by unfold i64; omega), show (c.all.length : Int) - 1 = ((c.all.length - 1 : Nat) : Int) by omega]
      have hs := pAt_small hc hp (c.all.length - 1)
      have hgl : (bl c.all.length)[c.all.length - 1]? = some (pAt c.fan (c.all.length - 1) p) := by
        simp only [bl, List.getElem?_map, List.getElem?_range (show c.all.length - 1 < c.all.length by omega), Option.map_some]
      refine (ht.o1.sl (A' := fun _ => True) (fun _ _ _ => trivial) fun _ _ => trivial).getI hgl fun _ => ?_
      refine ht.o2.put (x := pAt c.fan (c.all.length - 1) p) (vrepI hs |>.mono fun y hy _ => hy.elim) rfl (fun _ => rfl) (by rw [lp]; omega) (fun y hy _ => hy.2.2) fun H5 ho2 f5 s5 => ?_
      have epl : (pl c.all.length).set (c.all.length - 1) (pAt c.fan (c.all.length - 1) p) = places c p := by
        apply List.ext_getElem?
        intro j
        unfold places
        rw [List.getElem?_set]
        simp only [pl, List.getElem?_map, List.length_map, List.length_range]
        by_cases hj : c.all.length - 1 = j
        · subst hj
          rw [if_pos rfl, if_pos (show c.all.length - 1 < c.all.length by omega)]
          rw [List.getElem?_range (by omega)]
          simp only [Option.map_some]
          rw [if_pos (show c.all.length - 1 + 1 = c.all.length by omega)]
        · rw [if_neg hj]
          by_cases hj2 : j < c.all.length
          · rw [List.getElem?_range hj2]
            simp only [Option.map_some]
            rw [if_neg (by omega)]
          · rw [List.getElem?_eq_none (by simpa using Nat.le_of_not_lt hj2)]; rfl
      rw [epl] at ho2
      have ho1 := ht.o1.up f5 fun y hy hlt => by
        rcases hy with hy | hy
        · exact hy.2.2
        · have := ht.ne; have := ht.f1; intro e; have := this; omega
      exact hQ v w H5 (ho1.sl (fun y hy _ => hy.1) fun k hk => by have := ht.f1; omega) (ho2.sl (fun y hy _ => hy.1) fun k hk => by have := ht.f2; omega) (g3.then f5 fun y hy => by have := ht.f2; omega)
  · have e0 : c.err = 8 := by unfold Cfg.err; rw [if_neg hm]
    rw [e0]
    try simp only [sv_cons, sv_cons1, sc_cons, sc_cons1, asB_bool, ifB_true, ifB_false, un_not, bin_lss, bin_leq, bin_gtr, bin_geq, bin_eql, bin_neq, bin_add, bin_sub, bin_mul, ok_int, ok_bool, ok_slice, ok_str, ok_ptr, ok_map, ok_func, ok_iface, ok_nil, List.all_cons, List.all_nil, Bool.and_true, Bool.true_and, seg, setSeg, List.drop_succ_cons, List.drop_zero, List.take_succ_cons, List.take_zero, List.cons_append, List.nil_append, List.append_nil, List.length_cons, List.length_nil, List.drop_nil, List.size_toArray, Nat.reduceAdd, Nat.reduceLeDiff, Nat.reduceBEq, Nat.zero_add, Nat.le_refl, decide_true, mkV, List.headD_cons, cellsV, w_fldV, w_ext, w_fldP, List.getElem?_toArray, List.getElem?_cons_zero, List.getElem?_cons_succ, beq_self_eq_true, selV]
    exact bad 8 (by unfold roadE; rw [if_neg hm]) (by omega)

end Go.Proofs.Ytikebhnnmnlgaaa
